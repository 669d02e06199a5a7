/-
  Boards: the tests whether they are over, and the laws' own copies, comparison and size of a board; sizes up to 2^20.
-/
import Derived.Test.YtmcjabodkjlkgaaRes
import Derived.Test.YtmcjabodkjlkgaaHeld
import Derived.Test.YtmcjabodkjlkgaaTailB

namespace Go.Proofs.Ytmcjabodkjlkgaa
open Go.RowKit

theorem boardB_true {p c h s : Int} {zs ys : List Int} (hb : boardB p c h s zs ys = true) : varB p c h s = true ∧ (∀ i, 0 ≤ zs.getD i 0 ∧ zs.getD i 0 ≤ 15) ∧ (∀ i, 0 ≤ ys.getD i 0 ∧ ys.getD i 0 ≤ 15) := by
  simp only [boardB, Bool.and_eq_true] at hb
  obtain ⟨⟨⟨⟨h1, h2⟩, h3⟩, _⟩, _⟩ := hb
  have hv := varB_true h1
  have t1 := (sideB_true (by omega) h2).2.2
  have t2 := (sideB_true (by omega) h3).2.2
  exact ⟨h1, fun i => by have := t1 i; omega, fun i => by have := t2 i; omega⟩

theorem implOver_any (v1 v2 : Value) (zs ys : List Int) (w : World) (I1 : IntsAt w v1 zs) (I2 : IntsAt w v2 ys) (hz : ∀ i, 0 ≤ zs.getD i 0 ∧ zs.getD i 0 ≤ 15) (hy : ∀ i, 0 ≤ ys.getD i 0 ∧ ys.getD i 0 ≤ 15) :
    Calls Try.prog 62 #[.agg #[v1, v2]] w fun e w' => e = .returned (.bool (overB zs ys)) ∧ Below w.heap.size w w' := by
  have HZ := hid hz
  have HY := hid hy
  clear hz hy
  by_cases s0 : sumN zs zs.length = 0
  all_goals
    go_enter Try.func62, Try.ntmps62
    go_wp2_with (first | (go_at_call 109; (with_reducible refine (totalS_any v1 zs _ (by (repeat (first | (with_reducible exact IntsAt.made _ _ (by omega) _) | (with_reducible assumption) | (with_reducible refine IntsAt.alloc ?_ _) | (with_reducible refine IntsAt.drew ?_) | (with_reducible refine IntsAt.drewN ?_ _) | (with_reducible refine IntsAt.mono ?_ (by with_reducible assumption))))) HZ.out).mono ?_); rintro e w' ⟨rfl, rfl⟩) | (go_at_call 109; (with_reducible refine (totalS_any v2 ys _ (by (repeat (first | (with_reducible exact IntsAt.made _ _ (by omega) _) | (with_reducible assumption) | (with_reducible refine IntsAt.alloc ?_ _) | (with_reducible refine IntsAt.drew ?_) | (with_reducible refine IntsAt.drewN ?_ _) | (with_reducible refine IntsAt.mono ?_ (by with_reducible assumption))))) HY.out).mono ?_); rintro e w' ⟨rfl, rfl⟩))
    all_goals
      go_ret
      exact ⟨ret_bool (by first | (simp [overB, s0]; done) | (rw [Bool.eq_iff_iff]; simp [overB])), by (repeat' (first | (with_reducible exact Below.refl _ _) | (with_reducible assumption) | (with_reducible refine xAlloc ?_ _) | (with_reducible refine Below.drew ?_) | (with_reducible refine xDrewN ?_ _) | (with_reducible refine xThen ?_ (by with_reducible assumption)) | (with_reducible refine Below.setCell ?_ (by first | omega | (simp; omega) | simp) _) | exact Below.refl _ _))⟩
theorem specOver_any (v1 v2 : Value) (zs ys : List Int) (w : World) (I1 : IntsAt w v1 zs) (I2 : IntsAt w v2 ys) (hz : ∀ i, 0 ≤ zs.getD i 0 ∧ zs.getD i 0 ≤ 15) (hy : ∀ i, 0 ≤ ys.getD i 0 ∧ ys.getD i 0 ≤ 15) :
    Calls Try.prog 110 #[.agg #[v1, v2]] w fun e w' => e = .returned (.bool (overB zs ys)) ∧ Below w.heap.size w w' := by
  have HZ := hid hz
  have HY := hid hy
  clear hz hy
  by_cases s0 : sumN zs zs.length = 0
  all_goals
    go_enter Try.func110, Try.ntmps110
    go_wp2_with (first | (go_at_call 70; (with_reducible refine (l02Sum_any v1 zs _ (by (repeat (first | (with_reducible exact IntsAt.made _ _ (by omega) _) | (with_reducible assumption) | (with_reducible refine IntsAt.alloc ?_ _) | (with_reducible refine IntsAt.drew ?_) | (with_reducible refine IntsAt.drewN ?_ _) | (with_reducible refine IntsAt.mono ?_ (by with_reducible assumption))))) HZ.out).mono ?_); rintro e w' ⟨rfl, rfl⟩) | (go_at_call 70; (with_reducible refine (l02Sum_any v2 ys _ (by (repeat (first | (with_reducible exact IntsAt.made _ _ (by omega) _) | (with_reducible assumption) | (with_reducible refine IntsAt.alloc ?_ _) | (with_reducible refine IntsAt.drew ?_) | (with_reducible refine IntsAt.drewN ?_ _) | (with_reducible refine IntsAt.mono ?_ (by with_reducible assumption))))) HY.out).mono ?_); rintro e w' ⟨rfl, rfl⟩))
    all_goals
      go_ret
      exact ⟨ret_bool (by first | (simp [overB, s0]; done) | (rw [Bool.eq_iff_iff]; simp [overB])), by (repeat' (first | (with_reducible exact Below.refl _ _) | (with_reducible assumption) | (with_reducible refine xAlloc ?_ _) | (with_reducible refine Below.drew ?_) | (with_reducible refine xDrewN ?_ _) | (with_reducible refine xThen ?_ (by with_reducible assumption)) | (with_reducible refine Below.setCell ?_ (by first | omega | (simp; omega) | simp) _) | exact Below.refl _ _))⟩

theorem szInts_any (a : Option Addr) (n cap : Nat) (left : Int) (h0 : 0 ≤ left) (h1 : left ≤ 1048576) (hn : (n : Int) ≤ 9223372036854775807) (w : World) :
    Calls Try.prog 57 #[.slice a n cap, .int .i64 left] w fun e w' => e = .returned (.int .i64 (if left - n < 0 then -1 else left - n)) ∧ w = w' := by
  by_cases hl : left - n < 0
  all_goals
    go_enter Try.func57, Try.ntmps57
    go_wp2
    go_ret
    exact ⟨ret_int (by first | rfl | (split <;> omega)), rfl⟩

theorem toBoard_any (v1 v2 : Value) (zs ys : List Int) (w : World) (I1 : IntsAt w v1 zs) (I2 : IntsAt w v2 ys) :
    Calls Try.prog 16 #[.agg #[v1, v2]] w fun e w' => ∃ b1 b2, e = .returned (.agg #[.slice (some ⟨b1, 0, none⟩) zs.length zs.length, .slice (some ⟨b2, 0, none⟩) ys.length ys.length]) ∧ FreshInts w' w.heap.size (.slice (some ⟨b1, 0, none⟩) zs.length zs.length) zs ∧ FreshInts w' w.heap.size (.slice (some ⟨b2, 0, none⟩) ys.length ys.length) ys ∧ Below w.heap.size w w' := by
  go_enter Try.func16, Try.ntmps16
  go_wp2_with fail
  refine (toIntsB_any _ zs _ (I1.mono (by (repeat' (first | (with_reducible exact Below.refl _ _) | (with_reducible assumption) | (with_reducible refine xAlloc ?_ _) | (with_reducible refine Below.drew ?_) | (with_reducible refine xDrewN ?_ _) | (with_reducible refine xThen ?_ (by with_reducible assumption)) | (with_reducible refine Below.setCell ?_ (by first | omega | (simp; omega) | simp) _) | exact Below.refl _ _))))).mono ?_
  rintro e wa ⟨rfl, hFa, hba, -⟩
  obtain ⟨hca, hfa⟩ := bcell hba
  have hsa := hba.size
  simp at hsa
  have ya0 : w.heap.size < wa.heap.size := by omega
  have ya1 : w.heap.size + 1 < wa.heap.size := by omega
  have ya2 : w.heap.size + 2 < wa.heap.size := by omega
  go_wp2_with fail
  refine (toIntsB_any _ ys _ (I2.mono (by (repeat' (first | (with_reducible exact Below.refl _ _) | (with_reducible assumption) | (with_reducible refine xAlloc ?_ _) | (with_reducible refine Below.drew ?_) | (with_reducible refine xDrewN ?_ _) | (with_reducible refine xThen ?_ (by with_reducible assumption)) | (with_reducible refine Below.setCell ?_ (by first | omega | (simp; omega) | simp) _) | exact Below.refl _ _))))).mono ?_
  rintro e wb ⟨rfl, hFb, hbb, -⟩
  obtain ⟨hcb, hfb⟩ := bcell hbb
  have hsb := hbb.size
  simp at hsb
  have yb0 : w.heap.size < wb.heap.size := by omega
  have yb1 : w.heap.size + 1 < wb.heap.size := by omega
  have yb2 : w.heap.size + 2 < wb.heap.size := by omega
  go_wp2
  have f1 := (((hFa.wrote ((Wrote.refl (w.heap.size + 1 + 1) wa).setCell 0 (.slice (some ⟨w.heap.size + 1 + 1 + 1, 0, none⟩) zs.length zs.length)) (by simp)).mono hbb).wrote ((Wrote.refl (w.heap.size + 1 + 1) wb).setCell 1 (.slice (some ⟨wa.heap.size, 0, none⟩) ys.length ys.length)) (by simp)).wrote
    (((Wrote.refl (w.heap.size + 1) _).setCell 0 (.slice (some ⟨w.heap.size + 1 + 1 + 1, 0, none⟩) zs.length zs.length)).setCell 1 (.slice (some ⟨wa.heap.size, 0, none⟩) ys.length ys.length)) (by simp)
  have f2 := (hFb.wrote ((Wrote.refl (w.heap.size + 1 + 1) wb).setCell 1 (.slice (some ⟨wa.heap.size, 0, none⟩) ys.length ys.length)) (by simp; omega)).wrote
    (((Wrote.refl (w.heap.size + 1) _).setCell 0 (.slice (some ⟨w.heap.size + 1 + 1 + 1, 0, none⟩) zs.length zs.length)).setCell 1 (.slice (some ⟨wa.heap.size, 0, none⟩) ys.length ys.length)) (by simp; omega)
  refine bodyPost_ret (v := .agg #[.slice (some ⟨w.heap.size + 1 + 1 + 1, 0, none⟩) zs.length zs.length, .slice (some ⟨wa.heap.size, 0, none⟩) ys.length ys.length]) (by simp only [results, Try.results16]; go_simp) rfl ?_
  exact ⟨_, _, rfl, by simpa using f1.low (lo' := w.heap.size) (by simp; omega), by simpa using f2.low (lo' := w.heap.size) (by simp; omega), by (repeat' (first | (with_reducible exact Below.refl _ _) | (with_reducible assumption) | (with_reducible refine xAlloc ?_ _) | (with_reducible refine Below.drew ?_) | (with_reducible refine xDrewN ?_ _) | (with_reducible refine xThen ?_ (by with_reducible assumption)) | (with_reducible refine Below.setCell ?_ (by first | omega | (simp; omega) | simp) _) | exact Below.refl _ _))⟩

theorem eqBoard_any (v1 v2 u1 u2 : Value) (zs ys : List Int) (w : World) (I1 : IntsAt w v1 zs) (I2 : IntsAt w v2 ys) (J1 : IntsAt w u1 zs) (J2 : IntsAt w u2 ys) :
    Calls Try.prog 18 #[.agg #[v1, v2], .agg #[u1, u2]] w fun e w' => e = .returned (.bool true) ∧ Below w.heap.size w w' := by
  go_enter Try.func18, Try.ntmps18
  go_wp2_with (first | (go_at_call_of 64 v1; refine (eqB_any v1 u1 zs _ (by (repeat (first | (with_reducible exact IntsAt.made _ _ (by omega) _) | (with_reducible assumption) | (with_reducible refine IntsAt.alloc ?_ _) | (with_reducible refine IntsAt.drew ?_) | (with_reducible refine IntsAt.drewN ?_ _) | (with_reducible refine IntsAt.mono ?_ (by with_reducible assumption))))) (by (repeat (first | (with_reducible exact IntsAt.made _ _ (by omega) _) | (with_reducible assumption) | (with_reducible refine IntsAt.alloc ?_ _) | (with_reducible refine IntsAt.drew ?_) | (with_reducible refine IntsAt.drewN ?_ _) | (with_reducible refine IntsAt.mono ?_ (by with_reducible assumption)))))).mono ?_; rintro e w1 ⟨rfl, hb, -⟩; obtain ⟨hc, hf⟩ := bcell hb; have hsz := hb.size; (try simp at hsz); (try have hy0 : w.heap.size < w1.heap.size := by omega); (try have hy1 : w.heap.size + 1 < w1.heap.size := by omega); (try have hy2 : w.heap.size + 2 < w1.heap.size := by omega); (try have hyS : ws.heap.size < w1.heap.size := by omega); (try have hyG : wg.heap.size < w1.heap.size := by omega)) | (go_at_call_of 64 v2; refine (eqB_any v2 u2 ys _ (by (repeat (first | (with_reducible exact IntsAt.made _ _ (by omega) _) | (with_reducible assumption) | (with_reducible refine IntsAt.alloc ?_ _) | (with_reducible refine IntsAt.drew ?_) | (with_reducible refine IntsAt.drewN ?_ _) | (with_reducible refine IntsAt.mono ?_ (by with_reducible assumption))))) (by (repeat (first | (with_reducible exact IntsAt.made _ _ (by omega) _) | (with_reducible assumption) | (with_reducible refine IntsAt.alloc ?_ _) | (with_reducible refine IntsAt.drew ?_) | (with_reducible refine IntsAt.drewN ?_ _) | (with_reducible refine IntsAt.mono ?_ (by with_reducible assumption)))))).mono ?_; rintro e w1 ⟨rfl, hb, -⟩; obtain ⟨hc, hf⟩ := bcell hb; have hsz := hb.size; (try simp at hsz); (try have hy0 : w.heap.size < w1.heap.size := by omega); (try have hy1 : w.heap.size + 1 < w1.heap.size := by omega); (try have hy2 : w.heap.size + 2 < w1.heap.size := by omega); (try have hyS : ws.heap.size < w1.heap.size := by omega); (try have hyG : wg.heap.size < w1.heap.size := by omega)))
  go_ret
  exact ⟨rfl, by (repeat' (first | (with_reducible exact Below.refl _ _) | (with_reducible assumption) | (with_reducible refine xAlloc ?_ _) | (with_reducible refine Below.drew ?_) | (with_reducible refine xDrewN ?_ _) | (with_reducible refine xThen ?_ (by with_reducible assumption)) | (with_reducible refine Below.setCell ?_ (by first | omega | (simp; omega) | simp) _) | exact Below.refl _ _))⟩

theorem szBoard_any (a1 a2 : Option Addr) (n1 c1 n2 c2 : Nat) (left : Int) (h0 : 0 ≤ left) (h1 : left ≤ 1048576) (hn1 : (n1 : Int) ≤ 9223372036854775807) (hn2 : (n2 : Int) ≤ 9223372036854775807) (w : World) :
    Calls Try.prog 13 #[.agg #[.slice a1 n1 c1, .slice a2 n2 c2], .int .i64 left] w fun e w' => e = .returned (.int .i64 (if left - n1 - n2 < 0 then -1 else left - n1 - n2)) ∧ Below w.heap.size w w' := by
  by_cases hl : left - n1 < 0
  · go_enter Try.func13, Try.ntmps13
    go_wp2_with fail
    refine (szInts_any a1 n1 c1 left h0 h1 hn1 _).mono ?_
    rw [if_pos hl]
    rintro e _ ⟨rfl, rfl⟩
    go_wp2
    go_ret
    exact ⟨ret_int (by first | rfl | (rw [if_pos (by omega)])), by (repeat' (first | (with_reducible exact Below.refl _ _) | (with_reducible assumption) | (with_reducible refine xAlloc ?_ _) | (with_reducible refine Below.drew ?_) | (with_reducible refine xDrewN ?_ _) | (with_reducible refine xThen ?_ (by with_reducible assumption)) | (with_reducible refine Below.setCell ?_ (by first | omega | (simp; omega) | simp) _) | exact Below.refl _ _))⟩
  · by_cases hl2 : left - n1 - n2 < 0
    all_goals
      go_enter Try.func13, Try.ntmps13
      go_wp2_with fail
      refine (szInts_any a1 n1 c1 left h0 h1 hn1 _).mono ?_
      rw [if_neg (show ¬ left - (n1 : Int) < 0 by omega)]
      rintro e _ ⟨rfl, rfl⟩
      go_wp2_with fail
      refine (szInts_any a2 n2 c2 (left - n1) (by omega) (by omega) hn2 _).mono ?_
      first | rw [if_pos (show left - (n1 : Int) - n2 < 0 by omega)] | rw [if_neg (show ¬ left - (n1 : Int) - n2 < 0 by omega)]
      rintro e _ ⟨rfl, rfl⟩
      go_wp2
      go_ret
      exact ⟨ret_int (by first | rfl | rw [if_pos (by omega)] | rw [if_neg (by omega)]), by (repeat' (first | (with_reducible exact Below.refl _ _) | (with_reducible assumption) | (with_reducible refine xAlloc ?_ _) | (with_reducible refine Below.drew ?_) | (with_reducible refine xDrewN ?_ _) | (with_reducible refine xThen ?_ (by with_reducible assumption)) | (with_reducible refine Below.setCell ?_ (by first | omega | (simp; omega) | simp) _) | exact Below.refl _ _))⟩

theorem isRow_len {w : World} {a : Option Addr} {len cap : Nat} {z : List Int} (h : IsRow .i64 w a len cap z) : (len : Int) ≤ 9223372036854775807 := by
  rcases h with ⟨rfl, rfl, rfl, rfl⟩ | ⟨x, rfl, hlc, hm, _⟩
  · simp
  · unfold maxLen at hm; omega
end Go.Proofs.Ytmcjabodkjlkgaa
