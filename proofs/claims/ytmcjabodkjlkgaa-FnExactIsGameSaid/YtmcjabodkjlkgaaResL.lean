/-
  Contracts of both ResultOf functions and the law over them: it returns true for every variant and board; no condition.
-/
import Derived.Test.YtmcjabodkjlkgaaRes
import Derived.Test.YtmcjabodkjlkgaaHeld
import Derived.Test.YtmcjabodkjlkgaaTailB
import Derived.Test.YtmcjabodkjlkgaaBoardS

namespace Go.Proofs.Ytmcjabodkjlkgaa
open Go.RowKit

theorem boardB_true {p c h s : Int} {zs ys : List Int} (hb : boardB p c h s zs ys = true) : varB p c h s = true ∧ (∀ i, 0 ≤ zs.getD i 0 ∧ zs.getD i 0 ≤ 15) ∧ (∀ i, 0 ≤ ys.getD i 0 ∧ ys.getD i 0 ≤ 15) := by
  simp only [boardB, Bool.and_eq_true] at hb
  obtain ⟨⟨⟨⟨h1, h2⟩, h3⟩, _⟩, _⟩ := hb
  have hv := varB_true h1
  have t1 := (sideB_true (by omega) h2).2.2
  have t2 := (sideB_true (by omega) h3).2.2
  exact ⟨h1, fun i => by have := t1 i; omega, fun i => by have := t2 i; omega⟩

theorem implOver_any (v1 v2 : Value) (zs ys : List Int) (w : World) (I1 : IntsAt w v1 zs) (I2 : IntsAt w v2 ys) (hz : ∀ i, 0 ≤ zs.getD i 0 ∧ zs.getD i 0 ≤ 15) (hy : ∀ i, 0 ≤ ys.getD i 0 ∧ ys.getD i 0 ≤ 15) :
    Calls Try.prog 62 #[.agg #[v1, v2]] w fun e w' => e = .returned (.bool (overB zs ys)) ∧ Below w.heap.size w w' := by
  have HZ := hid hz
  have HY := hid hy
  clear hz hy
  by_cases s0 : sumN zs zs.length = 0
  all_goals
    go_enter Try.func62, Try.ntmps62
    go_wp2_with (first | (go_at_call 109; (with_reducible refine (totalS_any v1 zs _ (by (repeat (first | (with_reducible exact IntsAt.made _ _ (by omega) _) | (with_reducible assumption) | (with_reducible refine IntsAt.alloc ?_ _) | (with_reducible refine IntsAt.drew ?_) | (with_reducible refine IntsAt.drewN ?_ _) | (with_reducible refine IntsAt.mono ?_ (by with_reducible assumption))))) HZ.out).mono ?_); rintro e w' ⟨rfl, rfl⟩) | (go_at_call 109; (with_reducible refine (totalS_any v2 ys _ (by (repeat (first | (with_reducible exact IntsAt.made _ _ (by omega) _) | (with_reducible assumption) | (with_reducible refine IntsAt.alloc ?_ _) | (with_reducible refine IntsAt.drew ?_) | (with_reducible refine IntsAt.drewN ?_ _) | (with_reducible refine IntsAt.mono ?_ (by with_reducible assumption))))) HY.out).mono ?_); rintro e w' ⟨rfl, rfl⟩))
    all_goals
      go_ret
      exact ⟨ret_bool (by first | (simp [overB, s0]; done) | (rw [Bool.eq_iff_iff]; simp [overB])), by (repeat' (first | exact Below.refl _ _ | (with_reducible assumption) | (with_reducible refine xAlloc ?_ _) | (with_reducible refine Below.drew ?_) | (with_reducible refine xDrewN ?_ _) | (with_reducible refine xThen ?_ (by with_reducible assumption)) | (with_reducible refine Below.setCell ?_ (by first | omega | (simp; omega) | simp) _)))⟩
theorem specOver_any (v1 v2 : Value) (zs ys : List Int) (w : World) (I1 : IntsAt w v1 zs) (I2 : IntsAt w v2 ys) (hz : ∀ i, 0 ≤ zs.getD i 0 ∧ zs.getD i 0 ≤ 15) (hy : ∀ i, 0 ≤ ys.getD i 0 ∧ ys.getD i 0 ≤ 15) :
    Calls Try.prog 110 #[.agg #[v1, v2]] w fun e w' => e = .returned (.bool (overB zs ys)) ∧ Below w.heap.size w w' := by
  have HZ := hid hz
  have HY := hid hy
  clear hz hy
  by_cases s0 : sumN zs zs.length = 0
  all_goals
    go_enter Try.func110, Try.ntmps110
    go_wp2_with (first | (go_at_call 70; (with_reducible refine (l02Sum_any v1 zs _ (by (repeat (first | (with_reducible exact IntsAt.made _ _ (by omega) _) | (with_reducible assumption) | (with_reducible refine IntsAt.alloc ?_ _) | (with_reducible refine IntsAt.drew ?_) | (with_reducible refine IntsAt.drewN ?_ _) | (with_reducible refine IntsAt.mono ?_ (by with_reducible assumption))))) HZ.out).mono ?_); rintro e w' ⟨rfl, rfl⟩) | (go_at_call 70; (with_reducible refine (l02Sum_any v2 ys _ (by (repeat (first | (with_reducible exact IntsAt.made _ _ (by omega) _) | (with_reducible assumption) | (with_reducible refine IntsAt.alloc ?_ _) | (with_reducible refine IntsAt.drew ?_) | (with_reducible refine IntsAt.drewN ?_ _) | (with_reducible refine IntsAt.mono ?_ (by with_reducible assumption))))) HY.out).mono ?_); rintro e w' ⟨rfl, rfl⟩))
    all_goals
      go_ret
      exact ⟨ret_bool (by first | (simp [overB, s0]; done) | (rw [Bool.eq_iff_iff]; simp [overB])), by (repeat' (first | exact Below.refl _ _ | (with_reducible assumption) | (with_reducible refine xAlloc ?_ _) | (with_reducible refine Below.drew ?_) | (with_reducible refine xDrewN ?_ _) | (with_reducible refine xThen ?_ (by with_reducible assumption)) | (with_reducible refine Below.setCell ?_ (by first | omega | (simp; omega) | simp) _)))⟩

theorem implResultOf_any (p c h s : Int) (v1 v2 : Value) (zs ys : List Int) (w : World) (I1 : IntsAt w v1 zs) (I2 : IntsAt w v2 ys) :
    Calls Try.prog 17 #[.agg #[.int .i64 p, .int .i64 c, .int .i64 h, .int .i64 s], .agg #[v1, v2]] w fun e w' => e = .returned (.int .i64 (resZ p c h s zs ys)) ∧ Below w.heap.size w w' := by
  cases hb : boardB p c h s zs ys
  · have HB := hid hb
    clear hb
    go_enter Try.func17, Try.ntmps17
    go_wp2_with (go_at_call 61; (with_reducible refine (implBoard_any _ _ _ _ v1 v2 zs ys _ (by (repeat (first | (with_reducible exact IntsAt.made _ _ (by omega) _) | (with_reducible assumption) | (with_reducible refine IntsAt.alloc ?_ _) | (with_reducible refine IntsAt.drew ?_) | (with_reducible refine IntsAt.drewN ?_ _) | (with_reducible refine IntsAt.mono ?_ (by with_reducible assumption))))) (by (repeat (first | (with_reducible exact IntsAt.made _ _ (by omega) _) | (with_reducible assumption) | (with_reducible refine IntsAt.alloc ?_ _) | (with_reducible refine IntsAt.drew ?_) | (with_reducible refine IntsAt.drewN ?_ _) | (with_reducible refine IntsAt.mono ?_ (by with_reducible assumption)))))).mono ?_); rw [HB.out]; rintro e w1 ⟨rfl, hb⟩; obtain ⟨hc, hf⟩ := bcell hb; have hsz := hb.size; (try simp at hsz); (try have hy0 : w.heap.size < w1.heap.size := by omega); (try have hy1 : w.heap.size + 1 < w1.heap.size := by omega); (try have hy2 : w.heap.size + 2 < w1.heap.size := by omega); (try have hyS : ws.heap.size < w1.heap.size := by omega); (try have hyG : wg.heap.size < w1.heap.size := by omega))
    go_ret
    exact ⟨ret_int (by simp [resZ, HB.out]), by (repeat' (first | exact Below.refl _ _ | (with_reducible assumption) | (with_reducible refine xAlloc ?_ _) | (with_reducible refine Below.drew ?_) | (with_reducible refine xDrewN ?_ _) | (with_reducible refine xThen ?_ (by with_reducible assumption)) | (with_reducible refine Below.setCell ?_ (by first | omega | (simp; omega) | simp) _)))⟩
  · obtain ⟨hv, hz, hy⟩ := boardB_true hb
    have hr := varB_true hv
    have HZ := hid hz
    have HY := hid hy
    have HB := hid hb
    clear hz hy hv hb
    cases ho : overB zs ys
    · have HO := hid ho
      clear ho
      go_enter Try.func17, Try.ntmps17
      go_wp2_with (first | (go_at_call 61; (with_reducible refine (implBoard_any _ _ _ _ v1 v2 zs ys _ (by (repeat (first | (with_reducible exact IntsAt.made _ _ (by omega) _) | (with_reducible assumption) | (with_reducible refine IntsAt.alloc ?_ _) | (with_reducible refine IntsAt.drew ?_) | (with_reducible refine IntsAt.drewN ?_ _) | (with_reducible refine IntsAt.mono ?_ (by with_reducible assumption))))) (by (repeat (first | (with_reducible exact IntsAt.made _ _ (by omega) _) | (with_reducible assumption) | (with_reducible refine IntsAt.alloc ?_ _) | (with_reducible refine IntsAt.drew ?_) | (with_reducible refine IntsAt.drewN ?_ _) | (with_reducible refine IntsAt.mono ?_ (by with_reducible assumption)))))).mono ?_); rw [HB.out]; rintro e w1 ⟨rfl, hb⟩; obtain ⟨hc, hf⟩ := bcell hb; have hsz := hb.size; (try simp at hsz); (try have hy0 : w.heap.size < w1.heap.size := by omega); (try have hy1 : w.heap.size + 1 < w1.heap.size := by omega); (try have hy2 : w.heap.size + 2 < w1.heap.size := by omega); (try have hyS : ws.heap.size < w1.heap.size := by omega); (try have hyG : wg.heap.size < w1.heap.size := by omega)) | (go_at_call 62; (with_reducible refine (implOver_any v1 v2 zs ys _ (by (repeat (first | (with_reducible exact IntsAt.made _ _ (by omega) _) | (with_reducible assumption) | (with_reducible refine IntsAt.alloc ?_ _) | (with_reducible refine IntsAt.drew ?_) | (with_reducible refine IntsAt.drewN ?_ _) | (with_reducible refine IntsAt.mono ?_ (by with_reducible assumption))))) (by (repeat (first | (with_reducible exact IntsAt.made _ _ (by omega) _) | (with_reducible assumption) | (with_reducible refine IntsAt.alloc ?_ _) | (with_reducible refine IntsAt.drew ?_) | (with_reducible refine IntsAt.drewN ?_ _) | (with_reducible refine IntsAt.mono ?_ (by with_reducible assumption))))) HZ.out HY.out).mono ?_); rw [HO.out]; rintro e w1 ⟨rfl, hb⟩; obtain ⟨hc, hf⟩ := bcell hb; have hsz := hb.size; (try simp at hsz); (try have hy0 : w.heap.size < w1.heap.size := by omega); (try have hy1 : w.heap.size + 1 < w1.heap.size := by omega); (try have hy2 : w.heap.size + 2 < w1.heap.size := by omega); (try have hyS : ws.heap.size < w1.heap.size := by omega); (try have hyG : wg.heap.size < w1.heap.size := by omega)))
      go_ret
      exact ⟨ret_int (by simp [resZ, HO.out]), by (repeat' (first | exact Below.refl _ _ | (with_reducible assumption) | (with_reducible refine xAlloc ?_ _) | (with_reducible refine Below.drew ?_) | (with_reducible refine xDrewN ?_ _) | (with_reducible refine xThen ?_ (by with_reducible assumption)) | (with_reducible refine Below.setCell ?_ (by first | omega | (simp; omega) | simp) _)))⟩
    · have HO := hid ho
      clear ho
      go_enter Try.func17, Try.ntmps17
      go_wp2_with (first | (go_at_call 61; (with_reducible refine (implBoard_any _ _ _ _ v1 v2 zs ys _ (by (repeat (first | (with_reducible exact IntsAt.made _ _ (by omega) _) | (with_reducible assumption) | (with_reducible refine IntsAt.alloc ?_ _) | (with_reducible refine IntsAt.drew ?_) | (with_reducible refine IntsAt.drewN ?_ _) | (with_reducible refine IntsAt.mono ?_ (by with_reducible assumption))))) (by (repeat (first | (with_reducible exact IntsAt.made _ _ (by omega) _) | (with_reducible assumption) | (with_reducible refine IntsAt.alloc ?_ _) | (with_reducible refine IntsAt.drew ?_) | (with_reducible refine IntsAt.drewN ?_ _) | (with_reducible refine IntsAt.mono ?_ (by with_reducible assumption)))))).mono ?_); rw [HB.out]; rintro e w1 ⟨rfl, hb⟩; obtain ⟨hc, hf⟩ := bcell hb; have hsz := hb.size; (try simp at hsz); (try have hy0 : w.heap.size < w1.heap.size := by omega); (try have hy1 : w.heap.size + 1 < w1.heap.size := by omega); (try have hy2 : w.heap.size + 2 < w1.heap.size := by omega); (try have hyS : ws.heap.size < w1.heap.size := by omega); (try have hyG : wg.heap.size < w1.heap.size := by omega)) | (go_at_call 62; (with_reducible refine (implOver_any v1 v2 zs ys _ (by (repeat (first | (with_reducible exact IntsAt.made _ _ (by omega) _) | (with_reducible assumption) | (with_reducible refine IntsAt.alloc ?_ _) | (with_reducible refine IntsAt.drew ?_) | (with_reducible refine IntsAt.drewN ?_ _) | (with_reducible refine IntsAt.mono ?_ (by with_reducible assumption))))) (by (repeat (first | (with_reducible exact IntsAt.made _ _ (by omega) _) | (with_reducible assumption) | (with_reducible refine IntsAt.alloc ?_ _) | (with_reducible refine IntsAt.drew ?_) | (with_reducible refine IntsAt.drewN ?_ _) | (with_reducible refine IntsAt.mono ?_ (by with_reducible assumption))))) HZ.out HY.out).mono ?_); rw [HO.out]; rintro e w1 ⟨rfl, hb⟩; obtain ⟨hc, hf⟩ := bcell hb; have hsz := hb.size; (try simp at hsz); (try have hy0 : w.heap.size < w1.heap.size := by omega); (try have hy1 : w.heap.size + 1 < w1.heap.size := by omega); (try have hy2 : w.heap.size + 2 < w1.heap.size := by omega); (try have hyS : ws.heap.size < w1.heap.size := by omega); (try have hyG : wg.heap.size < w1.heap.size := by omega)) | (go_at_call 63; (with_reducible refine (implRes_any _ _ _ _ v1 v2 zs ys _ (by (repeat (first | (with_reducible exact IntsAt.made _ _ (by omega) _) | (with_reducible assumption) | (with_reducible refine IntsAt.alloc ?_ _) | (with_reducible refine IntsAt.drew ?_) | (with_reducible refine IntsAt.drewN ?_ _) | (with_reducible refine IntsAt.mono ?_ (by with_reducible assumption))))) (by (repeat (first | (with_reducible exact IntsAt.made _ _ (by omega) _) | (with_reducible assumption) | (with_reducible refine IntsAt.alloc ?_ _) | (with_reducible refine IntsAt.drew ?_) | (with_reducible refine IntsAt.drewN ?_ _) | (with_reducible refine IntsAt.mono ?_ (by with_reducible assumption))))) (by omega) (by omega) (by omega) (by omega) HZ.out HY.out).mono ?_); rintro e w1 ⟨rfl, hb⟩; obtain ⟨hc, hf⟩ := bcell hb; have hsz := hb.size; (try simp at hsz); (try have hy0 : w.heap.size < w1.heap.size := by omega); (try have hy1 : w.heap.size + 1 < w1.heap.size := by omega); (try have hy2 : w.heap.size + 2 < w1.heap.size := by omega); (try have hyS : ws.heap.size < w1.heap.size := by omega); (try have hyG : wg.heap.size < w1.heap.size := by omega)))
      go_ret
      exact ⟨ret_int (by simp [resZ, HB.out, HO.out]), by (repeat' (first | exact Below.refl _ _ | (with_reducible assumption) | (with_reducible refine xAlloc ?_ _) | (with_reducible refine Below.drew ?_) | (with_reducible refine xDrewN ?_ _) | (with_reducible refine xThen ?_ (by with_reducible assumption)) | (with_reducible refine Below.setCell ?_ (by first | omega | (simp; omega) | simp) _)))⟩

theorem specIsOver_any (p c h s : Int) (v1 v2 : Value) (zs ys : List Int) (w : World) (I1 : IntsAt w v1 zs) (I2 : IntsAt w v2 ys) :
    Calls Try.prog 58 #[.agg #[.int .i64 p, .int .i64 c, .int .i64 h, .int .i64 s], .agg #[v1, v2]] w fun e w' => e = .returned (.bool (boardB p c h s zs ys && overB zs ys)) ∧ Below w.heap.size w w' := by
  cases hb : boardB p c h s zs ys
  · go_enter Try.func58, Try.ntmps58
    go_wp2_with (go_at_call 21; (with_reducible refine (specBoard_any _ _ _ _ v1 v2 zs ys _ (by (repeat (first | (with_reducible exact IntsAt.made _ _ (by omega) _) | (with_reducible assumption) | (with_reducible refine IntsAt.alloc ?_ _) | (with_reducible refine IntsAt.drew ?_) | (with_reducible refine IntsAt.drewN ?_ _) | (with_reducible refine IntsAt.mono ?_ (by with_reducible assumption))))) (by (repeat (first | (with_reducible exact IntsAt.made _ _ (by omega) _) | (with_reducible assumption) | (with_reducible refine IntsAt.alloc ?_ _) | (with_reducible refine IntsAt.drew ?_) | (with_reducible refine IntsAt.drewN ?_ _) | (with_reducible refine IntsAt.mono ?_ (by with_reducible assumption)))))).mono ?_); rintro e w1 ⟨rfl, hb⟩; obtain ⟨hc, hf⟩ := bcell hb; have hsz := hb.size; (try simp at hsz); (try have hy0 : w.heap.size < w1.heap.size := by omega); (try have hy1 : w.heap.size + 1 < w1.heap.size := by omega); (try have hy2 : w.heap.size + 2 < w1.heap.size := by omega); (try have hyS : ws.heap.size < w1.heap.size := by omega); (try have hyG : wg.heap.size < w1.heap.size := by omega))
    go_ret
    exact ⟨rfl, by (repeat' (first | exact Below.refl _ _ | (with_reducible assumption) | (with_reducible refine xAlloc ?_ _) | (with_reducible refine Below.drew ?_) | (with_reducible refine xDrewN ?_ _) | (with_reducible refine xThen ?_ (by with_reducible assumption)) | (with_reducible refine Below.setCell ?_ (by first | omega | (simp; omega) | simp) _)))⟩
  · obtain ⟨hv, hz, hy⟩ := boardB_true hb
    have HZ := hid hz
    have HY := hid hy
    clear hz hy hv
    go_enter Try.func58, Try.ntmps58
    go_wp2_with (first | (go_at_call 21; (with_reducible refine (specBoard_any _ _ _ _ v1 v2 zs ys _ (by (repeat (first | (with_reducible exact IntsAt.made _ _ (by omega) _) | (with_reducible assumption) | (with_reducible refine IntsAt.alloc ?_ _) | (with_reducible refine IntsAt.drew ?_) | (with_reducible refine IntsAt.drewN ?_ _) | (with_reducible refine IntsAt.mono ?_ (by with_reducible assumption))))) (by (repeat (first | (with_reducible exact IntsAt.made _ _ (by omega) _) | (with_reducible assumption) | (with_reducible refine IntsAt.alloc ?_ _) | (with_reducible refine IntsAt.drew ?_) | (with_reducible refine IntsAt.drewN ?_ _) | (with_reducible refine IntsAt.mono ?_ (by with_reducible assumption)))))).mono ?_); rintro e w1 ⟨rfl, hb⟩; obtain ⟨hc, hf⟩ := bcell hb; have hsz := hb.size; (try simp at hsz); (try have hy0 : w.heap.size < w1.heap.size := by omega); (try have hy1 : w.heap.size + 1 < w1.heap.size := by omega); (try have hy2 : w.heap.size + 2 < w1.heap.size := by omega); (try have hyS : ws.heap.size < w1.heap.size := by omega); (try have hyG : wg.heap.size < w1.heap.size := by omega)) | (go_at_call 110; (with_reducible refine (specOver_any v1 v2 zs ys _ (by (repeat (first | (with_reducible exact IntsAt.made _ _ (by omega) _) | (with_reducible assumption) | (with_reducible refine IntsAt.alloc ?_ _) | (with_reducible refine IntsAt.drew ?_) | (with_reducible refine IntsAt.drewN ?_ _) | (with_reducible refine IntsAt.mono ?_ (by with_reducible assumption))))) (by (repeat (first | (with_reducible exact IntsAt.made _ _ (by omega) _) | (with_reducible assumption) | (with_reducible refine IntsAt.alloc ?_ _) | (with_reducible refine IntsAt.drew ?_) | (with_reducible refine IntsAt.drewN ?_ _) | (with_reducible refine IntsAt.mono ?_ (by with_reducible assumption))))) HZ.out HY.out).mono ?_); rintro e w1 ⟨rfl, hb⟩; obtain ⟨hc, hf⟩ := bcell hb; have hsz := hb.size; (try simp at hsz); (try have hy0 : w.heap.size < w1.heap.size := by omega); (try have hy1 : w.heap.size + 1 < w1.heap.size := by omega); (try have hy2 : w.heap.size + 2 < w1.heap.size := by omega); (try have hyS : ws.heap.size < w1.heap.size := by omega); (try have hyG : wg.heap.size < w1.heap.size := by omega)))
    go_ret
    exact ⟨rfl, by (repeat' (first | exact Below.refl _ _ | (with_reducible assumption) | (with_reducible refine xAlloc ?_ _) | (with_reducible refine Below.drew ?_) | (with_reducible refine xDrewN ?_ _) | (with_reducible refine xThen ?_ (by with_reducible assumption)) | (with_reducible refine Below.setCell ?_ (by first | omega | (simp; omega) | simp) _)))⟩
theorem specResultOf_any (p c h s : Int) (v1 v2 : Value) (zs ys : List Int) (w : World) (I1 : IntsAt w v1 zs) (I2 : IntsAt w v2 ys) :
    Calls Try.prog 14 #[.agg #[.int .i64 p, .int .i64 c, .int .i64 h, .int .i64 s], .agg #[v1, v2]] w fun e w' => e = .returned (.int .i64 (resZ p c h s zs ys)) ∧ Below w.heap.size w w' := by
  cases hb : (boardB p c h s zs ys && overB zs ys)
  · have HB := hid hb
    clear hb
    go_enter Try.func14, Try.ntmps14
    go_wp2_with (go_at_call 58; (with_reducible refine (specIsOver_any _ _ _ _ v1 v2 zs ys _ (by (repeat (first | (with_reducible exact IntsAt.made _ _ (by omega) _) | (with_reducible assumption) | (with_reducible refine IntsAt.alloc ?_ _) | (with_reducible refine IntsAt.drew ?_) | (with_reducible refine IntsAt.drewN ?_ _) | (with_reducible refine IntsAt.mono ?_ (by with_reducible assumption))))) (by (repeat (first | (with_reducible exact IntsAt.made _ _ (by omega) _) | (with_reducible assumption) | (with_reducible refine IntsAt.alloc ?_ _) | (with_reducible refine IntsAt.drew ?_) | (with_reducible refine IntsAt.drewN ?_ _) | (with_reducible refine IntsAt.mono ?_ (by with_reducible assumption)))))).mono ?_); rw [HB.out]; rintro e w1 ⟨rfl, hb⟩; obtain ⟨hc, hf⟩ := bcell hb; have hsz := hb.size; (try simp at hsz); (try have hy0 : w.heap.size < w1.heap.size := by omega); (try have hy1 : w.heap.size + 1 < w1.heap.size := by omega); (try have hy2 : w.heap.size + 2 < w1.heap.size := by omega); (try have hyS : ws.heap.size < w1.heap.size := by omega); (try have hyG : wg.heap.size < w1.heap.size := by omega))
    go_ret
    exact ⟨ret_int (by simp [resZ, HB.out]), by (repeat' (first | exact Below.refl _ _ | (with_reducible assumption) | (with_reducible refine xAlloc ?_ _) | (with_reducible refine Below.drew ?_) | (with_reducible refine xDrewN ?_ _) | (with_reducible refine xThen ?_ (by with_reducible assumption)) | (with_reducible refine Below.setCell ?_ (by first | omega | (simp; omega) | simp) _)))⟩
  · have hb' : boardB p c h s zs ys = true := by simp only [Bool.and_eq_true] at hb; exact hb.1
    obtain ⟨hv, hz, hy⟩ := boardB_true hb'
    have hr := varB_true hv
    have HZ := hid hz
    have HY := hid hy
    have HB := hid hb
    clear hz hy hv hb hb'
    go_enter Try.func14, Try.ntmps14
    go_wp2_with (first | (go_at_call 58; (with_reducible refine (specIsOver_any _ _ _ _ v1 v2 zs ys _ (by (repeat (first | (with_reducible exact IntsAt.made _ _ (by omega) _) | (with_reducible assumption) | (with_reducible refine IntsAt.alloc ?_ _) | (with_reducible refine IntsAt.drew ?_) | (with_reducible refine IntsAt.drewN ?_ _) | (with_reducible refine IntsAt.mono ?_ (by with_reducible assumption))))) (by (repeat (first | (with_reducible exact IntsAt.made _ _ (by omega) _) | (with_reducible assumption) | (with_reducible refine IntsAt.alloc ?_ _) | (with_reducible refine IntsAt.drew ?_) | (with_reducible refine IntsAt.drewN ?_ _) | (with_reducible refine IntsAt.mono ?_ (by with_reducible assumption)))))).mono ?_); rw [HB.out]; rintro e w1 ⟨rfl, hb⟩; obtain ⟨hc, hf⟩ := bcell hb; have hsz := hb.size; (try simp at hsz); (try have hy0 : w.heap.size < w1.heap.size := by omega); (try have hy1 : w.heap.size + 1 < w1.heap.size := by omega); (try have hy2 : w.heap.size + 2 < w1.heap.size := by omega); (try have hyS : ws.heap.size < w1.heap.size := by omega); (try have hyG : wg.heap.size < w1.heap.size := by omega)) | (go_at_call 59; (with_reducible refine (specRes_any _ _ _ _ v1 v2 zs ys _ (by (repeat (first | (with_reducible exact IntsAt.made _ _ (by omega) _) | (with_reducible assumption) | (with_reducible refine IntsAt.alloc ?_ _) | (with_reducible refine IntsAt.drew ?_) | (with_reducible refine IntsAt.drewN ?_ _) | (with_reducible refine IntsAt.mono ?_ (by with_reducible assumption))))) (by (repeat (first | (with_reducible exact IntsAt.made _ _ (by omega) _) | (with_reducible assumption) | (with_reducible refine IntsAt.alloc ?_ _) | (with_reducible refine IntsAt.drew ?_) | (with_reducible refine IntsAt.drewN ?_ _) | (with_reducible refine IntsAt.mono ?_ (by with_reducible assumption))))) (by omega) (by omega) (by omega) (by omega) HZ.out HY.out).mono ?_); rintro e w1 ⟨rfl, hb⟩; obtain ⟨hc, hf⟩ := bcell hb; have hsz := hb.size; (try simp at hsz); (try have hy0 : w.heap.size < w1.heap.size := by omega); (try have hy1 : w.heap.size + 1 < w1.heap.size := by omega); (try have hy2 : w.heap.size + 2 < w1.heap.size := by omega); (try have hyS : ws.heap.size < w1.heap.size := by omega); (try have hyG : wg.heap.size < w1.heap.size := by omega)))
    go_ret
    exact ⟨ret_int (by simp [resZ, HB.out]), by (repeat' (first | exact Below.refl _ _ | (with_reducible assumption) | (with_reducible refine xAlloc ?_ _) | (with_reducible refine Below.drew ?_) | (with_reducible refine xDrewN ?_ _) | (with_reducible refine xThen ?_ (by with_reducible assumption)) | (with_reducible refine Below.setCell ?_ (by first | omega | (simp; omega) | simp) _)))⟩

theorem szInts_any (a : Option Addr) (n cap : Nat) (left : Int) (h0 : 0 ≤ left) (h1 : left ≤ 1048576) (hn : (n : Int) ≤ 9223372036854775807) (w : World) :
    Calls Try.prog 57 #[.slice a n cap, .int .i64 left] w fun e w' => e = .returned (.int .i64 (if left - n < 0 then -1 else left - n)) ∧ w = w' := by
  by_cases hl : left - n < 0
  all_goals
    go_enter Try.func57, Try.ntmps57
    go_wp2
    go_ret
    exact ⟨ret_int (by first | rfl | (split <;> omega)), rfl⟩

theorem toBoard_any (v1 v2 : Value) (zs ys : List Int) (w : World) (I1 : IntsAt w v1 zs) (I2 : IntsAt w v2 ys) :
    Calls Try.prog 16 #[.agg #[v1, v2]] w fun e w' => ∃ b1 b2, e = .returned (.agg #[.slice (some ⟨b1, 0, none⟩) zs.length zs.length, .slice (some ⟨b2, 0, none⟩) ys.length ys.length]) ∧ FreshInts w' w.heap.size (.slice (some ⟨b1, 0, none⟩) zs.length zs.length) zs ∧ FreshInts w' w.heap.size (.slice (some ⟨b2, 0, none⟩) ys.length ys.length) ys ∧ Below w.heap.size w w' := by
  go_enter Try.func16, Try.ntmps16
  go_wp2_with fail
  refine (toIntsB_any _ zs _ (I1.mono (by (repeat' (first | exact Below.refl _ _ | (with_reducible assumption) | (with_reducible refine xAlloc ?_ _) | (with_reducible refine Below.drew ?_) | (with_reducible refine xDrewN ?_ _) | (with_reducible refine xThen ?_ (by with_reducible assumption)) | (with_reducible refine Below.setCell ?_ (by first | omega | (simp; omega) | simp) _)))))).mono ?_
  rintro e wa ⟨rfl, hFa, hba, -⟩
  obtain ⟨hca, hfa⟩ := bcell hba
  have hsa := hba.size
  simp at hsa
  have ya0 : w.heap.size < wa.heap.size := by omega
  have ya1 : w.heap.size + 1 < wa.heap.size := by omega
  have ya2 : w.heap.size + 2 < wa.heap.size := by omega
  go_wp2_with fail
  refine (toIntsB_any _ ys _ (I2.mono (by (repeat' (first | exact Below.refl _ _ | (with_reducible assumption) | (with_reducible refine xAlloc ?_ _) | (with_reducible refine Below.drew ?_) | (with_reducible refine xDrewN ?_ _) | (with_reducible refine xThen ?_ (by with_reducible assumption)) | (with_reducible refine Below.setCell ?_ (by first | omega | (simp; omega) | simp) _)))))).mono ?_
  rintro e wb ⟨rfl, hFb, hbb, -⟩
  obtain ⟨hcb, hfb⟩ := bcell hbb
  have hsb := hbb.size
  simp at hsb
  have yb0 : w.heap.size < wb.heap.size := by omega
  have yb1 : w.heap.size + 1 < wb.heap.size := by omega
  have yb2 : w.heap.size + 2 < wb.heap.size := by omega
  go_wp2
  have f1 := (((hFa.wrote ((Wrote.refl (w.heap.size + 1 + 1) wa).setCell 0 (.slice (some ⟨w.heap.size + 1 + 1 + 1, 0, none⟩) zs.length zs.length)) (by simp)).mono hbb).wrote ((Wrote.refl (w.heap.size + 1 + 1) wb).setCell 1 (.slice (some ⟨wa.heap.size, 0, none⟩) ys.length ys.length)) (by simp)).wrote
    (((Wrote.refl (w.heap.size + 1) _).setCell 0 (.slice (some ⟨w.heap.size + 1 + 1 + 1, 0, none⟩) zs.length zs.length)).setCell 1 (.slice (some ⟨wa.heap.size, 0, none⟩) ys.length ys.length)) (by simp)
  have f2 := (hFb.wrote ((Wrote.refl (w.heap.size + 1 + 1) wb).setCell 1 (.slice (some ⟨wa.heap.size, 0, none⟩) ys.length ys.length)) (by simp; omega)).wrote
    (((Wrote.refl (w.heap.size + 1) _).setCell 0 (.slice (some ⟨w.heap.size + 1 + 1 + 1, 0, none⟩) zs.length zs.length)).setCell 1 (.slice (some ⟨wa.heap.size, 0, none⟩) ys.length ys.length)) (by simp; omega)
  refine bodyPost_ret (v := .agg #[.slice (some ⟨w.heap.size + 1 + 1 + 1, 0, none⟩) zs.length zs.length, .slice (some ⟨wa.heap.size, 0, none⟩) ys.length ys.length]) (by simp only [results, Try.results16]; go_simp) rfl ?_
  exact ⟨_, _, rfl, by simpa using f1.low (lo' := w.heap.size) (by simp; omega), by simpa using f2.low (lo' := w.heap.size) (by simp; omega), by (repeat' (first | exact Below.refl _ _ | (with_reducible assumption) | (with_reducible refine xAlloc ?_ _) | (with_reducible refine Below.drew ?_) | (with_reducible refine xDrewN ?_ _) | (with_reducible refine xThen ?_ (by with_reducible assumption)) | (with_reducible refine Below.setCell ?_ (by first | omega | (simp; omega) | simp) _)))⟩

theorem eqBoard_any (v1 v2 u1 u2 : Value) (zs ys : List Int) (w : World) (I1 : IntsAt w v1 zs) (I2 : IntsAt w v2 ys) (J1 : IntsAt w u1 zs) (J2 : IntsAt w u2 ys) :
    Calls Try.prog 18 #[.agg #[v1, v2], .agg #[u1, u2]] w fun e w' => e = .returned (.bool true) ∧ Below w.heap.size w w' := by
  go_enter Try.func18, Try.ntmps18
  go_wp2_with (first | (go_at_call_of 64 v1; refine (eqB_any v1 u1 zs _ (by (repeat (first | (with_reducible exact IntsAt.made _ _ (by omega) _) | (with_reducible assumption) | (with_reducible refine IntsAt.alloc ?_ _) | (with_reducible refine IntsAt.drew ?_) | (with_reducible refine IntsAt.drewN ?_ _) | (with_reducible refine IntsAt.mono ?_ (by with_reducible assumption))))) (by (repeat (first | (with_reducible exact IntsAt.made _ _ (by omega) _) | (with_reducible assumption) | (with_reducible refine IntsAt.alloc ?_ _) | (with_reducible refine IntsAt.drew ?_) | (with_reducible refine IntsAt.drewN ?_ _) | (with_reducible refine IntsAt.mono ?_ (by with_reducible assumption)))))).mono ?_; rintro e w1 ⟨rfl, hb, -⟩; obtain ⟨hc, hf⟩ := bcell hb; have hsz := hb.size; (try simp at hsz); (try have hy0 : w.heap.size < w1.heap.size := by omega); (try have hy1 : w.heap.size + 1 < w1.heap.size := by omega); (try have hy2 : w.heap.size + 2 < w1.heap.size := by omega); (try have hyS : ws.heap.size < w1.heap.size := by omega); (try have hyG : wg.heap.size < w1.heap.size := by omega)) | (go_at_call_of 64 v2; refine (eqB_any v2 u2 ys _ (by (repeat (first | (with_reducible exact IntsAt.made _ _ (by omega) _) | (with_reducible assumption) | (with_reducible refine IntsAt.alloc ?_ _) | (with_reducible refine IntsAt.drew ?_) | (with_reducible refine IntsAt.drewN ?_ _) | (with_reducible refine IntsAt.mono ?_ (by with_reducible assumption))))) (by (repeat (first | (with_reducible exact IntsAt.made _ _ (by omega) _) | (with_reducible assumption) | (with_reducible refine IntsAt.alloc ?_ _) | (with_reducible refine IntsAt.drew ?_) | (with_reducible refine IntsAt.drewN ?_ _) | (with_reducible refine IntsAt.mono ?_ (by with_reducible assumption)))))).mono ?_; rintro e w1 ⟨rfl, hb, -⟩; obtain ⟨hc, hf⟩ := bcell hb; have hsz := hb.size; (try simp at hsz); (try have hy0 : w.heap.size < w1.heap.size := by omega); (try have hy1 : w.heap.size + 1 < w1.heap.size := by omega); (try have hy2 : w.heap.size + 2 < w1.heap.size := by omega); (try have hyS : ws.heap.size < w1.heap.size := by omega); (try have hyG : wg.heap.size < w1.heap.size := by omega)))
  go_ret
  exact ⟨rfl, by (repeat' (first | exact Below.refl _ _ | (with_reducible assumption) | (with_reducible refine xAlloc ?_ _) | (with_reducible refine Below.drew ?_) | (with_reducible refine xDrewN ?_ _) | (with_reducible refine xThen ?_ (by with_reducible assumption)) | (with_reducible refine Below.setCell ?_ (by first | omega | (simp; omega) | simp) _)))⟩

theorem szBoard_any (a1 a2 : Option Addr) (n1 c1 n2 c2 : Nat) (left : Int) (h0 : 0 ≤ left) (h1 : left ≤ 1048576) (hn1 : (n1 : Int) ≤ 9223372036854775807) (hn2 : (n2 : Int) ≤ 9223372036854775807) (w : World) :
    Calls Try.prog 13 #[.agg #[.slice a1 n1 c1, .slice a2 n2 c2], .int .i64 left] w fun e w' => e = .returned (.int .i64 (if left - n1 - n2 < 0 then -1 else left - n1 - n2)) ∧ Below w.heap.size w w' := by
  by_cases hl : left - n1 < 0
  · go_enter Try.func13, Try.ntmps13
    go_wp2_with fail
    refine (szInts_any a1 n1 c1 left h0 h1 hn1 _).mono ?_
    rw [if_pos hl]
    rintro e _ ⟨rfl, rfl⟩
    go_wp2
    go_ret
    exact ⟨ret_int (by first | rfl | (rw [if_pos (by omega)])), by (repeat' (first | exact Below.refl _ _ | (with_reducible assumption) | (with_reducible refine xAlloc ?_ _) | (with_reducible refine Below.drew ?_) | (with_reducible refine xDrewN ?_ _) | (with_reducible refine xThen ?_ (by with_reducible assumption)) | (with_reducible refine Below.setCell ?_ (by first | omega | (simp; omega) | simp) _)))⟩
  · by_cases hl2 : left - n1 - n2 < 0
    all_goals
      go_enter Try.func13, Try.ntmps13
      go_wp2_with fail
      refine (szInts_any a1 n1 c1 left h0 h1 hn1 _).mono ?_
      rw [if_neg (show ¬ left - (n1 : Int) < 0 by omega)]
      rintro e _ ⟨rfl, rfl⟩
      go_wp2_with fail
      refine (szInts_any a2 n2 c2 (left - n1) (by omega) (by omega) hn2 _).mono ?_
      first | rw [if_pos (show left - (n1 : Int) - n2 < 0 by omega)] | rw [if_neg (show ¬ left - (n1 : Int) - n2 < 0 by omega)]
      rintro e _ ⟨rfl, rfl⟩
      go_wp2
      go_ret
      exact ⟨ret_int (by first | rfl | rw [if_pos (by omega)] | rw [if_neg (by omega)]), by (repeat' (first | exact Below.refl _ _ | (with_reducible assumption) | (with_reducible refine xAlloc ?_ _) | (with_reducible refine Below.drew ?_) | (with_reducible refine xDrewN ?_ _) | (with_reducible refine xThen ?_ (by with_reducible assumption)) | (with_reducible refine Below.setCell ?_ (by first | omega | (simp; omega) | simp) _)))⟩

theorem isRow_len {w : World} {a : Option Addr} {len cap : Nat} {z : List Int} (h : IsRow .i64 w a len cap z) : (len : Int) ≤ 9223372036854775807 := by
  rcases h with ⟨rfl, rfl, rfl, rfl⟩ | ⟨x, rfl, hlc, hm, _⟩
  · simp
  · unfold maxLen at hm; omega

set_option maxHeartbeats 2000000 in
theorem lawRes (p c h s : Int) (_ : (Lit.int .i64 p).wf = true) (_ : (Lit.int .i64 c).wf = true) (_ : (Lit.int .i64 h).wf = true) (_ : (Lit.int .i64 s).wf = true)
    (a1 : Option Addr) (l1 k1 : Nat) (z1 : List Int) (a2 : Option Addr) (l2 k2 : Nat) (z2 : List Int) (w : World) (r1 : IsRow .i64 w a1 l1 k1 z1) (r2 : IsRow .i64 w a2 l2 k2 z2) :
    Calls Try.prog 3 #[.agg #[.int .i64 p, .int .i64 c, .int .i64 h, .int .i64 s], .agg #[.slice a1 l1 k1, .slice a2 l2 k2]] w fun e w' => e = .returned (.bool true) ∧ Below w.heap.size w w' := by
  have hn1 := isRow_len r1
  have hn2 := isRow_len r2
  by_cases hl : (1048576 : Int) - l1 - l2 < 0
  · go_enter Try.func3, Try.ntmps3
    go_wp2_with fail
    refine (szBoard_any a1 a2 l1 k1 l2 k2 1048576 (by omega) (by omega) hn1 hn2 _).mono ?_
    rw [if_pos hl]
    rintro e w1 ⟨rfl, hb⟩
    go_wp2
    go_ret
    exact ⟨rfl, by (repeat' (first | exact Below.refl _ _ | (with_reducible assumption) | (with_reducible refine xAlloc ?_ _) | (with_reducible refine Below.drew ?_) | (with_reducible refine xDrewN ?_ _) | (with_reducible refine xThen ?_ (by with_reducible assumption)) | (with_reducible refine Below.setCell ?_ (by first | omega | (simp; omega) | simp) _)))⟩
  · obtain ⟨zs, rfl, I1, _⟩ := isRow_ints r1 (by omega)
    obtain ⟨ys, rfl, I2, _⟩ := isRow_ints r2 (by omega)
    clear r1 r2
    have H1 := hid I1
    have H2 := hid I2
    have hge : (0 : Int) ≤ 1048576 - zs.length - ys.length := by omega
    go_enter Try.func3, Try.ntmps3
    go_wp2_with fail
    refine calls_named (fun W hW0 => ?_)
    have hW := hid hW0
    clear hW0
    have sW : W.heap.size = w.heap.size + 2 := by rw [← hW.out]; simp
    have bW : Below w.heap.size w W := by rw [← hW.out]; (repeat' (first | exact Below.refl _ _ | (with_reducible assumption) | (with_reducible refine xAlloc ?_ _) | (with_reducible refine Below.drew ?_) | (with_reducible refine xDrewN ?_ _) | (with_reducible refine xThen ?_ (by with_reducible assumption)) | (with_reducible refine Below.setCell ?_ (by first | omega | (simp; omega) | simp) _)))
    have lW0 : w.heap.size < W.heap.size := by omega
    have lW1 : w.heap.size + 1 < W.heap.size := by omega
    have kW0 : W.cell? ⟨w.heap.size, 0, none⟩ = some (.int .i64 p) := by rw [← hW.out]; go_simp
    have kW1 : W.cell? ⟨w.heap.size, 1, none⟩ = some (.int .i64 c) := by rw [← hW.out]; go_simp
    have kW2 : W.cell? ⟨w.heap.size, 2, none⟩ = some (.int .i64 h) := by rw [← hW.out]; go_simp
    have kW3 : W.cell? ⟨w.heap.size, 3, none⟩ = some (.int .i64 s) := by rw [← hW.out]; go_simp
    have kW4 : W.cell? ⟨w.heap.size + 1, 0, none⟩ = some (.slice a1 zs.length k1) := by rw [← hW.out]; go_simp
    have kW5 : W.cell? ⟨w.heap.size + 1, 1, none⟩ = some (.slice a2 ys.length k2) := by rw [← hW.out]; go_simp
    clear hW sW
    refine (szBoard_any a1 a2 zs.length k1 ys.length k2 1048576 (by omega) (by omega) hn1 hn2 _).mono ?_
    rw [if_neg (show ¬ (1048576 : Int) - zs.length - ys.length < 0 by omega)]
    rintro e w1 ⟨rfl, hb⟩
    have kA0 := xcell hb kW0
    have kA1 := xcell hb kW1
    have kA2 := xcell hb kW2
    have kA3 := xcell hb kW3
    have kA4 := xcell hb kW4
    have kA5 := xcell hb kW5
    have BA : Below w.heap.size w w1 := xThen bW hb
    clear kW0 kW1 kW2 kW3 kW4 kW5 hl
    go_wp2
    have hk0 : ∀ xe : ExtW w1, xe.u.cell? ⟨w.heap.size, 0, none⟩ = some (.int .i64 p) := fun xe => xe.cell (by go_simp)
    have hk1 : ∀ xe : ExtW w1, xe.u.cell? ⟨w.heap.size, 1, none⟩ = some (.int .i64 c) := fun xe => xe.cell (by go_simp)
    have hk2 : ∀ xe : ExtW w1, xe.u.cell? ⟨w.heap.size, 2, none⟩ = some (.int .i64 h) := fun xe => xe.cell (by go_simp)
    have hk3 : ∀ xe : ExtW w1, xe.u.cell? ⟨w.heap.size, 3, none⟩ = some (.int .i64 s) := fun xe => xe.cell (by go_simp)
    have hk4 : ∀ xe : ExtW w1, xe.u.cell? ⟨w.heap.size + 1, 0, none⟩ = some (.slice a1 zs.length k1) := fun xe => xe.cell (by go_simp)
    have hk5 : ∀ xe : ExtW w1, xe.u.cell? ⟨w.heap.size + 1, 1, none⟩ = some (.slice a2 ys.length k2) := fun xe => xe.cell (by go_simp)
    have hne : Nonempty (ExtW w1) := ⟨⟨_, Below.refl _ _⟩⟩
    refine wp_region_oth [true, true, true, false, false, false] [3, 4, 5] (by kernel_rfl) (by kernel_rfl) ?_
    simp only [sift]
    repeat (refine wpRel_step (fun K hK => ?_); simp only [relAt]; go_simp; first | (refine hK _ ?_; clear hK K) | (apply Exists.intro; refine ⟨fun _ => ?_, hK _ ?_⟩; ((first | (go_at_call 15; exact toVariant_any _ _ _ _ _))); clear hK K))
    refine wpRel_nil ?_
    clear hk0 hk1 hk2 hk3 hk4 hk5 hne
    refine wpOth_op rfl rfl (fun wa hba => ?_)
    unfold othAt
    go_simp
    refine (toBoard_any _ _ zs ys _ (I1.mono (xThen BA hba)) (I2.mono (xThen BA hba))).mono ?_
    rintro e wb ⟨b1, b2, rfl, f1, f2, hbb⟩
    have Cb := xThen hba hbb
    refine ⟨_, rfl, Cb, ?_⟩
    refine wpOth_op rfl rfl (fun wc hbc => ?_)
    unfold othAt
    go_simp
    refine (specResultOf_any _ _ _ _ _ _ zs ys _ (f1.mono hbc).ints (f2.mono hbc).ints).mono ?_
    rintro e wd ⟨rfl, hbd⟩
    have Cd := xThen (xThen Cb hbc) hbd
    refine ⟨_, rfl, Cd, ?_⟩
    refine wpOth_op rfl rfl (fun we hbe => ?_)
    unfold othAt
    go_simp
    refine ⟨xThen Cd hbe, fun wf hbf => ?_⟩
    have Cf := xThen (xThen Cd hbe) hbf
    clear f1 f2 hba hbb hbc hbd hbe hbf Cb Cd
    have kF0 := xcell Cf kA0
    have kF1 := xcell Cf kA1
    have kF2 := xcell Cf kA2
    have kF3 := xcell Cf kA3
    have kF4 := xcell Cf kA4
    have kF5 := xcell Cf kA5
    clear kA0 kA1 kA2 kA3 kA4 kA5
    go_wp2_with fail
    have BF : Below w.heap.size w wf := xThen BA Cf
    refine (toBoard_any _ _ zs ys _ (H1.out.mono BF) (H2.out.mono BF)).mono ?_
    rintro e wg ⟨x1, x2, rfl, g1, g2, hbg⟩
    have kG0 := xcell hbg kF0
    have kG1 := xcell hbg kF1
    have kG2 := xcell hbg kF2
    have kG3 := xcell hbg kF3
    have kG4 := xcell hbg kF4
    have kG5 := xcell hbg kF5
    have BG : Below w.heap.size w wg := xThen BF hbg
    have hgs := hbg.size
    have lG0 := cell_block kG0
    have lG1 := cell_block kG4
    have G1 := hid g1
    have G2 := hid g2
    clear kF0 kF1 kF2 kF3 kF4 kF5 g1 g2
    go_wp2_with fail
    refine wp_named (fun X hX0 => ?_)
    have hX := hid hX0
    clear hX0
    have hbX : Below wg.heap.size wg X := by rw [← hX.out]; exact xAlloc (Below.refl _ _) _
    have kX0 := xcell hbX kG0
    have kX1 := xcell hbX kG1
    have kX2 := xcell hbX kG2
    have kX3 := xcell hbX kG3
    have kX4 := xcell hbX kG4
    have kX5 := xcell hbX kG5
    have kX6 : X.cell? ⟨wg.heap.size, 0, none⟩ = some (.slice (some ⟨x1, 0, none⟩) zs.length zs.length) := by rw [← hX.out]; go_simp
    have kX7 : X.cell? ⟨wg.heap.size, 1, none⟩ = some (.slice (some ⟨x2, 0, none⟩) ys.length ys.length) := by rw [← hX.out]; go_simp
    have X1 := G1.out.mono hbX
    have X2 := G2.out.mono hbX
    have BX : Below w.heap.size w X := xThen BG hbX
    have XI1 := X1.ints
    have XI2 := X2.ints
    clear hX G1 G2 kG0 kG1 kG2 kG3 kG4 kG5 X1 X2
    have hk0 : ∀ xe : ExtW X, xe.u.cell? ⟨w.heap.size, 0, none⟩ = some (.int .i64 p) := fun xe => xe.cell (by go_simp)
    have hk1 : ∀ xe : ExtW X, xe.u.cell? ⟨w.heap.size, 1, none⟩ = some (.int .i64 c) := fun xe => xe.cell (by go_simp)
    have hk2 : ∀ xe : ExtW X, xe.u.cell? ⟨w.heap.size, 2, none⟩ = some (.int .i64 h) := fun xe => xe.cell (by go_simp)
    have hk3 : ∀ xe : ExtW X, xe.u.cell? ⟨w.heap.size, 3, none⟩ = some (.int .i64 s) := fun xe => xe.cell (by go_simp)
    have hk4 : ∀ xe : ExtW X, xe.u.cell? ⟨wg.heap.size, 0, none⟩ = some (.slice (some ⟨x1,0,none⟩) zs.length zs.length) := fun xe => xe.cell (by go_simp)
    have hk5 : ∀ xe : ExtW X, xe.u.cell? ⟨wg.heap.size, 1, none⟩ = some (.slice (some ⟨x2,0,none⟩) ys.length ys.length) := fun xe => xe.cell (by go_simp)
    have hne : Nonempty (ExtW X) := ⟨⟨_, Below.refl _ _⟩⟩
    refine wp_region_ext (by kernel_rfl) (by kernel_rfl) ?_
    repeat (quiet_step ((first | (go_at_call 15; exact ext_call (toVariant_any _ _ _ _ _)) | (go_at_call 17; exact ext_call (implResultOf_any _ _ _ _ _ _ zs ys _ (XI1.mono (ExtW.b _)) (XI2.mono (ExtW.b _)))))))
    refine wpQuiet_nil ?_
    rintro w1 ⟨⟨_, hb⟩, rfl⟩
    obtain ⟨hc, hf⟩ := bcell hb
    have hsz := hb.size
    (try simp at hsz)
    (try have hy0 : w.heap.size < w1.heap.size := by omega)
    (try have hy1 : w.heap.size + 1 < w1.heap.size := by omega)
    (try have hy2 : w.heap.size + 2 < w1.heap.size := by omega)
    (try have hyS : ws.heap.size < w1.heap.size := by omega)
    (try have hyG : wg.heap.size < w1.heap.size := by omega)
    have kY0 := xcell hb kX0
    have kY1 := xcell hb kX1
    have kY2 := xcell hb kX2
    have kY3 := xcell hb kX3
    have kY4 := xcell hb kX4
    have kY5 := xcell hb kX5
    have kY6 := xcell hb kX6
    have kY7 := xcell hb kX7
    have BY : Below w.heap.size w w1 := xThen BX hb
    have Y1 := XI1.mono hb
    have Y2 := XI2.mono hb
    clear kX0 kX1 kX2 kX3 kX4 kX5 kX6 kX7 hc hf XI1 XI2
    go_wp2_with fail
    have hk0 : ∀ xe : ExtW w1, xe.u.cell? ⟨w.heap.size + 1, 0, none⟩ = some (.slice a1 zs.length k1) := fun xe => xe.cell (by go_simp)
    have hk1 : ∀ xe : ExtW w1, xe.u.cell? ⟨w.heap.size + 1, 1, none⟩ = some (.slice a2 ys.length k2) := fun xe => xe.cell (by go_simp)
    have hk2 : ∀ xe : ExtW w1, xe.u.cell? ⟨wg.heap.size, 0, none⟩ = some (.slice (some ⟨x1,0,none⟩) zs.length zs.length) := fun xe => xe.cell (by go_simp)
    have hk3 : ∀ xe : ExtW w1, xe.u.cell? ⟨wg.heap.size, 1, none⟩ = some (.slice (some ⟨x2,0,none⟩) ys.length ys.length) := fun xe => xe.cell (by go_simp)
    have hne : Nonempty (ExtW w1) := ⟨⟨_, Below.refl _ _⟩⟩
    refine wp_region_oth2 [true, true, false, false, false] [2, 3, 4] (by kernel_rfl) (by kernel_rfl) ?_
    simp only [sift]
    repeat (refine wpRel_step (fun K hK => ?_); simp only [relAt]; go_simp; first | (refine hK _ ?_; clear hK K) | (apply Exists.intro; refine ⟨fun _ => ?_, hK _ ?_⟩; ((first | fail)); clear hK K))
    refine wpRel_nil ?_
    clear hk0 hk1 hk2 hk3 hne
    refine wpOth_op rfl rfl (fun ya hya => ?_)
    unfold othAt
    go_simp
    refine (toBoard_any _ _ zs ys _ (H1.out.mono (xThen BY hya)) (H2.out.mono (xThen BY hya))).mono ?_
    rintro e yb ⟨c1, c2, rfl, f1, f2, hyb⟩
    have Cb := xThen hya hyb
    refine ⟨_, rfl, Cb, ?_⟩
    refine wpOth_op rfl rfl (fun yc hyc => ?_)
    unfold othAt
    go_simp
    refine (eqBoard_any _ _ _ _ zs ys _ (Y1.mono (xThen Cb hyc)) (Y2.mono (xThen Cb hyc)) (f1.mono hyc).ints (f2.mono hyc).ints).mono ?_
    rintro e yd ⟨rfl, hyd⟩
    have Cd := xThen (xThen Cb hyc) hyd
    refine ⟨_, rfl, Cd, ?_⟩
    refine wpOth_op rfl rfl (fun ye hye => ?_)
    unfold othAt
    go_simp
    refine ⟨xThen Cd hye, fun yf hyf => ?_⟩
    have Cf2 := xThen BY (xThen (xThen Cd hye) hyf)
    go_wp2
    go_ret
    exact ⟨rfl, Cf2⟩
end Go.Proofs.Ytmcjabodkjlkgaa
