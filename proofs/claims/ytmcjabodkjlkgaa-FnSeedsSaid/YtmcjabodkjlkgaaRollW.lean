/-
  Contracts of RollWeight for the rolls of a valid variant, and of the laws' look at the length of their bytes.
-/
import Derived.Test.YtmcjabodkjlkgaaStrat
namespace Go.Proofs.Ytmcjabodkjlkgaa
open Go.RowKit

theorem big_any (a : Option Addr) (len cap : Nat) (w : World) :
    Calls Try.prog 19 #[.slice a len cap] w fun e w' => e = .returned (.bool (decide (4096 < len))) ∧ w = w' := by
  go_enter Try.func19, Try.ntmps19
  go_wp2
  go_ret
  exact ⟨by simp; omega, rfl⟩
theorem l07Weight_any (x y : Int) (w : World) :
    Calls Try.prog 104 #[.agg #[.int .i64 x, .int .i64 y]] w fun e w' => e = .returned (.int .i64 (if x = y then 1 else 2)) ∧ Below w.heap.size w w' := by
  by_cases hxy : x = y
  · subst hxy
    go_enter Try.func104, Try.ntmps104
    go_wp2
    go_ret
    exact ⟨by simp, by (repeat' (first | (with_reducible exact Below.refl _ _) | (with_reducible assumption) | (with_reducible refine xAlloc ?_ _) | (with_reducible refine Below.drew ?_) | (with_reducible refine xDrewN ?_ _) | (with_reducible refine xThen ?_ (by with_reducible assumption)) | (with_reducible refine Below.setCell ?_ (by first | omega | (simp; omega) | simp) _) | exact Below.refl _ _))⟩
  · have hb : (x == y) = false := by simpa using hxy
    go_enter Try.func104, Try.ntmps104
    go_wp2
    go_ret
    exact ⟨by simp, by (repeat' (first | (with_reducible exact Below.refl _ _) | (with_reducible assumption) | (with_reducible refine xAlloc ?_ _) | (with_reducible refine Below.drew ?_) | (with_reducible refine xDrewN ?_ _) | (with_reducible refine xThen ?_ (by with_reducible assumption)) | (with_reducible refine Below.setCell ?_ (by first | omega | (simp; omega) | simp) _) | exact Below.refl _ _))⟩
set_option maxHeartbeats 1000000 in
theorem isRoll_any (p c h s x y : Int) (hv : varB p c h s = true) (hx : x ≤ s) (hy : 1 ≤ y) (hyx : y ≤ x) (w : World) :
    Calls Try.prog 103 #[.agg #[.int .i64 p, .int .i64 c, .int .i64 h, .int .i64 s], .agg #[.int .i64 x, .int .i64 y]] w fun e w' => e = .returned (.bool true) ∧ Below w.heap.size w w' := by
  have HV := hid hv
  clear hv
  have e1 : inB x 1 s = true := by unfold inB; simp; omega
  have e2 : inB y 1 x = true := by unfold inB; simp; omega
  have E1 := hid e1
  have E2 := hid e2
  clear e1 e2
  go_enter Try.func103, Try.ntmps103
  go_wp2_with (first | (go_at_call 67; (with_reducible refine (specIsVariant_any _ _ _ _ _).mono ?_); rw [HV.out]; rintro e w1 ⟨rfl, hb⟩; obtain ⟨hc, hf⟩ := bcell hb; have hsz := hb.size; (try simp at hsz); (try have hy0 : w.heap.size < w1.heap.size := by omega); (try have hy1 : w.heap.size + 1 < w1.heap.size := by omega); (try have hy2 : w.heap.size + 2 < w1.heap.size := by omega); (try have hyS : ws.heap.size < w1.heap.size := by omega); (try have hyG : wg.heap.size < w1.heap.size := by omega)) | (go_at_call 80; (with_reducible refine (l01In_any _ _ _ _).mono ?_); (first | rw [E1.out] | rw [E2.out]); rintro e w2 ⟨rfl, rfl⟩))
  go_ret
  exact ⟨rfl, by (repeat' (first | (with_reducible exact Below.refl _ _) | (with_reducible assumption) | (with_reducible refine xAlloc ?_ _) | (with_reducible refine Below.drew ?_) | (with_reducible refine xDrewN ?_ _) | (with_reducible refine xThen ?_ (by with_reducible assumption)) | (with_reducible refine Below.setCell ?_ (by first | omega | (simp; omega) | simp) _) | exact Below.refl _ _))⟩
set_option maxHeartbeats 1000000 in
theorem rollWeight_any (p c h s x y : Int) (hv : varB p c h s = true) (hx : x ≤ s) (hy : 1 ≤ y) (hyx : y ≤ x) (w : World) :
    Calls Try.prog 52 #[.agg #[.int .i64 p, .int .i64 c, .int .i64 h, .int .i64 s], .agg #[.int .i64 x, .int .i64 y]] w fun e w' => e = .returned (.int .i64 (if x = y then 1 else 2)) ∧ Below w.heap.size w w' := by
  go_enter Try.func52, Try.ntmps52
  go_wp2_with (first | (go_at_call 103; refine (isRoll_any p c h s x y hv hx hy hyx _).mono ?_; rintro e w1 ⟨rfl, hb⟩; obtain ⟨hc, hf⟩ := bcell hb; have hsz := hb.size; (try simp at hsz); (try have hy0 : w.heap.size < w1.heap.size := by omega); (try have hy1 : w.heap.size + 1 < w1.heap.size := by omega); (try have hy2 : w.heap.size + 2 < w1.heap.size := by omega); (try have hyS : ws.heap.size < w1.heap.size := by omega); (try have hyG : wg.heap.size < w1.heap.size := by omega)) | (go_at_call 104; refine (l07Weight_any _ _ _).mono ?_; rintro e w1 ⟨rfl, hb⟩; obtain ⟨hc, hf⟩ := bcell hb; have hsz := hb.size; (try simp at hsz); (try have hy0 : w.heap.size < w1.heap.size := by omega); (try have hy1 : w.heap.size + 1 < w1.heap.size := by omega); (try have hy2 : w.heap.size + 2 < w1.heap.size := by omega); (try have hyS : ws.heap.size < w1.heap.size := by omega); (try have hyG : wg.heap.size < w1.heap.size := by omega)))
  all_goals
    go_ret
    exact ⟨by first | rfl | (simp [*]; done) | simp_all, by (repeat' (first | (with_reducible exact Below.refl _ _) | (with_reducible assumption) | (with_reducible refine xAlloc ?_ _) | (with_reducible refine Below.drew ?_) | (with_reducible refine xDrewN ?_ _) | (with_reducible refine xThen ?_ (by with_reducible assumption)) | (with_reducible refine Below.setCell ?_ (by first | omega | (simp; omega) | simp) _) | exact Below.refl _ _))⟩
end Go.Proofs.Ytmcjabodkjlkgaa
