/-
  Contracts of both functions that make a roll from a seed.
-/
import Derived.Test.YtmcjabodkjlkgaaRollEq
import Derived.Test.YtmcjabodkjlkgaaTailD
namespace Go.Proofs.Ytmcjabodkjlkgaa
open Go.RowKit

def rollX (s x : Int) : Int := 1 + max (nextS x % s) (nextS (nextS x) % s)
def rollY (s x : Int) : Int := 1 + min (nextS x % s) (nextS (nextS x) % s)

set_option maxHeartbeats 1000000 in
theorem rollFrom_any (p c h s x : Int) (h0 : 1 ≤ s) (h1 : s ≤ 6) (x0 : 0 ≤ x) (x1 : x ≤ 2147483647) (w : World) :
    Calls Try.prog 99 #[.agg #[.int .i64 p, .int .i64 c, .int .i64 h, .int .i64 s], .int .i64 x] w fun e w' => e = .returned (.tuple #[.agg #[.int .i64 (rollX s x), .int .i64 (rollY s x)], .int .i64 (nextS (nextS x))]) ∧ Below w.heap.size w w' := by
  have b1 := nextS_bd x
  have b2 := nextS_bd (nextS x)
  obtain ⟨u, HU⟩ := named (nextS x)
  have HXX : Hid (rollX s x = 1 + max (nextS x % s) (nextS (nextS x) % s)) := hid rfl
  have HYY : Hid (rollY s x = 1 + min (nextS x % s) (nextS (nextS x) % s)) := hid rfl
  rw [← HU.out] at b1 b2 HXX HYY ⊢
  obtain ⟨v, HV⟩ := named (nextS u)
  rw [← HV.out] at b2 HXX HYY ⊢
  have r1 := Int.emod_nonneg u (b := s) (by omega)
  have r2 := Int.emod_lt_of_pos u (b := s) (by omega)
  have r3 := Int.emod_nonneg v (b := s) (by omega)
  have r4 := Int.emod_lt_of_pos v (b := s) (by omega)
  have hs0 : s ≠ 0 := by omega
  go_enter Try.func99, Try.ntmps99
  go_wp2_with (first | (go_at_call 102; (with_reducible refine (nextSeed_any _ _ (by omega) (by omega)).mono ?_); (first | rw [← HU.out] | rw [← HV.out]); rintro e _ ⟨rfl, rfl⟩))
  refine wp_named (fun wr hwr0 => ?_)
  have hwr := hid hwr0
  clear hwr0
  obtain ⟨W, HW⟩ := named (w.alloc (.cells #[.int .i64 p, .int .i64 c, .int .i64 h, .int .i64 s] 29 (0, 0)))
  have e : wr = W.alloc (.cells #[.int .i64 0, .int .i64 0] 42 (0, 0)) := by rw [HW.out]; exact hwr.out.symm
  have HBX : Hid (W.heap[w.heap.size]? = some (.cells #[.int .i64 p, .int .i64 c, .int .i64 h, .int .i64 s] 29 (0, 0))) := hid (of_alloc HW.out.symm)
  have hWs : W.heap.size = w.heap.size + 1 := by rw [HW.out]; simp
  have bW : Below w.heap.size w W := by rw [HW.out]; exact xAlloc (Below.refl _ _) _
  have hbw : Below W.heap.size W wr := by rw [e]; exact xAlloc (Below.refl _ _) _
  have HRB : Hid (wr.heap[W.heap.size]? = some (.cells #[.int .i64 0, .int .i64 0] 42 (0, 0))) := hid (of_alloc e.symm)
  have HBW := hid hbw
  have kW3 : W.cell? ⟨w.heap.size, 3, none⟩ = some (.int .i64 s) := cell_at HBX.out
  have HWS := hid hWs
  clear e hwr hWs hbw HW
  have hk3 := fun xe : ExtW W => xe.cell kW3
  have hne : Nonempty (ExtW W) := ⟨⟨_, Below.refl _ _⟩⟩
  refine wp_region_othB HBW.out [true, true, true, true, true, true, true, true, true, true, true, true, false, true] [12] (by kernel_rfl) (by kernel_rfl) ?_
  simp only [sift]
  repeat (refine wpRel_step (fun K hK => ?_); first | (rw [if_pos (by rfl)]; refine rel_of_quiet rfl ?_; go_big_quiet_op; (refine hK _ ?_; clear hK K)) | (simp only [relAt]; go_simp; first | (refine hK _ ?_; clear hK K) | (apply Exists.intro; refine ⟨fun _ => ?_, hK _ ?_⟩; ((first | (go_at_call 137; exact faces_any _ _ _))); clear hK K)))
  refine wpRel_nil ?_
  clear hk3 hne
  refine wpOth_op rfl rfl (fun wa hba => ?_)
  have HR2 := hid (blk_mono hba HRB.out)
  rw [HWS.out] at HR2
  have z0 := cell_at (o := 0) HR2.out
  have z1 := cell_at (o := 1) HR2.out
  simp at z0 z1
  have e0 := frozen_at (o := 0) HR2.out
  have e1 := frozen_at (o := 1) HR2.out
  unfold othAt
  go_simp
  clear z0 z1 e0 e1
  have C1 : Below W.heap.size W wa := xThen HBW.out hba
  have C2 : Below W.heap.size W (wa.setCell ⟨w.heap.size + 1, 0, none⟩ (.int .i64 (1 + max (u % s) (v % s)))) := Below.setCell C1 (Nat.le_of_eq HWS.out) _
  have C3 : Below W.heap.size W ((wa.setCell ⟨w.heap.size + 1, 0, none⟩ (.int .i64 (1 + max (u % s) (v % s)))).setCell ⟨w.heap.size + 1, 1, none⟩ (.int .i64 (1 + min (u % s) (v % s)))) := Below.setCell C2 (Nat.le_of_eq HWS.out) _
  refine ⟨C3, ?_⟩
  intro w1 hbb
  have HR3 : Hid (w1.heap[w.heap.size + 1]? = some (.cells #[.int .i64 (1 + max (u % s) (v % s)), .int .i64 (1 + min (u % s) (v % s))] 42 (0, 0))) := hid (blk_mono hbb (heap_setCell_at (heap_setCell_at HR2.out)))
  have BZ : Below w.heap.size w w1 := xThen (xThen bW C3) hbb
  have z0 : w1.cell? ⟨w.heap.size + 1, 0, none⟩ = some (.int .i64 (1 + max (u % s) (v % s))) := cell_at HR3.out
  have z1 : w1.cell? ⟨w.heap.size + 1, 1, none⟩ = some (.int .i64 (1 + min (u % s) (v % s))) := cell_at HR3.out
  clear C1 C2 C3 hbb hba bW kW3
  go_wp2
  refine bodyPost_ret (v := ?_) ?_ rfl ?_
  rotate_left
  · simp only [results, Try.results99]
    go_simp
    exact rfl
  exact ⟨by rw [HXX.out, HYY.out], BZ⟩

set_option maxHeartbeats 1000000 in
theorem l07From_any (p c h s x : Int) (h0 : 1 ≤ s) (h1 : s ≤ 6) (x0 : 0 ≤ x) (x1 : x ≤ 2147483647) (w : World) :
    Calls Try.prog 100 #[.agg #[.int .i64 p, .int .i64 c, .int .i64 h, .int .i64 s], .int .i64 x] w fun e w' => e = .returned (.tuple #[.agg #[.int .i64 (rollX s x), .int .i64 (rollY s x)], .int .i64 (nextS (nextS x))]) ∧ Below w.heap.size w w' := by
  have b1 := nextS_bd x
  have b2 := nextS_bd (nextS x)
  obtain ⟨u, HU⟩ := named (nextS x)
  have HXX : Hid (rollX s x = 1 + max (nextS x % s) (nextS (nextS x) % s)) := hid rfl
  have HYY : Hid (rollY s x = 1 + min (nextS x % s) (nextS (nextS x) % s)) := hid rfl
  rw [← HU.out] at b1 b2 HXX HYY ⊢
  obtain ⟨v, HV⟩ := named (nextS u)
  rw [← HV.out] at b2 HXX HYY ⊢
  have r1 := Int.emod_nonneg u (b := s) (by omega)
  have r2 := Int.emod_lt_of_pos u (b := s) (by omega)
  have r3 := Int.emod_nonneg v (b := s) (by omega)
  have r4 := Int.emod_lt_of_pos v (b := s) (by omega)
  have hs0 : s ≠ 0 := by omega
  go_enter Try.func100, Try.ntmps100
  go_wp2_with (first | (go_at_call 134; (with_reducible refine (specNextSeed_any _ _ (by omega) (by omega)).mono ?_); (first | rw [← HU.out] | rw [← HV.out]); rintro e _ ⟨rfl, rfl⟩))
  refine wp_named (fun wr hwr0 => ?_)
  have hwr := hid hwr0
  clear hwr0
  obtain ⟨W, HW⟩ := named (w.alloc (.cells #[.int .i64 p, .int .i64 c, .int .i64 h, .int .i64 s] 29 (0, 0)))
  have e : wr = W.alloc (.cells #[.int .i64 0, .int .i64 0] 42 (0, 0)) := by rw [HW.out]; exact hwr.out.symm
  have HBX : Hid (W.heap[w.heap.size]? = some (.cells #[.int .i64 p, .int .i64 c, .int .i64 h, .int .i64 s] 29 (0, 0))) := hid (of_alloc HW.out.symm)
  have hWs : W.heap.size = w.heap.size + 1 := by rw [HW.out]; simp
  have bW : Below w.heap.size w W := by rw [HW.out]; exact xAlloc (Below.refl _ _) _
  have hbw : Below W.heap.size W wr := by rw [e]; exact xAlloc (Below.refl _ _) _
  have HRB : Hid (wr.heap[W.heap.size]? = some (.cells #[.int .i64 0, .int .i64 0] 42 (0, 0))) := hid (of_alloc e.symm)
  have HBW := hid hbw
  have kW3 : W.cell? ⟨w.heap.size, 3, none⟩ = some (.int .i64 s) := cell_at HBX.out
  have HWS := hid hWs
  clear e hwr hWs hbw HW
  have hk3 := fun xe : ExtW W => xe.cell kW3
  have hne : Nonempty (ExtW W) := ⟨⟨_, Below.refl _ _⟩⟩
  refine wp_region_othB HBW.out [true, true, true, true, true, true, true, true, true, true, true, true, false, true] [12] (by kernel_rfl) (by kernel_rfl) ?_
  simp only [sift]
  repeat (refine wpRel_step (fun K hK => ?_); first | (rw [if_pos (by rfl)]; refine rel_of_quiet rfl ?_; go_big_quiet_op; (refine hK _ ?_; clear hK K)) | (simp only [relAt]; go_simp; first | (refine hK _ ?_; clear hK K) | (apply Exists.intro; refine ⟨fun _ => ?_, hK _ ?_⟩; ((first | (go_at_call 135; exact specFaces_any _ _ _))); clear hK K)))
  refine wpRel_nil ?_
  clear hk3 hne
  refine wpOth_op rfl rfl (fun wa hba => ?_)
  have HR2 := hid (blk_mono hba HRB.out)
  rw [HWS.out] at HR2
  have z0 := cell_at (o := 0) HR2.out
  have z1 := cell_at (o := 1) HR2.out
  simp at z0 z1
  have e0 := frozen_at (o := 0) HR2.out
  have e1 := frozen_at (o := 1) HR2.out
  unfold othAt
  go_simp
  clear z0 z1 e0 e1
  have C1 : Below W.heap.size W wa := xThen HBW.out hba
  have C2 : Below W.heap.size W (wa.setCell ⟨w.heap.size + 1, 0, none⟩ (.int .i64 (1 + max (u % s) (v % s)))) := Below.setCell C1 (Nat.le_of_eq HWS.out) _
  have C3 : Below W.heap.size W ((wa.setCell ⟨w.heap.size + 1, 0, none⟩ (.int .i64 (1 + max (u % s) (v % s)))).setCell ⟨w.heap.size + 1, 1, none⟩ (.int .i64 (1 + min (u % s) (v % s)))) := Below.setCell C2 (Nat.le_of_eq HWS.out) _
  refine ⟨C3, ?_⟩
  intro w1 hbb
  have HR3 : Hid (w1.heap[w.heap.size + 1]? = some (.cells #[.int .i64 (1 + max (u % s) (v % s)), .int .i64 (1 + min (u % s) (v % s))] 42 (0, 0))) := hid (blk_mono hbb (heap_setCell_at (heap_setCell_at HR2.out)))
  have BZ : Below w.heap.size w w1 := xThen (xThen bW C3) hbb
  have z0 : w1.cell? ⟨w.heap.size + 1, 0, none⟩ = some (.int .i64 (1 + max (u % s) (v % s))) := cell_at HR3.out
  have z1 : w1.cell? ⟨w.heap.size + 1, 1, none⟩ = some (.int .i64 (1 + min (u % s) (v % s))) := cell_at HR3.out
  clear C1 C2 C3 hbb hba bW kW3
  go_wp2
  refine bodyPost_ret (v := ?_) ?_ rfl ?_
  rotate_left
  · simp only [results, Try.results100]
    go_simp
    exact rfl
  exact ⟨by rw [HXX.out, HYY.out], BZ⟩
end Go.Proofs.Ytmcjabodkjlkgaa
