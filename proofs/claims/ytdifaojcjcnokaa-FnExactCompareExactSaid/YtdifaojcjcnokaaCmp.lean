/-
  Contracts of both comparisons of numbers.
-/
import Derived.Test.YtdifaojcjcnokaaMathCmp
import Derived.Test.YtdifaojcjcnokaaFresh
namespace Go.Proofs.Ytdifaojcjcnokaa
open Go.RowKit

theorem mul64_at (x y hi lo : Nat) (hx : x < 18446744073709551616) (hy : y < 18446744073709551616) (e1 : hi = x * y / 18446744073709551616) (e2 : lo = x * y % 18446744073709551616) (w : World) :
    Calls Try.prog 79 #[.int .u64 x, .int .u64 y] w fun e w' => e = .returned (.tuple #[.int .u64 hi, .int .u64 lo]) ∧ w = w' := by
  subst e1 e2
  refine (mul64_any x y hx hy w).mono ?_
  rintro e w' ⟨rfl, rfl⟩
  exact ⟨rfl, rfl⟩

theorem signed (x : Int) (P : Nat) : x * (P : Int) = if x < 0 then -((x.natAbs * P : Nat) : Int) else ((x.natAbs * P : Nat) : Int) := by
  split
  · next h =>
    rw [Int.natCast_mul, ← Int.neg_mul, show -(x.natAbs : Int) = x by omega]
  · next h =>
    rw [Int.natCast_mul, show (x.natAbs : Int) = x by omega]

set_option maxHeartbeats 800000 in
theorem compare_any (p c h s x y : Int) (b dx dy : Nat) (hBs : Base s b) (hx : exB b x dx = true) (hy : exB b y dy = true) (w : World) :
    Calls Try.prog 75 #[.agg #[.int .i64 p, .int .i64 c, .int .i64 h, .int .i64 s], .agg #[.int .i64 x, .int .i64 dx], .agg #[.int .i64 y, .int .i64 dy]] w fun e w' =>
      e = .returned (.int .i64 (cmp (x * (b : Int) ^ dy) (y * (b : Int) ^ dx))) ∧ Below w.heap.size w w' := by
  obtain ⟨_, hx2, hx3, hx4, hx5⟩ := exB_true hx
  obtain ⟨_, hy2, hy3, hy4, hy5⟩ := exB_true hy
  rw [Int.toNat_natCast] at hx4 hx5 hy4 hy5
  have HB := hid hBs
  have HX4 := hid hx4
  have HY4 := hid hy4
  have hP1 : 1 ≤ b ^ dy := Nat.pow_pos hBs.2.2.2.1
  have hQ1 : 1 ≤ b ^ dx := Nat.pow_pos hBs.2.2.2.1
  have cP : (b : Int) ^ dy = ((b ^ dy : Nat) : Int) := (Int.natCast_pow _ _).symm
  have cQ : (b : Int) ^ dx = ((b ^ dx : Nat) : Int) := (Int.natCast_pow _ _).symm
  rw [cP, cQ]
  obtain ⟨P, HP⟩ := named (b ^ dy)
  obtain ⟨Q, HQ⟩ := named (b ^ dx)
  rw [← HP.out] at hP1 hy4
  rw [← HQ.out] at hQ1 hx4
  rw [← HP.out, ← HQ.out]
  clear cP cQ hx5 hy5 hx hy hBs
  obtain ⟨hi, HHI⟩ := named (x.natAbs * P / 18446744073709551616)
  obtain ⟨lo, HLO⟩ := named (x.natAbs * P % 18446744073709551616)
  obtain ⟨hj, HHJ⟩ := named (y.natAbs * Q / 18446744073709551616)
  obtain ⟨lj, HLJ⟩ := named (y.natAbs * Q % 18446744073709551616)
  obtain ⟨cc, HC⟩ := named (cmp (x * (P : Int)) (y * (Q : Int)))
  rw [← HC.out]
  by_cases sx : x < 0
  all_goals by_cases sy : y < 0
  all_goals
    go_enter Try.func75, Try.ntmps75
    go_wp2_with (first | (go_at_call 65; (with_reducible refine (scaleOf_pow _ _ _ _ b dy dy P HB.out (Nat.le_refl _) HY4.out (by omega) HP.out.symm _).mono ?_); rintro e wp ⟨rfl, hb⟩; obtain ⟨hc, hf⟩ := bcell hb; have hsz := hb.size; (try simp at hsz); (try have hy0 : w.heap.size < wp.heap.size := by omega); (try have hy1 : w.heap.size + 1 < wp.heap.size := by omega); (try have hy2 : w.heap.size + 2 < wp.heap.size := by omega); (try have hyS : ws.heap.size < wp.heap.size := by omega); (try have hyG : wg.heap.size < wp.heap.size := by omega)) | (go_at_call 65; (with_reducible refine (scaleOf_pow _ _ _ _ b dx dx Q HB.out (Nat.le_refl _) HX4.out (by omega) HQ.out.symm _).mono ?_); rintro e wq ⟨rfl, hb⟩; obtain ⟨hc, hf⟩ := bcell hb; have hsz := hb.size; (try simp at hsz); (try have hy0 : w.heap.size < wq.heap.size := by omega); (try have hy1 : w.heap.size + 1 < wq.heap.size := by omega); (try have hy2 : w.heap.size + 2 < wq.heap.size := by omega); (try have hyS : ws.heap.size < wq.heap.size := by omega); (try have hyG : wg.heap.size < wq.heap.size := by omega)) | (go_at_call 78; refine (absolute_any _ (by omega) _).mono ?_; rintro e w' ⟨rfl, rfl⟩) | (go_at_call 79; (with_reducible refine (mul64_at _ P hi lo (by omega) (by omega) HHI.out HLO.out _).mono ?_); rintro e w' ⟨rfl, rfl⟩) | (go_at_call 79; (with_reducible refine (mul64_at _ Q hj lj (by omega) (by omega) HHJ.out HLJ.out _).mono ?_); rintro e w' ⟨rfl, rfl⟩))
  all_goals
    go_ret
    refine ⟨ret_int ?_, by (repeat' (first | exact Below.refl _ _ | (with_reducible assumption) | (with_reducible refine xAlloc ?_ _) | (with_reducible refine Below.drew ?_) | (with_reducible refine xDrewN ?_ _) | (with_reducible refine xThen ?_ (by with_reducible assumption)) | (with_reducible refine Below.setCell ?_ (by first | omega | (simp; omega) | simp) _)))⟩
    have eX := signed x P
    have eY := signed y Q
    have e1 := HHI.out
    have e2 := HLO.out
    have e3 := HHJ.out
    have e4 := HLJ.out
    have p1 : x < 0 → 0 < x.natAbs * P := fun h => Nat.mul_pos (by omega) (by omega)
    have p2 : y < 0 → 0 < y.natAbs * Q := fun h => Nat.mul_pos (by omega) (by omega)
    rw [HC.out]
    unfold cmp
    rw [eX, eY]
    clear HHI HLO HHJ HLJ HC HP HQ eX eY HB HX4 HY4
    generalize x.natAbs * P = A at *
    generalize y.natAbs * Q = B at *
    try simp only [beq_iff_eq, beq_eq_false_iff_ne, ne_eq] at *
    (repeat' split) <;> omega
end Go.Proofs.Ytdifaojcjcnokaa
