/-
  Contracts: products of exact numbers, the reference's.
-/
import Derived.Test.YtghfpidpefdndaaVAdd2
import Derived.Test.YtghfpidpefdndaaMathMu
namespace Go.Proofs.Ytghfpidpefdndaa
open Go.RowKit
set_option linter.unusedSimpArgs false
set_option linter.unusedVariables false
theorem mkD_far {v : DVar} {n : Int} {d : Nat} (h : 1000000000000000000 < (strip (bsD v) d n).1.natAbs) : mkD v n d = ((0, 0), false) := by
  unfold mkD
  rw [if_neg]
  have : inB (strip (bsD v) d n).1 (-1000000000000000000) 1000000000000000000 = false := by
    generalize (strip (bsD v) d n).1 = Z at *
    simp [inB]; omega
  simp [exD, this]
def c_spec_l09Mul : Con where
  ins := [(true, .v tVar), (true, .v tRoll), (false, .v tI)]
  outs := [(true, .v tRoll), (false, .v .b)]
  sh := false
  pre := fun x => (varD x.1 = true ∧ exD x.1 x.2.1 = true) ∧ -1000 ≤ x.2.2.1 ∧ x.2.2.1 ≤ 1000
  out := fun x => ((mkD x.1 (x.2.1.1 * x.2.2.1) (Int.toNat x.2.1.2)).1, (mkD x.1 (x.2.1.1 * x.2.2.1) (Int.toNat x.2.1.2)).2, ())
  upd := fun x => x
theorem k_spec_l09Mul : ConOk Try.prog 138 c_spec_l09Mul := by
  refine fn_okW (C := cx Try.prog 65 c_spec_l09Mul) (cs := [(161, c_spec_l09Scale), (211, c_spec_l09Gcd), (212, c_spec_l09Times), (213, c_spec_l09Fit)]) (res := Try.f138.results.toList) (fun _ => ⟨[], [(3, ⟨[[], [0], [], [2], [], [], [4, 5], [2, 3, 4, 5, 6], [0, 1, 2, 3, 4, 5, 6, 7], [], [], [9, 10], [0, 1, 2, 3, 4, 5, 6, 7, 8, 9, 10, 11], [0, 1, 2, 3, 4, 5, 6, 7, 8, 9, 10, 11, 12], [0, 1, 2, 3, 4, 5, 6, 7, 8, 9, 10, 11, 12, 13], [0, 1, 2, 3, 4, 5, 6, 7, 8, 9, 10, 11, 12, 13], [0, 1, 2, 3, 4, 5, 6, 7, 8, 9, 10, 11, 12, 13, 14], [0, 1, 2, 3, 4, 5, 6, 7, 8, 9, 10, 11, 12, 13, 14, 15, 16]], [[2, 3, 4, 5, 6, 7, 9, 10, 11], [2, 3, 4, 5, 6, 7, 9, 10, 11], [0, 1, 4, 5, 6, 9, 10, 11], [0, 1, 4, 5, 6, 9, 10, 11], [0, 1, 2, 3, 5, 9, 10, 11], [0, 1, 2, 3, 4, 9, 10, 11], [0, 1, 2, 3, 9, 10, 11], [0, 1, 9, 10, 11], [9, 10, 11], [0, 1, 2, 3, 4, 5, 6, 7, 8, 10], [0, 1, 2, 3, 4, 5, 6, 7, 8, 9], [0, 1, 2, 3, 4, 5, 6, 7, 8], [], [], [15], [14, 16], [15], []], []⟩), (6, ⟨[[], [], [], [], [2, 3], [], [5], [], [], [7, 8], [5, 6, 7, 8, 9], [2, 3, 4, 5, 6, 7, 8, 9, 10], [0, 1, 2, 3, 4, 5, 6, 7, 8, 9, 10, 11], [0, 1, 2, 3, 4, 5, 6, 7, 8, 9, 10, 11, 12], [0, 1, 2, 3, 4, 5, 6, 7, 8, 9, 10, 11, 12, 13], [0, 1, 2, 3, 4, 5, 6, 7, 8, 9, 10, 11, 12, 13], [], [0, 1, 2, 3, 4, 5, 6, 7, 8, 9, 10, 11, 12, 13, 14, 16], [0, 1, 2, 3, 4, 5, 6, 7, 8, 9, 10, 11, 12, 13, 14, 15, 16, 17]], [[1, 2, 3, 4, 5, 6, 7, 8, 9, 10, 11, 16], [0, 2, 3, 4, 5, 6, 7, 8, 9, 10, 11, 16], [0, 1, 3, 5, 6, 7, 8, 9, 10, 16], [0, 1, 2, 5, 6, 7, 8, 9, 10, 16], [0, 1, 5, 6, 7, 8, 9, 10, 16], [0, 1, 2, 3, 4, 7, 8, 9, 16], [0, 1, 2, 3, 4, 7, 8, 9, 16], [0, 1, 2, 3, 4, 5, 6, 8, 16], [0, 1, 2, 3, 4, 5, 6, 7, 16], [0, 1, 2, 3, 4, 5, 6, 16], [0, 1, 2, 3, 4, 16], [0, 1, 16], [16], [16], [15, 16], [14, 16, 17], [0, 1, 2, 3, 4, 5, 6, 7, 8, 9, 10, 11, 12, 13, 14, 15], [15], []], []⟩)], []⟩) Try.func138 (by kernel_rfl) rfl rfl rfl tysOk.look eqTsOk.look (AllCs.ok (l := [(161, c_spec_l09Scale), (211, c_spec_l09Gcd), (212, c_spec_l09Times), (213, c_spec_l09Fit)]) ⟨k_spec_l09Scale, k_spec_l09Gcd, k_spec_l09Times, k_spec_l09Fit, trivial⟩) mixed rfl rfl rfl ?_
  refine of_nf (P := ∀ v : Int × Int × Int × Int, ∀ x : Int × Int, ∀ k : Int, ((varD v = true ∧ exD v x = true) ∧ -1000 ≤ k ∧ k ≤ 1000) → ((lensI c_spec_l09Mul.ins (v, x, k, ())) → ((varD v = true ∧ x.2 ≤ 9223372036854775807) ∧ (((-9223372036854775807 ≤ k ∧ k ≤ 9223372036854775807) ∧ -9223372036854775807 ≤ (sclV (bsD v) x.2 : Int) ∧ (sclV (bsD v) x.2 : Int) ≤ 9223372036854775807) ∧ (((max (1 : Int) (Nat.gcd (Int.natAbs k) (Int.natAbs (sclV (bsD v) x.2 : Int)) : Int)) ≠ 0) ∧ ((inK .i64 (Int.tdiv (sclV (bsD v) x.2 : Int) (max (1 : Int) (Nat.gcd (Int.natAbs k) (Int.natAbs (sclV (bsD v) x.2 : Int)) : Int)))) ∧ (((-9223372036854775807 ≤ x.1 ∧ x.1 ≤ 9223372036854775807) ∧ -9223372036854775807 ≤ (Int.tdiv (sclV (bsD v) x.2 : Int) (max (1 : Int) (Nat.gcd (Int.natAbs k) (Int.natAbs (sclV (bsD v) x.2 : Int)) : Int))) ∧ (Int.tdiv (sclV (bsD v) x.2 : Int) (max (1 : Int) (Nat.gcd (Int.natAbs k) (Int.natAbs (sclV (bsD v) x.2 : Int)) : Int))) ≤ 9223372036854775807) ∧ (((Nat.gcd (Int.natAbs x.1) (Int.natAbs (Int.tdiv (sclV (bsD v) x.2 : Int) (max (1 : Int) (Nat.gcd (Int.natAbs k) (Int.natAbs (sclV (bsD v) x.2 : Int)) : Int)))) : Int) ≠ 0) ∧ ((inK .i64 (Int.tdiv x.1 (Nat.gcd (Int.natAbs x.1) (Int.natAbs (Int.tdiv (sclV (bsD v) x.2 : Int) (max (1 : Int) (Nat.gcd (Int.natAbs k) (Int.natAbs (sclV (bsD v) x.2 : Int)) : Int)))) : Int))) ∧ (((max (1 : Int) (Nat.gcd (Int.natAbs k) (Int.natAbs (sclV (bsD v) x.2 : Int)) : Int)) ≠ 0) ∧ ((inK .i64 (Int.tdiv k (max (1 : Int) (Nat.gcd (Int.natAbs k) (Int.natAbs (sclV (bsD v) x.2 : Int)) : Int)))) ∧ (((-9223372036854775807 ≤ (Int.tdiv x.1 (Nat.gcd (Int.natAbs x.1) (Int.natAbs (Int.tdiv (sclV (bsD v) x.2 : Int) (max (1 : Int) (Nat.gcd (Int.natAbs k) (Int.natAbs (sclV (bsD v) x.2 : Int)) : Int)))) : Int)) ∧ (Int.tdiv x.1 (Nat.gcd (Int.natAbs x.1) (Int.natAbs (Int.tdiv (sclV (bsD v) x.2 : Int) (max (1 : Int) (Nat.gcd (Int.natAbs k) (Int.natAbs (sclV (bsD v) x.2 : Int)) : Int)))) : Int)) ≤ 9223372036854775807) ∧ -9223372036854775807 ≤ (Int.tdiv k (max (1 : Int) (Nat.gcd (Int.natAbs k) (Int.natAbs (sclV (bsD v) x.2 : Int)) : Int))) ∧ (Int.tdiv k (max (1 : Int) (Nat.gcd (Int.natAbs k) (Int.natAbs (sclV (bsD v) x.2 : Int)) : Int))) ≤ 9223372036854775807) ∧ (bsp (!(timesD (Int.tdiv x.1 (Nat.gcd (Int.natAbs x.1) (Int.natAbs (Int.tdiv (sclV (bsD v) x.2 : Int) (max (1 : Int) (Nat.gcd (Int.natAbs k) (Int.natAbs (sclV (bsD v) x.2 : Int)) : Int)))) : Int)) (Int.tdiv k (max (1 : Int) (Nat.gcd (Int.natAbs k) (Int.natAbs (sclV (bsD v) x.2 : Int)) : Int))))) (@Eq (HO c_spec_l09Mul.outs) ((0, 0), false, ()) (c_spec_l09Mul.out (v, x, k, ()))) (((max (1 : Int) (Nat.gcd (Int.natAbs k) (Int.natAbs (sclV (bsD v) x.2 : Int)) : Int)) ≠ 0) ∧ ((inK .i64 (Int.tdiv (sclV (bsD v) x.2 : Int) (max (1 : Int) (Nat.gcd (Int.natAbs k) (Int.natAbs (sclV (bsD v) x.2 : Int)) : Int)))) ∧ (((max (1 : Int) (Nat.gcd (Int.natAbs k) (Int.natAbs (sclV (bsD v) x.2 : Int)) : Int)) ≠ 0) ∧ ((inK .i64 (Int.tdiv (sclV (bsD v) x.2 : Int) (max (1 : Int) (Nat.gcd (Int.natAbs k) (Int.natAbs (sclV (bsD v) x.2 : Int)) : Int)))) ∧ (((-9223372036854775807 ≤ x.1 ∧ x.1 ≤ 9223372036854775807) ∧ -9223372036854775807 ≤ (Int.tdiv (sclV (bsD v) x.2 : Int) (max (1 : Int) (Nat.gcd (Int.natAbs k) (Int.natAbs (sclV (bsD v) x.2 : Int)) : Int))) ∧ (Int.tdiv (sclV (bsD v) x.2 : Int) (max (1 : Int) (Nat.gcd (Int.natAbs k) (Int.natAbs (sclV (bsD v) x.2 : Int)) : Int))) ≤ 9223372036854775807) ∧ (((Nat.gcd (Int.natAbs x.1) (Int.natAbs (Int.tdiv (sclV (bsD v) x.2 : Int) (max (1 : Int) (Nat.gcd (Int.natAbs k) (Int.natAbs (sclV (bsD v) x.2 : Int)) : Int)))) : Int) ≠ 0) ∧ ((inK .i64 (Int.tdiv (Int.tdiv (sclV (bsD v) x.2 : Int) (max (1 : Int) (Nat.gcd (Int.natAbs k) (Int.natAbs (sclV (bsD v) x.2 : Int)) : Int))) (Nat.gcd (Int.natAbs x.1) (Int.natAbs (Int.tdiv (sclV (bsD v) x.2 : Int) (max (1 : Int) (Nat.gcd (Int.natAbs k) (Int.natAbs (sclV (bsD v) x.2 : Int)) : Int)))) : Int))) ∧ ((varD v = true ∧ FitP v (if timesD (Int.tdiv x.1 (Nat.gcd (Int.natAbs x.1) (Int.natAbs (Int.tdiv (sclV (bsD v) x.2 : Int) (max (1 : Int) (Nat.gcd (Int.natAbs k) (Int.natAbs (sclV (bsD v) x.2 : Int)) : Int)))) : Int)) (Int.tdiv k (max (1 : Int) (Nat.gcd (Int.natAbs k) (Int.natAbs (sclV (bsD v) x.2 : Int)) : Int))) then (Int.tdiv x.1 (Nat.gcd (Int.natAbs x.1) (Int.natAbs (Int.tdiv (sclV (bsD v) x.2 : Int) (max (1 : Int) (Nat.gcd (Int.natAbs k) (Int.natAbs (sclV (bsD v) x.2 : Int)) : Int)))) : Int)) * (Int.tdiv k (max (1 : Int) (Nat.gcd (Int.natAbs k) (Int.natAbs (sclV (bsD v) x.2 : Int)) : Int))) else 0) (Int.tdiv (Int.tdiv (sclV (bsD v) x.2 : Int) (max (1 : Int) (Nat.gcd (Int.natAbs k) (Int.natAbs (sclV (bsD v) x.2 : Int)) : Int))) (Nat.gcd (Int.natAbs x.1) (Int.natAbs (Int.tdiv (sclV (bsD v) x.2 : Int) (max (1 : Int) (Nat.gcd (Int.natAbs k) (Int.natAbs (sclV (bsD v) x.2 : Int)) : Int)))) : Int))) ∧ (bsp (!(fitD v (if timesD (Int.tdiv x.1 (Nat.gcd (Int.natAbs x.1) (Int.natAbs (Int.tdiv (sclV (bsD v) x.2 : Int) (max (1 : Int) (Nat.gcd (Int.natAbs k) (Int.natAbs (sclV (bsD v) x.2 : Int)) : Int)))) : Int)) (Int.tdiv k (max (1 : Int) (Nat.gcd (Int.natAbs k) (Int.natAbs (sclV (bsD v) x.2 : Int)) : Int))) then (Int.tdiv x.1 (Nat.gcd (Int.natAbs x.1) (Int.natAbs (Int.tdiv (sclV (bsD v) x.2 : Int) (max (1 : Int) (Nat.gcd (Int.natAbs k) (Int.natAbs (sclV (bsD v) x.2 : Int)) : Int)))) : Int)) * (Int.tdiv k (max (1 : Int) (Nat.gcd (Int.natAbs k) (Int.natAbs (sclV (bsD v) x.2 : Int)) : Int))) else 0) (Int.toNat (Int.tdiv (Int.tdiv (sclV (bsD v) x.2 : Int) (max (1 : Int) (Nat.gcd (Int.natAbs k) (Int.natAbs (sclV (bsD v) x.2 : Int)) : Int))) (Nat.gcd (Int.natAbs x.1) (Int.natAbs (Int.tdiv (sclV (bsD v) x.2 : Int) (max (1 : Int) (Nat.gcd (Int.natAbs k) (Int.natAbs (sclV (bsD v) x.2 : Int)) : Int)))) : Int)))).2) (@Eq (HO c_spec_l09Mul.outs) ((0, 0), false, ()) (c_spec_l09Mul.out (v, x, k, ()))) (@Eq (HO c_spec_l09Mul.outs) ((fitD v (if timesD (Int.tdiv x.1 (Nat.gcd (Int.natAbs x.1) (Int.natAbs (Int.tdiv (sclV (bsD v) x.2 : Int) (max (1 : Int) (Nat.gcd (Int.natAbs k) (Int.natAbs (sclV (bsD v) x.2 : Int)) : Int)))) : Int)) (Int.tdiv k (max (1 : Int) (Nat.gcd (Int.natAbs k) (Int.natAbs (sclV (bsD v) x.2 : Int)) : Int))) then (Int.tdiv x.1 (Nat.gcd (Int.natAbs x.1) (Int.natAbs (Int.tdiv (sclV (bsD v) x.2 : Int) (max (1 : Int) (Nat.gcd (Int.natAbs k) (Int.natAbs (sclV (bsD v) x.2 : Int)) : Int)))) : Int)) * (Int.tdiv k (max (1 : Int) (Nat.gcd (Int.natAbs k) (Int.natAbs (sclV (bsD v) x.2 : Int)) : Int))) else 0) (Int.toNat (Int.tdiv (Int.tdiv (sclV (bsD v) x.2 : Int) (max (1 : Int) (Nat.gcd (Int.natAbs k) (Int.natAbs (sclV (bsD v) x.2 : Int)) : Int))) (Nat.gcd (Int.natAbs x.1) (Int.natAbs (Int.tdiv (sclV (bsD v) x.2 : Int) (max (1 : Int) (Nat.gcd (Int.natAbs k) (Int.natAbs (sclV (bsD v) x.2 : Int)) : Int)))) : Int)))).1, true, ()) (c_spec_l09Mul.out (v, x, k, ()))))))))))))))))))))))))) (by kernel_rfl) ?_
  rintro v x k ⟨⟨hv, hex⟩, k0, k1⟩ hl
  obtain ⟨-, b1, b2, s1, s2⟩ := bsD_facts hv
  obtain ⟨⟨⟨x1, x1'⟩, x2, x2'⟩, xb, xs, -⟩ := exD_in hv hex
  have out : ∀ r : DExact × Bool, mkD v (x.1 * k) x.2.toNat = r → @Eq (HO c_spec_l09Mul.outs) (r.1, r.2, ()) (c_spec_l09Mul.out (v, x, k, ())) := fun r h => by subst h; rfl
  rw [scl_ok xs]
  simp only [Int.toNat_natCast, Int.natAbs_natCast]
  obtain ⟨S, hS⟩ : ∃ S, S = bsD v ^ x.2.toNat := ⟨_, rfl⟩
  have hS1 : 1 ≤ S := by rw [hS]; exact Nat.pow_pos b1
  rw [← hS] at xb ⊢
  obtain ⟨d, G, S1, B, a1, k1', P⟩ := parts x.1 k hS1
  have heq := P.eq hS
  have p1 := P.d1
  have p2 := P.g1
  have p3 := P.b1
  have dS : d ≤ S := by rw [P.sd]; exact Nat.le_mul_of_pos_right _ (by rw [P.sg]; exact Nat.mul_pos p2 p3)
  have S1S : S1 ≤ S := by rw [P.sd]; exact Nat.le_mul_of_pos_left _ p1
  have GS1 : G ≤ S1 := by rw [P.sg]; exact Nat.le_mul_of_pos_right _ p3
  have BS1 : B ≤ S1 := by rw [P.sg]; exact Nat.le_mul_of_pos_left _ p2
  have E1 : (S : Int).tdiv (d : Int) = (S1 : Int) := by rw [P.sd, Int.natCast_mul]; exact Int.mul_tdiv_cancel_left _ (by omega)
  have E2 : x.1.tdiv (G : Int) = a1 := by
    have := Int.mul_tdiv_cancel_left (a := (G : Int)) a1 (by omega)
    rwa [← P.xe] at this
  have E3 : k.tdiv (d : Int) = k1' := by
    have := Int.mul_tdiv_cancel_left (a := (d : Int)) k1' (by omega)
    rwa [← P.ke] at this
  have E4 : (S1 : Int).tdiv (G : Int) = (B : Int) := by rw [P.sg, Int.natCast_mul]; exact Int.mul_tdiv_cancel_left _ (by omega)
  have E5 : max 1 (d : Int) = (d : Int) := by omega
  have ax : a1.natAbs ≤ x.1.natAbs := by
    have := congrArg Int.natAbs P.xe
    rw [Int.natAbs_mul, Int.natAbs_natCast] at this
    rw [this]; exact Nat.le_mul_of_pos_left _ p2
  have ak : k1'.natAbs ≤ k.natAbs := by
    have := congrArg Int.natAbs P.ke
    rw [Int.natAbs_mul, Int.natAbs_natCast] at this
    rw [this]; exact Nat.le_mul_of_pos_left _ p1
  simp only [P.gd, E5, E1, Int.natAbs_natCast, P.gg, E2, E3, E4, Int.toNat_natCast]
  have hab : (a1 * k1').natAbs = a1.natAbs * k1'.natAbs := Int.natAbs_mul a1 k1'
  refine ⟨⟨hv, by omega⟩, ⟨⟨by omega, by omega⟩, by omega, by omega⟩, by omega, by simp only [inK]; omega, ⟨⟨by omega, by omega⟩, by omega, by omega⟩, by omega, by simp only [inK]; omega, by omega, by simp only [inK]; omega, ⟨⟨by omega, by omega⟩, by omega, by omega⟩, bspB (fun hn => out ((0, 0), false) (mkD_far ?_)) (fun hy => ?_)⟩
  · have h1 := strip_ge b1 p3 P.co heq
    simp only [Bool.not_eq_true', timesD, decide_eq_false_iff_not] at hn
    omega
  · simp only [Bool.not_eq_false'] at hy
    have hb : (a1 * k1').natAbs ≤ 1000000000000000000 := by
      rw [hab]; simpa [timesD] using hy
    simp only [hy, if_true]
    have g1 : Nat.gcd (a1 * k1').natAbs B = 1 := P.co
    have fA : fitA (a1 * k1') B = a1 * k1' := by unfold fitA; rw [g1]; simp
    have fB : fitB (a1 * k1') B = B := by unfold fitB; rw [g1]; simp
    obtain ⟨q1, q2, q3⟩ := fit_core hv fA fB p3 P.co heq (by omega) (by rw [← hS]; exact xb)
    clear heq hab
    generalize a1 * k1' = m at *
    refine ⟨by omega, by simp only [inK]; omega, by omega, by simp only [inK]; omega, ⟨⟨by omega, by omega⟩, by omega, by omega⟩, by omega, by simp only [inK]; omega, ⟨hv, ⟨by omega, by omega⟩, ⟨by omega, by omega⟩, x.2.toNat, by omega, by rw [← hS]; exact xb, by rw [Int.toNat_natCast, fB]; exact q1⟩, bspB (fun hn => out ((0, 0), false) ?_) (fun hz => ?_)⟩
    · simp only [Bool.not_eq_true'] at hn
      exact mkD_no (by rw [← q2]; exact hn)
    · simp only [Bool.not_eq_false'] at hz
      rw [q2] at hz
      rw [q3 hz]
      have := out (mkD v (x.1 * k) x.2.toNat) rfl
      rwa [hz] at this
end Go.Proofs.Ytghfpidpefdndaa
