/-
  Contracts: comparing exact numbers.
-/
import Derived.Test.YtghfpidpefdndaaVMul
import Derived.Test.YtghfpidpefdndaaVCodeX
namespace Go.Proofs.Ytghfpidpefdndaa
open Go.RowKit
set_option linter.unusedSimpArgs false
set_option linter.unusedVariables false
/-- x.1 over the depth of y, and y.1 over the depth of x -/
def cmpD (v : DVar) (x y : DExact) : Int :=
  if x.1 * (bsD v : Int) ^ y.2.toNat = y.1 * (bsD v : Int) ^ x.2.toNat then 0 else if x.1 * (bsD v : Int) ^ y.2.toNat < y.1 * (bsD v : Int) ^ x.2.toNat then -1 else 1
def c_impl_compareExact : Con where
  ins := [(true, .v tVar), (true, .v tRoll), (true, .v tRoll)]
  outs := [(false, .v tI)]
  sh := false
  pre := fun x => varD x.1 = true ∧ exD x.1 x.2.1 = true ∧ exD x.1 x.2.2.1 = true
  out := fun x => (cmpD x.1 x.2.1 x.2.2.1, ())
  upd := fun x => x
theorem k_impl_compareExact : ConOk Try.prog 135 c_impl_compareExact := by
  refine fn_okW (C := cx Try.prog 89 c_impl_compareExact) (cs := [(206, c_impl_scaleOf), (208, c_impl_absolute), (207, c_math_bits_Mul64)]) (res := Try.f135.results.toList) (fun _ => ⟨[], [], []⟩) Try.func135 (by kernel_rfl) rfl rfl rfl tysOk.look eqTsOk.look (AllCs.ok (l := [(206, c_impl_scaleOf), (208, c_impl_absolute), (207, c_math_bits_Mul64)]) ⟨k_impl_scaleOf, k_impl_absolute, k_math_bits_Mul64, trivial⟩) mixed rfl rfl rfl ?_
  refine of_nf (P := ∀ v : Int × Int × Int × Int, ∀ x : Int × Int, ∀ y : Int × Int, (varD v = true ∧ exD v x = true ∧ exD v y = true) → ((lensI c_impl_compareExact.ins (v, x, y, ())) → (bsp ((decide (x.1 < (0 : Int))) != (decide (y.1 < (0 : Int)))) (bsp (decide (x.1 < (0 : Int))) (@Eq (HO c_impl_compareExact.outs) ((-1), ()) (c_impl_compareExact.out (v, x, y, ()))) (@Eq (HO c_impl_compareExact.outs) (1, ()) (c_impl_compareExact.out (v, x, y, ())))) ((varD v = true ∧ y.2 ≤ 9223372036854775807) ∧ ((varD v = true ∧ x.2 ≤ 9223372036854775807) ∧ ((-9223372036854775807 ≤ x.1 ∧ x.1 ≤ 9223372036854775807) ∧ ((inK .u64 (Int.natAbs x.1 : Int)) ∧ ((inK .u64 (sclV (bsD v) y.2 : Int)) ∧ (((0 ≤ (Int.natAbs x.1 : Int) ∧ (Int.natAbs x.1 : Int) ≤ 18446744073709551615) ∧ 0 ≤ (sclV (bsD v) y.2 : Int) ∧ (sclV (bsD v) y.2 : Int) ≤ 18446744073709551615) ∧ ((-9223372036854775807 ≤ y.1 ∧ y.1 ≤ 9223372036854775807) ∧ ((inK .u64 (Int.natAbs y.1 : Int)) ∧ ((inK .u64 (sclV (bsD v) x.2 : Int)) ∧ (((0 ≤ (Int.natAbs y.1 : Int) ∧ (Int.natAbs y.1 : Int) ≤ 18446744073709551615) ∧ 0 ≤ (sclV (bsD v) x.2 : Int) ∧ (sclV (bsD v) x.2 : Int) ≤ 18446744073709551615) ∧ (bsp (decide (x.1 < (0 : Int))) (bsp (decide ((hiW (Int.natAbs x.1 : Int) (sclV (bsD v) y.2 : Int)) = (hiW (Int.natAbs y.1 : Int) (sclV (bsD v) x.2 : Int)))) (bsp (decide ((loW (Int.natAbs x.1 : Int) (sclV (bsD v) y.2 : Int)) = (loW (Int.natAbs y.1 : Int) (sclV (bsD v) x.2 : Int)))) (@Eq (HO c_impl_compareExact.outs) (0, ()) (c_impl_compareExact.out (v, x, y, ()))) (bsp (decide ((hiW (Int.natAbs x.1 : Int) (sclV (bsD v) y.2 : Int)) < (hiW (Int.natAbs y.1 : Int) (sclV (bsD v) x.2 : Int)))) ((inK .i64 (0 - (-1 : Int))) ∧ (@Eq (HO c_impl_compareExact.outs) ((0 - (-1 : Int)), ()) (c_impl_compareExact.out (v, x, y, ())))) (bsp (decide ((hiW (Int.natAbs x.1 : Int) (sclV (bsD v) y.2 : Int)) = (hiW (Int.natAbs y.1 : Int) (sclV (bsD v) x.2 : Int)))) (bsp (decide ((loW (Int.natAbs x.1 : Int) (sclV (bsD v) y.2 : Int)) < (loW (Int.natAbs y.1 : Int) (sclV (bsD v) x.2 : Int)))) ((inK .i64 (0 - (-1 : Int))) ∧ (@Eq (HO c_impl_compareExact.outs) ((0 - (-1 : Int)), ()) (c_impl_compareExact.out (v, x, y, ())))) (@Eq (HO c_impl_compareExact.outs) ((-1), ()) (c_impl_compareExact.out (v, x, y, ())))) (@Eq (HO c_impl_compareExact.outs) ((-1), ()) (c_impl_compareExact.out (v, x, y, ())))))) (bsp (decide ((hiW (Int.natAbs x.1 : Int) (sclV (bsD v) y.2 : Int)) < (hiW (Int.natAbs y.1 : Int) (sclV (bsD v) x.2 : Int)))) ((inK .i64 (0 - (-1 : Int))) ∧ (@Eq (HO c_impl_compareExact.outs) ((0 - (-1 : Int)), ()) (c_impl_compareExact.out (v, x, y, ())))) (bsp (decide ((hiW (Int.natAbs x.1 : Int) (sclV (bsD v) y.2 : Int)) = (hiW (Int.natAbs y.1 : Int) (sclV (bsD v) x.2 : Int)))) (bsp (decide ((loW (Int.natAbs x.1 : Int) (sclV (bsD v) y.2 : Int)) < (loW (Int.natAbs y.1 : Int) (sclV (bsD v) x.2 : Int)))) ((inK .i64 (0 - (-1 : Int))) ∧ (@Eq (HO c_impl_compareExact.outs) ((0 - (-1 : Int)), ()) (c_impl_compareExact.out (v, x, y, ())))) (@Eq (HO c_impl_compareExact.outs) ((-1), ()) (c_impl_compareExact.out (v, x, y, ())))) (@Eq (HO c_impl_compareExact.outs) ((-1), ()) (c_impl_compareExact.out (v, x, y, ())))))) (bsp (decide ((hiW (Int.natAbs x.1 : Int) (sclV (bsD v) y.2 : Int)) = (hiW (Int.natAbs y.1 : Int) (sclV (bsD v) x.2 : Int)))) (bsp (decide ((loW (Int.natAbs x.1 : Int) (sclV (bsD v) y.2 : Int)) = (loW (Int.natAbs y.1 : Int) (sclV (bsD v) x.2 : Int)))) (@Eq (HO c_impl_compareExact.outs) (0, ()) (c_impl_compareExact.out (v, x, y, ()))) (bsp (decide ((hiW (Int.natAbs x.1 : Int) (sclV (bsD v) y.2 : Int)) < (hiW (Int.natAbs y.1 : Int) (sclV (bsD v) x.2 : Int)))) ((inK .i64 (0 - (1 : Int))) ∧ (@Eq (HO c_impl_compareExact.outs) ((0 - (1 : Int)), ()) (c_impl_compareExact.out (v, x, y, ())))) (bsp (decide ((hiW (Int.natAbs x.1 : Int) (sclV (bsD v) y.2 : Int)) = (hiW (Int.natAbs y.1 : Int) (sclV (bsD v) x.2 : Int)))) (bsp (decide ((loW (Int.natAbs x.1 : Int) (sclV (bsD v) y.2 : Int)) < (loW (Int.natAbs y.1 : Int) (sclV (bsD v) x.2 : Int)))) ((inK .i64 (0 - (1 : Int))) ∧ (@Eq (HO c_impl_compareExact.outs) ((0 - (1 : Int)), ()) (c_impl_compareExact.out (v, x, y, ())))) (@Eq (HO c_impl_compareExact.outs) (1, ()) (c_impl_compareExact.out (v, x, y, ())))) (@Eq (HO c_impl_compareExact.outs) (1, ()) (c_impl_compareExact.out (v, x, y, ())))))) (bsp (decide ((hiW (Int.natAbs x.1 : Int) (sclV (bsD v) y.2 : Int)) < (hiW (Int.natAbs y.1 : Int) (sclV (bsD v) x.2 : Int)))) ((inK .i64 (0 - (1 : Int))) ∧ (@Eq (HO c_impl_compareExact.outs) ((0 - (1 : Int)), ()) (c_impl_compareExact.out (v, x, y, ())))) (bsp (decide ((hiW (Int.natAbs x.1 : Int) (sclV (bsD v) y.2 : Int)) = (hiW (Int.natAbs y.1 : Int) (sclV (bsD v) x.2 : Int)))) (bsp (decide ((loW (Int.natAbs x.1 : Int) (sclV (bsD v) y.2 : Int)) < (loW (Int.natAbs y.1 : Int) (sclV (bsD v) x.2 : Int)))) ((inK .i64 (0 - (1 : Int))) ∧ (@Eq (HO c_impl_compareExact.outs) ((0 - (1 : Int)), ()) (c_impl_compareExact.out (v, x, y, ())))) (@Eq (HO c_impl_compareExact.outs) (1, ()) (c_impl_compareExact.out (v, x, y, ())))) (@Eq (HO c_impl_compareExact.outs) (1, ()) (c_impl_compareExact.out (v, x, y, ())))))))))))))))))))) (by kernel_rfl) ?_
  rintro v x y ⟨hv, hx, hy⟩ hl
  obtain ⟨-, b1, b2, -⟩ := bsD_facts hv
  obtain ⟨⟨⟨x1, x1'⟩, x2, x2'⟩, xb, xs, -⟩ := exD_in hv hx
  obtain ⟨⟨⟨y1, y1'⟩, y2, y2'⟩, yb, ys, -⟩ := exD_in hv hy
  rw [scl_ok xs, scl_ok ys]
  obtain ⟨B, hB⟩ : ∃ B, B = bsD v ^ y.2.toNat := ⟨_, rfl⟩
  obtain ⟨A, hA⟩ : ∃ A, A = bsD v ^ x.2.toNat := ⟨_, rfl⟩
  have hB1 : 1 ≤ B := by rw [hB]; exact Nat.pow_pos b1
  have hA1 : 1 ≤ A := by rw [hA]; exact Nat.pow_pos b1
  obtain ⟨L, hL⟩ : ∃ L, L = x.1 * (B : Int) := ⟨_, rfl⟩
  obtain ⟨R, hR⟩ : ∃ R, R = y.1 * (A : Int) := ⟨_, rfl⟩
  have out : ∀ k : Int, (L = R → k = 0) → (L < R → k = -1) → (R < L → k = 1) → @Eq (HO c_impl_compareExact.outs) (k, ()) (c_impl_compareExact.out (v, x, y, ())) := fun k k0 k1 k2 => by
    have : cmpD v x y = k := by
      unfold cmpD
      rw [← Int.natCast_pow, ← Int.natCast_pow, ← hB, ← hA, ← hL, ← hR]
      split
      · next h => exact (k0 h).symm
      · split
        · next h => exact (k1 h).symm
        · exact (k2 (by omega)).symm
    rw [← this]; rfl
  rw [← hB, ← hA]
  rw [← hB] at yb
  rw [← hA] at xb
  have e1 : hiW (x.1.natAbs : Int) (B : Int) = ((x.1.natAbs * B / two64 : Nat) : Int) := by simp only [hiW, Int.toNat_natCast]
  have e2 : loW (x.1.natAbs : Int) (B : Int) = ((x.1.natAbs * B % two64 : Nat) : Int) := by simp only [loW, Int.toNat_natCast]
  have e3 : hiW (y.1.natAbs : Int) (A : Int) = ((y.1.natAbs * A / two64 : Nat) : Int) := by simp only [hiW, Int.toNat_natCast]
  have e4 : loW (y.1.natAbs : Int) (A : Int) = ((y.1.natAbs * A % two64 : Nat) : Int) := by simp only [loW, Int.toNat_natCast]
  rw [e1, e2, e3, e4, two64_eq]
  have nL : L.natAbs = x.1.natAbs * B := by rw [hL, Int.natAbs_mul, Int.natAbs_natCast]
  have nR : R.natAbs = y.1.natAbs * A := by rw [hR, Int.natAbs_mul, Int.natAbs_natCast]
  have sL : 0 ≤ x.1 → 0 ≤ L := fun h => by rw [hL]; exact Int.mul_nonneg h (by omega)
  have sL' : x.1 < 0 → L < 0 := fun h => by rw [hL]; exact Int.mul_neg_of_neg_of_pos h (by omega)
  have sR : 0 ≤ y.1 → 0 ≤ R := fun h => by rw [hR]; exact Int.mul_nonneg h (by omega)
  have sR' : y.1 < 0 → R < 0 := fun h => by rw [hR]; exact Int.mul_neg_of_neg_of_pos h (by omega)
  rw [← nL, ← nR]
  have d1 := Nat.div_add_mod L.natAbs 18446744073709551616
  have d2 := Nat.mod_lt L.natAbs (show 0 < 18446744073709551616 by decide)
  have d3 := Nat.div_add_mod R.natAbs 18446744073709551616
  have d4 := Nat.mod_lt R.natAbs (show 0 < 18446744073709551616 by decide)
  clear e1 e2 e3 e4 hl hL hR nL nR hA hB hx hy xs ys
  generalize L.natAbs / 18446744073709551616 = p1 at *
  generalize L.natAbs % 18446744073709551616 = p2 at *
  generalize R.natAbs / 18446744073709551616 = q1 at *
  generalize R.natAbs % 18446744073709551616 = q2 at *
  refine bspB (fun h => ?_) (fun h => ?_)
  · refine bspD (fun g => ?_) (fun g => ?_)
    · have : ¬ y.1 < 0 := fun k => by simp [g, k] at h
      exact out _ (by omega) (by omega) (by omega)
    · have : y.1 < 0 := by simpa [g] using h
      exact out _ (by omega) (by omega) (by omega)
  · have hs : x.1 < 0 ↔ y.1 < 0 := by simpa using h
    refine ⟨⟨hv, by omega⟩, ⟨hv, by omega⟩, ⟨by omega, by omega⟩, by simp only [inK]; omega, by simp only [inK]; omega, ⟨⟨by omega, by omega⟩, by omega, by omega⟩, ⟨by omega, by omega⟩, by simp only [inK]; omega, by simp only [inK]; omega, ⟨⟨by omega, by omega⟩, by omega, by omega⟩, ?_⟩
    repeat' first
      | refine bspD (fun _ => ?_) (fun _ => ?_)
      | refine ⟨by simp only [inK]; omega, ?_⟩
      | exact out _ (by omega) (by omega) (by omega)
      | fail
end Go.Proofs.Ytghfpidpefdndaa
