/-
  Contracts: comparing exact numbers.
-/
import Derived.Test.YtoobijimfccfgaaVMG
import Derived.Test.YtoobijimfccfgaaIn
namespace Go.Proofs.Ytoobijimfccfgaa
open Go.RowKit
set_option linter.unusedSimpArgs false
set_option linter.unusedVariables false
/-- x.1 over the depth of y, and y.1 over the depth of x -/
def cmpD (v : DVar) (x y : DExact) : Int :=
  if x.1 * (bsD v : Int) ^ y.2.toNat = y.1 * (bsD v : Int) ^ x.2.toNat then 0 else if x.1 * (bsD v : Int) ^ y.2.toNat < y.1 * (bsD v : Int) ^ x.2.toNat then -1 else 1
def c_impl_compareExact : Con where
  ins := [(true, .v tVar), (true, .v tRoll), (true, .v tRoll)]
  outs := [(false, .v tI)]
  sh := false
  pre := fun x => varD x.1 = true ∧ exD x.1 x.2.1 = true ∧ exD x.1 x.2.2.1 = true
  out := fun x => (cmpD x.1 x.2.1 x.2.2.1, ())
  upd := fun x => x
  eat := false
theorem k_impl_compareExact [B : Base] : ConOk Try.prog 59 c_impl_compareExact := by
  refine fn_okW (C := cx Try.prog 89 c_impl_compareExact) (cs := [(73, c_impl_scaleOf), (63, c_impl_absolute), (74, c_math_bits_Mul64)]) (res := Try.f59.results.toList) (fun _ => ⟨[], [], []⟩) Try.func59 (by kernel_rfl) rfl rfl rfl tysOk.look eqTsOk.look (AllCs.ok (l := [(73, c_impl_scaleOf), (63, c_impl_absolute), (74, c_math_bits_Mul64)]) ⟨k_impl_scaleOf, k_impl_absolute, k_math_bits_Mul64, trivial⟩) mixed rfl rfl rfl rfl ?_
  refine of_nf (P := ∀ v : Int × Int × Int × Int, ∀ x : Int × Int, ∀ y : Int × Int, (varD v = true ∧ exD v x = true ∧ exD v y = true) → ((lensI c_impl_compareExact.ins (v, x, y, ())) → (bsp ((decide (x.1 < (0 : Int))) != (decide (y.1 < (0 : Int)))) (bsp (decide (x.1 < (0 : Int))) (@Eq (HO c_impl_compareExact.outs) ((-1), ()) (c_impl_compareExact.out (v, x, y, ()))) (@Eq (HO c_impl_compareExact.outs) (1, ()) (c_impl_compareExact.out (v, x, y, ())))) ((varD v = true ∧ y.2 ≤ 9223372036854775807) ∧ ((varD v = true ∧ x.2 ≤ 9223372036854775807) ∧ ((-9223372036854775807 ≤ x.1 ∧ x.1 ≤ 9223372036854775807) ∧ ((inK .u64 (Int.natAbs x.1 : Int)) ∧ ((inK .u64 (sclV (bsD v) y.2 : Int)) ∧ (((0 ≤ (Int.natAbs x.1 : Int) ∧ (Int.natAbs x.1 : Int) ≤ 18446744073709551615) ∧ 0 ≤ (sclV (bsD v) y.2 : Int) ∧ (sclV (bsD v) y.2 : Int) ≤ 18446744073709551615) ∧ ((-9223372036854775807 ≤ y.1 ∧ y.1 ≤ 9223372036854775807) ∧ ((inK .u64 (Int.natAbs y.1 : Int)) ∧ ((inK .u64 (sclV (bsD v) x.2 : Int)) ∧ (((0 ≤ (Int.natAbs y.1 : Int) ∧ (Int.natAbs y.1 : Int) ≤ 18446744073709551615) ∧ 0 ≤ (sclV (bsD v) x.2 : Int) ∧ (sclV (bsD v) x.2 : Int) ≤ 18446744073709551615) ∧ (bsp (decide (x.1 < (0 : Int))) (bsp (decide ((hiW (Int.natAbs x.1 : Int) (sclV (bsD v) y.2 : Int)) = (hiW (Int.natAbs y.1 : Int) (sclV (bsD v) x.2 : Int)))) (bsp (decide ((loW (Int.natAbs x.1 : Int) (sclV (bsD v) y.2 : Int)) = (loW (Int.natAbs y.1 : Int) (sclV (bsD v) x.2 : Int)))) (@Eq (HO c_impl_compareExact.outs) (0, ()) (c_impl_compareExact.out (v, x, y, ()))) (bsp (decide ((hiW (Int.natAbs x.1 : Int) (sclV (bsD v) y.2 : Int)) < (hiW (Int.natAbs y.1 : Int) (sclV (bsD v) x.2 : Int)))) ((inK .i64 (0 - (-1 : Int))) ∧ (@Eq (HO c_impl_compareExact.outs) ((0 - (-1 : Int)), ()) (c_impl_compareExact.out (v, x, y, ())))) (bsp (decide ((hiW (Int.natAbs x.1 : Int) (sclV (bsD v) y.2 : Int)) = (hiW (Int.natAbs y.1 : Int) (sclV (bsD v) x.2 : Int)))) (bsp (decide ((loW (Int.natAbs x.1 : Int) (sclV (bsD v) y.2 : Int)) < (loW (Int.natAbs y.1 : Int) (sclV (bsD v) x.2 : Int)))) ((inK .i64 (0 - (-1 : Int))) ∧ (@Eq (HO c_impl_compareExact.outs) ((0 - (-1 : Int)), ()) (c_impl_compareExact.out (v, x, y, ())))) (@Eq (HO c_impl_compareExact.outs) ((-1), ()) (c_impl_compareExact.out (v, x, y, ())))) (@Eq (HO c_impl_compareExact.outs) ((-1), ()) (c_impl_compareExact.out (v, x, y, ())))))) (bsp (decide ((hiW (Int.natAbs x.1 : Int) (sclV (bsD v) y.2 : Int)) < (hiW (Int.natAbs y.1 : Int) (sclV (bsD v) x.2 : Int)))) ((inK .i64 (0 - (-1 : Int))) ∧ (@Eq (HO c_impl_compareExact.outs) ((0 - (-1 : Int)), ()) (c_impl_compareExact.out (v, x, y, ())))) (bsp (decide ((hiW (Int.natAbs x.1 : Int) (sclV (bsD v) y.2 : Int)) = (hiW (Int.natAbs y.1 : Int) (sclV (bsD v) x.2 : Int)))) (bsp (decide ((loW (Int.natAbs x.1 : Int) (sclV (bsD v) y.2 : Int)) < (loW (Int.natAbs y.1 : Int) (sclV (bsD v) x.2 : Int)))) ((inK .i64 (0 - (-1 : Int))) ∧ (@Eq (HO c_impl_compareExact.outs) ((0 - (-1 : Int)), ()) (c_impl_compareExact.out (v, x, y, ())))) (@Eq (HO c_impl_compareExact.outs) ((-1), ()) (c_impl_compareExact.out (v, x, y, ())))) (@Eq (HO c_impl_compareExact.outs) ((-1), ()) (c_impl_compareExact.out (v, x, y, ())))))) (bsp (decide ((hiW (Int.natAbs x.1 : Int) (sclV (bsD v) y.2 : Int)) = (hiW (Int.natAbs y.1 : Int) (sclV (bsD v) x.2 : Int)))) (bsp (decide ((loW (Int.natAbs x.1 : Int) (sclV (bsD v) y.2 : Int)) = (loW (Int.natAbs y.1 : Int) (sclV (bsD v) x.2 : Int)))) (@Eq (HO c_impl_compareExact.outs) (0, ()) (c_impl_compareExact.out (v, x, y, ()))) (bsp (decide ((hiW (Int.natAbs x.1 : Int) (sclV (bsD v) y.2 : Int)) < (hiW (Int.natAbs y.1 : Int) (sclV (bsD v) x.2 : Int)))) ((inK .i64 (0 - (1 : Int))) ∧ (@Eq (HO c_impl_compareExact.outs) ((0 - (1 : Int)), ()) (c_impl_compareExact.out (v, x, y, ())))) (bsp (decide ((hiW (Int.natAbs x.1 : Int) (sclV (bsD v) y.2 : Int)) = (hiW (Int.natAbs y.1 : Int) (sclV (bsD v) x.2 : Int)))) (bsp (decide ((loW (Int.natAbs x.1 : Int) (sclV (bsD v) y.2 : Int)) < (loW (Int.natAbs y.1 : Int) (sclV (bsD v) x.2 : Int)))) ((inK .i64 (0 - (1 : Int))) ∧ (@Eq (HO c_impl_compareExact.outs) ((0 - (1 : Int)), ()) (c_impl_compareExact.out (v, x, y, ())))) (@Eq (HO c_impl_compareExact.outs) (1, ()) (c_impl_compareExact.out (v, x, y, ())))) (@Eq (HO c_impl_compareExact.outs) (1, ()) (c_impl_compareExact.out (v, x, y, ())))))) (bsp (decide ((hiW (Int.natAbs x.1 : Int) (sclV (bsD v) y.2 : Int)) < (hiW (Int.natAbs y.1 : Int) (sclV (bsD v) x.2 : Int)))) ((inK .i64 (0 - (1 : Int))) ∧ (@Eq (HO c_impl_compareExact.outs) ((0 - (1 : Int)), ()) (c_impl_compareExact.out (v, x, y, ())))) (bsp (decide ((hiW (Int.natAbs x.1 : Int) (sclV (bsD v) y.2 : Int)) = (hiW (Int.natAbs y.1 : Int) (sclV (bsD v) x.2 : Int)))) (bsp (decide ((loW (Int.natAbs x.1 : Int) (sclV (bsD v) y.2 : Int)) < (loW (Int.natAbs y.1 : Int) (sclV (bsD v) x.2 : Int)))) ((inK .i64 (0 - (1 : Int))) ∧ (@Eq (HO c_impl_compareExact.outs) ((0 - (1 : Int)), ()) (c_impl_compareExact.out (v, x, y, ())))) (@Eq (HO c_impl_compareExact.outs) (1, ()) (c_impl_compareExact.out (v, x, y, ())))) (@Eq (HO c_impl_compareExact.outs) (1, ()) (c_impl_compareExact.out (v, x, y, ())))))))))))))))))))) (by kernel_rfl) ?_
  rintro v x y ⟨hv, hx, hy⟩ hl
  obtain ⟨-, b1, b2, -⟩ := bsD_facts hv
  obtain ⟨⟨⟨x1, x1'⟩, x2, x2'⟩, xb, xs, -⟩ := exD_in hv hx
  obtain ⟨⟨⟨y1, y1'⟩, y2, y2'⟩, yb, ys, -⟩ := exD_in hv hy
  rw [scl_ok xs, scl_ok ys]
  obtain ⟨B, hB⟩ : ∃ B, B = bsD v ^ y.2.toNat := ⟨_, rfl⟩
  obtain ⟨A, hA⟩ : ∃ A, A = bsD v ^ x.2.toNat := ⟨_, rfl⟩
  have hB1 : 1 ≤ B := by rw [hB]; exact Nat.pow_pos b1
  have hA1 : 1 ≤ A := by rw [hA]; exact Nat.pow_pos b1
  obtain ⟨L, hL⟩ : ∃ L, L = x.1 * (B : Int) := ⟨_, rfl⟩
  obtain ⟨R, hR⟩ : ∃ R, R = y.1 * (A : Int) := ⟨_, rfl⟩
  have out : ∀ k : Int, (L = R → k = 0) → (L < R → k = -1) → (R < L → k = 1) → @Eq (HO c_impl_compareExact.outs) (k, ()) (c_impl_compareExact.out (v, x, y, ())) := fun k k0 k1 k2 => by
    have : cmpD v x y = k := by
      unfold cmpD
      rw [← Int.natCast_pow, ← Int.natCast_pow, ← hB, ← hA, ← hL, ← hR]
      split
      · next h => exact (k0 h).symm
      · split
        · next h => exact (k1 h).symm
        · exact (k2 (by omega)).symm
    rw [← this]; rfl
  rw [← hB, ← hA]
  rw [← hB] at yb
  rw [← hA] at xb
  have e1 : hiW (x.1.natAbs : Int) (B : Int) = ((x.1.natAbs * B / two64 : Nat) : Int) := by simp only [hiW, Int.toNat_natCast]
  have e2 : loW (x.1.natAbs : Int) (B : Int) = ((x.1.natAbs * B % two64 : Nat) : Int) := by simp only [loW, Int.toNat_natCast]
  have e3 : hiW (y.1.natAbs : Int) (A : Int) = ((y.1.natAbs * A / two64 : Nat) : Int) := by simp only [hiW, Int.toNat_natCast]
  have e4 : loW (y.1.natAbs : Int) (A : Int) = ((y.1.natAbs * A % two64 : Nat) : Int) := by simp only [loW, Int.toNat_natCast]
  rw [e1, e2, e3, e4, two64_eq]
  have nL : L.natAbs = x.1.natAbs * B := by rw [hL, Int.natAbs_mul, Int.natAbs_natCast]
  have nR : R.natAbs = y.1.natAbs * A := by rw [hR, Int.natAbs_mul, Int.natAbs_natCast]
  have sL : 0 ≤ x.1 → 0 ≤ L := fun h => by rw [hL]; exact Int.mul_nonneg h (by omega)
  have sL' : x.1 < 0 → L < 0 := fun h => by rw [hL]; exact Int.mul_neg_of_neg_of_pos h (by omega)
  have sR : 0 ≤ y.1 → 0 ≤ R := fun h => by rw [hR]; exact Int.mul_nonneg h (by omega)
  have sR' : y.1 < 0 → R < 0 := fun h => by rw [hR]; exact Int.mul_neg_of_neg_of_pos h (by omega)
  rw [← nL, ← nR]
  have d1 := Nat.div_add_mod L.natAbs 18446744073709551616
  have d2 := Nat.mod_lt L.natAbs (show 0 < 18446744073709551616 by decide)
  have d3 := Nat.div_add_mod R.natAbs 18446744073709551616
  have d4 := Nat.mod_lt R.natAbs (show 0 < 18446744073709551616 by decide)
  clear e1 e2 e3 e4 hl hL hR nL nR hA hB hx hy xs ys
  generalize L.natAbs / 18446744073709551616 = p1 at *
  generalize L.natAbs % 18446744073709551616 = p2 at *
  generalize R.natAbs / 18446744073709551616 = q1 at *
  generalize R.natAbs % 18446744073709551616 = q2 at *
  refine bspB (fun h => ?_) (fun h => ?_)
  · refine bspD (fun g => ?_) (fun g => ?_)
    · have : ¬ y.1 < 0 := fun k => by simp [g, k] at h
      exact out _ (by omega) (by omega) (by omega)
    · have : y.1 < 0 := by simpa [g] using h
      exact out _ (by omega) (by omega) (by omega)
  · have hs : x.1 < 0 ↔ y.1 < 0 := by simpa using h
    refine ⟨⟨hv, by omega⟩, ⟨hv, by omega⟩, ⟨by omega, by omega⟩, by simp only [inK]; omega, by simp only [inK]; omega, ⟨⟨by omega, by omega⟩, by omega, by omega⟩, ⟨by omega, by omega⟩, by simp only [inK]; omega, by simp only [inK]; omega, ⟨⟨by omega, by omega⟩, by omega, by omega⟩, ?_⟩
    repeat' first
      | refine bspD (fun _ => ?_) (fun _ => ?_)
      | refine ⟨by simp only [inK]; omega, ?_⟩
      | exact out _ (by omega) (by omega) (by omega)
      | fail
end Go.Proofs.Ytoobijimfccfgaa

/-
  Plain arithmetic: two fractions over powers of a base, compared by their digits.
-/
namespace Go.Proofs.Ytoobijimfccfgaa

def cmp (A B : Int) : Int := if A < B then -1 else if B < A then 1 else 0

/-- x over b^d, times b^i, rounded down -/
def flr (b : Nat) (x : Int) (d i : Nat) : Int := x * (b : Int) ^ i / (b : Int) ^ d
/-- the digits: the whole part first -/
def dgt (b : Nat) (x : Int) (d : Nat) : Nat → Int
  | 0 => flr b x d 0
  | i + 1 => flr b x d (i + 1) - b * flr b x d i

theorem powI {b : Nat} (hb : 1 ≤ b) (k : Nat) : (0 : Int) < (b : Int) ^ k := Int.pow_pos (by omega)

theorem flr_low {b : Nat} (hb : 1 ≤ b) (x : Int) (d i : Nat) : flr b x d i * (b : Int) ^ d ≤ x * (b : Int) ^ i := Int.ediv_mul_le _ (by have := powI hb d; omega)
theorem flr_high {b : Nat} (hb : 1 ≤ b) (x : Int) (d i : Nat) : x * (b : Int) ^ i < (flr b x d i + 1) * (b : Int) ^ d := Int.lt_ediv_add_one_mul_self _ (powI hb d)

theorem flr_less {b : Nat} (hb : 1 ≤ b) {x y : Int} {dx dy i : Nat} (h : flr b x dx i < flr b y dy i) : x * (b : Int) ^ dy < y * (b : Int) ^ dx := by
  have h1 := flr_high hb x dx i
  have h2 := flr_low hb y dy i
  have p1 := powI hb dx
  have p2 := powI hb dy
  have p3 := powI hb i
  have h3 : x * (b : Int) ^ i < flr b y dy i * (b : Int) ^ dx := Int.lt_of_lt_of_le h1 (Int.mul_le_mul_of_nonneg_right (by omega) (by omega))
  have h4 : x * (b : Int) ^ i * (b : Int) ^ dy < flr b y dy i * (b : Int) ^ dx * (b : Int) ^ dy := Int.mul_lt_mul_of_pos_right h3 p2
  have h5 : flr b y dy i * (b : Int) ^ dy * (b : Int) ^ dx ≤ y * (b : Int) ^ i * (b : Int) ^ dx := Int.mul_le_mul_of_nonneg_right h2 (by omega)
  have e : flr b y dy i * (b : Int) ^ dx * (b : Int) ^ dy = flr b y dy i * (b : Int) ^ dy * (b : Int) ^ dx := Int.mul_right_comm _ _ _
  have h6 : (x * (b : Int) ^ dy) * (b : Int) ^ i < (y * (b : Int) ^ dx) * (b : Int) ^ i := by
    rw [Int.mul_right_comm x, Int.mul_right_comm y]; omega
  exact Int.lt_of_mul_lt_mul_right h6 (by omega)

theorem flr_exact {b : Nat} (hb : 1 ≤ b) {x : Int} {d i : Nat} (h : d ≤ i) : flr b x d i * (b : Int) ^ d = x * (b : Int) ^ i := by
  obtain ⟨k, rfl⟩ := Nat.exists_eq_add_of_le h
  have e : x * (b : Int) ^ (d + k) = x * (b : Int) ^ k * (b : Int) ^ d := by rw [Int.pow_add, Int.mul_assoc, Int.mul_comm ((b : Int) ^ k)]
  unfold flr
  rw [e, Int.mul_ediv_cancel _ (by have := powI hb d; omega)]

theorem flr_same {b : Nat} (hb : 1 ≤ b) {x y : Int} {dx dy i : Nat} (hx : dx ≤ i) (hy : dy ≤ i) (h : flr b x dx i = flr b y dy i) : x * (b : Int) ^ dy = y * (b : Int) ^ dx := by
  have h1 := flr_exact hb (x := x) hx
  have h2 := flr_exact hb (x := y) hy
  have p3 := powI hb i
  rw [h] at h1
  have h3 : (x * (b : Int) ^ dy) * (b : Int) ^ i = (y * (b : Int) ^ dx) * (b : Int) ^ i := by
    rw [Int.mul_right_comm x, Int.mul_right_comm y, ← h1, ← h2, Int.mul_right_comm]
  exact Int.eq_of_mul_eq_mul_right (by omega) h3

theorem dgt_flr {b : Nat} {x y : Int} {dx dy : Nat} : ∀ i, (∀ k, k < i + 1 → dgt b x dx k = dgt b y dy k) → flr b x dx i = flr b y dy i
  | 0, h => h 0 (by omega)
  | i + 1, h => by
    have ih := dgt_flr i (fun k hk => h k (by omega))
    have h1 := h (i + 1) (by omega)
    simp only [dgt, ih] at h1
    omega
theorem dgt_less {b : Nat} (hb : 1 ≤ b) {x y : Int} {dx dy i : Nat} (h : ∀ k, k < i → dgt b x dx k = dgt b y dy k) (hl : dgt b x dx i < dgt b y dy i) : x * (b : Int) ^ dy < y * (b : Int) ^ dx := by
  refine flr_less hb (i := i) ?_
  cases i with
  | zero => exact hl
  | succ i =>
    have ih := dgt_flr i h
    simp only [dgt, ih] at hl
    omega
theorem dgt_same {b : Nat} (hb : 1 ≤ b) {x y : Int} {dx dy i : Nat} (hx : dx ≤ i) (hy : dy ≤ i) (h : ∀ k, k < i + 1 → dgt b x dx k = dgt b y dy k) : x * (b : Int) ^ dy = y * (b : Int) ^ dx :=
  flr_same hb hx hy (dgt_flr i h)

/-- beyond the depth the digits are 0 -/
theorem dgt_far {b : Nat} (hb : 1 ≤ b) {x : Int} {d i : Nat} (h : d < i) : dgt b x d i = 0 := by
  obtain ⟨i, rfl⟩ : ∃ j, i = j + 1 := ⟨i - 1, by omega⟩
  have h1 := flr_exact hb (x := x) (show d ≤ i + 1 by omega)
  have h2 := flr_exact hb (x := x) (show d ≤ i by omega)
  have p := powI hb d
  have h3 : flr b x d (i + 1) * (b : Int) ^ d = (b * flr b x d i) * (b : Int) ^ d := by
    rw [h1, Int.mul_assoc, h2, Int.pow_succ, ← Int.mul_assoc, Int.mul_comm]
  have h4 := Int.eq_of_mul_eq_mul_right (by omega) h3
  simp only [dgt]
  omega

/-- the digits so far -/
def digs (b : Nat) (x : Int) (d k : Nat) : List Int := (List.range (k + 1)).map (dgt b x d)
theorem digs_succ (b : Nat) (x : Int) (d k : Nat) : digs b x d (k + 1) = digs b x d k ++ [dgt b x d (k + 1)] := by simp [digs, List.range_succ]
theorem digs_length (b : Nat) (x : Int) (d k : Nat) : (digs b x d k).length = k + 1 := by simp [digs]
theorem digs_get {b : Nat} {x : Int} {d k i : Nat} (h : i ≤ k) : (digs b x d k).getD i 0 = dgt b x d i := by
  simp [digs, List.getD, show i < k + 1 by omega]

theorem flr_low_eq {b : Nat} (hb : 1 ≤ b) {x : Int} {d i : Nat} (h : i ≤ d) : flr b x d i = x / (b : Int) ^ (d - i) := by
  obtain ⟨k, rfl⟩ := Nat.exists_eq_add_of_le h
  unfold flr
  rw [Int.pow_add, Nat.add_sub_cancel_left, Int.mul_comm ((b : Int) ^ i), Int.mul_ediv_mul_of_pos_left _ _ (powI hb i)]
/-- one more digit -/
theorem dgt_step {b : Nat} (hb : 1 ≤ b) {x : Int} {d k m M : Nat} (h : k < d) (hm : m = b ^ (d - (k + 1))) (hM : M = b ^ (d - k)) : M / b = m ∧ x % (M : Int) / (m : Int) = dgt b x d (k + 1) ∧ x % (M : Int) % (m : Int) = x % (m : Int) := by
  have e : M = m * b := by rw [hM, hm, ← Nat.pow_succ]; congr 1; omega
  have hm0 : 0 < m := by rw [hm]; exact Nat.pow_pos hb
  have f1 := flr_low_eq hb (x := x) (show k + 1 ≤ d by omega)
  have f2 := flr_low_eq hb (x := x) (show k ≤ d by omega)
  have c1 : (b : Int) ^ (d - (k + 1)) = (m : Int) := by rw [hm]; exact (Int.natCast_pow _ _).symm
  have c2 : (b : Int) ^ (d - k) = (M : Int) := by rw [hM]; exact (Int.natCast_pow _ _).symm
  rw [c1] at f1
  rw [c2] at f2
  refine ⟨by rw [e]; exact Nat.mul_div_cancel _ hb, ?_, ?_⟩
  · simp only [dgt]
    rw [f1, f2, Int.emod_def, e, Int.natCast_mul]
    have e2 : x - (m : Int) * (b : Int) * (x / ((m : Int) * (b : Int))) = x + (m : Int) * (-((b : Int) * (x / ((m : Int) * (b : Int))))) := by
      rw [Int.mul_neg, ← Int.mul_assoc]; rfl
    rw [e2, Int.add_mul_ediv_left _ _ (by omega)]
    rfl
  · rw [e, Int.natCast_mul]
    exact Int.emod_emod_of_dvd _ ⟨b, rfl⟩
end Go.Proofs.Ytoobijimfccfgaa

/-
  Contracts: comparing exact numbers by their digits.
-/
namespace Go.Proofs.Ytoobijimfccfgaa
open Go.RowKit
set_option linter.unusedSimpArgs false
set_option linter.unusedVariables false
theorem eucS {x : Int} {S : Nat} (hS : 1 ≤ S) : (Int.tmod x S < 0 → Int.tdiv x S - 1 = x / S ∧ Int.tmod x S + S = x % S) ∧ (¬ Int.tmod x S < 0 → Int.tdiv x S = x / S ∧ Int.tmod x S = x % S) := by
  have e := Int.mul_tdiv_add_tmod x S
  have n := Int.natAbs_tmod x S
  have l := Nat.mod_lt x.natAbs (show 0 < S by omega)
  rw [Int.natAbs_natCast] at n
  have hp : (0 : Int) < S := by omega
  refine ⟨fun h => ?_, fun h => ?_⟩
  · have := (Int.ediv_emod_unique (a := x) (b := S) (r := Int.tmod x S + S) (q := Int.tdiv x S - 1) hp).2 ⟨by rw [Int.mul_sub]; omega, by omega, by omega⟩
    exact ⟨this.1.symm, this.2.symm⟩
  · have := (Int.ediv_emod_unique (a := x) (b := S) (r := Int.tmod x S) (q := Int.tdiv x S) hp).2 ⟨by omega, by omega, by omega⟩
    exact ⟨this.1.symm, this.2.symm⟩
def c_spec_l09Split : Con where
  ins := [(true, .v tVar), (true, .v tRoll)]
  outs := [(false, .own 2 tI)]
  sh := false
  pre := fun x => varD x.1 = true ∧ exD x.1 x.2.1 = true
  out := fun x => (digs (bsD x.1) x.2.1.1 (Int.toNat x.2.1.2) (Int.toNat x.2.1.2), ())
  upd := fun x => x
  eat := false
theorem k_spec_l09Split [B : Base] : ConOk Try.prog 67 c_spec_l09Split := by
  refine fn_okW (C := cx Try.prog 55 c_spec_l09Split) (cs := [(40, c_spec_l09Scale), (38, c_spec_l09Base)]) (res := Try.f67.results.toList) (fun x => ⟨[{ sh := ⟨[(2, .one (.ref 0)), (3, .one (.ref 1)), (5, .one (.i .i64)), (8, .one (.i .i64)), (9, .one (.ref 2)), (10, .one (.i .i64))], [(0, .box [.i .i64, .i .i64, .i .i64, .i .i64]), (1, .box [.i .i64, .i .i64]), (2, .own 2 tI true)]⟩, nx := 3, I := fun _ dat_ => (x.1.1 = dat_.2.1.1 ∧ x.1.2.1 = dat_.2.1.2.1 ∧ x.1.2.2.1 = dat_.2.1.2.2.1 ∧ x.1.2.2.2 = dat_.2.1.2.2.2.1 ∧ x.2.1.1 = dat_.2.2.1.1 ∧ x.2.1.2 = dat_.2.2.1.2.1) ∧ (dat_.2.2.2.1 = digs (bsD x.1) x.2.1.1 (Int.toNat x.2.1.2) (Int.toNat dat_.1.2.2.2.2.2.1) ∧ dat_.1.2.2.1 = ((bsD x.1 ^ (Int.toNat (x.2.1.2 - dat_.1.2.2.2.2.2.1)) : Nat) : Int) ∧ dat_.1.2.2.2.1 = x.2.1.1 % dat_.1.2.2.1 ∧ 0 ≤ dat_.1.2.2.2.2.2.1 ∧ dat_.1.2.2.2.2.2.1 ≤ x.2.1.2), mu := fun dat_ => Int.toNat (x.2.1.2 - dat_.1.2.2.2.2.2.1) }], [], [(7, { sh := ⟨[(2, .one (.ref 0)), (3, .one (.ref 1)), (5, .one (.i .i64)), (7, .one (.i .i64)), (8, .one (.i .i64))], [(0, .box [.i .i64, .i .i64, .i .i64, .i .i64]), (1, .box [.i .i64, .i .i64])]⟩, nx := 2, I := fun _ dat_ => (x.1.1 = dat_.2.1.1 ∧ x.1.2.1 = dat_.2.1.2.1 ∧ x.1.2.2.1 = dat_.2.1.2.2.1 ∧ x.1.2.2.2 = dat_.2.1.2.2.2.1 ∧ x.2.1.1 = dat_.2.2.1.1 ∧ x.2.1.2 = dat_.2.2.1.2.1) ∧ (dat_.1.2.2.1 = ((bsD x.1 ^ (Int.toNat x.2.1.2) : Nat) : Int) ∧ dat_.1.2.2.2.1 = x.2.1.1 / dat_.1.2.2.1 ∧ dat_.1.2.2.2.2.1 = x.2.1.1 % dat_.1.2.2.1), mu := fun dat_ => 0 })]⟩) Try.func67 (by kernel_rfl) rfl rfl rfl tysOk.look eqTsOk.look (AllCs.ok (l := [(40, c_spec_l09Scale), (38, c_spec_l09Base)]) ⟨k_spec_l09Scale, k_spec_l09Base, trivial⟩) mixed rfl rfl rfl rfl ?_
  refine of_nf (P := ∀ v : Int × Int × Int × Int, ∀ x : Int × Int, (varD v = true ∧ exD v x = true) → ((lensI c_spec_l09Split.ins (v, x, ())) → ((varD v = true ∧ x.2 ≤ 9223372036854775807) ∧ (((sclV (bsD v) x.2 : Int) ≠ 0) ∧ ((inK .i64 (Int.tdiv x.1 (sclV (bsD v) x.2 : Int))) ∧ (((sclV (bsD v) x.2 : Int) ≠ 0) ∧ ((bsp (decide ((Int.tmod x.1 (sclV (bsD v) x.2 : Int)) < (0 : Int))) ((inK .i64 ((Int.tmod x.1 (sclV (bsD v) x.2 : Int)) + (sclV (bsD v) x.2 : Int))) ∧ ((inK .i64 ((Int.tdiv x.1 (sclV (bsD v) x.2 : Int)) - 1)) ∧ ((v.1 = v.1 ∧ v.2.1 = v.2.1 ∧ v.2.2.1 = v.2.2.1 ∧ v.2.2.2 = v.2.2.2 ∧ x.1 = x.1 ∧ x.2 = x.2) ∧ ((sclV (bsD v) x.2 : Int) = ((bsD v ^ (Int.toNat x.2) : Nat) : Int) ∧ ((Int.tdiv x.1 (sclV (bsD v) x.2 : Int)) - 1) = x.1 / (sclV (bsD v) x.2 : Int) ∧ ((Int.tmod x.1 (sclV (bsD v) x.2 : Int)) + (sclV (bsD v) x.2 : Int)) = x.1 % (sclV (bsD v) x.2 : Int))))) ((v.1 = v.1 ∧ v.2.1 = v.2.1 ∧ v.2.2.1 = v.2.2.1 ∧ v.2.2.2 = v.2.2.2 ∧ x.1 = x.1 ∧ x.2 = x.2) ∧ ((sclV (bsD v) x.2 : Int) = ((bsD v ^ (Int.toNat x.2) : Nat) : Int) ∧ (Int.tdiv x.1 (sclV (bsD v) x.2 : Int)) = x.1 / (sclV (bsD v) x.2 : Int) ∧ (Int.tmod x.1 (sclV (bsD v) x.2 : Int)) = x.1 % (sclV (bsD v) x.2 : Int)))) ∧ (∀ s : Int, ∀ w : Int, ∀ r : Int, ∀ t2_0 : Int, ∀ t2_1 : Int, ∀ t2_2 : Int, ∀ t2_3 : Int, ∀ t3_0 : Int, ∀ t3_1 : Int, ((v.1 = t2_0 ∧ v.2.1 = t2_1 ∧ v.2.2.1 = t2_2 ∧ v.2.2.2 = t2_3 ∧ x.1 = t3_0 ∧ x.2 = t3_1) ∧ (s = ((bsD v ^ (Int.toNat x.2) : Nat) : Int) ∧ w = x.1 / s ∧ r = x.1 % s)) → (((v.1 = t2_0 ∧ v.2.1 = t2_1 ∧ v.2.2.1 = t2_2 ∧ v.2.2.2 = t2_3 ∧ x.1 = t3_0 ∧ x.2 = t3_1) ∧ ([w] = digs (bsD v) x.1 (Int.toNat x.2) (Int.toNat (0 : Int)) ∧ s = ((bsD v ^ (Int.toNat (x.2 - (0 : Int))) : Nat) : Int) ∧ r = x.1 % s ∧ 0 ≤ (0 : Int) ∧ (0 : Int) ≤ x.2)) ∧ (∀ s_1 : Int, ∀ r_1 : Int, ∀ k : Int, ∀ t2_0x1 : Int, ∀ t2_1x1 : Int, ∀ t2_2x1 : Int, ∀ t2_3x1 : Int, ∀ t3_0x1 : Int, ∀ t3_1x1 : Int, ∀ o : List Int, ((v.1 = t2_0x1 ∧ v.2.1 = t2_1x1 ∧ v.2.2.1 = t2_2x1 ∧ v.2.2.2 = t2_3x1 ∧ x.1 = t3_0x1 ∧ x.2 = t3_1x1) ∧ (o = digs (bsD v) x.1 (Int.toNat x.2) (Int.toNat k) ∧ s_1 = ((bsD v ^ (Int.toNat (x.2 - k)) : Nat) : Int) ∧ r_1 = x.1 % s_1 ∧ 0 ≤ k ∧ k ≤ x.2)) → (bsp (decide (k < t3_1x1)) ((varD (t2_0x1, t2_1x1, t2_2x1, t2_3x1) = true) ∧ (((bsD (t2_0x1, t2_1x1, t2_2x1, t2_3x1) : Int) ≠ 0) ∧ ((inK .i64 (Int.tdiv s_1 (bsD (t2_0x1, t2_1x1, t2_2x1, t2_3x1) : Int))) ∧ (((Int.tdiv s_1 (bsD (t2_0x1, t2_1x1, t2_2x1, t2_3x1) : Int)) ≠ 0) ∧ ((inK .i64 (Int.tdiv r_1 (Int.tdiv s_1 (bsD (t2_0x1, t2_1x1, t2_2x1, t2_3x1) : Int)))) ∧ ((o.length + ([(Int.tdiv r_1 (Int.tdiv s_1 (bsD (t2_0x1, t2_1x1, t2_2x1, t2_3x1) : Int)))] : List Int).length ≤ AB) ∧ (((Int.tdiv s_1 (bsD (t2_0x1, t2_1x1, t2_2x1, t2_3x1) : Int)) ≠ 0) ∧ ((inK .i64 (k + 1)) ∧ (((v.1 = t2_0x1 ∧ v.2.1 = t2_1x1 ∧ v.2.2.1 = t2_2x1 ∧ v.2.2.2 = t2_3x1 ∧ x.1 = t3_0x1 ∧ x.2 = t3_1x1) ∧ ((o ++ [(Int.tdiv r_1 (Int.tdiv s_1 (bsD (t2_0x1, t2_1x1, t2_2x1, t2_3x1) : Int)))]) = digs (bsD v) x.1 (Int.toNat x.2) (Int.toNat (k + 1)) ∧ (Int.tdiv s_1 (bsD (t2_0x1, t2_1x1, t2_2x1, t2_3x1) : Int)) = ((bsD v ^ (Int.toNat (x.2 - (k + 1))) : Nat) : Int) ∧ (Int.tmod r_1 (Int.tdiv s_1 (bsD (t2_0x1, t2_1x1, t2_2x1, t2_3x1) : Int))) = x.1 % (Int.tdiv s_1 (bsD (t2_0x1, t2_1x1, t2_2x1, t2_3x1) : Int)) ∧ 0 ≤ (k + 1) ∧ (k + 1) ≤ x.2)) ∧ ((Int.toNat (x.2 - (k + 1)) : Nat) < Int.toNat (x.2 - k))))))))))) (@Eq (HO c_spec_l09Split.outs) (o, ()) (c_spec_l09Split.out (v, x, ())))))))))))))) (by kernel_rfl) ?_
  rintro v x ⟨hv, hx⟩ hl
  obtain ⟨-, b1, b2, -⟩ := bsD_facts hv
  obtain ⟨⟨⟨x1, x1'⟩, x2, x2'⟩, xb, xs, -⟩ := exD_in hv hx
  obtain ⟨D, hD⟩ : ∃ D : Nat, x.2 = D := ⟨x.2.toNat, by omega⟩
  rw [scl_ok xs]
  simp only [hD, Int.toNat_natCast] at xb ⊢
  have hS1 : 1 ≤ bsD v ^ D := Nat.pow_pos b1
  have cS : (bsD v : Int) ^ D = ((bsD v ^ D : Nat) : Int) := (Int.natCast_pow _ _).symm
  have hE := eucS (x := x.1) hS1
  have h3 : (x.1.tdiv ((bsD v ^ D : Nat) : Int)).natAbs ≤ x.1.natAbs := by rw [Int.natAbs_tdiv]; exact Nat.div_le_self _ _
  have hAB : AB = 1099511627776 := rfl
  have hout : ∀ o : List Int, o = digs (bsD v) x.1 D D → @Eq (HO c_spec_l09Split.outs) (o, ()) (c_spec_l09Split.out (v, x, ())) := fun o h => by
    simp only [c_spec_l09Split, hD, Int.toNat_natCast, h]
  refine ⟨⟨hv, by omega⟩, by omega, by simp only [inK]; omega, by omega, bspD (fun h => ?_) (fun h => ?_), ?_⟩
  · obtain ⟨e1, e2⟩ := hE.1 h
    have := Int.emod_lt_of_pos x.1 (show (0 : Int) < ((bsD v ^ D : Nat) : Int) by omega)
    have := Int.emod_nonneg x.1 (show ((bsD v ^ D : Nat) : Int) ≠ 0 by omega)
    exact ⟨by simp only [inK]; omega, by simp only [inK]; omega, (by first | trivial | rfl | (and_intros <;> rfl)), (by first | trivial | rfl | (and_intros <;> rfl)), e1, e2⟩
  · obtain ⟨e1, e2⟩ := hE.2 h
    exact ⟨(by first | trivial | rfl | (and_intros <;> rfl)), (by first | trivial | rfl | (and_intros <;> rfl)), e1, e2⟩
  rintro s w r t2_0 t2_1 t2_2 t2_3 t3_0 t3_1 ⟨⟨rfl, rfl, rfl, rfl, rfl, rfl⟩, ⟨hs, hw, hr⟩⟩
  simp only [Prod.eta]
  refine ⟨⟨(by first | trivial | rfl | (and_intros <;> rfl)), ?_, ?_, hr, by omega, by omega⟩, ?_⟩
  · have e0 : dgt (bsD v) x.1 D 0 = x.1 / ((bsD v ^ D : Nat) : Int) := by unfold dgt flr; rw [cS, Int.pow_zero, Int.mul_one]
    rw [hw, hs, ← e0]
    rfl
  · rw [hs]; congr 2
  rintro s_1 r_1 k t2_0x1 t2_1x1 t2_2x1 t2_3x1 t3_0x1 t3_1x1 o ⟨⟨rfl, rfl, rfl, rfl, rfl, rfl⟩, ⟨ho, hs1, hr1, k0, k1⟩⟩
  simp only [Prod.eta]
  refine bspD (fun hlt => ?_) (fun hge => ?_)
  · obtain ⟨q, rfl⟩ : ∃ q : Nat, k = q := ⟨k.toNat, by omega⟩
    have hq : q < D := by omega
    rw [show ((D : Int) - (q : Int)).toNat = D - q by omega] at hs1
    simp only [Int.toNat_natCast] at ho
    obtain ⟨st1, st2, st3⟩ := dgt_step b1 (x := x.1) (d := D) (k := q) hq rfl rfl
    have hm0 : 1 ≤ bsD v ^ (D - (q + 1)) := Nat.pow_pos b1
    have hM : bsD v ^ (D - q) ≤ bsD v ^ D := Nat.pow_le_pow_right b1 (by omega)
    have hM1 : 1 ≤ bsD v ^ (D - q) := Nat.pow_pos b1
    have t1 : Int.tdiv s_1 (bsD v : Int) = ((bsD v ^ (D - (q + 1)) : Nat) : Int) := by
      rw [hs1, Int.tdiv_eq_ediv_of_nonneg (by omega), ← Int.natCast_ediv, st1]
    have r0 : 0 ≤ r_1 ∧ r_1 < ((bsD v ^ (D - q) : Nat) : Int) := by
      rw [hr1, hs1]; exact ⟨Int.emod_nonneg _ (by omega), Int.emod_lt_of_pos _ (by omega)⟩
    rw [← hs1, ← hr1] at st2 st3
    have t2 : Int.tdiv r_1 ((bsD v ^ (D - (q + 1)) : Nat) : Int) = dgt (bsD v) x.1 D (q + 1) := by rw [Int.tdiv_eq_ediv_of_nonneg r0.1]; exact st2
    have t3 : Int.tmod r_1 ((bsD v ^ (D - (q + 1)) : Nat) : Int) = x.1 % ((bsD v ^ (D - (q + 1)) : Nat) : Int) := by rw [Int.tmod_eq_emod_of_nonneg r0.1]; exact st3
    have d0 : 0 ≤ dgt (bsD v) x.1 D (q + 1) ∧ dgt (bsD v) x.1 D (q + 1) ≤ r_1 := by
      rw [← st2]; exact ⟨Int.ediv_nonneg r0.1 (by omega), Int.ediv_le_self _ r0.1⟩
    have hlen := digs_length (bsD v) x.1 D q
    have hm2 : bsD v ^ (D - (q + 1)) ≤ bsD v ^ D := Nat.pow_le_pow_right b1 (by omega)
    rw [t1, t2, t3]
    refine ⟨hv, by omega, by simp only [inK]; omega, by omega, by simp only [inK]; omega, by rw [ho, hlen]; simp only [List.length_cons, List.length_nil]; omega, by omega, by simp only [inK]; omega, ⟨(by first | trivial | rfl | (and_intros <;> rfl)), ?_, ?_, rfl, by omega, by omega⟩, by omega⟩
    · rw [ho, show ((q : Int) + 1).toNat = q + 1 by omega, digs_succ]
    · rw [show ((D : Int) - ((q : Int) + 1)).toNat = D - (q + 1) by omega]
  · refine hout o ?_
    rw [ho, show k.toNat = D by omega]
def c_spec_l09Compare : Con where
  ins := [(true, .v tVar), (true, .v tRoll), (true, .v tRoll)]
  outs := [(false, .v tI)]
  sh := false
  pre := fun x => varD x.1 = true ∧ exD x.1 x.2.1 = true ∧ exD x.1 x.2.2.1 = true
  out := fun x => (cmpD x.1 x.2.1 x.2.2.1, ())
  upd := fun x => x
  eat := false
theorem k_spec_l09Compare [B : Base] : ConOk Try.prog 53 c_spec_l09Compare := by
  refine fn_okW (C := cx Try.prog 52 c_spec_l09Compare) (cs := [(67, c_spec_l09Split)]) (res := Try.f53.results.toList) (fun x => ⟨[{ sh := ⟨[(7, .one (.ref 0)), (8, .one (.ref 1)), (9, .one (.i .i64))], [(0, .own 2 tI true), (1, .own 2 tI true)]⟩, nx := 2, I := fun _ dat_ => (digs (bsD x.1) x.2.1.1 (Int.toNat x.2.1.2) (Int.toNat x.2.1.2) = dat_.2.1 ∧ digs (bsD x.1) x.2.2.1.1 (Int.toNat x.2.2.1.2) (Int.toNat x.2.2.1.2) = dat_.2.2.1) ∧ ((∀ j : Nat, j < Int.toNat dat_.1.2.2.1 → dgt (bsD x.1) x.2.1.1 (Int.toNat x.2.1.2) j = dgt (bsD x.1) x.2.2.1.1 (Int.toNat x.2.2.1.2) j) ∧ 0 ≤ dat_.1.2.2.1 ∧ (dat_.1.2.2.1 ≤ x.2.1.2 + 1 ∨ dat_.1.2.2.1 ≤ x.2.2.1.2 + 1)), mu := fun dat_ => Int.toNat (x.2.1.2 + x.2.2.1.2 + 3 - dat_.1.2.2.1) }], [], []⟩) Try.func53 (by kernel_rfl) rfl rfl rfl tysOk.look eqTsOk.look (AllCs.ok (l := [(67, c_spec_l09Split)]) ⟨k_spec_l09Split, trivial⟩) mixed rfl rfl rfl rfl ?_
  refine of_nf (P := ∀ v : Int × Int × Int × Int, ∀ x : Int × Int, ∀ y : Int × Int, (varD v = true ∧ exD v x = true ∧ exD v y = true) → ((lensI c_spec_l09Compare.ins (v, x, y, ())) → ((varD v = true ∧ exD v x = true) ∧ ((varD v = true ∧ exD v y = true) ∧ (((digs (bsD v) x.1 (Int.toNat x.2) (Int.toNat x.2) = (digs (bsD v) x.1 (Int.toNat x.2) (Int.toNat x.2)) ∧ digs (bsD v) y.1 (Int.toNat y.2) (Int.toNat y.2) = (digs (bsD v) y.1 (Int.toNat y.2) (Int.toNat y.2))) ∧ ((∀ j : Nat, j < Int.toNat (0 : Int) → dgt (bsD v) x.1 (Int.toNat x.2) j = dgt (bsD v) y.1 (Int.toNat y.2) j) ∧ 0 ≤ (0 : Int) ∧ ((0 : Int) ≤ x.2 + 1 ∨ (0 : Int) ≤ y.2 + 1))) ∧ (∀ i : Int, ∀ p : List Int, ∀ q : List Int, ((digs (bsD v) x.1 (Int.toNat x.2) (Int.toNat x.2) = p ∧ digs (bsD v) y.1 (Int.toNat y.2) (Int.toNat y.2) = q) ∧ ((∀ j : Nat, j < Int.toNat i → dgt (bsD v) x.1 (Int.toNat x.2) j = dgt (bsD v) y.1 (Int.toNat y.2) j) ∧ 0 ≤ i ∧ (i ≤ x.2 + 1 ∨ i ≤ y.2 + 1))) → (bsp (decide (i < (p.length : Int))) (bsp (decide (i < (p.length : Int))) ((0 ≤ i ∧ i < (p.length : Int)) ∧ ((i.toNat < p.length) ∧ (bsp (decide (i < (q.length : Int))) ((0 ≤ i ∧ i < (q.length : Int)) ∧ ((i.toNat < q.length) ∧ (bsp (decide ((p.getD i.toNat 0) < (q.getD i.toNat 0))) (@Eq (HO c_spec_l09Compare.outs) ((-1), ()) (c_spec_l09Compare.out (v, x, y, ()))) (bsp (decide ((q.getD i.toNat 0) < (p.getD i.toNat 0))) (@Eq (HO c_spec_l09Compare.outs) (1, ()) (c_spec_l09Compare.out (v, x, y, ()))) ((inK .i64 (i + 1)) ∧ (((digs (bsD v) x.1 (Int.toNat x.2) (Int.toNat x.2) = p ∧ digs (bsD v) y.1 (Int.toNat y.2) (Int.toNat y.2) = q) ∧ ((∀ j : Nat, j < Int.toNat (i + 1) → dgt (bsD v) x.1 (Int.toNat x.2) j = dgt (bsD v) y.1 (Int.toNat y.2) j) ∧ 0 ≤ (i + 1) ∧ ((i + 1) ≤ x.2 + 1 ∨ (i + 1) ≤ y.2 + 1))) ∧ ((Int.toNat (x.2 + y.2 + 3 - (i + 1)) : Nat) < Int.toNat (x.2 + y.2 + 3 - i)))))))) (bsp (decide ((p.getD i.toNat 0) < (0 : Int))) (@Eq (HO c_spec_l09Compare.outs) ((-1), ()) (c_spec_l09Compare.out (v, x, y, ()))) (bsp (decide ((0 : Int) < (p.getD i.toNat 0))) (@Eq (HO c_spec_l09Compare.outs) (1, ()) (c_spec_l09Compare.out (v, x, y, ()))) ((inK .i64 (i + 1)) ∧ (((digs (bsD v) x.1 (Int.toNat x.2) (Int.toNat x.2) = p ∧ digs (bsD v) y.1 (Int.toNat y.2) (Int.toNat y.2) = q) ∧ ((∀ j : Nat, j < Int.toNat (i + 1) → dgt (bsD v) x.1 (Int.toNat x.2) j = dgt (bsD v) y.1 (Int.toNat y.2) j) ∧ 0 ≤ (i + 1) ∧ ((i + 1) ≤ x.2 + 1 ∨ (i + 1) ≤ y.2 + 1))) ∧ ((Int.toNat (x.2 + y.2 + 3 - (i + 1)) : Nat) < Int.toNat (x.2 + y.2 + 3 - i))))))))) (bsp (decide (i < (q.length : Int))) ((0 ≤ i ∧ i < (q.length : Int)) ∧ ((i.toNat < q.length) ∧ (bsp (decide ((0 : Int) < (q.getD i.toNat 0))) (@Eq (HO c_spec_l09Compare.outs) ((-1), ()) (c_spec_l09Compare.out (v, x, y, ()))) (bsp (decide ((q.getD i.toNat 0) < (0 : Int))) (@Eq (HO c_spec_l09Compare.outs) (1, ()) (c_spec_l09Compare.out (v, x, y, ()))) ((inK .i64 (i + 1)) ∧ (((digs (bsD v) x.1 (Int.toNat x.2) (Int.toNat x.2) = p ∧ digs (bsD v) y.1 (Int.toNat y.2) (Int.toNat y.2) = q) ∧ ((∀ j : Nat, j < Int.toNat (i + 1) → dgt (bsD v) x.1 (Int.toNat x.2) j = dgt (bsD v) y.1 (Int.toNat y.2) j) ∧ 0 ≤ (i + 1) ∧ ((i + 1) ≤ x.2 + 1 ∨ (i + 1) ≤ y.2 + 1))) ∧ ((Int.toNat (x.2 + y.2 + 3 - (i + 1)) : Nat) < Int.toNat (x.2 + y.2 + 3 - i)))))))) ((inK .i64 (i + 1)) ∧ (((digs (bsD v) x.1 (Int.toNat x.2) (Int.toNat x.2) = p ∧ digs (bsD v) y.1 (Int.toNat y.2) (Int.toNat y.2) = q) ∧ ((∀ j : Nat, j < Int.toNat (i + 1) → dgt (bsD v) x.1 (Int.toNat x.2) j = dgt (bsD v) y.1 (Int.toNat y.2) j) ∧ 0 ≤ (i + 1) ∧ ((i + 1) ≤ x.2 + 1 ∨ (i + 1) ≤ y.2 + 1))) ∧ ((Int.toNat (x.2 + y.2 + 3 - (i + 1)) : Nat) < Int.toNat (x.2 + y.2 + 3 - i)))))) (bsp (decide (i < (q.length : Int))) (bsp (decide (i < (p.length : Int))) ((0 ≤ i ∧ i < (p.length : Int)) ∧ ((i.toNat < p.length) ∧ (bsp (decide (i < (q.length : Int))) ((0 ≤ i ∧ i < (q.length : Int)) ∧ ((i.toNat < q.length) ∧ (bsp (decide ((p.getD i.toNat 0) < (q.getD i.toNat 0))) (@Eq (HO c_spec_l09Compare.outs) ((-1), ()) (c_spec_l09Compare.out (v, x, y, ()))) (bsp (decide ((q.getD i.toNat 0) < (p.getD i.toNat 0))) (@Eq (HO c_spec_l09Compare.outs) (1, ()) (c_spec_l09Compare.out (v, x, y, ()))) ((inK .i64 (i + 1)) ∧ (((digs (bsD v) x.1 (Int.toNat x.2) (Int.toNat x.2) = p ∧ digs (bsD v) y.1 (Int.toNat y.2) (Int.toNat y.2) = q) ∧ ((∀ j : Nat, j < Int.toNat (i + 1) → dgt (bsD v) x.1 (Int.toNat x.2) j = dgt (bsD v) y.1 (Int.toNat y.2) j) ∧ 0 ≤ (i + 1) ∧ ((i + 1) ≤ x.2 + 1 ∨ (i + 1) ≤ y.2 + 1))) ∧ ((Int.toNat (x.2 + y.2 + 3 - (i + 1)) : Nat) < Int.toNat (x.2 + y.2 + 3 - i)))))))) (bsp (decide ((p.getD i.toNat 0) < (0 : Int))) (@Eq (HO c_spec_l09Compare.outs) ((-1), ()) (c_spec_l09Compare.out (v, x, y, ()))) (bsp (decide ((0 : Int) < (p.getD i.toNat 0))) (@Eq (HO c_spec_l09Compare.outs) (1, ()) (c_spec_l09Compare.out (v, x, y, ()))) ((inK .i64 (i + 1)) ∧ (((digs (bsD v) x.1 (Int.toNat x.2) (Int.toNat x.2) = p ∧ digs (bsD v) y.1 (Int.toNat y.2) (Int.toNat y.2) = q) ∧ ((∀ j : Nat, j < Int.toNat (i + 1) → dgt (bsD v) x.1 (Int.toNat x.2) j = dgt (bsD v) y.1 (Int.toNat y.2) j) ∧ 0 ≤ (i + 1) ∧ ((i + 1) ≤ x.2 + 1 ∨ (i + 1) ≤ y.2 + 1))) ∧ ((Int.toNat (x.2 + y.2 + 3 - (i + 1)) : Nat) < Int.toNat (x.2 + y.2 + 3 - i))))))))) (bsp (decide (i < (q.length : Int))) ((0 ≤ i ∧ i < (q.length : Int)) ∧ ((i.toNat < q.length) ∧ (bsp (decide ((0 : Int) < (q.getD i.toNat 0))) (@Eq (HO c_spec_l09Compare.outs) ((-1), ()) (c_spec_l09Compare.out (v, x, y, ()))) (bsp (decide ((q.getD i.toNat 0) < (0 : Int))) (@Eq (HO c_spec_l09Compare.outs) (1, ()) (c_spec_l09Compare.out (v, x, y, ()))) ((inK .i64 (i + 1)) ∧ (((digs (bsD v) x.1 (Int.toNat x.2) (Int.toNat x.2) = p ∧ digs (bsD v) y.1 (Int.toNat y.2) (Int.toNat y.2) = q) ∧ ((∀ j : Nat, j < Int.toNat (i + 1) → dgt (bsD v) x.1 (Int.toNat x.2) j = dgt (bsD v) y.1 (Int.toNat y.2) j) ∧ 0 ≤ (i + 1) ∧ ((i + 1) ≤ x.2 + 1 ∨ (i + 1) ≤ y.2 + 1))) ∧ ((Int.toNat (x.2 + y.2 + 3 - (i + 1)) : Nat) < Int.toNat (x.2 + y.2 + 3 - i)))))))) ((inK .i64 (i + 1)) ∧ (((digs (bsD v) x.1 (Int.toNat x.2) (Int.toNat x.2) = p ∧ digs (bsD v) y.1 (Int.toNat y.2) (Int.toNat y.2) = q) ∧ ((∀ j : Nat, j < Int.toNat (i + 1) → dgt (bsD v) x.1 (Int.toNat x.2) j = dgt (bsD v) y.1 (Int.toNat y.2) j) ∧ 0 ≤ (i + 1) ∧ ((i + 1) ≤ x.2 + 1 ∨ (i + 1) ≤ y.2 + 1))) ∧ ((Int.toNat (x.2 + y.2 + 3 - (i + 1)) : Nat) < Int.toNat (x.2 + y.2 + 3 - i)))))) (@Eq (HO c_spec_l09Compare.outs) (0, ()) (c_spec_l09Compare.out (v, x, y, ()))))))))))) (by kernel_rfl) ?_
  rintro v x y ⟨hv, hx, hy⟩ hl
  obtain ⟨-, b1, b2, -⟩ := bsD_facts hv
  obtain ⟨-, x2, x2'⟩ := (exD_in hv hx).1
  obtain ⟨-, y2, y2'⟩ := (exD_in hv hy).1
  obtain ⟨D, hD⟩ : ∃ D : Nat, x.2 = D := ⟨x.2.toNat, by omega⟩
  obtain ⟨F, hF⟩ : ∃ F : Nat, y.2 = F := ⟨y.2.toNat, by omega⟩
  have out : ∀ k : Int, (x.1 * (bsD v : Int) ^ F = y.1 * (bsD v : Int) ^ D → k = 0) → (x.1 * (bsD v : Int) ^ F < y.1 * (bsD v : Int) ^ D → k = -1) → (y.1 * (bsD v : Int) ^ D < x.1 * (bsD v : Int) ^ F → k = 1) → @Eq (HO c_spec_l09Compare.outs) (k, ()) (c_spec_l09Compare.out (v, x, y, ())) := fun k k0 k1 k2 => by
    have : cmpD v x y = k := by
      unfold cmpD
      rw [hD, hF, Int.toNat_natCast, Int.toNat_natCast]
      split
      · next h => exact (k0 h).symm
      · split
        · next h => exact (k1 h).symm
        · exact (k2 (by omega)).symm
    rw [← this]; rfl
  have less : ∀ {k : Int}, x.1 * (bsD v : Int) ^ F < y.1 * (bsD v : Int) ^ D → k = -1 → @Eq (HO c_spec_l09Compare.outs) (k, ()) (c_spec_l09Compare.out (v, x, y, ())) := fun h e => out _ (fun h' => by omega) (fun _ => e) (fun h' => by omega)
  have more : ∀ {k : Int}, y.1 * (bsD v : Int) ^ D < x.1 * (bsD v : Int) ^ F → k = 1 → @Eq (HO c_spec_l09Compare.outs) (k, ()) (c_spec_l09Compare.out (v, x, y, ())) := fun h e => out _ (fun h' => by omega) (fun h' => by omega) (fun _ => e)
  have same : x.1 * (bsD v : Int) ^ F = y.1 * (bsD v : Int) ^ D → @Eq (HO c_spec_l09Compare.outs) ((0 : Int), ()) (c_spec_l09Compare.out (v, x, y, ())) := fun h => out _ (fun _ => rfl) (fun h' => by omega) (fun h' => by omega)
  clear out
  simp only [hD, hF, Int.toNat_natCast]
  refine ⟨⟨hv, hx⟩, ⟨hv, hy⟩, ⟨(by first | trivial | rfl | (and_intros <;> rfl)), fun j hj => by simp at hj, by omega, by omega⟩, ?_⟩
  rintro i p q ⟨⟨rfl, rfl⟩, ⟨heq, i0, i1⟩⟩
  obtain ⟨k, rfl⟩ : ∃ k : Nat, i = k := ⟨i.toNat, by omega⟩
  have la := digs_length (bsD v) x.1 D D
  have lb := digs_length (bsD v) y.1 F F
  simp only [Int.toNat_natCast, la, lb] at heq ⊢
  have ga : k ≤ D → (digs (bsD v) x.1 D D).getD k 0 = dgt (bsD v) x.1 D k := fun h => digs_get h
  have gb : k ≤ F → (digs (bsD v) y.1 F F).getD k 0 = dgt (bsD v) y.1 F k := fun h => digs_get h
  have fa : ¬ k ≤ D → dgt (bsD v) x.1 D k = 0 := fun h => dgt_far b1 (by omega)
  have fb : ¬ k ≤ F → dgt (bsD v) y.1 F k = 0 := fun h => dgt_far b1 (by omega)
  have lt1 : dgt (bsD v) x.1 D k < dgt (bsD v) y.1 F k → x.1 * (bsD v : Int) ^ F < y.1 * (bsD v : Int) ^ D := fun h => dgt_less b1 heq h
  have gt1 : dgt (bsD v) y.1 F k < dgt (bsD v) x.1 D k → y.1 * (bsD v : Int) ^ D < x.1 * (bsD v : Int) ^ F := fun h => dgt_less b1 (fun j hj => (heq j hj).symm) h
  have next : dgt (bsD v) x.1 D k = dgt (bsD v) y.1 F k → ∀ j : Nat, j < ((k : Int) + 1).toNat → dgt (bsD v) x.1 D j = dgt (bsD v) y.1 F j := fun h j hj => by
    by_cases e : j = k
    · subst e; exact h
    · exact heq j (by omega)
  have done : ¬ k ≤ D → ¬ k ≤ F → x.1 * (bsD v : Int) ^ F = y.1 * (bsD v : Int) ^ D := fun h1 h2 => by
    obtain ⟨m, rfl⟩ : ∃ m, k = m + 1 := ⟨k - 1, by omega⟩
    exact dgt_same b1 (i := m) (by omega) (by omega) heq
  refine bspD (fun h1 => ?_) (fun h1 => ?_)
  · refine bspD (fun h2 => ?_) (fun h2 => absurd h1 h2)
    have ea := ga (by omega)
    simp only [ea]
    refine ⟨⟨by omega, by omega⟩, by omega, bspD (fun h3 => ?_) (fun h3 => ?_)⟩
    · have eb := gb (by omega)
      simp only [eb]
      exact ⟨⟨by omega, by omega⟩, by omega, bspD (fun h => less (lt1 h) rfl) (fun h => bspD (fun g => more (gt1 g) rfl) (fun g => ⟨by simp only [inK]; omega, ⟨(by first | trivial | rfl | (and_intros <;> rfl)), next (by omega), by omega, by omega⟩, by omega⟩))⟩
    · have eb := fb (by omega)
      rw [eb] at lt1 gt1 next
      exact bspD (fun h => less (lt1 h) rfl) (fun h => bspD (fun g => more (gt1 g) rfl) (fun g => ⟨by simp only [inK]; omega, ⟨(by first | trivial | rfl | (and_intros <;> rfl)), next (by omega), by omega, by omega⟩, by omega⟩))
  · refine bspD (fun h2 => ?_) (fun h2 => ?_)
    · refine bspD (fun h3 => absurd h3 h1) (fun h3 => ?_)
      have ea := fa (by omega)
      have eb := gb (by omega)
      rw [ea] at lt1 gt1 next
      refine bspD (fun _ => ?_) (fun h => absurd h2 h)
      simp only [eb]
      exact ⟨⟨by omega, by omega⟩, by omega, bspD (fun h => less (lt1 h) rfl) (fun h => bspD (fun g => more (gt1 g) rfl) (fun g => ⟨by simp only [inK]; omega, ⟨(by first | trivial | rfl | (and_intros <;> rfl)), next (by omega), by omega, by omega⟩, by omega⟩))⟩
    · exact same (done (by omega) (by omega))
end Go.Proofs.Ytoobijimfccfgaa
