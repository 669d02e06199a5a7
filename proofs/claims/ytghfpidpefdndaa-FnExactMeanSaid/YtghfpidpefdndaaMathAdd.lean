/-
  Plain arithmetic: the sum of two valid numbers over powers of the base, as the program and as the reference guard it against overflow.
-/
import Derived.Test.YtghfpidpefdndaaMathFit
namespace Go.Proofs.Ytghfpidpefdndaa

/-- the smaller depth first: x is scaled up by e -/
def addCond (b : Nat) (x : Int) (e : Nat) : Bool := decide (x.natAbs * b ^ e ≤ 2000000000000000000)

theorem pow_mul_mono {b m j e : Nat} (hb : 1 ≤ b) (hj : j ≤ e) : m * b ^ j ≤ m * b ^ e := Nat.mul_le_mul_left _ (Nat.pow_le_pow_right hb hj)

/-- beyond the bound the sum is too large, and it cannot be divided -/
theorem add_big {b : Nat} {x y : Int} {e d : Nat} (he : 1 ≤ e) (hd : 1 ≤ d) (hx : 2000000000000000000 < x.natAbs * b ^ e) (hy : y.natAbs ≤ 1000000000000000000) (hyb : y.tmod b ≠ 0) :
    strip b d (x * (b : Int) ^ e + y) = (x * (b : Int) ^ e + y, d) ∧ 1000000000000000000 < (x * (b : Int) ^ e + y).natAbs := by
  constructor
  · cases d with
    | zero => omega
    | succ d =>
      simp only [strip]
      rw [if_neg]
      intro h
      have h1 : (b : Int) ∣ x * (b : Int) ^ e + y := Int.dvd_of_tmod_eq_zero h
      have h2 : (b : Int) ∣ x * (b : Int) ^ e := by
        obtain ⟨k, rfl⟩ : ∃ k, e = k + 1 := ⟨e - 1, by omega⟩
        rw [Int.pow_succ, ← Int.mul_assoc]
        exact Int.dvd_mul_left _ _
      have h3 : (b : Int) ∣ y := (Int.dvd_add_right h2).1 h1
      exact hyb (Int.tmod_eq_zero_of_dvd h3)
  · have h1 : (x * (b : Int) ^ e).natAbs = x.natAbs * b ^ e := by rw [Int.natAbs_mul, Int.natAbs_pow]; simp
    omega
end Go.Proofs.Ytghfpidpefdndaa
