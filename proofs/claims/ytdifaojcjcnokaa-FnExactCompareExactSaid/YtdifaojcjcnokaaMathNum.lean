/-
  Plain arithmetic: the number of a position.
-/
import Derived.Test.YtdifaojcjcnokaaMathAt
import Derived.Test.YtdifaojcjcnokaaPips
namespace Go.Proofs.Ytdifaojcjcnokaa

/-- element j as a count -/
def dg (zs : List Int) (j : Nat) : Nat := (zs.getD j 0).toNat
def sumTo (zs : List Int) : Nat → Nat
  | 0 => 0
  | j + 1 => sumTo zs j + dg zs j
/-- the positions with l checkers on the first j points that come before -/
def numD (zs : List Int) : Nat → Nat → Nat
  | 0, _ => 0
  | j + 1, l => skipTo j l (dg zs j) + numD zs j (l - dg zs j)

theorem numD_bd (zs : List Int) : ∀ j l, j ≤ 25 → l ≤ 15 → sumTo zs j ≤ l → numD zs j l ≤ chs l j
  | 0, l, _, _, _ => by simp [numD]
  | j + 1, l, hj, hl, hs => by
    simp only [sumTo] at hs
    have ih := numD_bd zs j (l - dg zs j) (by omega) (by omega) (by omega)
    have h1 := skipTo_pascal j l (by omega) hl (dg zs j) (by omega)
    have h2 := chs_mono1 (m := l - dg zs j) (i := j) (by omega) (by omega)
    simp only [numD]
    omega

theorem skipTo_mono (i l : Nat) {d e : Nat} (h : d ≤ e) : skipTo i l d ≤ skipTo i l e := by
  induction e with
  | zero => obtain rfl : d = 0 := by omega
            exact Nat.le_refl _
  | succ e ih =>
    rcases Nat.lt_or_ge d (e + 1) with h' | h'
    · have := ih (by omega)
      simp only [skipTo]
      omega
    · obtain rfl : d = e + 1 := by omega
      exact Nat.le_refl _

theorem sumTo_cons (z : Int) (zs : List Int) : ∀ k, sumTo (z :: zs) (k + 1) = z.toNat + sumTo zs k
  | 0 => by simp [sumTo, dg]
  | k + 1 => by
    have := sumTo_cons z zs k
    simp only [sumTo] at this ⊢
    rw [this]
    simp [dg]
    omega
theorem fits_sum {left : Int} {zs : List Int} (h0 : 0 ≤ left) (h : fits left zs = true) : (sumTo zs zs.length : Int) ≤ left := by
  induction zs generalizing left with
  | nil => simpa [sumTo] using h0
  | cons z zs ih =>
    simp [fits] at h
    obtain ⟨⟨h1, h2⟩, h3⟩ := h
    have := ih (by omega) h3
    rw [List.length_cons, sumTo_cons]
    omega
end Go.Proofs.Ytdifaojcjcnokaa
