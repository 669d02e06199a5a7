/-
  Plain arithmetic: the number of lists of i elements with a sum of at most m, its bounds and its recurrence, for m up to 15 and i up to 26.
-/
import Derived.Test.YtgfpojneeekgkaaProg
namespace Go.Proofs.Ytgfpojneeekgkaa

/-- the number of lists of i elements with a sum of at most m -/
def chs (m : Nat) : Nat → Nat
  | 0 => 1
  | i + 1 => chs m i * (m + (i + 1)) / (i + 1)

theorem chs_bd_all : ∀ m, m < 16 → ∀ i, i < 26 → chs m i * (m + (i + 1)) ≤ 1000000000000000 := by decide +kernel
theorem chs_bd {m i : Nat} (hm : m ≤ 15) (hi : i ≤ 25) : chs m i * (m + (i + 1)) ≤ 1000000000000000 := chs_bd_all m (by omega) i (by omega)
theorem chs_pos_all : ∀ m, m < 16 → ∀ i, i < 27 → 1 ≤ chs m i ∧ chs m i ≤ 1000000000000000 := by decide +kernel
theorem chs_pos {m i : Nat} (hm : m ≤ 15) (hi : i ≤ 26) : 1 ≤ chs m i ∧ chs m i ≤ 1000000000000000 := chs_pos_all m (by omega) i (by omega)
theorem chs_mono_all : ∀ m, m < 16 → ∀ i, i < 26 → chs m i ≤ chs m (i + 1) := by decide +kernel
theorem chs_mono1 {m i : Nat} (hm : m ≤ 15) (hi : i ≤ 25) : chs m i ≤ chs m (i + 1) := chs_mono_all m (by omega) i (by omega)
theorem chs_mono {m i j : Nat} (hm : m ≤ 15) (hij : i ≤ j) (hj : j ≤ 26) : chs m i ≤ chs m j := by
  induction hij with
  | refl => exact Nat.le_refl _
  | step h ih => exact Nat.le_trans (ih (by omega)) (chs_mono1 hm (by omega))
theorem chs_left_all : ∀ m, m < 15 → ∀ i, i < 27 → chs m i ≤ chs (m + 1) i := by decide +kernel
theorem chs_left {m n i : Nat} (hmn : m ≤ n) (hn : n ≤ 15) (hi : i ≤ 26) : chs m i ≤ chs n i := by
  induction hmn with
  | refl => exact Nat.le_refl _
  | step h ih => exact Nat.le_trans (ih (by omega)) (chs_left_all _ (by omega) i (by omega))
/-- Pascal: one element more -/
theorem chs_pascal_all : ∀ m, m < 15 → ∀ i, i < 26 → chs (m + 1) (i + 1) = chs (m + 1) i + chs m (i + 1) := by decide +kernel
theorem chs_pascal {m i : Nat} (hm : m ≤ 14) (hi : i ≤ 25) : chs (m + 1) (i + 1) = chs (m + 1) i + chs m (i + 1) := chs_pascal_all m (by omega) i (by omega)
theorem chs_zero_all : ∀ i, i < 27 → chs 0 i = 1 := by decide +kernel
theorem chs_zero {i : Nat} (hi : i ≤ 26) : chs 0 i = 1 := chs_zero_all i (by omega)

theorem chs_step (m j : Nat) : ((chs m (j + 1) : Nat) : Int) = (chs m j : Int) * ((m : Int) + ((j : Int) + 1)) / ((j : Int) + 1) := by
  simp [chs]

theorem castmul {a b N : Nat} {b' : Int} (h : a * b ≤ N) (e : (b : Int) = b') : 0 ≤ (a : Int) * b' ∧ (a : Int) * b' ≤ (N : Int) := by
  subst e; exact ⟨by exact_mod_cast Nat.zero_le _, by exact_mod_cast h⟩
theorem chs_bdI {m i : Nat} (hm : m ≤ 15) (hi : i ≤ 25) : 0 ≤ (chs m i : Int) * ((m : Int) + ((i : Int) + 1)) ∧ (chs m i : Int) * ((m : Int) + ((i : Int) + 1)) ≤ 1000000000000000 :=
  castmul (chs_bd hm hi) (by omega)

/-- what spec.l10Ways returns -/
def ways (m i : Nat) : Int := if chs m i ≤ 1000000 then (chs m i : Int) else -1
end Go.Proofs.Ytgfpojneeekgkaa
