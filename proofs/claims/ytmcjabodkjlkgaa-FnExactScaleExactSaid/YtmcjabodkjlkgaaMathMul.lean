/-
  Plain arithmetic: a product over a power of a base, in lowest terms.
-/
import Derived.Test.YtmcjabodkjlkgaaMk
namespace Go.Proofs.Ytmcjabodkjlkgaa

/-- the division by the base, on sizes -/
def stripN (b : Nat) : Nat → Nat → Nat × Nat
  | 0, n => (n, 0)
  | d + 1, n => if n % b = 0 then stripN b d (n / b) else (n, d + 1)

theorem tmod_abs {A : Int} {b : Nat} : A.tmod (b : Int) = 0 ↔ A.natAbs % b = 0 := by
  have h := Int.natAbs_tmod A (b : Int)
  rw [Int.natAbs_natCast] at h
  omega
theorem strip_abs_eq (b : Nat) : ∀ d (A : Int), (strip b d A).1.natAbs = (stripN b d A.natAbs).1 ∧ (strip b d A).2 = (stripN b d A.natAbs).2
  | 0, A => by simp [strip, stripN]
  | d + 1, A => by
    by_cases h : A.tmod (b : Int) = 0
    · rw [strip_step h]
      have h2 := tmod_abs.1 h
      have e : (A.tdiv (b : Int)).natAbs = A.natAbs / b := by rw [Int.natAbs_tdiv, Int.natAbs_natCast]; rfl
      simp only [stripN, if_pos h2]
      rw [← e]
      exact strip_abs_eq b d _
    · rw [strip_stop h]
      have h2 : ¬ A.natAbs % b = 0 := fun h' => h (tmod_abs.2 h')
      simp [stripN, h2]
/-- the sign stays -/
theorem strip_sign (b : Nat) : ∀ d (A : Int), (0 ≤ A → 0 ≤ (strip b d A).1) ∧ (A ≤ 0 → (strip b d A).1 ≤ 0)
  | 0, A => by simp [strip]
  | d + 1, A => by
    by_cases h : A.tmod (b : Int) = 0
    · rw [strip_step h]
      obtain ⟨i1, i2⟩ := strip_sign b d (A.tdiv (b : Int))
      refine ⟨fun h0 => i1 (Int.tdiv_nonneg h0 (by omega)), fun h0 => i2 ?_⟩
      have e : A.tdiv (b : Int) = -((-A).tdiv (b : Int)) := by rw [Int.neg_tdiv, Int.neg_neg]
      have : 0 ≤ (-A).tdiv (b : Int) := Int.tdiv_nonneg (by omega) (by omega)
      omega
    · rw [strip_stop h]
      exact ⟨fun h0 => h0, fun h0 => h0⟩
/-- once divided, nothing more is divided -/
theorem strip_twice (b : Nat) : ∀ d (A : Int), strip b (strip b d A).2 (strip b d A).1 = strip b d A
  | 0, A => by simp [strip]
  | d + 1, A => by
    by_cases h : A.tmod (b : Int) = 0
    · rw [strip_step h]; exact strip_twice b d _
    · rw [strip_stop h]; exact strip_stop h
theorem stripN_le (b : Nat) : ∀ d n, (stripN b d n).1 ≤ n
  | 0, n => by simp [stripN]
  | d + 1, n => by
    simp only [stripN]
    split
    · exact Nat.le_trans (stripN_le b d _) (Nat.div_le_self _ _)
    · exact Nat.le_refl _
theorem stripN_dep (b : Nat) : ∀ d n, (stripN b d n).2 ≤ d
  | 0, n => by simp [stripN]
  | d + 1, n => by
    simp only [stripN]
    split
    · exact Nat.le_trans (stripN_dep b d _) (by omega)
    · exact Nat.le_refl _

/-- the two words of a quotient -/
theorem words_div {hi lo b : Nat} (hlo : lo < 18446744073709551616) (hb : 1 ≤ b) :
    (hi * 18446744073709551616 + lo) / b = hi / b * 18446744073709551616 + (hi % b * 18446744073709551616 + lo) / b ∧ (hi * 18446744073709551616 + lo) % b = (hi % b * 18446744073709551616 + lo) % b ∧ (hi % b * 18446744073709551616 + lo) / b < 18446744073709551616 := by
  have h := Nat.div_add_mod hi b
  have hm := Nat.mod_lt hi (show 0 < b by omega)
  have e : hi * 18446744073709551616 + lo = (hi % b * 18446744073709551616 + lo) + b * (hi / b * 18446744073709551616) := by
    have : hi * 18446744073709551616 = (b * (hi / b) + hi % b) * 18446744073709551616 := by rw [h]
    rw [this, Nat.add_mul, Nat.mul_assoc]
    omega
  refine ⟨?_, ?_, ?_⟩
  · rw [e, Nat.add_mul_div_left _ _ (by omega), Nat.add_comm]
  · rw [e, Nat.add_mul_mod_self_left]
  · rw [Nat.div_lt_iff_lt_mul (by omega)]
    have : (hi % b + 1) * 18446744073709551616 ≤ b * 18446744073709551616 := Nat.mul_le_mul_right _ (by omega)
    rw [Nat.add_mul] at this
    omega
end Go.Proofs.Ytmcjabodkjlkgaa
