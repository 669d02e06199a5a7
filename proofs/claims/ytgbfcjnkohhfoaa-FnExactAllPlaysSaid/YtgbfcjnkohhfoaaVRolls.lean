/-
  Contracts: all rolls.
-/
import Derived.Test.YtgbfcjnkohhfoaaVGame
import Derived.Test.YtgbfcjnkohhfoaaAbW
namespace Go.Proofs.Ytgbfcjnkohhfoaa
open Go.RowKit
set_option linter.unusedSimpArgs false
set_option linter.unusedVariables false
def rowTo (a : Int) : Nat → List DRoll
  | 0 => []
  | k + 1 => rowTo a k ++ [(a, (k : Int) + 1)]
def rollsTo : Nat → List DRoll
  | 0 => []
  | a + 1 => rollsTo a ++ rowTo ((a : Int) + 1) (a + 1)
theorem rowTo_len (a : Int) : ∀ k, (rowTo a k).length = k
  | 0 => rfl
  | k + 1 => by simp [rowTo, rowTo_len a k]
theorem rollsTo_len : ∀ k, k ≤ 6 → (rollsTo k).length ≤ 6 * k
  | 0, _ => by simp [rollsTo]
  | k + 1, h => by
    have := rollsTo_len k (by omega)
    simp only [rollsTo, List.length_append, rowTo_len]; omega
theorem rowTo_mem {a : Int} {k : Nat} {r : DRoll} (h : r ∈ rowTo a k) : r.1 = a ∧ 1 ≤ r.2 ∧ r.2 ≤ k := by
  induction k with
  | zero => simp [rowTo] at h
  | succ k ih =>
    simp only [rowTo, List.mem_append, List.mem_singleton] at h
    rcases h with h | h
    · have := ih h; omega
    · subst h; exact ⟨rfl, by dsimp only; omega, by dsimp only; omega⟩
theorem rollsTo_mem {k : Nat} {r : DRoll} (h : r ∈ rollsTo k) : 1 ≤ r.1 ∧ r.1 ≤ k ∧ 1 ≤ r.2 ∧ r.2 ≤ r.1 := by
  induction k with
  | zero => simp [rollsTo] at h
  | succ k ih =>
    simp only [rollsTo, List.mem_append] at h
    rcases h with h | h
    · have := ih h; omega
    · have := rowTo_mem h; omega
theorem rollsTo_ok {v : DVar} (hv : varD v = true) {r : DRoll} (h : r ∈ rollsTo v.2.2.2.toNat) : rollD v r = true := by
  have h1 := rollsTo_mem h
  have := (varD_iff.1 hv).2.2.2
  simp only [rollD, hv, Bool.true_and, Bool.and_eq_true, inB, decide_eq_true_eq]
  omega
def wtD (r : DRoll) : Int := if r.1 = r.2 then 1 else 2
def weightD (v : DVar) (r : DRoll) : Int := if rollD v r = true then wtD r else 0
theorem wtD_bd (r : DRoll) : 1 ≤ wtD r ∧ wtD r ≤ 2 := by unfold wtD; split <;> omega
theorem rollsTo_cnt {k : Nat} (h : k ≤ 6) : (rollsTo k).length = k * (k + 1) / 2 := by
  have : k = 0 ∨ k = 1 ∨ k = 2 ∨ k = 3 ∨ k = 4 ∨ k = 5 ∨ k = 6 := by omega
  rcases this with rfl | rfl | rfl | rfl | rfl | rfl | rfl <;> decide
def kindsD (v : DVar) : Int := if varD v then ((rollsTo v.2.2.2.toNat).length : Int) else -1
end Go.Proofs.Ytgbfcjnkohhfoaa
