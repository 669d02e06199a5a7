/-
  Contracts: the weight of the rolls that dance; the law of DancingWeight.
-/
import Derived.Test.YtgbfcjnkohhfoaaVSeq
import Derived.Test.YtgbfcjnkohhfoaaVRolls
namespace Go.Proofs.Ytgbfcjnkohhfoaa
open Go.RowKit
set_option linter.unusedSimpArgs false
set_option linter.unusedVariables false
def danceS (v : DVar) (b : DBoard) (w : Int) (r : DRoll) : Int := if legalD v b r.1 = [] ∧ legalD v b r.2 = [] then w + wtD r else w
def danceD (v : DVar) (b : DBoard) : Int × Int := if boardD v b = true then ((rollsTo v.2.2.2.toNat).foldl (danceS v b) 0, 0) else (0, 1)
theorem dance_bd (v : DVar) (b : DBoard) (l : List DRoll) : 0 ≤ l.foldl (danceS v b) 0 ∧ l.foldl (danceS v b) 0 ≤ 2 * l.length := by
  have gen : ∀ (l : List DRoll) (m : Int), 0 ≤ m → 0 ≤ l.foldl (danceS v b) m ∧ l.foldl (danceS v b) m ≤ m + 2 * l.length := by
    intro l
    induction l with
    | nil => intro m h; simp; exact h
    | cons r l ih =>
      intro m h
      have h1 : m ≤ danceS v b m r ∧ danceS v b m r ≤ m + 2 := by have := wtD_bd r; unfold danceS; split <;> omega
      have := ih (danceS v b m r) (by omega)
      simp only [List.foldl_cons, List.length_cons]; omega
  have := gen l 0 (by omega)
  omega
theorem nextD_start {v : DVar} {b : DBoard} {d : Int} : nextD v (startP b) d = [] ↔ legalD v b d = [] := by
  unfold nextD startP
  simp only [List.flatMap_cons, List.flatMap_nil, List.append_nil, stepsOf]
  cases h : legalD v b d with
  | nil => simp
  | cons s l =>
    have := (len_foldl_addP (l.map fun s => (([] : List DStep) ++ [s], afterD v b s)) (addP [] ([] ++ [s], afterD v b s))).1
    simp only [List.map_cons, List.foldl_cons]
    refine ⟨fun e => ?_, fun e => by cases e⟩
    rw [e] at this
    simp [addP] at this
theorem usedD_zero {v : DVar} {b : DBoard} {r : DRoll} : usedD v b r = 0 ↔ legalD v b r.1 = [] ∧ legalD v b r.2 = [] := by
  have seq0 : ∀ d ds, ((seqD v (startP b) (d :: ds)).length : Int) ≤ 0 ↔ legalD v b d = [] := fun d ds => by
    rw [← nextD_start]
    simp only [seqD]
    split
    · next h => simp [h]
    · next h => simp only [List.length_cons, h, iff_false]; omega
  unfold usedD usedL ordersD
  split
  · next e =>
    have := seq0 r.1 [r.1, r.1, r.1]
    simp only [List.map_cons, List.map_nil, List.foldl_cons, List.foldl_nil, rowsD, List.length_cons, ← e, and_self]
    rw [← this]; omega
  · have h1 := seq0 r.1 [r.2]
    have h2 := seq0 r.2 [r.1]
    simp only [List.map_cons, List.map_nil, List.foldl_cons, List.foldl_nil, rowsD, List.length_cons]
    rw [← h1, ← h2]; omega
end Go.Proofs.Ytgbfcjnkohhfoaa
