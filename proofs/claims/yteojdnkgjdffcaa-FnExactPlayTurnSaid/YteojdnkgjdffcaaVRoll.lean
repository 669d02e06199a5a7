/-
  Contracts: rolling, resigning, the opening roll; their laws.
-/
import Derived.Test.YteojdnkgjdffcaaVGame
import Derived.Test.YteojdnkgjdffcaaAbL
import Derived.Test.YteojdnkgjdffcaaAbW
namespace Go.Proofs.Yteojdnkgjdffcaa
open Go.RowKit
set_option linter.unusedSimpArgs false
set_option linter.unusedVariables false
def zeroG : DGame := (([], []), 0, (0, 0), 0, 0, 0, 0)
def rollDiceD (v : DVar) (g : DGame) (r : DRoll) : DGame × Int :=
  if gameD v g = false then (zeroG, 1) else if g.2.2.2.1 ≠ 1 then (zeroG, 5) else if rollD v r = false then (zeroG, 2)
  else ((g.1, g.2.1, r, 2, g.2.2.2.2.1, g.2.2.2.2.2.1, g.2.2.2.2.2.2), 0)
def resignD (v : DVar) (g : DGame) (k : Int) : DGame × Int :=
  if gameD v g = false then (zeroG, 1) else if g.2.2.2.1 ≠ 1 ∧ g.2.2.2.1 ≠ 2 then (zeroG, 5) else if inB k 1 3 = false then (zeroG, 2)
  else ((g.1, g.2.1, (0, 0), 3, 1 - g.2.1, k, g.2.2.2.2.2.2), 0)
def openD (g : DGame) (a b : Int) : DGame :=
  if a = b then g else (if a < b then ((g.1.2, g.1.1), 1, (max a b, min a b), 2, g.2.2.2.2) else (g.1, g.2.1, (max a b, min a b), 2, g.2.2.2.2))
def openingD (v : DVar) (g : DGame) (a b : Int) : DGame × Int :=
  if gameD v g = false then (zeroG, 1) else if g.2.2.2.1 ≠ 0 then (zeroG, 5) else if inB a 1 v.2.2.2 = false ∨ inB b 1 v.2.2.2 = false then (zeroG, 2)
  else (openD g a b, 0)
theorem gameD_ne {v : DVar} {g : DGame} (h : gameD v g = true) : NeB g.1 ∧ 0 ≤ g.2.1 ∧ g.2.1 ≤ 1 := by
  simp only [gameD, Bool.and_eq_true] at h
  have := h.1.1.1.2
  simp only [inB, Bool.and_eq_true, decide_eq_true_eq] at this
  exact ⟨boardD_ne h.1.1.1.1.2, this⟩
/-- a game's memory is no more than another's -/
def LeG (x g : DGame) : Prop := x.1.1.length + x.1.2.length ≤ g.1.1.length + g.1.2.length
theorem leG_zero (g : DGame) : LeG zeroG g := by simp [LeG, zeroG]
theorem rollDiceD_le (v : DVar) (g : DGame) (r : DRoll) : LeG (rollDiceD v g r).1 g := by
  unfold rollDiceD
  repeat' split
  all_goals first | exact leG_zero g | simp [LeG]
theorem resignD_le (v : DVar) (g : DGame) (k : Int) : LeG (resignD v g k).1 g := by
  unfold resignD
  repeat' split
  all_goals first | exact leG_zero g | simp [LeG]
theorem openD_le (g : DGame) (a b : Int) : LeG (openD g a b) g := by
  unfold openD
  repeat' split
  all_goals first | simp [LeG]; done | (simp [LeG]; omega)
theorem openingD_le (v : DVar) (g : DGame) (a b : Int) : LeG (openingD v g a b).1 g := by
  unfold openingD
  repeat' split
  all_goals first | exact leG_zero g | exact openD_le g a b
end Go.Proofs.Yteojdnkgjdffcaa
