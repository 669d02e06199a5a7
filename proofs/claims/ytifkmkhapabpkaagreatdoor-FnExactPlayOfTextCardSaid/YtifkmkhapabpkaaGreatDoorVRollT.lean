/-
  The law FnExactRollText.
-/
import Derived.Test.YtifkmkhapabpkaaGreatDoorVText
import Derived.Test.YtifkmkhapabpkaaGreatDoorVGame
import Derived.Test.YtifkmkhapabpkaaGreatDoorAbL
import Derived.Test.YtifkmkhapabpkaaGreatDoorAbW
namespace Go.Proofs.YtifkmkhapabpkaaGreatDoor
open Go.RowKit
set_option linter.unusedSimpArgs false
set_option linter.unusedVariables false
theorem rollD_in {v : DVar} {r : DRoll} (h : rollD v r = true) : (1 ≤ r.1 ∧ r.1 ≤ 6) ∧ 1 ≤ r.2 ∧ r.2 ≤ 6 := by
  simp only [rollD, Bool.and_eq_true, inB, decide_eq_true_eq] at h
  have := (varD_iff.1 h.1.1).2.2.2
  omega
def rollS (v : DVar) (r : DRoll) : ByteArray := if rollD v r = true then decS r.1 ++ decS r.2 else ⟨#[]⟩
end Go.Proofs.YtifkmkhapabpkaaGreatDoor
