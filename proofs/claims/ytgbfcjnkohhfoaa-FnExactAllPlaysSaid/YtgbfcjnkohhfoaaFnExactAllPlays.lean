/-
  The law FnExactAllPlays, as it is said.
-/
import Derived.Test.YtgbfcjnkohhfoaaFnExactAllPlaysA
import Derived.Test.YtgbfcjnkohhfoaaJoined
namespace Go.Proofs.Ytgbfcjnkohhfoaa.fnExactAllPlays
open Go.ChangeShapes Go.WideShapes Go.ChangeAt Go.RowKit Go.Joins
set_option linter.unusedVariables false

theorem closed1 : joined1 Try.checked.prog 3 Try.f3 Rows.fnExactAllPlaysSpec Rows.fnExactAllPlaysRow = true := by kernel_rfl
theorem closed2 : joined2 Try.checked.prog 3 Try.f3 Rows.fnExactAllPlaysSpec Rows.fnExactAllPlaysRow = true := by kernel_rfl
theorem closed : joinedFacts Try.checked.prog 3 Try.f3 Rows.fnExactAllPlaysSpec Rows.fnExactAllPlaysRow = true := joined_of closed1 closed2
theorem proved : Rows.FnExactAllPlaysSaid :=
  OpenClaim.holds_of_wide 3 Try.f3 rfl rfl rfl rfl rfl rfl rfl ⟨rfl, rfl, rfl, rfl, rfl⟩ rfl rfl rfl rfl rfl (by kernel_rfl) Try.func3 closed
    (of_decide_eq_true (by kernel_rfl)) (by unfold Func.isWrapper; first | (rw [if_pos (by decide +kernel)]; kernel_rfl) | (rw [if_neg (by decide +kernel)]; exact ⟨rfl, rfl⟩))
    (fun os started H enc _ => lifted os started H enc)
#print axioms proved
end Go.Proofs.Ytgbfcjnkohhfoaa.fnExactAllPlays
