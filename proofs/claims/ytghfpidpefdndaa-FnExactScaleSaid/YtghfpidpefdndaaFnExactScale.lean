/-
  The law FnExactScale, as it is said.
-/
import Derived.Test.YtghfpidpefdndaaFnExactScaleA
import Derived.Test.YtghfpidpefdndaaJoined
namespace Go.Proofs.Ytghfpidpefdndaa.fnExactScale
open Go.ChangeShapes Go.WideShapes Go.ChangeAt Go.RowKit Go.Joins
set_option linter.unusedVariables false

theorem closed1 : joined1 Try.checked.prog 11 Try.f11 Rows.fnExactScaleSpec Rows.fnExactScaleRow = true := by kernel_rfl
theorem closed2 : joined2 Try.checked.prog 11 Try.f11 Rows.fnExactScaleSpec Rows.fnExactScaleRow = true := by kernel_rfl
theorem closed : joinedFacts Try.checked.prog 11 Try.f11 Rows.fnExactScaleSpec Rows.fnExactScaleRow = true := joined_of closed1 closed2
theorem proved : Rows.FnExactScaleSaid :=
  OpenClaim.holds_of_wide 11 Try.f11 rfl rfl rfl rfl rfl rfl rfl ⟨rfl, rfl, rfl, rfl, rfl⟩ rfl rfl rfl rfl rfl (by kernel_rfl) Try.func11 closed
    (of_decide_eq_true (by kernel_rfl)) (by unfold Func.isWrapper; first | (rw [if_pos (by decide +kernel)]; kernel_rfl) | (rw [if_neg (by decide +kernel)]; exact ⟨rfl, rfl⟩))
    (fun os started H enc _ => lifted os started H enc)
#print axioms proved
end Go.Proofs.Ytghfpidpefdndaa.fnExactScale
