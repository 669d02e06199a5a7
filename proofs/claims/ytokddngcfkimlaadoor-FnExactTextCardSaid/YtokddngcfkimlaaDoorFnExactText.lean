/-
  The law FnExactText, as it is said.
-/
import Derived.Test.YtokddngcfkimlaaDoorFnExactTextA
import Derived.Test.YtokddngcfkimlaaDoorJoined
import Derived.Test.YtokddngcfkimlaaDoorTie
import Derived.Test.YtokddngcfkimlaaDoorCards
import Derived.SevenTiedAt
namespace Go.Proofs.YtokddngcfkimlaaDoor.fnExactText
open Go.ChangeShapes Go.WideShapes Go.ChangeAt Go.RowKit Go.Joins
set_option linter.unusedVariables false

theorem closed1 : joined1 Tryd.checked.prog 3 Tryd.f3 Rows.fnExactTextSpec Rows.fnExactTextRow = true := by kernel_rfl
theorem closed2 : joined2 Tryd.checked.prog 3 Tryd.f3 Rows.fnExactTextSpec Rows.fnExactTextRow = true := by kernel_rfl
theorem closed : joinedFacts Tryd.checked.prog 3 Tryd.f3 Rows.fnExactTextSpec Rows.fnExactTextRow = true := joined_of closed1 closed2
theorem row_holds : Rows.FnExactTextSaid :=
  OpenClaim.holds_of_wide 3 Tryd.f3 rfl rfl rfl rfl rfl rfl rfl ⟨rfl, rfl, rfl, rfl, rfl⟩ rfl rfl rfl rfl rfl (by kernel_rfl) Tryd.func3 closed
    (of_decide_eq_true (by kernel_rfl)) (by unfold Func.isWrapper; first | (rw [if_pos (by decide +kernel)]; kernel_rfl) | (rw [if_neg (by decide +kernel)]; exact ⟨rfl, rfl⟩))
    (fun os started H enc _ => lifted os started H enc)
theorem proved : Rows.FnExactTextCardSaid :=
  Claim7.holds_tied_plain_at .later [] _ _ _ _ row_holds (fun _ h => by cases h) (by kernel_rfl) (fun _ h => by cases h) fnExactText_row_tie rfl ⟨rfl, rfl⟩ (by kernel_rfl) rfl
    (fun f fn hf hfn => by
      obtain rfl : f = 3 := Option.some.inj ((show Tryd.prog.funcNamed Rows.fnExactTextRow.func = some 3 by kernel_rfl).symm.trans hf) |>.symm
      obtain rfl : fn = Tryd.f3 := (Option.some.inj (Tryd.func3.symm.trans hfn)).symm
      exact ⟨by kernel_rfl, fun j t ht => by
        rw [Tryd.params3] at ht
        have hm : t ∈ [22] := by simpa using Array.mem_of_getElem? ht
        have hall : ([22].all fun u => !Tryd.prog.wantsStandIn u) = true := by kernel_rfl
        exact (show Tryd.prog.wantsStandIn t = false by simpa using List.all_eq_true.1 hall t hm)⟩)
    (by kernel_rfl)
#print axioms proved
end Go.Proofs.YtokddngcfkimlaaDoor.fnExactText
