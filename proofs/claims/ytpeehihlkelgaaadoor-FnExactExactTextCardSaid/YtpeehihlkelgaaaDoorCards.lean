/-
  DERIVED. GIVEN WITH THE SEED: THE CARDS: each row of YtpeehihlkelgaaaDoorRows.lean that lists a variable, with what it lists TIED to the program's text (the seventh form; the later family's looks); each row that meets fmt, with fmt's text TOLD by the authors' own Lean function (tested against real Go, not proved from fmt's source: count such statements apart). THE CARD IS WHAT COUNTS. Prove the row's statement (the work); the ties are given (YtpeehihlkelgaaaDoorTie.lean); close each card by the builder's one call (the guide's Derived/Test/ToyasCard.lean, 'card_holds'). Laid BY PROGRAM, IN A SANDBOX (cutbox-door.mjs). By AI agents, Wed Nov 11 2026. No macro, syntax, notation, axiom, sorry.
-/
import Derived.Test.YtpeehihlkelgaaaDoorRows
import GoSem.ClaimSeven
namespace Go.Proofs.YtpeehihlkelgaaaDoor
namespace Rows

/-- THE TIED CARD OF 'laws.FnExactExactText'. -/
def fnExactExactTextCard : Claim7 := { stood := { row := fnExactExactTextRow, standIns := [], harness := (true, "63cc1d2d7cfeddad7069bfba9d2225e48df4db9411385fcaa5c166faef449083"), looks := false }, kinds := [], alts := [], laidByText := true, laidKinds := [.data, .data, .data], laidTests := true, laidLooks := .later }
def FnExactExactTextCardSaid : Prop := Claim7.holds Tryd.pinned (.plain (OpenSpec.ofChange fnExactExactTextSpec)) fnExactExactTextCard

/-- THE SECOND FORM's CARD OF 'laws.FnExactExactText'. -/
def fnExactExactTextUptoCard : Claim7 := { stood := { row := fnExactExactTextUptoRow, standIns := [], harness := (true, "63cc1d2d7cfeddad7069bfba9d2225e48df4db9411385fcaa5c166faef449083"), looks := false }, kinds := [], alts := [], laidByText := true, laidKinds := [.data, .data, .data], laidTests := true, laidLooks := .later }
def FnExactExactTextUptoCardSaid : Prop := Claim7.holds Tryd.pinned (.plain (OpenSpec.upto fnExactExactTextSpec)) fnExactExactTextUptoCard
end Rows
end Go.Proofs.YtpeehihlkelgaaaDoor
