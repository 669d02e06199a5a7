/-
  DERIVED. GIVEN WITH THE SEED: THE CARDS: each row of YtbpmhkbnhdkhgaaDoorRows.lean that lists a variable, with what it lists TIED to the program's text (the seventh form; the later family's looks); each row that meets fmt, with fmt's text TOLD by the authors' own Lean function (tested against real Go, not proved from fmt's source: count such statements apart). THE CARD IS WHAT COUNTS. Prove the row's statement (the work); the ties are given (YtbpmhkbnhdkhgaaDoorTie.lean); close each card by the builder's one call (the guide's Derived/Test/ToyasCard.lean, 'card_holds'). Laid BY PROGRAM, IN A SANDBOX (cutbox-door.mjs). By AI agents, Wed Nov 11 2026. No macro, syntax, notation, axiom, sorry.
-/
import Derived.Test.YtbpmhkbnhdkhgaaDoorRows
import GoSem.ClaimSeven
namespace Go.Proofs.YtbpmhkbnhdkhgaaDoor
namespace Rows

/-- THE TIED CARD OF 'laws.FnExactTurnText'. -/
def fnExactTurnTextCard : Claim7 := { stood := { row := fnExactTurnTextRow, standIns := [], harness := (true, "9971a492fbd0107e7468123ce649221d8aca3eb7427c224987d26cbf63346c33"), looks := false }, kinds := [], alts := [], laidByText := true, laidKinds := [.data, .data, .data], laidTests := true, laidLooks := .later }
def FnExactTurnTextCardSaid : Prop := Claim7.holds Tryd.pinned (.plain (OpenSpec.ofChange fnExactTurnTextSpec)) fnExactTurnTextCard

/-- THE SECOND FORM's CARD OF 'laws.FnExactTurnText'. -/
def fnExactTurnTextUptoCard : Claim7 := { stood := { row := fnExactTurnTextUptoRow, standIns := [], harness := (true, "9971a492fbd0107e7468123ce649221d8aca3eb7427c224987d26cbf63346c33"), looks := false }, kinds := [], alts := [], laidByText := true, laidKinds := [.data, .data, .data], laidTests := true, laidLooks := .later }
def FnExactTurnTextUptoCardSaid : Prop := Claim7.holds Tryd.pinned (.plain (OpenSpec.upto fnExactTurnTextSpec)) fnExactTurnTextUptoCard
end Rows
end Go.Proofs.YtbpmhkbnhdkhgaaDoor
