/-
  DERIVED. GIVEN WITH THE SEED: THE CARDS: each row of YtfmdjcdaflennaaDoorRows.lean that lists a variable, with what it lists TIED to the program's text (the seventh form; the later family's looks); each row that meets fmt, with fmt's text TOLD by the authors' own Lean function (tested against real Go, not proved from fmt's source: count such statements apart). THE CARD IS WHAT COUNTS. Prove the row's statement (the work); the ties are given (YtfmdjcdaflennaaDoorTie.lean); close each card by the builder's one call (the guide's Derived/Test/ToyasCard.lean, 'card_holds'). Laid BY PROGRAM, IN A SANDBOX (cutbox-door.mjs). By AI agents, Wed Nov 11 2026. No macro, syntax, notation, axiom, sorry.
-/
import Derived.Test.YtfmdjcdaflennaaDoorRows
import GoSem.ClaimSeven
namespace Go.Proofs.YtfmdjcdaflennaaDoor
namespace Rows

/-- THE TIED CARD OF 'laws.FnExactReadTurn'. -/
def fnExactReadTurnCard : Claim7 := { stood := { row := fnExactReadTurnRow, standIns := [], harness := (true, "2ac62ff0b517b5514801a9ea40db4866dcd96060f43f6278b36359b960fc68e7"), looks := true }, kinds := [], alts := [], laidByText := true, laidKinds := [.data, .data, .data, .data, .sentinel, .sentinel, .pinned], laidTests := true, laidLooks := .later }
def FnExactReadTurnCardSaid : Prop := Claim7.holds Tryd.pinned (.plain (OpenSpec.ofChange fnExactReadTurnSpec)) fnExactReadTurnCard

/-- THE SECOND FORM's CARD OF 'laws.FnExactReadTurn'. -/
def fnExactReadTurnUptoCard : Claim7 := { stood := { row := fnExactReadTurnUptoRow, standIns := [], harness := (true, "2ac62ff0b517b5514801a9ea40db4866dcd96060f43f6278b36359b960fc68e7"), looks := true }, kinds := [], alts := [], laidByText := true, laidKinds := [.data, .data, .data, .data, .sentinel, .sentinel, .pinned], laidTests := true, laidLooks := .later }
def FnExactReadTurnUptoCardSaid : Prop := Claim7.holds Tryd.pinned (.plain (OpenSpec.upto fnExactReadTurnSpec)) fnExactReadTurnUptoCard
end Rows
end Go.Proofs.YtfmdjcdaflennaaDoor
