/-
  DERIVED. GIVEN WITH THE SEED: THE CARDS: each row of YtmklkigppmgigaaGreatDoorRows.lean that lists a variable, with what it lists TIED to the program's text (the seventh form; the later family's looks); each row that meets fmt, with fmt's text TOLD by the authors' own Lean function (tested against real Go, not proved from fmt's source: count such statements apart). THE CARD IS WHAT COUNTS. Prove the row's statement (the work); the ties are given (YtmklkigppmgigaaGreatDoorTie.lean); close each card by the builder's one call (the guide's Derived/Test/ToyasCard.lean, 'card_holds'). Laid BY PROGRAM, IN A SANDBOX (cutbox-door.mjs). By AI agents, Wed Nov 11 2026. No macro, syntax, notation, axiom, sorry.
-/
import Derived.Test.YtmklkigppmgigaaGreatDoorRows
import GoSem.ClaimSeven
namespace Go.Proofs.YtmklkigppmgigaaGreatDoor
namespace Rows

/-- THE TIED CARD OF 'laws.FnNotation'. -/
def fnNotationCard : Claim7 := { stood := { row := fnNotationRow, standIns := [], harness := (true, "461f7d004287fe9e87699b79f02bc2367e7f8ef6655337b67687408934c6c7a7"), looks := true }, kinds := [], alts := [], laidByText := true, laidKinds := [.data, .data, .data, .data, .sentinel, .sentinel, .pinned], laidTests := true, laidLooks := .later }
def FnNotationCardSaid : Prop := Claim7.holds Tryz.pinned (.plain (OpenSpec.ofChange fnNotationSpec)) fnNotationCard

/-- THE SECOND FORM's CARD OF 'laws.FnNotation'. -/
def fnNotationUptoCard : Claim7 := { stood := { row := fnNotationUptoRow, standIns := [], harness := (true, "461f7d004287fe9e87699b79f02bc2367e7f8ef6655337b67687408934c6c7a7"), looks := true }, kinds := [], alts := [], laidByText := true, laidKinds := [.data, .data, .data, .data, .sentinel, .sentinel, .pinned], laidTests := true, laidLooks := .later }
def FnNotationUptoCardSaid : Prop := Claim7.holds Tryz.pinned (.plain (OpenSpec.upto fnNotationSpec)) fnNotationUptoCard
end Rows
end Go.Proofs.YtmklkigppmgigaaGreatDoor
