/-
  DERIVED. GIVEN WITH THE SEED: THE CARDS: each row of YtifkmkhapabpkaaGreatDoorRows.lean that lists a variable, with what it lists TIED to the program's text (the seventh form; the later family's looks); each row that meets fmt, with fmt's text TOLD by the authors' own Lean function (tested against real Go, not proved from fmt's source: count such statements apart). THE CARD IS WHAT COUNTS. Prove the row's statement (the work); the ties are given (YtifkmkhapabpkaaGreatDoorTie.lean); close each card by the builder's one call (the guide's Derived/Test/ToyasCard.lean, 'card_holds'). Laid BY PROGRAM, IN A SANDBOX (cutbox-door.mjs). By AI agents, Wed Nov 11 2026. No macro, syntax, notation, axiom, sorry.
-/
import Derived.Test.YtifkmkhapabpkaaGreatDoorRows
import GoSem.ClaimSeven
namespace Go.Proofs.YtifkmkhapabpkaaGreatDoor
namespace Rows

/-- THE TIED CARD OF 'laws.FnExactPlayOfText'. -/
def fnExactPlayOfTextCard : Claim7 := { stood := { row := fnExactPlayOfTextRow, standIns := [], harness := (true, "bce53481097bdce789e6d81c13d6c6a7feb9034961cfa1b3692585c3507514a3"), looks := true }, kinds := [], alts := [], laidByText := true, laidKinds := [.data, .data, .data, .data, .sentinel, .sentinel, .pinned], laidTests := true, laidLooks := .later }
def FnExactPlayOfTextCardSaid : Prop := Claim7.holds Tryz.pinned (.plain (OpenSpec.ofChange fnExactPlayOfTextSpec)) fnExactPlayOfTextCard

/-- THE SECOND FORM's CARD OF 'laws.FnExactPlayOfText'. -/
def fnExactPlayOfTextUptoCard : Claim7 := { stood := { row := fnExactPlayOfTextUptoRow, standIns := [], harness := (true, "bce53481097bdce789e6d81c13d6c6a7feb9034961cfa1b3692585c3507514a3"), looks := true }, kinds := [], alts := [], laidByText := true, laidKinds := [.data, .data, .data, .data, .sentinel, .sentinel, .pinned], laidTests := true, laidLooks := .later }
def FnExactPlayOfTextUptoCardSaid : Prop := Claim7.holds Tryz.pinned (.plain (OpenSpec.upto fnExactPlayOfTextSpec)) fnExactPlayOfTextUptoCard
end Rows
end Go.Proofs.YtifkmkhapabpkaaGreatDoor
