/-
  DERIVED. GIVEN WITH THE SEED: THE CARDS: each row of YtpoaimdoogckbaaDoorRows.lean that lists a variable, with what it lists TIED to the program's text (the seventh form; the later family's looks); each row that meets fmt, with fmt's text TOLD by the authors' own Lean function (tested against real Go, not proved from fmt's source: count such statements apart). THE CARD IS WHAT COUNTS. Prove the row's statement (the work); the ties are given (YtpoaimdoogckbaaDoorTie.lean); close each card by the builder's one call (the guide's Derived/Test/ToyasCard.lean, 'card_holds'). Laid BY PROGRAM, IN A SANDBOX (cutbox-door.mjs). By AI agents, Wed Nov 11 2026. No macro, syntax, notation, axiom, sorry.
-/
import Derived.Test.YtpoaimdoogckbaaDoorRows
import GoSem.ClaimSeven
namespace Go.Proofs.YtpoaimdoogckbaaDoor
namespace Rows

/-- THE TIED CARD OF 'laws.FnBearoffText'. -/
def fnBearoffTextCard : Claim7 := { stood := { row := fnBearoffTextRow, standIns := [], harness := (true, "b8f8d3de57abb38468fe1869eb82a9dac0d04fdac8d8931e9884081f80ed7388"), looks := true }, kinds := [], alts := [], laidByText := true, laidKinds := [.data, .data, .data, .data, .sentinel, .sentinel, .pinned], laidTests := true, laidLooks := .later }
def FnBearoffTextCardSaid : Prop := Claim7.holds Tryd.pinned (.plain (OpenSpec.ofChange fnBearoffTextSpec)) fnBearoffTextCard

/-- THE SECOND FORM's CARD OF 'laws.FnBearoffText'. -/
def fnBearoffTextUptoCard : Claim7 := { stood := { row := fnBearoffTextUptoRow, standIns := [], harness := (true, "b8f8d3de57abb38468fe1869eb82a9dac0d04fdac8d8931e9884081f80ed7388"), looks := true }, kinds := [], alts := [], laidByText := true, laidKinds := [.data, .data, .data, .data, .sentinel, .sentinel, .pinned], laidTests := true, laidLooks := .later }
def FnBearoffTextUptoCardSaid : Prop := Claim7.holds Tryd.pinned (.plain (OpenSpec.upto fnBearoffTextSpec)) fnBearoffTextUptoCard
end Rows
end Go.Proofs.YtpoaimdoogckbaaDoor
