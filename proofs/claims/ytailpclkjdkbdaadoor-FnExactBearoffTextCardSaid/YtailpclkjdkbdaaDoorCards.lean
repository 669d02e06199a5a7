/-
  DERIVED. GIVEN WITH THE SEED: THE CARDS: each row of YtailpclkjdkbdaaDoorRows.lean that lists a variable, with what it lists TIED to the program's text (the seventh form; the later family's looks); each row that meets fmt, with fmt's text TOLD by the authors' own Lean function (tested against real Go, not proved from fmt's source: count such statements apart). THE CARD IS WHAT COUNTS. Prove the row's statement (the work); the ties are given (YtailpclkjdkbdaaDoorTie.lean); close each card by the builder's one call (the guide's Derived/Test/ToyasCard.lean, 'card_holds'). Laid BY PROGRAM, IN A SANDBOX (cutbox-door.mjs). By AI agents, Wed Nov 11 2026. No macro, syntax, notation, axiom, sorry.
-/
import Derived.Test.YtailpclkjdkbdaaDoorRows
import GoSem.ClaimSeven
namespace Go.Proofs.YtailpclkjdkbdaaDoor
namespace Rows

/-- THE TIED CARD OF 'laws.FnExactBearoffText'. -/
def fnExactBearoffTextCard : Claim7 := { stood := { row := fnExactBearoffTextRow, standIns := [], harness := (true, "f7d6a8c48b5bbeda7a468d6c2edefde72ad95c70a8cf73daff412a48a0e1399e"), looks := false }, kinds := [], alts := [], laidByText := true, laidKinds := [.data, .data, .data], laidTests := true, laidLooks := .later }
def FnExactBearoffTextCardSaid : Prop := Claim7.holds Tryd.pinned (.plain (OpenSpec.ofChange fnExactBearoffTextSpec)) fnExactBearoffTextCard

/-- THE SECOND FORM's CARD OF 'laws.FnExactBearoffText'. -/
def fnExactBearoffTextUptoCard : Claim7 := { stood := { row := fnExactBearoffTextUptoRow, standIns := [], harness := (true, "f7d6a8c48b5bbeda7a468d6c2edefde72ad95c70a8cf73daff412a48a0e1399e"), looks := false }, kinds := [], alts := [], laidByText := true, laidKinds := [.data, .data, .data], laidTests := true, laidLooks := .later }
def FnExactBearoffTextUptoCardSaid : Prop := Claim7.holds Tryd.pinned (.plain (OpenSpec.upto fnExactBearoffTextSpec)) fnExactBearoffTextUptoCard
end Rows
end Go.Proofs.YtailpclkjdkbdaaDoor
