/-
  DERIVED. GIVEN WITH THE SEED: THE CARDS: each row of YtpaacgcfnongpaaDoorRows.lean that lists a variable, with what it lists TIED to the program's text (the seventh form; the later family's looks); each row that meets fmt, with fmt's text TOLD by the authors' own Lean function (tested against real Go, not proved from fmt's source: count such statements apart). THE CARD IS WHAT COUNTS. Prove the row's statement (the work); the ties are given (YtpaacgcfnongpaaDoorTie.lean); close each card by the builder's one call (the guide's Derived/Test/ToyasCard.lean, 'card_holds'). Laid BY PROGRAM, IN A SANDBOX (cutbox-door.mjs). By AI agents, Wed Nov 11 2026. No macro, syntax, notation, axiom, sorry.
-/
import Derived.Test.YtpaacgcfnongpaaDoorRows
import GoSem.ClaimSeven
namespace Go.Proofs.YtpaacgcfnongpaaDoor
namespace Rows

/-- THE TIED CARD OF 'laws.FnExactReadBearoff'. -/
def fnExactReadBearoffCard : Claim7 := { stood := { row := fnExactReadBearoffRow, standIns := [], harness := (true, "1495e8e5a88a6e37b308145cb94d5b533bbcf52f732371bff92ac76a0ffc1827"), looks := true }, kinds := [], alts := [], laidByText := true, laidKinds := [.data, .data, .data, .data, .sentinel, .sentinel, .pinned], laidTests := true, laidLooks := .later }
def FnExactReadBearoffCardSaid : Prop := Claim7.holds Tryd.pinned (.plain (OpenSpec.ofChange fnExactReadBearoffSpec)) fnExactReadBearoffCard

/-- THE SECOND FORM's CARD OF 'laws.FnExactReadBearoff'. -/
def fnExactReadBearoffUptoCard : Claim7 := { stood := { row := fnExactReadBearoffUptoRow, standIns := [], harness := (true, "1495e8e5a88a6e37b308145cb94d5b533bbcf52f732371bff92ac76a0ffc1827"), looks := true }, kinds := [], alts := [], laidByText := true, laidKinds := [.data, .data, .data, .data, .sentinel, .sentinel, .pinned], laidTests := true, laidLooks := .later }
def FnExactReadBearoffUptoCardSaid : Prop := Claim7.holds Tryd.pinned (.plain (OpenSpec.upto fnExactReadBearoffSpec)) fnExactReadBearoffUptoCard
end Rows
end Go.Proofs.YtpaacgcfnongpaaDoor
