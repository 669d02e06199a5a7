/-
  DERIVED. GIVEN WITH THE SEED: THE CARDS: each row of YtcglocccofhbnaaDoorRows.lean that lists a variable, with what it lists TIED to the program's text (the seventh form; the later family's looks); each row that meets fmt, with fmt's text TOLD by the authors' own Lean function (tested against real Go, not proved from fmt's source: count such statements apart). THE CARD IS WHAT COUNTS. Prove the row's statement (the work); the ties are given (YtcglocccofhbnaaDoorTie.lean); close each card by the builder's one call (the guide's Derived/Test/ToyasCard.lean, 'card_holds'). Laid BY PROGRAM, IN A SANDBOX (cutbox-door.mjs). By AI agents, Wed Nov 11 2026. No macro, syntax, notation, axiom, sorry.
-/
import Derived.Test.YtcglocccofhbnaaDoorRows
import GoSem.ClaimSeven
namespace Go.Proofs.YtcglocccofhbnaaDoor
namespace Rows

/-- THE TIED CARD OF 'laws.FnExactRollText'. -/
def fnExactRollTextCard : Claim7 := { stood := { row := fnExactRollTextRow, standIns := [], harness := (true, "a989bad46a93f38bbe344ce36ccd141689f2a2c3266958d0a03a592d3ead86d3"), looks := false }, kinds := [], alts := [], laidByText := true, laidKinds := [.data, .data, .data], laidTests := true, laidLooks := .later }
def FnExactRollTextCardSaid : Prop := Claim7.holds Tryd.pinned (.plain (OpenSpec.ofChange fnExactRollTextSpec)) fnExactRollTextCard

/-- THE SECOND FORM's CARD OF 'laws.FnExactRollText'. -/
def fnExactRollTextUptoCard : Claim7 := { stood := { row := fnExactRollTextUptoRow, standIns := [], harness := (true, "a989bad46a93f38bbe344ce36ccd141689f2a2c3266958d0a03a592d3ead86d3"), looks := false }, kinds := [], alts := [], laidByText := true, laidKinds := [.data, .data, .data], laidTests := true, laidLooks := .later }
def FnExactRollTextUptoCardSaid : Prop := Claim7.holds Tryd.pinned (.plain (OpenSpec.upto fnExactRollTextSpec)) fnExactRollTextUptoCard
end Rows
end Go.Proofs.YtcglocccofhbnaaDoor
