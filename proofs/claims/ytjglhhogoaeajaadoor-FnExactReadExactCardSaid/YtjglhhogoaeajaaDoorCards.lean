/-
  DERIVED. GIVEN WITH THE SEED: THE CARDS: each row of YtjglhhogoaeajaaDoorRows.lean that lists a variable, with what it lists TIED to the program's text (the seventh form; the later family's looks); each row that meets fmt, with fmt's text TOLD by the authors' own Lean function (tested against real Go, not proved from fmt's source: count such statements apart). THE CARD IS WHAT COUNTS. Prove the row's statement (the work); the ties are given (YtjglhhogoaeajaaDoorTie.lean); close each card by the builder's one call (the guide's Derived/Test/ToyasCard.lean, 'card_holds'). Laid BY PROGRAM, IN A SANDBOX (cutbox-door.mjs). By AI agents, Wed Nov 11 2026. No macro, syntax, notation, axiom, sorry.
-/
import Derived.Test.YtjglhhogoaeajaaDoorRows
import GoSem.ClaimSeven
namespace Go.Proofs.YtjglhhogoaeajaaDoor
namespace Rows

/-- THE TIED CARD OF 'laws.FnExactReadExact'. -/
def fnExactReadExactCard : Claim7 := { stood := { row := fnExactReadExactRow, standIns := [], harness := (true, "f786902ff6a4bf73e2be26f770417778cba869935e2cea4077eb773e88627682"), looks := true }, kinds := [], alts := [], laidByText := true, laidKinds := [.data, .data, .data, .sentinel, .sentinel], laidTests := true, laidLooks := .later }
def FnExactReadExactCardSaid : Prop := Claim7.holds Tryd.pinned (.plain (OpenSpec.ofChange fnExactReadExactSpec)) fnExactReadExactCard

/-- THE SECOND FORM's CARD OF 'laws.FnExactReadExact'. -/
def fnExactReadExactUptoCard : Claim7 := { stood := { row := fnExactReadExactUptoRow, standIns := [], harness := (true, "f786902ff6a4bf73e2be26f770417778cba869935e2cea4077eb773e88627682"), looks := true }, kinds := [], alts := [], laidByText := true, laidKinds := [.data, .data, .data, .sentinel, .sentinel], laidTests := true, laidLooks := .later }
def FnExactReadExactUptoCardSaid : Prop := Claim7.holds Tryd.pinned (.plain (OpenSpec.upto fnExactReadExactSpec)) fnExactReadExactUptoCard
end Rows
end Go.Proofs.YtjglhhogoaeajaaDoor
