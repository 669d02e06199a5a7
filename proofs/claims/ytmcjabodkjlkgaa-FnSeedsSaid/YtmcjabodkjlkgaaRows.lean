/-
  No cell of these rows narrows 'for every input' (looked for: loops, veiled, ifaces, maps, wideKeys, modest, calm, conditions, laid).
  DERIVED. THE GIVEN ROWS OF THIS SEAT. 10 by the template 'for every input the law returns true; each argument reads behind the call as it read before'; 0 by the template 'total and deterministic' (their statements: YtmcjabodkjlkgaaTotals.lean).
  GIVEN WITH THE SEED: the statements are not yours to turn. If you find one false, say at which input.
  Laid BY PROGRAM, IN A SANDBOX (cutbox-rows.mjs): the forced cells as the released guide's own fill.sh prints them over the translation f21005cde81de298… (all of the seat's roots in one cut). By AI agents, Wed Nov 11 2026. No macro, syntax, notation, axiom, sorry.
-/
import Derived.Test.YtmcjabodkjlkgaaChecked
import GoSem.Claim
import GoSem.ClaimJoined
import GoSem.ClaimMapViews
import Derived.JoinedTies
import Derived.KernelRfl
namespace Go.Proofs.Ytmcjabodkjlkgaa
/- THE CELL 'sum', in the pinned program and in every row, IS THE sha256 OF THE DUMP (.gsa) THAT YtmcjabodkjlkgaaProg.lean LOADS. Nothing in Lean hashes anything: it is a label: what it is worth is what the hold of that sum in a sandbox is worth. -/
noncomputable def Try.pinned : Pinned := { name := "ytmcjabodkjlkgaa", sum := "f21005cde81de29890d68f12900388cc1d77d1b82aeab639e8d117c336634b03", checked := Try.checked }
namespace Rows
def none {H : Type} : Left H := { results := [], args := [] }

/-- 'laws.FnExactResultOf': WHATEVER THE INPUT: true; the input reads as it did. -/
def fnExactResultOfSpec : ChangeSpec := { name := "fnExactResultOf", fn := fun _ => fun
  | [d1, d2] => { results := [.lit (.bool true)], args := [d1, d2] }
  | _ => none }
def fnExactResultOfRow : OpenClaim := { program := "ytmcjabodkjlkgaa", sum := "f21005cde81de29890d68f12900388cc1d77d1b82aeab639e8d117c336634b03", func := "loop.example/g00885/laws.FnExactResultOf", spec := "fnExactResultOf", apart := false }
def FnExactResultOfSaid : Prop := fnExactResultOfRow.holds Try.pinned (OpenSpec.ofChange fnExactResultOfSpec)

/-- ITS FALSE NEIGHBOUR: 'it returns false'. Refute it at one input. -/
def fnExactResultOfWrong : ChangeSpec := { name := "fnExactResultOf", fn := fun _ => fun
  | [d1, d2] => { results := [.lit (.bool false)], args := [d1, d2] }
  | _ => none }
def FnExactResultOfWrongFalsely : Prop := fnExactResultOfRow.holds Try.pinned (OpenSpec.ofChange fnExactResultOfWrong)

/-- 'laws.FnBoardResults': WHATEVER THE INPUT: true; the input reads as it did. -/
def fnBoardResultsSpec : ChangeSpec := { name := "fnBoardResults", fn := fun _ => fun
  | [d] => { results := [.lit (.bool true)], args := [d] }
  | _ => none }
def fnBoardResultsRow : OpenClaim := { program := "ytmcjabodkjlkgaa", sum := "f21005cde81de29890d68f12900388cc1d77d1b82aeab639e8d117c336634b03", func := "loop.example/g00885/laws.FnBoardResults", spec := "fnBoardResults", apart := false }
def FnBoardResultsSaid : Prop := fnBoardResultsRow.holds Try.pinned (OpenSpec.ofChange fnBoardResultsSpec)

/-- ITS FALSE NEIGHBOUR: 'it returns false'. Refute it at one input. -/
def fnBoardResultsWrong : ChangeSpec := { name := "fnBoardResults", fn := fun _ => fun
  | [d] => { results := [.lit (.bool false)], args := [d] }
  | _ => none }
def FnBoardResultsWrongFalsely : Prop := fnBoardResultsRow.holds Try.pinned (OpenSpec.ofChange fnBoardResultsWrong)

/-- 'laws.FnExactNewGame': WHATEVER THE INPUT: true; the input reads as it did. -/
def fnExactNewGameSpec : ChangeSpec := { name := "fnExactNewGame", fn := fun _ => fun
  | [d] => { results := [.lit (.bool true)], args := [d] }
  | _ => none }
def fnExactNewGameRow : OpenClaim := { program := "ytmcjabodkjlkgaa", sum := "f21005cde81de29890d68f12900388cc1d77d1b82aeab639e8d117c336634b03", func := "loop.example/g00885/laws.FnExactNewGame", spec := "fnExactNewGame", apart := false }
def FnExactNewGameSaid : Prop := fnExactNewGameRow.holds Try.pinned (OpenSpec.ofChange fnExactNewGameSpec)

/-- ITS FALSE NEIGHBOUR: 'it returns false'. Refute it at one input. -/
def fnExactNewGameWrong : ChangeSpec := { name := "fnExactNewGame", fn := fun _ => fun
  | [d] => { results := [.lit (.bool false)], args := [d] }
  | _ => none }
def FnExactNewGameWrongFalsely : Prop := fnExactNewGameRow.holds Try.pinned (OpenSpec.ofChange fnExactNewGameWrong)

/-- 'laws.FnExactScaleExact': WHATEVER THE INPUT: true; the input reads as it did. -/
def fnExactScaleExactSpec : ChangeSpec := { name := "fnExactScaleExact", fn := fun _ => fun
  | [d1, d2, d3] => { results := [.lit (.bool true)], args := [d1, d2, d3] }
  | _ => none }
def fnExactScaleExactRow : OpenClaim := { program := "ytmcjabodkjlkgaa", sum := "f21005cde81de29890d68f12900388cc1d77d1b82aeab639e8d117c336634b03", func := "loop.example/g00885/laws.FnExactScaleExact", spec := "fnExactScaleExact", named := ["math/bits.divideError", "math/bits.overflowError"], apart := false }
def FnExactScaleExactSaid : Prop := fnExactScaleExactRow.holds Try.pinned (OpenSpec.ofChange fnExactScaleExactSpec)

/-- ITS FALSE NEIGHBOUR: 'it returns false'. Refute it at one input. -/
def fnExactScaleExactWrong : ChangeSpec := { name := "fnExactScaleExact", fn := fun _ => fun
  | [d1, d2, d3] => { results := [.lit (.bool false)], args := [d1, d2, d3] }
  | _ => none }
def FnExactScaleExactWrongFalsely : Prop := fnExactScaleExactRow.holds Try.pinned (OpenSpec.ofChange fnExactScaleExactWrong)

/-- 'laws.FnExactScale': WHATEVER THE INPUT: true; the input reads as it did. -/
def fnExactScaleSpec : ChangeSpec := { name := "fnExactScale", fn := fun _ => fun
  | [d] => { results := [.lit (.bool true)], args := [d] }
  | _ => none }
def fnExactScaleRow : OpenClaim := { program := "ytmcjabodkjlkgaa", sum := "f21005cde81de29890d68f12900388cc1d77d1b82aeab639e8d117c336634b03", func := "loop.example/g00885/laws.FnExactScale", spec := "fnExactScale", named := ["math/bits.divideError", "math/bits.overflowError"], apart := false }
def FnExactScaleSaid : Prop := fnExactScaleRow.holds Try.pinned (OpenSpec.ofChange fnExactScaleSpec)

/-- ITS FALSE NEIGHBOUR: 'it returns false'. Refute it at one input. -/
def fnExactScaleWrong : ChangeSpec := { name := "fnExactScale", fn := fun _ => fun
  | [d] => { results := [.lit (.bool false)], args := [d] }
  | _ => none }
def FnExactScaleWrongFalsely : Prop := fnExactScaleRow.holds Try.pinned (OpenSpec.ofChange fnExactScaleWrong)

/-- 'laws.FnExactSums': WHATEVER THE INPUT: true; the input reads as it did. -/
def fnExactSumsSpec : ChangeSpec := { name := "fnExactSums", fn := fun _ => fun
  | [d] => { results := [.lit (.bool true)], args := [d] }
  | _ => none }
def fnExactSumsRow : OpenClaim := { program := "ytmcjabodkjlkgaa", sum := "f21005cde81de29890d68f12900388cc1d77d1b82aeab639e8d117c336634b03", func := "loop.example/g00885/laws.FnExactSums", spec := "fnExactSums", named := ["math/bits.divideError", "math/bits.overflowError"], apart := false }
def FnExactSumsSaid : Prop := fnExactSumsRow.holds Try.pinned (OpenSpec.ofChange fnExactSumsSpec)

/-- ITS FALSE NEIGHBOUR: 'it returns false'. Refute it at one input. -/
def fnExactSumsWrong : ChangeSpec := { name := "fnExactSums", fn := fun _ => fun
  | [d] => { results := [.lit (.bool false)], args := [d] }
  | _ => none }
def FnExactSumsWrongFalsely : Prop := fnExactSumsRow.holds Try.pinned (OpenSpec.ofChange fnExactSumsWrong)

/-- 'laws.FnExactStratifiedRolls': WHATEVER THE INPUT: true; the input reads as it did. -/
def fnExactStratifiedRollsSpec : ChangeSpec := { name := "fnExactStratifiedRolls", fn := fun _ => fun
  | [d1, d2, d3] => { results := [.lit (.bool true)], args := [d1, d2, d3] }
  | _ => none }
def fnExactStratifiedRollsRow : OpenClaim := { program := "ytmcjabodkjlkgaa", sum := "f21005cde81de29890d68f12900388cc1d77d1b82aeab639e8d117c336634b03", func := "loop.example/g00885/laws.FnExactStratifiedRolls", spec := "fnExactStratifiedRolls", apart := false }
def FnExactStratifiedRollsSaid : Prop := fnExactStratifiedRollsRow.holds Try.pinned (OpenSpec.ofChange fnExactStratifiedRollsSpec)

/-- ITS FALSE NEIGHBOUR: 'it returns false'. Refute it at one input. -/
def fnExactStratifiedRollsWrong : ChangeSpec := { name := "fnExactStratifiedRolls", fn := fun _ => fun
  | [d1, d2, d3] => { results := [.lit (.bool false)], args := [d1, d2, d3] }
  | _ => none }
def FnExactStratifiedRollsWrongFalsely : Prop := fnExactStratifiedRollsRow.holds Try.pinned (OpenSpec.ofChange fnExactStratifiedRollsWrong)

/-- 'laws.FnSeeds': WHATEVER THE INPUT: true; the input reads as it did. -/
def fnSeedsSpec : ChangeSpec := { name := "fnSeeds", fn := fun _ => fun
  | [d] => { results := [.lit (.bool true)], args := [d] }
  | _ => none }
def fnSeedsRow : OpenClaim := { program := "ytmcjabodkjlkgaa", sum := "f21005cde81de29890d68f12900388cc1d77d1b82aeab639e8d117c336634b03", func := "loop.example/g00885/laws.FnSeeds", spec := "fnSeeds", apart := false }
def FnSeedsSaid : Prop := fnSeedsRow.holds Try.pinned (OpenSpec.ofChange fnSeedsSpec)

/-- ITS FALSE NEIGHBOUR: 'it returns false'. Refute it at one input. -/
def fnSeedsWrong : ChangeSpec := { name := "fnSeeds", fn := fun _ => fun
  | [d] => { results := [.lit (.bool false)], args := [d] }
  | _ => none }
def FnSeedsWrongFalsely : Prop := fnSeedsRow.holds Try.pinned (OpenSpec.ofChange fnSeedsWrong)

/-- 'laws.FnStratified': WHATEVER THE INPUT: true; the input reads as it did. -/
def fnStratifiedSpec : ChangeSpec := { name := "fnStratified", fn := fun _ => fun
  | [d] => { results := [.lit (.bool true)], args := [d] }
  | _ => none }
def fnStratifiedRow : OpenClaim := { program := "ytmcjabodkjlkgaa", sum := "f21005cde81de29890d68f12900388cc1d77d1b82aeab639e8d117c336634b03", func := "loop.example/g00885/laws.FnStratified", spec := "fnStratified", apart := false }
def FnStratifiedSaid : Prop := fnStratifiedRow.holds Try.pinned (OpenSpec.ofChange fnStratifiedSpec)

/-- ITS FALSE NEIGHBOUR: 'it returns false'. Refute it at one input. -/
def fnStratifiedWrong : ChangeSpec := { name := "fnStratified", fn := fun _ => fun
  | [d] => { results := [.lit (.bool false)], args := [d] }
  | _ => none }
def FnStratifiedWrongFalsely : Prop := fnStratifiedRow.holds Try.pinned (OpenSpec.ofChange fnStratifiedWrong)

/-- 'laws.FnExactIsGame': WHATEVER THE INPUT: true; the input reads as it did. -/
def fnExactIsGameSpec : ChangeSpec := { name := "fnExactIsGame", fn := fun _ => fun
  | [d1, d2] => { results := [.lit (.bool true)], args := [d1, d2] }
  | _ => none }
def fnExactIsGameRow : OpenClaim := { program := "ytmcjabodkjlkgaa", sum := "f21005cde81de29890d68f12900388cc1d77d1b82aeab639e8d117c336634b03", func := "loop.example/g00885/laws.FnExactIsGame", spec := "fnExactIsGame", apart := false }
def FnExactIsGameSaid : Prop := fnExactIsGameRow.holds Try.pinned (OpenSpec.ofChange fnExactIsGameSpec)

/-- ITS FALSE NEIGHBOUR: 'it returns false'. Refute it at one input. -/
def fnExactIsGameWrong : ChangeSpec := { name := "fnExactIsGame", fn := fun _ => fun
  | [d1, d2] => { results := [.lit (.bool false)], args := [d1, d2] }
  | _ => none }
def FnExactIsGameWrongFalsely : Prop := fnExactIsGameRow.holds Try.pinned (OpenSpec.ofChange fnExactIsGameWrong)

/- THE SECOND FORM. 'bulk': how many values and letters a reading holds, each counted each time it is reached (what is shared counts as often as it is met; a slice's spare places count too). A statement '..UptoSaid' is the law's where the arguments, and the package variables that the reading takes, are together of bulk at most 1048576: NARROWER than '..Said'. Prove '..Said' where nothing that the law and all that it calls make is longer than what came in: it says more and counts as full. Else prove '..UptoSaid'. A law counts once. -/
mutual
def uptoBulk {H : Type} : DataW H → Nat
  | .lit (.string bytes) => bytes.length + 1
  | .lit _ => 1
  | .nil => 1
  | .ptr d => uptoBulk d + 1
  | .slice elems spare => uptoBulkAll elems + uptoBulkAll spare + 1
  | .agg parts => uptoBulkAll parts + 1
  | .iface _ d => uptoBulk d + 1
  | .map entries => uptoBulkEntries entries + 1
  | .held _ => 1
def uptoBulkAll {H : Type} : List (DataW H) → Nat
  | [] => 0
  | d :: r => uptoBulk d + uptoBulkAll r
def uptoBulkEntries {H : Type} : List (Lit × DataW H) → Nat
  | [] => 0
  | x :: r => uptoBulkEntry x + uptoBulkEntries r
def uptoBulkEntry {H : Type} : Lit × DataW H → Nat
  | (.string bytes, d) => bytes.length + uptoBulk d + 1
  | (_, d) => uptoBulk d + 1
 end
def uptoSmall : (H : Type) → List (DataW H) → Bool := fun _ ds => decide (uptoBulkAll ds ≤ 1048576)
def OpenSpec.upto (s : _root_.Go.ChangeSpec) : _root_.Go.OpenSpec := { _root_.Go.OpenSpec.ofChange s with cond := some uptoSmall }

/-- 'laws.FnExactResultOf', WHERE WHAT IT READS IS OF BULK AT MOST 1048576: true; the input reads as it did. -/
def fnExactResultOfUptoRow : OpenClaim := { program := "ytmcjabodkjlkgaa", sum := "f21005cde81de29890d68f12900388cc1d77d1b82aeab639e8d117c336634b03", func := "loop.example/g00885/laws.FnExactResultOf", spec := "fnExactResultOf", apart := false, narrowed := true }
def FnExactResultOfUptoSaid : Prop := fnExactResultOfUptoRow.holds Try.pinned (OpenSpec.upto fnExactResultOfSpec)

/-- 'laws.FnBoardResults', WHERE WHAT IT READS IS OF BULK AT MOST 1048576: true; the input reads as it did. -/
def fnBoardResultsUptoRow : OpenClaim := { program := "ytmcjabodkjlkgaa", sum := "f21005cde81de29890d68f12900388cc1d77d1b82aeab639e8d117c336634b03", func := "loop.example/g00885/laws.FnBoardResults", spec := "fnBoardResults", apart := false, narrowed := true }
def FnBoardResultsUptoSaid : Prop := fnBoardResultsUptoRow.holds Try.pinned (OpenSpec.upto fnBoardResultsSpec)

/-- 'laws.FnExactNewGame', WHERE WHAT IT READS IS OF BULK AT MOST 1048576: true; the input reads as it did. -/
def fnExactNewGameUptoRow : OpenClaim := { program := "ytmcjabodkjlkgaa", sum := "f21005cde81de29890d68f12900388cc1d77d1b82aeab639e8d117c336634b03", func := "loop.example/g00885/laws.FnExactNewGame", spec := "fnExactNewGame", apart := false, narrowed := true }
def FnExactNewGameUptoSaid : Prop := fnExactNewGameUptoRow.holds Try.pinned (OpenSpec.upto fnExactNewGameSpec)

/-- 'laws.FnExactScaleExact', WHERE WHAT IT READS IS OF BULK AT MOST 1048576: true; the input reads as it did. -/
def fnExactScaleExactUptoRow : OpenClaim := { program := "ytmcjabodkjlkgaa", sum := "f21005cde81de29890d68f12900388cc1d77d1b82aeab639e8d117c336634b03", func := "loop.example/g00885/laws.FnExactScaleExact", spec := "fnExactScaleExact", named := ["math/bits.divideError", "math/bits.overflowError"], apart := false, narrowed := true }
def FnExactScaleExactUptoSaid : Prop := fnExactScaleExactUptoRow.holds Try.pinned (OpenSpec.upto fnExactScaleExactSpec)

/-- 'laws.FnExactScale', WHERE WHAT IT READS IS OF BULK AT MOST 1048576: true; the input reads as it did. -/
def fnExactScaleUptoRow : OpenClaim := { program := "ytmcjabodkjlkgaa", sum := "f21005cde81de29890d68f12900388cc1d77d1b82aeab639e8d117c336634b03", func := "loop.example/g00885/laws.FnExactScale", spec := "fnExactScale", named := ["math/bits.divideError", "math/bits.overflowError"], apart := false, narrowed := true }
def FnExactScaleUptoSaid : Prop := fnExactScaleUptoRow.holds Try.pinned (OpenSpec.upto fnExactScaleSpec)

/-- 'laws.FnExactSums', WHERE WHAT IT READS IS OF BULK AT MOST 1048576: true; the input reads as it did. -/
def fnExactSumsUptoRow : OpenClaim := { program := "ytmcjabodkjlkgaa", sum := "f21005cde81de29890d68f12900388cc1d77d1b82aeab639e8d117c336634b03", func := "loop.example/g00885/laws.FnExactSums", spec := "fnExactSums", named := ["math/bits.divideError", "math/bits.overflowError"], apart := false, narrowed := true }
def FnExactSumsUptoSaid : Prop := fnExactSumsUptoRow.holds Try.pinned (OpenSpec.upto fnExactSumsSpec)

/-- 'laws.FnExactStratifiedRolls', WHERE WHAT IT READS IS OF BULK AT MOST 1048576: true; the input reads as it did. -/
def fnExactStratifiedRollsUptoRow : OpenClaim := { program := "ytmcjabodkjlkgaa", sum := "f21005cde81de29890d68f12900388cc1d77d1b82aeab639e8d117c336634b03", func := "loop.example/g00885/laws.FnExactStratifiedRolls", spec := "fnExactStratifiedRolls", apart := false, narrowed := true }
def FnExactStratifiedRollsUptoSaid : Prop := fnExactStratifiedRollsUptoRow.holds Try.pinned (OpenSpec.upto fnExactStratifiedRollsSpec)

/-- 'laws.FnSeeds', WHERE WHAT IT READS IS OF BULK AT MOST 1048576: true; the input reads as it did. -/
def fnSeedsUptoRow : OpenClaim := { program := "ytmcjabodkjlkgaa", sum := "f21005cde81de29890d68f12900388cc1d77d1b82aeab639e8d117c336634b03", func := "loop.example/g00885/laws.FnSeeds", spec := "fnSeeds", apart := false, narrowed := true }
def FnSeedsUptoSaid : Prop := fnSeedsUptoRow.holds Try.pinned (OpenSpec.upto fnSeedsSpec)

/-- 'laws.FnStratified', WHERE WHAT IT READS IS OF BULK AT MOST 1048576: true; the input reads as it did. -/
def fnStratifiedUptoRow : OpenClaim := { program := "ytmcjabodkjlkgaa", sum := "f21005cde81de29890d68f12900388cc1d77d1b82aeab639e8d117c336634b03", func := "loop.example/g00885/laws.FnStratified", spec := "fnStratified", apart := false, narrowed := true }
def FnStratifiedUptoSaid : Prop := fnStratifiedUptoRow.holds Try.pinned (OpenSpec.upto fnStratifiedSpec)

/-- 'laws.FnExactIsGame', WHERE WHAT IT READS IS OF BULK AT MOST 1048576: true; the input reads as it did. -/
def fnExactIsGameUptoRow : OpenClaim := { program := "ytmcjabodkjlkgaa", sum := "f21005cde81de29890d68f12900388cc1d77d1b82aeab639e8d117c336634b03", func := "loop.example/g00885/laws.FnExactIsGame", spec := "fnExactIsGame", apart := false, narrowed := true }
def FnExactIsGameUptoSaid : Prop := fnExactIsGameUptoRow.holds Try.pinned (OpenSpec.upto fnExactIsGameSpec)

end Rows
end Go.Proofs.Ytmcjabodkjlkgaa
