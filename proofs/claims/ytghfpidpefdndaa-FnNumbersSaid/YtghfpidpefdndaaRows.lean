/-
  No cell of these rows narrows 'for every input' (looked for: loops, veiled, ifaces, maps, wideKeys, modest, calm, conditions, laid).
  DERIVED. THE GIVEN ROWS OF THIS SEAT. 12 by the template 'for every input the law returns true; each argument reads behind the call as it read before'; 0 by the template 'total and deterministic' (their statements: YtghfpidpefdndaaTotals.lean).
  GIVEN WITH THE SEED: the statements are not yours to turn. If you find one false, say at which input.
  Laid BY PROGRAM, IN A SANDBOX (cutbox-rows.mjs): the forced cells as the released guide's own fill.sh prints them over the translation cde9c12c704b3431… (all of the seat's roots in one cut). By AI agents, Wed Nov 11 2026. No macro, syntax, notation, axiom, sorry.
-/
import Derived.Test.YtghfpidpefdndaaChecked
import GoSem.Claim
import GoSem.ClaimJoined
import GoSem.ClaimMapViews
import Derived.JoinedTies
import Derived.KernelRfl
namespace Go.Proofs.Ytghfpidpefdndaa
/- THE CELL 'sum', in the pinned program and in every row, IS THE sha256 OF THE DUMP (.gsa) THAT YtghfpidpefdndaaProg.lean LOADS. Nothing in Lean hashes anything: it is a label: what it is worth is what the hold of that sum in a sandbox is worth. -/
noncomputable def Try.pinned : Pinned := { name := "ytghfpidpefdndaa", sum := "cde9c12c704b3431f6cbbe223b2f0c43d464e07a71388d1d43cc2c0622ee2550", checked := Try.checked }
namespace Rows
def none {H : Type} : Left H := { results := [], args := [] }

/-- 'laws.FnExactMeanExact': WHATEVER THE INPUT: true; the input reads as it did. -/
def fnExactMeanExactSpec : ChangeSpec := { name := "fnExactMeanExact", fn := fun _ => fun
  | [d1, d2] => { results := [.lit (.bool true)], args := [d1, d2] }
  | _ => none }
def fnExactMeanExactRow : OpenClaim := { program := "ytghfpidpefdndaa", sum := "cde9c12c704b3431f6cbbe223b2f0c43d464e07a71388d1d43cc2c0622ee2550", func := "loop.example/g00885/laws.FnExactMeanExact", spec := "fnExactMeanExact", named := ["math/bits.divideError", "math/bits.overflowError"], apart := false }
def FnExactMeanExactSaid : Prop := fnExactMeanExactRow.holds Try.pinned (OpenSpec.ofChange fnExactMeanExactSpec)

/-- ITS FALSE NEIGHBOUR: 'it returns false'. Refute it at one input. -/
def fnExactMeanExactWrong : ChangeSpec := { name := "fnExactMeanExact", fn := fun _ => fun
  | [d1, d2] => { results := [.lit (.bool false)], args := [d1, d2] }
  | _ => none }
def FnExactMeanExactWrongFalsely : Prop := fnExactMeanExactRow.holds Try.pinned (OpenSpec.ofChange fnExactMeanExactWrong)

/-- 'laws.FnExactPlayTurn': WHATEVER THE INPUT: true; the input reads as it did. -/
def fnExactPlayTurnSpec : ChangeSpec := { name := "fnExactPlayTurn", fn := fun _ => fun
  | [d1, d2, d3] => { results := [.lit (.bool true)], args := [d1, d2, d3] }
  | _ => none }
def fnExactPlayTurnRow : OpenClaim := { program := "ytghfpidpefdndaa", sum := "cde9c12c704b3431f6cbbe223b2f0c43d464e07a71388d1d43cc2c0622ee2550", func := "loop.example/g00885/laws.FnExactPlayTurn", spec := "fnExactPlayTurn", apart := false }
def FnExactPlayTurnSaid : Prop := fnExactPlayTurnRow.holds Try.pinned (OpenSpec.ofChange fnExactPlayTurnSpec)

/-- ITS FALSE NEIGHBOUR: 'it returns false'. Refute it at one input. -/
def fnExactPlayTurnWrong : ChangeSpec := { name := "fnExactPlayTurn", fn := fun _ => fun
  | [d1, d2, d3] => { results := [.lit (.bool false)], args := [d1, d2, d3] }
  | _ => none }
def FnExactPlayTurnWrongFalsely : Prop := fnExactPlayTurnRow.holds Try.pinned (OpenSpec.ofChange fnExactPlayTurnWrong)

/-- 'laws.FnExactAllPlays': WHATEVER THE INPUT: true; the input reads as it did. -/
def fnExactAllPlaysSpec : ChangeSpec := { name := "fnExactAllPlays", fn := fun _ => fun
  | [d1, d2, d3] => { results := [.lit (.bool true)], args := [d1, d2, d3] }
  | _ => none }
def fnExactAllPlaysRow : OpenClaim := { program := "ytghfpidpefdndaa", sum := "cde9c12c704b3431f6cbbe223b2f0c43d464e07a71388d1d43cc2c0622ee2550", func := "loop.example/g00885/laws.FnExactAllPlays", spec := "fnExactAllPlays", apart := false }
def FnExactAllPlaysSaid : Prop := fnExactAllPlaysRow.holds Try.pinned (OpenSpec.ofChange fnExactAllPlaysSpec)

/-- ITS FALSE NEIGHBOUR: 'it returns false'. Refute it at one input. -/
def fnExactAllPlaysWrong : ChangeSpec := { name := "fnExactAllPlays", fn := fun _ => fun
  | [d1, d2, d3] => { results := [.lit (.bool false)], args := [d1, d2, d3] }
  | _ => none }
def FnExactAllPlaysWrongFalsely : Prop := fnExactAllPlaysRow.holds Try.pinned (OpenSpec.ofChange fnExactAllPlaysWrong)

/-- 'laws.FnExactSelfPlay': WHATEVER THE INPUT: true; the input reads as it did. -/
def fnExactSelfPlaySpec : ChangeSpec := { name := "fnExactSelfPlay", fn := fun _ => fun
  | [d1, d2, d3] => { results := [.lit (.bool true)], args := [d1, d2, d3] }
  | _ => none }
def fnExactSelfPlayRow : OpenClaim := { program := "ytghfpidpefdndaa", sum := "cde9c12c704b3431f6cbbe223b2f0c43d464e07a71388d1d43cc2c0622ee2550", func := "loop.example/g00885/laws.FnExactSelfPlay", spec := "fnExactSelfPlay", apart := false }
def FnExactSelfPlaySaid : Prop := fnExactSelfPlayRow.holds Try.pinned (OpenSpec.ofChange fnExactSelfPlaySpec)

/-- ITS FALSE NEIGHBOUR: 'it returns false'. Refute it at one input. -/
def fnExactSelfPlayWrong : ChangeSpec := { name := "fnExactSelfPlay", fn := fun _ => fun
  | [d1, d2, d3] => { results := [.lit (.bool false)], args := [d1, d2, d3] }
  | _ => none }
def FnExactSelfPlayWrongFalsely : Prop := fnExactSelfPlayRow.holds Try.pinned (OpenSpec.ofChange fnExactSelfPlayWrong)

/-- 'laws.FnExactBearoffResults': WHATEVER THE INPUT: true; the input reads as it did. -/
def fnExactBearoffResultsSpec : ChangeSpec := { name := "fnExactBearoffResults", fn := fun _ => fun
  | [d1, d2, d3] => { results := [.lit (.bool true)], args := [d1, d2, d3] }
  | _ => none }
def fnExactBearoffResultsRow : OpenClaim := { program := "ytghfpidpefdndaa", sum := "cde9c12c704b3431f6cbbe223b2f0c43d464e07a71388d1d43cc2c0622ee2550", func := "loop.example/g00885/laws.FnExactBearoffResults", spec := "fnExactBearoffResults", unfollowed := true, recurses := true, apart := false }
def FnExactBearoffResultsSaid : Prop := fnExactBearoffResultsRow.holds Try.pinned (OpenSpec.ofChange fnExactBearoffResultsSpec)

/-- ITS FALSE NEIGHBOUR: 'it returns false'. Refute it at one input. -/
def fnExactBearoffResultsWrong : ChangeSpec := { name := "fnExactBearoffResults", fn := fun _ => fun
  | [d1, d2, d3] => { results := [.lit (.bool false)], args := [d1, d2, d3] }
  | _ => none }
def FnExactBearoffResultsWrongFalsely : Prop := fnExactBearoffResultsRow.holds Try.pinned (OpenSpec.ofChange fnExactBearoffResultsWrong)

/-- 'laws.FnExactGreedyResult': WHATEVER THE INPUT: true; the input reads as it did. -/
def fnExactGreedyResultSpec : ChangeSpec := { name := "fnExactGreedyResult", fn := fun _ => fun
  | [d1, d2, d3] => { results := [.lit (.bool true)], args := [d1, d2, d3] }
  | _ => none }
def fnExactGreedyResultRow : OpenClaim := { program := "ytghfpidpefdndaa", sum := "cde9c12c704b3431f6cbbe223b2f0c43d464e07a71388d1d43cc2c0622ee2550", func := "loop.example/g00885/laws.FnExactGreedyResult", spec := "fnExactGreedyResult", unfollowed := true, recurses := true, apart := false }
def FnExactGreedyResultSaid : Prop := fnExactGreedyResultRow.holds Try.pinned (OpenSpec.ofChange fnExactGreedyResultSpec)

/-- ITS FALSE NEIGHBOUR: 'it returns false'. Refute it at one input. -/
def fnExactGreedyResultWrong : ChangeSpec := { name := "fnExactGreedyResult", fn := fun _ => fun
  | [d1, d2, d3] => { results := [.lit (.bool false)], args := [d1, d2, d3] }
  | _ => none }
def FnExactGreedyResultWrongFalsely : Prop := fnExactGreedyResultRow.holds Try.pinned (OpenSpec.ofChange fnExactGreedyResultWrong)

/-- 'laws.FnExactExpectedRolls': WHATEVER THE INPUT: true; the input reads as it did. -/
def fnExactExpectedRollsSpec : ChangeSpec := { name := "fnExactExpectedRolls", fn := fun _ => fun
  | [d1, d2] => { results := [.lit (.bool true)], args := [d1, d2] }
  | _ => none }
def fnExactExpectedRollsRow : OpenClaim := { program := "ytghfpidpefdndaa", sum := "cde9c12c704b3431f6cbbe223b2f0c43d464e07a71388d1d43cc2c0622ee2550", func := "loop.example/g00885/laws.FnExactExpectedRolls", spec := "fnExactExpectedRolls", unfollowed := true, recurses := true, named := ["math/bits.divideError", "math/bits.overflowError"], apart := false }
def FnExactExpectedRollsSaid : Prop := fnExactExpectedRollsRow.holds Try.pinned (OpenSpec.ofChange fnExactExpectedRollsSpec)

/-- ITS FALSE NEIGHBOUR: 'it returns false'. Refute it at one input. -/
def fnExactExpectedRollsWrong : ChangeSpec := { name := "fnExactExpectedRolls", fn := fun _ => fun
  | [d1, d2] => { results := [.lit (.bool false)], args := [d1, d2] }
  | _ => none }
def FnExactExpectedRollsWrongFalsely : Prop := fnExactExpectedRollsRow.holds Try.pinned (OpenSpec.ofChange fnExactExpectedRollsWrong)

/-- 'laws.FnExactMean': WHATEVER THE INPUT: true; the input reads as it did. -/
def fnExactMeanSpec : ChangeSpec := { name := "fnExactMean", fn := fun _ => fun
  | [d] => { results := [.lit (.bool true)], args := [d] }
  | _ => none }
def fnExactMeanRow : OpenClaim := { program := "ytghfpidpefdndaa", sum := "cde9c12c704b3431f6cbbe223b2f0c43d464e07a71388d1d43cc2c0622ee2550", func := "loop.example/g00885/laws.FnExactMean", spec := "fnExactMean", named := ["math/bits.divideError", "math/bits.overflowError"], apart := false }
def FnExactMeanSaid : Prop := fnExactMeanRow.holds Try.pinned (OpenSpec.ofChange fnExactMeanSpec)

/-- ITS FALSE NEIGHBOUR: 'it returns false'. Refute it at one input. -/
def fnExactMeanWrong : ChangeSpec := { name := "fnExactMean", fn := fun _ => fun
  | [d] => { results := [.lit (.bool false)], args := [d] }
  | _ => none }
def FnExactMeanWrongFalsely : Prop := fnExactMeanRow.holds Try.pinned (OpenSpec.ofChange fnExactMeanWrong)

/-- 'laws.FnExactScale': WHATEVER THE INPUT: true; the input reads as it did. -/
def fnExactScaleSpec : ChangeSpec := { name := "fnExactScale", fn := fun _ => fun
  | [d] => { results := [.lit (.bool true)], args := [d] }
  | _ => none }
def fnExactScaleRow : OpenClaim := { program := "ytghfpidpefdndaa", sum := "cde9c12c704b3431f6cbbe223b2f0c43d464e07a71388d1d43cc2c0622ee2550", func := "loop.example/g00885/laws.FnExactScale", spec := "fnExactScale", named := ["math/bits.divideError", "math/bits.overflowError"], apart := false }
def FnExactScaleSaid : Prop := fnExactScaleRow.holds Try.pinned (OpenSpec.ofChange fnExactScaleSpec)

/-- ITS FALSE NEIGHBOUR: 'it returns false'. Refute it at one input. -/
def fnExactScaleWrong : ChangeSpec := { name := "fnExactScale", fn := fun _ => fun
  | [d] => { results := [.lit (.bool false)], args := [d] }
  | _ => none }
def FnExactScaleWrongFalsely : Prop := fnExactScaleRow.holds Try.pinned (OpenSpec.ofChange fnExactScaleWrong)

/-- 'laws.FnExactSums': WHATEVER THE INPUT: true; the input reads as it did. -/
def fnExactSumsSpec : ChangeSpec := { name := "fnExactSums", fn := fun _ => fun
  | [d] => { results := [.lit (.bool true)], args := [d] }
  | _ => none }
def fnExactSumsRow : OpenClaim := { program := "ytghfpidpefdndaa", sum := "cde9c12c704b3431f6cbbe223b2f0c43d464e07a71388d1d43cc2c0622ee2550", func := "loop.example/g00885/laws.FnExactSums", spec := "fnExactSums", named := ["math/bits.divideError", "math/bits.overflowError"], apart := false }
def FnExactSumsSaid : Prop := fnExactSumsRow.holds Try.pinned (OpenSpec.ofChange fnExactSumsSpec)

/-- ITS FALSE NEIGHBOUR: 'it returns false'. Refute it at one input. -/
def fnExactSumsWrong : ChangeSpec := { name := "fnExactSums", fn := fun _ => fun
  | [d] => { results := [.lit (.bool false)], args := [d] }
  | _ => none }
def FnExactSumsWrongFalsely : Prop := fnExactSumsRow.holds Try.pinned (OpenSpec.ofChange fnExactSumsWrong)

/-- 'laws.FnNumbers': WHATEVER THE INPUT: true; the input reads as it did. -/
def fnNumbersSpec : ChangeSpec := { name := "fnNumbers", fn := fun _ => fun
  | [d] => { results := [.lit (.bool true)], args := [d] }
  | _ => none }
def fnNumbersRow : OpenClaim := { program := "ytghfpidpefdndaa", sum := "cde9c12c704b3431f6cbbe223b2f0c43d464e07a71388d1d43cc2c0622ee2550", func := "loop.example/g00885/laws.FnNumbers", spec := "fnNumbers", apart := false }
def FnNumbersSaid : Prop := fnNumbersRow.holds Try.pinned (OpenSpec.ofChange fnNumbersSpec)

/-- ITS FALSE NEIGHBOUR: 'it returns false'. Refute it at one input. -/
def fnNumbersWrong : ChangeSpec := { name := "fnNumbers", fn := fun _ => fun
  | [d] => { results := [.lit (.bool false)], args := [d] }
  | _ => none }
def FnNumbersWrongFalsely : Prop := fnNumbersRow.holds Try.pinned (OpenSpec.ofChange fnNumbersWrong)

/-- 'laws.FnBoardResults': WHATEVER THE INPUT: true; the input reads as it did. -/
def fnBoardResultsSpec : ChangeSpec := { name := "fnBoardResults", fn := fun _ => fun
  | [d] => { results := [.lit (.bool true)], args := [d] }
  | _ => none }
def fnBoardResultsRow : OpenClaim := { program := "ytghfpidpefdndaa", sum := "cde9c12c704b3431f6cbbe223b2f0c43d464e07a71388d1d43cc2c0622ee2550", func := "loop.example/g00885/laws.FnBoardResults", spec := "fnBoardResults", apart := false }
def FnBoardResultsSaid : Prop := fnBoardResultsRow.holds Try.pinned (OpenSpec.ofChange fnBoardResultsSpec)

/-- ITS FALSE NEIGHBOUR: 'it returns false'. Refute it at one input. -/
def fnBoardResultsWrong : ChangeSpec := { name := "fnBoardResults", fn := fun _ => fun
  | [d] => { results := [.lit (.bool false)], args := [d] }
  | _ => none }
def FnBoardResultsWrongFalsely : Prop := fnBoardResultsRow.holds Try.pinned (OpenSpec.ofChange fnBoardResultsWrong)

/- THE SECOND FORM. 'bulk': how many values and letters a reading holds, each counted each time it is reached (what is shared counts as often as it is met; a slice's spare places count too). A statement '..UptoSaid' is the law's where the arguments, and the package variables that the reading takes, are together of bulk at most 1048576: NARROWER than '..Said'. Prove '..Said' where nothing that the law and all that it calls make is longer than what came in: it says more and counts as full. Else prove '..UptoSaid'. A law counts once. -/
mutual
def uptoBulk {H : Type} : DataW H → Nat
  | .lit (.string bytes) => bytes.length + 1
  | .lit _ => 1
  | .nil => 1
  | .ptr d => uptoBulk d + 1
  | .slice elems spare => uptoBulkAll elems + uptoBulkAll spare + 1
  | .agg parts => uptoBulkAll parts + 1
  | .iface _ d => uptoBulk d + 1
  | .map entries => uptoBulkEntries entries + 1
  | .held _ => 1
def uptoBulkAll {H : Type} : List (DataW H) → Nat
  | [] => 0
  | d :: r => uptoBulk d + uptoBulkAll r
def uptoBulkEntries {H : Type} : List (Lit × DataW H) → Nat
  | [] => 0
  | x :: r => uptoBulkEntry x + uptoBulkEntries r
def uptoBulkEntry {H : Type} : Lit × DataW H → Nat
  | (.string bytes, d) => bytes.length + uptoBulk d + 1
  | (_, d) => uptoBulk d + 1
 end
def uptoSmall : (H : Type) → List (DataW H) → Bool := fun _ ds => decide (uptoBulkAll ds ≤ 1048576)
def OpenSpec.upto (s : _root_.Go.ChangeSpec) : _root_.Go.OpenSpec := { _root_.Go.OpenSpec.ofChange s with cond := some uptoSmall }

/-- 'laws.FnExactMeanExact', WHERE WHAT IT READS IS OF BULK AT MOST 1048576: true; the input reads as it did. -/
def fnExactMeanExactUptoRow : OpenClaim := { program := "ytghfpidpefdndaa", sum := "cde9c12c704b3431f6cbbe223b2f0c43d464e07a71388d1d43cc2c0622ee2550", func := "loop.example/g00885/laws.FnExactMeanExact", spec := "fnExactMeanExact", named := ["math/bits.divideError", "math/bits.overflowError"], apart := false, narrowed := true }
def FnExactMeanExactUptoSaid : Prop := fnExactMeanExactUptoRow.holds Try.pinned (OpenSpec.upto fnExactMeanExactSpec)

/-- 'laws.FnExactPlayTurn', WHERE WHAT IT READS IS OF BULK AT MOST 1048576: true; the input reads as it did. -/
def fnExactPlayTurnUptoRow : OpenClaim := { program := "ytghfpidpefdndaa", sum := "cde9c12c704b3431f6cbbe223b2f0c43d464e07a71388d1d43cc2c0622ee2550", func := "loop.example/g00885/laws.FnExactPlayTurn", spec := "fnExactPlayTurn", apart := false, narrowed := true }
def FnExactPlayTurnUptoSaid : Prop := fnExactPlayTurnUptoRow.holds Try.pinned (OpenSpec.upto fnExactPlayTurnSpec)

/-- 'laws.FnExactAllPlays', WHERE WHAT IT READS IS OF BULK AT MOST 1048576: true; the input reads as it did. -/
def fnExactAllPlaysUptoRow : OpenClaim := { program := "ytghfpidpefdndaa", sum := "cde9c12c704b3431f6cbbe223b2f0c43d464e07a71388d1d43cc2c0622ee2550", func := "loop.example/g00885/laws.FnExactAllPlays", spec := "fnExactAllPlays", apart := false, narrowed := true }
def FnExactAllPlaysUptoSaid : Prop := fnExactAllPlaysUptoRow.holds Try.pinned (OpenSpec.upto fnExactAllPlaysSpec)

/-- 'laws.FnExactSelfPlay', WHERE WHAT IT READS IS OF BULK AT MOST 1048576: true; the input reads as it did. -/
def fnExactSelfPlayUptoRow : OpenClaim := { program := "ytghfpidpefdndaa", sum := "cde9c12c704b3431f6cbbe223b2f0c43d464e07a71388d1d43cc2c0622ee2550", func := "loop.example/g00885/laws.FnExactSelfPlay", spec := "fnExactSelfPlay", apart := false, narrowed := true }
def FnExactSelfPlayUptoSaid : Prop := fnExactSelfPlayUptoRow.holds Try.pinned (OpenSpec.upto fnExactSelfPlaySpec)

/-- 'laws.FnExactBearoffResults', WHERE WHAT IT READS IS OF BULK AT MOST 1048576: true; the input reads as it did. -/
def fnExactBearoffResultsUptoRow : OpenClaim := { program := "ytghfpidpefdndaa", sum := "cde9c12c704b3431f6cbbe223b2f0c43d464e07a71388d1d43cc2c0622ee2550", func := "loop.example/g00885/laws.FnExactBearoffResults", spec := "fnExactBearoffResults", unfollowed := true, recurses := true, apart := false, narrowed := true }
def FnExactBearoffResultsUptoSaid : Prop := fnExactBearoffResultsUptoRow.holds Try.pinned (OpenSpec.upto fnExactBearoffResultsSpec)

/-- 'laws.FnExactGreedyResult', WHERE WHAT IT READS IS OF BULK AT MOST 1048576: true; the input reads as it did. -/
def fnExactGreedyResultUptoRow : OpenClaim := { program := "ytghfpidpefdndaa", sum := "cde9c12c704b3431f6cbbe223b2f0c43d464e07a71388d1d43cc2c0622ee2550", func := "loop.example/g00885/laws.FnExactGreedyResult", spec := "fnExactGreedyResult", unfollowed := true, recurses := true, apart := false, narrowed := true }
def FnExactGreedyResultUptoSaid : Prop := fnExactGreedyResultUptoRow.holds Try.pinned (OpenSpec.upto fnExactGreedyResultSpec)

/-- 'laws.FnExactExpectedRolls', WHERE WHAT IT READS IS OF BULK AT MOST 1048576: true; the input reads as it did. -/
def fnExactExpectedRollsUptoRow : OpenClaim := { program := "ytghfpidpefdndaa", sum := "cde9c12c704b3431f6cbbe223b2f0c43d464e07a71388d1d43cc2c0622ee2550", func := "loop.example/g00885/laws.FnExactExpectedRolls", spec := "fnExactExpectedRolls", unfollowed := true, recurses := true, named := ["math/bits.divideError", "math/bits.overflowError"], apart := false, narrowed := true }
def FnExactExpectedRollsUptoSaid : Prop := fnExactExpectedRollsUptoRow.holds Try.pinned (OpenSpec.upto fnExactExpectedRollsSpec)

/-- 'laws.FnExactMean', WHERE WHAT IT READS IS OF BULK AT MOST 1048576: true; the input reads as it did. -/
def fnExactMeanUptoRow : OpenClaim := { program := "ytghfpidpefdndaa", sum := "cde9c12c704b3431f6cbbe223b2f0c43d464e07a71388d1d43cc2c0622ee2550", func := "loop.example/g00885/laws.FnExactMean", spec := "fnExactMean", named := ["math/bits.divideError", "math/bits.overflowError"], apart := false, narrowed := true }
def FnExactMeanUptoSaid : Prop := fnExactMeanUptoRow.holds Try.pinned (OpenSpec.upto fnExactMeanSpec)

/-- 'laws.FnExactScale', WHERE WHAT IT READS IS OF BULK AT MOST 1048576: true; the input reads as it did. -/
def fnExactScaleUptoRow : OpenClaim := { program := "ytghfpidpefdndaa", sum := "cde9c12c704b3431f6cbbe223b2f0c43d464e07a71388d1d43cc2c0622ee2550", func := "loop.example/g00885/laws.FnExactScale", spec := "fnExactScale", named := ["math/bits.divideError", "math/bits.overflowError"], apart := false, narrowed := true }
def FnExactScaleUptoSaid : Prop := fnExactScaleUptoRow.holds Try.pinned (OpenSpec.upto fnExactScaleSpec)

/-- 'laws.FnExactSums', WHERE WHAT IT READS IS OF BULK AT MOST 1048576: true; the input reads as it did. -/
def fnExactSumsUptoRow : OpenClaim := { program := "ytghfpidpefdndaa", sum := "cde9c12c704b3431f6cbbe223b2f0c43d464e07a71388d1d43cc2c0622ee2550", func := "loop.example/g00885/laws.FnExactSums", spec := "fnExactSums", named := ["math/bits.divideError", "math/bits.overflowError"], apart := false, narrowed := true }
def FnExactSumsUptoSaid : Prop := fnExactSumsUptoRow.holds Try.pinned (OpenSpec.upto fnExactSumsSpec)

/-- 'laws.FnNumbers', WHERE WHAT IT READS IS OF BULK AT MOST 1048576: true; the input reads as it did. -/
def fnNumbersUptoRow : OpenClaim := { program := "ytghfpidpefdndaa", sum := "cde9c12c704b3431f6cbbe223b2f0c43d464e07a71388d1d43cc2c0622ee2550", func := "loop.example/g00885/laws.FnNumbers", spec := "fnNumbers", apart := false, narrowed := true }
def FnNumbersUptoSaid : Prop := fnNumbersUptoRow.holds Try.pinned (OpenSpec.upto fnNumbersSpec)

/-- 'laws.FnBoardResults', WHERE WHAT IT READS IS OF BULK AT MOST 1048576: true; the input reads as it did. -/
def fnBoardResultsUptoRow : OpenClaim := { program := "ytghfpidpefdndaa", sum := "cde9c12c704b3431f6cbbe223b2f0c43d464e07a71388d1d43cc2c0622ee2550", func := "loop.example/g00885/laws.FnBoardResults", spec := "fnBoardResults", apart := false, narrowed := true }
def FnBoardResultsUptoSaid : Prop := fnBoardResultsUptoRow.holds Try.pinned (OpenSpec.upto fnBoardResultsSpec)

end Rows
end Go.Proofs.Ytghfpidpefdndaa
