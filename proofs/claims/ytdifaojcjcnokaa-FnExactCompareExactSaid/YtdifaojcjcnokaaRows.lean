/-
  No cell of these rows narrows 'for every input' (looked for: loops, veiled, ifaces, maps, wideKeys, modest, calm, conditions, laid).
  DERIVED. THE GIVEN ROWS OF THIS SEAT. 12 by the template 'for every input the law returns true; each argument reads behind the call as it read before'; 0 by the template 'total and deterministic' (their statements: YtdifaojcjcnokaaTotals.lean).
  GIVEN WITH THE SEED: the statements are not yours to turn. If you find one false, say at which input.
  Laid BY PROGRAM, IN A SANDBOX (cutbox-rows.mjs): the forced cells as the released guide's own fill.sh prints them over the translation 02a190ca688dcb54… (all of the seat's roots in one cut). By AI agents, Wed Nov 11 2026. No macro, syntax, notation, axiom, sorry.
-/
import Derived.Test.YtdifaojcjcnokaaChecked
import GoSem.Claim
import GoSem.ClaimJoined
import GoSem.ClaimMapViews
import Derived.JoinedTies
import Derived.KernelRfl
namespace Go.Proofs.Ytdifaojcjcnokaa
/- THE CELL 'sum', in the pinned program and in every row, IS THE sha256 OF THE DUMP (.gsa) THAT YtdifaojcjcnokaaProg.lean LOADS. Nothing in Lean hashes anything: it is a label: what it is worth is what the hold of that sum in a sandbox is worth. -/
noncomputable def Try.pinned : Pinned := { name := "ytdifaojcjcnokaa", sum := "02a190ca688dcb542bbea60d1a5cdf42a6abb04ec4d9a7d712440d96ce614105", checked := Try.checked }
namespace Rows
def none {H : Type} : Left H := { results := [], args := [] }

/-- 'laws.FnExactBearoffCount': WHATEVER THE INPUT: true; the input reads as it did. -/
def fnExactBearoffCountSpec : ChangeSpec := { name := "fnExactBearoffCount", fn := fun _ => fun
  | [d] => { results := [.lit (.bool true)], args := [d] }
  | _ => none }
def fnExactBearoffCountRow : OpenClaim := { program := "ytdifaojcjcnokaa", sum := "02a190ca688dcb542bbea60d1a5cdf42a6abb04ec4d9a7d712440d96ce614105", func := "loop.example/g00885/laws.FnExactBearoffCount", spec := "fnExactBearoffCount", apart := false }
def FnExactBearoffCountSaid : Prop := fnExactBearoffCountRow.holds Try.pinned (OpenSpec.ofChange fnExactBearoffCountSpec)

/-- ITS FALSE NEIGHBOUR: 'it returns false'. Refute it at one input. -/
def fnExactBearoffCountWrong : ChangeSpec := { name := "fnExactBearoffCount", fn := fun _ => fun
  | [d] => { results := [.lit (.bool false)], args := [d] }
  | _ => none }
def FnExactBearoffCountWrongFalsely : Prop := fnExactBearoffCountRow.holds Try.pinned (OpenSpec.ofChange fnExactBearoffCountWrong)

/-- 'laws.FnExactIsBearoff': WHATEVER THE INPUT: true; the input reads as it did. -/
def fnExactIsBearoffSpec : ChangeSpec := { name := "fnExactIsBearoff", fn := fun _ => fun
  | [d1, d2] => { results := [.lit (.bool true)], args := [d1, d2] }
  | _ => none }
def fnExactIsBearoffRow : OpenClaim := { program := "ytdifaojcjcnokaa", sum := "02a190ca688dcb542bbea60d1a5cdf42a6abb04ec4d9a7d712440d96ce614105", func := "loop.example/g00885/laws.FnExactIsBearoff", spec := "fnExactIsBearoff", apart := false }
def FnExactIsBearoffSaid : Prop := fnExactIsBearoffRow.holds Try.pinned (OpenSpec.ofChange fnExactIsBearoffSpec)

/-- ITS FALSE NEIGHBOUR: 'it returns false'. Refute it at one input. -/
def fnExactIsBearoffWrong : ChangeSpec := { name := "fnExactIsBearoff", fn := fun _ => fun
  | [d1, d2] => { results := [.lit (.bool false)], args := [d1, d2] }
  | _ => none }
def FnExactIsBearoffWrongFalsely : Prop := fnExactIsBearoffRow.holds Try.pinned (OpenSpec.ofChange fnExactIsBearoffWrong)

/-- 'laws.FnExactIsExact': WHATEVER THE INPUT: true; the input reads as it did. -/
def fnExactIsExactSpec : ChangeSpec := { name := "fnExactIsExact", fn := fun _ => fun
  | [d1, d2] => { results := [.lit (.bool true)], args := [d1, d2] }
  | _ => none }
def fnExactIsExactRow : OpenClaim := { program := "ytdifaojcjcnokaa", sum := "02a190ca688dcb542bbea60d1a5cdf42a6abb04ec4d9a7d712440d96ce614105", func := "loop.example/g00885/laws.FnExactIsExact", spec := "fnExactIsExact", apart := false }
def FnExactIsExactSaid : Prop := fnExactIsExactRow.holds Try.pinned (OpenSpec.ofChange fnExactIsExactSpec)

/-- ITS FALSE NEIGHBOUR: 'it returns false'. Refute it at one input. -/
def fnExactIsExactWrong : ChangeSpec := { name := "fnExactIsExact", fn := fun _ => fun
  | [d1, d2] => { results := [.lit (.bool false)], args := [d1, d2] }
  | _ => none }
def FnExactIsExactWrongFalsely : Prop := fnExactIsExactRow.holds Try.pinned (OpenSpec.ofChange fnExactIsExactWrong)

/-- 'laws.FnExactBearoffPips': WHATEVER THE INPUT: true; the input reads as it did. -/
def fnExactBearoffPipsSpec : ChangeSpec := { name := "fnExactBearoffPips", fn := fun _ => fun
  | [d1, d2] => { results := [.lit (.bool true)], args := [d1, d2] }
  | _ => none }
def fnExactBearoffPipsRow : OpenClaim := { program := "ytdifaojcjcnokaa", sum := "02a190ca688dcb542bbea60d1a5cdf42a6abb04ec4d9a7d712440d96ce614105", func := "loop.example/g00885/laws.FnExactBearoffPips", spec := "fnExactBearoffPips", apart := false }
def FnExactBearoffPipsSaid : Prop := fnExactBearoffPipsRow.holds Try.pinned (OpenSpec.ofChange fnExactBearoffPipsSpec)

/-- ITS FALSE NEIGHBOUR: 'it returns false'. Refute it at one input. -/
def fnExactBearoffPipsWrong : ChangeSpec := { name := "fnExactBearoffPips", fn := fun _ => fun
  | [d1, d2] => { results := [.lit (.bool false)], args := [d1, d2] }
  | _ => none }
def FnExactBearoffPipsWrongFalsely : Prop := fnExactBearoffPipsRow.holds Try.pinned (OpenSpec.ofChange fnExactBearoffPipsWrong)

/-- 'laws.FnExactBearoffAt': WHATEVER THE INPUT: true; the input reads as it did. -/
def fnExactBearoffAtSpec : ChangeSpec := { name := "fnExactBearoffAt", fn := fun _ => fun
  | [d1, d2] => { results := [.lit (.bool true)], args := [d1, d2] }
  | _ => none }
def fnExactBearoffAtRow : OpenClaim := { program := "ytdifaojcjcnokaa", sum := "02a190ca688dcb542bbea60d1a5cdf42a6abb04ec4d9a7d712440d96ce614105", func := "loop.example/g00885/laws.FnExactBearoffAt", spec := "fnExactBearoffAt", apart := false }
def FnExactBearoffAtSaid : Prop := fnExactBearoffAtRow.holds Try.pinned (OpenSpec.ofChange fnExactBearoffAtSpec)

/-- ITS FALSE NEIGHBOUR: 'it returns false'. Refute it at one input. -/
def fnExactBearoffAtWrong : ChangeSpec := { name := "fnExactBearoffAt", fn := fun _ => fun
  | [d1, d2] => { results := [.lit (.bool false)], args := [d1, d2] }
  | _ => none }
def FnExactBearoffAtWrongFalsely : Prop := fnExactBearoffAtRow.holds Try.pinned (OpenSpec.ofChange fnExactBearoffAtWrong)

/-- 'laws.FnExactMakeExact': WHATEVER THE INPUT: true; the input reads as it did. -/
def fnExactMakeExactSpec : ChangeSpec := { name := "fnExactMakeExact", fn := fun _ => fun
  | [d1, d2, d3] => { results := [.lit (.bool true)], args := [d1, d2, d3] }
  | _ => none }
def fnExactMakeExactRow : OpenClaim := { program := "ytdifaojcjcnokaa", sum := "02a190ca688dcb542bbea60d1a5cdf42a6abb04ec4d9a7d712440d96ce614105", func := "loop.example/g00885/laws.FnExactMakeExact", spec := "fnExactMakeExact", apart := false }
def FnExactMakeExactSaid : Prop := fnExactMakeExactRow.holds Try.pinned (OpenSpec.ofChange fnExactMakeExactSpec)

/-- ITS FALSE NEIGHBOUR: 'it returns false'. Refute it at one input. -/
def fnExactMakeExactWrong : ChangeSpec := { name := "fnExactMakeExact", fn := fun _ => fun
  | [d1, d2, d3] => { results := [.lit (.bool false)], args := [d1, d2, d3] }
  | _ => none }
def FnExactMakeExactWrongFalsely : Prop := fnExactMakeExactRow.holds Try.pinned (OpenSpec.ofChange fnExactMakeExactWrong)

/-- 'laws.FnExactBearoffNumber': WHATEVER THE INPUT: true; the input reads as it did. -/
def fnExactBearoffNumberSpec : ChangeSpec := { name := "fnExactBearoffNumber", fn := fun _ => fun
  | [d1, d2] => { results := [.lit (.bool true)], args := [d1, d2] }
  | _ => none }
def fnExactBearoffNumberRow : OpenClaim := { program := "ytdifaojcjcnokaa", sum := "02a190ca688dcb542bbea60d1a5cdf42a6abb04ec4d9a7d712440d96ce614105", func := "loop.example/g00885/laws.FnExactBearoffNumber", spec := "fnExactBearoffNumber", apart := false }
def FnExactBearoffNumberSaid : Prop := fnExactBearoffNumberRow.holds Try.pinned (OpenSpec.ofChange fnExactBearoffNumberSpec)

/-- ITS FALSE NEIGHBOUR: 'it returns false'. Refute it at one input. -/
def fnExactBearoffNumberWrong : ChangeSpec := { name := "fnExactBearoffNumber", fn := fun _ => fun
  | [d1, d2] => { results := [.lit (.bool false)], args := [d1, d2] }
  | _ => none }
def FnExactBearoffNumberWrongFalsely : Prop := fnExactBearoffNumberRow.holds Try.pinned (OpenSpec.ofChange fnExactBearoffNumberWrong)

/-- 'laws.FnExactNextBearoff': WHATEVER THE INPUT: true; the input reads as it did. -/
def fnExactNextBearoffSpec : ChangeSpec := { name := "fnExactNextBearoff", fn := fun _ => fun
  | [d1, d2] => { results := [.lit (.bool true)], args := [d1, d2] }
  | _ => none }
def fnExactNextBearoffRow : OpenClaim := { program := "ytdifaojcjcnokaa", sum := "02a190ca688dcb542bbea60d1a5cdf42a6abb04ec4d9a7d712440d96ce614105", func := "loop.example/g00885/laws.FnExactNextBearoff", spec := "fnExactNextBearoff", apart := false }
def FnExactNextBearoffSaid : Prop := fnExactNextBearoffRow.holds Try.pinned (OpenSpec.ofChange fnExactNextBearoffSpec)

/-- ITS FALSE NEIGHBOUR: 'it returns false'. Refute it at one input. -/
def fnExactNextBearoffWrong : ChangeSpec := { name := "fnExactNextBearoff", fn := fun _ => fun
  | [d1, d2] => { results := [.lit (.bool false)], args := [d1, d2] }
  | _ => none }
def FnExactNextBearoffWrongFalsely : Prop := fnExactNextBearoffRow.holds Try.pinned (OpenSpec.ofChange fnExactNextBearoffWrong)

/-- 'laws.FnExactCompareExact': WHATEVER THE INPUT: true; the input reads as it did. -/
def fnExactCompareExactSpec : ChangeSpec := { name := "fnExactCompareExact", fn := fun _ => fun
  | [d1, d2, d3] => { results := [.lit (.bool true)], args := [d1, d2, d3] }
  | _ => none }
def fnExactCompareExactRow : OpenClaim := { program := "ytdifaojcjcnokaa", sum := "02a190ca688dcb542bbea60d1a5cdf42a6abb04ec4d9a7d712440d96ce614105", func := "loop.example/g00885/laws.FnExactCompareExact", spec := "fnExactCompareExact", apart := false }
def FnExactCompareExactSaid : Prop := fnExactCompareExactRow.holds Try.pinned (OpenSpec.ofChange fnExactCompareExactSpec)

/-- ITS FALSE NEIGHBOUR: 'it returns false'. Refute it at one input. -/
def fnExactCompareExactWrong : ChangeSpec := { name := "fnExactCompareExact", fn := fun _ => fun
  | [d1, d2, d3] => { results := [.lit (.bool false)], args := [d1, d2, d3] }
  | _ => none }
def FnExactCompareExactWrongFalsely : Prop := fnExactCompareExactRow.holds Try.pinned (OpenSpec.ofChange fnExactCompareExactWrong)

/-- 'laws.FnExactAddExact': WHATEVER THE INPUT: true; the input reads as it did. -/
def fnExactAddExactSpec : ChangeSpec := { name := "fnExactAddExact", fn := fun _ => fun
  | [d1, d2, d3] => { results := [.lit (.bool true)], args := [d1, d2, d3] }
  | _ => none }
def fnExactAddExactRow : OpenClaim := { program := "ytdifaojcjcnokaa", sum := "02a190ca688dcb542bbea60d1a5cdf42a6abb04ec4d9a7d712440d96ce614105", func := "loop.example/g00885/laws.FnExactAddExact", spec := "fnExactAddExact", apart := false }
def FnExactAddExactSaid : Prop := fnExactAddExactRow.holds Try.pinned (OpenSpec.ofChange fnExactAddExactSpec)

/-- ITS FALSE NEIGHBOUR: 'it returns false'. Refute it at one input. -/
def fnExactAddExactWrong : ChangeSpec := { name := "fnExactAddExact", fn := fun _ => fun
  | [d1, d2, d3] => { results := [.lit (.bool false)], args := [d1, d2, d3] }
  | _ => none }
def FnExactAddExactWrongFalsely : Prop := fnExactAddExactRow.holds Try.pinned (OpenSpec.ofChange fnExactAddExactWrong)

/-- 'laws.FnExactMillionthsOf': WHATEVER THE INPUT: true; the input reads as it did. -/
def fnExactMillionthsOfSpec : ChangeSpec := { name := "fnExactMillionthsOf", fn := fun _ => fun
  | [d1, d2] => { results := [.lit (.bool true)], args := [d1, d2] }
  | _ => none }
def fnExactMillionthsOfRow : OpenClaim := { program := "ytdifaojcjcnokaa", sum := "02a190ca688dcb542bbea60d1a5cdf42a6abb04ec4d9a7d712440d96ce614105", func := "loop.example/g00885/laws.FnExactMillionthsOf", spec := "fnExactMillionthsOf", named := ["math/bits.divideError", "math/bits.overflowError"], apart := false }
def FnExactMillionthsOfSaid : Prop := fnExactMillionthsOfRow.holds Try.pinned (OpenSpec.ofChange fnExactMillionthsOfSpec)

/-- ITS FALSE NEIGHBOUR: 'it returns false'. Refute it at one input. -/
def fnExactMillionthsOfWrong : ChangeSpec := { name := "fnExactMillionthsOf", fn := fun _ => fun
  | [d1, d2] => { results := [.lit (.bool false)], args := [d1, d2] }
  | _ => none }
def FnExactMillionthsOfWrongFalsely : Prop := fnExactMillionthsOfRow.holds Try.pinned (OpenSpec.ofChange fnExactMillionthsOfWrong)

/-- 'laws.FnNumbers': WHATEVER THE INPUT: true; the input reads as it did. -/
def fnNumbersSpec : ChangeSpec := { name := "fnNumbers", fn := fun _ => fun
  | [d] => { results := [.lit (.bool true)], args := [d] }
  | _ => none }
def fnNumbersRow : OpenClaim := { program := "ytdifaojcjcnokaa", sum := "02a190ca688dcb542bbea60d1a5cdf42a6abb04ec4d9a7d712440d96ce614105", func := "loop.example/g00885/laws.FnNumbers", spec := "fnNumbers", apart := false }
def FnNumbersSaid : Prop := fnNumbersRow.holds Try.pinned (OpenSpec.ofChange fnNumbersSpec)

/-- ITS FALSE NEIGHBOUR: 'it returns false'. Refute it at one input. -/
def fnNumbersWrong : ChangeSpec := { name := "fnNumbers", fn := fun _ => fun
  | [d] => { results := [.lit (.bool false)], args := [d] }
  | _ => none }
def FnNumbersWrongFalsely : Prop := fnNumbersRow.holds Try.pinned (OpenSpec.ofChange fnNumbersWrong)

/- THE SECOND FORM. 'bulk': how many values and letters a reading holds, each counted each time it is reached (what is shared counts as often as it is met; a slice's spare places count too). A statement '..UptoSaid' is the law's where the arguments, and the package variables that the reading takes, are together of bulk at most 1048576: NARROWER than '..Said'. Prove '..Said' where nothing that the law and all that it calls make is longer than what came in: it says more and counts as full. Else prove '..UptoSaid'. A law counts once. -/
mutual
def uptoBulk {H : Type} : DataW H → Nat
  | .lit (.string bytes) => bytes.length + 1
  | .lit _ => 1
  | .nil => 1
  | .ptr d => uptoBulk d + 1
  | .slice elems spare => uptoBulkAll elems + uptoBulkAll spare + 1
  | .agg parts => uptoBulkAll parts + 1
  | .iface _ d => uptoBulk d + 1
  | .map entries => uptoBulkEntries entries + 1
  | .held _ => 1
def uptoBulkAll {H : Type} : List (DataW H) → Nat
  | [] => 0
  | d :: r => uptoBulk d + uptoBulkAll r
def uptoBulkEntries {H : Type} : List (Lit × DataW H) → Nat
  | [] => 0
  | x :: r => uptoBulkEntry x + uptoBulkEntries r
def uptoBulkEntry {H : Type} : Lit × DataW H → Nat
  | (.string bytes, d) => bytes.length + uptoBulk d + 1
  | (_, d) => uptoBulk d + 1
 end
def uptoSmall : (H : Type) → List (DataW H) → Bool := fun _ ds => decide (uptoBulkAll ds ≤ 1048576)
def OpenSpec.upto (s : _root_.Go.ChangeSpec) : _root_.Go.OpenSpec := { _root_.Go.OpenSpec.ofChange s with cond := some uptoSmall }

/-- 'laws.FnExactBearoffCount', WHERE WHAT IT READS IS OF BULK AT MOST 1048576: true; the input reads as it did. -/
def fnExactBearoffCountUptoRow : OpenClaim := { program := "ytdifaojcjcnokaa", sum := "02a190ca688dcb542bbea60d1a5cdf42a6abb04ec4d9a7d712440d96ce614105", func := "loop.example/g00885/laws.FnExactBearoffCount", spec := "fnExactBearoffCount", apart := false, narrowed := true }
def FnExactBearoffCountUptoSaid : Prop := fnExactBearoffCountUptoRow.holds Try.pinned (OpenSpec.upto fnExactBearoffCountSpec)

/-- 'laws.FnExactIsBearoff', WHERE WHAT IT READS IS OF BULK AT MOST 1048576: true; the input reads as it did. -/
def fnExactIsBearoffUptoRow : OpenClaim := { program := "ytdifaojcjcnokaa", sum := "02a190ca688dcb542bbea60d1a5cdf42a6abb04ec4d9a7d712440d96ce614105", func := "loop.example/g00885/laws.FnExactIsBearoff", spec := "fnExactIsBearoff", apart := false, narrowed := true }
def FnExactIsBearoffUptoSaid : Prop := fnExactIsBearoffUptoRow.holds Try.pinned (OpenSpec.upto fnExactIsBearoffSpec)

/-- 'laws.FnExactIsExact', WHERE WHAT IT READS IS OF BULK AT MOST 1048576: true; the input reads as it did. -/
def fnExactIsExactUptoRow : OpenClaim := { program := "ytdifaojcjcnokaa", sum := "02a190ca688dcb542bbea60d1a5cdf42a6abb04ec4d9a7d712440d96ce614105", func := "loop.example/g00885/laws.FnExactIsExact", spec := "fnExactIsExact", apart := false, narrowed := true }
def FnExactIsExactUptoSaid : Prop := fnExactIsExactUptoRow.holds Try.pinned (OpenSpec.upto fnExactIsExactSpec)

/-- 'laws.FnExactBearoffPips', WHERE WHAT IT READS IS OF BULK AT MOST 1048576: true; the input reads as it did. -/
def fnExactBearoffPipsUptoRow : OpenClaim := { program := "ytdifaojcjcnokaa", sum := "02a190ca688dcb542bbea60d1a5cdf42a6abb04ec4d9a7d712440d96ce614105", func := "loop.example/g00885/laws.FnExactBearoffPips", spec := "fnExactBearoffPips", apart := false, narrowed := true }
def FnExactBearoffPipsUptoSaid : Prop := fnExactBearoffPipsUptoRow.holds Try.pinned (OpenSpec.upto fnExactBearoffPipsSpec)

/-- 'laws.FnExactBearoffAt', WHERE WHAT IT READS IS OF BULK AT MOST 1048576: true; the input reads as it did. -/
def fnExactBearoffAtUptoRow : OpenClaim := { program := "ytdifaojcjcnokaa", sum := "02a190ca688dcb542bbea60d1a5cdf42a6abb04ec4d9a7d712440d96ce614105", func := "loop.example/g00885/laws.FnExactBearoffAt", spec := "fnExactBearoffAt", apart := false, narrowed := true }
def FnExactBearoffAtUptoSaid : Prop := fnExactBearoffAtUptoRow.holds Try.pinned (OpenSpec.upto fnExactBearoffAtSpec)

/-- 'laws.FnExactMakeExact', WHERE WHAT IT READS IS OF BULK AT MOST 1048576: true; the input reads as it did. -/
def fnExactMakeExactUptoRow : OpenClaim := { program := "ytdifaojcjcnokaa", sum := "02a190ca688dcb542bbea60d1a5cdf42a6abb04ec4d9a7d712440d96ce614105", func := "loop.example/g00885/laws.FnExactMakeExact", spec := "fnExactMakeExact", apart := false, narrowed := true }
def FnExactMakeExactUptoSaid : Prop := fnExactMakeExactUptoRow.holds Try.pinned (OpenSpec.upto fnExactMakeExactSpec)

/-- 'laws.FnExactBearoffNumber', WHERE WHAT IT READS IS OF BULK AT MOST 1048576: true; the input reads as it did. -/
def fnExactBearoffNumberUptoRow : OpenClaim := { program := "ytdifaojcjcnokaa", sum := "02a190ca688dcb542bbea60d1a5cdf42a6abb04ec4d9a7d712440d96ce614105", func := "loop.example/g00885/laws.FnExactBearoffNumber", spec := "fnExactBearoffNumber", apart := false, narrowed := true }
def FnExactBearoffNumberUptoSaid : Prop := fnExactBearoffNumberUptoRow.holds Try.pinned (OpenSpec.upto fnExactBearoffNumberSpec)

/-- 'laws.FnExactNextBearoff', WHERE WHAT IT READS IS OF BULK AT MOST 1048576: true; the input reads as it did. -/
def fnExactNextBearoffUptoRow : OpenClaim := { program := "ytdifaojcjcnokaa", sum := "02a190ca688dcb542bbea60d1a5cdf42a6abb04ec4d9a7d712440d96ce614105", func := "loop.example/g00885/laws.FnExactNextBearoff", spec := "fnExactNextBearoff", apart := false, narrowed := true }
def FnExactNextBearoffUptoSaid : Prop := fnExactNextBearoffUptoRow.holds Try.pinned (OpenSpec.upto fnExactNextBearoffSpec)

/-- 'laws.FnExactCompareExact', WHERE WHAT IT READS IS OF BULK AT MOST 1048576: true; the input reads as it did. -/
def fnExactCompareExactUptoRow : OpenClaim := { program := "ytdifaojcjcnokaa", sum := "02a190ca688dcb542bbea60d1a5cdf42a6abb04ec4d9a7d712440d96ce614105", func := "loop.example/g00885/laws.FnExactCompareExact", spec := "fnExactCompareExact", apart := false, narrowed := true }
def FnExactCompareExactUptoSaid : Prop := fnExactCompareExactUptoRow.holds Try.pinned (OpenSpec.upto fnExactCompareExactSpec)

/-- 'laws.FnExactAddExact', WHERE WHAT IT READS IS OF BULK AT MOST 1048576: true; the input reads as it did. -/
def fnExactAddExactUptoRow : OpenClaim := { program := "ytdifaojcjcnokaa", sum := "02a190ca688dcb542bbea60d1a5cdf42a6abb04ec4d9a7d712440d96ce614105", func := "loop.example/g00885/laws.FnExactAddExact", spec := "fnExactAddExact", apart := false, narrowed := true }
def FnExactAddExactUptoSaid : Prop := fnExactAddExactUptoRow.holds Try.pinned (OpenSpec.upto fnExactAddExactSpec)

/-- 'laws.FnExactMillionthsOf', WHERE WHAT IT READS IS OF BULK AT MOST 1048576: true; the input reads as it did. -/
def fnExactMillionthsOfUptoRow : OpenClaim := { program := "ytdifaojcjcnokaa", sum := "02a190ca688dcb542bbea60d1a5cdf42a6abb04ec4d9a7d712440d96ce614105", func := "loop.example/g00885/laws.FnExactMillionthsOf", spec := "fnExactMillionthsOf", named := ["math/bits.divideError", "math/bits.overflowError"], apart := false, narrowed := true }
def FnExactMillionthsOfUptoSaid : Prop := fnExactMillionthsOfUptoRow.holds Try.pinned (OpenSpec.upto fnExactMillionthsOfSpec)

/-- 'laws.FnNumbers', WHERE WHAT IT READS IS OF BULK AT MOST 1048576: true; the input reads as it did. -/
def fnNumbersUptoRow : OpenClaim := { program := "ytdifaojcjcnokaa", sum := "02a190ca688dcb542bbea60d1a5cdf42a6abb04ec4d9a7d712440d96ce614105", func := "loop.example/g00885/laws.FnNumbers", spec := "fnNumbers", apart := false, narrowed := true }
def FnNumbersUptoSaid : Prop := fnNumbersUptoRow.holds Try.pinned (OpenSpec.upto fnNumbersSpec)

end Rows
end Go.Proofs.Ytdifaojcjcnokaa
