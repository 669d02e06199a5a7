/-
  The facts of a joined claim in two halves: each is reckoned by itself, for the memory.
-/
import Derived.ProofKit
import Derived.OpenShut
import Derived.ChangeOld
import Derived.Lib.SmallJoins
import Derived.JoinedOf
namespace Go.Proofs.Ytgbfcjnkohhfoaa
open Go.RowKit Go.Joins
set_option linter.unusedVariables false

def joined1 (P : Program) (f : FuncId) (fn : Func) (s : ChangeSpec) (c : OpenClaim) : Bool :=
  c.wf (OpenSpec.ofChange s) &&
  laidOutB P &&
  mapsRowed P &&
  fn.params.all (P.readableRec ·) &&
  namedTie P c.named s.vars &&
  (c.stops == []) &&
  (P.stops == []) &&
  (c.knobs == []) &&
  (P.stopKnobs == []) &&
  (c.inPlace == P.inPlace f) &&
  (c.unfollowed == P.unfollowed f) &&
  (c.recurses == P.recurses f) &&
  (c.named == P.varsNamed f) &&
  (c.maps == (fn.params.toList ++ s.plain.varTypes P).any (P.mapsRec ·)) &&
  (c.ifaces == (fn.params.toList ++ s.plain.varTypes P).any (P.ifacesRec ·)) &&
  (c.mapsOut == P.mapsAmong fn.resultTypes.toList) &&
  (c.loops == (fn.params.toList ++ s.plain.varTypes P).any (P.loopsFrom ·)) &&
  (c.wideKeys == (fn.params.toList ++ s.plain.varTypes P ++ fn.resultTypes.toList).any (P.wideKeysFrom ·)) &&
  s.vars.all (P.varReadable ·) &&
  fn.resultTypes.all (fun t => P.readableRec t && decide (t < P.types.size)) &&
  (c.ifacesOut == fn.resultTypes.toList.any (P.ifacesRec ·)) &&
  (c.loopsOut == fn.resultTypes.toList.any (P.loopsFrom ·)) &&
  (c.plainKeys == P.plainKeys) &&
  c.shortTexts.isNone &&
  P.stopsHeard
def joined2 (P : Program) (f : FuncId) (fn : Func) (s : ChangeSpec) (c : OpenClaim) : Bool :=
  P.mayEnter &&
  (c.lifted == P.liftsFinal) &&
  (P.make == some c.make) &&
  (c.kinds == (if c.domain.isEmpty then [] else fn.params.toList.map fun t => match P.underlying t with | some (.int k) => some k | _ => none)) &&
  (c.pinned == c.pinnedBy) &&
  (c.veiled == (fn.params.toList ++ s.plain.varTypes P ++ fn.resultTypes.toList).any (P.veiledRec ·)) &&
  c.veiledFits P fn.params.toList (fn.params.toList ++ s.plain.varTypes P ++ fn.resultTypes.toList)
theorem joined_of {P : Program} {f : FuncId} {fn : Func} {s : ChangeSpec} {c : OpenClaim} (h1 : joined1 P f fn s c = true) (h2 : joined2 P f fn s c = true) : joinedFacts P f fn s c = true := by
  unfold joinedFacts
  unfold joined1 at h1
  unfold joined2 at h2
  simp only [Bool.and_eq_true] at h1 h2 ⊢
  obtain ⟨⟨⟨⟨⟨⟨d0, d1⟩, d2⟩, d3⟩, d4⟩, d5⟩, d6⟩ := h2
  exact ⟨⟨⟨⟨⟨⟨⟨h1, d0⟩, d1⟩, d2⟩, d3⟩, d4⟩, d5⟩, d6⟩
end Go.Proofs.Ytgbfcjnkohhfoaa
