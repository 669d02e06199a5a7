/-
  The law FnExactExpectedRolls returns true for every input; its arguments read afterwards as before. No condition beyond the given statement's own.
-/
import Derived.Test.YtoobijimfccfgaaRows
import Derived.Test.YtoobijimfccfgaaVExpL
import Derived.Test.YtoobijimfccfgaaAbL
import Derived.ProofKit
import Derived.OpenShut
import Derived.ChangeOld
import Derived.Lib.SmallJoins
namespace Go.Proofs.Ytoobijimfccfgaa.fnExactExpectedRolls
open Go.ChangeShapes Go.WideShapes Go.ChangeAt Go.RowKit Go.Joins
set_option linter.unusedVariables false

theorem own : ownKnob Try.prog.godebug = none := by kernel_rfl
theorem laidOut : laidOutB Try.prog = true := by kernel_rfl
set_option maxRecDepth 100000 in
theorem lifted (os : Os) (started : os.Started) (H : Type) (enc : TypeId × Value → H) :
    ReturnsInHanded {} Try.checked os 3 .any (Rows.fnExactExpectedRollsSpec.pre6 enc Try.prog Try.f3 Rows.fnExactExpectedRollsRow.domain false) (Rows.fnExactExpectedRollsSpec.post enc Try.prog Try.f3 false true false false) := by
  refine returnsInHanded_of_change (C := Try.checked) own started (by kernel_rfl) Try.func3
    (ChangeSpec.witness6 (enc := enc) (C := Try.checked) false ⟨#[], #[.agg #[.int .i64 0, .int .i64 0, .int .i64 0, .int .i64 0], .slice none 0 0], []⟩ 8 (by kernel_rfl) (by kernel_rfl) (by kernel_rfl) (by kernel_rfl)) ?_
  intro W base args ds gs before hval0 hW hcnd _
  have hval : ∀ (j : Nat) t v, Try.f3.params[j]? = some t → args[j]? = some v → Value.okWide Try.prog W .any base t v := hval0
  have hW' := hW
  obtain ⟨p, q, hA0, hV, rfl, hfz, hnd⟩ := hW
  have hA : DataW.TrodAll enc Try.prog W 0 (fun _ => true) true Try.f3.params.toList args.toList ds p := hA0
  rw [Try.params3] at hA hval
  obtain ⟨v0, vs0, d0, ds0, p0, q0, hargs, rfl, rfl, h0, r0⟩ := trodAll_cons hA
  obtain ⟨v1, vs1, d1, ds1, p1, q1, rfl, rfl, rfl, h1, r1⟩ := trodAll_cons r0
  obtain ⟨rfl, rfl, rfl⟩ := trodAll_nil r1
  obtain rfl : args = #[v0, v1] := by cases args; simp_all
  obtain ⟨rfl, rfl⟩ := trodVars_none hV
  have k0 := h0
  have lt0 : ∀ x ∈ p0, x.block < W.heap.size := by obtain ⟨m, hm⟩ := k0; exact DataW.trod_lt m _ _ _ hm
  obtain ⟨c0, rfl, _⟩ := okWide_struct Try.underlying23 (hval 0 23 v0 rfl rfl)
  obtain ⟨x0, g0, u0⟩ : ∃ x : (tVar : TC).D, Rep False (fun _ => False) W tVar c0.toList x ∧ wfD (tVar : TC) x := by
    obtain ⟨m, hm⟩ := h0
    exact opn_Variant.2 (by simpa [Value.cells] using hm)
  have k1 := h1
  have lt1 : ∀ x ∈ p1, x.block < W.heap.size := by obtain ⟨m, hm⟩ := k1; exact DataW.trod_lt m _ _ _ hm
  obtain ⟨a1, len1, cap1, rfl⟩ := okWide_slice Try.underlying24 (hval 1 24 v1 rfl rfl)
  obtain ⟨x1, g1, u1⟩ : ∃ x : (tSI : TC).D, Rep False (fun _ => False) W tSI [.slice a1 len1 cap1] x ∧ wfD (tSI : TC) x := by
    obtain ⟨m, hm⟩ := k1
    exact opn_s_int64.2 (by simpa [Value.cells] using hm)
  clear hA0 hval0
  refine (law_run (W := W) trivial (k_laws_FnExactExpectedRolls (B := ⟨W, trivial⟩)) (args := [.agg c0, .slice a1 len1 cap1]) (x := (x0, x1, ())) ⟨_, _, [], [], rfl, rfl, by simp, ⟨c0.toList, .inl ⟨rfl, by simp⟩, rfl, g0.nil⟩, ⟨_, _, [], [], rfl, rfl, by simp, ⟨[.slice a1 len1 cap1], .inr ⟨rfl, rfl⟩, rfl, g1.nil⟩, ⟨rfl, rfl⟩⟩⟩ ⟨u0, u1⟩).mono fun e W' ⟨he, bel⟩ => ?_
  subst he
  exact ⟨_, rfl, _, _, _, [], _, [], hW', trodAll_mk1 (shut_bool Try.underlying4 _), (trodAll_cons_mk (Below.trod laidOut (by kernel_rfl) (of_decide_eq_true (by kernel_rfl)) k0 bel lt0) (trodAll_cons_mk (Below.trod laidOut (by kernel_rfl) (of_decide_eq_true (by kernel_rfl)) k1 bel lt1) trodAll_mk0)), rfl, bel.frame _, fun h => by cases h⟩

end Go.Proofs.Ytoobijimfccfgaa.fnExactExpectedRolls
