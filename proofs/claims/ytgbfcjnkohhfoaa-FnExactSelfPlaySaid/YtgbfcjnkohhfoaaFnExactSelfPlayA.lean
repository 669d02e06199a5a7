/-
  The law FnExactSelfPlay returns true for every input; its arguments read afterwards as before. No condition beyond the given statement's own.
-/
import Derived.Test.YtgbfcjnkohhfoaaRows
import Derived.Test.YtgbfcjnkohhfoaaVSelfO
import Derived.Test.YtgbfcjnkohhfoaaAbL
import Derived.ProofKit
import Derived.OpenShut
import Derived.ChangeOld
import Derived.Lib.SmallJoins
namespace Go.Proofs.Ytgbfcjnkohhfoaa.fnExactSelfPlay
open Go.ChangeShapes Go.WideShapes Go.ChangeAt Go.RowKit Go.Joins
set_option linter.unusedVariables false

theorem own : ownKnob Try.prog.godebug = none := by kernel_rfl
theorem laidOut : laidOutB Try.prog = true := by kernel_rfl
set_option maxRecDepth 100000 in
theorem lifted (os : Os) (started : os.Started) (H : Type) (enc : TypeId × Value → H) :
    ReturnsInHanded {} Try.checked os 4 .any (Rows.fnExactSelfPlaySpec.pre6 enc Try.prog Try.f4 Rows.fnExactSelfPlayRow.domain false) (Rows.fnExactSelfPlaySpec.post enc Try.prog Try.f4 false true false false) := by
  refine returnsInHanded_of_change (C := Try.checked) own started (by kernel_rfl) Try.func4
    (ChangeSpec.witness6 (enc := enc) (C := Try.checked) false ⟨#[], #[.agg #[.int .i64 0, .int .i64 0, .int .i64 0, .int .i64 0], .int .i64 0, .int .i64 0], []⟩ 8 (by kernel_rfl) (by kernel_rfl) (by kernel_rfl) (by kernel_rfl)) ?_
  intro W base args ds gs before hval0 hW hcnd _
  have hval : ∀ (j : Nat) t v, Try.f4.params[j]? = some t → args[j]? = some v → Value.okWide Try.prog W .any base t v := hval0
  have hW' := hW
  obtain ⟨p, q, hA0, hV, rfl, hfz, hnd⟩ := hW
  have hA : DataW.TrodAll enc Try.prog W 0 (fun _ => true) true Try.f4.params.toList args.toList ds p := hA0
  rw [Try.params4] at hA hval
  obtain ⟨v0, vs0, d0, ds0, p0, q0, hargs, rfl, rfl, h0, r0⟩ := trodAll_cons hA
  obtain ⟨v1, vs1, d1, ds1, p1, q1, rfl, rfl, rfl, h1, r1⟩ := trodAll_cons r0
  obtain ⟨v2, vs2, d2, ds2, p2, q2, rfl, rfl, rfl, h2, r2⟩ := trodAll_cons r1
  obtain ⟨rfl, rfl, rfl⟩ := trodAll_nil r2
  obtain rfl : args = #[v0, v1, v2] := by cases args; simp_all
  obtain ⟨rfl, rfl⟩ := trodVars_none hV
  have k0 := h0
  have lt0 : ∀ x ∈ p0, x.block < W.heap.size := by obtain ⟨m, hm⟩ := k0; exact DataW.trod_lt m _ _ _ hm
  obtain ⟨c0, rfl, _⟩ := okWide_struct Try.underlying23 (hval 0 23 v0 rfl rfl)
  obtain ⟨x0, g0, u0⟩ : ∃ x : (tVar : TC).D, Rep False (fun _ => False) W tVar c0.toList x ∧ wfD (tVar : TC) x := by
    obtain ⟨m, hm⟩ := h0
    exact opn_Variant.2 (by simpa [Value.cells] using hm)
  have k1 := h1
  have lt1 : ∀ x ∈ p1, x.block < W.heap.size := by obtain ⟨m, hm⟩ := k1; exact DataW.trod_lt m _ _ _ hm
  obtain ⟨a1, rfl, rfl, rfl, w1⟩ := open_int Try.underlying2 (hval 1 2 v1 rfl rfl) h1
  obtain ⟨x1, g1, u1⟩ : ∃ x : (tI : TC).D, Rep False (fun _ => False) W tI [.int .i64 a1] x ∧ wfD (tI : TC) x := by
    obtain ⟨m, hm⟩ := k1
    exact opn_int64.2 (by simpa [Value.cells] using hm)
  have k2 := h2
  have lt2 : ∀ x ∈ p2, x.block < W.heap.size := by obtain ⟨m, hm⟩ := k2; exact DataW.trod_lt m _ _ _ hm
  obtain ⟨a2, rfl, rfl, rfl, w2⟩ := open_int Try.underlying2 (hval 2 2 v2 rfl rfl) h2
  obtain ⟨x2, g2, u2⟩ : ∃ x : (tI : TC).D, Rep False (fun _ => False) W tI [.int .i64 a2] x ∧ wfD (tI : TC) x := by
    obtain ⟨m, hm⟩ := k2
    exact opn_int64.2 (by simpa [Value.cells] using hm)
  clear hA0 hval0
  refine (law_run (W := W) trivial (k_laws_FnExactSelfPlay (B := ⟨W, trivial⟩)) (args := [.agg c0, .int .i64 a1, .int .i64 a2]) (x := (x0, x1, x2, ())) ⟨_, _, [], [], rfl, rfl, by simp, ⟨c0.toList, .inl ⟨rfl, by simp⟩, rfl, g0.nil⟩, ⟨_, _, [], [], rfl, rfl, by simp, ⟨[.int .i64 a1], .inr ⟨rfl, rfl⟩, rfl, g1.nil⟩, ⟨_, _, [], [], rfl, rfl, by simp, ⟨[.int .i64 a2], .inr ⟨rfl, rfl⟩, rfl, g2.nil⟩, ⟨rfl, rfl⟩⟩⟩⟩ ⟨u0, u1, u2⟩).mono fun e W' ⟨he, bel⟩ => ?_
  subst he
  exact ⟨_, rfl, _, _, _, [], _, [], hW', trodAll_mk1 (shut_bool Try.underlying4 _), (trodAll_cons_mk (Below.trod laidOut (by kernel_rfl) (of_decide_eq_true (by kernel_rfl)) k0 bel lt0) (trodAll_cons_mk (Below.trod laidOut (by kernel_rfl) (of_decide_eq_true (by kernel_rfl)) k1 bel lt1) (trodAll_cons_mk (Below.trod laidOut (by kernel_rfl) (of_decide_eq_true (by kernel_rfl)) k2 bel lt2) trodAll_mk0))), rfl, bel.frame _, fun h => by cases h⟩

end Go.Proofs.Ytgbfcjnkohhfoaa.fnExactSelfPlay
