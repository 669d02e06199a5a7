/-
  The law FnExactAllPlays returns true for every input; its arguments read afterwards as before. No condition beyond the given statement's own.
-/
import Derived.Test.YtgbfcjnkohhfoaaRows
import Derived.Test.YtgbfcjnkohhfoaaApZ
import Derived.Test.YtgbfcjnkohhfoaaAbL
import Derived.ProofKit
import Derived.OpenShut
import Derived.ChangeOld
import Derived.Lib.SmallJoins
namespace Go.Proofs.Ytgbfcjnkohhfoaa.fnExactAllPlays
open Go.ChangeShapes Go.WideShapes Go.ChangeAt Go.RowKit Go.Joins
set_option linter.unusedVariables false

theorem own : ownKnob Try.prog.godebug = none := by kernel_rfl
theorem laidOut : laidOutB Try.prog = true := by kernel_rfl
set_option maxRecDepth 100000 in
theorem lifted (os : Os) (started : os.Started) (H : Type) (enc : TypeId × Value → H) :
    ReturnsInHanded {} Try.checked os 3 .any (Rows.fnExactAllPlaysSpec.pre6 enc Try.prog Try.f3 Rows.fnExactAllPlaysRow.domain false) (Rows.fnExactAllPlaysSpec.post enc Try.prog Try.f3 false true false false) := by
  refine returnsInHanded_of_change (C := Try.checked) own started (by kernel_rfl) Try.func3
    (ChangeSpec.witness6 (enc := enc) (C := Try.checked) false ⟨#[], #[.agg #[.int .i64 0, .int .i64 0, .int .i64 0, .int .i64 0], .agg #[.slice none 0 0, .slice none 0 0], .agg #[.int .i64 0, .int .i64 0]], []⟩ 8 (by kernel_rfl) (by kernel_rfl) (by kernel_rfl) (by kernel_rfl)) ?_
  intro W base args ds gs before hval0 hW hcnd _
  have hval : ∀ (j : Nat) t v, Try.f3.params[j]? = some t → args[j]? = some v → Value.okWide Try.prog W .any base t v := hval0
  have hW' := hW
  obtain ⟨p, q, hA0, hV, rfl, hfz, hnd⟩ := hW
  have hA : DataW.TrodAll enc Try.prog W 0 (fun _ => true) true Try.f3.params.toList args.toList ds p := hA0
  rw [Try.params3] at hA hval
  obtain ⟨v0, vs0, d0, ds0, p0, q0, hargs, rfl, rfl, h0, r0⟩ := trodAll_cons hA
  obtain ⟨v1, vs1, d1, ds1, p1, q1, rfl, rfl, rfl, h1, r1⟩ := trodAll_cons r0
  obtain ⟨v2, vs2, d2, ds2, p2, q2, rfl, rfl, rfl, h2, r2⟩ := trodAll_cons r1
  obtain ⟨rfl, rfl, rfl⟩ := trodAll_nil r2
  obtain rfl : args = #[v0, v1, v2] := by cases args; simp_all
  obtain ⟨rfl, rfl⟩ := trodVars_none hV
  have k0 := h0
  have lt0 : ∀ x ∈ p0, x.block < W.heap.size := by obtain ⟨m, hm⟩ := k0; exact DataW.trod_lt m _ _ _ hm
  obtain ⟨c0, rfl, _⟩ := okWide_struct Try.underlying23 (hval 0 23 v0 rfl rfl)
  obtain ⟨x0, g0, u0⟩ : ∃ x : (tVar : TC).D, Rep False (fun _ => False) W tVar c0.toList x ∧ wfD (tVar : TC) x := by
    obtain ⟨m, hm⟩ := h0
    exact opn_Variant.2 (by simpa [Value.cells] using hm)
  have k1 := h1
  have lt1 : ∀ x ∈ p1, x.block < W.heap.size := by obtain ⟨m, hm⟩ := k1; exact DataW.trod_lt m _ _ _ hm
  obtain ⟨c1, rfl, _⟩ := okWide_struct Try.underlying26 (hval 1 26 v1 rfl rfl)
  obtain ⟨x1, g1, u1⟩ : ∃ x : (tBoard : TC).D, Rep False (fun _ => False) W tBoard c1.toList x ∧ wfD (tBoard : TC) x := by
    obtain ⟨m, hm⟩ := h1
    exact opn_Board.2 (by simpa [Value.cells] using hm)
  have k2 := h2
  have lt2 : ∀ x ∈ p2, x.block < W.heap.size := by obtain ⟨m, hm⟩ := k2; exact DataW.trod_lt m _ _ _ hm
  obtain ⟨c2, rfl, _⟩ := okWide_struct Try.underlying28 (hval 2 28 v2 rfl rfl)
  obtain ⟨x2, g2, u2⟩ : ∃ x : (tRoll : TC).D, Rep False (fun _ => False) W tRoll c2.toList x ∧ wfD (tRoll : TC) x := by
    obtain ⟨m, hm⟩ := h2
    exact opn_Roll.2 (by simpa [Value.cells] using hm)
  clear hA0 hval0
  refine (law_run (W := W) trivial (k_laws_FnExactAllPlays (B := ⟨W, trivial⟩)) (args := [.agg c0, .agg c1, .agg c2]) (x := (x0, x1, x2, ())) ⟨_, _, [], [], rfl, rfl, by simp, ⟨c0.toList, .inl ⟨rfl, by simp⟩, rfl, g0.nil⟩, ⟨_, _, [], [], rfl, rfl, by simp, ⟨c1.toList, .inl ⟨rfl, by simp⟩, rfl, g1.nil⟩, ⟨_, _, [], [], rfl, rfl, by simp, ⟨c2.toList, .inl ⟨rfl, by simp⟩, rfl, g2.nil⟩, ⟨rfl, rfl⟩⟩⟩⟩ ⟨u0, u1, u2⟩).mono fun e W' ⟨he, bel⟩ => ?_
  subst he
  exact ⟨_, rfl, _, _, _, [], _, [], hW', trodAll_mk1 (shut_bool Try.underlying4 _), (trodAll_cons_mk (Below.trod laidOut (by kernel_rfl) (of_decide_eq_true (by kernel_rfl)) k0 bel lt0) (trodAll_cons_mk (Below.trod laidOut (by kernel_rfl) (of_decide_eq_true (by kernel_rfl)) k1 bel lt1) (trodAll_cons_mk (Below.trod laidOut (by kernel_rfl) (of_decide_eq_true (by kernel_rfl)) k2 bel lt2) trodAll_mk0))), rfl, bel.frame _, fun h => by cases h⟩

end Go.Proofs.Ytgbfcjnkohhfoaa.fnExactAllPlays
