/-
  The law FnTurns returns true for every input; its arguments read afterwards as before. No condition beyond the given statement's own.
-/
import Derived.Test.YtlnagcdnnaffgaaRows
import Derived.Test.YtlnagcdnnaffgaaVTurnsL
import Derived.Test.YtlnagcdnnaffgaaAbL
import Derived.ProofKit
import Derived.OpenShut
import Derived.ChangeOld
import Derived.Lib.SmallJoins
namespace Go.Proofs.Ytlnagcdnnaffgaa.fnTurns
open Go.ChangeShapes Go.WideShapes Go.ChangeAt Go.RowKit Go.Joins
set_option linter.unusedVariables false

theorem own : ownKnob Try.prog.godebug = none := by kernel_rfl
theorem laidOut : laidOutB Try.prog = true := by kernel_rfl
set_option maxRecDepth 100000 in
theorem lifted (os : Os) (started : os.Started) (H : Type) (enc : TypeId × Value → H) :
    ReturnsInHanded {} Try.checked os 4 .any (Rows.fnTurnsSpec.pre6 enc Try.prog Try.f4 Rows.fnTurnsRow.domain false) (Rows.fnTurnsSpec.post enc Try.prog Try.f4 false true false false) := by
  refine returnsInHanded_of_change (C := Try.checked) own started (by kernel_rfl) Try.func4
    (ChangeSpec.witness6 (enc := enc) (C := Try.checked) false ⟨#[], #[.slice none 0 0], []⟩ 8 (by kernel_rfl) (by kernel_rfl) (by kernel_rfl) (by kernel_rfl)) ?_
  intro W base args ds gs before hval0 hW hcnd _
  have hval : ∀ (j : Nat) t v, Try.f4.params[j]? = some t → args[j]? = some v → Value.okWide Try.prog W .any base t v := hval0
  have hW' := hW
  obtain ⟨p, q, hA0, hV, rfl, hfz, hnd⟩ := hW
  have hA : DataW.TrodAll enc Try.prog W 0 (fun _ => true) true Try.f4.params.toList args.toList ds p := hA0
  rw [Try.params4] at hA hval
  obtain ⟨v0, vs0, d0, ds0, p0, q0, hargs, rfl, rfl, h0, r0⟩ := trodAll_cons hA
  obtain ⟨rfl, rfl, rfl⟩ := trodAll_nil r0
  obtain rfl : args = #[v0] := by cases args; simp_all
  obtain ⟨rfl, rfl⟩ := trodVars_none hV
  have k0 := h0
  have lt0 : ∀ x ∈ p0, x.block < W.heap.size := by obtain ⟨m, hm⟩ := k0; exact DataW.trod_lt m _ _ _ hm
  obtain ⟨a0, len0, cap0, rfl⟩ := okWide_slice Try.underlying22 (hval 0 22 v0 rfl rfl)
  obtain ⟨x0, g0, u0⟩ : ∃ x : ((.sl (.i .u8)) : TC).D, Rep False (fun _ => False) W (.sl (.i .u8)) [.slice a0 len0 cap0] x ∧ wfD ((.sl (.i .u8)) : TC) x := by
    obtain ⟨m, hm⟩ := k0
    exact opn_s_uint8.2 (by simpa [Value.cells] using hm)
  clear hA0 hval0
  refine (law_run (W := W) trivial (k_laws_FnTurns (B := ⟨W, trivial⟩)) (args := [.slice a0 len0 cap0]) (x := (x0, ())) ⟨_, _, [], [], rfl, rfl, by simp, ⟨[.slice a0 len0 cap0], .inr ⟨rfl, rfl⟩, rfl, g0.nil⟩, ⟨rfl, rfl⟩⟩ u0).mono fun e W' ⟨he, bel⟩ => ?_
  subst he
  exact ⟨_, rfl, _, _, _, [], _, [], hW', trodAll_mk1 (shut_bool Try.underlying4 _), (trodAll_cons_mk (Below.trod laidOut (by kernel_rfl) (of_decide_eq_true (by kernel_rfl)) k0 bel lt0) trodAll_mk0), rfl, bel.frame _, fun h => by cases h⟩

end Go.Proofs.Ytlnagcdnnaffgaa.fnTurns
