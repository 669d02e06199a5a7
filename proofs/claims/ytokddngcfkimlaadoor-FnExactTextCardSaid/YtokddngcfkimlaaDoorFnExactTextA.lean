/-
  The law FnExactText returns true for every input; its arguments read afterwards as before. No condition beyond the given statement's own.
-/
import Derived.Test.YtokddngcfkimlaaDoorRows
import Derived.Test.YtokddngcfkimlaaDoorVMillL
import Derived.Test.YtokddngcfkimlaaDoorAbL
import Derived.ProofKit
import Derived.OpenShut
import Derived.ChangeOld
import Derived.Lib.SmallJoins
import Derived.LaidMore
import Derived.Stop.Joined
import Derived.Test.YtokddngcfkimlaaDoorHand
namespace Go.Proofs.YtokddngcfkimlaaDoor.fnExactText
open Go.ChangeShapes Go.WideShapes Go.ChangeAt Go.RowKit Go.Joins
set_option linter.unusedVariables false

theorem own : ownKnob Tryd.prog.godebug = none := by kernel_rfl
theorem laidOut : laidOutB Tryd.prog = true := by kernel_rfl
/-- the heap in which the listed variables are laid meets the condition -/
theorem door_met (os : Os) (args : Array Value) : laidMetH Tryd.prog Rows.fnExactTextRow.laid ((World.laidAll Tryd.prog os Rows.fnExactTextRow.laid).forCall (fun _ _ => 0) ⟨#[], args, []⟩).memory :=
  laidMetH_of (by kernel_rfl) (laidMet_laidAll _ (by kernel_rfl) (by kernel_rfl))
set_option maxRecDepth 100000 in
theorem lifted (os : Os) (started : os.Started) (H : Type) (enc : TypeId × Value → H) :
    ReturnsInHanded {} Tryd.checked os 3 .any (fun w args => (Rows.fnExactTextSpec.pre enc Tryd.prog Tryd.f3 [] false w args ∧ laidMetH Tryd.prog Rows.fnExactTextRow.laid w) ∧ sizedMet enc Tryd.prog Tryd.f3 (OpenSpec.ofChange Rows.fnExactTextSpec) false w args)
      (Rows.fnExactTextSpec.post enc Tryd.prog Tryd.f3 false true false false) := by
  refine returnsIn_and_shaped (C := Tryd.checked) (X := fun w _ => laidMetH Tryd.prog Rows.fnExactTextRow.laid w) (fun _ _ _ hh h => h.of_heap hh) own started (by kernel_rfl) Tryd.func3
    (ChangeSpec.witness_shaped (enc := enc) (C := Tryd.checked) (os := os) (X := fun w _ => laidMetH Tryd.prog Rows.fnExactTextRow.laid w) false (World.laidAll Tryd.prog os Rows.fnExactTextRow.laid) #[.slice none 0 0] 8 (World.laidAll_os _ _ _) (World.shaped_of_ZipB (by kernel_rfl) (by kernel_rfl)) (by kernel_rfl) (by kernel_rfl) (by kernel_rfl) (door_met os _)) ?_
  intro W base args ds gs before hval0 hW hSh hL
  have hval : ∀ (j : Nat) t v, Tryd.f3.params[j]? = some t → args[j]? = some v → Value.okWide Tryd.prog W .any base t v := hval0
  have hW' := hW
  obtain ⟨p, q, hA0, hV, rfl, hfz, hnd⟩ := hW
  have hA : DataW.TrodAll enc Tryd.prog W 0 (fun _ => true) true Tryd.f3.params.toList args.toList ds p := hA0
  rw [Tryd.params3] at hA hval
  obtain ⟨v0, vs0, d0, ds0, p0, q0, hargs, rfl, rfl, h0, r0⟩ := trodAll_cons hA
  obtain ⟨rfl, rfl, rfl⟩ := trodAll_nil r0
  obtain rfl : args = #[v0] := by cases args; simp_all
  obtain ⟨rfl, rfl⟩ := trodVars_none hV
  have k0 := h0
  have lt0 : ∀ x ∈ p0, x.block < W.heap.size := by obtain ⟨m, hm⟩ := k0; exact DataW.trod_lt m _ _ _ hm
  obtain ⟨a0, len0, cap0, rfl⟩ := okWide_slice Tryd.underlying22 (hval 0 22 v0 rfl rfl)
  obtain ⟨x0, g0, u0⟩ : ∃ x : ((.sl (.i .u8)) : TC).D, Rep (fun _ => False) W (.sl (.i .u8)) [.slice a0 len0 cap0] x ∧ wfD ((.sl (.i .u8)) : TC) x := by
    obtain ⟨m, hm⟩ := k0
    exact opn_s_uint8.2 (by simpa [Value.cells] using hm)
  clear hA0 hval0
  refine (law_run (W := W) ⟨hL, hSh⟩ (k_laws_FnExactText (B := ⟨W, ⟨hL, hSh⟩⟩)) (args := [.slice a0 len0 cap0]) (x := (x0, ())) ⟨_, _, [], [], rfl, rfl, by simp, ⟨[.slice a0 len0 cap0], .inr ⟨rfl, rfl⟩, rfl, g0.nil⟩, ⟨rfl, rfl⟩⟩ u0).mono fun e W' ⟨he, bel⟩ => ?_
  subst he
  exact ⟨_, rfl, _, _, _, [], _, [], hW', trodAll_mk1 (shut_bool Tryd.underlying4 _), (trodAll_cons_mk (Below.trod laidOut (by kernel_rfl) (of_decide_eq_true (by kernel_rfl)) k0 bel lt0) trodAll_mk0), rfl, bel.frame _, fun h => by cases h⟩

end Go.Proofs.YtokddngcfkimlaaDoor.fnExactText
