/-
  The law FnExactPlayOfText returns true for every input; its arguments read afterwards as before. No condition beyond the given statement's own.
-/
import Derived.Test.YtifkmkhapabpkaaGreatDoorRows
import Derived.Test.YtifkmkhapabpkaaGreatDoorVPoT
import Derived.Test.YtifkmkhapabpkaaGreatDoorAbL
import Derived.ProofKit
import Derived.OpenShut
import Derived.ChangeOld
import Derived.Lib.SmallJoins
import Derived.LaidMore
import Derived.Stop.Joined
import Derived.Test.YtifkmkhapabpkaaGreatDoorHand
namespace Go.Proofs.YtifkmkhapabpkaaGreatDoor.fnExactPlayOfText
open Go.ChangeShapes Go.WideShapes Go.ChangeAt Go.RowKit Go.Joins
set_option linter.unusedVariables false

theorem own : ownKnob Tryz.prog.godebug = none := by kernel_rfl
theorem laidOut : laidOutB Tryz.prog = true := by kernel_rfl
/-- the heap in which the listed variables are laid meets the condition -/
theorem door_met (os : Os) (args : Array Value) : laidMetH Tryz.prog Rows.fnExactPlayOfTextRow.laid ((World.laidAll Tryz.prog os Rows.fnExactPlayOfTextRow.laid).forCall (fun _ _ => 0) ⟨#[], args, []⟩).memory :=
  laidMetH_of (by kernel_rfl) (laidMet_laidAll _ (by kernel_rfl) (by kernel_rfl))
set_option maxRecDepth 100000 in
theorem lifted (os : Os) (started : os.Started) (H : Type) (enc : TypeId × Value → H) :
    ReturnsInHanded {} Tryz.checked os 3 .any (fun w args => (Rows.fnExactPlayOfTextSpec.pre enc Tryz.prog Tryz.f3 [] false w args ∧ laidMetH Tryz.prog Rows.fnExactPlayOfTextRow.laid w) ∧ sizedMet enc Tryz.prog Tryz.f3 (OpenSpec.ofChange Rows.fnExactPlayOfTextSpec) false w args)
      (Rows.fnExactPlayOfTextSpec.post enc Tryz.prog Tryz.f3 false true false false) := by
  refine returnsIn_and_shaped (C := Tryz.checked) (X := fun w _ => laidMetH Tryz.prog Rows.fnExactPlayOfTextRow.laid w) (fun _ _ _ hh h => h.of_heap hh) own started (by kernel_rfl) Tryz.func3
    (ChangeSpec.witness_shaped (enc := enc) (C := Tryz.checked) (os := os) (X := fun w _ => laidMetH Tryz.prog Rows.fnExactPlayOfTextRow.laid w) false (World.laidAll Tryz.prog os Rows.fnExactPlayOfTextRow.laid) #[.agg #[.int .i64 0, .int .i64 0, .int .i64 0, .int .i64 0], .agg #[.slice none 0 0, .slice none 0 0], .agg #[.int .i64 0, .int .i64 0], .string ByteArray.empty] 8 (World.laidAll_os _ _ _) (World.shaped_of_ZipB (by kernel_rfl) (by kernel_rfl)) (by kernel_rfl) (by kernel_rfl) (by kernel_rfl) (door_met os _)) ?_
  intro W base args ds gs before hval0 hW hSh hL
  have hval : ∀ (j : Nat) t v, Tryz.f3.params[j]? = some t → args[j]? = some v → Value.okWide Tryz.prog W .any base t v := hval0
  have hW' := hW
  obtain ⟨p, q, hA0, hV, rfl, hfz, hnd⟩ := hW
  have hA : DataW.TrodAll enc Tryz.prog W 0 (fun _ => true) true Tryz.f3.params.toList args.toList ds p := hA0
  rw [Tryz.params3] at hA hval
  obtain ⟨v0, vs0, d0, ds0, p0, q0, hargs, rfl, rfl, h0, r0⟩ := trodAll_cons hA
  obtain ⟨v1, vs1, d1, ds1, p1, q1, rfl, rfl, rfl, h1, r1⟩ := trodAll_cons r0
  obtain ⟨v2, vs2, d2, ds2, p2, q2, rfl, rfl, rfl, h2, r2⟩ := trodAll_cons r1
  obtain ⟨v3, vs3, d3, ds3, p3, q3, rfl, rfl, rfl, h3, r3⟩ := trodAll_cons r2
  obtain ⟨rfl, rfl, rfl⟩ := trodAll_nil r3
  obtain rfl : args = #[v0, v1, v2, v3] := by cases args; simp_all
  obtain ⟨rfl, rfl⟩ := trodVars_none hV
  have k0 := h0
  have lt0 : ∀ x ∈ p0, x.block < W.heap.size := by obtain ⟨m, hm⟩ := k0; exact DataW.trod_lt m _ _ _ hm
  obtain ⟨c0, rfl, _⟩ := okWide_struct Tryz.underlying23 (hval 0 23 v0 rfl rfl)
  obtain ⟨x0, g0, u0⟩ : ∃ x : (tVar : TC).D, Rep (fun _ => False) W tVar c0.toList x ∧ wfD (tVar : TC) x := by
    obtain ⟨m, hm⟩ := h0
    exact opn_Variant.2 (by simpa [Value.cells] using hm)
  have k1 := h1
  have lt1 : ∀ x ∈ p1, x.block < W.heap.size := by obtain ⟨m, hm⟩ := k1; exact DataW.trod_lt m _ _ _ hm
  obtain ⟨c1, rfl, _⟩ := okWide_struct Tryz.underlying26 (hval 1 26 v1 rfl rfl)
  obtain ⟨x1, g1, u1⟩ : ∃ x : (tBoard : TC).D, Rep (fun _ => False) W tBoard c1.toList x ∧ wfD (tBoard : TC) x := by
    obtain ⟨m, hm⟩ := h1
    exact opn_Board.2 (by simpa [Value.cells] using hm)
  have k2 := h2
  have lt2 : ∀ x ∈ p2, x.block < W.heap.size := by obtain ⟨m, hm⟩ := k2; exact DataW.trod_lt m _ _ _ hm
  obtain ⟨c2, rfl, _⟩ := okWide_struct Tryz.underlying28 (hval 2 28 v2 rfl rfl)
  obtain ⟨x2, g2, u2⟩ : ∃ x : (tRoll : TC).D, Rep (fun _ => False) W tRoll c2.toList x ∧ wfD (tRoll : TC) x := by
    obtain ⟨m, hm⟩ := h2
    exact opn_Roll.2 (by simpa [Value.cells] using hm)
  have k3 := h3
  have lt3 : ∀ x ∈ p3, x.block < W.heap.size := by obtain ⟨m, hm⟩ := k3; exact DataW.trod_lt m _ _ _ hm
  obtain ⟨a3, rfl⟩ := okWide_string Tryz.underlying9 (hval 3 9 v3 rfl rfl)
  obtain ⟨x3, g3, u3⟩ : ∃ x : (.s : TC).D, Rep (fun _ => False) W .s [.string a3] x ∧ wfD (.s : TC) x := by
    obtain ⟨m, hm⟩ := k3
    exact opn_string.2 (by simpa [Value.cells] using hm)
  clear hA0 hval0
  refine (law_run (W := W) ⟨hL, hSh⟩ (k_laws_FnExactPlayOfText (B := ⟨W, ⟨hL, hSh⟩⟩)) (args := [.agg c0, .agg c1, .agg c2, .string a3]) (x := (x0, x1, x2, x3, ())) ⟨_, _, [], [], rfl, rfl, by simp, ⟨c0.toList, .inl ⟨rfl, by simp⟩, rfl, g0.nil⟩, ⟨_, _, [], [], rfl, rfl, by simp, ⟨c1.toList, .inl ⟨rfl, by simp⟩, rfl, g1.nil⟩, ⟨_, _, [], [], rfl, rfl, by simp, ⟨c2.toList, .inl ⟨rfl, by simp⟩, rfl, g2.nil⟩, ⟨_, _, [], [], rfl, rfl, by simp, ⟨[.string a3], .inr ⟨rfl, rfl⟩, rfl, g3.nil⟩, ⟨rfl, rfl⟩⟩⟩⟩⟩ ⟨u0, u1, u2, u3⟩).mono fun e W' ⟨he, bel⟩ => ?_
  subst he
  exact ⟨_, rfl, _, _, _, [], _, [], hW', trodAll_mk1 (shut_bool Tryz.underlying4 _), (trodAll_cons_mk (Below.trod laidOut (by kernel_rfl) (of_decide_eq_true (by kernel_rfl)) k0 bel lt0) (trodAll_cons_mk (Below.trod laidOut (by kernel_rfl) (of_decide_eq_true (by kernel_rfl)) k1 bel lt1) (trodAll_cons_mk (Below.trod laidOut (by kernel_rfl) (of_decide_eq_true (by kernel_rfl)) k2 bel lt2) (trodAll_cons_mk (Below.trod laidOut (by kernel_rfl) (of_decide_eq_true (by kernel_rfl)) k3 bel lt3) trodAll_mk0)))), rfl, bel.frame _, fun h => by cases h⟩

end Go.Proofs.YtifkmkhapabpkaaGreatDoor.fnExactPlayOfText
