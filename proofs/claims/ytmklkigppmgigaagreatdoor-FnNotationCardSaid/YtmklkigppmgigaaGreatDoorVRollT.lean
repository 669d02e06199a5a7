/-
  The law FnExactRollText.
-/
import Derived.Test.YtmklkigppmgigaaGreatDoorVText
import Derived.Test.YtmklkigppmgigaaGreatDoorVGame
import Derived.Test.YtmklkigppmgigaaGreatDoorAbL
import Derived.Test.YtmklkigppmgigaaGreatDoorAbW
namespace Go.Proofs.YtmklkigppmgigaaGreatDoor
open Go.RowKit
set_option linter.unusedSimpArgs false
set_option linter.unusedVariables false
theorem rollD_in {v : DVar} {r : DRoll} (h : rollD v r = true) : (1 ≤ r.1 ∧ r.1 ≤ 6) ∧ 1 ≤ r.2 ∧ r.2 ≤ 6 := by
  simp only [rollD, Bool.and_eq_true, inB, decide_eq_true_eq] at h
  have := (varD_iff.1 h.1.1).2.2.2
  omega
def rollS (v : DVar) (r : DRoll) : ByteArray := if rollD v r = true then decS r.1 ++ decS r.2 else ⟨#[]⟩
def c_impl_RollText : Con where
  ins := [(true, .v tVar), (true, .v tRoll)]
  outs := [(false, .v .s)]
  sh := false
  pre := fun _ => True
  out := fun x => (rollS x.1 x.2.1, ())
  upd := fun x => x
theorem k_impl_RollText [B : Base] : ConOk Tryz.prog 19 c_impl_RollText := by
  refine fn_okW (C := cx Tryz.prog 16 c_impl_RollText) (cs := [(18, c_impl_IsRoll), (36, c_impl_decimal)]) (res := Tryz.f19.results.toList) (fun _ => ⟨[], [(3, ⟨[[], [0], [0, 1], [], [3], [0, 1, 2, 3, 4], [0, 1, 2, 3, 4, 5], [0, 1, 2, 3, 4, 5, 6]], [[3, 4], [3, 4], [3, 4], [0, 1, 2], [0, 1, 2], [], [], []], []⟩)], []⟩) Tryz.func19 (by kernel_rfl) rfl rfl rfl tysOk.look eqTsOk.look (AllCs.ok (l := [(18, c_impl_IsRoll), (36, c_impl_decimal)]) ⟨k_impl_IsRoll, k_impl_decimal, trivial⟩) mixed rfl rfl rfl ?_
  refine of_nf (P := ∀ v : Int × Int × Int × Int, ∀ r : Int × Int, (True) → ((lensI c_impl_RollText.ins (v, r, ())) → (True ∧ (bsp (!(rollD v r)) (@Eq (HO c_impl_RollText.outs) ((ByteArray.mk #[]), ()) (c_impl_RollText.out (v, r, ()))) ((inK .i64 r.1) ∧ ((inK .i64 r.2) ∧ ((ByteArray.size (decS r.1) + ByteArray.size (decS r.2) ≤ 9223372036854775807) ∧ (@Eq (HO c_impl_RollText.outs) ((decS r.1 ++ decS r.2), ()) (c_impl_RollText.out (v, r, ())))))))))) (by kernel_rfl) ?_
  rintro v r hp hl
  refine ⟨trivial, bspB (fun h => ?_) (fun h => ?_)⟩
  · have : rollD v r = false := by simpa using h
    simp [c_impl_RollText, rollS, this]
  · have h' : rollD v r = true := by simpa using h
    have hr := rollD_in h'
    have s1 := decS_size (n := r.1) (by simp only [inK]; omega)
    have s2 := decS_size (n := r.2) (by simp only [inK]; omega)
    exact ⟨by simp only [inK]; omega, by simp only [inK]; omega, by omega, by simp [c_impl_RollText, rollS, h']⟩
def c_spec_RollText : Con where
  ins := [(true, .v tVar), (true, .v tRoll)]
  outs := [(false, .v .s)]
  sh := false
  pre := fun _ => True
  out := fun x => (rollS x.1 x.2.1, ())
  upd := fun x => x
theorem k_spec_RollText [B : Base] : ConOk Tryz.prog 20 c_spec_RollText := by
  refine fn_okW (C := cx Tryz.prog 16 c_spec_RollText) (cs := [(37, c_spec_IsRoll), (38, c_spec_l01Number)]) (res := Tryz.f20.results.toList) (fun _ => ⟨[], [(3, ⟨[[], [0], [0, 1], [], [3], [0, 1, 2, 3, 4], [0, 1, 2, 3, 4, 5], [0, 1, 2, 3, 4, 5, 6]], [[3, 4], [3, 4], [3, 4], [0, 1, 2], [0, 1, 2], [], [], []], []⟩)], []⟩) Tryz.func20 (by kernel_rfl) rfl rfl rfl tysOk.look eqTsOk.look (AllCs.ok (l := [(37, c_spec_IsRoll), (38, c_spec_l01Number)]) ⟨k_spec_IsRoll, k_spec_l01Number, trivial⟩) mixed rfl rfl rfl ?_
  refine of_nf (P := ∀ v : Int × Int × Int × Int, ∀ r : Int × Int, (True) → ((lensI c_spec_RollText.ins (v, r, ())) → (True ∧ (bsp (!(rollD v r)) (@Eq (HO c_spec_RollText.outs) ((ByteArray.mk #[]), ()) (c_spec_RollText.out (v, r, ()))) ((0 ≤ r.1 ∧ r.1 ≤ 99) ∧ ((0 ≤ r.2 ∧ r.2 ≤ 99) ∧ ((ByteArray.size (decS r.1) + ByteArray.size (decS r.2) ≤ 9223372036854775807) ∧ (@Eq (HO c_spec_RollText.outs) ((decS r.1 ++ decS r.2), ()) (c_spec_RollText.out (v, r, ())))))))))) (by kernel_rfl) ?_
  rintro v r hp hl
  refine ⟨trivial, bspB (fun h => ?_) (fun h => ?_)⟩
  · have : rollD v r = false := by simpa using h
    simp [c_spec_RollText, rollS, this]
  · have h' : rollD v r = true := by simpa using h
    have hr := rollD_in h'
    have s1 := decS_size (n := r.1) (by simp only [inK]; omega)
    have s2 := decS_size (n := r.2) (by simp only [inK]; omega)
    exact ⟨by omega, by omega, by omega, by simp [c_spec_RollText, rollS, h']⟩
end Go.Proofs.YtmklkigppmgigaaGreatDoor
