/-
  The law FnExactRollText.
-/
import Derived.Test.YtbpmhkbnhdkhgaaDoorVText
import Derived.Test.YtbpmhkbnhdkhgaaDoorVLaw
import Derived.Test.YtbpmhkbnhdkhgaaDoorAbL
import Derived.Test.YtbpmhkbnhdkhgaaDoorAbW
namespace Go.Proofs.YtbpmhkbnhdkhgaaDoor
open Go.RowKit
set_option linter.unusedSimpArgs false
set_option linter.unusedVariables false
def rollD (v : DVar) (r : DRoll) : Bool := varD v && inB r.1 1 v.2.2.2 && inB r.2 1 r.1
theorem rollD_in {v : DVar} {r : DRoll} (h : rollD v r = true) : (1 ≤ r.1 ∧ r.1 ≤ 6) ∧ 1 ≤ r.2 ∧ r.2 ≤ 6 := by
  simp only [rollD, Bool.and_eq_true, inB, decide_eq_true_eq] at h
  have := (varD_iff.1 h.1.1).2.2.2
  omega
def rollS (v : DVar) (r : DRoll) : ByteArray := if rollD v r = true then decS r.1 ++ decS r.2 else ⟨#[]⟩
def c_impl_IsRoll : Con where
  ins := [(true, .v tVar), (true, .v tRoll)]
  outs := [(false, .v .b)]
  sh := false
  pre := fun _ => True
  out := fun x => (rollD x.1 x.2.1, ())
  upd := fun x => x
theorem k_impl_IsRoll [B : Base] : ConOk Tryd.prog 15 c_impl_IsRoll := by
  refine fn_ok (C := cx Tryd.prog 21 c_impl_IsRoll) (cs := [(23, c_impl_IsVariant), (27, c_impl_within)]) (res := Tryd.f15.results.toList) (fun _ => ⟨[], [], []⟩) Tryd.func15 (by kernel_rfl) rfl rfl rfl tysOk.look eqTsOk.look (AllCs.ok (l := [(23, c_impl_IsVariant), (27, c_impl_within)]) ⟨k_impl_IsVariant, k_impl_within, trivial⟩) mixed rfl rfl rfl ?_
  refine of_nf (P := ∀ vPoints : Int, ∀ vCheckers : Int, ∀ vHome : Int, ∀ vSides : Int, ∀ rA : Int, ∀ rB : Int, (True) → ((lensI c_impl_IsRoll.ins ((vPoints, vCheckers, vHome, vSides), (rA, rB), ())) → (True ∧ (bsp (varD (vPoints, vCheckers, vHome, vSides)) (True ∧ (bsp (inB rA (1 : Int) vSides) (True ∧ (@Eq (HO c_impl_IsRoll.outs) (inB rB (1 : Int) rA, ()) (c_impl_IsRoll.out ((vPoints, vCheckers, vHome, vSides), (rA, rB), ())))) (@Eq (HO c_impl_IsRoll.outs) (false, ()) (c_impl_IsRoll.out ((vPoints, vCheckers, vHome, vSides), (rA, rB), ()))))) (@Eq (HO c_impl_IsRoll.outs) (false, ()) (c_impl_IsRoll.out ((vPoints, vCheckers, vHome, vSides), (rA, rB), ()))))))) (by kernel_rfl) ?_
  rintro vPoints vCheckers vHome vSides rA rB hpre hl
  repeat' first | refine ⟨trivial, ?_⟩ | refine bspB (fun _ => ?_) (fun _ => ?_) | refine bspD (fun _ => ?_) (fun _ => ?_)
  all_goals simp_all [c_impl_IsRoll, rollD]
def c_spec_IsRoll : Con where
  ins := [(true, .v tVar), (true, .v tRoll)]
  outs := [(false, .v .b)]
  sh := false
  pre := fun _ => True
  out := fun x => (rollD x.1 x.2.1, ())
  upd := fun x => x
theorem k_spec_IsRoll [B : Base] : ConOk Tryd.prog 18 c_spec_IsRoll := by
  refine fn_ok (C := cx Tryd.prog 21 c_spec_IsRoll) (cs := [(20, c_spec_IsVariant), (29, c_spec_l01In)]) (res := Tryd.f18.results.toList) (fun _ => ⟨[], [], []⟩) Tryd.func18 (by kernel_rfl) rfl rfl rfl tysOk.look eqTsOk.look (AllCs.ok (l := [(20, c_spec_IsVariant), (29, c_spec_l01In)]) ⟨k_spec_IsVariant, k_spec_l01In, trivial⟩) mixed rfl rfl rfl ?_
  refine of_nf (P := ∀ vPoints : Int, ∀ vCheckers : Int, ∀ vHome : Int, ∀ vSides : Int, ∀ rA : Int, ∀ rB : Int, (True) → ((lensI c_spec_IsRoll.ins ((vPoints, vCheckers, vHome, vSides), (rA, rB), ())) → (True ∧ (bsp (varD (vPoints, vCheckers, vHome, vSides)) (True ∧ (bsp (inB rA (1 : Int) vSides) (True ∧ (@Eq (HO c_spec_IsRoll.outs) (inB rB (1 : Int) rA, ()) (c_spec_IsRoll.out ((vPoints, vCheckers, vHome, vSides), (rA, rB), ())))) (@Eq (HO c_spec_IsRoll.outs) (false, ()) (c_spec_IsRoll.out ((vPoints, vCheckers, vHome, vSides), (rA, rB), ()))))) (@Eq (HO c_spec_IsRoll.outs) (false, ()) (c_spec_IsRoll.out ((vPoints, vCheckers, vHome, vSides), (rA, rB), ()))))))) (by kernel_rfl) ?_
  rintro vPoints vCheckers vHome vSides rA rB hpre hl
  repeat' first | refine ⟨trivial, ?_⟩ | refine bspB (fun _ => ?_) (fun _ => ?_) | refine bspD (fun _ => ?_) (fun _ => ?_)
  all_goals simp_all [c_spec_IsRoll, rollD]
def c_impl_RollText : Con where
  ins := [(true, .v tVar), (true, .v tRoll)]
  outs := [(false, .v .s)]
  sh := false
  pre := fun _ => True
  out := fun x => (rollS x.1 x.2.1, ())
  upd := fun x => x
theorem k_impl_RollText [B : Base] : ConOk Tryd.prog 16 c_impl_RollText := by
  refine fn_okW (C := cx Tryd.prog 16 c_impl_RollText) (cs := [(15, c_impl_IsRoll), (28, c_impl_decimal)]) (res := Tryd.f16.results.toList) (fun _ => ⟨[], [(3, ⟨[[], [0], [0, 1], [], [3], [0, 1, 2, 3, 4], [0, 1, 2, 3, 4, 5], [0, 1, 2, 3, 4, 5, 6]], [[3, 4], [3, 4], [3, 4], [0, 1, 2], [0, 1, 2], [], [], []], []⟩)], []⟩) Tryd.func16 (by kernel_rfl) rfl rfl rfl tysOk.look eqTsOk.look (AllCs.ok (l := [(15, c_impl_IsRoll), (28, c_impl_decimal)]) ⟨k_impl_IsRoll, k_impl_decimal, trivial⟩) mixed rfl rfl rfl ?_
  refine of_nf (P := ∀ v : Int × Int × Int × Int, ∀ r : Int × Int, (True) → ((lensI c_impl_RollText.ins (v, r, ())) → (True ∧ (bsp (!(rollD v r)) (@Eq (HO c_impl_RollText.outs) ((ByteArray.mk #[]), ()) (c_impl_RollText.out (v, r, ()))) ((inK .i64 r.1) ∧ ((inK .i64 r.2) ∧ ((ByteArray.size (decS r.1) + ByteArray.size (decS r.2) ≤ 9223372036854775807) ∧ (@Eq (HO c_impl_RollText.outs) ((decS r.1 ++ decS r.2), ()) (c_impl_RollText.out (v, r, ())))))))))) (by kernel_rfl) ?_
  rintro v r hp hl
  refine ⟨trivial, bspB (fun h => ?_) (fun h => ?_)⟩
  · have : rollD v r = false := by simpa using h
    simp [c_impl_RollText, rollS, this]
  · have h' : rollD v r = true := by simpa using h
    have hr := rollD_in h'
    have s1 := decS_size (n := r.1) (by simp only [inK]; omega)
    have s2 := decS_size (n := r.2) (by simp only [inK]; omega)
    exact ⟨by simp only [inK]; omega, by simp only [inK]; omega, by omega, by simp [c_impl_RollText, rollS, h']⟩
def c_spec_RollText : Con where
  ins := [(true, .v tVar), (true, .v tRoll)]
  outs := [(false, .v .s)]
  sh := false
  pre := fun _ => True
  out := fun x => (rollS x.1 x.2.1, ())
  upd := fun x => x
theorem k_spec_RollText [B : Base] : ConOk Tryd.prog 11 c_spec_RollText := by
  refine fn_okW (C := cx Tryd.prog 16 c_spec_RollText) (cs := [(18, c_spec_IsRoll), (19, c_spec_l01Number)]) (res := Tryd.f11.results.toList) (fun _ => ⟨[], [(3, ⟨[[], [0], [0, 1], [], [3], [0, 1, 2, 3, 4], [0, 1, 2, 3, 4, 5], [0, 1, 2, 3, 4, 5, 6]], [[3, 4], [3, 4], [3, 4], [0, 1, 2], [0, 1, 2], [], [], []], []⟩)], []⟩) Tryd.func11 (by kernel_rfl) rfl rfl rfl tysOk.look eqTsOk.look (AllCs.ok (l := [(18, c_spec_IsRoll), (19, c_spec_l01Number)]) ⟨k_spec_IsRoll, k_spec_l01Number, trivial⟩) mixed rfl rfl rfl ?_
  refine of_nf (P := ∀ v : Int × Int × Int × Int, ∀ r : Int × Int, (True) → ((lensI c_spec_RollText.ins (v, r, ())) → (True ∧ (bsp (!(rollD v r)) (@Eq (HO c_spec_RollText.outs) ((ByteArray.mk #[]), ()) (c_spec_RollText.out (v, r, ()))) ((0 ≤ r.1 ∧ r.1 ≤ 99) ∧ ((0 ≤ r.2 ∧ r.2 ≤ 99) ∧ ((ByteArray.size (decS r.1) + ByteArray.size (decS r.2) ≤ 9223372036854775807) ∧ (@Eq (HO c_spec_RollText.outs) ((decS r.1 ++ decS r.2), ()) (c_spec_RollText.out (v, r, ())))))))))) (by kernel_rfl) ?_
  rintro v r hp hl
  refine ⟨trivial, bspB (fun h => ?_) (fun h => ?_)⟩
  · have : rollD v r = false := by simpa using h
    simp [c_spec_RollText, rollS, this]
  · have h' : rollD v r = true := by simpa using h
    have hr := rollD_in h'
    have s1 := decS_size (n := r.1) (by simp only [inK]; omega)
    have s2 := decS_size (n := r.2) (by simp only [inK]; omega)
    exact ⟨by omega, by omega, by omega, by simp [c_spec_RollText, rollS, h']⟩
end Go.Proofs.YtbpmhkbnhdkhgaaDoor
