/-
  The law FnExactRollText.
-/
import Derived.Test.YtfmdjcdaflennaaDoorVText
import Derived.Test.YtfmdjcdaflennaaDoorVLaw
import Derived.Test.YtfmdjcdaflennaaDoorAbL
import Derived.Test.YtfmdjcdaflennaaDoorAbW
namespace Go.Proofs.YtfmdjcdaflennaaDoor
open Go.RowKit
set_option linter.unusedSimpArgs false
set_option linter.unusedVariables false
def rollD (v : DVar) (r : DRoll) : Bool := varD v && inB r.1 1 v.2.2.2 && inB r.2 1 r.1
theorem rollD_in {v : DVar} {r : DRoll} (h : rollD v r = true) : (1 ≤ r.1 ∧ r.1 ≤ 6) ∧ 1 ≤ r.2 ∧ r.2 ≤ 6 := by
  simp only [rollD, Bool.and_eq_true, inB, decide_eq_true_eq] at h
  have := (varD_iff.1 h.1.1).2.2.2
  omega
def rollS (v : DVar) (r : DRoll) : ByteArray := if rollD v r = true then decS r.1 ++ decS r.2 else ⟨#[]⟩
def c_impl_IsRoll : Con where
  ins := [(true, .v tVar), (true, .v tRoll)]
  outs := [(false, .v .b)]
  sh := false
  pre := fun _ => True
  out := fun x => (rollD x.1 x.2.1, ())
  upd := fun x => x
theorem k_impl_IsRoll [B : Base] : ConOk Tryd.prog 25 c_impl_IsRoll := by
  refine fn_ok (C := cx Tryd.prog 21 c_impl_IsRoll) (cs := [(14, c_impl_IsVariant), (23, c_impl_within)]) (res := Tryd.f25.results.toList) (fun _ => ⟨[], [], []⟩) Tryd.func25 (by kernel_rfl) rfl rfl rfl tysOk.look eqTsOk.look (AllCs.ok (l := [(14, c_impl_IsVariant), (23, c_impl_within)]) ⟨k_impl_IsVariant, k_impl_within, trivial⟩) mixed rfl rfl rfl ?_
  refine of_nf (P := ∀ vPoints : Int, ∀ vCheckers : Int, ∀ vHome : Int, ∀ vSides : Int, ∀ rA : Int, ∀ rB : Int, (True) → ((lensI c_impl_IsRoll.ins ((vPoints, vCheckers, vHome, vSides), (rA, rB), ())) → (True ∧ (bsp (varD (vPoints, vCheckers, vHome, vSides)) (True ∧ (bsp (inB rA (1 : Int) vSides) (True ∧ (@Eq (HO c_impl_IsRoll.outs) (inB rB (1 : Int) rA, ()) (c_impl_IsRoll.out ((vPoints, vCheckers, vHome, vSides), (rA, rB), ())))) (@Eq (HO c_impl_IsRoll.outs) (false, ()) (c_impl_IsRoll.out ((vPoints, vCheckers, vHome, vSides), (rA, rB), ()))))) (@Eq (HO c_impl_IsRoll.outs) (false, ()) (c_impl_IsRoll.out ((vPoints, vCheckers, vHome, vSides), (rA, rB), ()))))))) (by kernel_rfl) ?_
  rintro vPoints vCheckers vHome vSides rA rB hpre hl
  repeat' first | refine ⟨trivial, ?_⟩ | refine bspB (fun _ => ?_) (fun _ => ?_) | refine bspD (fun _ => ?_) (fun _ => ?_)
  all_goals simp_all [c_impl_IsRoll, rollD]
def c_spec_IsRoll : Con where
  ins := [(true, .v tVar), (true, .v tRoll)]
  outs := [(false, .v .b)]
  sh := false
  pre := fun _ => True
  out := fun x => (rollD x.1 x.2.1, ())
  upd := fun x => x
theorem k_spec_IsRoll [B : Base] : ConOk Tryd.prog 20 c_spec_IsRoll := by
  refine fn_ok (C := cx Tryd.prog 21 c_spec_IsRoll) (cs := [(11, c_spec_IsVariant), (19, c_spec_l01In)]) (res := Tryd.f20.results.toList) (fun _ => ⟨[], [], []⟩) Tryd.func20 (by kernel_rfl) rfl rfl rfl tysOk.look eqTsOk.look (AllCs.ok (l := [(11, c_spec_IsVariant), (19, c_spec_l01In)]) ⟨k_spec_IsVariant, k_spec_l01In, trivial⟩) mixed rfl rfl rfl ?_
  refine of_nf (P := ∀ vPoints : Int, ∀ vCheckers : Int, ∀ vHome : Int, ∀ vSides : Int, ∀ rA : Int, ∀ rB : Int, (True) → ((lensI c_spec_IsRoll.ins ((vPoints, vCheckers, vHome, vSides), (rA, rB), ())) → (True ∧ (bsp (varD (vPoints, vCheckers, vHome, vSides)) (True ∧ (bsp (inB rA (1 : Int) vSides) (True ∧ (@Eq (HO c_spec_IsRoll.outs) (inB rB (1 : Int) rA, ()) (c_spec_IsRoll.out ((vPoints, vCheckers, vHome, vSides), (rA, rB), ())))) (@Eq (HO c_spec_IsRoll.outs) (false, ()) (c_spec_IsRoll.out ((vPoints, vCheckers, vHome, vSides), (rA, rB), ()))))) (@Eq (HO c_spec_IsRoll.outs) (false, ()) (c_spec_IsRoll.out ((vPoints, vCheckers, vHome, vSides), (rA, rB), ()))))))) (by kernel_rfl) ?_
  rintro vPoints vCheckers vHome vSides rA rB hpre hl
  repeat' first | refine ⟨trivial, ?_⟩ | refine bspB (fun _ => ?_) (fun _ => ?_) | refine bspD (fun _ => ?_) (fun _ => ?_)
  all_goals simp_all [c_spec_IsRoll, rollD]
end Go.Proofs.YtfmdjcdaflennaaDoor
