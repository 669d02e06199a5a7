/-
  Contracts: rolls, first boards, games.
-/
import Derived.Test.YtoobijimfccfgaaVLaw
namespace Go.Proofs.Ytoobijimfccfgaa
open Go.RowKit
set_option linter.unusedSimpArgs false
set_option linter.unusedVariables false
def rollD (v : DVar) (r : DRoll) : Bool := varD v && inB r.1 1 v.2.2.2 && inB r.2 1 r.1
def startD (v : DVar) : List Int :=
  if v = (24, 15, 6, 6) then [0, 0, 0, 0, 0, 5, 0, 3, 0, 0, 0, 0, 5, 0, 0, 0, 0, 0, 0, 0, 0, 0, 0, 2, 0]
  else ((List.replicate (v.1 + 1).toNat (0 : Int)).set (v.1 - 1).toNat (Int.tdiv v.2.1 2)).set (Int.tdiv v.1 2 - 1).toNat (v.2.1 - Int.tdiv v.2.1 2)
def bigD (v : DVar) : Bool := varD v && decide (4 ≤ v.1)
def gameD (v : DVar) (g : DGame) : Bool :=
  bigD v && boardD v g.1 && inB g.2.1 0 1 && inB g.2.2.2.2.2.2 0 2000 &&
  (if g.2.2.2.1 = 2 then rollD v g.2.2.1 else decide (g.2.2.1 = (0, 0))) &&
  (if g.2.2.2.1 = 0 then decide (g.2.1 = 0) && decide (g.2.2.2.2.2.2 = 0) && decide (g.2.2.2.2.1 = 0) && decide (g.2.2.2.2.2.1 = 0) && sameD g.1 (startD v, startD v)
   else if g.2.2.2.1 = 1 ∨ g.2.2.2.1 = 2 then !overD g.1 && decide (g.2.2.2.2.1 = 0) && decide (g.2.2.2.2.2.1 = 0)
   else if g.2.2.2.1 = 3 then (if overD g.1 then decide (g.1.1.sum = 0) && decide (g.2.2.2.2.1 = g.2.1) && decide (g.2.2.2.2.2.1 = resD v g.1) else decide (g.2.2.2.2.1 = 1 - g.2.1) && inB g.2.2.2.2.2.1 1 3)
   else false)
theorem startD_length {v : DVar} (h : 4 ≤ v.1) : (startD v).length = (v.1 + 1).toNat := by
  unfold startD
  split
  · next e => subst e; rfl
  · simp
theorem tdiv2 {n : Int} (h : 0 ≤ n) : Int.tdiv n 2 = n / 2 := Int.tdiv_eq_ediv_of_nonneg h
theorem startD_ne {v : DVar} (h : 4 ≤ v.1) (h2 : v.1 ≤ 24) : NeL (startD v) := by
  have := startD_length h
  refine ⟨fun e => ?_, by omega⟩
  rw [e] at this
  simp at this; omega
theorem boardD_len {v : DVar} {b : DBoard} (h : boardD v b = true) : b.1.length = (v.1 + 1).toNat ∧ b.2.length = (v.1 + 1).toNat ∧ 2 ≤ v.1 ∧ v.1 ≤ 24 := by
  simp only [boardD, sideD, Bool.and_eq_true, decide_eq_true_eq] at h
  obtain ⟨h0, h1, h2, _⟩ := h
  have := (varD_iff.1 h0).1
  omega
theorem boardD_ne {v : DVar} {b : DBoard} (h : boardD v b = true) : NeB b := by
  obtain ⟨h1, h2, h3, h4⟩ := boardD_len h
  exact ⟨⟨fun e => by simp [e] at h1; omega, by omega⟩, fun e => by simp [e] at h2; omega, by omega⟩
def c_impl_IsRoll : Con where
  ins := [(true, .v tVar), (true, .v tRoll)]
  outs := [(false, .v .b)]
  sh := false
  pre := fun _ => True
  out := fun x => (rollD x.1 x.2.1, ())
  upd := fun x => x
  eat := false
theorem k_impl_IsRoll [B : Base] : ConOk Try.prog 76 c_impl_IsRoll := by
  refine fn_ok (C := cx Try.prog 21 c_impl_IsRoll) (cs := [(27, c_impl_IsVariant), (43, c_impl_within)]) (res := Try.f76.results.toList) (fun _ => ⟨[], [], []⟩) Try.func76 (by kernel_rfl) rfl rfl rfl tysOk.look eqTsOk.look (AllCs.ok (l := [(27, c_impl_IsVariant), (43, c_impl_within)]) ⟨k_impl_IsVariant, k_impl_within, trivial⟩) mixed rfl rfl rfl rfl ?_
  refine of_nf (P := ∀ vPoints : Int, ∀ vCheckers : Int, ∀ vHome : Int, ∀ vSides : Int, ∀ rA : Int, ∀ rB : Int, (True) → ((lensI c_impl_IsRoll.ins ((vPoints, vCheckers, vHome, vSides), (rA, rB), ())) → (True ∧ (bsp (varD (vPoints, vCheckers, vHome, vSides)) (True ∧ (bsp (inB rA (1 : Int) vSides) (True ∧ (@Eq (HO c_impl_IsRoll.outs) (inB rB (1 : Int) rA, ()) (c_impl_IsRoll.out ((vPoints, vCheckers, vHome, vSides), (rA, rB), ())))) (@Eq (HO c_impl_IsRoll.outs) (false, ()) (c_impl_IsRoll.out ((vPoints, vCheckers, vHome, vSides), (rA, rB), ()))))) (@Eq (HO c_impl_IsRoll.outs) (false, ()) (c_impl_IsRoll.out ((vPoints, vCheckers, vHome, vSides), (rA, rB), ()))))))) (by kernel_rfl) ?_
  rintro vPoints vCheckers vHome vSides rA rB hpre hl
  repeat' first | refine ⟨trivial, ?_⟩ | refine bspB (fun _ => ?_) (fun _ => ?_) | refine bspD (fun _ => ?_) (fun _ => ?_)
  all_goals simp_all [c_impl_IsRoll, rollD]
theorem boardD_bd {v : DVar} {b : DBoard} (h : boardD v b = true) : varD v = true ∧ Bd b.1 ∧ Bd b.2 := by
  simp only [boardD, Bool.and_eq_true] at h
  exact ⟨h.1, (sideD_bd h.1 h.2.1).1, (sideD_bd h.1 h.2.2.1).1⟩
end Go.Proofs.Ytoobijimfccfgaa
