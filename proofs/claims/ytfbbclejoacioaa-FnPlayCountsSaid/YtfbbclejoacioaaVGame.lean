/-
  Contracts: rolls, first boards, games.
-/
import Derived.Test.YtfbbclejoacioaaVLaw
namespace Go.Proofs.Ytfbbclejoacioaa
open Go.RowKit
set_option linter.unusedSimpArgs false
set_option linter.unusedVariables false
def rollD (v : DVar) (r : DRoll) : Bool := varD v && inB r.1 1 v.2.2.2 && inB r.2 1 r.1
def startD (v : DVar) : List Int :=
  if v = (24, 15, 6, 6) then [0, 0, 0, 0, 0, 5, 0, 3, 0, 0, 0, 0, 5, 0, 0, 0, 0, 0, 0, 0, 0, 0, 0, 2, 0]
  else ((List.replicate (v.1 + 1).toNat (0 : Int)).set (v.1 - 1).toNat (Int.tdiv v.2.1 2)).set (Int.tdiv v.1 2 - 1).toNat (v.2.1 - Int.tdiv v.2.1 2)
def bigD (v : DVar) : Bool := varD v && decide (4 ≤ v.1)
def gameD (v : DVar) (g : DGame) : Bool :=
  bigD v && boardD v g.1 && inB g.2.1 0 1 && inB g.2.2.2.2.2.2 0 2000 &&
  (if g.2.2.2.1 = 2 then rollD v g.2.2.1 else decide (g.2.2.1 = (0, 0))) &&
  (if g.2.2.2.1 = 0 then decide (g.2.1 = 0) && decide (g.2.2.2.2.2.2 = 0) && decide (g.2.2.2.2.1 = 0) && decide (g.2.2.2.2.2.1 = 0) && sameD g.1 (startD v, startD v)
   else if g.2.2.2.1 = 1 ∨ g.2.2.2.1 = 2 then !overD g.1 && decide (g.2.2.2.2.1 = 0) && decide (g.2.2.2.2.2.1 = 0)
   else if g.2.2.2.1 = 3 then (if overD g.1 then decide (g.1.1.sum = 0) && decide (g.2.2.2.2.1 = g.2.1) && decide (g.2.2.2.2.2.1 = resD v g.1) else decide (g.2.2.2.2.1 = 1 - g.2.1) && inB g.2.2.2.2.2.1 1 3)
   else false)
theorem startD_length {v : DVar} (h : 4 ≤ v.1) : (startD v).length = (v.1 + 1).toNat := by
  unfold startD
  split
  · next e => subst e; rfl
  · simp
theorem tdiv2 {n : Int} (h : 0 ≤ n) : Int.tdiv n 2 = n / 2 := Int.tdiv_eq_ediv_of_nonneg h
theorem startD_ne {v : DVar} (h : 4 ≤ v.1) (h2 : v.1 ≤ 24) : NeL (startD v) := by
  have := startD_length h
  refine ⟨fun e => ?_, by omega⟩
  rw [e] at this
  simp at this; omega
theorem boardD_len {v : DVar} {b : DBoard} (h : boardD v b = true) : b.1.length = (v.1 + 1).toNat ∧ b.2.length = (v.1 + 1).toNat ∧ 2 ≤ v.1 ∧ v.1 ≤ 24 := by
  simp only [boardD, sideD, Bool.and_eq_true, decide_eq_true_eq] at h
  obtain ⟨h0, h1, h2, _⟩ := h
  have := (varD_iff.1 h0).1
  omega
theorem boardD_ne {v : DVar} {b : DBoard} (h : boardD v b = true) : NeB b := by
  obtain ⟨h1, h2, h3, h4⟩ := boardD_len h
  exact ⟨⟨fun e => by simp [e] at h1; omega, by omega⟩, fun e => by simp [e] at h2; omega, by omega⟩
def c_impl_IsRoll : Con where
  ins := [(true, .v tVar), (true, .v tRoll)]
  outs := [(false, .v .b)]
  sh := false
  pre := fun _ => True
  out := fun x => (rollD x.1 x.2.1, ())
  upd := fun x => x
theorem k_impl_IsRoll : ConOk Try.prog 28 c_impl_IsRoll := by
  refine fn_ok (C := cx Try.prog 21 c_impl_IsRoll) (cs := [(23, c_impl_IsVariant), (45, c_impl_within)]) (res := Try.f28.results.toList) (fun _ => ⟨[], [], []⟩) Try.func28 (by kernel_rfl) rfl rfl rfl tysOk.look eqTsOk.look (AllCs.ok (l := [(23, c_impl_IsVariant), (45, c_impl_within)]) ⟨k_impl_IsVariant, k_impl_within, trivial⟩) mixed rfl rfl rfl ?_
  refine of_nf (P := ∀ vPoints : Int, ∀ vCheckers : Int, ∀ vHome : Int, ∀ vSides : Int, ∀ rA : Int, ∀ rB : Int, (True) → ((lensI c_impl_IsRoll.ins ((vPoints, vCheckers, vHome, vSides), (rA, rB), ())) → (True ∧ (bsp (varD (vPoints, vCheckers, vHome, vSides)) (True ∧ (bsp (inB rA (1 : Int) vSides) (True ∧ (@Eq (HO c_impl_IsRoll.outs) (inB rB (1 : Int) rA, ()) (c_impl_IsRoll.out ((vPoints, vCheckers, vHome, vSides), (rA, rB), ())))) (@Eq (HO c_impl_IsRoll.outs) (false, ()) (c_impl_IsRoll.out ((vPoints, vCheckers, vHome, vSides), (rA, rB), ()))))) (@Eq (HO c_impl_IsRoll.outs) (false, ()) (c_impl_IsRoll.out ((vPoints, vCheckers, vHome, vSides), (rA, rB), ()))))))) (by kernel_rfl) ?_
  rintro vPoints vCheckers vHome vSides rA rB hpre hl
  repeat' first | refine ⟨trivial, ?_⟩ | refine bspB (fun _ => ?_) (fun _ => ?_) | refine bspD (fun _ => ?_) (fun _ => ?_)
  all_goals simp_all [c_impl_IsRoll, rollD]
def c_spec_FullVariant : Con where
  ins := []
  outs := [(true, .v tVar)]
  sh := false
  pre := fun _ => True
  out := fun _ => ((24, 15, 6, 6), ())
  upd := fun x => x
theorem k_spec_FullVariant : ConOk Try.prog 50 c_spec_FullVariant := by
  refine fn_ok (C := cx Try.prog 2 c_spec_FullVariant) (cs := []) (res := Try.f50.results.toList) (fun _ => ⟨[], [], []⟩) Try.func50 (by kernel_rfl) rfl rfl rfl tysOk.look eqTsOk.look (AllCs.ok (l := []) trivial) mixed rfl rfl rfl ?_
  refine of_nf (P := (True) → ((lensI c_spec_FullVariant.ins (())) → (@Eq (HO c_spec_FullVariant.outs) ((24, 15, 6, 6), ()) (c_spec_FullVariant.out (()))))) (by kernel_rfl) ?_
  intro _ hl
  rfl
def c_spec_l02Empty : Con where
  ins := [(true, .v tVar)]
  outs := [(false, .own 2 tI)]
  sh := false
  pre := fun x => 2 ≤ x.1.1 ∧ x.1.1 ≤ 24
  out := fun x => (List.replicate (Int.toNat (x.1.1 + 1)) (0 : Int), ())
  upd := fun x => x
theorem k_spec_l02Empty : ConOk Try.prog 30 c_spec_l02Empty := by
  refine fn_ok (C := cx Try.prog 7 c_spec_l02Empty) (cs := []) (res := Try.f30.results.toList) (fun _ => ⟨[], [], []⟩) Try.func30 (by kernel_rfl) rfl rfl rfl tysOk.look eqTsOk.look (AllCs.ok (l := []) trivial) mixed rfl rfl rfl ?_
  refine of_nf (P := ∀ vPoints : Int, ∀ vCheckers : Int, ∀ vHome : Int, ∀ vSides : Int, (2 ≤ (vPoints, vCheckers, vHome, vSides).1 ∧ (vPoints, vCheckers, vHome, vSides).1 ≤ 24) → ((lensI c_spec_l02Empty.ins ((vPoints, vCheckers, vHome, vSides), ())) → ((inK .i64 (vPoints + 1)) ∧ ((0 ≤ (vPoints + 1) ∧ (vPoints + 1) ≤ (vPoints + 1) ∧ (vPoints + 1) ≤ 1099511627776) ∧ (@Eq (HO c_spec_l02Empty.outs) ((List.replicate (vPoints + 1).toNat (0 : Int)), ()) (c_spec_l02Empty.out ((vPoints, vCheckers, vHome, vSides), ()))))))) (by kernel_rfl) ?_
  rintro vPoints vCheckers vHome vSides ⟨h1, h2⟩ hl
  dsimp only at h1 h2
  exact ⟨by simp only [inK]; omega, by omega, rfl⟩
def c_spec_l02Start : Con where
  ins := [(true, .v tVar)]
  outs := [(false, .own 2 tI)]
  sh := false
  pre := fun x => bigD x.1 = true
  out := fun x => (startD x.1, ())
  upd := fun x => x
theorem k_spec_l02Start : ConOk Try.prog 51 c_spec_l02Start := by
  refine fn_ok (C := cx Try.prog 39 c_spec_l02Start) (cs := [(30, c_spec_l02Empty), (50, c_spec_FullVariant)]) (res := Try.f51.results.toList) (fun _ => ⟨[], [(2, ⟨[[], [], [0, 1]], [[1], [0], []], []⟩)], []⟩) Try.func51 (by kernel_rfl) rfl rfl rfl tysOk.look eqTsOk.look (AllCs.ok (l := [(30, c_spec_l02Empty), (50, c_spec_FullVariant)]) ⟨k_spec_l02Empty, k_spec_FullVariant, trivial⟩) mixed rfl rfl rfl ?_
  refine of_nf (P := ∀ vPoints : Int, ∀ vCheckers : Int, ∀ vHome : Int, ∀ vSides : Int, (bigD (vPoints, vCheckers, vHome, vSides) = true) → ((lensI c_spec_l02Start.ins ((vPoints, vCheckers, vHome, vSides), ())) → ((2 ≤ (vPoints, vCheckers, vHome, vSides).1 ∧ (vPoints, vCheckers, vHome, vSides).1 ≤ 24) ∧ (True ∧ (bsp (decide (vPoints = (24, 15, 6, 6).1) && (decide (vCheckers = (24, 15, 6, 6).2.1) && (decide (vHome = (24, 15, 6, 6).2.2.1) && (decide (vSides = (24, 15, 6, 6).2.2.2) && (true))))) ((0 ≤ (5 : Int) ∧ 5 < ((List.replicate (Int.toNat ((vPoints, vCheckers, vHome, vSides).1 + 1)) (0 : Int)).length : Int)) ∧ ((5 < (List.replicate (Int.toNat ((vPoints, vCheckers, vHome, vSides).1 + 1)) (0 : Int)).length) ∧ ((0 ≤ (7 : Int) ∧ 7 < (((List.replicate (Int.toNat ((vPoints, vCheckers, vHome, vSides).1 + 1)) (0 : Int)).set 5 5).length : Int)) ∧ ((7 < ((List.replicate (Int.toNat ((vPoints, vCheckers, vHome, vSides).1 + 1)) (0 : Int)).set 5 5).length) ∧ ((0 ≤ (12 : Int) ∧ 12 < ((((List.replicate (Int.toNat ((vPoints, vCheckers, vHome, vSides).1 + 1)) (0 : Int)).set 5 5).set 7 3).length : Int)) ∧ ((12 < (((List.replicate (Int.toNat ((vPoints, vCheckers, vHome, vSides).1 + 1)) (0 : Int)).set 5 5).set 7 3).length) ∧ ((0 ≤ (23 : Int) ∧ 23 < (((((List.replicate (Int.toNat ((vPoints, vCheckers, vHome, vSides).1 + 1)) (0 : Int)).set 5 5).set 7 3).set 12 5).length : Int)) ∧ ((23 < ((((List.replicate (Int.toNat ((vPoints, vCheckers, vHome, vSides).1 + 1)) (0 : Int)).set 5 5).set 7 3).set 12 5).length) ∧ (@Eq (HO c_spec_l02Start.outs) ((((((List.replicate (Int.toNat ((vPoints, vCheckers, vHome, vSides).1 + 1)) (0 : Int)).set 5 5).set 7 3).set 12 5).set 23 2), ()) (c_spec_l02Start.out ((vPoints, vCheckers, vHome, vSides), ()))))))))))) ((inK .i64 (vPoints - 1)) ∧ (((2 : Int) ≠ 0) ∧ ((inK .i64 (Int.tdiv vCheckers 2)) ∧ ((0 ≤ (vPoints - 1) ∧ (vPoints - 1) < ((List.replicate (Int.toNat ((vPoints, vCheckers, vHome, vSides).1 + 1)) (0 : Int)).length : Int)) ∧ (((vPoints - 1).toNat < (List.replicate (Int.toNat ((vPoints, vCheckers, vHome, vSides).1 + 1)) (0 : Int)).length) ∧ (((2 : Int) ≠ 0) ∧ ((inK .i64 (Int.tdiv vPoints 2)) ∧ ((inK .i64 ((Int.tdiv vPoints 2) - 1)) ∧ (((2 : Int) ≠ 0) ∧ ((inK .i64 (Int.tdiv vCheckers 2)) ∧ ((inK .i64 (vCheckers - (Int.tdiv vCheckers 2))) ∧ ((0 ≤ ((Int.tdiv vPoints 2) - 1) ∧ ((Int.tdiv vPoints 2) - 1) < (((List.replicate (Int.toNat ((vPoints, vCheckers, vHome, vSides).1 + 1)) (0 : Int)).set (vPoints - 1).toNat (Int.tdiv vCheckers 2)).length : Int)) ∧ ((((Int.tdiv vPoints 2) - 1).toNat < ((List.replicate (Int.toNat ((vPoints, vCheckers, vHome, vSides).1 + 1)) (0 : Int)).set (vPoints - 1).toNat (Int.tdiv vCheckers 2)).length) ∧ (@Eq (HO c_spec_l02Start.outs) ((((List.replicate (Int.toNat ((vPoints, vCheckers, vHome, vSides).1 + 1)) (0 : Int)).set (vPoints - 1).toNat (Int.tdiv vCheckers 2)).set ((Int.tdiv vPoints 2) - 1).toNat (vCheckers - (Int.tdiv vCheckers 2))), ()) (c_spec_l02Start.out ((vPoints, vCheckers, vHome, vSides), ()))))))))))))))))))))) (by kernel_rfl) ?_
  rintro vPoints vCheckers vHome vSides hpre hl
  simp only [bigD, Bool.and_eq_true, decide_eq_true_eq] at hpre
  obtain ⟨hv, h4⟩ := hpre
  obtain ⟨⟨v1, v2⟩, ⟨v3, v4⟩, ⟨v5, v6⟩, _⟩ := varD_iff.1 hv
  dsimp only at v1 v2 v3 v4 v5 v6 h4 ⊢
  rw [tdiv2 (by omega), tdiv2 (by omega)]
  refine ⟨by omega, trivial, bspB (fun h => ?_) (fun h => ?_)⟩
  · simp only [Bool.and_eq_true, decide_eq_true_eq, and_true] at h
    obtain ⟨rfl, rfl, rfl, rfl⟩ := h
    exact ⟨by decide, by decide, by decide, by decide, by decide, by decide, by decide, by decide, rfl⟩
  · have hn : ¬ (vPoints, vCheckers, vHome, vSides) = ((24, 15, 6, 6) : DVar) := fun e => by simp only [Prod.mk.injEq] at e; obtain ⟨rfl, rfl, rfl, rfl⟩ := e; simp at h
    simp only [List.length_set, List.length_replicate, inK]
    refine ⟨by omega, by omega, by omega, by omega, by omega, by omega, by omega, by omega, by omega, by omega, by omega, by omega, by omega, ?_⟩
    simp only [c_spec_l02Start, startD, if_neg hn]
    rw [tdiv2 (by omega), tdiv2 (by omega)]
theorem boardD_bd {v : DVar} {b : DBoard} (h : boardD v b = true) : varD v = true ∧ Bd b.1 ∧ Bd b.2 := by
  simp only [boardD, Bool.and_eq_true] at h
  exact ⟨h.1, (sideD_bd h.1 h.2.1).1, (sideD_bd h.1 h.2.2.1).1⟩
end Go.Proofs.Ytfbbclejoacioaa
