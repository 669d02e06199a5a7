/-
  Contracts: rolls, first boards, games.
-/
import Derived.Test.YtgbfcjnkohhfoaaVLaw
namespace Go.Proofs.Ytgbfcjnkohhfoaa
open Go.RowKit
set_option linter.unusedSimpArgs false
set_option linter.unusedVariables false
def rollD (v : DVar) (r : DRoll) : Bool := varD v && inB r.1 1 v.2.2.2 && inB r.2 1 r.1
def startD (v : DVar) : List Int :=
  if v = (24, 15, 6, 6) then [0, 0, 0, 0, 0, 5, 0, 3, 0, 0, 0, 0, 5, 0, 0, 0, 0, 0, 0, 0, 0, 0, 0, 2, 0]
  else ((List.replicate (v.1 + 1).toNat (0 : Int)).set (v.1 - 1).toNat (Int.tdiv v.2.1 2)).set (Int.tdiv v.1 2 - 1).toNat (v.2.1 - Int.tdiv v.2.1 2)
def bigD (v : DVar) : Bool := varD v && decide (4 ≤ v.1)
def gameD (v : DVar) (g : DGame) : Bool :=
  bigD v && boardD v g.1 && inB g.2.1 0 1 && inB g.2.2.2.2.2.2 0 2000 &&
  (if g.2.2.2.1 = 2 then rollD v g.2.2.1 else decide (g.2.2.1 = (0, 0))) &&
  (if g.2.2.2.1 = 0 then decide (g.2.1 = 0) && decide (g.2.2.2.2.2.2 = 0) && decide (g.2.2.2.2.1 = 0) && decide (g.2.2.2.2.2.1 = 0) && sameD g.1 (startD v, startD v)
   else if g.2.2.2.1 = 1 ∨ g.2.2.2.1 = 2 then !overD g.1 && decide (g.2.2.2.2.1 = 0) && decide (g.2.2.2.2.2.1 = 0)
   else if g.2.2.2.1 = 3 then (if overD g.1 then decide (g.1.1.sum = 0) && decide (g.2.2.2.2.1 = g.2.1) && decide (g.2.2.2.2.2.1 = resD v g.1) else decide (g.2.2.2.2.1 = 1 - g.2.1) && inB g.2.2.2.2.2.1 1 3)
   else false)
theorem startD_length {v : DVar} (h : 4 ≤ v.1) : (startD v).length = (v.1 + 1).toNat := by
  unfold startD
  split
  · next e => subst e; rfl
  · simp
theorem tdiv2 {n : Int} (h : 0 ≤ n) : Int.tdiv n 2 = n / 2 := Int.tdiv_eq_ediv_of_nonneg h
theorem startD_ne {v : DVar} (h : 4 ≤ v.1) (h2 : v.1 ≤ 24) : NeL (startD v) := by
  have := startD_length h
  refine ⟨fun e => ?_, by omega⟩
  rw [e] at this
  simp at this; omega
theorem boardD_len {v : DVar} {b : DBoard} (h : boardD v b = true) : b.1.length = (v.1 + 1).toNat ∧ b.2.length = (v.1 + 1).toNat ∧ 2 ≤ v.1 ∧ v.1 ≤ 24 := by
  simp only [boardD, sideD, Bool.and_eq_true, decide_eq_true_eq] at h
  obtain ⟨h0, h1, h2, _⟩ := h
  have := (varD_iff.1 h0).1
  omega
theorem boardD_ne {v : DVar} {b : DBoard} (h : boardD v b = true) : NeB b := by
  obtain ⟨h1, h2, h3, h4⟩ := boardD_len h
  exact ⟨⟨fun e => by simp [e] at h1; omega, by omega⟩, fun e => by simp [e] at h2; omega, by omega⟩
def c_impl_IsRoll : Con where
  ins := [(true, .v tVar), (true, .v tRoll)]
  outs := [(false, .v .b)]
  sh := false
  pre := fun _ => True
  out := fun x => (rollD x.1 x.2.1, ())
  upd := fun x => x
  eat := false
theorem k_impl_IsRoll [B : Base] : ConOk Try.prog 54 c_impl_IsRoll := by
  refine fn_ok (C := cx Try.prog 21 c_impl_IsRoll) (cs := [(69, c_impl_IsVariant), (41, c_impl_within)]) (res := Try.f54.results.toList) (fun _ => ⟨[], [], []⟩) Try.func54 (by kernel_rfl) rfl rfl rfl tysOk.look eqTsOk.look (AllCs.ok (l := [(69, c_impl_IsVariant), (41, c_impl_within)]) ⟨k_impl_IsVariant, k_impl_within, trivial⟩) mixed rfl rfl rfl rfl ?_
  refine of_nf (P := ∀ vPoints : Int, ∀ vCheckers : Int, ∀ vHome : Int, ∀ vSides : Int, ∀ rA : Int, ∀ rB : Int, (True) → ((lensI c_impl_IsRoll.ins ((vPoints, vCheckers, vHome, vSides), (rA, rB), ())) → (True ∧ (bsp (varD (vPoints, vCheckers, vHome, vSides)) (True ∧ (bsp (inB rA (1 : Int) vSides) (True ∧ (@Eq (HO c_impl_IsRoll.outs) (inB rB (1 : Int) rA, ()) (c_impl_IsRoll.out ((vPoints, vCheckers, vHome, vSides), (rA, rB), ())))) (@Eq (HO c_impl_IsRoll.outs) (false, ()) (c_impl_IsRoll.out ((vPoints, vCheckers, vHome, vSides), (rA, rB), ()))))) (@Eq (HO c_impl_IsRoll.outs) (false, ()) (c_impl_IsRoll.out ((vPoints, vCheckers, vHome, vSides), (rA, rB), ()))))))) (by kernel_rfl) ?_
  rintro vPoints vCheckers vHome vSides rA rB hpre hl
  repeat' first | refine ⟨trivial, ?_⟩ | refine bspB (fun _ => ?_) (fun _ => ?_) | refine bspD (fun _ => ?_) (fun _ => ?_)
  all_goals simp_all [c_impl_IsRoll, rollD]
def c_spec_IsRoll : Con where
  ins := [(true, .v tVar), (true, .v tRoll)]
  outs := [(false, .v .b)]
  sh := false
  pre := fun _ => True
  out := fun x => (rollD x.1 x.2.1, ())
  upd := fun x => x
  eat := false
theorem k_spec_IsRoll [B : Base] : ConOk Try.prog 48 c_spec_IsRoll := by
  refine fn_ok (C := cx Try.prog 21 c_spec_IsRoll) (cs := [(60, c_spec_IsVariant), (35, c_spec_l01In)]) (res := Try.f48.results.toList) (fun _ => ⟨[], [], []⟩) Try.func48 (by kernel_rfl) rfl rfl rfl tysOk.look eqTsOk.look (AllCs.ok (l := [(60, c_spec_IsVariant), (35, c_spec_l01In)]) ⟨k_spec_IsVariant, k_spec_l01In, trivial⟩) mixed rfl rfl rfl rfl ?_
  refine of_nf (P := ∀ vPoints : Int, ∀ vCheckers : Int, ∀ vHome : Int, ∀ vSides : Int, ∀ rA : Int, ∀ rB : Int, (True) → ((lensI c_spec_IsRoll.ins ((vPoints, vCheckers, vHome, vSides), (rA, rB), ())) → (True ∧ (bsp (varD (vPoints, vCheckers, vHome, vSides)) (True ∧ (bsp (inB rA (1 : Int) vSides) (True ∧ (@Eq (HO c_spec_IsRoll.outs) (inB rB (1 : Int) rA, ()) (c_spec_IsRoll.out ((vPoints, vCheckers, vHome, vSides), (rA, rB), ())))) (@Eq (HO c_spec_IsRoll.outs) (false, ()) (c_spec_IsRoll.out ((vPoints, vCheckers, vHome, vSides), (rA, rB), ()))))) (@Eq (HO c_spec_IsRoll.outs) (false, ()) (c_spec_IsRoll.out ((vPoints, vCheckers, vHome, vSides), (rA, rB), ()))))))) (by kernel_rfl) ?_
  rintro vPoints vCheckers vHome vSides rA rB hpre hl
  repeat' first | refine ⟨trivial, ?_⟩ | refine bspB (fun _ => ?_) (fun _ => ?_) | refine bspD (fun _ => ?_) (fun _ => ?_)
  all_goals simp_all [c_spec_IsRoll, rollD]
def c_impl_FullVariant : Con where
  ins := []
  outs := [(true, .v tVar)]
  sh := false
  pre := fun _ => True
  out := fun _ => ((24, 15, 6, 6), ())
  upd := fun x => x
  eat := false
theorem k_impl_FullVariant [B : Base] : ConOk Try.prog 89 c_impl_FullVariant := by
  refine fn_ok (C := cx Try.prog 2 c_impl_FullVariant) (cs := []) (res := Try.f89.results.toList) (fun _ => ⟨[], [], []⟩) Try.func89 (by kernel_rfl) rfl rfl rfl tysOk.look eqTsOk.look (AllCs.ok (l := []) trivial) mixed rfl rfl rfl rfl ?_
  refine @of_nf ((True) → ((lensI c_impl_FullVariant.ins (())) → (@Eq (HO c_impl_FullVariant.outs) ((24, 15, 6, 6), ()) (c_impl_FullVariant.out (()))))) _ (by kernel_rfl) ?_
  intro _ hl
  rfl
def c_spec_FullVariant : Con where
  ins := []
  outs := [(true, .v tVar)]
  sh := false
  pre := fun _ => True
  out := fun _ => ((24, 15, 6, 6), ())
  upd := fun x => x
  eat := false
theorem k_spec_FullVariant [B : Base] : ConOk Try.prog 97 c_spec_FullVariant := by
  refine fn_ok (C := cx Try.prog 2 c_spec_FullVariant) (cs := []) (res := Try.f97.results.toList) (fun _ => ⟨[], [], []⟩) Try.func97 (by kernel_rfl) rfl rfl rfl tysOk.look eqTsOk.look (AllCs.ok (l := []) trivial) mixed rfl rfl rfl rfl ?_
  refine @of_nf ((True) → ((lensI c_spec_FullVariant.ins (())) → (@Eq (HO c_spec_FullVariant.outs) ((24, 15, 6, 6), ()) (c_spec_FullVariant.out (()))))) _ (by kernel_rfl) ?_
  intro _ hl
  rfl
def c_spec_l02Empty : Con where
  ins := [(true, .v tVar)]
  outs := [(false, .own 2 tI)]
  sh := false
  pre := fun x => 2 ≤ x.1.1 ∧ x.1.1 ≤ 24
  out := fun x => (List.replicate (Int.toNat (x.1.1 + 1)) (0 : Int), ())
  upd := fun x => x
  eat := false
theorem k_spec_l02Empty [B : Base] : ConOk Try.prog 96 c_spec_l02Empty := by
  refine fn_ok (C := cx Try.prog 7 c_spec_l02Empty) (cs := []) (res := Try.f96.results.toList) (fun _ => ⟨[], [], []⟩) Try.func96 (by kernel_rfl) rfl rfl rfl tysOk.look eqTsOk.look (AllCs.ok (l := []) trivial) mixed rfl rfl rfl rfl ?_
  refine @of_nf (∀ vPoints : Int, ∀ vCheckers : Int, ∀ vHome : Int, ∀ vSides : Int, (2 ≤ (vPoints, vCheckers, vHome, vSides).1 ∧ (vPoints, vCheckers, vHome, vSides).1 ≤ 24) → ((lensI c_spec_l02Empty.ins ((vPoints, vCheckers, vHome, vSides), ())) → ((inK .i64 (vPoints + 1)) ∧ ((0 ≤ (vPoints + 1) ∧ (vPoints + 1) ≤ (vPoints + 1) ∧ (vPoints + 1) ≤ 1099511627776) ∧ (@Eq (HO c_spec_l02Empty.outs) ((List.replicate (vPoints + 1).toNat (0 : Int)), ()) (c_spec_l02Empty.out ((vPoints, vCheckers, vHome, vSides), ()))))))) _ (by kernel_rfl) ?_
  rintro vPoints vCheckers vHome vSides ⟨h1, h2⟩ hl
  dsimp only at h1 h2
  exact ⟨by simp only [inK]; omega, by omega, rfl⟩
def c_spec_l02Start : Con where
  ins := [(true, .v tVar)]
  outs := [(false, .own 2 tI)]
  sh := false
  pre := fun x => bigD x.1 = true
  out := fun x => (startD x.1, ())
  upd := fun x => x
  eat := false
theorem k_spec_l02Start [B : Base] : ConOk Try.prog 87 c_spec_l02Start := by
  refine fn_ok (C := cx Try.prog 39 c_spec_l02Start) (cs := [(96, c_spec_l02Empty), (97, c_spec_FullVariant)]) (res := Try.f87.results.toList) (fun _ => ⟨[], [(2, ⟨[[], [], [0, 1]], [[1], [0], []], []⟩)], []⟩) Try.func87 (by kernel_rfl) rfl rfl rfl tysOk.look eqTsOk.look (AllCs.ok (l := [(96, c_spec_l02Empty), (97, c_spec_FullVariant)]) ⟨k_spec_l02Empty, k_spec_FullVariant, trivial⟩) mixed rfl rfl rfl rfl ?_
  refine of_nf (P := ∀ vPoints : Int, ∀ vCheckers : Int, ∀ vHome : Int, ∀ vSides : Int, (bigD (vPoints, vCheckers, vHome, vSides) = true) → ((lensI c_spec_l02Start.ins ((vPoints, vCheckers, vHome, vSides), ())) → ((2 ≤ (vPoints, vCheckers, vHome, vSides).1 ∧ (vPoints, vCheckers, vHome, vSides).1 ≤ 24) ∧ (True ∧ (bsp (decide (vPoints = (24, 15, 6, 6).1) && (decide (vCheckers = (24, 15, 6, 6).2.1) && (decide (vHome = (24, 15, 6, 6).2.2.1) && (decide (vSides = (24, 15, 6, 6).2.2.2) && (true))))) ((0 ≤ (5 : Int) ∧ 5 < ((List.replicate (Int.toNat ((vPoints, vCheckers, vHome, vSides).1 + 1)) (0 : Int)).length : Int)) ∧ ((5 < (List.replicate (Int.toNat ((vPoints, vCheckers, vHome, vSides).1 + 1)) (0 : Int)).length) ∧ ((0 ≤ (7 : Int) ∧ 7 < (((List.replicate (Int.toNat ((vPoints, vCheckers, vHome, vSides).1 + 1)) (0 : Int)).set 5 5).length : Int)) ∧ ((7 < ((List.replicate (Int.toNat ((vPoints, vCheckers, vHome, vSides).1 + 1)) (0 : Int)).set 5 5).length) ∧ ((0 ≤ (12 : Int) ∧ 12 < ((((List.replicate (Int.toNat ((vPoints, vCheckers, vHome, vSides).1 + 1)) (0 : Int)).set 5 5).set 7 3).length : Int)) ∧ ((12 < (((List.replicate (Int.toNat ((vPoints, vCheckers, vHome, vSides).1 + 1)) (0 : Int)).set 5 5).set 7 3).length) ∧ ((0 ≤ (23 : Int) ∧ 23 < (((((List.replicate (Int.toNat ((vPoints, vCheckers, vHome, vSides).1 + 1)) (0 : Int)).set 5 5).set 7 3).set 12 5).length : Int)) ∧ ((23 < ((((List.replicate (Int.toNat ((vPoints, vCheckers, vHome, vSides).1 + 1)) (0 : Int)).set 5 5).set 7 3).set 12 5).length) ∧ (@Eq (HO c_spec_l02Start.outs) ((((((List.replicate (Int.toNat ((vPoints, vCheckers, vHome, vSides).1 + 1)) (0 : Int)).set 5 5).set 7 3).set 12 5).set 23 2), ()) (c_spec_l02Start.out ((vPoints, vCheckers, vHome, vSides), ()))))))))))) ((inK .i64 (vPoints - 1)) ∧ (((2 : Int) ≠ 0) ∧ ((inK .i64 (Int.tdiv vCheckers 2)) ∧ ((0 ≤ (vPoints - 1) ∧ (vPoints - 1) < ((List.replicate (Int.toNat ((vPoints, vCheckers, vHome, vSides).1 + 1)) (0 : Int)).length : Int)) ∧ (((vPoints - 1).toNat < (List.replicate (Int.toNat ((vPoints, vCheckers, vHome, vSides).1 + 1)) (0 : Int)).length) ∧ (((2 : Int) ≠ 0) ∧ ((inK .i64 (Int.tdiv vPoints 2)) ∧ ((inK .i64 ((Int.tdiv vPoints 2) - 1)) ∧ (((2 : Int) ≠ 0) ∧ ((inK .i64 (Int.tdiv vCheckers 2)) ∧ ((inK .i64 (vCheckers - (Int.tdiv vCheckers 2))) ∧ ((0 ≤ ((Int.tdiv vPoints 2) - 1) ∧ ((Int.tdiv vPoints 2) - 1) < (((List.replicate (Int.toNat ((vPoints, vCheckers, vHome, vSides).1 + 1)) (0 : Int)).set (vPoints - 1).toNat (Int.tdiv vCheckers 2)).length : Int)) ∧ ((((Int.tdiv vPoints 2) - 1).toNat < ((List.replicate (Int.toNat ((vPoints, vCheckers, vHome, vSides).1 + 1)) (0 : Int)).set (vPoints - 1).toNat (Int.tdiv vCheckers 2)).length) ∧ (@Eq (HO c_spec_l02Start.outs) ((((List.replicate (Int.toNat ((vPoints, vCheckers, vHome, vSides).1 + 1)) (0 : Int)).set (vPoints - 1).toNat (Int.tdiv vCheckers 2)).set ((Int.tdiv vPoints 2) - 1).toNat (vCheckers - (Int.tdiv vCheckers 2))), ()) (c_spec_l02Start.out ((vPoints, vCheckers, vHome, vSides), ()))))))))))))))))))))) (by kernel_rfl) ?_
  rintro vPoints vCheckers vHome vSides hpre hl
  simp only [bigD, Bool.and_eq_true, decide_eq_true_eq] at hpre
  obtain ⟨hv, h4⟩ := hpre
  obtain ⟨⟨v1, v2⟩, ⟨v3, v4⟩, ⟨v5, v6⟩, _⟩ := varD_iff.1 hv
  dsimp only at v1 v2 v3 v4 v5 v6 h4 ⊢
  rw [tdiv2 (by omega), tdiv2 (by omega)]
  refine ⟨by omega, trivial, bspB (fun h => ?_) (fun h => ?_)⟩
  · simp only [Bool.and_eq_true, decide_eq_true_eq, and_true] at h
    obtain ⟨rfl, rfl, rfl, rfl⟩ := h
    exact ⟨by decide, by decide, by decide, by decide, by decide, by decide, by decide, by decide, rfl⟩
  · have hn : ¬ (vPoints, vCheckers, vHome, vSides) = ((24, 15, 6, 6) : DVar) := fun e => by simp only [Prod.mk.injEq] at e; obtain ⟨rfl, rfl, rfl, rfl⟩ := e; simp at h
    simp only [List.length_set, List.length_replicate, inK]
    refine ⟨by omega, by omega, by omega, by omega, by omega, by omega, by omega, by omega, by omega, by omega, by omega, by omega, by omega, ?_⟩
    simp only [c_spec_l02Start, startD, if_neg hn]
    rw [tdiv2 (by omega), tdiv2 (by omega)]
def c_spec_l08New : Con where
  ins := [(true, .v tVar)]
  outs := [(true, .pr (.pr (.own 2 tI) (.own 2 tI)) (.v (.pr tI (.pr tRoll tVar))))]
  sh := false
  pre := fun x => bigD x.1 = true
  out := fun x => (((startD x.1, startD x.1), 0, (0, 0), 0, 0, 0, 0), ())
  upd := fun x => x
  eat := false
theorem k_spec_l08New [B : Base] : ConOk Try.prog 61 c_spec_l08New := by
  refine fn_ok (C := cx Try.prog 9 c_spec_l08New) (cs := [(87, c_spec_l02Start)]) (res := Try.f61.results.toList) (fun _ => ⟨[], [(1, ⟨[[], [0], [], [0, 1, 2], [0, 1, 2, 3], [0, 1, 2, 3, 4], [0, 1, 2, 3, 4, 5]], [[2], [2], [0, 1], [], [], [], []], []⟩)], []⟩) Try.func61 (by kernel_rfl) rfl rfl rfl tysOk.look eqTsOk.look (AllCs.ok (l := [(87, c_spec_l02Start)]) ⟨k_spec_l02Start, trivial⟩) mixed rfl rfl rfl rfl ?_
  refine of_nf (P := ∀ vPoints : Int, ∀ vCheckers : Int, ∀ vHome : Int, ∀ vSides : Int, (bigD (vPoints, vCheckers, vHome, vSides) = true) → ((lensI c_spec_l08New.ins ((vPoints, vCheckers, vHome, vSides), ())) → ((bigD (vPoints, vCheckers, vHome, vSides) = true) ∧ ((bigD (vPoints, vCheckers, vHome, vSides) = true) ∧ (@Eq (HO c_spec_l08New.outs) (((startD (vPoints, vCheckers, vHome, vSides), startD (vPoints, vCheckers, vHome, vSides)), 0, (0, 0), 0, 0, 0, 0), ()) (c_spec_l08New.out ((vPoints, vCheckers, vHome, vSides), ()))))))) (by kernel_rfl) ?_
  rintro vPoints vCheckers vHome vSides hpre hl
  exact ⟨hpre, hpre, rfl⟩
def c_impl_StartBoard : Con where
  ins := [(true, .v tVar)]
  outs := [(true, .pr (.own 2 tI) (.own 2 tI)), (false, .v .b)]
  sh := false
  pre := fun _ => True
  out := fun x => ((if bigD x.1 then (startD x.1, startD x.1) else ([], [])), bigD x.1, ())
  upd := fun x => x
  eat := false
theorem k_impl_StartBoard [B : Base] : ConOk Try.prog 70 c_impl_StartBoard := by
  refine fn_ok (C := cx Try.prog 56 c_impl_StartBoard) (cs := [(69, c_impl_IsVariant), (89, c_impl_FullVariant), (85, c_slices_Clone_int64_int64_)]) (res := Try.f70.results.toList) (fun _ => ⟨[], [(4, ⟨[[], [], [0, 1]], [[1], [0], []], []⟩), (7, ⟨[[], [], [1], [1, 2], [1, 2, 3], [0, 1, 2, 3, 4], [0, 1, 2, 3, 4, 5], [], [7], [], [9], [9, 10], [7, 8, 9, 10, 11], [0, 1, 2, 3, 4, 5, 6, 7, 8, 9, 10, 11, 12], [0, 1, 2, 3, 4, 5, 6, 7, 8, 9, 10, 11, 12, 13], [0, 1, 2, 3, 4, 5, 6, 7, 8, 9, 10, 11, 12, 13, 14]], [[1, 2, 3, 4, 7, 8, 9, 10, 11, 12], [0, 7, 8, 9, 10, 11, 12], [0, 7, 8, 9, 10, 11, 12], [0, 7, 8, 9, 10, 11, 12], [0, 7, 8, 9, 10, 11, 12], [7, 8, 9, 10, 11, 12], [7, 8, 9, 10, 11, 12], [0, 1, 2, 3, 4, 5, 6, 9, 10, 11], [0, 1, 2, 3, 4, 5, 6, 9, 10, 11], [0, 1, 2, 3, 4, 5, 6, 7, 8], [0, 1, 2, 3, 4, 5, 6, 7, 8], [0, 1, 2, 3, 4, 5, 6, 7, 8], [0, 1, 2, 3, 4, 5, 6], [], [], []], []⟩)], []⟩) Try.func70 (by kernel_rfl) rfl rfl rfl tysOk.look eqTsOk.look (AllCs.ok (l := [(69, c_impl_IsVariant), (89, c_impl_FullVariant), (85, c_slices_Clone_int64_int64_)]) ⟨k_impl_IsVariant, k_impl_FullVariant, k_slices_Clone_int64_int64_, trivial⟩) mixed rfl rfl rfl rfl ?_
  refine of_nf (P := ∀ vPoints : Int, ∀ vCheckers : Int, ∀ vHome : Int, ∀ vSides : Int, (True) → ((lensI c_impl_StartBoard.ins ((vPoints, vCheckers, vHome, vSides), ())) → (True ∧ (bsp (!(varD (vPoints, vCheckers, vHome, vSides))) (@Eq (HO c_impl_StartBoard.outs) (([], []), false, ()) (c_impl_StartBoard.out ((vPoints, vCheckers, vHome, vSides), ()))) (bsp (decide (vPoints < (4 : Int))) (@Eq (HO c_impl_StartBoard.outs) (([], []), false, ()) (c_impl_StartBoard.out ((vPoints, vCheckers, vHome, vSides), ()))) ((inK .i64 (vPoints + 1)) ∧ ((0 ≤ (vPoints + 1) ∧ (vPoints + 1) ≤ (vPoints + 1) ∧ (vPoints + 1) ≤ 1099511627776) ∧ (True ∧ (bsp (decide (vPoints = (24, 15, 6, 6).1) && (decide (vCheckers = (24, 15, 6, 6).2.1) && (decide (vHome = (24, 15, 6, 6).2.2.1) && (decide (vSides = (24, 15, 6, 6).2.2.2) && (true))))) ((0 ≤ (5 : Int) ∧ 5 < ((List.replicate (vPoints + 1).toNat (0 : Int)).length : Int)) ∧ ((5 < (List.replicate (vPoints + 1).toNat (0 : Int)).length) ∧ ((0 ≤ (7 : Int) ∧ 7 < (((List.replicate (vPoints + 1).toNat (0 : Int)).set 5 5).length : Int)) ∧ ((7 < ((List.replicate (vPoints + 1).toNat (0 : Int)).set 5 5).length) ∧ ((0 ≤ (12 : Int) ∧ 12 < ((((List.replicate (vPoints + 1).toNat (0 : Int)).set 5 5).set 7 3).length : Int)) ∧ ((12 < (((List.replicate (vPoints + 1).toNat (0 : Int)).set 5 5).set 7 3).length) ∧ ((0 ≤ (23 : Int) ∧ 23 < (((((List.replicate (vPoints + 1).toNat (0 : Int)).set 5 5).set 7 3).set 12 5).length : Int)) ∧ ((23 < ((((List.replicate (vPoints + 1).toNat (0 : Int)).set 5 5).set 7 3).set 12 5).length) ∧ (((((((List.replicate (vPoints + 1).toNat (0 : Int)).set 5 5).set 7 3).set 12 5).set 23 2) ≠ [] ∧ List.length (((((List.replicate (vPoints + 1).toNat (0 : Int)).set 5 5).set 7 3).set 12 5).set 23 2) ≤ 1099511627776) ∧ (@Eq (HO c_impl_StartBoard.outs) (((((((List.replicate (vPoints + 1).toNat (0 : Int)).set 5 5).set 7 3).set 12 5).set 23 2), (((((List.replicate (vPoints + 1).toNat (0 : Int)).set 5 5).set 7 3).set 12 5).set 23 2)), true, ()) (c_impl_StartBoard.out ((vPoints, vCheckers, vHome, vSides), ())))))))))))) ((inK .i64 (vPoints - 1)) ∧ (((2 : Int) ≠ 0) ∧ ((inK .i64 (Int.tdiv vCheckers 2)) ∧ ((0 ≤ (vPoints - 1) ∧ (vPoints - 1) < ((List.replicate (vPoints + 1).toNat (0 : Int)).length : Int)) ∧ (((vPoints - 1).toNat < (List.replicate (vPoints + 1).toNat (0 : Int)).length) ∧ (((2 : Int) ≠ 0) ∧ ((inK .i64 (Int.tdiv vPoints 2)) ∧ ((inK .i64 ((Int.tdiv vPoints 2) - 1)) ∧ ((0 ≤ ((Int.tdiv vPoints 2) - 1) ∧ ((Int.tdiv vPoints 2) - 1) < (((List.replicate (vPoints + 1).toNat (0 : Int)).set (vPoints - 1).toNat (Int.tdiv vCheckers 2)).length : Int)) ∧ ((((Int.tdiv vPoints 2) - 1).toNat < ((List.replicate (vPoints + 1).toNat (0 : Int)).set (vPoints - 1).toNat (Int.tdiv vCheckers 2)).length) ∧ (((2 : Int) ≠ 0) ∧ ((inK .i64 (Int.tdiv vCheckers 2)) ∧ ((inK .i64 (vCheckers - (Int.tdiv vCheckers 2))) ∧ ((inK .i64 ((((List.replicate (vPoints + 1).toNat (0 : Int)).set (vPoints - 1).toNat (Int.tdiv vCheckers 2)).getD ((Int.tdiv vPoints 2) - 1).toNat 0) + (vCheckers - (Int.tdiv vCheckers 2)))) ∧ ((0 ≤ ((Int.tdiv vPoints 2) - 1) ∧ ((Int.tdiv vPoints 2) - 1) < (((List.replicate (vPoints + 1).toNat (0 : Int)).set (vPoints - 1).toNat (Int.tdiv vCheckers 2)).length : Int)) ∧ ((((Int.tdiv vPoints 2) - 1).toNat < ((List.replicate (vPoints + 1).toNat (0 : Int)).set (vPoints - 1).toNat (Int.tdiv vCheckers 2)).length) ∧ (((((List.replicate (vPoints + 1).toNat (0 : Int)).set (vPoints - 1).toNat (Int.tdiv vCheckers 2)).set ((Int.tdiv vPoints 2) - 1).toNat ((((List.replicate (vPoints + 1).toNat (0 : Int)).set (vPoints - 1).toNat (Int.tdiv vCheckers 2)).getD ((Int.tdiv vPoints 2) - 1).toNat 0) + (vCheckers - (Int.tdiv vCheckers 2)))) ≠ [] ∧ List.length (((List.replicate (vPoints + 1).toNat (0 : Int)).set (vPoints - 1).toNat (Int.tdiv vCheckers 2)).set ((Int.tdiv vPoints 2) - 1).toNat ((((List.replicate (vPoints + 1).toNat (0 : Int)).set (vPoints - 1).toNat (Int.tdiv vCheckers 2)).getD ((Int.tdiv vPoints 2) - 1).toNat 0) + (vCheckers - (Int.tdiv vCheckers 2)))) ≤ 1099511627776) ∧ (@Eq (HO c_impl_StartBoard.outs) (((((List.replicate (vPoints + 1).toNat (0 : Int)).set (vPoints - 1).toNat (Int.tdiv vCheckers 2)).set ((Int.tdiv vPoints 2) - 1).toNat ((((List.replicate (vPoints + 1).toNat (0 : Int)).set (vPoints - 1).toNat (Int.tdiv vCheckers 2)).getD ((Int.tdiv vPoints 2) - 1).toNat 0) + (vCheckers - (Int.tdiv vCheckers 2)))), (((List.replicate (vPoints + 1).toNat (0 : Int)).set (vPoints - 1).toNat (Int.tdiv vCheckers 2)).set ((Int.tdiv vPoints 2) - 1).toNat ((((List.replicate (vPoints + 1).toNat (0 : Int)).set (vPoints - 1).toNat (Int.tdiv vCheckers 2)).getD ((Int.tdiv vPoints 2) - 1).toNat 0) + (vCheckers - (Int.tdiv vCheckers 2))))), true, ()) (c_impl_StartBoard.out ((vPoints, vCheckers, vHome, vSides), ()))))))))))))))))))))))))))))) (by kernel_rfl) ?_
  rintro vPoints vCheckers vHome vSides hpre hl
  have bad : bigD (vPoints, vCheckers, vHome, vSides) = false → @Eq (HO c_impl_StartBoard.outs) (([], []), false, ()) (c_impl_StartBoard.out ((vPoints, vCheckers, vHome, vSides), ())) := fun h => by simp only [c_impl_StartBoard, h, if_false]; rfl
  refine ⟨trivial, bspB (fun h => bad (by simp_all [bigD])) (fun hv => bspD (fun h => bad (by simp [bigD]; intro _; omega)) (fun h4 => ?_))⟩
  have hv : varD (vPoints, vCheckers, vHome, vSides) = true := by simpa using hv
  have hb : bigD (vPoints, vCheckers, vHome, vSides) = true := by simp only [bigD, hv, Bool.true_and, decide_eq_true_eq]; omega
  obtain ⟨⟨v1, v2⟩, ⟨v3, v4⟩, ⟨v5, v6⟩, _⟩ := varD_iff.1 hv
  dsimp only at v1 v2 v3 v4 v5 v6 h4 ⊢
  rw [tdiv2 (by omega), tdiv2 (by omega)]
  refine ⟨by simp only [inK]; omega, by omega, trivial, bspB (fun h => ?_) (fun h => ?_)⟩
  · simp only [Bool.and_eq_true, decide_eq_true_eq, and_true] at h
    obtain ⟨rfl, rfl, rfl, rfl⟩ := h
    exact ⟨by decide, by decide, by decide, by decide, by decide, by decide, by decide, by decide, ⟨by decide, by decide⟩, rfl⟩
  · have hn : ¬ (vPoints, vCheckers, vHome, vSides) = ((24, 15, 6, 6) : DVar) := fun e => by simp only [Prod.mk.injEq] at e; obtain ⟨rfl, rfl, rfl, rfl⟩ := e; simp at h
    have g0 : (List.set (List.replicate (vPoints + 1).toNat (0 : Int)) (vPoints - 1).toNat (vCheckers / 2)).getD (vPoints / 2 - 1).toNat 0 = 0 := by
      rw [List.getD_eq_getElem?_getD, List.getElem?_set_ne (by omega), List.getElem?_replicate]
      split <;> rfl
    rw [g0]
    have hs := startD_ne (v := (vPoints, vCheckers, vHome, vSides)) (by simpa using h4) (by simpa using v2)
    have e : List.set (List.set (List.replicate (vPoints + 1).toNat (0 : Int)) (vPoints - 1).toNat (vCheckers / 2)) (vPoints / 2 - 1).toNat (0 + (vCheckers - vCheckers / 2)) = startD (vPoints, vCheckers, vHome, vSides) := by
      simp only [startD, if_neg hn]
      rw [tdiv2 (by omega), tdiv2 (by omega), Int.zero_add]
    rw [e]
    simp only [List.length_set, List.length_replicate, inK]
    refine ⟨by omega, by omega, by omega, by omega, by omega, by omega, by omega, by omega, by omega, by omega, by omega, by omega, by omega, by omega, by omega, by omega, hs, ?_⟩
    simp only [c_impl_StartBoard, hb, if_true]
def c_impl_rollOfFaces : Con where
  ins := [(false, .v tI), (false, .v tI)]
  outs := [(true, .v tRoll)]
  sh := false
  pre := fun _ => True
  out := fun x => ((max x.1 x.2.1, min x.1 x.2.1), ())
  upd := fun x => x
  eat := false
theorem k_impl_rollOfFaces [B : Base] : ConOk Try.prog 73 c_impl_rollOfFaces := by
  refine fn_ok (C := cx Try.prog 12 c_impl_rollOfFaces) (cs := []) (res := Try.f73.results.toList) (fun _ => ⟨[], [], []⟩) Try.func73 (by kernel_rfl) rfl rfl rfl tysOk.look eqTsOk.look (AllCs.ok (l := []) trivial) mixed rfl rfl rfl rfl ?_
  refine @of_nf (∀ a : Int, ∀ b : Int, (True) → ((lensI c_impl_rollOfFaces.ins (a, b, ())) → (@Eq (HO c_impl_rollOfFaces.outs) ((max a b, min a b), ()) (c_impl_rollOfFaces.out (a, b, ()))))) _ (by kernel_rfl) ?_
  rintro a b hpre hl
  rfl
def c_spec_l07Pair : Con where
  ins := [(false, .v tI), (false, .v tI)]
  outs := [(true, .v tRoll)]
  sh := false
  pre := fun _ => True
  out := fun x => ((max x.1 x.2.1, min x.1 x.2.1), ())
  upd := fun x => x
  eat := false
theorem k_spec_l07Pair [B : Base] : ConOk Try.prog 63 c_spec_l07Pair := by
  refine fn_ok (C := cx Try.prog 12 c_spec_l07Pair) (cs := []) (res := Try.f63.results.toList) (fun _ => ⟨[], [], []⟩) Try.func63 (by kernel_rfl) rfl rfl rfl tysOk.look eqTsOk.look (AllCs.ok (l := []) trivial) mixed rfl rfl rfl rfl ?_
  refine @of_nf (∀ a : Int, ∀ b : Int, (True) → ((lensI c_spec_l07Pair.ins (a, b, ())) → (@Eq (HO c_spec_l07Pair.outs) ((max a b, min a b), ()) (c_spec_l07Pair.out (a, b, ()))))) _ (by kernel_rfl) ?_
  rintro a b hpre hl
  rfl
theorem boardD_bd {v : DVar} {b : DBoard} (h : boardD v b = true) : varD v = true ∧ Bd b.1 ∧ Bd b.2 := by
  simp only [boardD, Bool.and_eq_true] at h
  exact ⟨h.1, (sideD_bd h.1 h.2.1).1, (sideD_bd h.1 h.2.2.1).1⟩
def c_impl_IsGame : Con where
  ins := [(true, .v tVar), (true, .v tGame)]
  outs := [(false, .v .b)]
  sh := false
  pre := fun _ => True
  out := fun x => (gameD x.1 x.2.1, ())
  upd := fun x => x
  eat := false
theorem k_impl_IsGame [B : Base] : ConOk Try.prog 90 c_impl_IsGame := by
  refine fn_ok (C := cx Try.prog 141 c_impl_IsGame) (cs := [(69, c_impl_IsVariant), (53, c_impl_IsBoard), (41, c_impl_within), (54, c_impl_IsRoll), (74, c_impl_boardOver), (70, c_impl_StartBoard), (98, c_impl_sameBoard), (82, c_impl_total), (75, c_impl_resultOf)]) (res := Try.f90.results.toList) (fun _ => ⟨[], [(3, ⟨[[], [0], [0, 1], [], [3], [], [3, 4, 5], [0, 1, 2, 3, 4, 5, 6], [0, 1, 2, 3, 4, 5, 6, 7], [0, 1, 2, 3, 4, 5, 6, 7, 8], [0, 1, 2, 3, 4, 5, 6, 7, 8, 9], [0, 1, 2, 3, 4, 5, 6, 7, 8, 9, 10], [0, 1, 2, 3, 4, 5, 6, 7, 8, 9, 10, 11], [0, 1, 2, 3, 4, 5, 6, 7, 8, 9, 10, 11, 12], [0, 1, 2, 3, 4, 5, 6, 7, 8, 9, 10, 11, 12], [0, 1, 2, 3, 4, 5, 6, 7, 8, 9, 10, 11, 12, 14], [0, 1, 2, 3, 4, 5, 6, 7, 8, 9, 10, 11, 12, 13, 14, 15], [0, 1, 2, 3, 4, 5, 6, 7, 8, 9, 10, 11, 12, 13, 14, 15, 16], [0, 1, 2, 3, 4, 5, 6, 7, 8, 9, 10, 11, 12, 13, 14, 15, 16, 17], [0, 1, 2, 3, 4, 5, 6, 7, 8, 9, 10, 11, 12, 13, 14, 15, 16, 17, 18]], [[3, 4, 5, 6], [3, 4, 5, 6], [3, 4, 5, 6], [0, 1, 2, 5], [0, 1, 2, 5], [0, 1, 2, 3, 4], [0, 1, 2], [], [], [], [], [], [], [14, 15], [13], [13], [], [], [], []], []⟩), (15, ⟨[[], [0], [0, 1], [0, 1, 2], [0, 1, 2, 3], [0, 1, 2, 3, 4], [0, 1, 2, 3, 4, 5], [0, 1, 2, 3, 4, 5, 6], [0, 1, 2, 3, 4, 5], [0, 1, 2, 3, 4, 5, 8], [0, 1, 2, 3, 4, 5, 6, 7, 8, 9], [0, 1, 2, 3, 4, 5, 6, 7, 8, 9, 10], [0, 1, 2, 3, 4, 5, 6, 7, 8, 9, 10, 11], [0, 1, 2, 3, 4, 5, 6, 7, 8, 9, 10, 11, 12], [0, 1, 2, 3, 4, 5, 6, 7, 8, 9, 10, 11, 12, 13], [0, 1, 2, 3, 4, 5, 6, 7, 8, 9, 10, 11, 12], [0, 1, 2, 3, 4, 5, 6, 7, 8, 9, 10, 11, 12], [0, 1, 2, 3, 4, 5, 6, 7, 8, 9, 10, 11, 12, 16], [0, 1, 2, 3, 4, 5, 6, 7, 8, 9, 10, 11, 12, 15, 16, 17], [0, 1, 2, 3, 4, 5, 6, 7, 8, 9, 10, 11, 12, 13, 14, 15, 16, 17, 18], [0, 1, 2, 3, 4, 5, 6, 7, 8, 9, 10, 11, 12, 13, 14, 15, 16, 17, 18, 19], [0, 1, 2, 3, 4, 5, 6, 7, 8, 9, 10, 11, 12, 13, 14, 15, 16, 17, 18, 19, 20]], [[], [], [], [], [], [], [8, 9], [8, 9], [6, 7], [6, 7], [], [], [], [15, 16, 17, 18], [15, 16, 17, 18], [13, 14, 16, 17], [13, 14, 15], [13, 14, 15], [13, 14], [], [], []], []⟩)], []⟩) Try.func90 (by kernel_rfl) rfl rfl rfl tysOk.look eqTsOk.look (AllCs.ok (l := [(69, c_impl_IsVariant), (53, c_impl_IsBoard), (41, c_impl_within), (54, c_impl_IsRoll), (74, c_impl_boardOver), (70, c_impl_StartBoard), (98, c_impl_sameBoard), (82, c_impl_total), (75, c_impl_resultOf)]) ⟨k_impl_IsVariant, k_impl_IsBoard, k_impl_within, k_impl_IsRoll, k_impl_boardOver, k_impl_StartBoard, k_impl_sameBoard, k_impl_total, k_impl_resultOf, trivial⟩) mixed rfl rfl rfl rfl ?_
  refine of_nf (P := ∀ vPoints : Int, ∀ vCheckers : Int, ∀ vHome : Int, ∀ vSides : Int, ∀ gBoardOwn : List Int, ∀ gBoardOther : List Int, ∀ gPlayer : Int, ∀ gRollA : Int, ∀ gRollB : Int, ∀ gPhase : Int, ∀ gWinner : Int, ∀ gResult : Int, ∀ gTurns : Int, (True) → ((lensI c_impl_IsGame.ins ((vPoints, vCheckers, vHome, vSides), ((gBoardOwn, gBoardOther), gPlayer, (gRollA, gRollB), gPhase, gWinner, gResult, gTurns), ())) → (True ∧ (bsp (!(varD (vPoints, vCheckers, vHome, vSides))) (@Eq (HO c_impl_IsGame.outs) (false, ()) (c_impl_IsGame.out ((vPoints, vCheckers, vHome, vSides), ((gBoardOwn, gBoardOther), gPlayer, (gRollA, gRollB), gPhase, gWinner, gResult, gTurns), ()))) (bsp (decide (vPoints < (4 : Int))) (@Eq (HO c_impl_IsGame.outs) (false, ()) (c_impl_IsGame.out ((vPoints, vCheckers, vHome, vSides), ((gBoardOwn, gBoardOther), gPlayer, (gRollA, gRollB), gPhase, gWinner, gResult, gTurns), ()))) (True ∧ (bsp (!(boardD (vPoints, vCheckers, vHome, vSides) (gBoardOwn, gBoardOther))) (@Eq (HO c_impl_IsGame.outs) (false, ()) (c_impl_IsGame.out ((vPoints, vCheckers, vHome, vSides), ((gBoardOwn, gBoardOther), gPlayer, (gRollA, gRollB), gPhase, gWinner, gResult, gTurns), ()))) (True ∧ (bsp (!(inB gPlayer (0 : Int) (1 : Int))) (@Eq (HO c_impl_IsGame.outs) (false, ()) (c_impl_IsGame.out ((vPoints, vCheckers, vHome, vSides), ((gBoardOwn, gBoardOther), gPlayer, (gRollA, gRollB), gPhase, gWinner, gResult, gTurns), ()))) (True ∧ (bsp (!(inB gTurns (0 : Int) (2000 : Int))) (@Eq (HO c_impl_IsGame.outs) (false, ()) (c_impl_IsGame.out ((vPoints, vCheckers, vHome, vSides), ((gBoardOwn, gBoardOther), gPlayer, (gRollA, gRollB), gPhase, gWinner, gResult, gTurns), ()))) (bsp ((decide (gPhase = (2 : Int))) != (!(decide (gRollA = (0 : Int)) && (decide (gRollB = (0 : Int)) && (true))))) (@Eq (HO c_impl_IsGame.outs) (false, ()) (c_impl_IsGame.out ((vPoints, vCheckers, vHome, vSides), ((gBoardOwn, gBoardOther), gPlayer, (gRollA, gRollB), gPhase, gWinner, gResult, gTurns), ()))) (bsp (decide (gPhase = (2 : Int))) (True ∧ (bsp (!(rollD (vPoints, vCheckers, vHome, vSides) (gRollA, gRollB))) (@Eq (HO c_impl_IsGame.outs) (false, ()) (c_impl_IsGame.out ((vPoints, vCheckers, vHome, vSides), ((gBoardOwn, gBoardOther), gPlayer, (gRollA, gRollB), gPhase, gWinner, gResult, gTurns), ()))) ((Bd (gBoardOwn, gBoardOther).1 ∧ Bd (gBoardOwn, gBoardOther).2) ∧ (bsp (decide (gPhase = (0 : Int))) (True ∧ (True ∧ (bsp (sameD (gBoardOwn, gBoardOther) (if bigD (vPoints, vCheckers, vHome, vSides) then (startD (vPoints, vCheckers, vHome, vSides), startD (vPoints, vCheckers, vHome, vSides)) else ([], []))) (bsp (decide (gPlayer = (0 : Int))) (bsp (decide (gWinner = (0 : Int))) (bsp (decide (gResult = (0 : Int))) (@Eq (HO c_impl_IsGame.outs) ((decide (gTurns = (0 : Int))), ()) (c_impl_IsGame.out ((vPoints, vCheckers, vHome, vSides), ((gBoardOwn, gBoardOther), gPlayer, (gRollA, gRollB), gPhase, gWinner, gResult, gTurns), ()))) (@Eq (HO c_impl_IsGame.outs) (false, ()) (c_impl_IsGame.out ((vPoints, vCheckers, vHome, vSides), ((gBoardOwn, gBoardOther), gPlayer, (gRollA, gRollB), gPhase, gWinner, gResult, gTurns), ())))) (@Eq (HO c_impl_IsGame.outs) (false, ()) (c_impl_IsGame.out ((vPoints, vCheckers, vHome, vSides), ((gBoardOwn, gBoardOther), gPlayer, (gRollA, gRollB), gPhase, gWinner, gResult, gTurns), ())))) (@Eq (HO c_impl_IsGame.outs) (false, ()) (c_impl_IsGame.out ((vPoints, vCheckers, vHome, vSides), ((gBoardOwn, gBoardOther), gPlayer, (gRollA, gRollB), gPhase, gWinner, gResult, gTurns), ())))) (@Eq (HO c_impl_IsGame.outs) (false, ()) (c_impl_IsGame.out ((vPoints, vCheckers, vHome, vSides), ((gBoardOwn, gBoardOther), gPlayer, (gRollA, gRollB), gPhase, gWinner, gResult, gTurns), ())))))) (bsp (decide (gPhase = (1 : Int))) (bsp (decide (gPhase = (1 : Int))) (bsp (!(overD (gBoardOwn, gBoardOther))) (bsp (decide (gWinner = (0 : Int))) (@Eq (HO c_impl_IsGame.outs) ((decide (gResult = (0 : Int))), ()) (c_impl_IsGame.out ((vPoints, vCheckers, vHome, vSides), ((gBoardOwn, gBoardOther), gPlayer, (gRollA, gRollB), gPhase, gWinner, gResult, gTurns), ()))) (@Eq (HO c_impl_IsGame.outs) (false, ()) (c_impl_IsGame.out ((vPoints, vCheckers, vHome, vSides), ((gBoardOwn, gBoardOther), gPlayer, (gRollA, gRollB), gPhase, gWinner, gResult, gTurns), ())))) (@Eq (HO c_impl_IsGame.outs) (false, ()) (c_impl_IsGame.out ((vPoints, vCheckers, vHome, vSides), ((gBoardOwn, gBoardOther), gPlayer, (gRollA, gRollB), gPhase, gWinner, gResult, gTurns), ())))) (bsp (decide (gPhase = (3 : Int))) (bsp (overD (gBoardOwn, gBoardOther)) ((Bd gBoardOwn) ∧ (bsp (decide ((List.sum gBoardOwn) = (0 : Int))) (bsp (decide (gWinner = gPlayer)) ((varD (vPoints, vCheckers, vHome, vSides) = true ∧ Bd (gBoardOwn, gBoardOther).1 ∧ Bd (gBoardOwn, gBoardOther).2) ∧ (@Eq (HO c_impl_IsGame.outs) ((decide (gResult = (resD (vPoints, vCheckers, vHome, vSides) (gBoardOwn, gBoardOther)))), ()) (c_impl_IsGame.out ((vPoints, vCheckers, vHome, vSides), ((gBoardOwn, gBoardOther), gPlayer, (gRollA, gRollB), gPhase, gWinner, gResult, gTurns), ())))) (@Eq (HO c_impl_IsGame.outs) (false, ()) (c_impl_IsGame.out ((vPoints, vCheckers, vHome, vSides), ((gBoardOwn, gBoardOther), gPlayer, (gRollA, gRollB), gPhase, gWinner, gResult, gTurns), ())))) (@Eq (HO c_impl_IsGame.outs) (false, ()) (c_impl_IsGame.out ((vPoints, vCheckers, vHome, vSides), ((gBoardOwn, gBoardOther), gPlayer, (gRollA, gRollB), gPhase, gWinner, gResult, gTurns), ()))))) ((inK .i64 (1 - gPlayer)) ∧ (bsp (decide (gWinner = (1 - gPlayer))) (True ∧ (@Eq (HO c_impl_IsGame.outs) (inB gResult (1 : Int) (3 : Int), ()) (c_impl_IsGame.out ((vPoints, vCheckers, vHome, vSides), ((gBoardOwn, gBoardOther), gPlayer, (gRollA, gRollB), gPhase, gWinner, gResult, gTurns), ())))) (@Eq (HO c_impl_IsGame.outs) (false, ()) (c_impl_IsGame.out ((vPoints, vCheckers, vHome, vSides), ((gBoardOwn, gBoardOther), gPlayer, (gRollA, gRollB), gPhase, gWinner, gResult, gTurns), ())))))) (@Eq (HO c_impl_IsGame.outs) (false, ()) (c_impl_IsGame.out ((vPoints, vCheckers, vHome, vSides), ((gBoardOwn, gBoardOther), gPlayer, (gRollA, gRollB), gPhase, gWinner, gResult, gTurns), ()))))) (bsp (decide (gPhase = (2 : Int))) (bsp (!(overD (gBoardOwn, gBoardOther))) (bsp (decide (gWinner = (0 : Int))) (@Eq (HO c_impl_IsGame.outs) ((decide (gResult = (0 : Int))), ()) (c_impl_IsGame.out ((vPoints, vCheckers, vHome, vSides), ((gBoardOwn, gBoardOther), gPlayer, (gRollA, gRollB), gPhase, gWinner, gResult, gTurns), ()))) (@Eq (HO c_impl_IsGame.outs) (false, ()) (c_impl_IsGame.out ((vPoints, vCheckers, vHome, vSides), ((gBoardOwn, gBoardOther), gPlayer, (gRollA, gRollB), gPhase, gWinner, gResult, gTurns), ())))) (@Eq (HO c_impl_IsGame.outs) (false, ()) (c_impl_IsGame.out ((vPoints, vCheckers, vHome, vSides), ((gBoardOwn, gBoardOther), gPlayer, (gRollA, gRollB), gPhase, gWinner, gResult, gTurns), ())))) (bsp (decide (gPhase = (3 : Int))) (bsp (overD (gBoardOwn, gBoardOther)) ((Bd gBoardOwn) ∧ (bsp (decide ((List.sum gBoardOwn) = (0 : Int))) (bsp (decide (gWinner = gPlayer)) ((varD (vPoints, vCheckers, vHome, vSides) = true ∧ Bd (gBoardOwn, gBoardOther).1 ∧ Bd (gBoardOwn, gBoardOther).2) ∧ (@Eq (HO c_impl_IsGame.outs) ((decide (gResult = (resD (vPoints, vCheckers, vHome, vSides) (gBoardOwn, gBoardOther)))), ()) (c_impl_IsGame.out ((vPoints, vCheckers, vHome, vSides), ((gBoardOwn, gBoardOther), gPlayer, (gRollA, gRollB), gPhase, gWinner, gResult, gTurns), ())))) (@Eq (HO c_impl_IsGame.outs) (false, ()) (c_impl_IsGame.out ((vPoints, vCheckers, vHome, vSides), ((gBoardOwn, gBoardOther), gPlayer, (gRollA, gRollB), gPhase, gWinner, gResult, gTurns), ())))) (@Eq (HO c_impl_IsGame.outs) (false, ()) (c_impl_IsGame.out ((vPoints, vCheckers, vHome, vSides), ((gBoardOwn, gBoardOther), gPlayer, (gRollA, gRollB), gPhase, gWinner, gResult, gTurns), ()))))) ((inK .i64 (1 - gPlayer)) ∧ (bsp (decide (gWinner = (1 - gPlayer))) (True ∧ (@Eq (HO c_impl_IsGame.outs) (inB gResult (1 : Int) (3 : Int), ()) (c_impl_IsGame.out ((vPoints, vCheckers, vHome, vSides), ((gBoardOwn, gBoardOther), gPlayer, (gRollA, gRollB), gPhase, gWinner, gResult, gTurns), ())))) (@Eq (HO c_impl_IsGame.outs) (false, ()) (c_impl_IsGame.out ((vPoints, vCheckers, vHome, vSides), ((gBoardOwn, gBoardOther), gPlayer, (gRollA, gRollB), gPhase, gWinner, gResult, gTurns), ())))))) (@Eq (HO c_impl_IsGame.outs) (false, ()) (c_impl_IsGame.out ((vPoints, vCheckers, vHome, vSides), ((gBoardOwn, gBoardOther), gPlayer, (gRollA, gRollB), gPhase, gWinner, gResult, gTurns), ())))))))))) ((Bd (gBoardOwn, gBoardOther).1 ∧ Bd (gBoardOwn, gBoardOther).2) ∧ (bsp (decide (gPhase = (0 : Int))) (True ∧ (True ∧ (bsp (sameD (gBoardOwn, gBoardOther) (if bigD (vPoints, vCheckers, vHome, vSides) then (startD (vPoints, vCheckers, vHome, vSides), startD (vPoints, vCheckers, vHome, vSides)) else ([], []))) (bsp (decide (gPlayer = (0 : Int))) (bsp (decide (gWinner = (0 : Int))) (bsp (decide (gResult = (0 : Int))) (@Eq (HO c_impl_IsGame.outs) ((decide (gTurns = (0 : Int))), ()) (c_impl_IsGame.out ((vPoints, vCheckers, vHome, vSides), ((gBoardOwn, gBoardOther), gPlayer, (gRollA, gRollB), gPhase, gWinner, gResult, gTurns), ()))) (@Eq (HO c_impl_IsGame.outs) (false, ()) (c_impl_IsGame.out ((vPoints, vCheckers, vHome, vSides), ((gBoardOwn, gBoardOther), gPlayer, (gRollA, gRollB), gPhase, gWinner, gResult, gTurns), ())))) (@Eq (HO c_impl_IsGame.outs) (false, ()) (c_impl_IsGame.out ((vPoints, vCheckers, vHome, vSides), ((gBoardOwn, gBoardOther), gPlayer, (gRollA, gRollB), gPhase, gWinner, gResult, gTurns), ())))) (@Eq (HO c_impl_IsGame.outs) (false, ()) (c_impl_IsGame.out ((vPoints, vCheckers, vHome, vSides), ((gBoardOwn, gBoardOther), gPlayer, (gRollA, gRollB), gPhase, gWinner, gResult, gTurns), ())))) (@Eq (HO c_impl_IsGame.outs) (false, ()) (c_impl_IsGame.out ((vPoints, vCheckers, vHome, vSides), ((gBoardOwn, gBoardOther), gPlayer, (gRollA, gRollB), gPhase, gWinner, gResult, gTurns), ())))))) (bsp (decide (gPhase = (1 : Int))) (bsp (decide (gPhase = (1 : Int))) (bsp (!(overD (gBoardOwn, gBoardOther))) (bsp (decide (gWinner = (0 : Int))) (@Eq (HO c_impl_IsGame.outs) ((decide (gResult = (0 : Int))), ()) (c_impl_IsGame.out ((vPoints, vCheckers, vHome, vSides), ((gBoardOwn, gBoardOther), gPlayer, (gRollA, gRollB), gPhase, gWinner, gResult, gTurns), ()))) (@Eq (HO c_impl_IsGame.outs) (false, ()) (c_impl_IsGame.out ((vPoints, vCheckers, vHome, vSides), ((gBoardOwn, gBoardOther), gPlayer, (gRollA, gRollB), gPhase, gWinner, gResult, gTurns), ())))) (@Eq (HO c_impl_IsGame.outs) (false, ()) (c_impl_IsGame.out ((vPoints, vCheckers, vHome, vSides), ((gBoardOwn, gBoardOther), gPlayer, (gRollA, gRollB), gPhase, gWinner, gResult, gTurns), ())))) (bsp (decide (gPhase = (3 : Int))) (bsp (overD (gBoardOwn, gBoardOther)) ((Bd gBoardOwn) ∧ (bsp (decide ((List.sum gBoardOwn) = (0 : Int))) (bsp (decide (gWinner = gPlayer)) ((varD (vPoints, vCheckers, vHome, vSides) = true ∧ Bd (gBoardOwn, gBoardOther).1 ∧ Bd (gBoardOwn, gBoardOther).2) ∧ (@Eq (HO c_impl_IsGame.outs) ((decide (gResult = (resD (vPoints, vCheckers, vHome, vSides) (gBoardOwn, gBoardOther)))), ()) (c_impl_IsGame.out ((vPoints, vCheckers, vHome, vSides), ((gBoardOwn, gBoardOther), gPlayer, (gRollA, gRollB), gPhase, gWinner, gResult, gTurns), ())))) (@Eq (HO c_impl_IsGame.outs) (false, ()) (c_impl_IsGame.out ((vPoints, vCheckers, vHome, vSides), ((gBoardOwn, gBoardOther), gPlayer, (gRollA, gRollB), gPhase, gWinner, gResult, gTurns), ())))) (@Eq (HO c_impl_IsGame.outs) (false, ()) (c_impl_IsGame.out ((vPoints, vCheckers, vHome, vSides), ((gBoardOwn, gBoardOther), gPlayer, (gRollA, gRollB), gPhase, gWinner, gResult, gTurns), ()))))) ((inK .i64 (1 - gPlayer)) ∧ (bsp (decide (gWinner = (1 - gPlayer))) (True ∧ (@Eq (HO c_impl_IsGame.outs) (inB gResult (1 : Int) (3 : Int), ()) (c_impl_IsGame.out ((vPoints, vCheckers, vHome, vSides), ((gBoardOwn, gBoardOther), gPlayer, (gRollA, gRollB), gPhase, gWinner, gResult, gTurns), ())))) (@Eq (HO c_impl_IsGame.outs) (false, ()) (c_impl_IsGame.out ((vPoints, vCheckers, vHome, vSides), ((gBoardOwn, gBoardOther), gPlayer, (gRollA, gRollB), gPhase, gWinner, gResult, gTurns), ())))))) (@Eq (HO c_impl_IsGame.outs) (false, ()) (c_impl_IsGame.out ((vPoints, vCheckers, vHome, vSides), ((gBoardOwn, gBoardOther), gPlayer, (gRollA, gRollB), gPhase, gWinner, gResult, gTurns), ()))))) (bsp (decide (gPhase = (2 : Int))) (bsp (!(overD (gBoardOwn, gBoardOther))) (bsp (decide (gWinner = (0 : Int))) (@Eq (HO c_impl_IsGame.outs) ((decide (gResult = (0 : Int))), ()) (c_impl_IsGame.out ((vPoints, vCheckers, vHome, vSides), ((gBoardOwn, gBoardOther), gPlayer, (gRollA, gRollB), gPhase, gWinner, gResult, gTurns), ()))) (@Eq (HO c_impl_IsGame.outs) (false, ()) (c_impl_IsGame.out ((vPoints, vCheckers, vHome, vSides), ((gBoardOwn, gBoardOther), gPlayer, (gRollA, gRollB), gPhase, gWinner, gResult, gTurns), ())))) (@Eq (HO c_impl_IsGame.outs) (false, ()) (c_impl_IsGame.out ((vPoints, vCheckers, vHome, vSides), ((gBoardOwn, gBoardOther), gPlayer, (gRollA, gRollB), gPhase, gWinner, gResult, gTurns), ())))) (bsp (decide (gPhase = (3 : Int))) (bsp (overD (gBoardOwn, gBoardOther)) ((Bd gBoardOwn) ∧ (bsp (decide ((List.sum gBoardOwn) = (0 : Int))) (bsp (decide (gWinner = gPlayer)) ((varD (vPoints, vCheckers, vHome, vSides) = true ∧ Bd (gBoardOwn, gBoardOther).1 ∧ Bd (gBoardOwn, gBoardOther).2) ∧ (@Eq (HO c_impl_IsGame.outs) ((decide (gResult = (resD (vPoints, vCheckers, vHome, vSides) (gBoardOwn, gBoardOther)))), ()) (c_impl_IsGame.out ((vPoints, vCheckers, vHome, vSides), ((gBoardOwn, gBoardOther), gPlayer, (gRollA, gRollB), gPhase, gWinner, gResult, gTurns), ())))) (@Eq (HO c_impl_IsGame.outs) (false, ()) (c_impl_IsGame.out ((vPoints, vCheckers, vHome, vSides), ((gBoardOwn, gBoardOther), gPlayer, (gRollA, gRollB), gPhase, gWinner, gResult, gTurns), ())))) (@Eq (HO c_impl_IsGame.outs) (false, ()) (c_impl_IsGame.out ((vPoints, vCheckers, vHome, vSides), ((gBoardOwn, gBoardOther), gPlayer, (gRollA, gRollB), gPhase, gWinner, gResult, gTurns), ()))))) ((inK .i64 (1 - gPlayer)) ∧ (bsp (decide (gWinner = (1 - gPlayer))) (True ∧ (@Eq (HO c_impl_IsGame.outs) (inB gResult (1 : Int) (3 : Int), ()) (c_impl_IsGame.out ((vPoints, vCheckers, vHome, vSides), ((gBoardOwn, gBoardOther), gPlayer, (gRollA, gRollB), gPhase, gWinner, gResult, gTurns), ())))) (@Eq (HO c_impl_IsGame.outs) (false, ()) (c_impl_IsGame.out ((vPoints, vCheckers, vHome, vSides), ((gBoardOwn, gBoardOther), gPlayer, (gRollA, gRollB), gPhase, gWinner, gResult, gTurns), ())))))) (@Eq (HO c_impl_IsGame.outs) (false, ()) (c_impl_IsGame.out ((vPoints, vCheckers, vHome, vSides), ((gBoardOwn, gBoardOther), gPlayer, (gRollA, gRollB), gPhase, gWinner, gResult, gTurns), ()))))))))))))))))))))) (by kernel_rfl) ?_
  rintro vPoints vCheckers vHome vSides gBoardOwn gBoardOther gPlayer gRollA gRollB gPhase gWinner gResult gTurns hpre hl
  have out : ∀ r, gameD (vPoints, vCheckers, vHome, vSides) ((gBoardOwn, gBoardOther), gPlayer, (gRollA, gRollB), gPhase, gWinner, gResult, gTurns) = r → @Eq (HO c_impl_IsGame.outs) (r, ()) (c_impl_IsGame.out ((vPoints, vCheckers, vHome, vSides), ((gBoardOwn, gBoardOther), gPlayer, (gRollA, gRollB), gPhase, gWinner, gResult, gTurns), ())) := fun r h => by subst h; rfl
  refine ⟨trivial, bspB (fun h1 => out _ ?_) (fun h1 => bspD (fun h2 => out _ ?_) (fun h2 => ⟨trivial, bspB (fun h3 => out _ ?_) (fun h3 => ⟨trivial, bspB (fun h4 => out _ ?_) (fun h4 => ⟨trivial, bspB (fun h5 => out _ ?_) (fun h5 => ?_)⟩)⟩)⟩))⟩
  · simp_all [gameD, bigD]
  · have : ¬ 4 ≤ vPoints := by omega
    simp [gameD, bigD, this]
  · simp_all [gameD]
  · simp_all [gameD]
  · simp_all [gameD]
  simp only [Bool.not_eq_false'] at h1 h3 h4 h5
  have hb : bigD (vPoints, vCheckers, vHome, vSides) = true := by simp only [bigD, h1, Bool.true_and, decide_eq_true_eq]; omega
  have hB := (boardD_bd h3).2
  have hp := h4
  simp only [inB, Bool.and_eq_true, decide_eq_true_eq] at hp
  have hg : gameD (vPoints, vCheckers, vHome, vSides) ((gBoardOwn, gBoardOther), gPlayer, (gRollA, gRollB), gPhase, gWinner, gResult, gTurns) = ((if gPhase = 2 then rollD (vPoints, vCheckers, vHome, vSides) (gRollA, gRollB) else decide ((gRollA, gRollB) = ((0, 0) : DRoll))) &&
      (if gPhase = 0 then decide (gPlayer = 0) && decide (gTurns = 0) && decide (gWinner = 0) && decide (gResult = 0) && sameD (gBoardOwn, gBoardOther) (startD (vPoints, vCheckers, vHome, vSides), startD (vPoints, vCheckers, vHome, vSides))
       else if gPhase = 1 ∨ gPhase = 2 then !overD (gBoardOwn, gBoardOther) && decide (gWinner = 0) && decide (gResult = 0)
       else if gPhase = 3 then (if overD (gBoardOwn, gBoardOther) then decide (gBoardOwn.sum = 0) && decide (gWinner = gPlayer) && decide (gResult = resD (vPoints, vCheckers, vHome, vSides) (gBoardOwn, gBoardOther)) else decide (gWinner = 1 - gPlayer) && inB gResult 1 3)
       else false)) := by simp only [gameD, hb, h3, h4, h5, Bool.true_and]
  rw [hg] at out
  clear hg h3 h4 h5 h2
  try simp only [hb, if_true]
  repeat' first | exact hB.1 | refine ⟨trivial, ?_⟩ | refine ⟨hB, ?_⟩ | refine ⟨hB.1, ?_⟩ | refine ⟨⟨h1, hB⟩, ?_⟩ | refine ⟨hb, ?_⟩ | refine ⟨(by simp only [inK]; omega), ?_⟩ | refine bspB (fun _ => ?_) (fun _ => ?_) | refine out _ ?_
  all_goals (clear out hl; simp_all <;> grind [rollD, inB])
end Go.Proofs.Ytgbfcjnkohhfoaa
