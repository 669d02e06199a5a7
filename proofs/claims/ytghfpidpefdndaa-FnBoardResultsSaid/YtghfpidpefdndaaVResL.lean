/-
  Contracts: results of boards; the law FnBoardResults.
-/
import Derived.Test.YtghfpidpefdndaaVDrawF
import Derived.Test.YtghfpidpefdndaaAbL
namespace Go.Proofs.Ytghfpidpefdndaa
open Go.RowKit
set_option linter.unusedSimpArgs false
set_option linter.unusedVariables false
def resB (v : DVar) (b : DBoard) : Int := if boardD v b = true ∧ overD b = true then resD v b else 0
def swapB (v : DVar) (b : DBoard) : DBoard := if boardD v b = true then (b.2, b.1) else ([], [])
theorem clash_iff {zs ys : List Int} {p : Nat} : ∀ k : Nat, clashD zs ys p k = true ↔ ∃ j, j < k ∧ 0 < zs.getD j 0 ∧ 0 < ys.getD (p - 1 - j) 0
  | 0 => by simp [clashD]
  | k + 1 => by
    simp only [clashD, Bool.or_eq_true, Bool.and_eq_true, decide_eq_true_eq, clash_iff k]
    refine ⟨fun h => ?_, fun ⟨j, h1, h2, h3⟩ => ?_⟩
    · rcases h with ⟨j, h1, h2, h3⟩ | ⟨h2, h3⟩
      · exact ⟨j, by omega, h2, h3⟩
      · exact ⟨k, by omega, h2, h3⟩
    · by_cases e : j = k
      · subst e; exact .inr ⟨h2, h3⟩
      · exact .inl ⟨j, by omega, h2, h3⟩
theorem clash_swap {zs ys : List Int} {p : Nat} (h : clashD zs ys p p = false) : clashD ys zs p p = false := by
  cases hc : clashD ys zs p p
  · rfl
  · obtain ⟨j, h1, h2, h3⟩ := (clash_iff p).1 hc
    have : clashD zs ys p p = true := (clash_iff p).2 ⟨p - 1 - j, by omega, h3, by rw [show p - 1 - (p - 1 - j) = j by omega]; exact h2⟩
    rw [h] at this; cases this
theorem board_swap {v : DVar} {b : DBoard} (h : boardD v b = true) : boardD v (b.2, b.1) = true := by
  simp only [boardD, Bool.and_eq_true, Bool.not_eq_true', Bool.and_eq_false_iff, decide_eq_false_iff_not] at h ⊢
  obtain ⟨h1, h2, h3, h4, h5⟩ := h
  exact ⟨h1, h3, h2, h4.symm, clash_swap h5⟩
theorem res_swap {v : DVar} {b : DBoard} (h : boardD v b = true) : resB v (b.2, b.1) = resB v b := by
  have hs := board_swap h
  have ho : overD (b.2, b.1) = overD b := by simp only [overD, Bool.or_comm]
  have hz : ¬ (b.1.sum = 0 ∧ b.2.sum = 0) := fun x => by
    simp only [boardD, Bool.and_eq_true, Bool.not_eq_true', Bool.and_eq_false_iff, decide_eq_false_iff_not] at h
    rcases h.2.2.2.1 with k | k
    · exact k x.1
    · exact k x.2
  unfold resB
  rw [ho]
  by_cases hov : overD b = true
  · rw [if_pos ⟨hs, hov⟩, if_pos ⟨h, hov⟩]
    have hl : loserD (b.2, b.1) = loserD b := by
      simp only [overD, Bool.or_eq_true, decide_eq_true_eq] at hov
      unfold loserD
      dsimp only
      by_cases h1 : b.1.sum = 0
      · rw [if_pos h1, if_neg fun h2 => hz ⟨h1, h2⟩]
      · rw [if_neg h1, if_pos (hov.resolve_left h1)]
    unfold resD
    rw [hl]
  · rw [if_neg fun x => hov x.2, if_neg fun x => hov x.2]
theorem res_pos {v : DVar} {b : DBoard} (h : boardD v b = true) : decide (0 < resB v b) = overD b := by
  unfold resB
  cases ho : overD b
  · simp
  · rw [if_pos ⟨h, rfl⟩]
    have : 0 < resD v b := by unfold resD; split; decide; split <;> decide
    simp [this]
theorem okC_ofR {c : List Int} (h : wfD (TC.sl (.i .u8)) c) (hl : ¬ 4096 < (c.length : Int)) : okC c := by
  refine ⟨by omega, fun i => ?_⟩
  by_cases hi : i < c.length
  · have := h _ (by rw [List.getD_eq_getElem?_getD, List.getElem?_eq_getElem hi]; exact List.getElem_mem hi : c.getD i 0 ∈ c)
    simp only [wfD, inK] at this
    omega
  · rw [List.getD_eq_getElem?_getD, List.getElem?_eq_none (by omega)]; decide
def c_impl_IsOver : Con where
  ins := [(true, .v tVar), (true, .v tBoard)]
  outs := [(false, .v .b)]
  sh := false
  pre := fun _ => True
  out := fun x => ((boardD x.1 x.2.1 && overD x.2.1), ())
  upd := fun x => x
theorem k_impl_IsOver : ConOk Try.prog 81 c_impl_IsOver := by
  refine fn_okW (C := cx Try.prog 12 c_impl_IsOver) (cs := [(154, c_impl_IsBoard), (155, c_impl_boardOver)]) (res := Try.f81.results.toList) (fun _ => ⟨[], [], []⟩) Try.func81 (by kernel_rfl) rfl rfl rfl tysOk.look eqTsOk.look (AllCs.ok (l := [(154, c_impl_IsBoard), (155, c_impl_boardOver)]) ⟨k_impl_IsBoard, k_impl_boardOver, trivial⟩) mixed rfl rfl rfl ?_
  refine of_nf (P := ∀ v : Int × Int × Int × Int, ∀ b : (List Int) × List Int, (True) → ((lensI c_impl_IsOver.ins (v, b, ())) → (True ∧ (bsp (boardD v b) ((Bd b.1 ∧ Bd b.2) ∧ (@Eq (HO c_impl_IsOver.outs) (overD b, ()) (c_impl_IsOver.out (v, b, ())))) (@Eq (HO c_impl_IsOver.outs) (false, ()) (c_impl_IsOver.out (v, b, ()))))))) (by kernel_rfl) ?_
  rintro v b hp hl
  refine ⟨trivial, bspB (fun h => ⟨(boardD_bd h).2, by simp [c_impl_IsOver, h]⟩) (fun h => by simp [c_impl_IsOver, h])⟩
def c_spec_IsOver : Con where
  ins := [(true, .v tVar), (true, .v tBoard)]
  outs := [(false, .v .b)]
  sh := false
  pre := fun _ => True
  out := fun x => ((boardD x.1 x.2.1 && overD x.2.1), ())
  upd := fun x => x
theorem k_spec_IsOver : ConOk Try.prog 157 c_spec_IsOver := by
  refine fn_okW (C := cx Try.prog 12 c_spec_IsOver) (cs := [(79, c_spec_IsBoard), (167, c_spec_l02Over)]) (res := Try.f157.results.toList) (fun _ => ⟨[], [], []⟩) Try.func157 (by kernel_rfl) rfl rfl rfl tysOk.look eqTsOk.look (AllCs.ok (l := [(79, c_spec_IsBoard), (167, c_spec_l02Over)]) ⟨k_spec_IsBoard, k_spec_l02Over, trivial⟩) mixed rfl rfl rfl ?_
  refine of_nf (P := ∀ v : Int × Int × Int × Int, ∀ b : (List Int) × List Int, (True) → ((lensI c_spec_IsOver.ins (v, b, ())) → (True ∧ (bsp (boardD v b) ((Bd b.1 ∧ Bd b.2) ∧ (@Eq (HO c_spec_IsOver.outs) (overD b, ()) (c_spec_IsOver.out (v, b, ())))) (@Eq (HO c_spec_IsOver.outs) (false, ()) (c_spec_IsOver.out (v, b, ()))))))) (by kernel_rfl) ?_
  rintro v b hp hl
  refine ⟨trivial, bspB (fun h => ⟨(boardD_bd h).2, by simp [c_spec_IsOver, h]⟩) (fun h => by simp [c_spec_IsOver, h])⟩
def c_impl_ResultOf : Con where
  ins := [(true, .v tVar), (true, .v tBoard)]
  outs := [(false, .v tI)]
  sh := false
  pre := fun _ => True
  out := fun x => (resB x.1 x.2.1, ())
  upd := fun x => x
theorem k_impl_ResultOf : ConOk Try.prog 77 c_impl_ResultOf := by
  refine fn_okW (C := cx Try.prog 17 c_impl_ResultOf) (cs := [(154, c_impl_IsBoard), (155, c_impl_boardOver), (156, c_impl_resultOf)]) (res := Try.f77.results.toList) (fun _ => ⟨[], [], []⟩) Try.func77 (by kernel_rfl) rfl rfl rfl tysOk.look eqTsOk.look (AllCs.ok (l := [(154, c_impl_IsBoard), (155, c_impl_boardOver), (156, c_impl_resultOf)]) ⟨k_impl_IsBoard, k_impl_boardOver, k_impl_resultOf, trivial⟩) mixed rfl rfl rfl ?_
  refine of_nf (P := ∀ v : Int × Int × Int × Int, ∀ b : (List Int) × List Int, (True) → ((lensI c_impl_ResultOf.ins (v, b, ())) → (True ∧ (bsp (!(boardD v b)) (@Eq (HO c_impl_ResultOf.outs) (0, ()) (c_impl_ResultOf.out (v, b, ()))) ((Bd b.1 ∧ Bd b.2) ∧ (bsp (!(overD b)) (@Eq (HO c_impl_ResultOf.outs) (0, ()) (c_impl_ResultOf.out (v, b, ()))) ((varD v = true ∧ Bd b.1 ∧ Bd b.2) ∧ (@Eq (HO c_impl_ResultOf.outs) (resD v b, ()) (c_impl_ResultOf.out (v, b, ())))))))))) (by kernel_rfl) ?_
  rintro v b hp hl
  refine ⟨trivial, bspB (fun h => by simp_all [c_impl_ResultOf, resB]) (fun h => ?_)⟩
  have hb : boardD v b = true := by simpa using h
  exact ⟨(boardD_bd hb).2, bspB (fun g => by simp_all [c_impl_ResultOf, resB]) (fun g => ⟨boardD_bd hb, by simp_all [c_impl_ResultOf, resB]⟩)⟩
def c_spec_ResultOf : Con where
  ins := [(true, .v tVar), (true, .v tBoard)]
  outs := [(false, .v tI)]
  sh := false
  pre := fun _ => True
  out := fun x => (resB x.1 x.2.1, ())
  upd := fun x => x
theorem k_spec_ResultOf : ConOk Try.prog 78 c_spec_ResultOf := by
  refine fn_okW (C := cx Try.prog 12 c_spec_ResultOf) (cs := [(157, c_spec_IsOver), (158, c_spec_l08Result)]) (res := Try.f78.results.toList) (fun _ => ⟨[], [], []⟩) Try.func78 (by kernel_rfl) rfl rfl rfl tysOk.look eqTsOk.look (AllCs.ok (l := [(157, c_spec_IsOver), (158, c_spec_l08Result)]) ⟨k_spec_IsOver, k_spec_l08Result, trivial⟩) mixed rfl rfl rfl ?_
  refine of_nf (P := ∀ v : Int × Int × Int × Int, ∀ b : (List Int) × List Int, (True) → ((lensI c_spec_ResultOf.ins (v, b, ())) → (True ∧ (bsp (!(boardD v b && overD b)) (@Eq (HO c_spec_ResultOf.outs) (0, ()) (c_spec_ResultOf.out (v, b, ()))) ((varD v = true ∧ Bd b.1 ∧ Bd b.2) ∧ (@Eq (HO c_spec_ResultOf.outs) (resD v b, ()) (c_spec_ResultOf.out (v, b, ())))))))) (by kernel_rfl) ?_
  rintro v b hp hl
  refine ⟨trivial, bspB (fun h => ?_) (fun h => ?_)⟩
  · have : ¬ (boardD v b = true ∧ overD b = true) := fun x => by rw [x.1, x.2] at h; cases h
    simp only [c_spec_ResultOf, resB, if_neg this]
  · have : boardD v b = true ∧ overD b = true := by simpa using h
    exact ⟨boardD_bd this.1, by simp only [c_spec_ResultOf, resB, if_pos this]⟩
def c_impl_SwapBoard : Con where
  ins := [(true, .v tVar), (true, .v tBoard)]
  outs := [(true, .v tBoard)]
  sh := false
  pre := fun _ => True
  out := fun x => (swapB x.1 x.2.1, ())
  upd := fun x => x
theorem k_impl_SwapBoard : ConOk Try.prog 80 c_impl_SwapBoard := by
  refine fn_okW (C := cx Try.prog 12 c_impl_SwapBoard) (cs := [(154, c_impl_IsBoard), (160, c_impl_swapped)]) (res := Try.f80.results.toList) (fun _ => ⟨[], [], []⟩) Try.func80 (by kernel_rfl) rfl rfl rfl tysOk.look eqTsOk.look (AllCs.ok (l := [(154, c_impl_IsBoard), (160, c_impl_swapped)]) ⟨k_impl_IsBoard, k_impl_swapped, trivial⟩) mixed rfl rfl rfl ?_
  refine of_nf (P := ∀ v : Int × Int × Int × Int, ∀ b : (List Int) × List Int, (True) → ((lensI c_impl_SwapBoard.ins (v, b, ())) → (True ∧ (bsp (!(boardD v b)) (@Eq (HO c_impl_SwapBoard.outs) (([], []), ()) (c_impl_SwapBoard.out (v, b, ()))) ((NeB b) ∧ (@Eq (HO c_impl_SwapBoard.outs) ((b.2, b.1), ()) (c_impl_SwapBoard.out (v, b, ())))))))) (by kernel_rfl) ?_
  rintro v b hp hl
  refine ⟨trivial, bspB (fun h => by simp_all [c_impl_SwapBoard, swapB]) (fun h => ?_)⟩
  have hb : boardD v b = true := by simpa using h
  exact ⟨boardD_ne hb, by simp only [c_impl_SwapBoard, swapB, if_pos hb]⟩
def c_laws_big : Con where
  ins := [(false, .v (.sl (.i .u8)))]
  outs := [(false, .v .b)]
  sh := false
  pre := fun _ => True
  out := fun x => (decide (4096 < (List.length x.1 : Int)), ())
  upd := fun x => x
theorem k_laws_big : ConOk Try.prog 58 c_laws_big := by
  refine fn_ok (C := cx Try.prog 6 c_laws_big) (cs := []) (res := Try.f58.results.toList) (fun _ => ⟨[], [], []⟩) Try.func58 (by kernel_rfl) rfl rfl rfl tysOk.look eqTsOk.look (AllCs.ok (l := []) trivial) mixed rfl rfl rfl ?_
  refine of_nf (P := ∀ c : List Int, (True) → ((lensI c_laws_big.ins (c, ())) → (@Eq (HO c_laws_big.outs) ((decide ((4096 : Int) < (c.length : Int))), ()) (c_laws_big.out (c, ()))))) (by kernel_rfl) ?_
  rintro c hp hl
  rfl
def c_laws_FnBoardResults : Con where
  ins := [(false, .v (.sl (.i .u8)))]
  outs := [(false, .v .b)]
  sh := false
  pre := fun x => wfD (TC.sl (.i .u8)) x.1
  out := fun _ => (true, ())
  upd := fun x => x
theorem k_laws_FnBoardResults : ConOk Try.prog 14 c_laws_FnBoardResults := by
  refine fn_ok (C := cx Try.prog 42 c_laws_FnBoardResults) (cs := [(58, c_laws_big), (76, c_spec_DrawResultOf), (77, c_impl_ResultOf), (78, c_spec_ResultOf), (79, c_spec_IsBoard), (80, c_impl_SwapBoard), (81, c_impl_IsOver)]) (res := Try.f14.results.toList) (fun _ => ⟨[], [(9, ⟨[[], [], [], [], [2, 3], [1, 2, 3, 4], [0, 1, 2, 3, 4, 5], [0, 1, 2, 3, 4, 5, 6], [0, 1, 2, 3, 4, 5, 6, 7], [0, 1, 2, 3, 4, 5, 6, 7, 8], [0, 1, 2, 3, 4, 5, 6, 7], [0, 1, 2, 3, 4, 5, 6, 7], [0, 1, 2, 3, 4, 5, 6, 7, 10, 11], [0, 1, 2, 3, 4, 5, 6, 7, 8, 9, 10, 11, 12], [0, 1, 2, 3, 4, 5, 6, 7, 8, 9, 10, 11, 12, 13], [0, 1, 2, 3, 4, 5, 6, 7, 8, 9, 10, 11, 12, 13, 14]], [[1, 2, 3, 4, 5], [0, 2, 3, 4], [0, 1, 3], [0, 1, 2], [0, 1], [0], [], [], [10, 11, 12], [10, 11, 12], [8, 9, 11], [8, 9, 10], [8, 9], [], [], []], []⟩)], []⟩) Try.func14 (by kernel_rfl) rfl rfl rfl tysOk.look eqTsOk.look (AllCs.ok (l := [(58, c_laws_big), (76, c_spec_DrawResultOf), (77, c_impl_ResultOf), (78, c_spec_ResultOf), (79, c_spec_IsBoard), (80, c_impl_SwapBoard), (81, c_impl_IsOver)]) ⟨k_laws_big, k_spec_DrawResultOf, k_impl_ResultOf, k_spec_ResultOf, k_spec_IsBoard, k_impl_SwapBoard, k_impl_IsOver, trivial⟩) mixed rfl rfl rfl ?_
  refine of_nf (P := ∀ c : List Int, (wfD (TC.sl (.i .u8)) c) → ((lensI c_laws_FnBoardResults.ins (c, ())) → (True ∧ (bsp (decide (4096 < (List.length c : Int))) (@Eq (HO c_laws_FnBoardResults.outs) (true, ()) (c_laws_FnBoardResults.out (c, ()))) ((okC c) ∧ (True ∧ (True ∧ (bsp (decide ((resB (drawRes c).1 (drawRes c).2) ≠ (resB (drawRes c).1 (drawRes c).2))) (@Eq (HO c_laws_FnBoardResults.outs) (false, ()) (c_laws_FnBoardResults.out (c, ()))) (True ∧ (bsp (!(boardD (drawRes c).1 (drawRes c).2)) (@Eq (HO c_laws_FnBoardResults.outs) ((decide ((resB (drawRes c).1 (drawRes c).2) = (0 : Int))), ()) (c_laws_FnBoardResults.out (c, ()))) (True ∧ (True ∧ (bsp (decide ((resB (drawRes c).1 (drawRes c).2) = (resB (drawRes c).1 (swapB (drawRes c).1 (drawRes c).2)))) (True ∧ (@Eq (HO c_laws_FnBoardResults.outs) (((decide ((0 : Int) < (resB (drawRes c).1 (drawRes c).2))) == (boardD (drawRes c).1 (drawRes c).2 && overD (drawRes c).2)), ()) (c_laws_FnBoardResults.out (c, ())))) (@Eq (HO c_laws_FnBoardResults.outs) (false, ()) (c_laws_FnBoardResults.out (c, ())))))))))))))))) (by kernel_rfl) ?_
  rintro c hw hl
  refine ⟨trivial, bspD (fun _ => rfl) (fun hb => ?_)⟩
  have hc := okC_ofR hw hb
  refine ⟨hc, trivial, trivial, bspD (fun h => absurd rfl h) (fun _ => ⟨trivial, ?_⟩)⟩
  clear hc hw hl hb
  generalize (drawRes c).1 = v at *
  generalize (drawRes c).2 = b at *
  refine bspB (fun h => ?_) (fun h => ?_)
  · have h0 : resB v b = 0 := by
      have : ¬ (boardD v b = true ∧ overD b = true) := fun x => by rw [x.1] at h; cases h
      simp only [resB, if_neg this]
    rw [decide_eq_true h0]; rfl
  · have hb : boardD v b = true := by simpa using h
    have e1 : resB v b = resB v (swapB v b) := by rw [swapB, if_pos hb]; exact (res_swap hb).symm
    refine ⟨trivial, trivial, bspD (fun _ => ⟨trivial, ?_⟩) (fun g => absurd e1 g)⟩
    rw [res_pos hb, hb, Bool.true_and]
    simp [c_laws_FnBoardResults]
end Go.Proofs.Ytghfpidpefdndaa
