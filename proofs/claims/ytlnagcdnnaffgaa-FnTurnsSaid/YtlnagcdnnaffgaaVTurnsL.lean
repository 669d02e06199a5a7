/-
  The law FnTurns.
-/
import Derived.Test.YtlnagcdnnaffgaaVDrawI
import Derived.Test.YtlnagcdnnaffgaaAbL
namespace Go.Proofs.Ytlnagcdnnaffgaa
open Go.RowKit
set_option linter.unusedSimpArgs false
set_option linter.unusedVariables false
def c_impl_IsOver : Con where
  ins := [(true, .v tVar), (true, .v tBoard)]
  outs := [(false, .v .b)]
  sh := false
  pre := fun _ => True
  out := fun x => ((boardD x.1 x.2.1 && overD x.2.1), ())
  upd := fun x => x
  eat := false
theorem k_impl_IsOver [B : Base] : ConOk Try.prog 20 c_impl_IsOver := by
  refine fn_okW (C := cx Try.prog 12 c_impl_IsOver) (cs := [(38, c_impl_IsBoard), (39, c_impl_boardOver)]) (res := Try.f20.results.toList) (fun _ => ⟨[], [], []⟩) Try.func20 (by kernel_rfl) rfl rfl rfl tysOk.look eqTsOk.look (AllCs.ok (l := [(38, c_impl_IsBoard), (39, c_impl_boardOver)]) ⟨k_impl_IsBoard, k_impl_boardOver, trivial⟩) mixed rfl rfl rfl rfl ?_
  refine of_nf (P := ∀ v : Int × Int × Int × Int, ∀ b : (List Int) × List Int, (True) → ((lensI c_impl_IsOver.ins (v, b, ())) → (True ∧ (bsp (boardD v b) ((Bd b.1 ∧ Bd b.2) ∧ (@Eq (HO c_impl_IsOver.outs) (overD b, ()) (c_impl_IsOver.out (v, b, ())))) (@Eq (HO c_impl_IsOver.outs) (false, ()) (c_impl_IsOver.out (v, b, ()))))))) (by kernel_rfl) ?_
  rintro v b hp hl
  refine ⟨trivial, bspB (fun h => ⟨(boardD_bd h).2, by simp [c_impl_IsOver, h]⟩) (fun h => by simp [c_impl_IsOver, h])⟩
theorem resD_bd (v : DVar) (b : DBoard) : 1 ≤ resD v b ∧ resD v b ≤ 3 := by
  unfold resD
  split
  · exact ⟨by decide, by decide⟩
  · split
    · exact ⟨by decide, by decide⟩
    · exact ⟨by decide, by decide⟩
def c_impl_ResultOf : Con where
  ins := [(true, .v tVar), (true, .v tBoard)]
  outs := [(false, .v tI)]
  sh := false
  pre := fun _ => True
  out := fun x => ((if boardD x.1 x.2.1 = true ∧ overD x.2.1 = true then resD x.1 x.2.1 else 0), ())
  upd := fun x => x
  eat := false
theorem k_impl_ResultOf [B : Base] : ConOk Try.prog 21 c_impl_ResultOf := by
  refine fn_okW (C := cx Try.prog 17 c_impl_ResultOf) (cs := [(38, c_impl_IsBoard), (39, c_impl_boardOver), (43, c_impl_resultOf)]) (res := Try.f21.results.toList) (fun _ => ⟨[], [], []⟩) Try.func21 (by kernel_rfl) rfl rfl rfl tysOk.look eqTsOk.look (AllCs.ok (l := [(38, c_impl_IsBoard), (39, c_impl_boardOver), (43, c_impl_resultOf)]) ⟨k_impl_IsBoard, k_impl_boardOver, k_impl_resultOf, trivial⟩) mixed rfl rfl rfl rfl ?_
  refine of_nf (P := ∀ v : Int × Int × Int × Int, ∀ b : (List Int) × List Int, (True) → ((lensI c_impl_ResultOf.ins (v, b, ())) → (True ∧ (bsp (!(boardD v b)) (@Eq (HO c_impl_ResultOf.outs) (0, ()) (c_impl_ResultOf.out (v, b, ()))) ((Bd b.1 ∧ Bd b.2) ∧ (bsp (!(overD b)) (@Eq (HO c_impl_ResultOf.outs) (0, ()) (c_impl_ResultOf.out (v, b, ()))) ((varD v = true ∧ Bd b.1 ∧ Bd b.2) ∧ (@Eq (HO c_impl_ResultOf.outs) (resD v b, ()) (c_impl_ResultOf.out (v, b, ())))))))))) (by kernel_rfl) ?_
  rintro v b hp hl
  refine ⟨trivial, bspB (fun h => by simp_all [c_impl_ResultOf]) (fun h => ?_)⟩
  have hb : boardD v b = true := by simpa using h
  exact ⟨(boardD_bd hb).2, bspB (fun g => by simp_all [c_impl_ResultOf]) (fun g => ⟨boardD_bd hb, by simp_all [c_impl_ResultOf]⟩)⟩
def c_impl_SwapBoard : Con where
  ins := [(true, .v tVar), (true, .v tBoard)]
  outs := [(true, .v tBoard)]
  sh := false
  pre := fun _ => True
  out := fun x => ((if boardD x.1 x.2.1 = true then (x.2.1.2, x.2.1.1) else ([], [])), ())
  upd := fun x => x
  eat := false
theorem k_impl_SwapBoard [B : Base] : ConOk Try.prog 23 c_impl_SwapBoard := by
  refine fn_okW (C := cx Try.prog 12 c_impl_SwapBoard) (cs := [(38, c_impl_IsBoard), (30, c_impl_swapped)]) (res := Try.f23.results.toList) (fun _ => ⟨[], [], []⟩) Try.func23 (by kernel_rfl) rfl rfl rfl tysOk.look eqTsOk.look (AllCs.ok (l := [(38, c_impl_IsBoard), (30, c_impl_swapped)]) ⟨k_impl_IsBoard, k_impl_swapped, trivial⟩) mixed rfl rfl rfl rfl ?_
  refine of_nf (P := ∀ v : Int × Int × Int × Int, ∀ b : (List Int) × List Int, (True) → ((lensI c_impl_SwapBoard.ins (v, b, ())) → (True ∧ (bsp (!(boardD v b)) (@Eq (HO c_impl_SwapBoard.outs) (([], []), ()) (c_impl_SwapBoard.out (v, b, ()))) ((NeB b) ∧ (@Eq (HO c_impl_SwapBoard.outs) ((b.2, b.1), ()) (c_impl_SwapBoard.out (v, b, ())))))))) (by kernel_rfl) ?_
  rintro v b hp hl
  refine ⟨trivial, bspB (fun h => by simp_all [c_impl_SwapBoard]) (fun h => ?_)⟩
  have hb : boardD v b = true := by simpa using h
  exact ⟨boardD_ne hb, by simp only [c_impl_SwapBoard, if_pos hb]⟩
def c_laws_FnTurns : Con where
  ins := [(false, .v (.sl (.i .u8)))]
  outs := [(false, .v .b)]
  sh := false
  pre := fun x => wfD (TC.sl (.i .u8)) x.1
  out := fun _ => (true, ())
  upd := fun x => x
  eat := false
theorem k_laws_FnTurns [B : Base] : ConOk Try.prog 4 c_laws_FnTurns := by
  refine fn_okW (C := cx Try.prog 121 c_laws_FnTurns) (cs := [(5, c_laws_big), (16, c_spec_DrawPlayTurn), (17, c_impl_PlayTurn), (18, c_spec_PlayTurn), (13, c_laws_w9Games), (19, c_impl_PlaySteps), (14, c_impl_IsGame), (20, c_impl_IsOver), (21, c_impl_ResultOf), (23, c_impl_SwapBoard), (22, c_laws_w9Boards)]) (res := Try.f4.results.toList) (fun _ => ⟨[], [(14, ⟨[[], [0], [0, 1], [0, 1, 2], [0, 1, 2, 3], [0, 1, 2, 3, 4], [0, 1, 2, 3], [0, 1, 2, 3, 6], [0, 1, 2, 3, 4, 5, 6, 7], [0, 1, 2, 3, 4, 5, 6, 7, 8], [0, 1, 2, 3, 4, 5, 6, 7, 8, 9], [0, 1, 2, 3, 4, 5, 6, 7, 8, 9, 10], [0, 1, 2, 3, 4, 5, 6, 7, 8, 9, 10, 11], [0, 1, 2, 3, 4, 5, 6, 7, 8, 9, 10], [0, 1, 2, 3, 4, 5, 6, 7, 8, 9, 10], [0, 1, 2, 3, 4, 5, 6, 7, 8, 9, 10, 13, 14], [0, 1, 2, 3, 4, 5, 6, 7, 8, 9, 10, 11, 12, 13, 14, 15], [0, 1, 2, 3, 4, 5, 6, 7, 8, 9, 10, 11, 12, 13, 14, 15, 16], [0, 1, 2, 3, 4, 5, 6, 7, 8, 9, 10, 11, 12, 13, 14, 15, 16, 17], [0, 1, 2, 3, 4, 5, 6, 7, 8, 9, 10, 11, 12, 13, 14, 15, 16, 17, 18], [0, 1, 2, 3, 4, 5, 6, 7, 8, 9, 10, 11, 12, 13, 14, 15, 16, 17, 18, 19], [0, 1, 2, 3, 4, 5, 6, 7, 8, 9, 10, 11, 12, 13, 14, 15, 16, 17, 18, 19, 20], [0, 1, 2, 3, 4, 5, 6, 7, 8, 9, 10, 11, 12, 13, 14, 15, 16, 17, 18, 19, 20, 21], [0, 1, 2, 3, 4, 5, 6, 7, 8, 9, 10, 11, 12, 13, 14, 15, 16, 17, 18, 19, 20, 21, 22], [0, 1, 2, 3, 4, 5, 6, 7, 8, 9, 10, 11, 12, 13, 14, 15, 16, 17, 18, 19, 20, 21, 22, 23], [0, 1, 2, 3, 4, 5, 6, 7, 8, 9, 10, 11, 12, 13, 14, 15, 16, 17, 18, 19, 20, 21, 22, 23, 24], [0, 1, 2, 3, 4, 5, 6, 7, 8, 9, 10, 11, 12, 13, 14, 15, 16, 17, 18, 19, 20, 21, 22, 23, 24, 25], [0, 1, 2, 3, 4, 5, 6, 7, 8, 9, 10, 11, 12, 13, 14, 15, 16, 17, 18, 19, 20, 21, 22, 23, 24, 25, 26], [0, 1, 2, 3, 4, 5, 6, 7, 8, 9, 10, 11, 12, 13, 14, 15, 16, 17, 18, 19, 20, 21, 22, 23, 24, 25, 26, 27]], [[], [], [], [], [6, 7], [6, 7], [4, 5], [4, 5], [], [], [], [13, 14, 15], [13, 14, 15], [11, 12, 14], [11, 12, 13], [11, 12], [], [], [], [], [], [], [], [], [], [], [], [], []], []⟩), (15, ⟨[[], [0], [0, 1], [0, 1, 2], [0, 1, 2, 3], [0, 1, 2, 3, 4], [0, 1, 2, 3], [0, 1, 2, 3, 6], [0, 1, 2, 3, 6, 7], [0, 1, 2, 3, 4, 5, 6, 7, 8], [0, 1, 2, 3, 4, 5, 6, 7, 8, 9], [0, 1, 2, 3, 4, 5, 6, 7, 8, 9, 10], [0, 1, 2, 3, 4, 5, 6, 7, 8, 9, 10, 11], [0, 1, 2, 3, 4, 5, 6, 7, 8, 9, 10, 11, 12], [0, 1, 2, 3, 4, 5, 6, 7, 8, 9, 10, 11], [0, 1, 2, 3, 4, 5, 6, 7, 8, 9, 10, 11], [0, 1, 2, 3, 4, 5, 6, 7, 8, 9, 10, 11, 14, 15], [0, 1, 2, 3, 4, 5, 6, 7, 8, 9, 10, 11, 12, 13, 14, 15, 16], [0, 1, 2, 3, 4, 5, 6, 7, 8, 9, 10, 11, 12, 13, 14, 15, 16, 17], [0, 1, 2, 3, 4, 5, 6, 7, 8, 9, 10, 11, 12, 13, 14, 15, 16, 17, 18]], [[], [], [], [], [6, 7, 8], [6, 7, 8], [4, 5], [4, 5], [4, 5], [], [], [], [14, 15, 16], [14, 15, 16], [12, 13, 15], [12, 13, 14], [12, 13], [], [], []], []⟩)], []⟩) Try.func4 (by kernel_rfl) rfl rfl rfl tysOk.look eqTsOk.look (AllCs.ok (l := [(5, c_laws_big), (16, c_spec_DrawPlayTurn), (17, c_impl_PlayTurn), (18, c_spec_PlayTurn), (13, c_laws_w9Games), (19, c_impl_PlaySteps), (14, c_impl_IsGame), (20, c_impl_IsOver), (21, c_impl_ResultOf), (23, c_impl_SwapBoard), (22, c_laws_w9Boards)]) ⟨k_laws_big, k_spec_DrawPlayTurn, k_impl_PlayTurn, k_spec_PlayTurn, k_laws_w9Games, k_impl_PlaySteps, k_impl_IsGame, k_impl_IsOver, k_impl_ResultOf, k_impl_SwapBoard, k_laws_w9Boards, trivial⟩) mixed rfl rfl rfl rfl ?_
  refine of_nf (P := ∀ c : List Int, (wfD (TC.sl (.i .u8)) c) → ((lensI c_laws_FnTurns.ins (c, ())) → (True ∧ (bsp (decide (4096 < (List.length c : Int))) (@Eq (HO c_laws_FnTurns.outs) (true, ()) (c_laws_FnTurns.out (c, ()))) ((okC c) ∧ (True ∧ (True ∧ (bsp (decide ((playTurnD (drawGA (fromD c)).1 (drawGA (fromD c)).2.1 (drawPT (drawGA (fromD c)))).2 ≠ (playTurnD (drawGA (fromD c)).1 (drawGA (fromD c)).2.1 (drawPT (drawGA (fromD c)))).2)) (@Eq (HO c_laws_FnTurns.outs) (false, ()) (c_laws_FnTurns.out (c, ()))) (True ∧ (bsp (!(decide ((playTurnD (drawGA (fromD c)).1 (drawGA (fromD c)).2.1 (drawPT (drawGA (fromD c)))).1 = (playTurnD (drawGA (fromD c)).1 (drawGA (fromD c)).2.1 (drawPT (drawGA (fromD c)))).1))) (@Eq (HO c_laws_FnTurns.outs) (false, ()) (c_laws_FnTurns.out (c, ()))) (bsp (decide ((playTurnD (drawGA (fromD c)).1 (drawGA (fromD c)).2.1 (drawPT (drawGA (fromD c)))).2 ≠ (0 : Int))) (@Eq (HO c_laws_FnTurns.outs) (true, ()) (c_laws_FnTurns.out (c, ()))) (True ∧ (bsp (decide ((playStepsD (drawGA (fromD c)).1 (drawGA (fromD c)).2.1.1 (drawGA (fromD c)).2.1.2.2.1 (drawPT (drawGA (fromD c)))).2 ≠ (0 : Int))) (@Eq (HO c_laws_FnTurns.outs) (false, ()) (c_laws_FnTurns.out (c, ()))) ((inK .i64 ((drawGA (fromD c)).2.1.2.2.2.2.2.2 + 1)) ∧ (bsp (decide ((playTurnD (drawGA (fromD c)).1 (drawGA (fromD c)).2.1 (drawPT (drawGA (fromD c)))).1.2.2.2.2.2.2 ≠ ((drawGA (fromD c)).2.1.2.2.2.2.2.2 + 1))) (@Eq (HO c_laws_FnTurns.outs) (false, ()) (c_laws_FnTurns.out (c, ()))) (True ∧ (bsp (!(gameD (drawGA (fromD c)).1 (playTurnD (drawGA (fromD c)).1 (drawGA (fromD c)).2.1 (drawPT (drawGA (fromD c)))).1)) (@Eq (HO c_laws_FnTurns.outs) (false, ()) (c_laws_FnTurns.out (c, ()))) (True ∧ (bsp (boardD (drawGA (fromD c)).1 (playStepsD (drawGA (fromD c)).1 (drawGA (fromD c)).2.1.1 (drawGA (fromD c)).2.1.2.2.1 (drawPT (drawGA (fromD c)))).1 && overD (playStepsD (drawGA (fromD c)).1 (drawGA (fromD c)).2.1.1 (drawGA (fromD c)).2.1.2.2.1 (drawPT (drawGA (fromD c)))).1) (bsp (decide ((playTurnD (drawGA (fromD c)).1 (drawGA (fromD c)).2.1 (drawPT (drawGA (fromD c)))).1.2.2.2.1 = (3 : Int))) (bsp (decide ((playTurnD (drawGA (fromD c)).1 (drawGA (fromD c)).2.1 (drawPT (drawGA (fromD c)))).1.2.2.2.2.1 = (drawGA (fromD c)).2.1.2.1)) (True ∧ (bsp (decide ((playTurnD (drawGA (fromD c)).1 (drawGA (fromD c)).2.1 (drawPT (drawGA (fromD c)))).1.2.2.2.2.2.1 = (if boardD (drawGA (fromD c)).1 (playStepsD (drawGA (fromD c)).1 (drawGA (fromD c)).2.1.1 (drawGA (fromD c)).2.1.2.2.1 (drawPT (drawGA (fromD c)))).1 = true ∧ overD (playStepsD (drawGA (fromD c)).1 (drawGA (fromD c)).2.1.1 (drawGA (fromD c)).2.1.2.2.1 (drawPT (drawGA (fromD c)))).1 = true then resD (drawGA (fromD c)).1 (playStepsD (drawGA (fromD c)).1 (drawGA (fromD c)).2.1.1 (drawGA (fromD c)).2.1.2.2.1 (drawPT (drawGA (fromD c)))).1 else 0))) (bsp (decide ((1 : Int) ≤ (playTurnD (drawGA (fromD c)).1 (drawGA (fromD c)).2.1 (drawPT (drawGA (fromD c)))).1.2.2.2.2.2.1)) (@Eq (HO c_laws_FnTurns.outs) ((decide ((playTurnD (drawGA (fromD c)).1 (drawGA (fromD c)).2.1 (drawPT (drawGA (fromD c)))).1.2.2.2.2.2.1 ≤ (3 : Int))), ()) (c_laws_FnTurns.out (c, ()))) (@Eq (HO c_laws_FnTurns.outs) (false, ()) (c_laws_FnTurns.out (c, ())))) (@Eq (HO c_laws_FnTurns.outs) (false, ()) (c_laws_FnTurns.out (c, ()))))) (@Eq (HO c_laws_FnTurns.outs) (false, ()) (c_laws_FnTurns.out (c, ())))) (@Eq (HO c_laws_FnTurns.outs) (false, ()) (c_laws_FnTurns.out (c, ())))) (bsp (decide ((playTurnD (drawGA (fromD c)).1 (drawGA (fromD c)).2.1 (drawPT (drawGA (fromD c)))).1.2.2.2.1 = (1 : Int))) ((inK .i64 (1 - (drawGA (fromD c)).2.1.2.1)) ∧ (bsp (decide ((playTurnD (drawGA (fromD c)).1 (drawGA (fromD c)).2.1 (drawPT (drawGA (fromD c)))).1.2.1 = (1 - (drawGA (fromD c)).2.1.2.1))) (True ∧ (True ∧ (@Eq (HO c_laws_FnTurns.outs) (decide ((playTurnD (drawGA (fromD c)).1 (drawGA (fromD c)).2.1 (drawPT (drawGA (fromD c)))).1.1 = (if boardD (drawGA (fromD c)).1 (playStepsD (drawGA (fromD c)).1 (drawGA (fromD c)).2.1.1 (drawGA (fromD c)).2.1.2.2.1 (drawPT (drawGA (fromD c)))).1 = true then ((playStepsD (drawGA (fromD c)).1 (drawGA (fromD c)).2.1.1 (drawGA (fromD c)).2.1.2.2.1 (drawPT (drawGA (fromD c)))).1.2, (playStepsD (drawGA (fromD c)).1 (drawGA (fromD c)).2.1.1 (drawGA (fromD c)).2.1.2.2.1 (drawPT (drawGA (fromD c)))).1.1) else ([], []))), ()) (c_laws_FnTurns.out (c, ()))))) (@Eq (HO c_laws_FnTurns.outs) (false, ()) (c_laws_FnTurns.out (c, ()))))) (@Eq (HO c_laws_FnTurns.outs) (false, ()) (c_laws_FnTurns.out (c, ()))))))))))))))))))))))) (by kernel_rfl) ?_
  rintro c hw hl
  refine ⟨trivial, bspD (fun _ => rfl) (fun hb => ?_)⟩
  have hc := okC_ofP hw hb
  clear hw hl hb
  refine ⟨hc, ?_⟩
  clear hc
  generalize drawPT (drawGA (fromD c)) = ss at *
  generalize (drawGA (fromD c)).1 = v at *
  generalize (drawGA (fromD c)).2.1 = g at *
  refine ⟨trivial, trivial, bspD (fun h => absurd rfl h) (fun _ => ⟨trivial, bspB (fun h => by simp at h) (fun _ => bspD (fun _ => rfl) (fun h0 => ?_))⟩)⟩
  obtain ⟨p1, p2, p3, b, p4, p5, p6⟩ := playTurn_ok (Decidable.not_not.1 h0)
  obtain ⟨k1, k2, k3, k4, k5, k6, k7, k8, k9, k10⟩ := game_two p1 p2
  have hps : playStepsD v g.1 g.2.2.1 ss = (b, 0) := by
    have h := playStepsD.eq_1 v g.1 g.2.2.1 ss
    rw [if_neg (by rw [k10]; decide), p4] at h
    exact h
  have hg := game_turn (g := g) (gameD_iff.1 p1).1 k7 ⟨k8, p3⟩ p5
  have hph := turnD_ph v g b
  have hbd := p5.1
  have hr := resD_bd v b
  rw [p6, hps]
  clear p6 hps h0 p1 p4 p5 k1 k2 k3 k4 k10
  refine ⟨trivial, bspD (fun h => absurd rfl h) (fun _ => ⟨by simp only [inK]; omega, bspD (fun h => absurd hph.2 h) (fun _ => ⟨trivial, bspB (fun h => by rw [hg] at h; cases h) (fun _ => ⟨trivial, ?_⟩)⟩)⟩)⟩
  clear hg hph
  cases ho : overD b with
  | true =>
    have e : turnD v g b = (b, g.2.1, (0, 0), 3, g.2.1, resD v b, g.2.2.2.2.2.2 + 1) := if_pos ho
    rw [e]
    refine bspB (fun _ => bspD (fun _ => bspD (fun _ => ⟨trivial, bspD (fun _ => bspD (fun _ => ?_) (fun h => absurd hr.1 h)) (fun h => absurd ?_ h)⟩) (fun h => absurd rfl h)) (fun h => absurd rfl h)) (fun h => ?_)
    · simp only [c_laws_FnTurns, decide_eq_true hr.2]
    · rw [if_pos ⟨hbd, rfl⟩]
    · simp only [hbd, ho] at h; cases h
  | false =>
    have e : turnD v g b = ((b.2, b.1), 1 - g.2.1, (0, 0), 1, 0, 0, g.2.2.2.2.2.2 + 1) := if_neg (by rw [ho]; decide)
    rw [e]
    refine bspB (fun h => ?_) (fun _ => bspD (fun _ => ⟨by simp only [inK]; omega, bspD (fun _ => ⟨trivial, trivial, ?_⟩) (fun h => absurd rfl h)⟩) (fun h => absurd rfl h))
    · simp only [hbd, ho] at h; cases h
    · simp only [hbd, if_true, decide_true]; rfl
end Go.Proofs.Ytlnagcdnnaffgaa
