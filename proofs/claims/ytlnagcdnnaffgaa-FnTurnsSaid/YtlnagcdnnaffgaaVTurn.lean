/-
  Contracts: turns, seeds, the program's self-play.
-/
import Derived.Test.YtlnagcdnnaffgaaVTurnP
namespace Go.Proofs.Ytlnagcdnnaffgaa
open Go.RowKit
set_option linter.unusedSimpArgs false
set_option linter.unusedVariables false
def playTurnD (v : DVar) (g : DGame) (ss : List DStep) : DGame × Int :=
  if gameD v g = false then (zeroG, 1) else if g.2.2.2.1 ≠ 2 then (zeroG, 5) else if playO v g.1 g.2.2.1 ss = none then (zeroG, 5) else if g.2.2.2.2.2.2 = 2000 then (zeroG, 3)
  else (turnD v g ((playO v g.1 g.2.2.1 ss).getD ([], [])), 0)
theorem game_two {v : DVar} {g : DGame} (h : gameD v g = true) (hp : g.2.2.2.1 = 2) : varD v = true ∧ okB v g.1 ∧ rollD v g.2.2.1 = true ∧ inPlay v g.1 ∧ g.2.2.2.2.1 = 0 ∧ g.2.2.2.2.2.1 = 0 ∧ (0 ≤ g.2.1 ∧ g.2.1 ≤ 1) ∧ 0 ≤ g.2.2.2.2.2.2 ∧ g.2.2.2.2.2.2 ≤ 2000 ∧ codeD v g.1 g.2.2.1 = 0 := by
  obtain ⟨h1, h2, h3, h4, h5, h6⟩ := gameD_iff.1 h
  rw [if_pos hp] at h5
  obtain ⟨k1, k2, k3, k4⟩ := game_run h (.inr hp)
  have hk := (boardD_iff.1 h2).1
  exact ⟨hk.1, hk, h5, k1, k3, k4, h3, h4.1, h4.2, by unfold codeD; rw [if_neg (by rw [h2]; decide), if_neg (by rw [h5]; decide)]⟩
theorem playTurn_ok {v : DVar} {g : DGame} {ss : List DStep} (h : (playTurnD v g ss).2 = 0) : gameD v g = true ∧ g.2.2.2.1 = 2 ∧ g.2.2.2.2.2.2 < 2000 ∧ ∃ c, playO v g.1 g.2.2.1 ss = some c ∧ inPlay v c ∧ (playTurnD v g ss).1 = turnD v g c := by
  by_cases h1 : gameD v g = false
  · unfold playTurnD at h; rw [if_pos h1] at h; exact absurd (show (1 : Int) = 0 from h) (by decide)
  by_cases h2 : g.2.2.2.1 ≠ 2
  · unfold playTurnD at h; rw [if_neg h1, if_pos h2] at h; exact absurd (show (5 : Int) = 0 from h) (by decide)
  by_cases h3 : playO v g.1 g.2.2.1 ss = none
  · unfold playTurnD at h; rw [if_neg h1, if_neg h2, if_pos h3] at h; exact absurd (show (5 : Int) = 0 from h) (by decide)
  by_cases h4 : g.2.2.2.2.2.2 = 2000
  · unfold playTurnD at h; rw [if_neg h1, if_neg h2, if_neg h3, if_pos h4] at h; exact absurd (show (3 : Int) = 0 from h) (by decide)
  have h1' : gameD v g = true := by simpa using h1
  have h2' : g.2.2.2.1 = 2 := by omega
  obtain ⟨c, hc⟩ := Option.ne_none_iff_exists'.1 h3
  have ht := game_two h1' h2'
  refine ⟨h1', h2', by omega, c, hc, playO_inPlay ht.2.2.2.1 hc, ?_⟩
  unfold playTurnD
  rw [if_neg h1, if_neg h2, if_neg h3, if_neg h4, hc]; rfl
def c_impl_afterTurn : Con where
  ins := [(true, .v tVar), (true, .v tGame), (true, .v tBoard)]
  outs := [(true, .v tGame)]
  sh := true
  pre := fun x => okB x.1 x.2.2.1 ∧ (0 ≤ x.2.1.2.1 ∧ x.2.1.2.1 ≤ 1) ∧ (0 ≤ x.2.1.2.2.2.2.2.2 ∧ x.2.1.2.2.2.2.2.2 ≤ 100000) ∧ x.2.1.2.2.2.2.1 = 0 ∧ x.2.1.2.2.2.2.2.1 = 0
  out := fun x => (turnD x.1 x.2.1 x.2.2.1, ())
  upd := fun x => x
  eat := false
theorem k_impl_afterTurn [B : Base] : ConOk Try.prog 48 c_impl_afterTurn := by
  refine fn_okW (C := cx Try.prog 35 c_impl_afterTurn) (cs := [(39, c_impl_boardOver), (43, c_impl_resultOf), (30, c_impl_swapped)]) (res := Try.f48.results.toList) (fun _ => ⟨[], [], []⟩) Try.func48 (by kernel_rfl) rfl rfl rfl tysOk.look eqTsOk.look (AllCs.ok (l := [(39, c_impl_boardOver), (43, c_impl_resultOf), (30, c_impl_swapped)]) ⟨k_impl_boardOver, k_impl_resultOf, k_impl_swapped, trivial⟩) mixed rfl rfl rfl rfl ?_
  refine of_nf (P := ∀ v : Int × Int × Int × Int, ∀ g : ((List Int) × List Int) × Int × (Int × Int) × Int × Int × Int × Int, ∀ b : (List Int) × List Int, (okB v b ∧ (0 ≤ g.2.1 ∧ g.2.1 ≤ 1) ∧ (0 ≤ g.2.2.2.2.2.2 ∧ g.2.2.2.2.2.2 ≤ 100000) ∧ g.2.2.2.2.1 = 0 ∧ g.2.2.2.2.2.1 = 0) → ((lensI c_impl_afterTurn.ins (v, g, b, ())) → ((inK .i64 (g.2.2.2.2.2.2 + 1)) ∧ ((Bd b.1 ∧ Bd b.2) ∧ (bsp (overD b) ((varD v = true ∧ Bd b.1 ∧ Bd b.2) ∧ (@Eq (HO c_impl_afterTurn.outs) ((b, g.2.1, (0, 0), 3, g.2.1, resD v b, g.2.2.2.2.2.2 + 1), ()) (c_impl_afterTurn.out (v, g, b, ())))) ((NeB b) ∧ ((inK .i64 (1 - g.2.1)) ∧ (@Eq (HO c_impl_afterTurn.outs) (((b.2, b.1), (1 - g.2.1), (0, 0), 1, g.2.2.2.2.1, g.2.2.2.2.2.1, g.2.2.2.2.2.2 + 1), ()) (c_impl_afterTurn.out (v, g, b, ())))))))))) (by kernel_rfl) ?_
  rintro v g b ⟨hb, hp, ht, hw, hr⟩ hl
  have hD := turnD.eq_1 v g b
  have hF := hb.facts
  have out : ∀ r, turnD v g b = r → @Eq (HO c_impl_afterTurn.outs) (r, ()) (c_impl_afterTurn.out (v, g, b, ())) := fun r h => by subst h; rfl
  refine ⟨by simp only [inK]; omega, ⟨hF.1, hF.2.1⟩, bspB (fun h => ?_) (fun h => ?_)⟩
  · exact ⟨⟨hb.1, hF.1, hF.2.1⟩, out _ (hD.trans (if_pos h))⟩
  · refine ⟨okB_neS hb, by simp only [inK]; omega, out _ (hD.trans ?_)⟩
    rw [if_neg (by rw [h]; decide), hw, hr]
def c_impl_PlayTurn : Con where
  ins := [(true, .v tVar), (true, .v tGame), (false, .v (.sl tStep))]
  outs := [(true, .v tGame), (false, .v tI)]
  sh := true
  pre := fun _ => True
  out := fun x => ((playTurnD x.1 x.2.1 x.2.2.1).1, (playTurnD x.1 x.2.1 x.2.2.1).2, ())
  upd := fun x => x
  eat := false
theorem k_impl_PlayTurn [B : Base] : ConOk Try.prog 17 c_impl_PlayTurn := by
  refine fn_okW (C := cx Try.prog 40 c_impl_PlayTurn) (cs := [(14, c_impl_IsGame), (47, c_impl_playSteps), (48, c_impl_afterTurn)]) (res := Try.f17.results.toList) (fun _ => ⟨[], [], []⟩) Try.func17 (by kernel_rfl) rfl rfl rfl tysOk.look eqTsOk.look (AllCs.ok (l := [(14, c_impl_IsGame), (47, c_impl_playSteps), (48, c_impl_afterTurn)]) ⟨k_impl_IsGame, k_impl_playSteps, k_impl_afterTurn, trivial⟩) mixed rfl rfl rfl rfl ?_
  refine of_nf (P := ∀ v : Int × Int × Int × Int, ∀ g : ((List Int) × List Int) × Int × (Int × Int) × Int × Int × Int × Int, ∀ ss : List (Int × Int × Int × Bool), (True) → ((lensI c_impl_PlayTurn.ins (v, g, ss, ())) → (True ∧ (bsp (!(gameD v g)) (@Eq (HO c_impl_PlayTurn.outs) ((([], []), 0, (0, 0), 0, 0, 0, 0), 1, ()) (c_impl_PlayTurn.out (v, g, ss, ()))) (bsp (decide (g.2.2.2.1 ≠ (2 : Int))) (@Eq (HO c_impl_PlayTurn.outs) ((([], []), 0, (0, 0), 0, 0, 0, 0), 5, ()) (c_impl_PlayTurn.out (v, g, ss, ()))) ((okB v g.1 ∧ rollD v g.2.2.1 = true) ∧ (bsp (!(Option.isSome (playO v g.1 g.2.2.1 ss))) (@Eq (HO c_impl_PlayTurn.outs) ((([], []), 0, (0, 0), 0, 0, 0, 0), 5, ()) (c_impl_PlayTurn.out (v, g, ss, ()))) (bsp (decide (g.2.2.2.2.2.2 = (2000 : Int))) (@Eq (HO c_impl_PlayTurn.outs) ((([], []), 0, (0, 0), 0, 0, 0, 0), 3, ()) (c_impl_PlayTurn.out (v, g, ss, ()))) ((okB v (Option.getD (playO v g.1 g.2.2.1 ss) ([], [])) ∧ (0 ≤ g.2.1 ∧ g.2.1 ≤ 1) ∧ (0 ≤ g.2.2.2.2.2.2 ∧ g.2.2.2.2.2.2 ≤ 100000) ∧ g.2.2.2.2.1 = 0 ∧ g.2.2.2.2.2.1 = 0) ∧ (@Eq (HO c_impl_PlayTurn.outs) ((turnD v g (Option.getD (playO v g.1 g.2.2.1 ss) ([], []))), 0, ()) (c_impl_PlayTurn.out (v, g, ss, ())))))))))))) (by kernel_rfl) ?_
  rintro v g ss hp hl
  have hD := playTurnD.eq_1 v g ss
  have out : ∀ r : DGame × Int, playTurnD v g ss = r → @Eq (HO c_impl_PlayTurn.outs) (r.1, r.2, ()) (c_impl_PlayTurn.out (v, g, ss, ())) := fun r h => by subst h; rfl
  refine ⟨trivial, bspB (fun h => out _ (hD.trans (if_pos (by simpa using h)))) (fun h => ?_)⟩
  have h1 : gameD v g = true := by simpa using h
  rw [if_neg (by rw [h1]; decide)] at hD
  refine bspD (fun h2 => out _ (hD.trans (if_pos h2))) (fun h2 => ?_)
  rw [if_neg h2] at hD
  obtain ⟨k1, k2, k3, k4, k5, k6, k7, k8, k9, k10⟩ := game_two h1 (by omega)
  refine ⟨⟨k2, k3⟩, bspB (fun h3 => out _ (hD.trans (if_pos (by simpa using h3)))) (fun h3 => ?_)⟩
  have h3' : playO v g.1 g.2.2.1 ss ≠ none := fun e => by rw [e] at h3; simp at h3
  rw [if_neg h3'] at hD
  refine bspD (fun h4 => out _ (hD.trans (if_pos h4))) (fun h4 => ?_)
  rw [if_neg h4] at hD
  obtain ⟨c, hc⟩ := Option.ne_none_iff_exists'.1 h3'
  have hcp := playO_inPlay k4 hc
  refine ⟨⟨?_, k7, ⟨k8, by omega⟩, k5, k6⟩, out _ hD⟩
  rw [hc]; exact (boardD_iff.1 hcp.1).1
def c_spec_PlayTurn : Con where
  ins := [(true, .v tVar), (true, .v tGame), (false, .v (.sl tStep))]
  outs := [(true, .pr (.pr (.own 2 tI) (.own 2 tI)) (.v (.pr tI (.pr tRoll tVar)))), (false, .v tI)]
  sh := false
  pre := fun _ => True
  out := fun x => ((playTurnD x.1 x.2.1 x.2.2.1).1, (playTurnD x.1 x.2.1 x.2.2.1).2, ())
  upd := fun x => x
  eat := false
theorem k_spec_PlayTurn [B : Base] : ConOk Try.prog 18 c_spec_PlayTurn := by
  refine fn_okW (C := cx Try.prog 40 c_spec_PlayTurn) (cs := [(32, c_spec_l08Valid), (49, c_spec_PlaySteps), (50, c_spec_l08Turn)]) (res := Try.f18.results.toList) (fun _ => ⟨[], [], []⟩) Try.func18 (by kernel_rfl) rfl rfl rfl tysOk.look eqTsOk.look (AllCs.ok (l := [(32, c_spec_l08Valid), (49, c_spec_PlaySteps), (50, c_spec_l08Turn)]) ⟨k_spec_l08Valid, k_spec_PlaySteps, k_spec_l08Turn, trivial⟩) mixed rfl rfl rfl rfl ?_
  refine of_nf (P := ∀ v : Int × Int × Int × Int, ∀ g : ((List Int) × List Int) × Int × (Int × Int) × Int × Int × Int × Int, ∀ ss : List (Int × Int × Int × Bool), (True) → ((lensI c_spec_PlayTurn.ins (v, g, ss, ())) → (True ∧ (bsp (!(gameD v g)) (@Eq (HO c_spec_PlayTurn.outs) ((([], []), 0, (0, 0), 0, 0, 0, 0), 1, ()) (c_spec_PlayTurn.out (v, g, ss, ()))) (bsp (decide (g.2.2.2.1 ≠ (2 : Int))) (@Eq (HO c_spec_PlayTurn.outs) ((([], []), 0, (0, 0), 0, 0, 0, 0), 5, ()) (c_spec_PlayTurn.out (v, g, ss, ()))) (True ∧ (bsp (decide ((playStepsD v g.1 g.2.2.1 ss).2 ≠ (0 : Int))) (@Eq (HO c_spec_PlayTurn.outs) ((([], []), 0, (0, 0), 0, 0, 0, 0), 5, ()) (c_spec_PlayTurn.out (v, g, ss, ()))) (bsp (decide (g.2.2.2.2.2.2 = (2000 : Int))) (@Eq (HO c_spec_PlayTurn.outs) ((([], []), 0, (0, 0), 0, 0, 0, 0), 3, ()) (c_spec_PlayTurn.out (v, g, ss, ()))) (((varD v = true ∧ Bd (playStepsD v g.1 g.2.2.1 ss).1.1 ∧ Bd (playStepsD v g.1 g.2.2.1 ss).1.2) ∧ (0 ≤ g.2.1 ∧ g.2.1 ≤ 1) ∧ 0 ≤ g.2.2.2.2.2.2 ∧ g.2.2.2.2.2.2 ≤ 100000) ∧ (@Eq (HO c_spec_PlayTurn.outs) ((turnD v g (playStepsD v g.1 g.2.2.1 ss).1), 0, ()) (c_spec_PlayTurn.out (v, g, ss, ())))))))))))) (by kernel_rfl) ?_
  rintro v g ss hp hl
  have hD := playTurnD.eq_1 v g ss
  have out : ∀ r : DGame × Int, playTurnD v g ss = r → @Eq (HO c_spec_PlayTurn.outs) (r.1, r.2, ()) (c_spec_PlayTurn.out (v, g, ss, ())) := fun r h => by subst h; rfl
  refine ⟨trivial, bspB (fun h => out _ (hD.trans (if_pos (by simpa using h)))) (fun h => ?_)⟩
  have h1 : gameD v g = true := by simpa using h
  rw [if_neg (by rw [h1]; decide)] at hD
  refine bspD (fun h2 => out _ (hD.trans (if_pos h2))) (fun h2 => ?_)
  rw [if_neg h2] at hD
  obtain ⟨k1, k2, k3, k4, k5, k6, k7, k8, k9, k10⟩ := game_two h1 (by omega)
  have hps := playStepsD.eq_1 v g.1 g.2.2.1 ss
  rw [if_neg (by rw [k10]; decide)] at hps
  refine ⟨trivial, bspD (fun h3 => out _ (hD.trans (if_pos ?_))) (fun h3 => ?_)⟩
  · rw [hps] at h3
    by_cases e : playO v g.1 g.2.2.1 ss = none
    · exact e
    · obtain ⟨c, hc⟩ := Option.ne_none_iff_exists'.1 e
      rw [hc] at h3; exact absurd rfl h3
  have h3' : playO v g.1 g.2.2.1 ss ≠ none := fun e => by rw [hps, e] at h3; exact h3 (by decide)
  rw [if_neg h3'] at hD
  refine bspD (fun h4 => out _ (hD.trans (if_pos h4))) (fun h4 => ?_)
  rw [if_neg h4] at hD
  obtain ⟨c, hc⟩ := Option.ne_none_iff_exists'.1 h3'
  have hcp := playO_inPlay k4 hc
  have hF := ((boardD_iff.1 hcp.1).1).facts
  have e : (playStepsD v g.1 g.2.2.1 ss).1 = c := by rw [hps, hc]; rfl
  rw [hc] at hD
  rw [e]
  exact ⟨⟨⟨k1, hF.1, hF.2.1⟩, k7, k8, by omega⟩, out _ hD⟩
theorem seedN_pos {z : Int} (h : 1 ≤ z ∧ z ≤ 2147483646) : 1 ≤ seedN z ∧ seedN z ≤ 2147483646 := by
  have := seedN_bd (z := z) (by omega)
  unfold seedN at this ⊢
  rw [Int.tmod_eq_emod_of_nonneg (by omega)] at this ⊢
  refine ⟨?_, this.2⟩
  have h0 : (48271 * z) % 2147483647 ≠ 0 := fun e => by
    have e2 : (1899818559 * (48271 * z)) % 2147483647 = 0 := by rw [Int.mul_emod, e]; rfl
    omega
  omega
end Go.Proofs.Ytlnagcdnnaffgaa
