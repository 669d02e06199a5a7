/-
  Contracts: turns, seeds, the program's self-play.
-/
import Derived.Test.YtgbfcjnkohhfoaaVTurnP
namespace Go.Proofs.Ytgbfcjnkohhfoaa
open Go.RowKit
set_option linter.unusedSimpArgs false
set_option linter.unusedVariables false
def playTurnD (v : DVar) (g : DGame) (ss : List DStep) : DGame × Int :=
  if gameD v g = false then (zeroG, 1) else if g.2.2.2.1 ≠ 2 then (zeroG, 5) else if playO v g.1 g.2.2.1 ss = none then (zeroG, 5) else if g.2.2.2.2.2.2 = 2000 then (zeroG, 3)
  else (turnD v g ((playO v g.1 g.2.2.1 ss).getD ([], [])), 0)
theorem game_two {v : DVar} {g : DGame} (h : gameD v g = true) (hp : g.2.2.2.1 = 2) : varD v = true ∧ okB v g.1 ∧ rollD v g.2.2.1 = true ∧ inPlay v g.1 ∧ g.2.2.2.2.1 = 0 ∧ g.2.2.2.2.2.1 = 0 ∧ (0 ≤ g.2.1 ∧ g.2.1 ≤ 1) ∧ 0 ≤ g.2.2.2.2.2.2 ∧ g.2.2.2.2.2.2 ≤ 2000 ∧ codeD v g.1 g.2.2.1 = 0 := by
  obtain ⟨h1, h2, h3, h4, h5, h6⟩ := gameD_iff.1 h
  rw [if_pos hp] at h5
  obtain ⟨k1, k2, k3, k4⟩ := game_run h (.inr hp)
  have hk := (boardD_iff.1 h2).1
  exact ⟨hk.1, hk, h5, k1, k3, k4, h3, h4.1, h4.2, by unfold codeD; rw [if_neg (by rw [h2]; decide), if_neg (by rw [h5]; decide)]⟩
theorem playTurn_ok {v : DVar} {g : DGame} {ss : List DStep} (h : (playTurnD v g ss).2 = 0) : gameD v g = true ∧ g.2.2.2.1 = 2 ∧ g.2.2.2.2.2.2 < 2000 ∧ ∃ c, playO v g.1 g.2.2.1 ss = some c ∧ inPlay v c ∧ (playTurnD v g ss).1 = turnD v g c := by
  by_cases h1 : gameD v g = false
  · unfold playTurnD at h; rw [if_pos h1] at h; exact absurd (show (1 : Int) = 0 from h) (by decide)
  by_cases h2 : g.2.2.2.1 ≠ 2
  · unfold playTurnD at h; rw [if_neg h1, if_pos h2] at h; exact absurd (show (5 : Int) = 0 from h) (by decide)
  by_cases h3 : playO v g.1 g.2.2.1 ss = none
  · unfold playTurnD at h; rw [if_neg h1, if_neg h2, if_pos h3] at h; exact absurd (show (5 : Int) = 0 from h) (by decide)
  by_cases h4 : g.2.2.2.2.2.2 = 2000
  · unfold playTurnD at h; rw [if_neg h1, if_neg h2, if_neg h3, if_pos h4] at h; exact absurd (show (3 : Int) = 0 from h) (by decide)
  have h1' : gameD v g = true := by simpa using h1
  have h2' : g.2.2.2.1 = 2 := by omega
  obtain ⟨c, hc⟩ := Option.ne_none_iff_exists'.1 h3
  have ht := game_two h1' h2'
  refine ⟨h1', h2', by omega, c, hc, playO_inPlay ht.2.2.2.1 hc, ?_⟩
  unfold playTurnD
  rw [if_neg h1, if_neg h2, if_neg h3, if_neg h4, hc]; rfl
def c_impl_afterTurn : Con where
  ins := [(true, .v tVar), (true, .v tGame), (true, .v tBoard)]
  outs := [(true, .v tGame)]
  sh := true
  pre := fun x => okB x.1 x.2.2.1 ∧ (0 ≤ x.2.1.2.1 ∧ x.2.1.2.1 ≤ 1) ∧ (0 ≤ x.2.1.2.2.2.2.2.2 ∧ x.2.1.2.2.2.2.2.2 ≤ 100000) ∧ x.2.1.2.2.2.2.1 = 0 ∧ x.2.1.2.2.2.2.2.1 = 0
  out := fun x => (turnD x.1 x.2.1 x.2.2.1, ())
  upd := fun x => x
  eat := false
theorem k_impl_afterTurn [B : Base] : ConOk Try.prog 44 c_impl_afterTurn := by
  refine fn_okW (C := cx Try.prog 35 c_impl_afterTurn) (cs := [(74, c_impl_boardOver), (75, c_impl_resultOf), (76, c_impl_swapped)]) (res := Try.f44.results.toList) (fun _ => ⟨[], [], []⟩) Try.func44 (by kernel_rfl) rfl rfl rfl tysOk.look eqTsOk.look (AllCs.ok (l := [(74, c_impl_boardOver), (75, c_impl_resultOf), (76, c_impl_swapped)]) ⟨k_impl_boardOver, k_impl_resultOf, k_impl_swapped, trivial⟩) mixed rfl rfl rfl rfl ?_
  refine of_nf (P := ∀ v : Int × Int × Int × Int, ∀ g : ((List Int) × List Int) × Int × (Int × Int) × Int × Int × Int × Int, ∀ b : (List Int) × List Int, (okB v b ∧ (0 ≤ g.2.1 ∧ g.2.1 ≤ 1) ∧ (0 ≤ g.2.2.2.2.2.2 ∧ g.2.2.2.2.2.2 ≤ 100000) ∧ g.2.2.2.2.1 = 0 ∧ g.2.2.2.2.2.1 = 0) → ((lensI c_impl_afterTurn.ins (v, g, b, ())) → ((inK .i64 (g.2.2.2.2.2.2 + 1)) ∧ ((Bd b.1 ∧ Bd b.2) ∧ (bsp (overD b) ((varD v = true ∧ Bd b.1 ∧ Bd b.2) ∧ (@Eq (HO c_impl_afterTurn.outs) ((b, g.2.1, (0, 0), 3, g.2.1, resD v b, g.2.2.2.2.2.2 + 1), ()) (c_impl_afterTurn.out (v, g, b, ())))) ((NeB b) ∧ ((inK .i64 (1 - g.2.1)) ∧ (@Eq (HO c_impl_afterTurn.outs) (((b.2, b.1), (1 - g.2.1), (0, 0), 1, g.2.2.2.2.1, g.2.2.2.2.2.1, g.2.2.2.2.2.2 + 1), ()) (c_impl_afterTurn.out (v, g, b, ())))))))))) (by kernel_rfl) ?_
  rintro v g b ⟨hb, hp, ht, hw, hr⟩ hl
  have hD := turnD.eq_1 v g b
  have hF := hb.facts
  have out : ∀ r, turnD v g b = r → @Eq (HO c_impl_afterTurn.outs) (r, ()) (c_impl_afterTurn.out (v, g, b, ())) := fun r h => by subst h; rfl
  refine ⟨by simp only [inK]; omega, ⟨hF.1, hF.2.1⟩, bspB (fun h => ?_) (fun h => ?_)⟩
  · exact ⟨⟨hb.1, hF.1, hF.2.1⟩, out _ (hD.trans (if_pos h))⟩
  · refine ⟨okB_neS hb, by simp only [inK]; omega, out _ (hD.trans ?_)⟩
    rw [if_neg (by rw [h]; decide), hw, hr]
theorem seedN_pos {z : Int} (h : 1 ≤ z ∧ z ≤ 2147483646) : 1 ≤ seedN z ∧ seedN z ≤ 2147483646 := by
  have := seedN_bd (z := z) (by omega)
  unfold seedN at this ⊢
  rw [Int.tmod_eq_emod_of_nonneg (by omega)] at this ⊢
  refine ⟨?_, this.2⟩
  have h0 : (48271 * z) % 2147483647 ≠ 0 := fun e => by
    have e2 : (1899818559 * (48271 * z)) % 2147483647 = 0 := by rw [Int.mul_emod, e]; rfl
    omega
  omega
def c_impl_nextSeed : Con where
  ins := [(false, .v tI)]
  outs := [(false, .v tI)]
  sh := false
  pre := fun x => 0 ≤ x.1 ∧ x.1 ≤ 2147483646
  out := fun x => (seedN x.1, ())
  upd := fun x => x
  eat := false
theorem k_impl_nextSeed [B : Base] : ConOk Try.prog 72 c_impl_nextSeed := by
  refine fn_ok (C := cx Try.prog 6 c_impl_nextSeed) (cs := []) (res := Try.f72.results.toList) (fun _ => ⟨[], [], []⟩) Try.func72 (by kernel_rfl) rfl rfl rfl tysOk.look eqTsOk.look (AllCs.ok (l := []) trivial) mixed rfl rfl rfl rfl ?_
  refine of_nf (P := ∀ z : Int, (0 ≤ z ∧ z ≤ 2147483646) → ((lensI c_impl_nextSeed.ins (z, ())) → ((inK .i64 (48271 * z)) ∧ (((2147483647 : Int) ≠ 0) ∧ (@Eq (HO c_impl_nextSeed.outs) ((Int.tmod (48271 * z) 2147483647), ()) (c_impl_nextSeed.out (z, ()))))))) (by kernel_rfl) ?_
  rintro z ⟨h0, h1⟩ hl
  exact ⟨by simp only [inK]; omega, by decide, rfl⟩
def c_impl_isSeed : Con where
  ins := [(false, .v tI)]
  outs := [(false, .v .b)]
  sh := false
  pre := fun _ => True
  out := fun x => (inB x.1 1 2147483646, ())
  upd := fun x => x
  eat := false
theorem k_impl_isSeed [B : Base] : ConOk Try.prog 40 c_impl_isSeed := by
  refine fn_ok (C := cx Try.prog 5 c_impl_isSeed) (cs := [(41, c_impl_within)]) (res := Try.f40.results.toList) (fun _ => ⟨[], [], []⟩) Try.func40 (by kernel_rfl) rfl rfl rfl tysOk.look eqTsOk.look (AllCs.ok (l := [(41, c_impl_within)]) ⟨k_impl_within, trivial⟩) mixed rfl rfl rfl rfl ?_
  refine of_nf (P := ∀ z : Int, (True) → ((lensI c_impl_isSeed.ins (z, ())) → (True ∧ (@Eq (HO c_impl_isSeed.outs) (inB z (1 : Int) (2147483646 : Int), ()) (c_impl_isSeed.out (z, ())))))) (by kernel_rfl) ?_
  rintro z hp hl
  exact ⟨trivial, rfl⟩
def c_impl_rollFrom : Con where
  ins := [(true, .v tVar), (false, .v tI)]
  outs := [(true, .v tRoll), (false, .v tI)]
  sh := false
  pre := fun x => varD x.1 = true ∧ 0 ≤ x.2.1 ∧ x.2.1 ≤ 2147483646
  out := fun x => (rollF x.1 x.2.1, seedN (seedN x.2.1), ())
  upd := fun x => x
  eat := false
theorem k_impl_rollFrom [B : Base] : ConOk Try.prog 43 c_impl_rollFrom := by
  refine fn_okW (C := cx Try.prog 24 c_impl_rollFrom) (cs := [(72, c_impl_nextSeed), (73, c_impl_rollOfFaces)]) (res := Try.f43.results.toList) (fun _ => ⟨[], [(3, ⟨[[], [], [1], [0, 1, 2], [0, 1, 2, 3], [], [], [6], [5, 6, 7], [5, 6, 7, 8], [0, 1, 2, 3, 4, 5, 6, 7, 8, 9], [], [0, 1, 2, 3, 4, 5, 6, 7, 8, 9, 10], [0, 1, 2, 3, 4, 5, 6, 7, 8, 9, 10, 11, 12]], [[1, 2, 5, 6, 7, 8, 9, 11], [0, 5, 6, 7, 8, 9, 11], [0, 5, 6, 7, 8, 9, 11], [5, 6, 7, 8, 9, 11], [5, 6, 7, 8, 9, 11], [0, 1, 2, 3, 4, 6, 7, 11], [0, 1, 2, 3, 4, 5, 11], [0, 1, 2, 3, 4, 5, 11], [0, 1, 2, 3, 4, 11], [0, 1, 2, 3, 4, 11], [11], [0, 1, 2, 3, 4, 5, 6, 7, 8, 9, 10, 12], [11], []], [[], [], [], [], [], [], [], [], [], [], [], [16], [], []]⟩)], []⟩) Try.func43 (by kernel_rfl) rfl rfl rfl tysOk.look eqTsOk.look (AllCs.ok (l := [(72, c_impl_nextSeed), (73, c_impl_rollOfFaces)]) ⟨k_impl_nextSeed, k_impl_rollOfFaces, trivial⟩) mixed rfl rfl rfl rfl ?_
  refine of_nf (P := ∀ v : Int × Int × Int × Int, ∀ z : Int, (varD v = true ∧ 0 ≤ z ∧ z ≤ 2147483646) → ((lensI c_impl_rollFrom.ins (v, z, ())) → ((0 ≤ z ∧ z ≤ 2147483646) ∧ ((0 ≤ (seedN z) ∧ (seedN z) ≤ 2147483646) ∧ ((v.2.2.2 ≠ 0) ∧ ((inK .i64 (1 + (Int.tmod (seedN z) v.2.2.2))) ∧ ((v.2.2.2 ≠ 0) ∧ ((inK .i64 (1 + (Int.tmod (seedN (seedN z)) v.2.2.2))) ∧ (True ∧ (@Eq (HO c_impl_rollFrom.outs) ((max (1 + (Int.tmod (seedN z) v.2.2.2)) (1 + (Int.tmod (seedN (seedN z)) v.2.2.2)), min (1 + (Int.tmod (seedN z) v.2.2.2)) (1 + (Int.tmod (seedN (seedN z)) v.2.2.2))), seedN (seedN z), ()) (c_impl_rollFrom.out (v, z, ())))))))))))) (by kernel_rfl) ?_
  rintro v z ⟨hv, h0, h1⟩ hl
  have b1 := seedN_bd h0
  have b2 := seedN_bd b1.1
  have hs := (varD_iff.1 hv).2.2.2
  have e1 : Int.tmod (seedN z) v.2.2.2 = seedN z % v.2.2.2 := Int.tmod_eq_emod_of_nonneg b1.1
  have e2 : Int.tmod (seedN (seedN z)) v.2.2.2 = seedN (seedN z) % v.2.2.2 := Int.tmod_eq_emod_of_nonneg b2.1
  have a1 := Int.emod_nonneg (seedN z) (show v.2.2.2 ≠ 0 by omega)
  have a2 := Int.emod_lt_of_pos (seedN z) (show 0 < v.2.2.2 by omega)
  have a3 := Int.emod_nonneg (seedN (seedN z)) (show v.2.2.2 ≠ 0 by omega)
  have a4 := Int.emod_lt_of_pos (seedN (seedN z)) (show 0 < v.2.2.2 by omega)
  exact ⟨⟨h0, h1⟩, b1, by omega, by simp only [inK]; omega, by omega, by simp only [inK]; omega, trivial, rfl⟩
def c_impl_NewGame : Con where
  ins := [(true, .v tVar)]
  outs := [(true, .pr (.pr (.own 2 tI) (.own 2 tI)) (.v (.pr tI (.pr tRoll tVar)))), (false, .v tI)]
  sh := false
  pre := fun _ => True
  out := fun x => ((if varD x.1 = false then zeroG else if bigD x.1 = false then zeroG else newG x.1), (if varD x.1 = false then (1 : Int) else if bigD x.1 = false then 2 else 0), ())
  upd := fun x => x
  eat := false
theorem k_impl_NewGame [B : Base] : ConOk Try.prog 39 c_impl_NewGame := by
  refine fn_okW (C := cx Try.prog 20 c_impl_NewGame) (cs := [(69, c_impl_IsVariant), (70, c_impl_StartBoard)]) (res := Try.f39.results.toList) (fun _ => ⟨[], [], []⟩) Try.func39 (by kernel_rfl) rfl rfl rfl tysOk.look eqTsOk.look (AllCs.ok (l := [(69, c_impl_IsVariant), (70, c_impl_StartBoard)]) ⟨k_impl_IsVariant, k_impl_StartBoard, trivial⟩) mixed rfl rfl rfl rfl ?_
  refine of_nf (P := ∀ v : Int × Int × Int × Int, (True) → ((lensI c_impl_NewGame.ins (v, ())) → (True ∧ (bsp (!(varD v)) (@Eq (HO c_impl_NewGame.outs) ((([], []), 0, (0, 0), 0, 0, 0, 0), 1, ()) (c_impl_NewGame.out (v, ()))) (True ∧ (bsp (!(bigD v)) (@Eq (HO c_impl_NewGame.outs) ((([], []), 0, (0, 0), 0, 0, 0, 0), 2, ()) (c_impl_NewGame.out (v, ()))) (@Eq (HO c_impl_NewGame.outs) (((if bigD v then (startD v, startD v) else ([], [])), 0, (0, 0), 0, 0, 0, 0), 0, ()) (c_impl_NewGame.out (v, ()))))))))) (by kernel_rfl) ?_
  rintro v hp hl
  refine ⟨trivial, bspB (fun h => by simp_all [c_impl_NewGame, zeroG]) (fun h => ?_)⟩
  have hv : varD v = true := by simpa using h
  refine ⟨trivial, bspB (fun g => ?_) (fun g => ?_)⟩
  · have hb : bigD v = false := by simpa using g
    simp [c_impl_NewGame, hv, hb, zeroG]
  · have hb : bigD v = true := by simpa using g
    simp [c_impl_NewGame, hv, hb, newG]
end Go.Proofs.Ytgbfcjnkohhfoaa
