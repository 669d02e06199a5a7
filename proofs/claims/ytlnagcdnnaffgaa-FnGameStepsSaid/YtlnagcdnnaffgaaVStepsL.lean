/-
  The law FnGameSteps.
-/
import Derived.Test.YtlnagcdnnaffgaaVDrawH
import Derived.Test.YtlnagcdnnaffgaaAbL
namespace Go.Proofs.Ytlnagcdnnaffgaa
open Go.RowKit
set_option linter.unusedSimpArgs false
set_option linter.unusedVariables false
def c_spec_IsGame : Con where
  ins := [(true, .v tVar), (true, .v tGame)]
  outs := [(false, .v .b)]
  sh := false
  pre := fun _ => True
  out := fun x => (gameD x.1 x.2.1, ())
  upd := fun x => x
  eat := false
theorem k_spec_IsGame [B : Base] : ConOk Try.prog 15 c_spec_IsGame := by
  refine fn_okW (C := cx Try.prog 8 c_spec_IsGame) (cs := [(32, c_spec_l08Valid)]) (res := Try.f15.results.toList) (fun _ => ⟨[], [], []⟩) Try.func15 (by kernel_rfl) rfl rfl rfl tysOk.look eqTsOk.look (AllCs.ok (l := [(32, c_spec_l08Valid)]) ⟨k_spec_l08Valid, trivial⟩) mixed rfl rfl rfl rfl ?_
  refine of_nf (P := ∀ v : Int × Int × Int × Int, ∀ g : ((List Int) × List Int) × Int × (Int × Int) × Int × Int × Int × Int, (True) → ((lensI c_spec_IsGame.ins (v, g, ())) → (True ∧ (@Eq (HO c_spec_IsGame.outs) (gameD v g, ()) (c_spec_IsGame.out (v, g, ())))))) (by kernel_rfl) ?_
  rintro v g hp hl
  exact ⟨trivial, rfl⟩
def c_laws_FnGameSteps : Con where
  ins := [(false, .v (.sl (.i .u8)))]
  outs := [(false, .v .b)]
  sh := false
  pre := fun x => wfD (TC.sl (.i .u8)) x.1
  out := fun _ => (true, ())
  upd := fun x => x
  eat := false
theorem k_laws_FnGameSteps [B : Base] : ConOk Try.prog 3 c_laws_FnGameSteps := by
  refine fn_okW (C := cx Try.prog 139 c_laws_FnGameSteps) (cs := [(5, c_laws_big), (6, c_spec_DrawRollDice), (7, c_impl_RollDice), (8, c_impl_ResignGame), (9, c_impl_OpeningRoll), (10, c_spec_RollDice), (11, c_spec_ResignGame), (12, c_spec_OpeningRoll), (13, c_laws_w9Games), (14, c_impl_IsGame), (15, c_spec_IsGame)]) (res := Try.f3.results.toList) (fun _ => ⟨[], [(12, ⟨[[], [], [0, 1], [], [], [0, 1, 2, 3, 4], [0, 1, 2, 3, 4, 5]], [[1, 3, 4], [0, 3, 4], [3, 4], [0, 1, 2, 4], [0, 1, 2, 3], [], []], []⟩)], []⟩) Try.func3 (by kernel_rfl) rfl rfl rfl tysOk.look eqTsOk.look (AllCs.ok (l := [(5, c_laws_big), (6, c_spec_DrawRollDice), (7, c_impl_RollDice), (8, c_impl_ResignGame), (9, c_impl_OpeningRoll), (10, c_spec_RollDice), (11, c_spec_ResignGame), (12, c_spec_OpeningRoll), (13, c_laws_w9Games), (14, c_impl_IsGame), (15, c_spec_IsGame)]) ⟨k_laws_big, k_spec_DrawRollDice, k_impl_RollDice, k_impl_ResignGame, k_impl_OpeningRoll, k_spec_RollDice, k_spec_ResignGame, k_spec_OpeningRoll, k_laws_w9Games, k_impl_IsGame, k_spec_IsGame, trivial⟩) mixed rfl rfl rfl rfl ?_
  refine of_nf (P := ∀ c : List Int, (wfD (TC.sl (.i .u8)) c) → ((lensI c_laws_FnGameSteps.ins (c, ())) → (True ∧ (bsp (decide (4096 < (List.length c : Int))) (@Eq (HO c_laws_FnGameSteps.outs) (true, ()) (c_laws_FnGameSteps.out (c, ()))) ((okC c) ∧ (True ∧ (True ∧ (True ∧ (True ∧ (True ∧ (True ∧ (bsp (decide ((rollDiceD (drawGA (fromD c)).1 (drawGA (fromD c)).2.1 (drawRl (drawGA (fromD c)).1 (drawGA (fromD c)).2.2).1).2 ≠ (rollDiceD (drawGA (fromD c)).1 (drawGA (fromD c)).2.1 (drawRl (drawGA (fromD c)).1 (drawGA (fromD c)).2.2).1).2)) (@Eq (HO c_laws_FnGameSteps.outs) (false, ()) (c_laws_FnGameSteps.out (c, ()))) (bsp (decide ((resignD (drawGA (fromD c)).1 (drawGA (fromD c)).2.1 (2 : Int)).2 ≠ (resignD (drawGA (fromD c)).1 (drawGA (fromD c)).2.1 (2 : Int)).2)) (@Eq (HO c_laws_FnGameSteps.outs) (false, ()) (c_laws_FnGameSteps.out (c, ()))) (bsp (decide ((openingD (drawGA (fromD c)).1 (drawGA (fromD c)).2.1 (1 : Int) (drawGA (fromD c)).1.2.2.2).2 ≠ (openingD (drawGA (fromD c)).1 (drawGA (fromD c)).2.1 (1 : Int) (drawGA (fromD c)).1.2.2.2).2)) (@Eq (HO c_laws_FnGameSteps.outs) (false, ()) (c_laws_FnGameSteps.out (c, ()))) (True ∧ (bsp (!(decide ((rollDiceD (drawGA (fromD c)).1 (drawGA (fromD c)).2.1 (drawRl (drawGA (fromD c)).1 (drawGA (fromD c)).2.2).1).1 = (rollDiceD (drawGA (fromD c)).1 (drawGA (fromD c)).2.1 (drawRl (drawGA (fromD c)).1 (drawGA (fromD c)).2.2).1).1))) (@Eq (HO c_laws_FnGameSteps.outs) (false, ()) (c_laws_FnGameSteps.out (c, ()))) (True ∧ (bsp (!(decide ((resignD (drawGA (fromD c)).1 (drawGA (fromD c)).2.1 (2 : Int)).1 = (resignD (drawGA (fromD c)).1 (drawGA (fromD c)).2.1 (2 : Int)).1))) (@Eq (HO c_laws_FnGameSteps.outs) (false, ()) (c_laws_FnGameSteps.out (c, ()))) (True ∧ (bsp (!(decide ((openingD (drawGA (fromD c)).1 (drawGA (fromD c)).2.1 (1 : Int) (drawGA (fromD c)).1.2.2.2).1 = (openingD (drawGA (fromD c)).1 (drawGA (fromD c)).2.1 (1 : Int) (drawGA (fromD c)).1.2.2.2).1))) (@Eq (HO c_laws_FnGameSteps.outs) (false, ()) (c_laws_FnGameSteps.out (c, ()))) (True ∧ (True ∧ (bsp (gameD (drawGA (fromD c)).1 (drawGA (fromD c)).2.1 != gameD (drawGA (fromD c)).1 (drawGA (fromD c)).2.1) (@Eq (HO c_laws_FnGameSteps.outs) (false, ()) (c_laws_FnGameSteps.out (c, ()))) (bsp (decide ((rollDiceD (drawGA (fromD c)).1 (drawGA (fromD c)).2.1 (drawRl (drawGA (fromD c)).1 (drawGA (fromD c)).2.2).1).2 ≠ (0 : Int))) (bsp (decide ((resignD (drawGA (fromD c)).1 (drawGA (fromD c)).2.1 (2 : Int)).2 ≠ (0 : Int))) (bsp (decide ((openingD (drawGA (fromD c)).1 (drawGA (fromD c)).2.1 (1 : Int) (drawGA (fromD c)).1.2.2.2).2 ≠ (0 : Int))) (@Eq (HO c_laws_FnGameSteps.outs) (true, ()) (c_laws_FnGameSteps.out (c, ()))) (True ∧ (@Eq (HO c_laws_FnGameSteps.outs) (gameD (drawGA (fromD c)).1 (openingD (drawGA (fromD c)).1 (drawGA (fromD c)).2.1 (1 : Int) (drawGA (fromD c)).1.2.2.2).1, ()) (c_laws_FnGameSteps.out (c, ()))))) (True ∧ (bsp (gameD (drawGA (fromD c)).1 (resignD (drawGA (fromD c)).1 (drawGA (fromD c)).2.1 (2 : Int)).1) ((inK .i64 (1 - (drawGA (fromD c)).2.1.2.1)) ∧ (bsp (decide ((resignD (drawGA (fromD c)).1 (drawGA (fromD c)).2.1 (2 : Int)).1.2.2.2.2.1 = (1 - (drawGA (fromD c)).2.1.2.1))) (bsp (decide ((openingD (drawGA (fromD c)).1 (drawGA (fromD c)).2.1 (1 : Int) (drawGA (fromD c)).1.2.2.2).2 ≠ (0 : Int))) (@Eq (HO c_laws_FnGameSteps.outs) (true, ()) (c_laws_FnGameSteps.out (c, ()))) (True ∧ (@Eq (HO c_laws_FnGameSteps.outs) (gameD (drawGA (fromD c)).1 (openingD (drawGA (fromD c)).1 (drawGA (fromD c)).2.1 (1 : Int) (drawGA (fromD c)).1.2.2.2).1, ()) (c_laws_FnGameSteps.out (c, ()))))) (@Eq (HO c_laws_FnGameSteps.outs) (false, ()) (c_laws_FnGameSteps.out (c, ()))))) (@Eq (HO c_laws_FnGameSteps.outs) (false, ()) (c_laws_FnGameSteps.out (c, ())))))) (True ∧ (bsp (gameD (drawGA (fromD c)).1 (rollDiceD (drawGA (fromD c)).1 (drawGA (fromD c)).2.1 (drawRl (drawGA (fromD c)).1 (drawGA (fromD c)).2.2).1).1) (bsp (decide ((resignD (drawGA (fromD c)).1 (drawGA (fromD c)).2.1 (2 : Int)).2 ≠ (0 : Int))) (bsp (decide ((openingD (drawGA (fromD c)).1 (drawGA (fromD c)).2.1 (1 : Int) (drawGA (fromD c)).1.2.2.2).2 ≠ (0 : Int))) (@Eq (HO c_laws_FnGameSteps.outs) (true, ()) (c_laws_FnGameSteps.out (c, ()))) (True ∧ (@Eq (HO c_laws_FnGameSteps.outs) (gameD (drawGA (fromD c)).1 (openingD (drawGA (fromD c)).1 (drawGA (fromD c)).2.1 (1 : Int) (drawGA (fromD c)).1.2.2.2).1, ()) (c_laws_FnGameSteps.out (c, ()))))) (True ∧ (bsp (gameD (drawGA (fromD c)).1 (resignD (drawGA (fromD c)).1 (drawGA (fromD c)).2.1 (2 : Int)).1) ((inK .i64 (1 - (drawGA (fromD c)).2.1.2.1)) ∧ (bsp (decide ((resignD (drawGA (fromD c)).1 (drawGA (fromD c)).2.1 (2 : Int)).1.2.2.2.2.1 = (1 - (drawGA (fromD c)).2.1.2.1))) (bsp (decide ((openingD (drawGA (fromD c)).1 (drawGA (fromD c)).2.1 (1 : Int) (drawGA (fromD c)).1.2.2.2).2 ≠ (0 : Int))) (@Eq (HO c_laws_FnGameSteps.outs) (true, ()) (c_laws_FnGameSteps.out (c, ()))) (True ∧ (@Eq (HO c_laws_FnGameSteps.outs) (gameD (drawGA (fromD c)).1 (openingD (drawGA (fromD c)).1 (drawGA (fromD c)).2.1 (1 : Int) (drawGA (fromD c)).1.2.2.2).1, ()) (c_laws_FnGameSteps.out (c, ()))))) (@Eq (HO c_laws_FnGameSteps.outs) (false, ()) (c_laws_FnGameSteps.out (c, ()))))) (@Eq (HO c_laws_FnGameSteps.outs) (false, ()) (c_laws_FnGameSteps.out (c, ())))))) (@Eq (HO c_laws_FnGameSteps.outs) (false, ()) (c_laws_FnGameSteps.out (c, ()))))))))))))))))))))))))))))) (by kernel_rfl) ?_
  rintro c hw hl
  refine ⟨trivial, bspD (fun _ => rfl) (fun hb => ?_)⟩
  have hc := okC_ofP hw hb
  clear hw hl hb
  refine ⟨hc, ?_⟩
  clear hc
  generalize (drawGA (fromD c)).1 = v at *
  generalize (drawGA (fromD c)).2.1 = g at *
  generalize (drawRl v (drawGA (fromD c)).2.2).1 = r at *
  have H1 : (rollDiceD v g r).2 = 0 → gameD v (rollDiceD v g r).1 = true := game_rollDice
  have H2 : (resignD v g 2).2 = 0 → gameD v (resignD v g 2).1 = true ∧ (resignD v g 2).1.2.2.2.2.1 = 1 - g.2.1 := game_resign
  have H3 : (openingD v g 1 v.2.2.2).2 = 0 → gameD v (openingD v g 1 v.2.2.2).1 = true := game_opening
  have HP : (resignD v g 2).2 = 0 → 0 ≤ g.2.1 ∧ g.2.1 ≤ 1 := fun h => by
    by_cases h1 : gameD v g = false
    · unfold resignD at h; rw [if_pos h1] at h; exact absurd (show (1 : Int) = 0 from h) (by decide)
    · exact (gameD_iff.1 (show gameD v g = true by simpa using h1)).2.2.1
  generalize rollDiceD v g r = X at *
  generalize resignD v g 2 = Y at *
  generalize openingD v g 1 v.2.2.2 = Z at *
  refine ⟨trivial, trivial, trivial, trivial, trivial, trivial, bspD (fun h => absurd rfl h) (fun _ => bspD (fun h => absurd rfl h) (fun _ => bspD (fun h => absurd rfl h) (fun _ => ⟨trivial, bspB (fun h => by simp at h) (fun _ => ⟨trivial, bspB (fun h => by simp at h) (fun _ => ⟨trivial, bspB (fun h => by simp at h) (fun _ => ⟨trivial, trivial, bspB (fun h => by simp at h) (fun _ => ?_)⟩)⟩)⟩)⟩)))⟩
  have dz : ∀ {x : Int}, ¬ x ≠ 0 → x = 0 := fun h => Decidable.not_not.1 h
  repeat' first
    | exact rfl
    | refine ⟨trivial, ?_⟩
    | refine bspD (fun _ => ?_) (fun _ => ?_)
    | refine bspB (fun _ => ?_) (fun _ => ?_)
    | refine ⟨(by have := HP (dz (by assumption)); simp only [inK]; omega), ?_⟩
    | fail
  all_goals (clear dz; simp_all [c_laws_FnGameSteps])
end Go.Proofs.Ytlnagcdnnaffgaa
