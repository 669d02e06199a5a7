/-
  Contracts: greedy results with codes.
-/
import Derived.Test.YtgfpojneeekgkaaVResE
namespace Go.Proofs.Ytgfpojneeekgkaa
open Go.RowKit
set_option linter.unusedSimpArgs false
set_option linter.unusedVariables false
def c_impl_GreedyResult : Con where
  ins := [(true, .v tVar), (false, .v tSI), (true, .v tRoll)]
  outs := [(false, .v tSI), (false, .v tI)]
  sh := false
  pre := fun _ => True
  out := fun x => ((grD x.1 x.2.1 x.2.2.1).1, (grD x.1 x.2.1 x.2.2.1).2, ())
  upd := fun x => x
  eat := false
theorem k_impl_GreedyResult [B : Base] : ConOk Try.prog 18 c_impl_GreedyResult := by
  refine fn_okW (C := cx Try.prog 22 c_impl_GreedyResult) (cs := [(31, c_impl_checkBearoff), (32, c_impl_IsRoll), (35, c_impl_greedyResult)]) (res := Try.f18.results.toList) (fun _ => ⟨[], [], []⟩) Try.func18 (by kernel_rfl) rfl rfl rfl tysOk.look eqTsOk.look (AllCs.ok (l := [(31, c_impl_checkBearoff), (32, c_impl_IsRoll), (35, c_impl_greedyResult)]) ⟨k_impl_checkBearoff, k_impl_IsRoll, k_impl_greedyResult, trivial⟩) mixed rfl rfl rfl rfl ?_
  refine of_nf (P := ∀ v : Int × Int × Int × Int, ∀ p : List Int, ∀ r : Int × Int, (True) → ((lensI c_impl_GreedyResult.ins (v, p, r, ())) → (True ∧ (bsp (decide ((codeP v p) ≠ (0 : Int))) (@Eq (HO c_impl_GreedyResult.outs) ([], codeP v p, ()) (c_impl_GreedyResult.out (v, p, r, ()))) (True ∧ (bsp (!(rollD v r)) (@Eq (HO c_impl_GreedyResult.outs) ([], 2, ()) (c_impl_GreedyResult.out (v, p, r, ()))) ((ResOk p r) ∧ (@Eq (HO c_impl_GreedyResult.outs) (greedyP (resP p r), 0, ()) (c_impl_GreedyResult.out (v, p, r, ())))))))))) (by kernel_rfl) ?_
  rintro v p r hp hl
  have out : ∀ c : List Int × Int, grD v p r = c → @Eq (HO c_impl_GreedyResult.outs) (c.1, c.2, ()) (c_impl_GreedyResult.out (v, p, r, ())) := fun c h => by subst h; rfl
  refine ⟨trivial, bspD (fun h => out ([], codeP v p) (by unfold grD; rw [if_pos h])) (fun h => ?_)⟩
  have h0 : codeP v p = 0 := Decidable.not_not.1 h
  refine ⟨trivial, bspB (fun g => out ([], 2) (by unfold grD; rw [if_neg h, if_pos (by simpa using g)])) (fun g => ?_)⟩
  have g' : rollD v r = true := by simpa using g
  exact ⟨(br_ok h0 g').1, out (greedyP (resP p r), 0) (by unfold grD; rw [if_neg h, if_neg (by rw [g']; decide)])⟩
def c_spec_GreedyResult : Con where
  ins := [(true, .v tVar), (false, .v tSI), (true, .v tRoll)]
  outs := [(false, .v tSI), (false, .v tI)]
  sh := false
  pre := fun _ => True
  out := fun x => ((grD x.1 x.2.1 x.2.2.1).1, (grD x.1 x.2.1 x.2.2.1).2, ())
  upd := fun x => x
  eat := false
theorem k_spec_GreedyResult [B : Base] : ConOk Try.prog 17 c_spec_GreedyResult := by
  refine fn_okW (C := cx Try.prog 28 c_spec_GreedyResult) (cs := [(28, c_spec_l10Code), (29, c_spec_l10Roll), (30, c_spec_l10Results), (34, c_spec_l11Greedy)]) (res := Try.f17.results.toList) (fun _ => ⟨[], [], []⟩) Try.func17 (by kernel_rfl) rfl rfl rfl tysOk.look eqTsOk.look (AllCs.ok (l := [(28, c_spec_l10Code), (29, c_spec_l10Roll), (30, c_spec_l10Results), (34, c_spec_l11Greedy)]) ⟨k_spec_l10Code, k_spec_l10Roll, k_spec_l10Results, k_spec_l11Greedy, trivial⟩) mixed rfl rfl rfl rfl ?_
  refine of_nf (P := ∀ v : Int × Int × Int × Int, ∀ p : List Int, ∀ r : Int × Int, (True) → ((lensI c_spec_GreedyResult.ins (v, p, r, ())) → (True ∧ (bsp (decide ((codeP v p) = (0 : Int))) ((varD v = true) ∧ (bsp (!(rollD v r)) (@Eq (HO c_spec_GreedyResult.outs) ([], 2, ()) (c_spec_GreedyResult.out (v, p, r, ()))) (bsp (decide ((codeP v p) ≠ (0 : Int))) (@Eq (HO c_spec_GreedyResult.outs) ([], codeP v p, ()) (c_spec_GreedyResult.out (v, p, r, ()))) ((ResOk p r) ∧ ((GrOk (specRes p r)) ∧ (@Eq (HO c_spec_GreedyResult.outs) (greedyP (specRes p r), 0, ()) (c_spec_GreedyResult.out (v, p, r, ())))))))) (bsp (decide ((codeP v p) ≠ (0 : Int))) (@Eq (HO c_spec_GreedyResult.outs) ([], codeP v p, ()) (c_spec_GreedyResult.out (v, p, r, ()))) ((ResOk p r) ∧ ((GrOk (specRes p r)) ∧ (@Eq (HO c_spec_GreedyResult.outs) (greedyP (specRes p r), 0, ()) (c_spec_GreedyResult.out (v, p, r, ())))))))))) (by kernel_rfl) ?_
  rintro v p r hp hl
  have out : ∀ c : List Int × Int, grD v p r = c → @Eq (HO c_spec_GreedyResult.outs) (c.1, c.2, ()) (c_spec_GreedyResult.out (v, p, r, ())) := fun c h => by subst h; rfl
  refine ⟨trivial, bspD (fun h0 => ?_) (fun h => bspD (fun _ => out ([], codeP v p) (by unfold grD; rw [if_pos h])) (fun h' => absurd h h'))⟩
  have h : ¬ codeP v p ≠ 0 := fun h => h h0
  refine ⟨(code_ok h0).2.2.2.1, bspB (fun g => out ([], 2) (by unfold grD; rw [if_neg h, if_pos (by simpa using g)])) (fun g => bspD (fun h' => absurd h' h) (fun _ => ?_))⟩
  have g' : rollD v r = true := by simpa using g
  have hb := (br_ok h0 g').1
  rw [specRes_eq hb.ok hb.lo hb.mid]
  exact ⟨hb, ⟨resP_ne hb.ok hb.lo hb.mid, p.length, hb.n0, hb.n, resP_ok hb.ok hb.lo hb.mid⟩, out (greedyP (resP p r), 0) (by unfold grD; rw [if_neg h, if_neg (by rw [g']; decide)])⟩
end Go.Proofs.Ytgfpojneeekgkaa
