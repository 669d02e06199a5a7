/-
  The law FnExactGreedyResult.
-/
import Derived.Test.YtgfpojneeekgkaaVResM
import Derived.Test.YtgfpojneeekgkaaOwn1
namespace Go.Proofs.Ytgfpojneeekgkaa
open Go.RowKit
set_option linter.unusedSimpArgs false
set_option linter.unusedVariables false
def c_impl_GreedyResulto : Con where
  ins := [(true, .v tVar), (false, .v tSI), (true, .v tRoll)]
  outs := [(false, .own 2 tI), (false, .v tI)]
  sh := false
  pre := fun _ => True
  out := fun x => ((grD x.1 x.2.1 x.2.2.1).1, (grD x.1 x.2.1 x.2.2.1).2, ())
  upd := fun x => x
  eat := false
theorem k_impl_GreedyResulto [B : Base] : ConOk Try.prog 18 c_impl_GreedyResulto := own_out rfl k_impl_GreedyResult
theorem grD_len (v : DVar) (p : List Int) (r : DRoll) : (grD v p r).1.length ≤ 24 := by
  unfold grD
  split
  · simp
  · next h =>
    split
    · simp
    · next g =>
      have h0 : codeP v p = 0 := Decidable.not_not.1 h
      have g' : rollD v r = true := by simpa using g
      have hb := (br_ok h0 g').1
      have hm := (greedy_mem (resP_ne hb.ok hb.lo hb.mid)).1
      have hl := (resP_ok hb.ok hb.lo hb.mid _ hm).len
      have := hb.n
      simp only
      omega
def c_laws_FnExactGreedyResult : Con where
  ins := [(true, .v tVar), (false, .v tSI), (true, .v tRoll)]
  outs := [(false, .v .b)]
  sh := false
  pre := fun x => wfD tVar x.1 ∧ wfD tSI x.2.1 ∧ wfD tRoll x.2.2.1
  out := fun _ => (true, ())
  upd := fun x => x
  eat := false
theorem k_laws_FnExactGreedyResult [B : Base] : ConOk Try.prog 4 c_laws_FnExactGreedyResult := by
  refine fn_okW (C := cx Try.prog 109 c_laws_FnExactGreedyResult) (cs := [(8, c_laws_toVariant), (9, c_laws_toInt64S), (10, c_laws_toRoll), (17, c_spec_GreedyResult), (18, c_impl_GreedyResulto), (13, c_laws_eqInt64S), (14, c_laws_markInt64S), (19, c_laws_heldInt64S)]) (res := Try.f4.results.toList) (fun _ => ⟨[], [(3, ⟨[[], [0], [], [0, 1, 2], [], [0, 1, 2, 3, 4], [0, 1, 2, 3, 4, 5], [0, 1, 2, 3, 4, 5, 6], [0, 1, 2, 3, 4, 5, 6, 7], [0, 1, 2, 3, 4, 5, 6, 7], [0, 1, 2, 3, 4, 5, 6, 7, 8], [0, 1, 2, 3, 4, 5, 6, 7, 8, 9, 10]], [[2, 4], [2, 4], [0, 1, 4], [4], [0, 1, 2, 3], [], [], [], [9], [8, 10], [9], []], []⟩), (5, ⟨[[], [0], [], [], [0, 1, 3], [0, 1, 2, 3, 4], [0, 1, 2, 3, 4, 5], [0, 1, 2, 3, 4, 5, 6], [0, 1, 2, 3, 4, 5, 6], [0, 1, 2, 3, 4, 5, 6, 7], [0, 1, 2, 3, 4, 5, 6, 7, 8, 9]], [[2, 3], [2, 3], [0, 1, 3, 4], [0, 1, 2], [2], [], [], [8], [7, 9], [8], []], []⟩), (22, ⟨[[], [0], [], [0, 1, 2], [], [0, 1, 2, 3, 4], [0, 1, 2, 3, 4, 5], [0, 1, 2, 3, 4, 5, 6], [0, 1, 2, 3, 4, 5, 6, 7], [0, 1, 2, 3, 4, 5, 6, 7], [0, 1, 2, 3, 4, 5, 6, 7, 8], [0, 1, 2, 3, 4, 5, 6, 7, 8, 9, 10]], [[2, 4], [2, 4], [0, 1, 4], [4], [0, 1, 2, 3], [], [], [], [9], [8, 10], [9], []], []⟩)], []⟩) Try.func4 (by kernel_rfl) rfl rfl rfl tysOk.look eqTsOk.look (AllCs.ok (l := [(8, c_laws_toVariant), (9, c_laws_toInt64S), (10, c_laws_toRoll), (17, c_spec_GreedyResult), (18, c_impl_GreedyResulto), (13, c_laws_eqInt64S), (14, c_laws_markInt64S), (19, c_laws_heldInt64S)]) ⟨k_laws_toVariant, k_laws_toInt64S, k_laws_toRoll, k_spec_GreedyResult, k_impl_GreedyResulto, k_laws_eqInt64S, k_laws_markInt64S, k_laws_heldInt64S, trivial⟩) mixed rfl rfl rfl rfl ?_
  refine of_nf (P := ∀ v : Int × Int × Int × Int, ∀ p : List Int, ∀ r : Int × Int, (wfD tVar v ∧ wfD tSI p ∧ wfD tRoll r) → ((lensI c_laws_FnExactGreedyResult.ins (v, p, r, ())) → (bsp (decide ((1048576 : Int) < (p.length : Int))) (@Eq (HO c_laws_FnExactGreedyResult.outs) (true, ()) (c_laws_FnExactGreedyResult.out (v, p, r, ()))) (True ∧ ((List.length p ≤ 1099511627776) ∧ (True ∧ (True ∧ ((List.length p ≤ 1099511627776) ∧ (True ∧ (True ∧ (True ∧ (True ∧ (bsp (!(decide ((grD v p r).1 = (grD v p r).1))) (@Eq (HO c_laws_FnExactGreedyResult.outs) (false, ()) (c_laws_FnExactGreedyResult.out (v, p, r, ()))) (bsp (decide ((grD v p r).2 ≠ (grD v p r).2)) (@Eq (HO c_laws_FnExactGreedyResult.outs) (false, ()) (c_laws_FnExactGreedyResult.out (v, p, r, ()))) ((List.length p ≤ 1099511627776) ∧ (True ∧ (bsp (!(decide (p = p))) (@Eq (HO c_laws_FnExactGreedyResult.outs) (false, ()) (c_laws_FnExactGreedyResult.out (v, p, r, ()))) ((0 ≤ (1 : Int) ∧ (1 : Int) ≤ 1099511627776 ∧ List.length p ≤ 1099511627776) ∧ (bsp (decide (((1 : Int) + (List.length p : Int)) < (0 : Int))) (@Eq (HO c_laws_FnExactGreedyResult.outs) (false, ()) (c_laws_FnExactGreedyResult.out (v, p, r, ()))) (True ∧ (bsp (!(decide ((grD v p r).1 = (grD v p r).1))) (@Eq (HO c_laws_FnExactGreedyResult.outs) (false, ()) (c_laws_FnExactGreedyResult.out (v, p, r, ()))) (bsp (decide ((grD v p r).2 ≠ (grD v p r).2)) (@Eq (HO c_laws_FnExactGreedyResult.outs) (false, ()) (c_laws_FnExactGreedyResult.out (v, p, r, ()))) ((0 ≤ (1 : Int) ∧ (1 : Int) ≤ 1099511627776 ∧ List.length (grD v p r).1 ≤ 1099511627776) ∧ (((markL (1 : Int) (List.length (grD v p r).1)) = markL (1 : Int) (List.length (markL (1 : Int) (List.length (grD v p r).1))) ∧ 0 ≤ (1 : Int) ∧ (1 : Int) ≤ 1099511627776 ∧ List.length (markL (1 : Int) (List.length (grD v p r).1)) ≤ 1099511627776) ∧ (bsp (decide (((1 : Int) + (List.length (markL (1 : Int) (List.length (grD v p r).1)) : Int)) < (0 : Int))) (@Eq (HO c_laws_FnExactGreedyResult.outs) (false, ()) (c_laws_FnExactGreedyResult.out (v, p, r, ()))) (bsp (decide (((1 : Int) + (List.length (markL (1 : Int) (List.length (grD v p r).1)) : Int)) ≠ ((1 : Int) + (List.length (grD v p r).1 : Int)))) (@Eq (HO c_laws_FnExactGreedyResult.outs) (false, ()) (c_laws_FnExactGreedyResult.out (v, p, r, ()))) (True ∧ ((List.length p ≤ 1099511627776) ∧ (True ∧ (True ∧ (True ∧ (bsp (!(decide ((grD v p r).1 = (grD v p r).1))) (@Eq (HO c_laws_FnExactGreedyResult.outs) (false, ()) (c_laws_FnExactGreedyResult.out (v, p, r, ()))) (bsp (decide ((grD v p r).2 ≠ (grD v p r).2)) (@Eq (HO c_laws_FnExactGreedyResult.outs) (false, ()) (c_laws_FnExactGreedyResult.out (v, p, r, ()))) (((markL (1 : Int) (List.length (grD v p r).1)) = markL (1 : Int) (List.length (markL (1 : Int) (List.length (grD v p r).1))) ∧ 0 ≤ (1 : Int) ∧ (1 : Int) ≤ 1099511627776 ∧ List.length (markL (1 : Int) (List.length (grD v p r).1)) ≤ 1099511627776) ∧ (bsp (decide (((1 : Int) + (List.length (markL (1 : Int) (List.length (grD v p r).1)) : Int)) < (0 : Int))) (@Eq (HO c_laws_FnExactGreedyResult.outs) (false, ()) (c_laws_FnExactGreedyResult.out (v, p, r, ()))) (bsp (decide (((1 : Int) + (List.length (markL (1 : Int) (List.length (grD v p r).1)) : Int)) ≠ ((1 : Int) + (List.length (grD v p r).1 : Int)))) (@Eq (HO c_laws_FnExactGreedyResult.outs) (false, ()) (c_laws_FnExactGreedyResult.out (v, p, r, ()))) (@Eq (HO c_laws_FnExactGreedyResult.outs) (true, ()) (c_laws_FnExactGreedyResult.out (v, p, r, ()))))))))))))))))))))))))))))))))))))))) (by kernel_rfl) ?_
  rintro v p r hw hl
  refine bspD (fun _ => rfl) (fun hs => ?_)
  have hX := grD_len v p r
  revert hX
  generalize grD v p r = X
  intro hX
  clear hl hw

  repeat' first
    | exact rfl
    | refine ⟨trivial, ?_⟩
    | refine bspB (fun h => absurd h (by first | simp; done | (simp [markL_length]; done) | (simp [markL_length]; omega))) (fun _ => ?_)
    | refine ⟨(by first | omega | (simp [markL_length]; done) | (simp [markL_length]; omega)), ?_⟩
    | fail
end Go.Proofs.Ytgfpojneeekgkaa
