/-
  The law FnResults.
-/
import Derived.Test.YtgfpojneeekgkaaVResD
import Derived.Test.YtgfpojneeekgkaaVResE
namespace Go.Proofs.Ytgfpojneeekgkaa
open Go.RowKit
set_option linter.unusedSimpArgs false
set_option linter.unusedVariables false
def mostP (r : DRoll) : Int := if r.1 = r.2 then 4 * r.1 else r.1 + r.2
theorem code_res {v : DVar} {p : List Int} {r : DRoll} (h1 : codeP v p = 0) (h2 : rollD v r = true) {q : List Int} (hq : q ∈ resP p r) : codeP v q = 0 ∧ bearD v q = true ∧ OkP q.length q ∧ q.length = p.length ∧
    wS pw p p.length - mostP r ≤ wS pw q q.length ∧ wS pw q q.length ≤ wS pw p p.length ∧ (wS pw q q.length = wS pw p p.length → ¬ 0 < wS pw p p.length) := by
  obtain ⟨hb, hv, hbe⟩ := br_ok h1 h2
  obtain ⟨_, _, _, hsum, hlen⟩ := bear_ok hv hbe
  have hqo := resP_ok hb.ok hb.lo hb.mid q hq
  obtain ⟨o, ho, hqr⟩ := (resP_mem hb.ok hb.lo hb.mid q).1 hq
  obtain ⟨d1, _, d3, _⟩ := ordP_dice hb.lo hb.mid o ho
  obtain ⟨k1, k2, k3, k4⟩ := reach_pips d1 hb.ok q hqr
  have hbq : bearD v q = true := by
    simp only [bearD, Bool.and_eq_true, decide_eq_true_eq]
    exact ⟨by rw [hqo.len]; exact hlen, fits_of hqo.nn (by omega)⟩
  have hos : o.sum = mostP r := by
    unfold ordP at ho
    unfold mostP
    split at ho
    · next e => simp only [List.mem_singleton] at ho; subst ho; rw [if_pos e]; simp; omega
    · next e =>
      rw [if_neg e]
      simp only [List.mem_cons, List.not_mem_nil, or_false] at ho
      rcases ho with rfl | rfl <;> simp <;> omega
  rw [hqo.len]
  refine ⟨?_, hbq, hqo, rfl, by omega, k2, fun e hpos => ?_⟩
  · unfold codeP; rw [if_neg (by rw [hv]; decide), if_neg (by rw [hbq]; decide)]
  · have hs0 : p.sum ≠ 0 := fun e0 => by
      rw [wS_zero (fun j => zero_of_sum hb.ok.nn e0 j)] at hpos; omega
    have := k3 d3 hs0
    omega
def c_laws_FnResults : Con where
  ins := [(false, .v (.sl (.i .u8)))]
  outs := [(false, .v .b)]
  sh := false
  pre := fun x => wfD (TC.sl (.i .u8)) x.1
  out := fun _ => (true, ())
  upd := fun x => x
  eat := false
theorem k_laws_FnResults [B : Base] : ConOk Try.prog 5 c_laws_FnResults := by
  refine fn_ok (C := cx Try.prog 130 c_laws_FnResults) (cs := [(20, c_laws_big), (21, c_spec_DrawBearoffResults), (11, c_impl_BearoffResults), (7, c_spec_BearoffResults), (22, c_laws_likeRows), (23, c_impl_BearoffPips), (24, c_impl_IsBearoff)]) (res := Try.f5.results.toList) (fun x => ⟨[{ sh := ⟨[(3, .one (.ref 0)), (6, .one (.ref 1)), (10, .one (.i .i64)), (11, .one (.i .i64)), (12, .one (.i .i64)), (13, .one (.i .i64))], [(0, .box [.i .i64, .i .i64, .i .i64, .i .i64]), (1, .own 24 tSI true)]⟩, nx := 2, I := fun _ dat_ => ((if codeP (drawBR x.1).1 (([] : List Int) ++ (drawBR x.1).2.1) ≠ 0 then 0 else wS pw (([] : List Int) ++ (drawBR x.1).2.1) (List.length (([] : List Int) ++ (drawBR x.1).2.1))) = dat_.1.2.2.1 ∧ codeP (drawBR x.1).1 (([] : List Int) ++ (drawBR x.1).2.1) = dat_.1.2.2.2.1 ∧ (drawBR x.1).1.1 = dat_.2.1.1 ∧ (drawBR x.1).1.2.1 = dat_.2.1.2.1 ∧ (drawBR x.1).1.2.2.1 = dat_.2.1.2.2.1 ∧ (drawBR x.1).1.2.2.2 = dat_.2.1.2.2.2.1 ∧ (brD (drawBR x.1).1 (drawBR x.1).2.1 (drawBR x.1).2.2).1 = dat_.2.2.1) ∧ (dat_.1.2.2.2.2.1 = mostP (drawBR x.1).2.2 ∧ 0 ≤ dat_.1.2.2.2.2.2.1 ∧ dat_.1.2.2.2.2.2.1 ≤ (List.length dat_.2.2.1 : Int)), mu := fun dat_ => Int.toNat ((List.length dat_.2.2.1 : Int) - dat_.1.2.2.2.2.2.1) }], [(11, ⟨[[], [], [], [1, 2], [0, 1, 2, 3], [0, 1, 2, 3, 4], [0, 1, 2, 3, 4, 5], [0, 1, 2, 3, 4, 5], [0, 1, 2, 3, 4, 5, 6], [0, 1, 2, 3, 4, 5, 6, 7, 8]], [[1, 2, 3], [0, 2], [0, 1], [0], [], [], [7], [6, 8], [7], []], []⟩), (18, ⟨[[], [], [], [1, 2], [1, 2, 3], [0, 1, 2, 3, 4], [0, 1, 2, 3, 4, 5], [0, 1, 2, 3, 4, 5, 6], [0, 1, 2, 3, 4, 5, 6], [0, 1, 2, 3, 4, 5, 6, 7], [0, 1, 2, 3, 4, 5, 6, 7, 8, 9]], [[1, 2, 3, 4], [0, 2], [0, 1], [0], [0], [], [], [8], [7, 9], [8], []], []⟩), (19, ⟨[[], [0], [0, 1], [0, 1, 2], [0, 1, 2], [0, 1, 2], [0, 1, 2, 4, 5], [0, 1, 2, 3, 4, 5, 6], [0, 1, 2, 3, 4, 5, 6, 7], [0, 1, 2, 3, 4, 5, 6, 7, 8], [0, 1, 2, 3, 4, 5, 6, 7, 8, 9], [0, 1, 2, 3, 4, 5, 6, 7, 8, 9], [0, 1, 2, 3, 4, 5, 6, 7, 8, 9, 10, 11], [0, 1, 2, 3, 4, 5, 6, 7, 8, 9, 10, 11, 12], [0, 1, 2, 3, 4, 5, 6, 7, 8, 9, 10, 11, 12, 13], [0, 1, 2, 3, 4, 5, 6, 7, 8, 9, 10, 11, 12, 13, 14], [0, 1, 2, 3, 4, 5, 6, 7, 8, 9, 10, 11, 12, 13, 14], [0, 1, 2, 3, 4, 5, 6, 7, 8, 9, 10, 11, 12, 13, 14, 15, 16], [0, 1, 2, 3, 4, 5, 6, 7, 8, 9, 10, 11, 12, 13, 14, 15, 16, 17], [0, 1, 2, 3, 4, 5, 6, 7, 8, 9, 10, 11, 12, 13, 14, 15, 16, 17, 18], [0, 1, 2, 3, 4, 5, 6, 7, 8, 9, 10, 11, 12, 13, 14, 15, 16, 17, 18, 19], [0, 1, 2, 3, 4, 5, 6, 7, 8, 9, 10, 11, 12, 13, 14, 15, 16, 17, 18, 19, 20], [0, 1, 2, 3, 4, 5, 6, 7, 8, 9, 10, 11, 12, 13, 14, 15, 16, 17, 18, 19, 20, 21], [0, 1, 2, 3, 4, 5, 6, 7, 8, 9, 10, 11, 12, 13, 14, 15, 16, 17, 18, 19, 20, 21, 22], [0, 1, 2, 3, 4, 5, 6, 7, 8, 9, 10, 11, 12, 13, 14, 15, 16, 17, 18, 19, 20, 21, 22, 23], [0, 1, 2, 3, 4, 5, 6, 7, 8, 9, 10, 11, 12, 13, 14, 15, 16, 17, 18, 19, 20, 21, 22, 23], [0, 1, 2, 3, 4, 5, 6, 7, 8, 9, 10, 11, 12, 13, 14, 15, 16, 17, 18, 19, 20, 21, 22, 23], [0, 1, 2, 3, 4, 5, 6, 7, 8, 9, 10, 11, 12, 13, 14, 15, 16, 17, 18, 19, 20, 21, 22, 23, 25, 26], [0, 1, 2, 3, 4, 5, 6, 7, 8, 9, 10, 11, 12, 13, 14, 15, 16, 17, 18, 19, 20, 21, 22, 23, 25, 26, 27], [0, 1, 2, 3, 4, 5, 6, 7, 8, 9, 10, 11, 12, 13, 14, 15, 16, 17, 18, 19, 20, 21, 22, 23, 24, 25, 26, 27, 28], [0, 1, 2, 3, 4, 5, 6, 7, 8, 9, 10, 11, 12, 13, 14, 15, 16, 17, 18, 19, 20, 21, 22, 23, 24, 25, 26, 27, 28, 29], [0, 1, 2, 3, 4, 5, 6, 7, 8, 9, 10, 11, 12, 13, 14, 15, 16, 17, 18, 19, 20, 21, 22, 23, 24, 25, 26, 27, 28, 29, 30]], [[], [], [], [4, 5, 6], [3, 5], [3, 4], [3], [], [], [], [11], [10], [], [], [], [16], [15], [], [], [], [], [], [], [], [25, 26, 27, 28], [24, 26], [24, 25], [24], [24], [], [], []], []⟩)], []⟩) Try.func5 (by kernel_rfl) rfl rfl rfl tysOk.look eqTsOk.look (AllCs.ok (l := [(20, c_laws_big), (21, c_spec_DrawBearoffResults), (11, c_impl_BearoffResults), (7, c_spec_BearoffResults), (22, c_laws_likeRows), (23, c_impl_BearoffPips), (24, c_impl_IsBearoff)]) ⟨k_laws_big, k_spec_DrawBearoffResults, k_impl_BearoffResults, k_spec_BearoffResults, k_laws_likeRows, k_impl_BearoffPips, k_impl_IsBearoff, trivial⟩) mixed rfl rfl rfl rfl ?_
  refine of_nf (P := ∀ c : List Int, (wfD (TC.sl (.i .u8)) c) → ((lensI c_laws_FnResults.ins (c, ())) → (True ∧ (bsp (decide (4096 < (List.length c : Int))) (@Eq (HO c_laws_FnResults.outs) (true, ()) (c_laws_FnResults.out (c, ()))) ((okC c) ∧ (True ∧ ((okC c) ∧ (True ∧ (bsp (decide ((brD (drawBR c).1 (drawBR c).2.1 (drawBR c).2.2).2 ≠ (brD (drawBR c).1 (drawBR c).2.1 (drawBR c).2.2).2)) (@Eq (HO c_laws_FnResults.outs) (false, ()) (c_laws_FnResults.out (c, ()))) (True ∧ (bsp (!(decide ((brD (drawBR c).1 (drawBR c).2.1 (drawBR c).2.2).1 = (brD (drawBR c).1 (drawBR c).2.1 (drawBR c).2.2).1))) (@Eq (HO c_laws_FnResults.outs) (false, ()) (c_laws_FnResults.out (c, ()))) (bsp (decide ((brD (drawBR c).1 (drawBR c).2.1 (drawBR c).2.2).2 ≠ (0 : Int))) (@Eq (HO c_laws_FnResults.outs) (true, ()) (c_laws_FnResults.out (c, ()))) ((([] : List Int).length + (drawBR c).2.1.length ≤ AB) ∧ (True ∧ ((inK .i64 ((drawBR c).2.2.1 + (drawBR c).2.2.2)) ∧ (bsp (decide ((drawBR c).2.2.1 = (drawBR c).2.2.2)) ((inK .i64 (4 * (drawBR c).2.2.1)) ∧ ((((if codeP (drawBR c).1 (([] : List Int) ++ (drawBR c).2.1) ≠ 0 then 0 else wS pw (([] : List Int) ++ (drawBR c).2.1) (List.length (([] : List Int) ++ (drawBR c).2.1))) = (if codeP (drawBR c).1 (([] : List Int) ++ (drawBR c).2.1) ≠ 0 then 0 else wS pw (([] : List Int) ++ (drawBR c).2.1) (List.length (([] : List Int) ++ (drawBR c).2.1))) ∧ codeP (drawBR c).1 (([] : List Int) ++ (drawBR c).2.1) = (codeP (drawBR c).1 (([] : List Int) ++ (drawBR c).2.1)) ∧ (drawBR c).1.1 = (drawBR c).1.1 ∧ (drawBR c).1.2.1 = (drawBR c).1.2.1 ∧ (drawBR c).1.2.2.1 = (drawBR c).1.2.2.1 ∧ (drawBR c).1.2.2.2 = (drawBR c).1.2.2.2 ∧ (brD (drawBR c).1 (drawBR c).2.1 (drawBR c).2.2).1 = (brD (drawBR c).1 (drawBR c).2.1 (drawBR c).2.2).1) ∧ ((4 * (drawBR c).2.2.1) = mostP (drawBR c).2.2 ∧ 0 ≤ (0 : Int) ∧ (0 : Int) ≤ (List.length (brD (drawBR c).1 (drawBR c).2.1 (drawBR c).2.2).1 : Int))) ∧ (∀ pips : Int, ∀ one : Int, ∀ most : Int, ∀ i : Int, ∀ t3_0 : Int, ∀ t3_1 : Int, ∀ t3_2 : Int, ∀ t3_3 : Int, ∀ list : List (List Int), (((if codeP (drawBR c).1 (([] : List Int) ++ (drawBR c).2.1) ≠ 0 then 0 else wS pw (([] : List Int) ++ (drawBR c).2.1) (List.length (([] : List Int) ++ (drawBR c).2.1))) = pips ∧ codeP (drawBR c).1 (([] : List Int) ++ (drawBR c).2.1) = one ∧ (drawBR c).1.1 = t3_0 ∧ (drawBR c).1.2.1 = t3_1 ∧ (drawBR c).1.2.2.1 = t3_2 ∧ (drawBR c).1.2.2.2 = t3_3 ∧ (brD (drawBR c).1 (drawBR c).2.1 (drawBR c).2.2).1 = list) ∧ (most = mostP (drawBR c).2.2 ∧ 0 ≤ i ∧ i ≤ (List.length list : Int))) → (bsp (decide (i < (list.length : Int))) ((0 ≤ i ∧ i < (list.length : Int)) ∧ ((i.toNat < list.length) ∧ (True ∧ (bsp (decide ((codeP (t3_0, t3_1, t3_2, t3_3) (list.getD i.toNat [])) ≠ (0 : Int))) (@Eq (HO c_laws_FnResults.outs) (false, ()) (c_laws_FnResults.out (c, ()))) ((inK .i64 (pips - most)) ∧ (bsp (decide ((if codeP (t3_0, t3_1, t3_2, t3_3) (list.getD i.toNat []) ≠ 0 then 0 else wS pw (list.getD i.toNat []) (List.length (list.getD i.toNat []))) < (pips - most))) (@Eq (HO c_laws_FnResults.outs) (false, ()) (c_laws_FnResults.out (c, ()))) (bsp (decide (pips < (if codeP (t3_0, t3_1, t3_2, t3_3) (list.getD i.toNat []) ≠ 0 then 0 else wS pw (list.getD i.toNat []) (List.length (list.getD i.toNat []))))) (@Eq (HO c_laws_FnResults.outs) (false, ()) (c_laws_FnResults.out (c, ()))) (bsp (decide ((if codeP (t3_0, t3_1, t3_2, t3_3) (list.getD i.toNat []) ≠ 0 then 0 else wS pw (list.getD i.toNat []) (List.length (list.getD i.toNat []))) = pips)) (bsp (decide ((0 : Int) < pips)) (@Eq (HO c_laws_FnResults.outs) (false, ()) (c_laws_FnResults.out (c, ()))) ((0 ≤ i ∧ i < (list.length : Int)) ∧ ((i.toNat < list.length) ∧ (True ∧ (bsp (!(varD (t3_0, t3_1, t3_2, t3_3) && bearD (t3_0, t3_1, t3_2, t3_3) (list.getD i.toNat []))) (@Eq (HO c_laws_FnResults.outs) (false, ()) (c_laws_FnResults.out (c, ()))) ((inK .i64 (i + 1)) ∧ ((((if codeP (drawBR c).1 (([] : List Int) ++ (drawBR c).2.1) ≠ 0 then 0 else wS pw (([] : List Int) ++ (drawBR c).2.1) (List.length (([] : List Int) ++ (drawBR c).2.1))) = pips ∧ codeP (drawBR c).1 (([] : List Int) ++ (drawBR c).2.1) = one ∧ (drawBR c).1.1 = t3_0 ∧ (drawBR c).1.2.1 = t3_1 ∧ (drawBR c).1.2.2.1 = t3_2 ∧ (drawBR c).1.2.2.2 = t3_3 ∧ (brD (drawBR c).1 (drawBR c).2.1 (drawBR c).2.2).1 = list) ∧ (most = mostP (drawBR c).2.2 ∧ 0 ≤ (i + 1) ∧ (i + 1) ≤ (List.length list : Int))) ∧ ((Int.toNat ((List.length list : Int) - (i + 1)) : Nat) < Int.toNat ((List.length list : Int) - i))))))))) ((0 ≤ i ∧ i < (list.length : Int)) ∧ ((i.toNat < list.length) ∧ (True ∧ (bsp (!(varD (t3_0, t3_1, t3_2, t3_3) && bearD (t3_0, t3_1, t3_2, t3_3) (list.getD i.toNat []))) (@Eq (HO c_laws_FnResults.outs) (false, ()) (c_laws_FnResults.out (c, ()))) ((inK .i64 (i + 1)) ∧ ((((if codeP (drawBR c).1 (([] : List Int) ++ (drawBR c).2.1) ≠ 0 then 0 else wS pw (([] : List Int) ++ (drawBR c).2.1) (List.length (([] : List Int) ++ (drawBR c).2.1))) = pips ∧ codeP (drawBR c).1 (([] : List Int) ++ (drawBR c).2.1) = one ∧ (drawBR c).1.1 = t3_0 ∧ (drawBR c).1.2.1 = t3_1 ∧ (drawBR c).1.2.2.1 = t3_2 ∧ (drawBR c).1.2.2.2 = t3_3 ∧ (brD (drawBR c).1 (drawBR c).2.1 (drawBR c).2.2).1 = list) ∧ (most = mostP (drawBR c).2.2 ∧ 0 ≤ (i + 1) ∧ (i + 1) ≤ (List.length list : Int))) ∧ ((Int.toNat ((List.length list : Int) - (i + 1)) : Nat) < Int.toNat ((List.length list : Int) - i)))))))))))))))) (bsp (decide (one = (0 : Int))) (@Eq (HO c_laws_FnResults.outs) ((decide ((0 : Int) < (list.length : Int))), ()) (c_laws_FnResults.out (c, ()))) (@Eq (HO c_laws_FnResults.outs) (false, ()) (c_laws_FnResults.out (c, ())))))))) ((((if codeP (drawBR c).1 (([] : List Int) ++ (drawBR c).2.1) ≠ 0 then 0 else wS pw (([] : List Int) ++ (drawBR c).2.1) (List.length (([] : List Int) ++ (drawBR c).2.1))) = (if codeP (drawBR c).1 (([] : List Int) ++ (drawBR c).2.1) ≠ 0 then 0 else wS pw (([] : List Int) ++ (drawBR c).2.1) (List.length (([] : List Int) ++ (drawBR c).2.1))) ∧ codeP (drawBR c).1 (([] : List Int) ++ (drawBR c).2.1) = (codeP (drawBR c).1 (([] : List Int) ++ (drawBR c).2.1)) ∧ (drawBR c).1.1 = (drawBR c).1.1 ∧ (drawBR c).1.2.1 = (drawBR c).1.2.1 ∧ (drawBR c).1.2.2.1 = (drawBR c).1.2.2.1 ∧ (drawBR c).1.2.2.2 = (drawBR c).1.2.2.2 ∧ (brD (drawBR c).1 (drawBR c).2.1 (drawBR c).2.2).1 = (brD (drawBR c).1 (drawBR c).2.1 (drawBR c).2.2).1) ∧ (((drawBR c).2.2.1 + (drawBR c).2.2.2) = mostP (drawBR c).2.2 ∧ 0 ≤ (0 : Int) ∧ (0 : Int) ≤ (List.length (brD (drawBR c).1 (drawBR c).2.1 (drawBR c).2.2).1 : Int))) ∧ (∀ pips : Int, ∀ one : Int, ∀ most : Int, ∀ i : Int, ∀ t3_0 : Int, ∀ t3_1 : Int, ∀ t3_2 : Int, ∀ t3_3 : Int, ∀ list : List (List Int), (((if codeP (drawBR c).1 (([] : List Int) ++ (drawBR c).2.1) ≠ 0 then 0 else wS pw (([] : List Int) ++ (drawBR c).2.1) (List.length (([] : List Int) ++ (drawBR c).2.1))) = pips ∧ codeP (drawBR c).1 (([] : List Int) ++ (drawBR c).2.1) = one ∧ (drawBR c).1.1 = t3_0 ∧ (drawBR c).1.2.1 = t3_1 ∧ (drawBR c).1.2.2.1 = t3_2 ∧ (drawBR c).1.2.2.2 = t3_3 ∧ (brD (drawBR c).1 (drawBR c).2.1 (drawBR c).2.2).1 = list) ∧ (most = mostP (drawBR c).2.2 ∧ 0 ≤ i ∧ i ≤ (List.length list : Int))) → (bsp (decide (i < (list.length : Int))) ((0 ≤ i ∧ i < (list.length : Int)) ∧ ((i.toNat < list.length) ∧ (True ∧ (bsp (decide ((codeP (t3_0, t3_1, t3_2, t3_3) (list.getD i.toNat [])) ≠ (0 : Int))) (@Eq (HO c_laws_FnResults.outs) (false, ()) (c_laws_FnResults.out (c, ()))) ((inK .i64 (pips - most)) ∧ (bsp (decide ((if codeP (t3_0, t3_1, t3_2, t3_3) (list.getD i.toNat []) ≠ 0 then 0 else wS pw (list.getD i.toNat []) (List.length (list.getD i.toNat []))) < (pips - most))) (@Eq (HO c_laws_FnResults.outs) (false, ()) (c_laws_FnResults.out (c, ()))) (bsp (decide (pips < (if codeP (t3_0, t3_1, t3_2, t3_3) (list.getD i.toNat []) ≠ 0 then 0 else wS pw (list.getD i.toNat []) (List.length (list.getD i.toNat []))))) (@Eq (HO c_laws_FnResults.outs) (false, ()) (c_laws_FnResults.out (c, ()))) (bsp (decide ((if codeP (t3_0, t3_1, t3_2, t3_3) (list.getD i.toNat []) ≠ 0 then 0 else wS pw (list.getD i.toNat []) (List.length (list.getD i.toNat []))) = pips)) (bsp (decide ((0 : Int) < pips)) (@Eq (HO c_laws_FnResults.outs) (false, ()) (c_laws_FnResults.out (c, ()))) ((0 ≤ i ∧ i < (list.length : Int)) ∧ ((i.toNat < list.length) ∧ (True ∧ (bsp (!(varD (t3_0, t3_1, t3_2, t3_3) && bearD (t3_0, t3_1, t3_2, t3_3) (list.getD i.toNat []))) (@Eq (HO c_laws_FnResults.outs) (false, ()) (c_laws_FnResults.out (c, ()))) ((inK .i64 (i + 1)) ∧ ((((if codeP (drawBR c).1 (([] : List Int) ++ (drawBR c).2.1) ≠ 0 then 0 else wS pw (([] : List Int) ++ (drawBR c).2.1) (List.length (([] : List Int) ++ (drawBR c).2.1))) = pips ∧ codeP (drawBR c).1 (([] : List Int) ++ (drawBR c).2.1) = one ∧ (drawBR c).1.1 = t3_0 ∧ (drawBR c).1.2.1 = t3_1 ∧ (drawBR c).1.2.2.1 = t3_2 ∧ (drawBR c).1.2.2.2 = t3_3 ∧ (brD (drawBR c).1 (drawBR c).2.1 (drawBR c).2.2).1 = list) ∧ (most = mostP (drawBR c).2.2 ∧ 0 ≤ (i + 1) ∧ (i + 1) ≤ (List.length list : Int))) ∧ ((Int.toNat ((List.length list : Int) - (i + 1)) : Nat) < Int.toNat ((List.length list : Int) - i))))))))) ((0 ≤ i ∧ i < (list.length : Int)) ∧ ((i.toNat < list.length) ∧ (True ∧ (bsp (!(varD (t3_0, t3_1, t3_2, t3_3) && bearD (t3_0, t3_1, t3_2, t3_3) (list.getD i.toNat []))) (@Eq (HO c_laws_FnResults.outs) (false, ()) (c_laws_FnResults.out (c, ()))) ((inK .i64 (i + 1)) ∧ ((((if codeP (drawBR c).1 (([] : List Int) ++ (drawBR c).2.1) ≠ 0 then 0 else wS pw (([] : List Int) ++ (drawBR c).2.1) (List.length (([] : List Int) ++ (drawBR c).2.1))) = pips ∧ codeP (drawBR c).1 (([] : List Int) ++ (drawBR c).2.1) = one ∧ (drawBR c).1.1 = t3_0 ∧ (drawBR c).1.2.1 = t3_1 ∧ (drawBR c).1.2.2.1 = t3_2 ∧ (drawBR c).1.2.2.2 = t3_3 ∧ (brD (drawBR c).1 (drawBR c).2.1 (drawBR c).2.2).1 = list) ∧ (most = mostP (drawBR c).2.2 ∧ 0 ≤ (i + 1) ∧ (i + 1) ≤ (List.length list : Int))) ∧ ((Int.toNat ((List.length list : Int) - (i + 1)) : Nat) < Int.toNat ((List.length list : Int) - i)))))))))))))))) (bsp (decide (one = (0 : Int))) (@Eq (HO c_laws_FnResults.outs) ((decide ((0 : Int) < (list.length : Int))), ()) (c_laws_FnResults.out (c, ()))) (@Eq (HO c_laws_FnResults.outs) (false, ()) (c_laws_FnResults.out (c, ()))))))))))))))))))))))) (by kernel_rfl) ?_
  rintro c hw hl
  refine ⟨trivial, bspD (fun _ => rfl) (fun hb => ?_)⟩
  have hc := okC_ofN hw hb
  refine ⟨hc, trivial, hc, trivial, ?_⟩
  clear hw hl hb hc
  generalize (drawBR c).1 = v at *
  generalize (drawBR c).2.1 = p at *
  generalize (drawBR c).2.2 = r at *
  refine bspD (fun h => absurd rfl h) (fun _ => ⟨trivial, bspB (fun h => by simp at h) (fun _ => bspD (fun _ => rfl) (fun h0 => ?_))⟩)
  have hcp : codeP v p = 0 := by
    apply Decidable.byContradiction
    intro h
    apply h0
    unfold brD; rw [if_pos h]; exact h
  have hr : rollD v r = true := by
    cases h : rollD v r with
    | true => rfl
    | false => exfalso; apply h0; unfold brD; rw [if_neg (fun h => h hcp), if_pos h]; decide
  have hbr : brD v p r = (resP p r, 0) := by unfold brD; rw [if_neg (fun h => h hcp), if_neg (by rw [hr]; decide)]
  obtain ⟨hb, hv, hbe⟩ := br_ok hcp hr
  have hlo := hb.lo
  have hmi := hb.mid
  have hhi := hb.hi
  have hn24 := hb.n
  have hmo : 0 ≤ mostP r ∧ mostP r ≤ 24 := by unfold mostP; split <;> omega
  have hrl := resP_len hb
  clear h0
  rw [hbr]
  simp only [List.nil_append, hcp, ne_eq, not_true_eq_false, if_false]
  refine ⟨by simp [AB]; omega, trivial, by simp only [inK]; omega, bspD (fun he => ⟨by simp only [inK]; omega, ⟨(by first | trivial | rfl | (and_intros <;> rfl)), by unfold mostP; rw [if_pos he], by omega, by omega⟩, ?_⟩) (fun he => ⟨⟨(by first | trivial | rfl | (and_intros <;> rfl)), by unfold mostP; rw [if_neg he], by omega, by omega⟩, ?_⟩)⟩
  · rintro pips one most i t3_0 t3_1 t3_2 t3_3 list ⟨⟨rfl, rfl, rfl, rfl, rfl, rfl, rfl⟩, ⟨hm, i0, i1⟩⟩
    obtain ⟨k, rfl⟩ : ∃ x : Nat, i = x := ⟨i.toNat, by omega⟩
    subst hm
    simp only [Int.toNat_natCast]
    refine bspD (fun hlt => ?_) (fun hge => ?_)
    · have hk : k < (resP p r).length := by omega
      obtain ⟨q1, q2, q3, q4, q5, q6, q7⟩ := code_res hcp hr (getP_mem hk)
      have hpw := pw_bd hb.ok p.length hb.n
      simp only [q1, ne_eq, not_true_eq_false, if_false, Prod.eta, hv, q2, Bool.and_self, Bool.not_true]
      have fin : ∀ X : Prop, X → ((0 ≤ (k : Int) ∧ (k : Int) < ((resP p r).length : Int)) ∧ ((k < (resP p r).length) ∧ X)) := fun X h => ⟨⟨by omega, by omega⟩, hk, h⟩
      refine ⟨⟨by omega, by omega⟩, hk, trivial, bspD (fun h => absurd h (by decide)) (fun _ => ⟨by simp only [inK]; omega, bspD (fun h => absurd h (by omega)) (fun _ => bspD (fun h => absurd h (by omega)) (fun _ => bspD (fun he => bspD (fun h => absurd h (q7 he)) (fun _ => ?_)) (fun _ => ?_)))⟩)⟩
      · exact ⟨⟨by omega, by omega⟩, hk, trivial, bspB (fun h => by cases h) (fun _ => ⟨by simp only [inK]; omega, ⟨(by first | trivial | rfl | (and_intros <;> rfl)), trivial, by omega, by omega⟩, by omega⟩)⟩
      · exact ⟨⟨by omega, by omega⟩, hk, trivial, bspB (fun h => by cases h) (fun _ => ⟨by simp only [inK]; omega, ⟨(by first | trivial | rfl | (and_intros <;> rfl)), trivial, by omega, by omega⟩, by omega⟩)⟩
    · refine bspD (fun _ => ?_) (fun h => absurd trivial h)
      have : 0 < (resP p r).length := List.length_pos_iff.2 (resP_ne hb.ok hb.lo hb.mid)
      simp [c_laws_FnResults]
      exact this
  · rintro pips one most i t3_0 t3_1 t3_2 t3_3 list ⟨⟨rfl, rfl, rfl, rfl, rfl, rfl, rfl⟩, ⟨hm, i0, i1⟩⟩
    obtain ⟨k, rfl⟩ : ∃ x : Nat, i = x := ⟨i.toNat, by omega⟩
    subst hm
    simp only [Int.toNat_natCast]
    refine bspD (fun hlt => ?_) (fun hge => ?_)
    · have hk : k < (resP p r).length := by omega
      obtain ⟨q1, q2, q3, q4, q5, q6, q7⟩ := code_res hcp hr (getP_mem hk)
      have hpw := pw_bd hb.ok p.length hb.n
      simp only [q1, ne_eq, not_true_eq_false, if_false, Prod.eta, hv, q2, Bool.and_self, Bool.not_true]
      have fin : ∀ X : Prop, X → ((0 ≤ (k : Int) ∧ (k : Int) < ((resP p r).length : Int)) ∧ ((k < (resP p r).length) ∧ X)) := fun X h => ⟨⟨by omega, by omega⟩, hk, h⟩
      refine ⟨⟨by omega, by omega⟩, hk, trivial, bspD (fun h => absurd h (by decide)) (fun _ => ⟨by simp only [inK]; omega, bspD (fun h => absurd h (by omega)) (fun _ => bspD (fun h => absurd h (by omega)) (fun _ => bspD (fun he => bspD (fun h => absurd h (q7 he)) (fun _ => ?_)) (fun _ => ?_)))⟩)⟩
      · exact ⟨⟨by omega, by omega⟩, hk, trivial, bspB (fun h => by cases h) (fun _ => ⟨by simp only [inK]; omega, ⟨(by first | trivial | rfl | (and_intros <;> rfl)), trivial, by omega, by omega⟩, by omega⟩)⟩
      · exact ⟨⟨by omega, by omega⟩, hk, trivial, bspB (fun h => by cases h) (fun _ => ⟨by simp only [inK]; omega, ⟨(by first | trivial | rfl | (and_intros <;> rfl)), trivial, by omega, by omega⟩, by omega⟩)⟩
    · refine bspD (fun _ => ?_) (fun h => absurd trivial h)
      have : 0 < (resP p r).length := List.length_pos_iff.2 (resP_ne hb.ok hb.lo hb.mid)
      simp [c_laws_FnResults]
      exact this
end Go.Proofs.Ytgfpojneeekgkaa
