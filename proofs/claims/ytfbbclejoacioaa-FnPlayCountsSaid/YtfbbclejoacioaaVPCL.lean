/-
  The law FnPlayCounts.
-/
import Derived.Test.YtfbbclejoacioaaVForce
import Derived.Test.YtfbbclejoacioaaVDrawE
import Derived.Test.YtfbbclejoacioaaAbL
namespace Go.Proofs.Ytfbbclejoacioaa
open Go.RowKit
set_option linter.unusedSimpArgs false
set_option linter.unusedVariables false
def drawPC (c : List Int) : DVar × DBoard :=
  if (nxtD (drawSm (fromD c)).2 12).1 = 0 then (drawPair (nxtD (drawSm (fromD c)).2 12).2).1 else ((drawSm (fromD c)).1, (drawB (nxtD (drawSm (fromD c)).2 12).2 (drawSm (fromD c)).1).1)
theorem okC_ofP {c : List Int} (h : wfD (TC.sl (.i .u8)) c) (hl : ¬ 4096 < (c.length : Int)) : okC c := by
  refine ⟨by omega, fun i => ?_⟩
  by_cases hi : i < c.length
  · have := h _ (getD_mem hi 0)
    simp only [wfD, inK] at this
    omega
  · rw [List.getD_eq_getElem?_getD, List.getElem?_eq_none (by omega)]; decide
theorem seqN_rows (v : DVar) (b : DBoard) (o : List Int) : ((rowsD v b o).length : Int) - 1 = seqN v b o := by
  simp only [rowsD, seqN, List.length_cons]; omega
theorem sel_ne (v : DVar) (b : DBoard) (r : DRoll) : selD v b (usedD v b r) (ordersD r) ≠ [] := by
  have key : ∃ o, o ∈ ordersD r ∧ seqN v b o = usedD v b r := by
    have pos : ∀ o, 0 ≤ seqN v b o := fun o => by unfold seqN; omega
    unfold usedD usedL ordersD
    split
    · refine ⟨_, List.mem_singleton.2 rfl, ?_⟩
      simp only [List.map_cons, List.map_nil, List.foldl_cons, List.foldl_nil, seqN_rows]
      have := pos [r.1, r.1, r.1, r.1]; omega
    · simp only [List.map_cons, List.map_nil, List.foldl_cons, List.foldl_nil, seqN_rows]
      have p1 := pos [r.1, r.2]
      have p2 := pos [r.2, r.1]
      by_cases h : seqN v b [r.1, r.2] ≤ seqN v b [r.2, r.1]
      · exact ⟨[r.2, r.1], by simp, by omega⟩
      · exact ⟨[r.1, r.2], by simp, by omega⟩
  obtain ⟨o, h1, h2⟩ := key
  have hm : o ∈ (ordersD r).filter fun o => decide (seqN v b o = usedD v b r) := List.mem_filter.2 ⟨h1, by simpa using h2⟩
  unfold selD
  split
  · intro e
    cases hf : (ordersD r).filter fun o => decide (seqN v b o = usedD v b r) with
    | nil => rw [hf] at hm; simp at hm
    | cons x xs => rw [hf] at e; simp at e
  · exact fun e => by rw [e] at hm; simp at hm
theorem allD_pos (v : DVar) (b : DBoard) (r : DRoll) : 1 ≤ (allD v b r).length := by
  have hne : (selD v b (usedD v b r) (ordersD r)).flatMap (longD v b) ≠ [] := by
    cases hs : selD v b (usedD v b r) (ordersD r) with
    | nil => exact absurd hs (sel_ne v b r)
    | cons o l =>
      simp only [List.flatMap_cons]
      intro e
      exact longD_ne v b o (List.append_eq_nil_iff.1 e).1
  unfold allD
  cases hl : (selD v b (usedD v b r) (ordersD r)).flatMap (longD v b) with
  | nil => exact absurd hl hne
  | cons p l =>
    have := (len_foldl_addP l (addP [] p)).1
    simp only [List.foldl_cons]
    simp only [addP, List.any_nil, Bool.false_eq_true, if_false, List.nil_append, List.length_cons, List.length_nil] at this ⊢
    omega
/-- what is left of the dancing weight behind the first k rolls -/
def leftW (v : DVar) (b : DBoard) (k : Nat) : Int := (rollsTo v.2.2.2.toNat).foldl (danceS v b) 0 - ((rollsTo v.2.2.2.toNat).take k).foldl (danceS v b) 0
theorem counts_zero {v : DVar} {b : DBoard} (h : (countsD v b).2 = 0) : boardD v b = true ∧ (countsD v b).1 = (rollsTo v.2.2.2.toNat).map fun r => ((allD v b r).length : Int) := by
  unfold countsD at h ⊢
  split at h
  · exact absurd (show (1 : Int) = 0 from h) (by decide)
  · next g =>
    rw [if_neg g]
    split at h
    · next k => rw [if_pos k]; exact ⟨by simpa using g, rfl⟩
    · exact absurd (show (3 : Int) = 0 from h) (by decide)
def c_spec_DrawPlayCounts : Con where
  ins := [(false, .v (.sl (.i .u8)))]
  outs := [(true, .v tVar), (true, .v tBoard)]
  sh := false
  pre := fun x => okC x.1
  out := fun x => ((drawPC x.1).1, (drawPC x.1).2, ())
  upd := fun x => x
theorem k_spec_DrawPlayCounts : ConOk Try.prog 5 c_spec_DrawPlayCounts := by
  refine fn_ok (C := cx Try.prog 21 c_spec_DrawPlayCounts) (cs := [(13, c_spec_l01From), (14, c_spec_l01DrawSmall), (15, c_spec_l01Next), (16, c_spec_l02DrawPair), (17, c_spec_l02Draw)]) (res := Try.f5.results.toList) (fun _ => ⟨[], [(5, ⟨[[], [], [], [1, 2], [0, 1, 2, 3], [0, 1, 2, 3, 4]], [[1, 2, 3], [0, 2], [0, 1], [0], [], []], [[49], [], [], [], [], []]⟩)], []⟩) Try.func5 (by kernel_rfl) rfl rfl rfl tysOk.look eqTsOk.look (AllCs.ok (l := [(13, c_spec_l01From), (14, c_spec_l01DrawSmall), (15, c_spec_l01Next), (16, c_spec_l02DrawPair), (17, c_spec_l02Draw)]) ⟨k_spec_l01From, k_spec_l01DrawSmall, k_spec_l01Next, k_spec_l02DrawPair, k_spec_l02Draw, trivial⟩) mixed rfl rfl rfl ?_
  refine of_nf (P := ∀ c : List Int, (okC c) → ((lensI c_spec_DrawPlayCounts.ins (c, ())) → ((okC c) ∧ ((okS (fromD c)) ∧ ((okS ((fromD c).1, (drawSm (fromD c)).2.2) ∧ (12 : Int) ≤ 1000000000000) ∧ (bsp (decide ((nxtD ((fromD c).1, (drawSm (fromD c)).2.2) (12 : Int)).1 = (0 : Int))) ((okS ((fromD c).1, (nxtD ((fromD c).1, (drawSm (fromD c)).2.2) (12 : Int)).2.2)) ∧ (@Eq (HO c_spec_DrawPlayCounts.outs) ((drawPair ((fromD c).1, (nxtD ((fromD c).1, (drawSm (fromD c)).2.2) (12 : Int)).2.2)).1.1, (drawPair ((fromD c).1, (nxtD ((fromD c).1, (drawSm (fromD c)).2.2) (12 : Int)).2.2)).1.2, ()) (c_spec_DrawPlayCounts.out (c, ())))) ((okS ((fromD c).1, (nxtD ((fromD c).1, (drawSm (fromD c)).2.2) (12 : Int)).2.2) ∧ varD (drawSm (fromD c)).1 = true) ∧ (@Eq (HO c_spec_DrawPlayCounts.outs) ((drawSm (fromD c)).1, (drawB ((fromD c).1, (nxtD ((fromD c).1, (drawSm (fromD c)).2.2) (12 : Int)).2.2) (drawSm (fromD c)).1).1, ()) (c_spec_DrawPlayCounts.out (c, ())))))))))) (by kernel_rfl) ?_
  rintro c hc hl
  have hF := fromD_ok hc
  obtain ⟨s1, s2, s3⟩ := drawSm_ok hF
  have n1 := nxtD_ok s1 12
  have hD := drawPC.eq_1 c
  have out : ∀ r, drawPC c = r → @Eq (HO c_spec_DrawPlayCounts.outs) (r.1, r.2, ()) (c_spec_DrawPlayCounts.out (c, ())) := fun r h => by subst h; rfl
  simp only [src_etaB, nxtD_codeB, s2]
  exact ⟨hc, hF, ⟨s1, by decide⟩, bspD (fun h => ⟨n1, out _ (hD.trans (if_pos h))⟩) (fun h => ⟨⟨n1, s3⟩, out _ (hD.trans (if_neg h))⟩)⟩
def c_laws_big : Con where
  ins := [(false, .v (.sl (.i .u8)))]
  outs := [(false, .v .b)]
  sh := false
  pre := fun _ => True
  out := fun x => (decide (4096 < (List.length x.1 : Int)), ())
  upd := fun x => x
theorem k_laws_big : ConOk Try.prog 4 c_laws_big := by
  refine fn_ok (C := cx Try.prog 6 c_laws_big) (cs := []) (res := Try.f4.results.toList) (fun _ => ⟨[], [], []⟩) Try.func4 (by kernel_rfl) rfl rfl rfl tysOk.look eqTsOk.look (AllCs.ok (l := []) trivial) mixed rfl rfl rfl ?_
  refine of_nf (P := ∀ c : List Int, (True) → ((lensI c_laws_big.ins (c, ())) → (@Eq (HO c_laws_big.outs) ((decide ((4096 : Int) < (c.length : Int))), ()) (c_laws_big.out (c, ()))))) (by kernel_rfl) ?_
  rintro c hp hl
  rfl
def c_laws_likeInts : Con where
  ins := [(false, .v tSI), (false, .v tSI)]
  outs := [(false, .v .b)]
  sh := false
  pre := fun _ => True
  out := fun x => (decide (x.1 = x.2.1), ())
  upd := fun x => x
theorem k_laws_likeInts : ConOk Try.prog 8 c_laws_likeInts := by
  refine fn_ok (C := cx Try.prog 26 c_laws_likeInts) (cs := []) (res := Try.f8.results.toList) (fun x => ⟨[{ sh := ⟨[(0, .one (.ref 0)), (1, .one (.ref 1)), (5, .one (.i .i64))], [(0, .imm tI false), (1, .imm tI false)]⟩, nx := 2, I := fun _ dat_ => (x.1 = dat_.2.1 ∧ x.2.1 = dat_.2.2.1) ∧ (List.length x.1 = List.length x.2.1 ∧ (∀ j : Nat, j < Int.toNat dat_.1.2.2.1 → List.getD x.1 j 0 = List.getD x.2.1 j 0) ∧ 0 ≤ dat_.1.2.2.1 ∧ dat_.1.2.2.1 ≤ (List.length x.1 : Int)), mu := fun dat_ => Int.toNat ((List.length x.1 : Int) - dat_.1.2.2.1) }], [(6, ⟨[[], [], [0, 1], [0, 1, 2], [], [], [4, 5], [4, 5, 6], [0, 1, 2, 3, 4, 5, 6, 7]], [[1, 4, 5, 6, 7], [0, 4, 5, 6, 7], [4, 5, 6, 7], [4, 5, 6, 7], [0, 1, 2, 3, 5], [0, 1, 2, 3, 4], [0, 1, 2, 3], [0, 1, 2, 3], []], []⟩)], []⟩) Try.func8 (by kernel_rfl) rfl rfl rfl tysOk.look eqTsOk.look (AllCs.ok (l := []) trivial) mixed rfl rfl rfl ?_
  refine of_nf (P := ∀ p : List Int, ∀ q : List Int, (True) → ((lensI c_laws_likeInts.ins (p, q, ())) → (bsp (decide ((p.length : Int) ≠ (q.length : Int))) (@Eq (HO c_laws_likeInts.outs) (false, ()) (c_laws_likeInts.out (p, q, ()))) (((p = p ∧ q = q) ∧ (List.length p = List.length q ∧ (∀ j : Nat, j < Int.toNat (0 : Int) → List.getD p j 0 = List.getD q j 0) ∧ 0 ≤ (0 : Int) ∧ (0 : Int) ≤ (List.length p : Int))) ∧ (∀ i : Int, ∀ t0 : List Int, ∀ t1 : List Int, ((p = t0 ∧ q = t1) ∧ (List.length p = List.length q ∧ (∀ j : Nat, j < Int.toNat i → List.getD p j 0 = List.getD q j 0) ∧ 0 ≤ i ∧ i ≤ (List.length p : Int))) → (bsp (decide (i < (t0.length : Int))) ((0 ≤ i ∧ i < (t0.length : Int)) ∧ ((i.toNat < t0.length) ∧ ((0 ≤ i ∧ i < (t1.length : Int)) ∧ ((i.toNat < t1.length) ∧ (bsp (decide ((t0.getD i.toNat 0) ≠ (t1.getD i.toNat 0))) (@Eq (HO c_laws_likeInts.outs) (false, ()) (c_laws_likeInts.out (p, q, ()))) ((inK .i64 (i + 1)) ∧ (((p = t0 ∧ q = t1) ∧ (List.length p = List.length q ∧ (∀ j : Nat, j < Int.toNat (i + 1) → List.getD p j 0 = List.getD q j 0) ∧ 0 ≤ (i + 1) ∧ (i + 1) ≤ (List.length p : Int))) ∧ ((Int.toNat ((List.length p : Int) - (i + 1)) : Nat) < Int.toNat ((List.length p : Int) - i))))))))) (@Eq (HO c_laws_likeInts.outs) (true, ()) (c_laws_likeInts.out (p, q, ()))))))))) (by kernel_rfl) ?_
  rintro p q hp hl
  have hlen : p.length ≤ 9223372036854775807 := hl.1.1
  refine bspD (fun h => ?_) (fun h => ⟨⟨(by first | trivial | rfl | (and_intros <;> rfl)), by omega, fun j hj => by simp at hj, by omega, by omega⟩, ?_⟩)
  · have : p ≠ q := fun e => h (by rw [e])
    simp only [c_laws_likeInts, decide_eq_false this]
  rintro i t0 t1 ⟨⟨rfl, rfl⟩, ⟨he, ha, i0, i1⟩⟩
  obtain ⟨k, rfl⟩ : ∃ k : Nat, i = k := ⟨i.toNat, by omega⟩
  simp only [Int.toNat_natCast, show ((k : Int) + 1).toNat = k + 1 by omega] at ha ⊢
  refine bspD (fun hlt => ⟨⟨by omega, by omega⟩, by omega, ⟨by omega, by omega⟩, by omega, bspD (fun g => ?_) (fun g => ⟨by simp only [inK]; omega, ⟨(by first | trivial | rfl | (and_intros <;> rfl)), he, fun j hj => ?_, by omega, by omega⟩, by omega⟩)⟩) (fun hge => ?_)
  · have : p ≠ q := fun e => g (by rw [e])
    simp only [c_laws_likeInts, decide_eq_false this]
  · by_cases e : j = k
    · subst e; exact Decidable.not_not.1 g
    · exact ha j (by omega)
  · have : p = q := List.ext_getElem? fun j => by
      by_cases e : j < p.length
      · have := ha j (by omega)
        rw [List.getD_eq_getElem?_getD, List.getD_eq_getElem?_getD, List.getElem?_eq_getElem e, List.getElem?_eq_getElem (by omega)] at this
        rw [List.getElem?_eq_getElem e, List.getElem?_eq_getElem (by omega)]
        exact congrArg some this
      · rw [List.getElem?_eq_none (by omega), List.getElem?_eq_none (by omega)]
    simp only [c_laws_likeInts, decide_eq_true this]
def c_laws_FnPlayCounts : Con where
  ins := [(false, .v (.sl (.i .u8)))]
  outs := [(false, .v .b)]
  sh := false
  pre := fun x => wfD (TC.sl (.i .u8)) x.1
  out := fun _ => (true, ())
  upd := fun x => x
theorem k_laws_FnPlayCounts : ConOk Try.prog 3 c_laws_FnPlayCounts := by
  refine fn_ok (C := cx Try.prog 99 c_laws_FnPlayCounts) (cs := [(4, c_laws_big), (5, c_spec_DrawPlayCounts), (6, c_impl_PlayCounts), (7, c_spec_PlayCounts), (8, c_laws_likeInts), (9, c_impl_AllRolls), (10, c_impl_DancingWeight), (11, c_impl_DiceUsed), (12, c_impl_RollWeight)]) (res := Try.f3.results.toList) (fun x => ⟨[{ sh := ⟨[(3, .one (.ref 0)), (4, .one (.ref 1)), (5, .one (.ref 2)), (9, .one (.ref 3)), (10, .one (.i .i64)), (12, .one (.i .i64))], [(0, .box [.i .i64, .i .i64, .i .i64, .i .i64]), (1, .box [.ref 4, .ref 5]), (2, .own 2 tI true), (3, .imm tRoll true), (4, .imm tI true), (5, .imm tI true)]⟩, nx := 6, I := fun _ dat_ => ((drawPC x.1).1.1 = dat_.2.1.1 ∧ (drawPC x.1).1.2.1 = dat_.2.1.2.1 ∧ (drawPC x.1).1.2.2.1 = dat_.2.1.2.2.1 ∧ (drawPC x.1).1.2.2.2 = dat_.2.1.2.2.2.1 ∧ (countsD (drawPC x.1).1 (drawPC x.1).2).1 = dat_.2.2.2.1 ∧ (if varD (drawPC x.1).1 then rollsTo (Int.toNat (drawPC x.1).1.2.2.2) else []) = dat_.2.2.2.2.1 ∧ (drawPC x.1).2.1 = dat_.2.2.2.2.2.1 ∧ (drawPC x.1).2.2 = dat_.2.2.2.2.2.2.1) ∧ ((dat_.1.2.2.2.2.1 = leftW (drawPC x.1).1 (drawPC x.1).2 (Int.toNat dat_.1.2.2.2.2.2.1) ∧ boardD (drawPC x.1).1 (drawPC x.1).2 = true) ∧ 0 ≤ dat_.1.2.2.2.2.2.1 ∧ dat_.1.2.2.2.2.2.1 ≤ (List.length (rollsTo (Int.toNat (drawPC x.1).1.2.2.2)) : Int)), mu := fun dat_ => Int.toNat ((List.length (rollsTo (Int.toNat (drawPC x.1).1.2.2.2)) : Int) - dat_.1.2.2.2.2.2.1) }], [(17, ⟨[[], [], [], [], [2, 3], [2, 3, 4], [0, 1, 2, 3, 4, 5], [0, 1, 2, 3, 4, 5, 6], [0, 1, 2, 3, 4, 5, 6, 7], [0, 1, 2, 3, 4, 5, 6, 7], [0, 1, 2, 3, 4, 5, 6, 7, 8], [0, 1, 2, 3, 4, 5, 6, 7, 8, 9, 10]], [[1, 2, 3, 4, 5], [0, 2, 3, 4, 5], [0, 1, 3], [0, 1, 2], [0, 1], [0, 1], [], [], [9], [8, 10], [9], []], []⟩), (21, ⟨[[], [], [], [], [2, 3], [2, 3, 4], [1, 2, 3, 4, 5], [0, 1, 2, 3, 4, 5, 6], [0, 1, 2, 3, 4, 5, 6, 7]], [[1, 2, 3, 4, 5, 6], [0, 2, 3, 4, 5], [0, 1, 3], [0, 1, 2], [0, 1], [0, 1], [0], [], []], []⟩)], []⟩) Try.func3 (by kernel_rfl) rfl rfl rfl tysOk.look eqTsOk.look (AllCs.ok (l := [(4, c_laws_big), (5, c_spec_DrawPlayCounts), (6, c_impl_PlayCounts), (7, c_spec_PlayCounts), (8, c_laws_likeInts), (9, c_impl_AllRolls), (10, c_impl_DancingWeight), (11, c_impl_DiceUsed), (12, c_impl_RollWeight)]) ⟨k_laws_big, k_spec_DrawPlayCounts, k_impl_PlayCounts, k_spec_PlayCounts, k_laws_likeInts, k_impl_AllRolls, k_impl_DancingWeight, k_impl_DiceUsed, k_impl_RollWeight, trivial⟩) mixed rfl rfl rfl ?_
  refine of_nf (P := ∀ c : List Int, (wfD (TC.sl (.i .u8)) c) → ((lensI c_laws_FnPlayCounts.ins (c, ())) → (True ∧ (bsp (decide (4096 < (List.length c : Int))) (@Eq (HO c_laws_FnPlayCounts.outs) (true, ()) (c_laws_FnPlayCounts.out (c, ()))) ((okC c) ∧ (True ∧ (True ∧ (bsp (decide ((countsD (drawPC c).1 (drawPC c).2).2 ≠ (countsD (drawPC c).1 (drawPC c).2).2)) (@Eq (HO c_laws_FnPlayCounts.outs) (false, ()) (c_laws_FnPlayCounts.out (c, ()))) (True ∧ (bsp (!(decide ((countsD (drawPC c).1 (drawPC c).2).1 = (countsD (drawPC c).1 (drawPC c).2).1))) (@Eq (HO c_laws_FnPlayCounts.outs) (false, ()) (c_laws_FnPlayCounts.out (c, ()))) (bsp (decide ((countsD (drawPC c).1 (drawPC c).2).2 ≠ (0 : Int))) (@Eq (HO c_laws_FnPlayCounts.outs) (true, ()) (c_laws_FnPlayCounts.out (c, ()))) (True ∧ (True ∧ (bsp (decide ((danceD (drawPC c).1 (drawPC c).2).2 ≠ (0 : Int))) (@Eq (HO c_laws_FnPlayCounts.outs) (false, ()) (c_laws_FnPlayCounts.out (c, ()))) (bsp (decide (((if varD (drawPC c).1 then rollsTo (Int.toNat (drawPC c).1.2.2.2) else []).length : Int) ≠ ((countsD (drawPC c).1 (drawPC c).2).1.length : Int))) (@Eq (HO c_laws_FnPlayCounts.outs) (false, ()) (c_laws_FnPlayCounts.out (c, ()))) ((((drawPC c).1.1 = (drawPC c).1.1 ∧ (drawPC c).1.2.1 = (drawPC c).1.2.1 ∧ (drawPC c).1.2.2.1 = (drawPC c).1.2.2.1 ∧ (drawPC c).1.2.2.2 = (drawPC c).1.2.2.2 ∧ (countsD (drawPC c).1 (drawPC c).2).1 = (countsD (drawPC c).1 (drawPC c).2).1 ∧ (if varD (drawPC c).1 then rollsTo (Int.toNat (drawPC c).1.2.2.2) else []) = (if varD (drawPC c).1 then rollsTo (Int.toNat (drawPC c).1.2.2.2) else []) ∧ (drawPC c).2.1 = (drawPC c).2.1 ∧ (drawPC c).2.2 = (drawPC c).2.2) ∧ (((danceD (drawPC c).1 (drawPC c).2).1 = leftW (drawPC c).1 (drawPC c).2 (Int.toNat (0 : Int)) ∧ boardD (drawPC c).1 (drawPC c).2 = true) ∧ 0 ≤ (0 : Int) ∧ (0 : Int) ≤ (List.length (rollsTo (Int.toNat (drawPC c).1.2.2.2)) : Int))) ∧ (∀ w : Int, ∀ i : Int, ∀ t3_0 : Int, ∀ t3_1 : Int, ∀ t3_2 : Int, ∀ t3_3 : Int, ∀ t5 : List Int, ∀ t9 : List (Int × Int), ∀ t4_0 : List Int, ∀ t4_1 : List Int, (((drawPC c).1.1 = t3_0 ∧ (drawPC c).1.2.1 = t3_1 ∧ (drawPC c).1.2.2.1 = t3_2 ∧ (drawPC c).1.2.2.2 = t3_3 ∧ (countsD (drawPC c).1 (drawPC c).2).1 = t5 ∧ (if varD (drawPC c).1 then rollsTo (Int.toNat (drawPC c).1.2.2.2) else []) = t9 ∧ (drawPC c).2.1 = t4_0 ∧ (drawPC c).2.2 = t4_1) ∧ ((w = leftW (drawPC c).1 (drawPC c).2 (Int.toNat i) ∧ boardD (drawPC c).1 (drawPC c).2 = true) ∧ 0 ≤ i ∧ i ≤ (List.length (rollsTo (Int.toNat (drawPC c).1.2.2.2)) : Int))) → (bsp (decide (i < (t9.length : Int))) ((0 ≤ i ∧ i < (t9.length : Int)) ∧ ((i.toNat < t9.length) ∧ (True ∧ (bsp (decide ((diceUsedD (t3_0, t3_1, t3_2, t3_3) (t4_0, t4_1) (t9.getD i.toNat (0, 0))).2 ≠ (0 : Int))) (@Eq (HO c_laws_FnPlayCounts.outs) (false, ()) (c_laws_FnPlayCounts.out (c, ()))) ((0 ≤ i ∧ i < (t5.length : Int)) ∧ ((i.toNat < t5.length) ∧ (bsp (decide ((t5.getD i.toNat 0) < (1 : Int))) (@Eq (HO c_laws_FnPlayCounts.outs) (false, ()) (c_laws_FnPlayCounts.out (c, ()))) (bsp (decide ((diceUsedD (t3_0, t3_1, t3_2, t3_3) (t4_0, t4_1) (t9.getD i.toNat (0, 0))).1 = (0 : Int))) ((0 ≤ i ∧ i < (t9.length : Int)) ∧ ((i.toNat < t9.length) ∧ (True ∧ ((inK .i64 (w - (weightD (t3_0, t3_1, t3_2, t3_3) (t9.getD i.toNat (0, 0))))) ∧ ((inK .i64 (i + 1)) ∧ ((((drawPC c).1.1 = t3_0 ∧ (drawPC c).1.2.1 = t3_1 ∧ (drawPC c).1.2.2.1 = t3_2 ∧ (drawPC c).1.2.2.2 = t3_3 ∧ (countsD (drawPC c).1 (drawPC c).2).1 = t5 ∧ (if varD (drawPC c).1 then rollsTo (Int.toNat (drawPC c).1.2.2.2) else []) = t9 ∧ (drawPC c).2.1 = t4_0 ∧ (drawPC c).2.2 = t4_1) ∧ (((w - (weightD (t3_0, t3_1, t3_2, t3_3) (t9.getD i.toNat (0, 0)))) = leftW (drawPC c).1 (drawPC c).2 (Int.toNat (i + 1)) ∧ boardD (drawPC c).1 (drawPC c).2 = true) ∧ 0 ≤ (i + 1) ∧ (i + 1) ≤ (List.length (rollsTo (Int.toNat (drawPC c).1.2.2.2)) : Int))) ∧ ((Int.toNat ((List.length (rollsTo (Int.toNat (drawPC c).1.2.2.2)) : Int) - (i + 1)) : Nat) < Int.toNat ((List.length (rollsTo (Int.toNat (drawPC c).1.2.2.2)) : Int) - i)))))))) ((inK .i64 (i + 1)) ∧ ((((drawPC c).1.1 = t3_0 ∧ (drawPC c).1.2.1 = t3_1 ∧ (drawPC c).1.2.2.1 = t3_2 ∧ (drawPC c).1.2.2.2 = t3_3 ∧ (countsD (drawPC c).1 (drawPC c).2).1 = t5 ∧ (if varD (drawPC c).1 then rollsTo (Int.toNat (drawPC c).1.2.2.2) else []) = t9 ∧ (drawPC c).2.1 = t4_0 ∧ (drawPC c).2.2 = t4_1) ∧ ((w = leftW (drawPC c).1 (drawPC c).2 (Int.toNat (i + 1)) ∧ boardD (drawPC c).1 (drawPC c).2 = true) ∧ 0 ≤ (i + 1) ∧ (i + 1) ≤ (List.length (rollsTo (Int.toNat (drawPC c).1.2.2.2)) : Int))) ∧ ((Int.toNat ((List.length (rollsTo (Int.toNat (drawPC c).1.2.2.2)) : Int) - (i + 1)) : Nat) < Int.toNat ((List.length (rollsTo (Int.toNat (drawPC c).1.2.2.2)) : Int) - i)))))))))))) (@Eq (HO c_laws_FnPlayCounts.outs) ((decide (w = (0 : Int))), ()) (c_laws_FnPlayCounts.out (c, ()))))))))))))))))))))) (by kernel_rfl) ?_
  rintro c hw hl
  refine ⟨trivial, bspD (fun _ => rfl) (fun hb => ?_)⟩
  have hc := okC_ofP hw hb
  clear hw hl hb
  refine ⟨hc, trivial, trivial, bspD (fun h => absurd rfl h) (fun _ => ⟨trivial, bspB (fun h => ?_) (fun _ => bspD (fun _ => rfl) (fun h0 => ?_))⟩)⟩
  · exfalso; simp at h
  obtain ⟨hbo, hcs⟩ := counts_zero (Decidable.not_not.1 h0)
  clear h0 hc
  generalize (drawPC c).1 = v at *
  generalize (drawPC c).2 = b at *
  have hv : varD v = true := (boardD_bd hbo).1
  have hda : danceD v b = ((rollsTo v.2.2.2.toNat).foldl (danceS v b) 0, 0) := by unfold danceD; rw [if_pos hbo]
  have hn36 := rollsTo_len v.2.2.2.toNat (by have := (varD_iff.1 hv).2.2.2; omega)
  have hs6 := (varD_iff.1 hv).2.2.2
  have hd1 : (danceD v b).1 = leftW v b 0 := by rw [hda]; simp [leftW]
  have hd2 : (danceD v b).2 = 0 := by rw [hda]
  have hcl : (countsD v b).1.length = (rollsTo v.2.2.2.toNat).length := by rw [hcs, List.length_map]
  have hc1 : ∀ k : Nat, k < (rollsTo v.2.2.2.toNat).length → ¬ (countsD v b).1.getD k 0 < 1 := fun k hk => by
    rw [hcs, List.getD_eq_getElem?_getD, List.getElem?_map, List.getElem?_eq_getElem hk]
    have := allD_pos v b (rollsTo v.2.2.2.toNat)[k]
    simp only [Option.map_some, Option.getD_some]; omega
  rw [if_pos hv]
  refine ⟨trivial, trivial, bspD (fun h => absurd hd2 h) (fun _ => bspD (fun h => absurd (by omega) h) (fun _ => ⟨⟨(by first | trivial | rfl | (and_intros <;> rfl)), ⟨hd1, hbo⟩, by omega, by omega⟩, ?_⟩))⟩
  rintro w i t3_0 t3_1 t3_2 t3_3 t5 t9 t4_0 t4_1 ⟨⟨rfl, rfl, rfl, rfl, rfl, rfl, rfl, rfl⟩, ⟨⟨hw, -⟩, i0, i1⟩⟩
  simp only [Prod.eta]
  obtain ⟨k, rfl⟩ : ∃ k : Nat, i = k := ⟨i.toNat, by omega⟩
  simp only [Int.toNat_natCast, show ((k : Int) + 1).toNat = k + 1 by omega] at hw ⊢
  have bt := dance_bd v b (rollsTo v.2.2.2.toNat)
  have bk := dance_bd v b ((rollsTo v.2.2.2.toNat).take k)
  rw [List.length_take] at bk
  refine bspD (fun hlt => ?_) (fun hge => ?_)
  · have hk : k < (rollsTo v.2.2.2.toNat).length := by omega
    have hro := rollsTo_ok hv (getD_mem hk (0, 0))
    have hcd : codeD v b ((rollsTo v.2.2.2.toNat).getD k (0, 0)) = 0 := by simp only [codeD, hbo, hro]; decide
    have hu : diceUsedD v b ((rollsTo v.2.2.2.toNat).getD k (0, 0)) = (usedD v b ((rollsTo v.2.2.2.toNat).getD k (0, 0)), 0) := by unfold diceUsedD; rw [if_neg (by rw [hcd]; decide)]
    have hu1 : (diceUsedD v b ((rollsTo v.2.2.2.toNat).getD k (0, 0))).1 = usedD v b ((rollsTo v.2.2.2.toNat).getD k (0, 0)) := by rw [hu]
    have hu2 : (diceUsedD v b ((rollsTo v.2.2.2.toNat).getD k (0, 0))).2 = 0 := by rw [hu]
    have hwt : weightD v ((rollsTo v.2.2.2.toNat).getD k (0, 0)) = wtD ((rollsTo v.2.2.2.toNat).getD k (0, 0)) := if_pos hro
    have hwb := wtD_bd ((rollsTo v.2.2.2.toNat).getD k (0, 0))
    have t := take_fold_succ (danceS v b) 0 hk (0, 0)
    have hL : leftW v b (k + 1) = (rollsTo v.2.2.2.toNat).foldl (danceS v b) 0 - danceS v b (((rollsTo v.2.2.2.toNat).take k).foldl (danceS v b) 0) ((rollsTo v.2.2.2.toNat).getD k (0, 0)) := by unfold leftW; rw [t]
    have hw' : w = (rollsTo v.2.2.2.toNat).foldl (danceS v b) 0 - ((rollsTo v.2.2.2.toNat).take k).foldl (danceS v b) 0 := hw
    have hck := hc1 k hk
    refine ⟨⟨by omega, by omega⟩, hk, trivial, bspD (fun h => absurd hu2 h) (fun _ => ⟨⟨by omega, by omega⟩, by omega, bspD (fun h => absurd h hck) (fun _ => bspD (fun h => ?_) (fun h => ?_))⟩)⟩
    · rw [hu1] at h
      have e2 : danceS v b (((rollsTo v.2.2.2.toNat).take k).foldl (danceS v b) 0) ((rollsTo v.2.2.2.toNat).getD k (0, 0)) = ((rollsTo v.2.2.2.toNat).take k).foldl (danceS v b) 0 + wtD ((rollsTo v.2.2.2.toNat).getD k (0, 0)) := if_pos (usedD_zero.1 h)
      rw [hwt]
      exact ⟨⟨by omega, by omega⟩, hk, trivial, by simp only [inK]; omega, by simp only [inK]; omega, ⟨(by first | trivial | rfl | (and_intros <;> rfl)), ⟨by rw [hL, e2]; omega, hbo⟩, by omega, by omega⟩, by omega⟩
    · rw [hu1] at h
      have e2 : danceS v b (((rollsTo v.2.2.2.toNat).take k).foldl (danceS v b) 0) ((rollsTo v.2.2.2.toNat).getD k (0, 0)) = ((rollsTo v.2.2.2.toNat).take k).foldl (danceS v b) 0 := if_neg fun x => h (usedD_zero.2 x)
      exact ⟨by simp only [inK]; omega, ⟨(by first | trivial | rfl | (and_intros <;> rfl)), ⟨by rw [hL, e2]; exact hw', hbo⟩, by omega, by omega⟩, by omega⟩
  · have hz : w = 0 := by
      rw [hw]
      unfold leftW
      rw [List.take_of_length_le (by omega)]; omega
    rw [decide_eq_true hz]; rfl
end Go.Proofs.Ytfbbclejoacioaa
