/-
  Contracts: the draw of ResultOf.
-/
import Derived.Test.YtghfpidpefdndaaVDrawE
namespace Go.Proofs.Ytghfpidpefdndaa
open Go.RowKit
set_option linter.unusedSimpArgs false
set_option linter.unusedVariables false
theorem sumTo_bd16 {zs : List Int} (h : At16 zs) : ∀ k : Nat, k ≤ zs.length → -(k : Int) ≤ sumTo zs k ∧ sumTo zs k ≤ 16 * k
  | 0, _ => by simp [sumTo_zero]
  | k + 1, hk => by
    have := sumTo_bd16 h k (by omega)
    have hz := h.2 k
    rw [sumTo_succ (by omega)]
    omega
def finR (v : DVar) (b : DBoard) (s : DSrc) : DVar × DBoard := (v, if (nextD s 4).1 = 0 then (b.2, b.1) else b)
def resI (s : DSrc) (n : Nat) : Int × DSrc := nextD (nextD (nextD s 4).2 2).2 n
def drawResP (p : (DVar × DBoard) × DSrc) : DVar × DBoard :=
  if varD p.1.1 = true ∧ 0 < (nextD p.2 4).1 then
    if (nextD (nextD p.2 4).2 2).1 = 0 ∧ 0 < p.1.2.2.length then
      finR p.1.1 (emptyD p.1.1, p.1.2.2.set (resI p.2 p.1.2.2.length).1.toNat (p.1.2.2.getD (resI p.2 p.1.2.2.length).1.toNat 0 + (p.1.1.2.1 - p.1.2.2.sum))) (resI p.2 p.1.2.2.length).2
    else finR p.1.1 (emptyD p.1.1, p.1.2.2) (nextD (nextD p.2 4).2 2).2
  else if varD p.1.1 = true then finR p.1.1 p.1.2 (nextD p.2 4).2 else finR p.1.1 p.1.2 p.2
def drawRes (c : List Int) : DVar × DBoard := drawResP (drawPair (fromD c))
def c_spec_l02Sumw : Con where
  ins := [(false, .v tSI)]
  outs := [(false, .v tI)]
  sh := false
  pre := fun x => At16 x.1
  out := fun x => (List.sum x.1, ())
  upd := fun x => x
theorem k_spec_l02Sumw : ConOk Try.prog 153 c_spec_l02Sumw := by
  refine fn_ok (C := cx Try.prog 18 c_spec_l02Sumw) (cs := []) (res := Try.f153.results.toList) (fun x => ⟨[{ sh := ⟨[(0, .one (.ref 0)), (3, .one (.i .i64)), (4, .one (.i .i64))], [(0, .imm tI false)]⟩, nx := 1, I := fun _ dat_ => (x.1 = dat_.2.1) ∧ (dat_.1.2.1 = sumTo x.1 (Int.toNat dat_.1.2.2.1) ∧ 0 ≤ dat_.1.2.2.1 ∧ dat_.1.2.2.1 ≤ (List.length x.1 : Int)), mu := fun dat_ => Int.toNat ((List.length x.1 : Int) - dat_.1.2.2.1) }], [], []⟩) Try.func153 (by kernel_rfl) rfl rfl rfl tysOk.look eqTsOk.look (AllCs.ok (l := []) trivial) mixed rfl rfl rfl ?_
  refine of_nf (P := ∀ zs : List Int, (At16 zs) → ((lensI c_spec_l02Sumw.ins (zs, ())) → (((zs = zs) ∧ ((0 : Int) = sumTo zs (Int.toNat (0 : Int)) ∧ 0 ≤ (0 : Int) ∧ (0 : Int) ≤ (List.length zs : Int))) ∧ (∀ s : Int, ∀ i : Int, ∀ l : List Int, ((zs = l) ∧ (s = sumTo zs (Int.toNat i) ∧ 0 ≤ i ∧ i ≤ (List.length zs : Int))) → (bsp (decide (i < (l.length : Int))) ((0 ≤ i ∧ i < (l.length : Int)) ∧ ((i.toNat < l.length) ∧ ((inK .i64 (s + (l.getD i.toNat 0))) ∧ ((inK .i64 (i + 1)) ∧ (((zs = l) ∧ ((s + (l.getD i.toNat 0)) = sumTo zs (Int.toNat (i + 1)) ∧ 0 ≤ (i + 1) ∧ (i + 1) ≤ (List.length zs : Int))) ∧ ((Int.toNat ((List.length zs : Int) - (i + 1)) : Nat) < Int.toNat ((List.length zs : Int) - i))))))) (@Eq (HO c_spec_l02Sumw.outs) (s, ()) (c_spec_l02Sumw.out (zs, ())))))))) (by kernel_rfl) ?_
  rintro zs hpre hl
  refine ⟨⟨(by first | trivial | rfl | (and_intros <;> rfl)), by simp [sumTo], by omega, by omega⟩, ?_⟩
  rintro s i l ⟨rfl, ⟨hs, h0, h1⟩⟩
  have hlen := hpre.1
  refine bspD (fun hlt => ?_) (fun hge => ?_)
  · obtain ⟨k, rfl⟩ : ∃ k : Nat, i = k := ⟨i.toNat, by omega⟩
    have hb := sumTo_bd16 hpre k (by omega)
    have ha := hpre.2 k
    have hs1 := sumTo_succ (zs := zs) (k := k) (by omega)
    simp only [Int.toNat_natCast] at hs ⊢
    subst hs
    refine ⟨⟨by omega, by omega⟩, by omega, by simp only [inK]; omega, by simp only [inK]; omega, ⟨(by first | trivial | rfl | (and_intros <;> rfl)), ?_, by omega, by omega⟩, by omega⟩
    rw [show ((k : Int) + 1).toNat = k + 1 by omega, hs1]
  · have : i.toNat = zs.length := by omega
    rw [this, sumTo_all] at hs
    subst hs; rfl
def c_spec_DrawResultOf : Con where
  ins := [(false, .v (.sl (.i .u8)))]
  outs := [(true, .v tVar), (true, .v tBoard)]
  sh := false
  pre := fun x => okC x.1
  out := fun x => ((drawRes x.1).1, (drawRes x.1).2, ())
  upd := fun x => x
theorem k_spec_DrawResultOf : ConOk Try.prog 76 c_spec_DrawResultOf := by
  refine fn_ok (C := cx Try.prog 60 c_spec_DrawResultOf) (cs := [(131, c_spec_l01From), (151, c_spec_l02DrawPair), (82, c_spec_IsVariant), (133, c_spec_l01Next), (152, c_spec_l02Empty), (153, c_spec_l02Sumw)]) (res := Try.f76.results.toList) (fun _ => ⟨[], [(6, ⟨[[], [0], [], [], [3], [3, 4], [2, 3, 4, 5], [0, 1, 2, 3, 4, 5, 6], [0, 1, 2, 3, 4, 5, 6, 7], [], [9], [], [11], [2, 3, 4, 5, 6, 11, 12], [2, 3, 4, 5, 6, 9, 10, 11, 12, 13], [0, 1, 2, 3, 4, 5, 6, 7, 8, 9, 10, 11, 12, 13, 14], [0, 1, 2, 3, 4, 5, 6, 7, 8, 9, 10, 11, 12, 13, 14, 15], [0, 1, 2, 3, 4, 5, 6, 7, 8, 9, 10, 11, 12, 13, 14, 15, 16]], [[2, 3, 4, 5, 6, 9, 10, 11, 12, 13, 14], [2, 3, 4, 5, 6, 9, 10, 11, 12, 13, 14], [0, 1, 3, 4, 5, 9, 10, 11, 12], [0, 1, 2, 9, 10, 11, 12], [0, 1, 2, 9, 10, 11, 12], [0, 1, 2, 9, 10, 11, 12], [0, 1, 9, 10, 11, 12], [9, 10, 11, 12, 13, 14], [9, 10, 11, 12, 13, 14], [0, 1, 2, 3, 4, 5, 6, 7, 8, 11, 12, 13], [0, 1, 2, 3, 4, 5, 6, 7, 8, 11, 12, 13], [0, 1, 2, 3, 4, 5, 6, 7, 8, 9, 10], [0, 1, 2, 3, 4, 5, 6, 7, 8, 9, 10], [0, 1, 7, 8, 9, 10], [0, 1, 7, 8], [], [], []], [[49], [49], [], [], [], [], [], [], [], [49], [49], [49], [49], [], [], [], [], []]⟩), (9, ⟨[[], [], [0], [0, 1, 2]], [[1], [0, 2], [1], []], [[], [1], [], []]⟩)], []⟩) Try.func76 (by kernel_rfl) rfl rfl rfl tysOk.look eqTsOk.look (AllCs.ok (l := [(131, c_spec_l01From), (151, c_spec_l02DrawPair), (82, c_spec_IsVariant), (133, c_spec_l01Next), (152, c_spec_l02Empty), (153, c_spec_l02Sumw)]) ⟨k_spec_l01From, k_spec_l02DrawPair, k_spec_IsVariant, k_spec_l01Next, k_spec_l02Empty, k_spec_l02Sumw, trivial⟩) mixed rfl rfl rfl ?_
  refine of_nf (P := ∀ c : List Int, (okC c) → ((lensI c_spec_DrawResultOf.ins (c, ())) → ((okC c) ∧ ((okS (fromD c)) ∧ (True ∧ (bsp (varD (drawPair (fromD c)).1.1) ((okS ((fromD c).1, (drawPair (fromD c)).2.2) ∧ (4 : Int) ≤ 1000000000000) ∧ (bsp (decide ((0 : Int) < (nextD ((fromD c).1, (drawPair (fromD c)).2.2) (4 : Int)).1)) ((2 ≤ (drawPair (fromD c)).1.1.1 ∧ (drawPair (fromD c)).1.1.1 ≤ 24) ∧ ((okS ((fromD c).1, (nextD ((fromD c).1, (drawPair (fromD c)).2.2) (4 : Int)).2.2) ∧ (2 : Int) ≤ 1000000000000) ∧ (bsp (decide ((nextD ((fromD c).1, (nextD ((fromD c).1, (drawPair (fromD c)).2.2) (4 : Int)).2.2) (2 : Int)).1 = (0 : Int))) (bsp (decide ((0 : Int) < ((drawPair (fromD c)).1.2.2.length : Int))) ((okS ((fromD c).1, (nextD ((fromD c).1, (nextD ((fromD c).1, (drawPair (fromD c)).2.2) (4 : Int)).2.2) (2 : Int)).2.2) ∧ ((drawPair (fromD c)).1.2.2.length : Int) ≤ 1000000000000) ∧ ((0 ≤ (nextD ((fromD c).1, (nextD ((fromD c).1, (nextD ((fromD c).1, (drawPair (fromD c)).2.2) (4 : Int)).2.2) (2 : Int)).2.2) ((drawPair (fromD c)).1.2.2.length : Int)).1 ∧ (nextD ((fromD c).1, (nextD ((fromD c).1, (nextD ((fromD c).1, (drawPair (fromD c)).2.2) (4 : Int)).2.2) (2 : Int)).2.2) ((drawPair (fromD c)).1.2.2.length : Int)).1 < ((drawPair (fromD c)).1.2.2.length : Int)) ∧ (((nextD ((fromD c).1, (nextD ((fromD c).1, (nextD ((fromD c).1, (drawPair (fromD c)).2.2) (4 : Int)).2.2) (2 : Int)).2.2) ((drawPair (fromD c)).1.2.2.length : Int)).1.toNat < (drawPair (fromD c)).1.2.2.length) ∧ ((At16 (drawPair (fromD c)).1.2.2) ∧ ((inK .i64 ((drawPair (fromD c)).1.1.2.1 - (List.sum (drawPair (fromD c)).1.2.2))) ∧ ((inK .i64 (((drawPair (fromD c)).1.2.2.getD (nextD ((fromD c).1, (nextD ((fromD c).1, (nextD ((fromD c).1, (drawPair (fromD c)).2.2) (4 : Int)).2.2) (2 : Int)).2.2) ((drawPair (fromD c)).1.2.2.length : Int)).1.toNat 0) + ((drawPair (fromD c)).1.1.2.1 - (List.sum (drawPair (fromD c)).1.2.2)))) ∧ ((0 ≤ (nextD ((fromD c).1, (nextD ((fromD c).1, (nextD ((fromD c).1, (drawPair (fromD c)).2.2) (4 : Int)).2.2) (2 : Int)).2.2) ((drawPair (fromD c)).1.2.2.length : Int)).1 ∧ (nextD ((fromD c).1, (nextD ((fromD c).1, (nextD ((fromD c).1, (drawPair (fromD c)).2.2) (4 : Int)).2.2) (2 : Int)).2.2) ((drawPair (fromD c)).1.2.2.length : Int)).1 < ((drawPair (fromD c)).1.2.2.length : Int)) ∧ (((nextD ((fromD c).1, (nextD ((fromD c).1, (nextD ((fromD c).1, (drawPair (fromD c)).2.2) (4 : Int)).2.2) (2 : Int)).2.2) ((drawPair (fromD c)).1.2.2.length : Int)).1.toNat < (drawPair (fromD c)).1.2.2.length) ∧ ((okS ((fromD c).1, (nextD ((fromD c).1, (nextD ((fromD c).1, (nextD ((fromD c).1, (drawPair (fromD c)).2.2) (4 : Int)).2.2) (2 : Int)).2.2) ((drawPair (fromD c)).1.2.2.length : Int)).2.2) ∧ (4 : Int) ≤ 1000000000000) ∧ (bsp (decide ((nextD ((fromD c).1, (nextD ((fromD c).1, (nextD ((fromD c).1, (nextD ((fromD c).1, (drawPair (fromD c)).2.2) (4 : Int)).2.2) (2 : Int)).2.2) ((drawPair (fromD c)).1.2.2.length : Int)).2.2) (4 : Int)).1 = (0 : Int))) (@Eq (HO c_spec_DrawResultOf.outs) ((drawPair (fromD c)).1.1, (((drawPair (fromD c)).1.2.2.set (nextD ((fromD c).1, (nextD ((fromD c).1, (nextD ((fromD c).1, (drawPair (fromD c)).2.2) (4 : Int)).2.2) (2 : Int)).2.2) ((drawPair (fromD c)).1.2.2.length : Int)).1.toNat (((drawPair (fromD c)).1.2.2.getD (nextD ((fromD c).1, (nextD ((fromD c).1, (nextD ((fromD c).1, (drawPair (fromD c)).2.2) (4 : Int)).2.2) (2 : Int)).2.2) ((drawPair (fromD c)).1.2.2.length : Int)).1.toNat 0) + ((drawPair (fromD c)).1.1.2.1 - (List.sum (drawPair (fromD c)).1.2.2)))), List.replicate (Int.toNat ((drawPair (fromD c)).1.1.1 + 1)) (0 : Int)), ()) (c_spec_DrawResultOf.out (c, ()))) (@Eq (HO c_spec_DrawResultOf.outs) ((drawPair (fromD c)).1.1, (List.replicate (Int.toNat ((drawPair (fromD c)).1.1.1 + 1)) (0 : Int), ((drawPair (fromD c)).1.2.2.set (nextD ((fromD c).1, (nextD ((fromD c).1, (nextD ((fromD c).1, (drawPair (fromD c)).2.2) (4 : Int)).2.2) (2 : Int)).2.2) ((drawPair (fromD c)).1.2.2.length : Int)).1.toNat (((drawPair (fromD c)).1.2.2.getD (nextD ((fromD c).1, (nextD ((fromD c).1, (nextD ((fromD c).1, (drawPair (fromD c)).2.2) (4 : Int)).2.2) (2 : Int)).2.2) ((drawPair (fromD c)).1.2.2.length : Int)).1.toNat 0) + ((drawPair (fromD c)).1.1.2.1 - (List.sum (drawPair (fromD c)).1.2.2))))), ()) (c_spec_DrawResultOf.out (c, ()))))))))))))) ((okS ((fromD c).1, (nextD ((fromD c).1, (nextD ((fromD c).1, (drawPair (fromD c)).2.2) (4 : Int)).2.2) (2 : Int)).2.2) ∧ (4 : Int) ≤ 1000000000000) ∧ (bsp (decide ((nextD ((fromD c).1, (nextD ((fromD c).1, (nextD ((fromD c).1, (drawPair (fromD c)).2.2) (4 : Int)).2.2) (2 : Int)).2.2) (4 : Int)).1 = (0 : Int))) (@Eq (HO c_spec_DrawResultOf.outs) ((drawPair (fromD c)).1.1, ((drawPair (fromD c)).1.2.2, List.replicate (Int.toNat ((drawPair (fromD c)).1.1.1 + 1)) (0 : Int)), ()) (c_spec_DrawResultOf.out (c, ()))) (@Eq (HO c_spec_DrawResultOf.outs) ((drawPair (fromD c)).1.1, (List.replicate (Int.toNat ((drawPair (fromD c)).1.1.1 + 1)) (0 : Int), (drawPair (fromD c)).1.2.2), ()) (c_spec_DrawResultOf.out (c, ())))))) ((okS ((fromD c).1, (nextD ((fromD c).1, (nextD ((fromD c).1, (drawPair (fromD c)).2.2) (4 : Int)).2.2) (2 : Int)).2.2) ∧ (4 : Int) ≤ 1000000000000) ∧ (bsp (decide ((nextD ((fromD c).1, (nextD ((fromD c).1, (nextD ((fromD c).1, (drawPair (fromD c)).2.2) (4 : Int)).2.2) (2 : Int)).2.2) (4 : Int)).1 = (0 : Int))) (@Eq (HO c_spec_DrawResultOf.outs) ((drawPair (fromD c)).1.1, ((drawPair (fromD c)).1.2.2, List.replicate (Int.toNat ((drawPair (fromD c)).1.1.1 + 1)) (0 : Int)), ()) (c_spec_DrawResultOf.out (c, ()))) (@Eq (HO c_spec_DrawResultOf.outs) ((drawPair (fromD c)).1.1, (List.replicate (Int.toNat ((drawPair (fromD c)).1.1.1 + 1)) (0 : Int), (drawPair (fromD c)).1.2.2), ()) (c_spec_DrawResultOf.out (c, ())))))))) ((okS ((fromD c).1, (nextD ((fromD c).1, (drawPair (fromD c)).2.2) (4 : Int)).2.2) ∧ (4 : Int) ≤ 1000000000000) ∧ (bsp (decide ((nextD ((fromD c).1, (nextD ((fromD c).1, (drawPair (fromD c)).2.2) (4 : Int)).2.2) (4 : Int)).1 = (0 : Int))) (@Eq (HO c_spec_DrawResultOf.outs) ((drawPair (fromD c)).1.1, ((drawPair (fromD c)).1.2.2, (drawPair (fromD c)).1.2.1), ()) (c_spec_DrawResultOf.out (c, ()))) (@Eq (HO c_spec_DrawResultOf.outs) ((drawPair (fromD c)).1.1, (drawPair (fromD c)).1.2, ()) (c_spec_DrawResultOf.out (c, ()))))))) ((okS ((fromD c).1, (drawPair (fromD c)).2.2) ∧ (4 : Int) ≤ 1000000000000) ∧ (bsp (decide ((nextD ((fromD c).1, (drawPair (fromD c)).2.2) (4 : Int)).1 = (0 : Int))) (@Eq (HO c_spec_DrawResultOf.outs) ((drawPair (fromD c)).1.1, ((drawPair (fromD c)).1.2.2, (drawPair (fromD c)).1.2.1), ()) (c_spec_DrawResultOf.out (c, ()))) (@Eq (HO c_spec_DrawResultOf.outs) ((drawPair (fromD c)).1.1, (drawPair (fromD c)).1.2, ()) (c_spec_DrawResultOf.out (c, ()))))))))))) (by kernel_rfl) ?_
  rintro c hc hl
  have hF := fromD_ok hc
  obtain ⟨p1, p2⟩ := drawPair_ok hF
  obtain ⟨q1, q2⟩ := drawPair_at hF
  have out : ∀ r, drawResP (drawPair (fromD c)) = r → @Eq (HO c_spec_DrawResultOf.outs) (r.1, r.2, ()) (c_spec_DrawResultOf.out (c, ())) := fun r h => by subst h; rfl
  refine ⟨hc, hF, trivial, ?_⟩
  generalize drawPair (fromD c) = p at *
  have hD := drawResP.eq_1 p
  have h1 := nextD_ok p1 4
  have h2 := nextD_ok h1 2
  have h3 := nextD_bd h2 p.1.2.2.length
  have h4 := nextD_ok h2 p.1.2.2.length
  have hsum := sumTo_bd16 q2 p.1.2.2.length (by omega)
  rw [sumTo_all] at hsum
  have hl25 := q2.1
  have f1 : nextD (nextD (nextD p.2 4).2 2).2 p.1.2.2.length = resI p.2 p.1.2.2.length := rfl
  have f2 : List.replicate (p.1.1.1 + 1).toNat (0 : Int) = emptyD p.1.1 := rfl
  rw [f1] at h3 h4
  have hR : (resI p.2 p.1.2.2.length).2.1 = (fromD c).1 := by unfold resI; simp only [nextD_codeB, p2]
  simp only [src_etaB, nextD_codeB, p2, f1, f2, hR]
  have hat := q2.2 (resI p.2 p.1.2.2.length).1.toNat
  refine bspB (fun hv => ?_) (fun hv => ?_)
  · obtain ⟨⟨g1, g1'⟩, ⟨g2, g2'⟩, -⟩ := varD_iff.1 hv
    refine ⟨⟨p1, by decide⟩, bspD (fun c1 => ⟨⟨g1, g1'⟩, ⟨h1, by decide⟩, ?_⟩) (fun c1 => ?_)⟩
    · rw [if_pos ⟨hv, c1⟩] at hD
      refine bspD (fun c2 => bspD (fun c3 => ?_) (fun c3 => ?_)) (fun c2 => ?_)
      · rw [if_pos ⟨c2, by omega⟩] at hD
        refine ⟨⟨h2, by omega⟩, ⟨by omega, by omega⟩, by omega, q2, by simp only [inK]; omega, by simp only [inK]; omega, ⟨by omega, by omega⟩, by omega, ⟨h4, by decide⟩, bspD (fun k => ?_) (fun k => ?_)⟩
        · exact out _ (by rw [hD, finR, if_pos k])
        · exact out _ (by rw [hD, finR, if_neg k])
      · rw [if_neg fun x => c3 (by have := x.2; omega)] at hD
        refine ⟨⟨h2, by decide⟩, bspD (fun k => ?_) (fun k => ?_)⟩
        · exact out _ (by rw [hD, finR, if_pos k])
        · exact out _ (by rw [hD, finR, if_neg k])
      · rw [if_neg fun x => c2 x.1] at hD
        refine ⟨⟨h2, by decide⟩, bspD (fun k => ?_) (fun k => ?_)⟩
        · exact out _ (by rw [hD, finR, if_pos k])
        · exact out _ (by rw [hD, finR, if_neg k])
    · rw [if_neg fun x => c1 x.2, if_pos hv] at hD
      refine ⟨⟨h1, by decide⟩, bspD (fun k => ?_) (fun k => ?_)⟩
      · exact out _ (by rw [hD, finR, if_pos k])
      · exact out _ (by rw [hD, finR, if_neg k])
  · have hv' : ¬ varD p.1.1 = true := by rw [hv]; decide
    rw [if_neg fun x => hv' x.1, if_neg hv'] at hD
    refine ⟨⟨p1, by decide⟩, bspD (fun k => ?_) (fun k => ?_)⟩
    · exact out _ (by rw [hD, finR, if_pos k])
    · exact out _ (by rw [hD, finR, if_neg k])
end Go.Proofs.Ytghfpidpefdndaa
