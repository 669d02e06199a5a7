/-
  Contracts: draws of boards, of a variant and a board.
-/
import Derived.Test.YtfbbclejoacioaaVDrawC
namespace Go.Proofs.Ytfbbclejoacioaa
open Go.RowKit
set_option linter.unusedSimpArgs false
set_option linter.unusedVariables false
def c_spec_StartBoard : Con where
  ins := [(true, .v tVar)]
  outs := [(true, .pr (.own 2 tI) (.own 2 tI)), (false, .v .b)]
  sh := false
  pre := fun _ => True
  out := fun x => ((if bigD x.1 then (startD x.1, startD x.1) else ([], [])), bigD x.1, ())
  upd := fun x => x
theorem k_spec_StartBoard : ConOk Try.prog 32 c_spec_StartBoard := by
  refine fn_okW (C := cx Try.prog 18 c_spec_StartBoard) (cs := [(39, c_spec_IsVariant), (51, c_spec_l02Start)]) (res := Try.f32.results.toList) (fun _ => ⟨[], [(3, ⟨[[], [0], [], [0, 1, 2], [0, 1, 2, 3], [0, 1, 2, 3, 4], [0, 1, 2, 3, 4, 5]], [[2], [2], [0, 1], [], [], [], []], []⟩)], []⟩) Try.func32 (by kernel_rfl) rfl rfl rfl tysOk.look eqTsOk.look (AllCs.ok (l := [(39, c_spec_IsVariant), (51, c_spec_l02Start)]) ⟨k_spec_IsVariant, k_spec_l02Start, trivial⟩) mixed rfl rfl rfl ?_
  refine of_nf (P := ∀ v : Int × Int × Int × Int, (True) → ((lensI c_spec_StartBoard.ins (v, ())) → (True ∧ (bsp (!(varD v)) (@Eq (HO c_spec_StartBoard.outs) (([], []), false, ()) (c_spec_StartBoard.out (v, ()))) (bsp (decide (v.1 < (4 : Int))) (@Eq (HO c_spec_StartBoard.outs) (([], []), false, ()) (c_spec_StartBoard.out (v, ()))) ((bigD v = true) ∧ ((bigD v = true) ∧ (@Eq (HO c_spec_StartBoard.outs) ((startD v, startD v), true, ()) (c_spec_StartBoard.out (v, ())))))))))) (by kernel_rfl) ?_
  rintro v hp hl
  have out : ∀ r : DBoard × Bool, (if bigD v then ((startD v, startD v) : DBoard) else ([], []), bigD v) = r → @Eq (HO c_spec_StartBoard.outs) (r.1, r.2, ()) (c_spec_StartBoard.out (v, ())) := fun r h => by subst h; rfl
  refine ⟨trivial, bspB (fun h => out (([], []), false) ?_) (fun h => bspD (fun g => out (([], []), false) ?_) (fun g => ?_))⟩
  · have : bigD v = false := by simp_all [bigD]
    simp [this]
  · have : bigD v = false := by simp [bigD]; intro _; omega
    simp [this]
  · have : bigD v = true := by simp_all [bigD]
    exact ⟨this, this, out ((startD v, startD v), true) (by simp [this])⟩
def drawB1 (s : DSrc) (v : DVar) : List Int × DSrc := drawSide (nxtD s 4).2 v (emptyD v)
def drawB2 (s : DSrc) (v : DVar) : List Int × DSrc := drawSide (drawB1 s v).2 v (drawB1 s v).1
def drawB (s : DSrc) (v : DVar) : DBoard × DSrc :=
  if (nxtD s 4).1 = 0 ∧ 4 ≤ v.1 then ((startD v, startD v), (nxtD s 4).2)
  else if (drawB1 s v).1.sum + (drawB2 s v).1.sum = 0 then (((drawB1 s v).1.set 0 1, (drawB2 s v).1), (drawB2 s v).2)
  else (((drawB1 s v).1, (drawB2 s v).1), (drawB2 s v).2)
theorem drawB1_ok {s : DSrc} {v : DVar} (hs : okS s) (hv : varD v = true) : okS (drawB1 s v).2 ∧ (drawB1 s v).2.1 = s.1 ∧ ((drawB1 s v).1.length : Int) = v.1 + 1 ∧ Bd (drawB1 s v).1 := by
  obtain ⟨d1, d2, d3, d4⟩ := drawSide_ok (tk := emptyD v) (nxtD_ok hs 4) hv
  exact ⟨d1, d2.trans (nxtD_codeB _ _), d3, d4⟩
theorem drawB2_ok {s : DSrc} {v : DVar} (hs : okS s) (hv : varD v = true) : okS (drawB2 s v).2 ∧ (drawB2 s v).2.1 = s.1 ∧ ((drawB2 s v).1.length : Int) = v.1 + 1 ∧ Bd (drawB2 s v).1 := by
  obtain ⟨c1, c2, c3, c4⟩ := drawB1_ok hs hv
  obtain ⟨d1, d2, d3, d4⟩ := drawSide_ok (tk := (drawB1 s v).1) c1 hv
  exact ⟨d1, d2.trans c2, d3, d4⟩
theorem start_len {v : DVar} (h : bigD v = true) : ((startD v).length : Int) = v.1 + 1 := by
  simp only [bigD, Bool.and_eq_true, decide_eq_true_eq] at h
  have := (varD_iff.1 h.1).1
  unfold startD
  split
  · next e => rw [e]; decide
  · simp only [List.length_set, List.length_replicate]; omega
theorem drawB_ok {s : DSrc} {v : DVar} (hs : okS s) (hv : varD v = true) : okS (drawB s v).2 ∧ (drawB s v).2.1 = s.1 ∧ ((drawB s v).1.1.length : Int) = v.1 + 1 ∧ ((drawB s v).1.2.length : Int) = v.1 + 1 := by
  obtain ⟨c1, c2, c3, c4⟩ := drawB1_ok hs hv
  obtain ⟨d1, d2, d3, d4⟩ := drawB2_ok hs hv
  unfold drawB
  split
  · next h =>
    have hb : bigD v = true := by simp [bigD, hv]; exact h.2
    exact ⟨nxtD_ok hs 4, nxtD_codeB _ _, start_len hb, start_len hb⟩
  · split
    · exact ⟨d1, d2, by rw [List.length_set]; exact c3, d3⟩
    · exact ⟨d1, d2, c3, d3⟩
theorem bd_sum {l : List Int} (h : Bd l) : 0 ≤ l.sum ∧ l.sum ≤ 15 * (l.length : Int) := by
  obtain ⟨-, h⟩ := h
  induction l with
  | nil => simp
  | cons a l ih =>
    have := ih fun z hz => h z (List.mem_cons_of_mem _ hz)
    have := h a (by simp)
    simp only [List.sum_cons, List.length_cons]; omega
def c_spec_l02Draw : Con where
  ins := [(false, .bx (.pr (.sl (.i .u8)) tRoll)), (true, .v tVar)]
  outs := [(true, .pr (.own 2 tI) (.own 2 tI))]
  sh := false
  pre := fun x => okS x.1 ∧ varD x.2.1 = true
  out := fun x => ((drawB x.1 x.2.1).1, ())
  upd := fun x => ((x.1.1, (drawB x.1 x.2.1).2.2), x.2.1, ())
theorem k_spec_l02Draw : ConOk Try.prog 17 c_spec_l02Draw := by
  refine fn_okW (C := cx Try.prog 43 c_spec_l02Draw) (cs := [(15, c_spec_l01Next), (32, c_spec_StartBoard), (30, c_spec_l02Empty), (33, c_spec_l02DrawSide), (34, c_spec_l02Sum)]) (res := Try.f17.results.toList) (fun _ => ⟨[], [(4, ⟨[[], [], [], [2], [0, 1, 2, 3], [0, 1, 2, 3, 4]], [[1, 2, 3], [0, 2, 3], [0, 1], [0, 1], [], []], []⟩)], []⟩) Try.func17 (by kernel_rfl) rfl rfl rfl tysOk.look eqTsOk.look (AllCs.ok (l := [(15, c_spec_l01Next), (32, c_spec_StartBoard), (30, c_spec_l02Empty), (33, c_spec_l02DrawSide), (34, c_spec_l02Sum)]) ⟨k_spec_l01Next, k_spec_StartBoard, k_spec_l02Empty, k_spec_l02DrawSide, k_spec_l02Sum, trivial⟩) mixed rfl rfl rfl ?_
  refine of_nf (P := ∀ s : (List Int) × Int × Int, ∀ v : Int × Int × Int × Int, (okS s ∧ varD v = true) → ((lensI c_spec_l02Draw.ins (s, v, ())) → ((okS s ∧ (4 : Int) ≤ 1000000000000) ∧ (bsp (decide ((nxtD s (4 : Int)).1 = (0 : Int))) (bsp (decide ((4 : Int) ≤ v.1)) (True ∧ (@Eq (HO c_spec_l02Draw.outs) ((if bigD v then (startD v, startD v) else ([], [])), ()) (c_spec_l02Draw.out (s, v, ())) ∧ @Eq (HI c_spec_l02Draw.ins) ((s.1, (nxtD s (4 : Int)).2.2), v, ()) (c_spec_l02Draw.upd (s, v, ())))) ((2 ≤ v.1 ∧ v.1 ≤ 24) ∧ (((okS (s.1, (nxtD s (4 : Int)).2.2) ∧ varD v = true) ∧ (List.length (List.replicate (Int.toNat (v.1 + 1)) (0 : Int)) : Int) = v.1 + 1) ∧ (((okS (s.1, (drawSide (s.1, (nxtD s (4 : Int)).2.2) v (List.replicate (Int.toNat (v.1 + 1)) (0 : Int))).2.2) ∧ varD v = true) ∧ (List.length (drawSide (s.1, (nxtD s (4 : Int)).2.2) v (List.replicate (Int.toNat (v.1 + 1)) (0 : Int))).1 : Int) = v.1 + 1) ∧ ((Bd (drawSide (s.1, (nxtD s (4 : Int)).2.2) v (List.replicate (Int.toNat (v.1 + 1)) (0 : Int))).1) ∧ ((Bd (drawSide (s.1, (drawSide (s.1, (nxtD s (4 : Int)).2.2) v (List.replicate (Int.toNat (v.1 + 1)) (0 : Int))).2.2) v (drawSide (s.1, (nxtD s (4 : Int)).2.2) v (List.replicate (Int.toNat (v.1 + 1)) (0 : Int))).1).1) ∧ ((inK .i64 ((List.sum (drawSide (s.1, (nxtD s (4 : Int)).2.2) v (List.replicate (Int.toNat (v.1 + 1)) (0 : Int))).1) + (List.sum (drawSide (s.1, (drawSide (s.1, (nxtD s (4 : Int)).2.2) v (List.replicate (Int.toNat (v.1 + 1)) (0 : Int))).2.2) v (drawSide (s.1, (nxtD s (4 : Int)).2.2) v (List.replicate (Int.toNat (v.1 + 1)) (0 : Int))).1).1))) ∧ (bsp (decide (((List.sum (drawSide (s.1, (nxtD s (4 : Int)).2.2) v (List.replicate (Int.toNat (v.1 + 1)) (0 : Int))).1) + (List.sum (drawSide (s.1, (drawSide (s.1, (nxtD s (4 : Int)).2.2) v (List.replicate (Int.toNat (v.1 + 1)) (0 : Int))).2.2) v (drawSide (s.1, (nxtD s (4 : Int)).2.2) v (List.replicate (Int.toNat (v.1 + 1)) (0 : Int))).1).1)) = (0 : Int))) ((0 ≤ (0 : Int) ∧ 0 < ((drawSide (s.1, (nxtD s (4 : Int)).2.2) v (List.replicate (Int.toNat (v.1 + 1)) (0 : Int))).1.length : Int)) ∧ ((0 < (drawSide (s.1, (nxtD s (4 : Int)).2.2) v (List.replicate (Int.toNat (v.1 + 1)) (0 : Int))).1.length) ∧ (@Eq (HO c_spec_l02Draw.outs) ((((drawSide (s.1, (nxtD s (4 : Int)).2.2) v (List.replicate (Int.toNat (v.1 + 1)) (0 : Int))).1.set 0 1), (drawSide (s.1, (drawSide (s.1, (nxtD s (4 : Int)).2.2) v (List.replicate (Int.toNat (v.1 + 1)) (0 : Int))).2.2) v (drawSide (s.1, (nxtD s (4 : Int)).2.2) v (List.replicate (Int.toNat (v.1 + 1)) (0 : Int))).1).1), ()) (c_spec_l02Draw.out (s, v, ())) ∧ @Eq (HI c_spec_l02Draw.ins) ((s.1, (drawSide (s.1, (drawSide (s.1, (nxtD s (4 : Int)).2.2) v (List.replicate (Int.toNat (v.1 + 1)) (0 : Int))).2.2) v (drawSide (s.1, (nxtD s (4 : Int)).2.2) v (List.replicate (Int.toNat (v.1 + 1)) (0 : Int))).1).2.2), v, ()) (c_spec_l02Draw.upd (s, v, ()))))) (@Eq (HO c_spec_l02Draw.outs) (((drawSide (s.1, (nxtD s (4 : Int)).2.2) v (List.replicate (Int.toNat (v.1 + 1)) (0 : Int))).1, (drawSide (s.1, (drawSide (s.1, (nxtD s (4 : Int)).2.2) v (List.replicate (Int.toNat (v.1 + 1)) (0 : Int))).2.2) v (drawSide (s.1, (nxtD s (4 : Int)).2.2) v (List.replicate (Int.toNat (v.1 + 1)) (0 : Int))).1).1), ()) (c_spec_l02Draw.out (s, v, ())) ∧ @Eq (HI c_spec_l02Draw.ins) ((s.1, (drawSide (s.1, (drawSide (s.1, (nxtD s (4 : Int)).2.2) v (List.replicate (Int.toNat (v.1 + 1)) (0 : Int))).2.2) v (drawSide (s.1, (nxtD s (4 : Int)).2.2) v (List.replicate (Int.toNat (v.1 + 1)) (0 : Int))).1).2.2), v, ()) (c_spec_l02Draw.upd (s, v, ()))))))))))) ((2 ≤ v.1 ∧ v.1 ≤ 24) ∧ (((okS (s.1, (nxtD s (4 : Int)).2.2) ∧ varD v = true) ∧ (List.length (List.replicate (Int.toNat (v.1 + 1)) (0 : Int)) : Int) = v.1 + 1) ∧ (((okS (s.1, (drawSide (s.1, (nxtD s (4 : Int)).2.2) v (List.replicate (Int.toNat (v.1 + 1)) (0 : Int))).2.2) ∧ varD v = true) ∧ (List.length (drawSide (s.1, (nxtD s (4 : Int)).2.2) v (List.replicate (Int.toNat (v.1 + 1)) (0 : Int))).1 : Int) = v.1 + 1) ∧ ((Bd (drawSide (s.1, (nxtD s (4 : Int)).2.2) v (List.replicate (Int.toNat (v.1 + 1)) (0 : Int))).1) ∧ ((Bd (drawSide (s.1, (drawSide (s.1, (nxtD s (4 : Int)).2.2) v (List.replicate (Int.toNat (v.1 + 1)) (0 : Int))).2.2) v (drawSide (s.1, (nxtD s (4 : Int)).2.2) v (List.replicate (Int.toNat (v.1 + 1)) (0 : Int))).1).1) ∧ ((inK .i64 ((List.sum (drawSide (s.1, (nxtD s (4 : Int)).2.2) v (List.replicate (Int.toNat (v.1 + 1)) (0 : Int))).1) + (List.sum (drawSide (s.1, (drawSide (s.1, (nxtD s (4 : Int)).2.2) v (List.replicate (Int.toNat (v.1 + 1)) (0 : Int))).2.2) v (drawSide (s.1, (nxtD s (4 : Int)).2.2) v (List.replicate (Int.toNat (v.1 + 1)) (0 : Int))).1).1))) ∧ (bsp (decide (((List.sum (drawSide (s.1, (nxtD s (4 : Int)).2.2) v (List.replicate (Int.toNat (v.1 + 1)) (0 : Int))).1) + (List.sum (drawSide (s.1, (drawSide (s.1, (nxtD s (4 : Int)).2.2) v (List.replicate (Int.toNat (v.1 + 1)) (0 : Int))).2.2) v (drawSide (s.1, (nxtD s (4 : Int)).2.2) v (List.replicate (Int.toNat (v.1 + 1)) (0 : Int))).1).1)) = (0 : Int))) ((0 ≤ (0 : Int) ∧ 0 < ((drawSide (s.1, (nxtD s (4 : Int)).2.2) v (List.replicate (Int.toNat (v.1 + 1)) (0 : Int))).1.length : Int)) ∧ ((0 < (drawSide (s.1, (nxtD s (4 : Int)).2.2) v (List.replicate (Int.toNat (v.1 + 1)) (0 : Int))).1.length) ∧ (@Eq (HO c_spec_l02Draw.outs) ((((drawSide (s.1, (nxtD s (4 : Int)).2.2) v (List.replicate (Int.toNat (v.1 + 1)) (0 : Int))).1.set 0 1), (drawSide (s.1, (drawSide (s.1, (nxtD s (4 : Int)).2.2) v (List.replicate (Int.toNat (v.1 + 1)) (0 : Int))).2.2) v (drawSide (s.1, (nxtD s (4 : Int)).2.2) v (List.replicate (Int.toNat (v.1 + 1)) (0 : Int))).1).1), ()) (c_spec_l02Draw.out (s, v, ())) ∧ @Eq (HI c_spec_l02Draw.ins) ((s.1, (drawSide (s.1, (drawSide (s.1, (nxtD s (4 : Int)).2.2) v (List.replicate (Int.toNat (v.1 + 1)) (0 : Int))).2.2) v (drawSide (s.1, (nxtD s (4 : Int)).2.2) v (List.replicate (Int.toNat (v.1 + 1)) (0 : Int))).1).2.2), v, ()) (c_spec_l02Draw.upd (s, v, ()))))) (@Eq (HO c_spec_l02Draw.outs) (((drawSide (s.1, (nxtD s (4 : Int)).2.2) v (List.replicate (Int.toNat (v.1 + 1)) (0 : Int))).1, (drawSide (s.1, (drawSide (s.1, (nxtD s (4 : Int)).2.2) v (List.replicate (Int.toNat (v.1 + 1)) (0 : Int))).2.2) v (drawSide (s.1, (nxtD s (4 : Int)).2.2) v (List.replicate (Int.toNat (v.1 + 1)) (0 : Int))).1).1), ()) (c_spec_l02Draw.out (s, v, ())) ∧ @Eq (HI c_spec_l02Draw.ins) ((s.1, (drawSide (s.1, (drawSide (s.1, (nxtD s (4 : Int)).2.2) v (List.replicate (Int.toNat (v.1 + 1)) (0 : Int))).2.2) v (drawSide (s.1, (nxtD s (4 : Int)).2.2) v (List.replicate (Int.toNat (v.1 + 1)) (0 : Int))).1).2.2), v, ()) (c_spec_l02Draw.upd (s, v, ())))))))))))))) (by kernel_rfl) ?_
  rintro s v ⟨hs, hv⟩ hl
  obtain ⟨⟨g1, g1'⟩, ⟨g2, g2'⟩, g3, g4⟩ := varD_iff.1 hv
  have h4 := nxtD_ok hs 4
  obtain ⟨c1, c2, c3, c4⟩ := drawB1_ok hs hv
  obtain ⟨d1, d2, d3, d4⟩ := drawB2_ok hs hv
  have b1 := bd_sum c4
  have b2 := bd_sum d4
  have hD := drawB.eq_1 s v
  have out : ∀ r, drawB s v = r → @Eq (HO c_spec_l02Draw.outs) (r.1, ()) (c_spec_l02Draw.out (s, v, ())) ∧ @Eq (HI c_spec_l02Draw.ins) (r.2, v, ()) (c_spec_l02Draw.upd (s, v, ())) := fun r h => by
    subst h
    refine ⟨rfl, ?_⟩
    simp only [c_spec_l02Draw]
    rw [upd_etaB (drawB_ok hs hv).2.1]
  have f1 : drawSide (nxtD s 4).2 v (List.replicate (v.1 + 1).toNat 0) = drawB1 s v := rfl
  have f2 : drawSide (drawB1 s v).2 v (drawB1 s v).1 = drawB2 s v := rfl
  simp only [src_etaB, nxtD_codeB, f1, c2, f2, d2]
  refine ⟨⟨hs, by decide⟩, bspD (fun c => bspD (fun c' => ?_) (fun c' => ?_)) (fun c => ?_)⟩
  · have hb : bigD v = true := by simp [bigD, hv]; exact c'
    rw [if_pos hb]
    exact ⟨trivial, out _ (hD.trans (if_pos ⟨c, c'⟩))⟩
  all_goals
    rw [if_neg (by intro x; first | exact c' x.2 | exact c x.1)] at hD
    exact ⟨⟨g1, g1'⟩, ⟨⟨h4, hv⟩, by simp; omega⟩, ⟨⟨c1, hv⟩, c3⟩, c4, d4, by simp only [inK]; omega, bspD (fun k => ⟨⟨by omega, by omega⟩, by omega, out _ (hD.trans (if_pos k))⟩) (fun k => out _ (hD.trans (if_neg k)))⟩
end Go.Proofs.Ytfbbclejoacioaa
