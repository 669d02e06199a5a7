/-
  Contracts: draws of a variant and a board.
-/
import Derived.Test.YtfbbclejoacioaaVDrawD
namespace Go.Proofs.Ytfbbclejoacioaa
open Go.RowKit
set_option linter.unusedSimpArgs false
set_option linter.unusedVariables false
def pairB (s : DSrc) : DBoard × DSrc := drawB (drawVal s).2 (drawVal s).1
def pairK (s : DSrc) : Int := (nxtD (pairB s).2 ((drawVal s).1.1 + 1)).1
def pairT (s : DSrc) : Int × DSrc := nxtD (nxtD (pairB s).2 ((drawVal s).1.1 + 1)).2 40
def drawPair (s : DSrc) : (DVar × DBoard) × DSrc :=
  if (pairT s).1 = 0 then (((drawVal s).1, ((pairB s).1.1.set (pairK s).toNat ((pairB s).1.1.getD (pairK s).toNat 0 + 1), (pairB s).1.2)), (pairT s).2)
  else if (pairT s).1 = 1 then (((drawVal s).1, ((pairB s).1.1, (pairB s).1.2.set (pairK s).toNat (-1))), (pairT s).2)
  else if (pairT s).1 = 2 then (((drawVal s).1, ((pairB s).1.1.take (pairK s).toNat, (pairB s).1.2)), (pairT s).2)
  else if (pairT s).1 = 3 then (((drawVal s).1, (emptyD (drawVal s).1, emptyD (drawVal s).1)), (pairT s).2)
  else if (pairT s).1 = 4 then (((drawAny (pairT s).2).1, (pairB s).1), (drawAny (pairT s).2).2)
  else if (pairT s).1 = 5 then (((drawVal s).1, ((pairB s).1.1, (pairB s).1.2.set (pairK s).toNat ((pairB s).1.2.getD (pairK s).toNat 0 + 1))), (pairT s).2)
  else (((drawVal s).1, (pairB s).1), (pairT s).2)
/-- numbers of a side, as a draw brings them -/
def At15 (l : List Int) : Prop := ∀ j : Nat, 0 ≤ l.getD j 0 ∧ l.getD j 0 ≤ 15
theorem At15.set {l : List Int} (h : At15 l) {i : Nat} {x : Int} (hx : 0 ≤ x ∧ x ≤ 15) : At15 (l.set i x) := fun j => by
  have hj := h j
  simp only [List.getD_eq_getElem?_getD, List.getElem?_set] at hj ⊢
  split
  · split
    · simp only [Option.getD_some]; omega
    · simp
  · exact hj
theorem at15_zero (n : Nat) : At15 (List.replicate n 0) := fun j => by
  rw [List.getD_eq_getElem?_getD, List.getElem?_replicate]
  split <;> simp
theorem at15_start {v : DVar} (hv : varD v = true) : At15 (startD v) := by
  obtain ⟨g1, g2, g3, g4⟩ := varD_iff.1 hv
  unfold startD
  split
  · exact fun j => Bd.at ⟨by decide, by decide⟩ j
  · have e : Int.tdiv v.2.1 2 = v.2.1 / 2 := Int.tdiv_eq_ediv_of_nonneg (by omega)
    rw [e]
    exact ((at15_zero _).set (by omega)).set (by omega)
theorem drawB_at {s : DSrc} {v : DVar} (hs : okS s) (hv : varD v = true) : At15 (drawB s v).1.1 ∧ At15 (drawB s v).1.2 := by
  obtain ⟨c1, c2, c3, c4⟩ := drawB1_ok hs hv
  obtain ⟨d1, d2, d3, d4⟩ := drawB2_ok hs hv
  unfold drawB
  split
  · exact ⟨at15_start hv, at15_start hv⟩
  · split
    · exact ⟨At15.set (fun j => c4.at j) (by decide), fun j => d4.at j⟩
    · exact ⟨fun j => c4.at j, fun j => d4.at j⟩
theorem drawPair_ok {s : DSrc} (hs : okS s) : okS (drawPair s).2 ∧ (drawPair s).2.1 = s.1 := by
  obtain ⟨v1, v2, v3⟩ := drawVal_ok hs
  obtain ⟨b1, b2, -, -⟩ := drawB_ok v1 v3
  have h1 : okS (pairT s).2 := nxtD_ok (nxtD_ok b1 _) _
  have h2 : (pairT s).2.1 = s.1 := by simp only [pairT, pairB, nxtD_codeB, b2, v2]
  obtain ⟨a1, a2⟩ := drawAny_ok h1
  unfold drawPair
  repeat' split
  all_goals first | exact ⟨h1, h2⟩ | exact ⟨a1, a2.trans h2⟩
def c_spec_l02DrawPair : Con where
  ins := [(false, .bx (.pr (.sl (.i .u8)) tRoll))]
  outs := [(true, .v tVar), (true, .pr (.v tSI) (.own 2 tI))]
  sh := false
  pre := fun x => okS x.1
  out := fun x => ((drawPair x.1).1.1, (drawPair x.1).1.2, ())
  upd := fun x => ((x.1.1, (drawPair x.1).2.2), ())
theorem k_spec_l02DrawPair : ConOk Try.prog 16 c_spec_l02DrawPair := by
  refine fn_okW (C := cx Try.prog 69 c_spec_l02DrawPair) (cs := [(29, c_spec_l01DrawValid), (17, c_spec_l02Draw), (15, c_spec_l01Next), (30, c_spec_l02Empty), (31, c_spec_l01DrawAny)]) (res := Try.f16.results.toList) (fun _ => ⟨[], [(6, ⟨[[], [0], [], [], [3], [], [3, 4, 5], [3, 4, 5, 6], [3, 4, 5, 6, 7], [0, 1, 2, 3, 4, 5, 6, 7, 8], [0, 1, 2, 3, 4, 5, 6, 7, 8, 9]], [[2, 3, 4, 5, 6, 7, 8], [2, 3, 4, 5, 6, 7, 8], [0, 1, 3, 4, 5, 6, 7, 8], [0, 1, 2, 5], [0, 1, 2, 5], [0, 1, 2, 3, 4], [0, 1, 2], [0, 1, 2], [0, 1, 2], [], []], []⟩), (17, ⟨[[], [], [0], [0, 1, 2]], [[1], [0, 2], [1], []], [[], [2], [], []]⟩), (12, ⟨[[], [0], [], [0, 1, 2], [0, 1, 2, 3], [0, 1, 2, 3, 4]], [[2], [2], [0, 1], [], [], []], []⟩), (16, ⟨[[], [0], [], [], [3], [], [3, 4, 5], [3, 4, 5, 6], [3, 4, 5, 6, 7], [0, 1, 2, 3, 4, 5, 6, 7, 8], [0, 1, 2, 3, 4, 5, 6, 7, 8, 9]], [[2, 3, 4, 5, 6, 7, 8], [2, 3, 4, 5, 6, 7, 8], [0, 1, 3, 4, 5, 6, 7, 8], [0, 1, 2, 5], [0, 1, 2, 5], [0, 1, 2, 3, 4], [0, 1, 2], [0, 1, 2], [0, 1, 2], [], []], []⟩)], []⟩) Try.func16 (by kernel_rfl) rfl rfl rfl tysOk.look eqTsOk.look (AllCs.ok (l := [(29, c_spec_l01DrawValid), (17, c_spec_l02Draw), (15, c_spec_l01Next), (30, c_spec_l02Empty), (31, c_spec_l01DrawAny)]) ⟨k_spec_l01DrawValid, k_spec_l02Draw, k_spec_l01Next, k_spec_l02Empty, k_spec_l01DrawAny, trivial⟩) mixed rfl rfl rfl ?_
  refine of_nf (P := ∀ s : (List Int) × Int × Int, (okS s) → ((lensI c_spec_l02DrawPair.ins (s, ())) → ((okS s) ∧ ((okS (s.1, (drawVal s).2.2) ∧ varD (drawVal s).1 = true) ∧ ((inK .i64 ((drawVal s).1.1 + 1)) ∧ ((okS (s.1, (drawB (s.1, (drawVal s).2.2) (drawVal s).1).2.2) ∧ ((drawVal s).1.1 + 1) ≤ 1000000000000) ∧ ((okS (s.1, (nxtD (s.1, (drawB (s.1, (drawVal s).2.2) (drawVal s).1).2.2) ((drawVal s).1.1 + 1)).2.2) ∧ (40 : Int) ≤ 1000000000000) ∧ (bsp (decide ((nxtD (s.1, (nxtD (s.1, (drawB (s.1, (drawVal s).2.2) (drawVal s).1).2.2) ((drawVal s).1.1 + 1)).2.2) (40 : Int)).1 = (0 : Int))) ((0 ≤ (nxtD (s.1, (drawB (s.1, (drawVal s).2.2) (drawVal s).1).2.2) ((drawVal s).1.1 + 1)).1 ∧ (nxtD (s.1, (drawB (s.1, (drawVal s).2.2) (drawVal s).1).2.2) ((drawVal s).1.1 + 1)).1 < ((drawB (s.1, (drawVal s).2.2) (drawVal s).1).1.1.length : Int)) ∧ (((nxtD (s.1, (drawB (s.1, (drawVal s).2.2) (drawVal s).1).2.2) ((drawVal s).1.1 + 1)).1.toNat < (drawB (s.1, (drawVal s).2.2) (drawVal s).1).1.1.length) ∧ ((inK .i64 (((drawB (s.1, (drawVal s).2.2) (drawVal s).1).1.1.getD (nxtD (s.1, (drawB (s.1, (drawVal s).2.2) (drawVal s).1).2.2) ((drawVal s).1.1 + 1)).1.toNat 0) + 1)) ∧ ((0 ≤ (nxtD (s.1, (drawB (s.1, (drawVal s).2.2) (drawVal s).1).2.2) ((drawVal s).1.1 + 1)).1 ∧ (nxtD (s.1, (drawB (s.1, (drawVal s).2.2) (drawVal s).1).2.2) ((drawVal s).1.1 + 1)).1 < ((drawB (s.1, (drawVal s).2.2) (drawVal s).1).1.1.length : Int)) ∧ (((nxtD (s.1, (drawB (s.1, (drawVal s).2.2) (drawVal s).1).2.2) ((drawVal s).1.1 + 1)).1.toNat < (drawB (s.1, (drawVal s).2.2) (drawVal s).1).1.1.length) ∧ (@Eq (HO c_spec_l02DrawPair.outs) ((drawVal s).1, (((drawB (s.1, (drawVal s).2.2) (drawVal s).1).1.1.set (nxtD (s.1, (drawB (s.1, (drawVal s).2.2) (drawVal s).1).2.2) ((drawVal s).1.1 + 1)).1.toNat (((drawB (s.1, (drawVal s).2.2) (drawVal s).1).1.1.getD (nxtD (s.1, (drawB (s.1, (drawVal s).2.2) (drawVal s).1).2.2) ((drawVal s).1.1 + 1)).1.toNat 0) + 1)), (drawB (s.1, (drawVal s).2.2) (drawVal s).1).1.2), ()) (c_spec_l02DrawPair.out (s, ())) ∧ @Eq (HI c_spec_l02DrawPair.ins) ((s.1, (nxtD (s.1, (nxtD (s.1, (drawB (s.1, (drawVal s).2.2) (drawVal s).1).2.2) ((drawVal s).1.1 + 1)).2.2) (40 : Int)).2.2), ()) (c_spec_l02DrawPair.upd (s, ())))))))) (bsp (decide ((nxtD (s.1, (nxtD (s.1, (drawB (s.1, (drawVal s).2.2) (drawVal s).1).2.2) ((drawVal s).1.1 + 1)).2.2) (40 : Int)).1 = (1 : Int))) ((0 ≤ (nxtD (s.1, (drawB (s.1, (drawVal s).2.2) (drawVal s).1).2.2) ((drawVal s).1.1 + 1)).1 ∧ (nxtD (s.1, (drawB (s.1, (drawVal s).2.2) (drawVal s).1).2.2) ((drawVal s).1.1 + 1)).1 < ((drawB (s.1, (drawVal s).2.2) (drawVal s).1).1.2.length : Int)) ∧ (((nxtD (s.1, (drawB (s.1, (drawVal s).2.2) (drawVal s).1).2.2) ((drawVal s).1.1 + 1)).1.toNat < (drawB (s.1, (drawVal s).2.2) (drawVal s).1).1.2.length) ∧ (@Eq (HO c_spec_l02DrawPair.outs) ((drawVal s).1, ((drawB (s.1, (drawVal s).2.2) (drawVal s).1).1.1, ((drawB (s.1, (drawVal s).2.2) (drawVal s).1).1.2.set (nxtD (s.1, (drawB (s.1, (drawVal s).2.2) (drawVal s).1).2.2) ((drawVal s).1.1 + 1)).1.toNat (-1))), ()) (c_spec_l02DrawPair.out (s, ())) ∧ @Eq (HI c_spec_l02DrawPair.ins) ((s.1, (nxtD (s.1, (nxtD (s.1, (drawB (s.1, (drawVal s).2.2) (drawVal s).1).2.2) ((drawVal s).1.1 + 1)).2.2) (40 : Int)).2.2), ()) (c_spec_l02DrawPair.upd (s, ()))))) (bsp (decide ((nxtD (s.1, (nxtD (s.1, (drawB (s.1, (drawVal s).2.2) (drawVal s).1).2.2) ((drawVal s).1.1 + 1)).2.2) (40 : Int)).1 = (2 : Int))) ((0 ≤ (0 : Int) ∧ (0 : Int) ≤ (nxtD (s.1, (drawB (s.1, (drawVal s).2.2) (drawVal s).1).2.2) ((drawVal s).1.1 + 1)).1 ∧ (nxtD (s.1, (drawB (s.1, (drawVal s).2.2) (drawVal s).1).2.2) ((drawVal s).1.1 + 1)).1 ≤ ((drawB (s.1, (drawVal s).2.2) (drawVal s).1).1.1.length : Int) ∧ ((drawB (s.1, (drawVal s).2.2) (drawVal s).1).1.1.length : Int) ≤ ((drawB (s.1, (drawVal s).2.2) (drawVal s).1).1.1.length : Int)) ∧ (@Eq (HO c_spec_l02DrawPair.outs) ((drawVal s).1, ((((drawB (s.1, (drawVal s).2.2) (drawVal s).1).1.1.take (nxtD (s.1, (drawB (s.1, (drawVal s).2.2) (drawVal s).1).2.2) ((drawVal s).1.1 + 1)).1.toNat).drop 0), (drawB (s.1, (drawVal s).2.2) (drawVal s).1).1.2), ()) (c_spec_l02DrawPair.out (s, ())) ∧ @Eq (HI c_spec_l02DrawPair.ins) ((s.1, (nxtD (s.1, (nxtD (s.1, (drawB (s.1, (drawVal s).2.2) (drawVal s).1).2.2) ((drawVal s).1.1 + 1)).2.2) (40 : Int)).2.2), ()) (c_spec_l02DrawPair.upd (s, ())))) (bsp (decide ((nxtD (s.1, (nxtD (s.1, (drawB (s.1, (drawVal s).2.2) (drawVal s).1).2.2) ((drawVal s).1.1 + 1)).2.2) (40 : Int)).1 = (3 : Int))) ((2 ≤ (drawVal s).1.1 ∧ (drawVal s).1.1 ≤ 24) ∧ ((2 ≤ (drawVal s).1.1 ∧ (drawVal s).1.1 ≤ 24) ∧ (@Eq (HO c_spec_l02DrawPair.outs) ((drawVal s).1, (List.replicate (Int.toNat ((drawVal s).1.1 + 1)) (0 : Int), List.replicate (Int.toNat ((drawVal s).1.1 + 1)) (0 : Int)), ()) (c_spec_l02DrawPair.out (s, ())) ∧ @Eq (HI c_spec_l02DrawPair.ins) ((s.1, (nxtD (s.1, (nxtD (s.1, (drawB (s.1, (drawVal s).2.2) (drawVal s).1).2.2) ((drawVal s).1.1 + 1)).2.2) (40 : Int)).2.2), ()) (c_spec_l02DrawPair.upd (s, ()))))) (bsp (decide ((nxtD (s.1, (nxtD (s.1, (drawB (s.1, (drawVal s).2.2) (drawVal s).1).2.2) ((drawVal s).1.1 + 1)).2.2) (40 : Int)).1 = (4 : Int))) ((okS (s.1, (nxtD (s.1, (nxtD (s.1, (drawB (s.1, (drawVal s).2.2) (drawVal s).1).2.2) ((drawVal s).1.1 + 1)).2.2) (40 : Int)).2.2)) ∧ (@Eq (HO c_spec_l02DrawPair.outs) ((drawAny (s.1, (nxtD (s.1, (nxtD (s.1, (drawB (s.1, (drawVal s).2.2) (drawVal s).1).2.2) ((drawVal s).1.1 + 1)).2.2) (40 : Int)).2.2)).1, (drawB (s.1, (drawVal s).2.2) (drawVal s).1).1, ()) (c_spec_l02DrawPair.out (s, ())) ∧ @Eq (HI c_spec_l02DrawPair.ins) ((s.1, (drawAny (s.1, (nxtD (s.1, (nxtD (s.1, (drawB (s.1, (drawVal s).2.2) (drawVal s).1).2.2) ((drawVal s).1.1 + 1)).2.2) (40 : Int)).2.2)).2.2), ()) (c_spec_l02DrawPair.upd (s, ())))) (bsp (decide ((nxtD (s.1, (nxtD (s.1, (drawB (s.1, (drawVal s).2.2) (drawVal s).1).2.2) ((drawVal s).1.1 + 1)).2.2) (40 : Int)).1 = (5 : Int))) ((0 ≤ (nxtD (s.1, (drawB (s.1, (drawVal s).2.2) (drawVal s).1).2.2) ((drawVal s).1.1 + 1)).1 ∧ (nxtD (s.1, (drawB (s.1, (drawVal s).2.2) (drawVal s).1).2.2) ((drawVal s).1.1 + 1)).1 < ((drawB (s.1, (drawVal s).2.2) (drawVal s).1).1.2.length : Int)) ∧ (((nxtD (s.1, (drawB (s.1, (drawVal s).2.2) (drawVal s).1).2.2) ((drawVal s).1.1 + 1)).1.toNat < (drawB (s.1, (drawVal s).2.2) (drawVal s).1).1.2.length) ∧ ((inK .i64 (((drawB (s.1, (drawVal s).2.2) (drawVal s).1).1.2.getD (nxtD (s.1, (drawB (s.1, (drawVal s).2.2) (drawVal s).1).2.2) ((drawVal s).1.1 + 1)).1.toNat 0) + 1)) ∧ ((0 ≤ (nxtD (s.1, (drawB (s.1, (drawVal s).2.2) (drawVal s).1).2.2) ((drawVal s).1.1 + 1)).1 ∧ (nxtD (s.1, (drawB (s.1, (drawVal s).2.2) (drawVal s).1).2.2) ((drawVal s).1.1 + 1)).1 < ((drawB (s.1, (drawVal s).2.2) (drawVal s).1).1.2.length : Int)) ∧ (((nxtD (s.1, (drawB (s.1, (drawVal s).2.2) (drawVal s).1).2.2) ((drawVal s).1.1 + 1)).1.toNat < (drawB (s.1, (drawVal s).2.2) (drawVal s).1).1.2.length) ∧ (@Eq (HO c_spec_l02DrawPair.outs) ((drawVal s).1, ((drawB (s.1, (drawVal s).2.2) (drawVal s).1).1.1, ((drawB (s.1, (drawVal s).2.2) (drawVal s).1).1.2.set (nxtD (s.1, (drawB (s.1, (drawVal s).2.2) (drawVal s).1).2.2) ((drawVal s).1.1 + 1)).1.toNat (((drawB (s.1, (drawVal s).2.2) (drawVal s).1).1.2.getD (nxtD (s.1, (drawB (s.1, (drawVal s).2.2) (drawVal s).1).2.2) ((drawVal s).1.1 + 1)).1.toNat 0) + 1))), ()) (c_spec_l02DrawPair.out (s, ())) ∧ @Eq (HI c_spec_l02DrawPair.ins) ((s.1, (nxtD (s.1, (nxtD (s.1, (drawB (s.1, (drawVal s).2.2) (drawVal s).1).2.2) ((drawVal s).1.1 + 1)).2.2) (40 : Int)).2.2), ()) (c_spec_l02DrawPair.upd (s, ())))))))) (@Eq (HO c_spec_l02DrawPair.outs) ((drawVal s).1, (drawB (s.1, (drawVal s).2.2) (drawVal s).1).1, ()) (c_spec_l02DrawPair.out (s, ())) ∧ @Eq (HI c_spec_l02DrawPair.ins) ((s.1, (nxtD (s.1, (nxtD (s.1, (drawB (s.1, (drawVal s).2.2) (drawVal s).1).2.2) ((drawVal s).1.1 + 1)).2.2) (40 : Int)).2.2), ()) (c_spec_l02DrawPair.upd (s, ())))))))))))))))) (by kernel_rfl) ?_
  rintro s hs hl
  obtain ⟨v1, v2, v3⟩ := drawVal_ok hs
  obtain ⟨⟨g1, g1'⟩, ⟨g2, g2'⟩, g3, g4⟩ := varD_iff.1 v3
  obtain ⟨b1, b2, b3, b4⟩ := drawB_ok v1 v3
  have b5 := drawB_at v1 v3
  have k1 := nxtD_ok b1 ((drawVal s).1.1 + 1)
  have k2 := nxtD_bd b1 ((drawVal s).1.1 + 1)
  have t1 := nxtD_ok k1 40
  have hb2 : (drawB (drawVal s).2 (drawVal s).1).2.1 = s.1 := b2.trans v2
  have f1 : drawB (drawVal s).2 (drawVal s).1 = pairB s := rfl
  have f2 : (nxtD (pairB s).2 ((drawVal s).1.1 + 1)).1 = pairK s := rfl
  have f3 : nxtD (nxtD (pairB s).2 ((drawVal s).1.1 + 1)).2 40 = pairT s := rfl
  have f4 : List.replicate ((drawVal s).1.1 + 1).toNat (0 : Int) = emptyD (drawVal s).1 := rfl
  rw [f1] at b1 b3 b4 b5 hb2 k1 k2 t1
  rw [f2] at k2
  rw [f3] at t1
  have hT : (pairT s).2.1 = s.1 := by simp only [pairT, nxtD_codeB, hb2]
  obtain ⟨a1, a2⟩ := drawAny_ok t1
  have hA : (drawAny (pairT s).2).2.1 = s.1 := a2.trans hT
  have hD := drawPair.eq_1 s
  have out : ∀ r, drawPair s = r → @Eq (HO c_spec_l02DrawPair.outs) (r.1.1, (r.1.2.1, r.1.2.2), ()) (c_spec_l02DrawPair.out (s, ())) ∧ @Eq (HI c_spec_l02DrawPair.ins) (r.2, ()) (c_spec_l02DrawPair.upd (s, ())) := fun r h => by
    subst h
    refine ⟨rfl, ?_⟩
    simp only [c_spec_l02DrawPair]
    rw [upd_etaB (drawPair_ok hs).2]
  simp only [src_etaB, v2, f1, hb2, nxtD_codeB, f2, f3, hT, hA, f4]
  have q1 := b5.1 (pairK s).toNat
  have q2 := b5.2 (pairK s).toNat
  refine ⟨hs, ⟨v1, v3⟩, by simp only [inK]; omega, ⟨b1, by omega⟩, ⟨k1, by decide⟩, bspD (fun c0 => ⟨⟨by omega, by omega⟩, by omega, by simp only [inK]; omega, ⟨by omega, by omega⟩, by omega, out _ (hD.trans (if_pos c0))⟩) (fun c0 => bspD (fun c1 => ⟨⟨by omega, by omega⟩, by omega, out _ (by rw [hD, if_neg c0, if_pos c1])⟩) (fun c1 => bspD (fun c2 => ⟨⟨by omega, by omega, by omega, by omega⟩, out _ (by rw [hD, if_neg c0, if_neg c1, if_pos c2])⟩) (fun c2 => bspD (fun c3 => ⟨⟨g1, g1'⟩, ⟨g1, g1'⟩, out _ (by rw [hD, if_neg c0, if_neg c1, if_neg c2, if_pos c3])⟩) (fun c3 => bspD (fun c4 => ⟨t1, out _ (by rw [hD, if_neg c0, if_neg c1, if_neg c2, if_neg c3, if_pos c4])⟩) (fun c4 => bspD (fun c5 => ⟨⟨by omega, by omega⟩, by omega, by simp only [inK]; omega, ⟨by omega, by omega⟩, by omega, out _ (by rw [hD, if_neg c0, if_neg c1, if_neg c2, if_neg c3, if_neg c4, if_pos c5])⟩) (fun c5 => out _ (by rw [hD, if_neg c0, if_neg c1, if_neg c2, if_neg c3, if_neg c4, if_neg c5])))))))⟩
/-- what a draw's board holds -/
def At16 (l : List Int) : Prop := l.length ≤ 25 ∧ ∀ j : Nat, -1 ≤ l.getD j 0 ∧ l.getD j 0 ≤ 16
theorem At16.set {l : List Int} (h : At16 l) {i : Nat} {x : Int} (hx : -1 ≤ x ∧ x ≤ 16) : At16 (l.set i x) := ⟨by rw [List.length_set]; exact h.1, fun j => by
  have hj := h.2 j
  simp only [List.getD_eq_getElem?_getD, List.getElem?_set] at hj ⊢
  split
  · split
    · simp only [Option.getD_some]; omega
    · simp
  · exact hj⟩
theorem drawPair_at {s : DSrc} (hs : okS s) : At16 (drawPair s).1.2.1 ∧ At16 (drawPair s).1.2.2 := by
  obtain ⟨v1, v2, v3⟩ := drawVal_ok hs
  obtain ⟨⟨g1, g1'⟩, -⟩ := varD_iff.1 v3
  obtain ⟨b1, b2, b3, b4⟩ := drawB_ok v1 v3
  have b5 := drawB_at v1 v3
  have e1 : At16 (pairB s).1.1 := ⟨by have : (pairB s).1.1.length = (drawB (drawVal s).2 (drawVal s).1).1.1.length := rfl
                                      omega, fun j => by have := b5.1 j; have e : (pairB s).1.1 = (drawB (drawVal s).2 (drawVal s).1).1.1 := rfl
                                                         rw [e]; omega⟩
  have e2 : At16 (pairB s).1.2 := ⟨by have : (pairB s).1.2.length = (drawB (drawVal s).2 (drawVal s).1).1.2.length := rfl
                                      omega, fun j => by have := b5.2 j; have e : (pairB s).1.2 = (drawB (drawVal s).2 (drawVal s).1).1.2 := rfl
                                                         rw [e]; omega⟩
  have q1 := b5.1 (pairK s).toNat
  have q2 := b5.2 (pairK s).toNat
  have em : At16 (emptyD (drawVal s).1) := ⟨by simp [emptyD]; omega, fun j => by rw [empty_at]; omega⟩
  have tk : At16 ((pairB s).1.1.take (pairK s).toNat) := ⟨by have := e1.1; simp; omega, fun j => by
    have := e1.2 j
    rw [List.getD_eq_getElem?_getD, List.getElem?_take]
    rw [List.getD_eq_getElem?_getD] at this
    split
    · exact this
    · simp⟩
  unfold drawPair
  repeat' split
  · exact ⟨e1.set (by have : (pairB s).1.1.getD (pairK s).toNat 0 = (drawB (drawVal s).2 (drawVal s).1).1.1.getD (pairK s).toNat 0 := rfl
                      omega), e2⟩
  · exact ⟨e1, e2.set (by decide)⟩
  · exact ⟨tk, e2⟩
  · exact ⟨em, em⟩
  · exact ⟨e1, e2⟩
  · exact ⟨e1, e2.set (by have : (pairB s).1.2.getD (pairK s).toNat 0 = (drawB (drawVal s).2 (drawVal s).1).1.2.getD (pairK s).toNat 0 := rfl
                          omega)⟩
  · exact ⟨e1, e2⟩
end Go.Proofs.Ytfbbclejoacioaa
