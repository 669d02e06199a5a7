/-
  Contracts: draws of rolls and games.
-/
import Derived.Test.YtlnagcdnnaffgaaVOpen
import Derived.Test.YtlnagcdnnaffgaaVDrawS
namespace Go.Proofs.Ytlnagcdnnaffgaa
open Go.RowKit
set_option linter.unusedSimpArgs false
set_option linter.unusedVariables false
def rlP (v : DVar) (s : DSrc) : DRoll × DSrc :=
  ((max (1 + (nxtD s v.2.2.2).1) (1 + (nxtD (nxtD s v.2.2.2).2 v.2.2.2).1), min (1 + (nxtD s v.2.2.2).1) (1 + (nxtD (nxtD s v.2.2.2).2 v.2.2.2).1)), (nxtD (nxtD s v.2.2.2).2 v.2.2.2).2)
theorem rlP_ok {v : DVar} {s : DSrc} (h : okS s) : okS (rlP v s).2 ∧ (rlP v s).2.1 = s.1 := ⟨nxtD_ok (nxtD_ok h _) _, by unfold rlP; simp only [nxtD_codeB]⟩
theorem rlP_roll {v : DVar} {s : DSrc} (h : okS s) (hv : varD v = true) : rollD v (rlP v s).1 = true := by
  have b1 := nxtD_bd h v.2.2.2
  have b2 := nxtD_bd (nxtD_ok h v.2.2.2) v.2.2.2
  have hs := (varD_iff.1 hv).2.2.2
  simp only [rollD, hv, Bool.true_and, Bool.and_eq_true, inB, decide_eq_true_eq]
  simp only [rlP]
  omega
def drawRl (v : DVar) (s : DSrc) : DRoll × DSrc :=
  if (nxtD s 20).1 = 0 then (((nxtD (nxtD s 20).2 8).1, (nxtD (nxtD (nxtD s 20).2 8).2 8).1), (nxtD (nxtD (nxtD s 20).2 8).2 8).2)
  else rlP v (nxtD s 20).2
theorem drawRl_ok {v : DVar} {s : DSrc} (h : okS s) : okS (drawRl v s).2 ∧ (drawRl v s).2.1 = s.1 := by
  have h0 := nxtD_ok h 20
  unfold drawRl
  split
  · exact ⟨nxtD_ok (nxtD_ok h0 _) _, by simp only [nxtD_codeB]⟩
  · exact ⟨(rlP_ok h0).1, by rw [(rlP_ok h0).2, nxtD_codeB]⟩
def drawTn (v : DVar) (s : DSrc) : Int × DSrc := if 20 < v.1 then nxtD (nxtD s 12).2 4 else nxtD s 12
theorem drawTn_ok {v : DVar} {s : DSrc} (h : okS s) : okS (drawTn v s).2 ∧ (drawTn v s).2.1 = s.1 ∧ (0 ≤ (drawTn v s).1 ∧ (drawTn v s).1 ≤ 12) ∧ (20 < v.1 → (drawTn v s).1 ≤ 3) := by
  have h0 := nxtD_ok h 12
  have b0 := nxtD_bd h 12
  have b1 := nxtD_bd h0 4
  unfold drawTn
  split
  · exact ⟨nxtD_ok h0 4, by simp only [nxtD_codeB], by omega, by omega⟩
  · exact ⟨h0, by simp only [nxtD_codeB], by omega, by omega⟩
def drawS1 (v : DVar) (q : Int × DSrc) : DGame × DSrc := ((selfD v (1 + (nxtD q.2 2147483646).1) q.1).1, (nxtD q.2 2147483646).2)
def drawS2 (v : DVar) (q : DGame × DSrc) : DGame × DSrc :=
  if q.1.2.2.2.1 = 1 then (if (nxtD q.2 2).1 = 0 then ((rollDiceD v q.1 (rlP v (nxtD q.2 2).2).1).1, (rlP v (nxtD q.2 2).2).2) else (q.1, (nxtD q.2 2).2)) else q
def drawGa (s : DSrc) : DVar × DGame × DSrc :=
  if (nxtD (drawV8 s).2 6).1 = 0 then ((drawV8 s).1, newG (drawV8 s).1, (nxtD (drawV8 s).2 6).2)
  else ((drawV8 s).1, drawS2 (drawV8 s).1 (drawS1 (drawV8 s).1 (drawTn (drawV8 s).1 (nxtD (drawV8 s).2 6).2)))
theorem seed_bd {s : DSrc} (h : okS s) : 0 ≤ (nxtD s 2147483646).1 ∧ (nxtD s 2147483646).1 < 195788799 := by
  have hz := seedZ_bd h
  obtain ⟨h0, h1, h2⟩ := h
  have hb := h0.2 s.2.1.toNat
  have hq : Int.tdiv (seedZ s) 11 = seedZ s / 11 := Int.tdiv_eq_ediv_of_nonneg hz.1
  unfold nxtD
  rw [if_neg (by decide), hq]
  split
  · rw [if_neg (by omega)]
    dsimp only
    rw [Int.tmod_eq_emod_of_nonneg (by omega)]
    omega
  · dsimp only
    rw [Int.tmod_eq_emod_of_nonneg (by omega)]
    omega
theorem drawV8_dr {s : DSrc} (h : okS s) : drawnV (drawV8 s).1 := ⟨(drawV8_ok h).2.2.1, (drawV8_ok h).2.2.2⟩
theorem drawS1_ok {v : DVar} (hv : drawnV v) {q : Int × DSrc} (h : okS q.2) (h1 : 0 ≤ q.1 ∧ q.1 ≤ 12) (h2 : 20 < v.1 → q.1 ≤ 3) : okS (drawS1 v q).2 ∧ (drawS1 v q).2.1 = q.2.1 ∧ gameD v (drawS1 v q).1 = true := by
  have := seed_bd h
  exact ⟨nxtD_ok h _, by unfold drawS1; simp only [nxtD_codeB], (selfD_drawn hv (by omega) h1 h2).1⟩
theorem drawS2_ok {v : DVar} (hv : drawnV v) {q : DGame × DSrc} (h : okS q.2) (hg : gameD v q.1 = true) : okS (drawS2 v q).2 ∧ (drawS2 v q).2.1 = q.2.1 ∧ gameD v (drawS2 v q).1 = true := by
  have h0 := nxtD_ok h 2
  have hv1 : varD v = true := by have := hv.1; simp only [bigD, Bool.and_eq_true] at this; exact this.1
  unfold drawS2
  split
  · next hp =>
    split
    · exact ⟨(rlP_ok h0).1, by rw [(rlP_ok h0).2, nxtD_codeB], (game_rolled hg hp (rlP_roll h0 hv1)).2⟩
    · exact ⟨h0, by simp only [nxtD_codeB], hg⟩
  · exact ⟨h, rfl, hg⟩
theorem drawGa_ok {s : DSrc} (h : okS s) : okS (drawGa s).2.2 ∧ (drawGa s).2.2.1 = s.1 ∧ drawnV (drawGa s).1 ∧ gameD (drawGa s).1 (drawGa s).2.1 = true := by
  obtain ⟨v1, v2, v3, -⟩ := drawV8_ok h
  have hd := drawV8_dr h
  have h0 := nxtD_ok v1 6
  unfold drawGa
  split
  · exact ⟨h0, by rw [nxtD_codeB, v2], hd, game_new v3⟩
  · obtain ⟨t1, t2, t3, t4⟩ := drawTn_ok (v := (drawV8 s).1) h0
    obtain ⟨s1, s2, s3⟩ := drawS1_ok hd t1 t3 t4
    obtain ⟨u1, u2, u3⟩ := drawS2_ok hd s1 s3
    exact ⟨u1, by rw [u2, s2, t2, nxtD_codeB, v2], hd, u3⟩
def c_spec_l07DrawRoll : Con where
  ins := [(false, .bx (.pr (.sl (.i .u8)) tRoll)), (true, .v tVar)]
  outs := [(true, .v tRoll)]
  sh := false
  pre := fun x => okS x.1 ∧ x.2.1.2.2.2 ≤ 100
  out := fun x => ((drawRl x.2.1 x.1).1, ())
  upd := fun x => ((x.1.1, (drawRl x.2.1 x.1).2.2), x.2.1, ())
  eat := false
theorem k_spec_l07DrawRoll [B : Base] : ConOk Try.prog 26 c_spec_l07DrawRoll := by
  refine fn_okW (C := cx Try.prog 24 c_spec_l07DrawRoll) (cs := [(45, c_spec_l01Next), (55, c_spec_l07Pair)]) (res := Try.f26.results.toList) (fun _ => ⟨[], [(3, ⟨[[], [], [1], [0, 1, 2], [0, 1, 2, 3], [], [], [6], [0, 1, 2, 3, 5, 6, 7], [0, 1, 2, 3, 5, 6, 7, 8], [0, 1, 2, 3, 4, 5, 6, 7, 8, 9], [0, 1, 2, 3, 4, 5, 6, 7, 8, 9, 10]], [[1, 2, 5, 6, 7], [0, 5, 6, 7], [0, 5, 6, 7], [5, 6, 7], [5, 6, 7, 8, 9], [0, 1, 2, 3, 4, 6, 7], [0, 1, 2, 3, 4, 5], [0, 1, 2, 3, 4, 5], [4], [4], [], []], [[], [], [], [], [0], [0], [0], [0], [], [], [], []]⟩)], []⟩) Try.func26 (by kernel_rfl) rfl rfl rfl tysOk.look eqTsOk.look (AllCs.ok (l := [(45, c_spec_l01Next), (55, c_spec_l07Pair)]) ⟨k_spec_l01Next, k_spec_l07Pair, trivial⟩) mixed rfl rfl rfl rfl ?_
  refine of_nf (P := ∀ s : (List Int) × Int × Int, ∀ v : Int × Int × Int × Int, (okS s ∧ v.2.2.2 ≤ 100) → ((lensI c_spec_l07DrawRoll.ins (s, v, ())) → ((okS s ∧ (20 : Int) ≤ 1000000000000) ∧ (bsp (decide ((nxtD s (20 : Int)).1 = (0 : Int))) ((okS (s.1, (nxtD s (20 : Int)).2.2) ∧ (8 : Int) ≤ 1000000000000) ∧ ((okS (s.1, (nxtD (s.1, (nxtD s (20 : Int)).2.2) (8 : Int)).2.2) ∧ (8 : Int) ≤ 1000000000000) ∧ (@Eq (HO c_spec_l07DrawRoll.outs) (((nxtD (s.1, (nxtD s (20 : Int)).2.2) (8 : Int)).1, (nxtD (s.1, (nxtD (s.1, (nxtD s (20 : Int)).2.2) (8 : Int)).2.2) (8 : Int)).1), ()) (c_spec_l07DrawRoll.out (s, v, ())) ∧ @Eq (HI c_spec_l07DrawRoll.ins) ((s.1, (nxtD (s.1, (nxtD (s.1, (nxtD s (20 : Int)).2.2) (8 : Int)).2.2) (8 : Int)).2.2), v, ()) (c_spec_l07DrawRoll.upd (s, v, ()))))) ((okS (s.1, (nxtD s (20 : Int)).2.2) ∧ v.2.2.2 ≤ 1000000000000) ∧ ((inK .i64 (1 + (nxtD (s.1, (nxtD s (20 : Int)).2.2) v.2.2.2).1)) ∧ ((okS (s.1, (nxtD (s.1, (nxtD s (20 : Int)).2.2) v.2.2.2).2.2) ∧ v.2.2.2 ≤ 1000000000000) ∧ ((inK .i64 (1 + (nxtD (s.1, (nxtD (s.1, (nxtD s (20 : Int)).2.2) v.2.2.2).2.2) v.2.2.2).1)) ∧ (True ∧ (@Eq (HO c_spec_l07DrawRoll.outs) ((max (1 + (nxtD (s.1, (nxtD s (20 : Int)).2.2) v.2.2.2).1) (1 + (nxtD (s.1, (nxtD (s.1, (nxtD s (20 : Int)).2.2) v.2.2.2).2.2) v.2.2.2).1), min (1 + (nxtD (s.1, (nxtD s (20 : Int)).2.2) v.2.2.2).1) (1 + (nxtD (s.1, (nxtD (s.1, (nxtD s (20 : Int)).2.2) v.2.2.2).2.2) v.2.2.2).1)), ()) (c_spec_l07DrawRoll.out (s, v, ())) ∧ @Eq (HI c_spec_l07DrawRoll.ins) ((s.1, (nxtD (s.1, (nxtD (s.1, (nxtD s (20 : Int)).2.2) v.2.2.2).2.2) v.2.2.2).2.2), v, ()) (c_spec_l07DrawRoll.upd (s, v, ())))))))))))) (by kernel_rfl) ?_
  rintro s v ⟨hs, hv⟩ hl
  have out : ∀ r, drawRl v s = r → @Eq (HO c_spec_l07DrawRoll.outs) (r.1, ()) (c_spec_l07DrawRoll.out (s, v, ())) ∧ @Eq (HI c_spec_l07DrawRoll.ins) (r.2, v, ()) (c_spec_l07DrawRoll.upd (s, v, ())) := fun r h => by
    subst h
    refine ⟨rfl, ?_⟩
    simp only [c_spec_l07DrawRoll]
    rw [upd_etaB (drawRl_ok hs).2]
  have hD := drawRl.eq_1 v s
  have h0 := nxtD_ok hs 20
  have h1 := nxtD_ok h0 8
  have h2 := nxtD_ok h0 v.2.2.2
  have b2 := nxtD_bd h0 v.2.2.2
  have b3 := nxtD_bd h2 v.2.2.2
  simp only [src_etaB, nxtD_codeB]
  exact ⟨⟨hs, by decide⟩, bspD (fun c => ⟨⟨h0, by decide⟩, ⟨h1, by decide⟩, out _ (hD.trans (if_pos c))⟩) (fun c => ⟨⟨h0, by omega⟩, by simp only [inK]; omega, ⟨h2, by omega⟩, by simp only [inK]; omega, trivial, out _ (hD.trans (if_neg c))⟩)⟩
def c_spec_l08DrawGame : Con where
  ins := [(false, .bx (.pr (.sl (.i .u8)) tRoll))]
  outs := [(true, .v tVar), (true, .pr (.pr (.own 2 tI) (.own 2 tI)) (.v (.pr tI (.pr tRoll tVar))))]
  sh := false
  pre := fun x => okS x.1
  out := fun x => ((drawGa x.1).1, (drawGa x.1).2.1, ())
  upd := fun x => ((x.1.1, (drawGa x.1).2.2.2), ())
  eat := false
theorem k_spec_l08DrawGame [B : Base] : ConOk Try.prog 53 c_spec_l08DrawGame := by
  refine fn_okW (C := cx Try.prog 61 c_spec_l08DrawGame) (cs := [(83, c_spec_l08DrawVariant), (45, c_spec_l01Next), (62, c_spec_l08New), (84, c_spec_SelfPlay), (55, c_spec_l07Pair), (10, c_spec_RollDice)]) (res := Try.f53.results.toList) (fun _ => ⟨[], [(3, ⟨[[], [], [1], [0, 1, 2], [0, 1, 2, 3]], [[1, 2], [0], [0], [], []], []⟩), (7, ⟨[[], [], [1], [1, 2], [], [0, 1, 2, 3, 4], [0, 1, 2, 3, 4, 5], [0, 1, 2, 3, 4, 5, 6], [0, 1, 2, 3, 4, 5, 6], [0, 1, 2, 3, 4, 5, 6], [], [0, 1, 2, 3, 4, 5, 6, 7, 10], [0, 1, 2, 3, 4, 5, 6, 7, 8, 10, 11], [0, 1, 2, 3, 4, 5, 6, 7, 8, 9, 10, 11, 12]], [[1, 2, 3, 4, 10], [0, 4, 10], [0, 4, 10], [0, 4, 10], [0, 1, 2, 3, 10], [10], [10], [8, 9, 10], [7, 9, 10, 11], [7, 8, 10, 11, 12], [0, 1, 2, 3, 4, 5, 6, 7, 8, 9], [8, 9], [9], []], [[0], [], [], [], [0], [], [], [], [], [], [0], [], [], []]⟩), (9, ⟨[[], [], [], [], [3], [2, 3, 4], [2, 3, 4, 5], [], [], [8], [2, 3, 4, 5, 7, 8, 9], [2, 3, 4, 5, 7, 8, 9, 10], [2, 3, 4, 5, 6, 7, 8, 9, 10, 11], [0, 1, 2, 3, 4, 5, 6, 7, 8, 9, 10, 11, 12], [0, 1, 2, 3, 4, 5, 6, 7, 8, 9, 10, 11, 12, 13], [0, 1, 2, 3, 4, 5, 6, 7, 8, 9, 10, 11, 12, 13, 14], [0, 1, 2, 3, 4, 5, 6, 7, 8, 9, 10, 11, 12, 13, 14], [0, 1, 2, 3, 4, 5, 6, 7, 8, 9, 10, 11, 12, 13, 14, 15]], [[1, 2, 3, 4, 5, 6, 7, 8, 9, 10, 11, 12], [0, 2, 3, 4, 5, 6, 7, 8, 9, 10, 11, 12], [0, 1, 3, 4, 7, 8, 9], [0, 1, 2, 7, 8, 9], [0, 1, 2, 7, 8, 9], [0, 1, 7, 8, 9], [0, 1, 7, 8, 9, 10, 11], [0, 1, 2, 3, 4, 5, 6, 8, 9], [0, 1, 2, 3, 4, 5, 6, 7], [0, 1, 2, 3, 4, 5, 6, 7], [0, 1, 6], [0, 1, 6], [0, 1], [], [], [16], [15, 17], [16]], [[0], [0], [], [], [], [], [0], [0], [0], [0], [], [], [], [], [], [], [450, 402], []]⟩), (10, ⟨[[], [], [0], [0, 1, 2]], [[1], [0, 2], [1], []], [[], [2], [], []]⟩)], []⟩) Try.func53 (by kernel_rfl) rfl rfl rfl tysOk.look eqTsOk.look (AllCs.ok (l := [(83, c_spec_l08DrawVariant), (45, c_spec_l01Next), (62, c_spec_l08New), (84, c_spec_SelfPlay), (55, c_spec_l07Pair), (10, c_spec_RollDice)]) ⟨k_spec_l08DrawVariant, k_spec_l01Next, k_spec_l08New, k_spec_SelfPlay, k_spec_l07Pair, k_spec_RollDice, trivial⟩) mixed rfl rfl rfl rfl ?_
  refine of_nf (P := ∀ s : (List Int) × Int × Int, (okS s) → ((lensI c_spec_l08DrawGame.ins (s, ())) → ((okS s) ∧ ((okS (s.1, (drawV8 s).2.2) ∧ (6 : Int) ≤ 1000000000000) ∧ (bsp (decide ((nxtD (s.1, (drawV8 s).2.2) (6 : Int)).1 = (0 : Int))) ((bigD (drawV8 s).1 = true) ∧ (@Eq (HO c_spec_l08DrawGame.outs) ((drawV8 s).1, ((startD (drawV8 s).1, startD (drawV8 s).1), 0, (0, 0), 0, 0, 0, 0), ()) (c_spec_l08DrawGame.out (s, ())) ∧ @Eq (HI c_spec_l08DrawGame.ins) ((s.1, (nxtD (s.1, (drawV8 s).2.2) (6 : Int)).2.2), ()) (c_spec_l08DrawGame.upd (s, ())))) ((okS (s.1, (nxtD (s.1, (drawV8 s).2.2) (6 : Int)).2.2) ∧ (12 : Int) ≤ 1000000000000) ∧ (bsp (decide ((20 : Int) < (drawV8 s).1.1)) ((okS (s.1, (nxtD (s.1, (nxtD (s.1, (drawV8 s).2.2) (6 : Int)).2.2) (12 : Int)).2.2) ∧ (4 : Int) ≤ 1000000000000) ∧ ((okS (s.1, (nxtD (s.1, (nxtD (s.1, (nxtD (s.1, (drawV8 s).2.2) (6 : Int)).2.2) (12 : Int)).2.2) (4 : Int)).2.2) ∧ (2147483646 : Int) ≤ 1000000000000) ∧ ((inK .i64 (1 + (nxtD (s.1, (nxtD (s.1, (nxtD (s.1, (nxtD (s.1, (drawV8 s).2.2) (6 : Int)).2.2) (12 : Int)).2.2) (4 : Int)).2.2) (2147483646 : Int)).1)) ∧ (True ∧ (bsp (decide ((selfD (drawV8 s).1 (1 + (nxtD (s.1, (nxtD (s.1, (nxtD (s.1, (nxtD (s.1, (drawV8 s).2.2) (6 : Int)).2.2) (12 : Int)).2.2) (4 : Int)).2.2) (2147483646 : Int)).1) (nxtD (s.1, (nxtD (s.1, (nxtD (s.1, (drawV8 s).2.2) (6 : Int)).2.2) (12 : Int)).2.2) (4 : Int)).1).1.2.2.2.1 = (1 : Int))) ((okS (s.1, (nxtD (s.1, (nxtD (s.1, (nxtD (s.1, (nxtD (s.1, (drawV8 s).2.2) (6 : Int)).2.2) (12 : Int)).2.2) (4 : Int)).2.2) (2147483646 : Int)).2.2) ∧ (2 : Int) ≤ 1000000000000) ∧ (bsp (decide ((nxtD (s.1, (nxtD (s.1, (nxtD (s.1, (nxtD (s.1, (nxtD (s.1, (drawV8 s).2.2) (6 : Int)).2.2) (12 : Int)).2.2) (4 : Int)).2.2) (2147483646 : Int)).2.2) (2 : Int)).1 = (0 : Int))) ((okS (s.1, (nxtD (s.1, (nxtD (s.1, (nxtD (s.1, (nxtD (s.1, (nxtD (s.1, (drawV8 s).2.2) (6 : Int)).2.2) (12 : Int)).2.2) (4 : Int)).2.2) (2147483646 : Int)).2.2) (2 : Int)).2.2) ∧ (drawV8 s).1.2.2.2 ≤ 1000000000000) ∧ ((inK .i64 (1 + (nxtD (s.1, (nxtD (s.1, (nxtD (s.1, (nxtD (s.1, (nxtD (s.1, (nxtD (s.1, (drawV8 s).2.2) (6 : Int)).2.2) (12 : Int)).2.2) (4 : Int)).2.2) (2147483646 : Int)).2.2) (2 : Int)).2.2) (drawV8 s).1.2.2.2).1)) ∧ ((okS (s.1, (nxtD (s.1, (nxtD (s.1, (nxtD (s.1, (nxtD (s.1, (nxtD (s.1, (nxtD (s.1, (drawV8 s).2.2) (6 : Int)).2.2) (12 : Int)).2.2) (4 : Int)).2.2) (2147483646 : Int)).2.2) (2 : Int)).2.2) (drawV8 s).1.2.2.2).2.2) ∧ (drawV8 s).1.2.2.2 ≤ 1000000000000) ∧ ((inK .i64 (1 + (nxtD (s.1, (nxtD (s.1, (nxtD (s.1, (nxtD (s.1, (nxtD (s.1, (nxtD (s.1, (nxtD (s.1, (drawV8 s).2.2) (6 : Int)).2.2) (12 : Int)).2.2) (4 : Int)).2.2) (2147483646 : Int)).2.2) (2 : Int)).2.2) (drawV8 s).1.2.2.2).2.2) (drawV8 s).1.2.2.2).1)) ∧ (True ∧ (True ∧ (@Eq (HO c_spec_l08DrawGame.outs) ((drawV8 s).1, (rollDiceD (drawV8 s).1 (selfD (drawV8 s).1 (1 + (nxtD (s.1, (nxtD (s.1, (nxtD (s.1, (nxtD (s.1, (drawV8 s).2.2) (6 : Int)).2.2) (12 : Int)).2.2) (4 : Int)).2.2) (2147483646 : Int)).1) (nxtD (s.1, (nxtD (s.1, (nxtD (s.1, (drawV8 s).2.2) (6 : Int)).2.2) (12 : Int)).2.2) (4 : Int)).1).1 (max (1 + (nxtD (s.1, (nxtD (s.1, (nxtD (s.1, (nxtD (s.1, (nxtD (s.1, (nxtD (s.1, (drawV8 s).2.2) (6 : Int)).2.2) (12 : Int)).2.2) (4 : Int)).2.2) (2147483646 : Int)).2.2) (2 : Int)).2.2) (drawV8 s).1.2.2.2).1) (1 + (nxtD (s.1, (nxtD (s.1, (nxtD (s.1, (nxtD (s.1, (nxtD (s.1, (nxtD (s.1, (nxtD (s.1, (drawV8 s).2.2) (6 : Int)).2.2) (12 : Int)).2.2) (4 : Int)).2.2) (2147483646 : Int)).2.2) (2 : Int)).2.2) (drawV8 s).1.2.2.2).2.2) (drawV8 s).1.2.2.2).1), min (1 + (nxtD (s.1, (nxtD (s.1, (nxtD (s.1, (nxtD (s.1, (nxtD (s.1, (nxtD (s.1, (drawV8 s).2.2) (6 : Int)).2.2) (12 : Int)).2.2) (4 : Int)).2.2) (2147483646 : Int)).2.2) (2 : Int)).2.2) (drawV8 s).1.2.2.2).1) (1 + (nxtD (s.1, (nxtD (s.1, (nxtD (s.1, (nxtD (s.1, (nxtD (s.1, (nxtD (s.1, (nxtD (s.1, (drawV8 s).2.2) (6 : Int)).2.2) (12 : Int)).2.2) (4 : Int)).2.2) (2147483646 : Int)).2.2) (2 : Int)).2.2) (drawV8 s).1.2.2.2).2.2) (drawV8 s).1.2.2.2).1))).1, ()) (c_spec_l08DrawGame.out (s, ())) ∧ @Eq (HI c_spec_l08DrawGame.ins) ((s.1, (nxtD (s.1, (nxtD (s.1, (nxtD (s.1, (nxtD (s.1, (nxtD (s.1, (nxtD (s.1, (nxtD (s.1, (drawV8 s).2.2) (6 : Int)).2.2) (12 : Int)).2.2) (4 : Int)).2.2) (2147483646 : Int)).2.2) (2 : Int)).2.2) (drawV8 s).1.2.2.2).2.2) (drawV8 s).1.2.2.2).2.2), ()) (c_spec_l08DrawGame.upd (s, ()))))))))) (@Eq (HO c_spec_l08DrawGame.outs) ((drawV8 s).1, (selfD (drawV8 s).1 (1 + (nxtD (s.1, (nxtD (s.1, (nxtD (s.1, (nxtD (s.1, (drawV8 s).2.2) (6 : Int)).2.2) (12 : Int)).2.2) (4 : Int)).2.2) (2147483646 : Int)).1) (nxtD (s.1, (nxtD (s.1, (nxtD (s.1, (drawV8 s).2.2) (6 : Int)).2.2) (12 : Int)).2.2) (4 : Int)).1).1, ()) (c_spec_l08DrawGame.out (s, ())) ∧ @Eq (HI c_spec_l08DrawGame.ins) ((s.1, (nxtD (s.1, (nxtD (s.1, (nxtD (s.1, (nxtD (s.1, (nxtD (s.1, (drawV8 s).2.2) (6 : Int)).2.2) (12 : Int)).2.2) (4 : Int)).2.2) (2147483646 : Int)).2.2) (2 : Int)).2.2), ()) (c_spec_l08DrawGame.upd (s, ()))))) (@Eq (HO c_spec_l08DrawGame.outs) ((drawV8 s).1, (selfD (drawV8 s).1 (1 + (nxtD (s.1, (nxtD (s.1, (nxtD (s.1, (nxtD (s.1, (drawV8 s).2.2) (6 : Int)).2.2) (12 : Int)).2.2) (4 : Int)).2.2) (2147483646 : Int)).1) (nxtD (s.1, (nxtD (s.1, (nxtD (s.1, (drawV8 s).2.2) (6 : Int)).2.2) (12 : Int)).2.2) (4 : Int)).1).1, ()) (c_spec_l08DrawGame.out (s, ())) ∧ @Eq (HI c_spec_l08DrawGame.ins) ((s.1, (nxtD (s.1, (nxtD (s.1, (nxtD (s.1, (nxtD (s.1, (drawV8 s).2.2) (6 : Int)).2.2) (12 : Int)).2.2) (4 : Int)).2.2) (2147483646 : Int)).2.2), ()) (c_spec_l08DrawGame.upd (s, ())))))))) ((okS (s.1, (nxtD (s.1, (nxtD (s.1, (drawV8 s).2.2) (6 : Int)).2.2) (12 : Int)).2.2) ∧ (2147483646 : Int) ≤ 1000000000000) ∧ ((inK .i64 (1 + (nxtD (s.1, (nxtD (s.1, (nxtD (s.1, (drawV8 s).2.2) (6 : Int)).2.2) (12 : Int)).2.2) (2147483646 : Int)).1)) ∧ (True ∧ (bsp (decide ((selfD (drawV8 s).1 (1 + (nxtD (s.1, (nxtD (s.1, (nxtD (s.1, (drawV8 s).2.2) (6 : Int)).2.2) (12 : Int)).2.2) (2147483646 : Int)).1) (nxtD (s.1, (nxtD (s.1, (drawV8 s).2.2) (6 : Int)).2.2) (12 : Int)).1).1.2.2.2.1 = (1 : Int))) ((okS (s.1, (nxtD (s.1, (nxtD (s.1, (nxtD (s.1, (drawV8 s).2.2) (6 : Int)).2.2) (12 : Int)).2.2) (2147483646 : Int)).2.2) ∧ (2 : Int) ≤ 1000000000000) ∧ (bsp (decide ((nxtD (s.1, (nxtD (s.1, (nxtD (s.1, (nxtD (s.1, (drawV8 s).2.2) (6 : Int)).2.2) (12 : Int)).2.2) (2147483646 : Int)).2.2) (2 : Int)).1 = (0 : Int))) ((okS (s.1, (nxtD (s.1, (nxtD (s.1, (nxtD (s.1, (nxtD (s.1, (drawV8 s).2.2) (6 : Int)).2.2) (12 : Int)).2.2) (2147483646 : Int)).2.2) (2 : Int)).2.2) ∧ (drawV8 s).1.2.2.2 ≤ 1000000000000) ∧ ((inK .i64 (1 + (nxtD (s.1, (nxtD (s.1, (nxtD (s.1, (nxtD (s.1, (nxtD (s.1, (drawV8 s).2.2) (6 : Int)).2.2) (12 : Int)).2.2) (2147483646 : Int)).2.2) (2 : Int)).2.2) (drawV8 s).1.2.2.2).1)) ∧ ((okS (s.1, (nxtD (s.1, (nxtD (s.1, (nxtD (s.1, (nxtD (s.1, (nxtD (s.1, (drawV8 s).2.2) (6 : Int)).2.2) (12 : Int)).2.2) (2147483646 : Int)).2.2) (2 : Int)).2.2) (drawV8 s).1.2.2.2).2.2) ∧ (drawV8 s).1.2.2.2 ≤ 1000000000000) ∧ ((inK .i64 (1 + (nxtD (s.1, (nxtD (s.1, (nxtD (s.1, (nxtD (s.1, (nxtD (s.1, (nxtD (s.1, (drawV8 s).2.2) (6 : Int)).2.2) (12 : Int)).2.2) (2147483646 : Int)).2.2) (2 : Int)).2.2) (drawV8 s).1.2.2.2).2.2) (drawV8 s).1.2.2.2).1)) ∧ (True ∧ (True ∧ (@Eq (HO c_spec_l08DrawGame.outs) ((drawV8 s).1, (rollDiceD (drawV8 s).1 (selfD (drawV8 s).1 (1 + (nxtD (s.1, (nxtD (s.1, (nxtD (s.1, (drawV8 s).2.2) (6 : Int)).2.2) (12 : Int)).2.2) (2147483646 : Int)).1) (nxtD (s.1, (nxtD (s.1, (drawV8 s).2.2) (6 : Int)).2.2) (12 : Int)).1).1 (max (1 + (nxtD (s.1, (nxtD (s.1, (nxtD (s.1, (nxtD (s.1, (nxtD (s.1, (drawV8 s).2.2) (6 : Int)).2.2) (12 : Int)).2.2) (2147483646 : Int)).2.2) (2 : Int)).2.2) (drawV8 s).1.2.2.2).1) (1 + (nxtD (s.1, (nxtD (s.1, (nxtD (s.1, (nxtD (s.1, (nxtD (s.1, (nxtD (s.1, (drawV8 s).2.2) (6 : Int)).2.2) (12 : Int)).2.2) (2147483646 : Int)).2.2) (2 : Int)).2.2) (drawV8 s).1.2.2.2).2.2) (drawV8 s).1.2.2.2).1), min (1 + (nxtD (s.1, (nxtD (s.1, (nxtD (s.1, (nxtD (s.1, (nxtD (s.1, (drawV8 s).2.2) (6 : Int)).2.2) (12 : Int)).2.2) (2147483646 : Int)).2.2) (2 : Int)).2.2) (drawV8 s).1.2.2.2).1) (1 + (nxtD (s.1, (nxtD (s.1, (nxtD (s.1, (nxtD (s.1, (nxtD (s.1, (nxtD (s.1, (drawV8 s).2.2) (6 : Int)).2.2) (12 : Int)).2.2) (2147483646 : Int)).2.2) (2 : Int)).2.2) (drawV8 s).1.2.2.2).2.2) (drawV8 s).1.2.2.2).1))).1, ()) (c_spec_l08DrawGame.out (s, ())) ∧ @Eq (HI c_spec_l08DrawGame.ins) ((s.1, (nxtD (s.1, (nxtD (s.1, (nxtD (s.1, (nxtD (s.1, (nxtD (s.1, (nxtD (s.1, (drawV8 s).2.2) (6 : Int)).2.2) (12 : Int)).2.2) (2147483646 : Int)).2.2) (2 : Int)).2.2) (drawV8 s).1.2.2.2).2.2) (drawV8 s).1.2.2.2).2.2), ()) (c_spec_l08DrawGame.upd (s, ()))))))))) (@Eq (HO c_spec_l08DrawGame.outs) ((drawV8 s).1, (selfD (drawV8 s).1 (1 + (nxtD (s.1, (nxtD (s.1, (nxtD (s.1, (drawV8 s).2.2) (6 : Int)).2.2) (12 : Int)).2.2) (2147483646 : Int)).1) (nxtD (s.1, (nxtD (s.1, (drawV8 s).2.2) (6 : Int)).2.2) (12 : Int)).1).1, ()) (c_spec_l08DrawGame.out (s, ())) ∧ @Eq (HI c_spec_l08DrawGame.ins) ((s.1, (nxtD (s.1, (nxtD (s.1, (nxtD (s.1, (nxtD (s.1, (drawV8 s).2.2) (6 : Int)).2.2) (12 : Int)).2.2) (2147483646 : Int)).2.2) (2 : Int)).2.2), ()) (c_spec_l08DrawGame.upd (s, ()))))) (@Eq (HO c_spec_l08DrawGame.outs) ((drawV8 s).1, (selfD (drawV8 s).1 (1 + (nxtD (s.1, (nxtD (s.1, (nxtD (s.1, (drawV8 s).2.2) (6 : Int)).2.2) (12 : Int)).2.2) (2147483646 : Int)).1) (nxtD (s.1, (nxtD (s.1, (drawV8 s).2.2) (6 : Int)).2.2) (12 : Int)).1).1, ()) (c_spec_l08DrawGame.out (s, ())) ∧ @Eq (HI c_spec_l08DrawGame.ins) ((s.1, (nxtD (s.1, (nxtD (s.1, (nxtD (s.1, (drawV8 s).2.2) (6 : Int)).2.2) (12 : Int)).2.2) (2147483646 : Int)).2.2), ()) (c_spec_l08DrawGame.upd (s, ())))))))))))))) (by kernel_rfl) ?_
  rintro s hs hl
  have out : ∀ r, drawGa s = r → @Eq (HO c_spec_l08DrawGame.outs) (r.1, r.2.1, ()) (c_spec_l08DrawGame.out (s, ())) ∧ @Eq (HI c_spec_l08DrawGame.ins) (r.2.2, ()) (c_spec_l08DrawGame.upd (s, ())) := fun r h => by
    subst h
    refine ⟨rfl, ?_⟩
    simp only [c_spec_l08DrawGame]
    rw [upd_etaB (drawGa_ok hs).2.1]
  have hD := drawGa.eq_1 s
  obtain ⟨v1, v2, v3, -⟩ := drawV8_ok hs
  have hd := drawV8_dr hs
  have hv : varD (drawV8 s).1 = true := by have := v3; simp only [bigD, Bool.and_eq_true] at this; exact this.1
  have hsd := (varD_iff.1 hv).2.2.2
  have h0 := nxtD_ok v1 6
  have h12 := nxtD_ok h0 12
  have h4 := nxtD_ok h12 4
  simp only [src_etaB, nxtD_codeB, v2]
  have rest : ∀ u : DSrc, okS u → (inK .i64 (1 + (nxtD u 2147483646).1)) ∧ okS (nxtD u 2147483646).2 ∧ okS (nxtD (nxtD u 2147483646).2 2).2 ∧ (inK .i64 (1 + (nxtD (nxtD (nxtD u 2147483646).2 2).2 (drawV8 s).1.2.2.2).1)) ∧ okS (nxtD (nxtD (nxtD u 2147483646).2 2).2 (drawV8 s).1.2.2.2).2 ∧ (inK .i64 (1 + (nxtD (nxtD (nxtD (nxtD u 2147483646).2 2).2 (drawV8 s).1.2.2.2).2 (drawV8 s).1.2.2.2).1)) := fun u hu => by
    have b1 := seed_bd hu
    have k1 := nxtD_ok hu 2147483646
    have k2 := nxtD_ok k1 2
    have b2 := nxtD_bd k2 (drawV8 s).1.2.2.2
    have k3 := nxtD_ok k2 (drawV8 s).1.2.2.2
    have b3 := nxtD_bd k3 (drawV8 s).1.2.2.2
    exact ⟨by simp only [inK]; omega, k1, k2, by simp only [inK]; omega, k3, by simp only [inK]; omega⟩
  refine ⟨hs, ⟨v1, by decide⟩, bspD (fun c => ⟨v3, out _ (hD.trans (if_pos c))⟩) (fun c => ?_)⟩
  rw [if_neg c] at hD
  have fin : ∀ q : Int × DSrc, drawTn (drawV8 s).1 (nxtD (drawV8 s).2 6).2 = q → drawGa s = ((drawV8 s).1, drawS2 (drawV8 s).1 (drawS1 (drawV8 s).1 q)) := fun q h => by rw [hD, h]
  refine ⟨⟨h0, by decide⟩, bspD (fun t => ?_) (fun t => ?_)⟩
  · have e := fin _ (if_pos t)
    obtain ⟨r1, r2, r3, r4, r5, r6⟩ := rest _ h4
    refine ⟨⟨h12, by decide⟩, ⟨h4, by decide⟩, r1, trivial, bspD (fun p => ⟨⟨r2, by decide⟩, bspD (fun k => ?_) (fun k => ?_)⟩) (fun p => ?_)⟩
    · exact ⟨⟨r3, by omega⟩, r4, ⟨r5, by omega⟩, r6, trivial, trivial, out (_, _, _) (e.trans (congrArg (Prod.mk _) ((drawS2.eq_1 _ _).trans ((if_pos p).trans (if_pos k)))))⟩
    · exact out (_, _, _) (e.trans (congrArg (Prod.mk _) ((drawS2.eq_1 _ _).trans ((if_pos p).trans (if_neg k)))))
    · exact out (_, _, _) (e.trans (congrArg (Prod.mk _) ((drawS2.eq_1 _ _).trans (if_neg p))))
  · have e := fin _ (if_neg t)
    obtain ⟨r1, r2, r3, r4, r5, r6⟩ := rest _ h12
    refine ⟨⟨h12, by decide⟩, r1, trivial, bspD (fun p => ⟨⟨r2, by decide⟩, bspD (fun k => ?_) (fun k => ?_)⟩) (fun p => ?_)⟩
    · exact ⟨⟨r3, by omega⟩, r4, ⟨r5, by omega⟩, r6, trivial, trivial, out (_, _, _) (e.trans (congrArg (Prod.mk _) ((drawS2.eq_1 _ _).trans ((if_pos p).trans (if_pos k)))))⟩
    · exact out (_, _, _) (e.trans (congrArg (Prod.mk _) ((drawS2.eq_1 _ _).trans ((if_pos p).trans (if_neg k)))))
    · exact out (_, _, _) (e.trans (congrArg (Prod.mk _) ((drawS2.eq_1 _ _).trans (if_neg p))))
end Go.Proofs.Ytlnagcdnnaffgaa
