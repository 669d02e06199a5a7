/-
  Contracts: draws of games that are rarely not valid; the law on steps of games.
-/
import Derived.Test.YtlnagcdnnaffgaaVDrawG
namespace Go.Proofs.Ytlnagcdnnaffgaa
open Go.RowKit
set_option linter.unusedSimpArgs false
set_option linter.unusedVariables false
def drawnA (v : DVar) (g : DGame) (q : Int × DSrc) : DVar × DGame × DSrc :=
  if q.1 = 0 then (v, (g.1, g.2.1, g.2.2.1, (nxtD q.2 6).1 - 1, g.2.2.2.2), (nxtD q.2 6).2)
  else if q.1 = 1 then (v, (g.1, 1 - g.2.1, g.2.2), q.2)
  else if q.1 = 2 then (v, (g.1, g.2.1, (drawRl v q.2).1, g.2.2.2), (drawRl v q.2).2)
  else if q.1 = 3 then (v, (g.1, g.2.1, g.2.2.1, g.2.2.2.1, 1 - g.2.2.2.2.1, g.2.2.2.2.2), q.2)
  else if q.1 = 4 then (v, (g.1, g.2.1, g.2.2.1, g.2.2.2.1, g.2.2.2.2.1, g.2.2.2.2.2.1, [-1, 2000, 2001].getD (nxtD q.2 3).1.toNat 0), (nxtD q.2 3).2)
  else if q.1 = 5 then (v, (g.1, g.2.1, g.2.2.1, g.2.2.2.1, g.2.2.2.2.1, (nxtD q.2 4).1, g.2.2.2.2.2.2), (nxtD q.2 4).2)
  else if q.1 = 6 then (v, ((g.1.1.set 0 (g.1.1.getD 0 0 + 1), g.1.2), g.2), q.2)
  else if q.1 = 7 then ((drawAny q.2).1, g, (drawAny q.2).2)
  else if q.1 = 8 then (if g.2.2.2.1 = 2 then (v, (resignD v g (1 + (nxtD q.2 3).1)).1, (nxtD q.2 3).2) else (v, g, q.2))
  else (v, g, q.2)
def drawGA (s : DSrc) : DVar × DGame × DSrc := drawnA (drawGa s).1 (drawGa s).2.1 (nxtD (drawGa s).2.2 30)
theorem drawAny_bd {s : DSrc} (h : okS s) : ((drawAny s).1.1 ≤ 100 ∧ -100 ≤ (drawAny s).1.1) ∧ (drawAny s).1.2.2.2 ≤ 100 ∧ -100 ≤ (drawAny s).1.2.2.2 := by
  obtain ⟨v1, v2, v3⟩ := drawVal_ok h
  obtain ⟨g1, g2, g3, g4⟩ := varD_iff.1 v3
  have h0 := nxtD_ok v1 40
  have b4 := nxtD_bd h0 4
  have b2 := nxtD_bd h0 2
  unfold drawAny
  simp only []
  repeat' split
  · have : (nxtD (nxtD (drawVal s).2 40).2 4).1 = 0 ∨ (nxtD (nxtD (drawVal s).2 40).2 4).1 = 1 ∨ (nxtD (nxtD (drawVal s).2 40).2 4).1 = 2 ∨ (nxtD (nxtD (drawVal s).2 40).2 4).1 = 3 := by omega
    refine ⟨?_, by dsimp only; omega⟩
    dsimp only
    rcases this with e | e | e | e <;> (rw [e]; decide)
  all_goals (dsimp only; omega)
theorem drawnA_ok {v : DVar} {g : DGame} {q : Int × DSrc} (h : okS q.2) : okS (drawnA v g q).2.2 ∧ (drawnA v g q).2.2.1 = q.2.1 := by
  unfold drawnA
  repeat' split
  all_goals first
    | exact ⟨h, rfl⟩
    | exact ⟨nxtD_ok h _, nxtD_codeB _ _⟩
    | exact drawRl_ok h
    | exact drawAny_ok h
theorem drawnA_v {v : DVar} {g : DGame} {q : Int × DSrc} (h : okS q.2) (hv : varD v = true) : ((drawnA v g q).1.1 ≤ 100 ∧ -100 ≤ (drawnA v g q).1.1) ∧ (drawnA v g q).1.2.2.2 ≤ 100 ∧ -100 ≤ (drawnA v g q).1.2.2.2 := by
  obtain ⟨g1, g2, g3, g4⟩ := varD_iff.1 hv
  unfold drawnA
  repeat' split
  all_goals first
    | exact drawAny_bd h
    | (dsimp only; omega)
theorem drawGa_v {s : DSrc} (h : okS s) : varD (drawGa s).1 = true := by
  have := (drawGa_ok h).2.2.1.1
  simp only [bigD, Bool.and_eq_true] at this; exact this.1
theorem drawGA_ok {s : DSrc} (h : okS s) : okS (drawGA s).2.2 ∧ (drawGA s).2.2.1 = s.1 ∧ ((drawGA s).1.1 ≤ 100 ∧ -100 ≤ (drawGA s).1.1) ∧ (drawGA s).1.2.2.2 ≤ 100 ∧ -100 ≤ (drawGA s).1.2.2.2 := by
  obtain ⟨g1, g2, g3, g4⟩ := drawGa_ok h
  have h0 := nxtD_ok g1 30
  have hv := drawGa_v h
  have := drawnA_ok (v := (drawGa s).1) (g := (drawGa s).2.1) h0
  exact ⟨this.1, by rw [show drawGA s = drawnA _ _ _ from rfl, this.2, nxtD_codeB, g2], drawnA_v h0 hv⟩
theorem game_win {v : DVar} {g : DGame} (h : gameD v g = true) : 0 ≤ g.2.2.2.2.1 ∧ g.2.2.2.2.1 ≤ 1 := by
  obtain ⟨h1, h2, h3, h4, h5, h6⟩ := gameD_iff.1 h
  split at h6
  · simp only [Bool.and_eq_true, decide_eq_true_eq] at h6; omega
  split at h6
  · simp only [Bool.and_eq_true, decide_eq_true_eq] at h6; omega
  split at h6
  · split at h6
    · simp only [Bool.and_eq_true, decide_eq_true_eq] at h6; omega
    · simp only [Bool.and_eq_true, decide_eq_true_eq] at h6; omega
  · cases h6
def c_spec_l08DrawAny : Con where
  ins := [(false, .bx (.pr (.sl (.i .u8)) tRoll))]
  outs := [(true, .v tVar), (true, .pr (.pr (.own 2 tI) (.own 2 tI)) (.v (.pr tI (.pr tRoll tVar))))]
  sh := false
  pre := fun x => okS x.1
  out := fun x => ((drawGA x.1).1, (drawGA x.1).2.1, ())
  upd := fun x => ((x.1.1, (drawGA x.1).2.2.2), ())
  eat := false
theorem k_spec_l08DrawAny [B : Base] : ConOk Try.prog 25 c_spec_l08DrawAny := by
  refine fn_okW (C := cx Try.prog 82 c_spec_l08DrawAny) (cs := [(53, c_spec_l08DrawGame), (45, c_spec_l01Next), (26, c_spec_l07DrawRoll), (54, c_spec_l01DrawAny), (11, c_spec_ResignGame)]) (res := Try.f25.results.toList) (fun _ => ⟨[], [(22, ⟨[[], [], [0], [0, 1, 2]], [[1], [0, 2], [1], []], [[], [2], [], []]⟩), (16, ⟨[[], [0], [0, 1], [], [3], [3, 4], [3, 4, 5], [3, 4, 5, 6], [3, 4, 5, 6, 7], [0, 1, 2, 3, 4, 5, 6, 7, 8], [0, 1, 2, 3, 4, 5, 6, 7, 8, 9]], [[3, 4, 5, 6, 7, 8], [3, 4, 5, 6, 7, 8], [3, 4, 5, 6, 7, 8], [0, 1, 2], [0, 1, 2], [0, 1, 2], [0, 1, 2], [0, 1, 2], [0, 1, 2], [], []], []⟩), (21, ⟨[[], [], [], [2], [2, 3], [0, 1, 2, 3, 4], [0, 1, 2, 3, 4, 5], [0, 1, 2, 3, 4, 5, 6], [0, 1, 2, 3, 4, 5, 6], [0, 1, 2, 3, 4, 5, 6, 7]], [[1, 2, 3, 4], [0, 2, 3, 4], [0, 1], [0, 1], [0, 1], [], [], [8], [7, 9], [8]], [[0], [0], [], [], [], [], [], [], [130], []]⟩)], []⟩) Try.func25 (by kernel_rfl) rfl rfl rfl tysOk.look eqTsOk.look (AllCs.ok (l := [(53, c_spec_l08DrawGame), (45, c_spec_l01Next), (26, c_spec_l07DrawRoll), (54, c_spec_l01DrawAny), (11, c_spec_ResignGame)]) ⟨k_spec_l08DrawGame, k_spec_l01Next, k_spec_l07DrawRoll, k_spec_l01DrawAny, k_spec_ResignGame, trivial⟩) mixed rfl rfl rfl rfl ?_
  refine of_nf (P := ∀ s : (List Int) × Int × Int, (okS s) → ((lensI c_spec_l08DrawAny.ins (s, ())) → ((okS s) ∧ ((okS (s.1, (drawGa s).2.2.2) ∧ (30 : Int) ≤ 1000000000000) ∧ (bsp (decide ((nxtD (s.1, (drawGa s).2.2.2) (30 : Int)).1 = (0 : Int))) ((okS (s.1, (nxtD (s.1, (drawGa s).2.2.2) (30 : Int)).2.2) ∧ (6 : Int) ≤ 1000000000000) ∧ ((inK .i64 ((nxtD (s.1, (nxtD (s.1, (drawGa s).2.2.2) (30 : Int)).2.2) (6 : Int)).1 - 1)) ∧ (@Eq (HO c_spec_l08DrawAny.outs) ((drawGa s).1, ((drawGa s).2.1.1, (drawGa s).2.1.2.1, (drawGa s).2.1.2.2.1, ((nxtD (s.1, (nxtD (s.1, (drawGa s).2.2.2) (30 : Int)).2.2) (6 : Int)).1 - 1), (drawGa s).2.1.2.2.2.2), ()) (c_spec_l08DrawAny.out (s, ())) ∧ @Eq (HI c_spec_l08DrawAny.ins) ((s.1, (nxtD (s.1, (nxtD (s.1, (drawGa s).2.2.2) (30 : Int)).2.2) (6 : Int)).2.2), ()) (c_spec_l08DrawAny.upd (s, ()))))) (bsp (decide ((nxtD (s.1, (drawGa s).2.2.2) (30 : Int)).1 = (1 : Int))) ((inK .i64 (1 - (drawGa s).2.1.2.1)) ∧ (@Eq (HO c_spec_l08DrawAny.outs) ((drawGa s).1, ((drawGa s).2.1.1, 1 - (drawGa s).2.1.2.1, (drawGa s).2.1.2.2), ()) (c_spec_l08DrawAny.out (s, ())) ∧ @Eq (HI c_spec_l08DrawAny.ins) ((s.1, (nxtD (s.1, (drawGa s).2.2.2) (30 : Int)).2.2), ()) (c_spec_l08DrawAny.upd (s, ())))) (bsp (decide ((nxtD (s.1, (drawGa s).2.2.2) (30 : Int)).1 = (2 : Int))) ((okS (s.1, (nxtD (s.1, (drawGa s).2.2.2) (30 : Int)).2.2) ∧ (drawGa s).1.2.2.2 ≤ 100) ∧ (@Eq (HO c_spec_l08DrawAny.outs) ((drawGa s).1, ((drawGa s).2.1.1, (drawGa s).2.1.2.1, (drawRl (drawGa s).1 (s.1, (nxtD (s.1, (drawGa s).2.2.2) (30 : Int)).2.2)).1, (drawGa s).2.1.2.2.2), ()) (c_spec_l08DrawAny.out (s, ())) ∧ @Eq (HI c_spec_l08DrawAny.ins) ((s.1, (drawRl (drawGa s).1 (s.1, (nxtD (s.1, (drawGa s).2.2.2) (30 : Int)).2.2)).2.2), ()) (c_spec_l08DrawAny.upd (s, ())))) (bsp (decide ((nxtD (s.1, (drawGa s).2.2.2) (30 : Int)).1 = (3 : Int))) ((inK .i64 (1 - (drawGa s).2.1.2.2.2.2.1)) ∧ (@Eq (HO c_spec_l08DrawAny.outs) ((drawGa s).1, ((drawGa s).2.1.1, (drawGa s).2.1.2.1, (drawGa s).2.1.2.2.1, (drawGa s).2.1.2.2.2.1, 1 - (drawGa s).2.1.2.2.2.2.1, (drawGa s).2.1.2.2.2.2.2), ()) (c_spec_l08DrawAny.out (s, ())) ∧ @Eq (HI c_spec_l08DrawAny.ins) ((s.1, (nxtD (s.1, (drawGa s).2.2.2) (30 : Int)).2.2), ()) (c_spec_l08DrawAny.upd (s, ())))) (bsp (decide ((nxtD (s.1, (drawGa s).2.2.2) (30 : Int)).1 = (4 : Int))) ((okS (s.1, (nxtD (s.1, (drawGa s).2.2.2) (30 : Int)).2.2) ∧ (3 : Int) ≤ 1000000000000) ∧ ((0 ≤ (nxtD (s.1, (nxtD (s.1, (drawGa s).2.2.2) (30 : Int)).2.2) (3 : Int)).1 ∧ (nxtD (s.1, (nxtD (s.1, (drawGa s).2.2.2) (30 : Int)).2.2) (3 : Int)).1 < (([(-1), 2000, 2001] : List Int).length : Int)) ∧ (((nxtD (s.1, (nxtD (s.1, (drawGa s).2.2.2) (30 : Int)).2.2) (3 : Int)).1.toNat < ([(-1), 2000, 2001] : List Int).length) ∧ (@Eq (HO c_spec_l08DrawAny.outs) ((drawGa s).1, ((drawGa s).2.1.1, (drawGa s).2.1.2.1, (drawGa s).2.1.2.2.1, (drawGa s).2.1.2.2.2.1, (drawGa s).2.1.2.2.2.2.1, (drawGa s).2.1.2.2.2.2.2.1, (([(-1), 2000, 2001] : List Int).getD (nxtD (s.1, (nxtD (s.1, (drawGa s).2.2.2) (30 : Int)).2.2) (3 : Int)).1.toNat 0)), ()) (c_spec_l08DrawAny.out (s, ())) ∧ @Eq (HI c_spec_l08DrawAny.ins) ((s.1, (nxtD (s.1, (nxtD (s.1, (drawGa s).2.2.2) (30 : Int)).2.2) (3 : Int)).2.2), ()) (c_spec_l08DrawAny.upd (s, ())))))) (bsp (decide ((nxtD (s.1, (drawGa s).2.2.2) (30 : Int)).1 = (5 : Int))) ((okS (s.1, (nxtD (s.1, (drawGa s).2.2.2) (30 : Int)).2.2) ∧ (4 : Int) ≤ 1000000000000) ∧ (@Eq (HO c_spec_l08DrawAny.outs) ((drawGa s).1, ((drawGa s).2.1.1, (drawGa s).2.1.2.1, (drawGa s).2.1.2.2.1, (drawGa s).2.1.2.2.2.1, (drawGa s).2.1.2.2.2.2.1, (nxtD (s.1, (nxtD (s.1, (drawGa s).2.2.2) (30 : Int)).2.2) (4 : Int)).1, (drawGa s).2.1.2.2.2.2.2.2), ()) (c_spec_l08DrawAny.out (s, ())) ∧ @Eq (HI c_spec_l08DrawAny.ins) ((s.1, (nxtD (s.1, (nxtD (s.1, (drawGa s).2.2.2) (30 : Int)).2.2) (4 : Int)).2.2), ()) (c_spec_l08DrawAny.upd (s, ())))) (bsp (decide ((nxtD (s.1, (drawGa s).2.2.2) (30 : Int)).1 = (6 : Int))) ((0 ≤ (0 : Int) ∧ 0 < ((drawGa s).2.1.1.1.length : Int)) ∧ ((0 < (drawGa s).2.1.1.1.length) ∧ ((inK .i64 (((drawGa s).2.1.1.1.getD 0 0) + 1)) ∧ ((0 ≤ (0 : Int) ∧ 0 < ((drawGa s).2.1.1.1.length : Int)) ∧ ((0 < (drawGa s).2.1.1.1.length) ∧ (@Eq (HO c_spec_l08DrawAny.outs) ((drawGa s).1, (((drawGa s).2.1.1.1.set 0 (((drawGa s).2.1.1.1.getD 0 0) + 1), (drawGa s).2.1.1.2), (drawGa s).2.1.2), ()) (c_spec_l08DrawAny.out (s, ())) ∧ @Eq (HI c_spec_l08DrawAny.ins) ((s.1, (nxtD (s.1, (drawGa s).2.2.2) (30 : Int)).2.2), ()) (c_spec_l08DrawAny.upd (s, ())))))))) (bsp (decide ((nxtD (s.1, (drawGa s).2.2.2) (30 : Int)).1 = (7 : Int))) ((okS (s.1, (nxtD (s.1, (drawGa s).2.2.2) (30 : Int)).2.2)) ∧ (@Eq (HO c_spec_l08DrawAny.outs) ((drawAny (s.1, (nxtD (s.1, (drawGa s).2.2.2) (30 : Int)).2.2)).1, (drawGa s).2.1, ()) (c_spec_l08DrawAny.out (s, ())) ∧ @Eq (HI c_spec_l08DrawAny.ins) ((s.1, (drawAny (s.1, (nxtD (s.1, (drawGa s).2.2.2) (30 : Int)).2.2)).2.2), ()) (c_spec_l08DrawAny.upd (s, ())))) (bsp (decide ((nxtD (s.1, (drawGa s).2.2.2) (30 : Int)).1 = (8 : Int))) (bsp (decide ((drawGa s).2.1.2.2.2.1 = (2 : Int))) ((okS (s.1, (nxtD (s.1, (drawGa s).2.2.2) (30 : Int)).2.2) ∧ (3 : Int) ≤ 1000000000000) ∧ ((inK .i64 (1 + (nxtD (s.1, (nxtD (s.1, (drawGa s).2.2.2) (30 : Int)).2.2) (3 : Int)).1)) ∧ (True ∧ (@Eq (HO c_spec_l08DrawAny.outs) ((drawGa s).1, (resignD (drawGa s).1 (drawGa s).2.1 (1 + (nxtD (s.1, (nxtD (s.1, (drawGa s).2.2.2) (30 : Int)).2.2) (3 : Int)).1)).1, ()) (c_spec_l08DrawAny.out (s, ())) ∧ @Eq (HI c_spec_l08DrawAny.ins) ((s.1, (nxtD (s.1, (nxtD (s.1, (drawGa s).2.2.2) (30 : Int)).2.2) (3 : Int)).2.2), ()) (c_spec_l08DrawAny.upd (s, ())))))) (@Eq (HO c_spec_l08DrawAny.outs) ((drawGa s).1, (drawGa s).2.1, ()) (c_spec_l08DrawAny.out (s, ())) ∧ @Eq (HI c_spec_l08DrawAny.ins) ((s.1, (nxtD (s.1, (drawGa s).2.2.2) (30 : Int)).2.2), ()) (c_spec_l08DrawAny.upd (s, ())))) (@Eq (HO c_spec_l08DrawAny.outs) ((drawGa s).1, (drawGa s).2.1, ()) (c_spec_l08DrawAny.out (s, ())) ∧ @Eq (HI c_spec_l08DrawAny.ins) ((s.1, (nxtD (s.1, (drawGa s).2.2.2) (30 : Int)).2.2), ()) (c_spec_l08DrawAny.upd (s, ())))))))))))))))) (by kernel_rfl) ?_
  rintro s hs hl
  have out : ∀ r, drawGA s = r → @Eq (HO c_spec_l08DrawAny.outs) (r.1, r.2.1, ()) (c_spec_l08DrawAny.out (s, ())) ∧ @Eq (HI c_spec_l08DrawAny.ins) (r.2.2, ()) (c_spec_l08DrawAny.upd (s, ())) := fun r h => by
    subst h
    refine ⟨rfl, ?_⟩
    simp only [c_spec_l08DrawAny]
    rw [upd_etaB (drawGA_ok hs).2.1]
  obtain ⟨g1, g2, g3, g4⟩ := drawGa_ok hs
  have hv := drawGa_v hs
  have hsd := (varD_iff.1 hv).2.2.2
  have hb := (boardD_iff.1 (gameD_iff.1 g4).2.1).1
  have hbf := hb.facts
  have hb0 := hbf.1.at 0
  have hpl := (gameD_iff.1 g4).2.2.1
  have hwi := game_win g4
  have h0 := nxtD_ok g1 30
  have b6 := nxtD_bd h0 6
  have b3 := nxtD_bd h0 3
  have hD : drawGA s = _ := drawnA.eq_1 (drawGa s).1 (drawGa s).2.1 (nxtD (drawGa s).2.2 30)
  have e1 : (drawRl (drawGa s).1 (nxtD (drawGa s).2.2 30).2).2.1 = s.1 := by rw [(drawRl_ok h0).2, nxtD_codeB, g2]
  have e2 : (drawAny (nxtD (drawGa s).2.2 30).2).2.1 = s.1 := by rw [(drawAny_ok h0).2, nxtD_codeB, g2]
  simp only [src_etaB, nxtD_codeB, g2, e1, e2]
  refine ⟨hs, ⟨g1, by decide⟩, bspD (fun c => ⟨⟨h0, by decide⟩, by simp only [inK]; omega, out (_, _, _) (hD.trans (if_pos c))⟩) (fun c => ?_)⟩
  rw [if_neg c] at hD; clear c
  refine bspD (fun c => ⟨by simp only [inK]; omega, out (_, _, _) (hD.trans (if_pos c))⟩) (fun c => ?_)
  rw [if_neg c] at hD; clear c
  refine bspD (fun c => ⟨⟨h0, by omega⟩, out (_, _, _) (hD.trans (if_pos c))⟩) (fun c => ?_)
  rw [if_neg c] at hD; clear c
  refine bspD (fun c => ⟨by simp only [inK]; omega, out (_, _, _) (hD.trans (if_pos c))⟩) (fun c => ?_)
  rw [if_neg c] at hD; clear c
  refine bspD (fun c => ⟨⟨h0, by decide⟩, ⟨by omega, by simp only [List.length_cons, List.length_nil]; omega⟩, by simp only [List.length_cons, List.length_nil]; omega, out (_, _, _) (hD.trans (if_pos c))⟩) (fun c => ?_)
  rw [if_neg c] at hD; clear c
  refine bspD (fun c => ⟨⟨h0, by decide⟩, out (_, _, _) (hD.trans (if_pos c))⟩) (fun c => ?_)
  rw [if_neg c] at hD; clear c
  refine bspD (fun c => ⟨⟨by omega, by omega⟩, by omega, by simp only [inK]; omega, ⟨by omega, by omega⟩, by omega, out (_, _, _) (hD.trans (if_pos c))⟩) (fun c => ?_)
  rw [if_neg c] at hD; clear c
  refine bspD (fun c => ⟨h0, out (_, _, _) (hD.trans (if_pos c))⟩) (fun c => ?_)
  rw [if_neg c] at hD; clear c
  refine bspD (fun c => ?_) (fun c => out (_, _, _) (hD.trans (if_neg c)))
  rw [if_pos c] at hD; clear c
  exact bspD (fun c => ⟨⟨h0, by decide⟩, by simp only [inK]; omega, trivial, out (_, _, _) (hD.trans (if_pos c))⟩) (fun c => out (_, _, _) (hD.trans (if_neg c)))
def c_spec_DrawRollDice : Con where
  ins := [(false, .v (.sl (.i .u8)))]
  outs := [(true, .v tVar), (true, .v tGame), (true, .v tRoll)]
  sh := false
  pre := fun x => okC x.1
  out := fun x => ((drawGA (fromD x.1)).1, (drawGA (fromD x.1)).2.1, (drawRl (drawGA (fromD x.1)).1 (drawGA (fromD x.1)).2.2).1, ())
  upd := fun x => x
  eat := false
theorem k_spec_DrawRollDice [B : Base] : ConOk Try.prog 6 c_spec_DrawRollDice := by
  refine fn_okW (C := cx Try.prog 20 c_spec_DrawRollDice) (cs := [(24, c_spec_l01From), (25, c_spec_l08DrawAny), (26, c_spec_l07DrawRoll)]) (res := Try.f6.results.toList) (fun _ => ⟨[], [(3, ⟨[[], [], [], [], [2, 3], [0, 2, 3, 4], [0, 1, 2, 3, 4, 5], [0, 1, 2, 3, 4, 5, 6]], [[1, 2, 3, 4], [0, 2, 3, 4, 5], [0, 1, 3], [0, 1, 2], [0, 1], [1], [], []], [[65], [65, 1], [], [], [], [], [], []]⟩)], []⟩) Try.func6 (by kernel_rfl) rfl rfl rfl tysOk.look eqTsOk.look (AllCs.ok (l := [(24, c_spec_l01From), (25, c_spec_l08DrawAny), (26, c_spec_l07DrawRoll)]) ⟨k_spec_l01From, k_spec_l08DrawAny, k_spec_l07DrawRoll, trivial⟩) mixed rfl rfl rfl rfl ?_
  refine of_nf (P := ∀ c : List Int, (okC c) → ((lensI c_spec_DrawRollDice.ins (c, ())) → ((okC c) ∧ ((okS (fromD c)) ∧ ((okS ((fromD c).1, (drawGA (fromD c)).2.2.2) ∧ (drawGA (fromD c)).1.2.2.2 ≤ 100) ∧ (@Eq (HO c_spec_DrawRollDice.outs) ((drawGA (fromD c)).1, (drawGA (fromD c)).2.1, (drawRl (drawGA (fromD c)).1 ((fromD c).1, (drawGA (fromD c)).2.2.2)).1, ()) (c_spec_DrawRollDice.out (c, ())))))))) (by kernel_rfl) ?_
  rintro c hc hl
  have hF := fromD_ok hc
  obtain ⟨g1, g2, g3, g4, g5⟩ := drawGA_ok hF
  have fc : (fromD c).1 = c := rfl
  simp only [src_etaB, g2]
  exact ⟨hc, hF, ⟨g1, by omega⟩, rfl⟩
end Go.Proofs.Ytlnagcdnnaffgaa
