/-
  Contracts: draws of steps and turns.
-/
import Derived.Test.YtlnagcdnnaffgaaVDrawH
namespace Go.Proofs.Ytlnagcdnnaffgaa
open Go.RowKit
set_option linter.unusedSimpArgs false
set_option linter.unusedVariables false
def drawDi (v : DVar) (s : DSrc) : Int × DSrc :=
  if (nxtD s 20).1 = 0 then ((v.2.2.2 + 1) * (nxtD (nxtD s 20).2 2).1, (nxtD (nxtD s 20).2 2).2) else (1 + (nxtD (nxtD s 20).2 v.2.2.2).1, (nxtD (nxtD s 20).2 v.2.2.2).2)
/-- numbers of a variant as draws bring them -/
def vBd (v : DVar) : Prop := (v.1 ≤ 100 ∧ -100 ≤ v.1) ∧ v.2.2.2 ≤ 100 ∧ -100 ≤ v.2.2.2
theorem drawDi_ok {v : DVar} {s : DSrc} (h : okS s) (hv : vBd v) : okS (drawDi v s).2 ∧ (drawDi v s).2.1 = s.1 ∧ -200 ≤ (drawDi v s).1 ∧ (drawDi v s).1 ≤ 200 := by
  obtain ⟨hv1, hv2⟩ := hv
  have h0 := nxtD_ok h 20
  have b2 := nxtD_bd h0 2
  have b3 := nxtD_bd h0 v.2.2.2
  unfold drawDi
  split
  · refine ⟨nxtD_ok h0 _, by simp only [nxtD_codeB], ?_⟩
    have : (nxtD (nxtD s 20).2 2).1 = 0 ∨ (nxtD (nxtD s 20).2 2).1 = 1 := by omega
    dsimp only
    rcases this with e | e <;> (rw [e]; omega)
  · exact ⟨nxtD_ok h0 _, by simp only [nxtD_codeB], by dsimp only; omega, by dsimp only; omega⟩
def legalC (v : DVar) (b : DBoard) (d : Int) : List DStep × Int :=
  if boardD v b = false then ([], 1) else if inB d 1 v.2.2.2 = false then ([], 2) else (legalD v b d, 0)
theorem legalC_len (v : DVar) (b : DBoard) (d : Int) : (legalC v b d).1.length ≤ 25 := by
  unfold legalC
  split
  · simp
  next h =>
  split
  · simp
  · exact legalD_len (okB_of (by simpa using h))
theorem legalC_in {v : DVar} {b : DBoard} {d : Int} {s : DStep} (h : s ∈ (legalC v b d).1) : -1 ≤ s.2.1 ∧ s.2.1 ≤ 24 := by
  unfold legalC at h
  split at h
  · simp at h
  next hb =>
  split at h
  · simp at h
  next hd =>
  have hb' := okB_of (v := v) (b := b) (by simpa using hb)
  have hd' : inB d 1 v.2.2.2 = true := by simpa using hd
  simp only [inB, Bool.and_eq_true, decide_eq_true_eq] at hd'
  have := (legalD_fits hb' hd'.1 h).1.2.1
  have := hb'.facts
  omega
/-- the step that is drawn freely: its die, the source behind it -/
def stD0 (v : DVar) (q : Int × DSrc) : DStep × DSrc :=
  (((nxtD q.2 (v.1 + 2)).1 - Int.tdiv (nxtD (nxtD q.2 (v.1 + 2)).2 16).1 15, max (-1) ((nxtD q.2 (v.1 + 2)).1 - Int.tdiv (nxtD (nxtD q.2 (v.1 + 2)).2 16).1 15 - q.1), q.1, decide ((nxtD (nxtD (nxtD q.2 (v.1 + 2)).2 16).2 4).1 = 0)), (nxtD (nxtD (nxtD q.2 (v.1 + 2)).2 16).2 4).2)
def stD1 (l : List DStep) (x : DStep × DSrc) : DStep × DSrc :=
  if 0 < (l.length : Int) then (if 0 < (nxtD x.2 4).1 then (l.getD (nxtD (nxtD x.2 4).2 l.length).1.toNat zeroS, (nxtD (nxtD x.2 4).2 l.length).2) else (x.1, (nxtD x.2 4).2)) else x
def stD2 (x : DStep × DSrc) : DStep × DSrc :=
  ((if (nxtD x.2 16).1 = 0 then (x.1.1, x.1.2.1, x.1.2.2.1, !x.1.2.2.2) else if (nxtD x.2 16).1 = 1 then (x.1.1, x.1.2.1 - 1, x.1.2.2) else x.1), (nxtD x.2 16).2)
def drawSt (v : DVar) (b : DBoard) (s : DSrc) : DStep × DSrc := stD2 (stD1 (legalC v b (drawDi v s).1).1 (stD0 v (drawDi v s)))
theorem stD0_ok {v : DVar} {q : Int × DSrc} (h : okS q.2) : okS (stD0 v q).2 ∧ (stD0 v q).2.1 = q.2.1 := ⟨nxtD_ok (nxtD_ok (nxtD_ok h _) _) _, by unfold stD0; simp only [nxtD_codeB]⟩
theorem stD1_ok {l : List DStep} {x : DStep × DSrc} (h : okS x.2) : okS (stD1 l x).2 ∧ (stD1 l x).2.1 = x.2.1 := by
  unfold stD1
  split
  · split
    · exact ⟨nxtD_ok (nxtD_ok h _) _, by simp only [nxtD_codeB]⟩
    · exact ⟨nxtD_ok h _, by simp only [nxtD_codeB]⟩
  · exact ⟨h, rfl⟩
theorem drawSt_ok {v : DVar} {b : DBoard} {s : DSrc} (h : okS s) (hv : vBd v) : okS (drawSt v b s).2 ∧ (drawSt v b s).2.1 = s.1 := by
  obtain ⟨d1, d2, -⟩ := drawDi_ok h hv
  obtain ⟨a1, a2⟩ := stD0_ok (v := v) d1
  obtain ⟨b1, b2⟩ := stD1_ok (l := (legalC v b (drawDi v s).1).1) a1
  exact ⟨nxtD_ok b1 _, by unfold drawSt stD2; simp only [nxtD_codeB, b2, a2, d2]⟩
def c_spec_l04DrawDie : Con where
  ins := [(false, .bx (.pr (.sl (.i .u8)) tRoll)), (true, .v tVar)]
  outs := [(false, .v tI)]
  sh := false
  pre := fun x => okS x.1 ∧ vBd x.2.1
  out := fun x => ((drawDi x.2.1 x.1).1, ())
  upd := fun x => ((x.1.1, (drawDi x.2.1 x.1).2.2), x.2.1, ())
  eat := false
theorem k_spec_l04DrawDie [B : Base] : ConOk Try.prog 73 c_spec_l04DrawDie := by
  refine fn_okW (C := cx Try.prog 19 c_spec_l04DrawDie) (cs := [(45, c_spec_l01Next)]) (res := Try.f73.results.toList) (fun _ => ⟨[], [(2, ⟨[[], [0], [0, 1], [], [3], [0, 1, 2, 3, 4], [0, 1, 2, 3, 4, 5]], [[3, 4], [3, 4], [3, 4], [0, 1, 2], [0, 1, 2], [], []], [[0], [0], [0], [], [], [], []]⟩)], []⟩) Try.func73 (by kernel_rfl) rfl rfl rfl tysOk.look eqTsOk.look (AllCs.ok (l := [(45, c_spec_l01Next)]) ⟨k_spec_l01Next, trivial⟩) mixed rfl rfl rfl rfl ?_
  refine of_nf (P := ∀ s : (List Int) × Int × Int, ∀ v : Int × Int × Int × Int, (okS s ∧ vBd v) → ((lensI c_spec_l04DrawDie.ins (s, v, ())) → ((okS s ∧ (20 : Int) ≤ 1000000000000) ∧ (bsp (decide ((nxtD s (20 : Int)).1 = (0 : Int))) ((inK .i64 (v.2.2.2 + 1)) ∧ ((okS (s.1, (nxtD s (20 : Int)).2.2) ∧ (2 : Int) ≤ 1000000000000) ∧ ((inK .i64 ((v.2.2.2 + 1) * (nxtD (s.1, (nxtD s (20 : Int)).2.2) (2 : Int)).1)) ∧ (@Eq (HO c_spec_l04DrawDie.outs) (((v.2.2.2 + 1) * (nxtD (s.1, (nxtD s (20 : Int)).2.2) (2 : Int)).1), ()) (c_spec_l04DrawDie.out (s, v, ())) ∧ @Eq (HI c_spec_l04DrawDie.ins) ((s.1, (nxtD (s.1, (nxtD s (20 : Int)).2.2) (2 : Int)).2.2), v, ()) (c_spec_l04DrawDie.upd (s, v, ())))))) ((okS (s.1, (nxtD s (20 : Int)).2.2) ∧ v.2.2.2 ≤ 1000000000000) ∧ ((inK .i64 (1 + (nxtD (s.1, (nxtD s (20 : Int)).2.2) v.2.2.2).1)) ∧ (@Eq (HO c_spec_l04DrawDie.outs) ((1 + (nxtD (s.1, (nxtD s (20 : Int)).2.2) v.2.2.2).1), ()) (c_spec_l04DrawDie.out (s, v, ())) ∧ @Eq (HI c_spec_l04DrawDie.ins) ((s.1, (nxtD (s.1, (nxtD s (20 : Int)).2.2) v.2.2.2).2.2), v, ()) (c_spec_l04DrawDie.upd (s, v, ()))))))))) (by kernel_rfl) ?_
  rintro s v ⟨hs, hv⟩ hl
  have out : ∀ r, drawDi v s = r → @Eq (HO c_spec_l04DrawDie.outs) (r.1, ()) (c_spec_l04DrawDie.out (s, v, ())) ∧ @Eq (HI c_spec_l04DrawDie.ins) (r.2, v, ()) (c_spec_l04DrawDie.upd (s, v, ())) := fun r h => by
    subst h
    refine ⟨rfl, ?_⟩
    simp only [c_spec_l04DrawDie]
    rw [upd_etaB (drawDi_ok hs hv).2.1]
  have hD := drawDi.eq_1 v s
  have hb := (drawDi_ok hs hv).2.2
  have hv2 := hv.2
  have h0 := nxtD_ok hs 20
  have b3 := nxtD_bd h0 v.2.2.2
  simp only [src_etaB, nxtD_codeB]
  refine ⟨⟨hs, by decide⟩, bspD (fun c => ?_) (fun c => ⟨⟨h0, by omega⟩, by simp only [inK]; omega, out _ (hD.trans (if_neg c))⟩)⟩
  have e := hD.trans (if_pos c)
  rw [e] at hb
  exact ⟨by simp only [inK]; omega, ⟨h0, by decide⟩, by simp only [inK]; dsimp only at hb; omega, out _ e⟩
def c_spec_LegalSteps : Con where
  ins := [(true, .v tVar), (true, .v tBoard), (false, .v tI)]
  outs := [(false, .v (.sl tStep)), (false, .v tI)]
  sh := false
  pre := fun _ => True
  out := fun x => ((legalC x.1 x.2.1 x.2.2.1).1, (legalC x.1 x.2.1 x.2.2.1).2, ())
  upd := fun x => x
  eat := false
theorem k_spec_LegalSteps [B : Base] : ConOk Try.prog 74 c_spec_LegalSteps := by
  refine fn_okW (C := cx Try.prog 23 c_spec_LegalSteps) (cs := [(59, c_spec_IsBoard), (35, c_spec_l01In), (81, c_spec_l04Legal)]) (res := Try.f74.results.toList) (fun _ => ⟨[], [], []⟩) Try.func74 (by kernel_rfl) rfl rfl rfl tysOk.look eqTsOk.look (AllCs.ok (l := [(59, c_spec_IsBoard), (35, c_spec_l01In), (81, c_spec_l04Legal)]) ⟨k_spec_IsBoard, k_spec_l01In, k_spec_l04Legal, trivial⟩) mixed rfl rfl rfl rfl ?_
  refine of_nf (P := ∀ v : Int × Int × Int × Int, ∀ b : (List Int) × List Int, ∀ d : Int, (True) → ((lensI c_spec_LegalSteps.ins (v, b, d, ())) → (True ∧ (bsp (!(boardD v b)) (@Eq (HO c_spec_LegalSteps.outs) ([], 1, ()) (c_spec_LegalSteps.out (v, b, d, ()))) (True ∧ (bsp (!(inB d (1 : Int) v.2.2.2)) (@Eq (HO c_spec_LegalSteps.outs) ([], 2, ()) (c_spec_LegalSteps.out (v, b, d, ()))) ((okB v b ∧ 1 ≤ d ∧ d ≤ 6) ∧ (@Eq (HO c_spec_LegalSteps.outs) (legalD v b d, 0, ()) (c_spec_LegalSteps.out (v, b, d, ())))))))))) (by kernel_rfl) ?_
  rintro v b d hp hl
  have out : ∀ r : List DStep × Int, legalC v b d = r → @Eq (HO c_spec_LegalSteps.outs) (r.1, r.2, ()) (c_spec_LegalSteps.out (v, b, d, ())) := fun r h => by subst h; rfl
  have hD := legalC.eq_1 v b d
  refine ⟨trivial, bspB (fun h => out _ (hD.trans (if_pos (by simpa using h)))) (fun h => ⟨trivial, bspB (fun g => ?_) (fun g => ?_)⟩)⟩
  all_goals
    have h1 : boardD v b = true := by simpa using h
    rw [if_neg (by rw [h1]; decide)] at hD
  · exact out _ (hD.trans (if_pos (by simpa using g)))
  · have g1 : inB d 1 v.2.2.2 = true := by simpa using g
    rw [if_neg (by rw [g1]; decide)] at hD
    simp only [inB, Bool.and_eq_true, decide_eq_true_eq] at g1
    have := (okB_of h1).facts
    exact ⟨⟨okB_of h1, g1.1, by omega⟩, out _ hD⟩
theorem stD2_0 {x : DStep × DSrc} (c : (nxtD x.2 16).1 = 0) : stD2 x = ((x.1.1, x.1.2.1, x.1.2.2.1, !x.1.2.2.2), (nxtD x.2 16).2) := by unfold stD2; rw [if_pos c]
theorem stD2_1 {x : DStep × DSrc} (c : ¬ (nxtD x.2 16).1 = 0) (d : (nxtD x.2 16).1 = 1) : stD2 x = ((x.1.1, x.1.2.1 - 1, x.1.2.2), (nxtD x.2 16).2) := by unfold stD2; rw [if_neg c, if_pos d]
theorem stD2_2 {x : DStep × DSrc} (c : ¬ (nxtD x.2 16).1 = 0) (d : ¬ (nxtD x.2 16).1 = 1) : stD2 x = (x.1, (nxtD x.2 16).2) := by unfold stD2; rw [if_neg c, if_neg d]
def c_spec_l04DrawStep : Con where
  ins := [(false, .bx (.pr (.sl (.i .u8)) tRoll)), (true, .v tVar), (true, .v tBoard)]
  outs := [(true, .v tStep)]
  sh := false
  pre := fun x => okS x.1 ∧ vBd x.2.1
  out := fun x => ((drawSt x.2.1 x.2.2.1 x.1).1, ())
  upd := fun x => ((x.1.1, (drawSt x.2.1 x.2.2.1 x.1).2.2), x.2.1, x.2.2.1, ())
  eat := false
theorem k_spec_l04DrawStep [B : Base] : ConOk Try.prog 46 c_spec_l04DrawStep := by
  refine fn_okW (C := cx Try.prog 72 c_spec_l04DrawStep) (cs := [(73, c_spec_l04DrawDie), (45, c_spec_l01Next), (74, c_spec_LegalSteps)]) (res := Try.f46.results.toList) (fun _ => ⟨[], [], []⟩) Try.func46 (by kernel_rfl) rfl rfl rfl tysOk.look eqTsOk.look (AllCs.ok (l := [(73, c_spec_l04DrawDie), (45, c_spec_l01Next), (74, c_spec_LegalSteps)]) ⟨k_spec_l04DrawDie, k_spec_l01Next, k_spec_LegalSteps, trivial⟩) mixed rfl rfl rfl rfl ?_
  refine of_nf (P := ∀ s : (List Int) × Int × Int, ∀ v : Int × Int × Int × Int, ∀ b : (List Int) × List Int, (okS s ∧ vBd v) → ((lensI c_spec_l04DrawStep.ins (s, v, b, ())) → ((okS s ∧ vBd v) ∧ ((inK .i64 (v.1 + 2)) ∧ ((okS (s.1, (drawDi v s).2.2) ∧ (v.1 + 2) ≤ 1000000000000) ∧ ((okS (s.1, (nxtD (s.1, (drawDi v s).2.2) (v.1 + 2)).2.2) ∧ (16 : Int) ≤ 1000000000000) ∧ (((15 : Int) ≠ 0) ∧ ((inK .i64 (Int.tdiv (nxtD (s.1, (nxtD (s.1, (drawDi v s).2.2) (v.1 + 2)).2.2) (16 : Int)).1 15)) ∧ ((inK .i64 ((nxtD (s.1, (drawDi v s).2.2) (v.1 + 2)).1 - (Int.tdiv (nxtD (s.1, (nxtD (s.1, (drawDi v s).2.2) (v.1 + 2)).2.2) (16 : Int)).1 15))) ∧ ((inK .i64 (((nxtD (s.1, (drawDi v s).2.2) (v.1 + 2)).1 - (Int.tdiv (nxtD (s.1, (nxtD (s.1, (drawDi v s).2.2) (v.1 + 2)).2.2) (16 : Int)).1 15)) - (drawDi v s).1)) ∧ ((okS (s.1, (nxtD (s.1, (nxtD (s.1, (drawDi v s).2.2) (v.1 + 2)).2.2) (16 : Int)).2.2) ∧ (4 : Int) ≤ 1000000000000) ∧ (True ∧ (bsp (decide ((0 : Int) < ((legalC v b (drawDi v s).1).1.length : Int))) ((okS (s.1, (nxtD (s.1, (nxtD (s.1, (nxtD (s.1, (drawDi v s).2.2) (v.1 + 2)).2.2) (16 : Int)).2.2) (4 : Int)).2.2) ∧ (4 : Int) ≤ 1000000000000) ∧ (bsp (decide ((0 : Int) < (nxtD (s.1, (nxtD (s.1, (nxtD (s.1, (nxtD (s.1, (drawDi v s).2.2) (v.1 + 2)).2.2) (16 : Int)).2.2) (4 : Int)).2.2) (4 : Int)).1)) ((okS (s.1, (nxtD (s.1, (nxtD (s.1, (nxtD (s.1, (nxtD (s.1, (drawDi v s).2.2) (v.1 + 2)).2.2) (16 : Int)).2.2) (4 : Int)).2.2) (4 : Int)).2.2) ∧ ((legalC v b (drawDi v s).1).1.length : Int) ≤ 1000000000000) ∧ ((0 ≤ (nxtD (s.1, (nxtD (s.1, (nxtD (s.1, (nxtD (s.1, (nxtD (s.1, (drawDi v s).2.2) (v.1 + 2)).2.2) (16 : Int)).2.2) (4 : Int)).2.2) (4 : Int)).2.2) ((legalC v b (drawDi v s).1).1.length : Int)).1 ∧ (nxtD (s.1, (nxtD (s.1, (nxtD (s.1, (nxtD (s.1, (nxtD (s.1, (drawDi v s).2.2) (v.1 + 2)).2.2) (16 : Int)).2.2) (4 : Int)).2.2) (4 : Int)).2.2) ((legalC v b (drawDi v s).1).1.length : Int)).1 < ((legalC v b (drawDi v s).1).1.length : Int)) ∧ (((nxtD (s.1, (nxtD (s.1, (nxtD (s.1, (nxtD (s.1, (nxtD (s.1, (drawDi v s).2.2) (v.1 + 2)).2.2) (16 : Int)).2.2) (4 : Int)).2.2) (4 : Int)).2.2) ((legalC v b (drawDi v s).1).1.length : Int)).1.toNat < (legalC v b (drawDi v s).1).1.length) ∧ ((okS (s.1, (nxtD (s.1, (nxtD (s.1, (nxtD (s.1, (nxtD (s.1, (nxtD (s.1, (drawDi v s).2.2) (v.1 + 2)).2.2) (16 : Int)).2.2) (4 : Int)).2.2) (4 : Int)).2.2) ((legalC v b (drawDi v s).1).1.length : Int)).2.2) ∧ (16 : Int) ≤ 1000000000000) ∧ (bsp (decide ((nxtD (s.1, (nxtD (s.1, (nxtD (s.1, (nxtD (s.1, (nxtD (s.1, (nxtD (s.1, (drawDi v s).2.2) (v.1 + 2)).2.2) (16 : Int)).2.2) (4 : Int)).2.2) (4 : Int)).2.2) ((legalC v b (drawDi v s).1).1.length : Int)).2.2) (16 : Int)).1 = (0 : Int))) (@Eq (HO c_spec_l04DrawStep.outs) ((((legalC v b (drawDi v s).1).1.getD (nxtD (s.1, (nxtD (s.1, (nxtD (s.1, (nxtD (s.1, (nxtD (s.1, (drawDi v s).2.2) (v.1 + 2)).2.2) (16 : Int)).2.2) (4 : Int)).2.2) (4 : Int)).2.2) ((legalC v b (drawDi v s).1).1.length : Int)).1.toNat (0, 0, 0, false)).1, ((legalC v b (drawDi v s).1).1.getD (nxtD (s.1, (nxtD (s.1, (nxtD (s.1, (nxtD (s.1, (nxtD (s.1, (drawDi v s).2.2) (v.1 + 2)).2.2) (16 : Int)).2.2) (4 : Int)).2.2) (4 : Int)).2.2) ((legalC v b (drawDi v s).1).1.length : Int)).1.toNat (0, 0, 0, false)).2.1, ((legalC v b (drawDi v s).1).1.getD (nxtD (s.1, (nxtD (s.1, (nxtD (s.1, (nxtD (s.1, (nxtD (s.1, (drawDi v s).2.2) (v.1 + 2)).2.2) (16 : Int)).2.2) (4 : Int)).2.2) (4 : Int)).2.2) ((legalC v b (drawDi v s).1).1.length : Int)).1.toNat (0, 0, 0, false)).2.2.1, (!((legalC v b (drawDi v s).1).1.getD (nxtD (s.1, (nxtD (s.1, (nxtD (s.1, (nxtD (s.1, (nxtD (s.1, (drawDi v s).2.2) (v.1 + 2)).2.2) (16 : Int)).2.2) (4 : Int)).2.2) (4 : Int)).2.2) ((legalC v b (drawDi v s).1).1.length : Int)).1.toNat (0, 0, 0, false)).2.2.2)), ()) (c_spec_l04DrawStep.out (s, v, b, ())) ∧ @Eq (HI c_spec_l04DrawStep.ins) ((s.1, (nxtD (s.1, (nxtD (s.1, (nxtD (s.1, (nxtD (s.1, (nxtD (s.1, (nxtD (s.1, (drawDi v s).2.2) (v.1 + 2)).2.2) (16 : Int)).2.2) (4 : Int)).2.2) (4 : Int)).2.2) ((legalC v b (drawDi v s).1).1.length : Int)).2.2) (16 : Int)).2.2), v, b, ()) (c_spec_l04DrawStep.upd (s, v, b, ()))) (bsp (decide ((nxtD (s.1, (nxtD (s.1, (nxtD (s.1, (nxtD (s.1, (nxtD (s.1, (nxtD (s.1, (drawDi v s).2.2) (v.1 + 2)).2.2) (16 : Int)).2.2) (4 : Int)).2.2) (4 : Int)).2.2) ((legalC v b (drawDi v s).1).1.length : Int)).2.2) (16 : Int)).1 = (1 : Int))) ((inK .i64 (((legalC v b (drawDi v s).1).1.getD (nxtD (s.1, (nxtD (s.1, (nxtD (s.1, (nxtD (s.1, (nxtD (s.1, (drawDi v s).2.2) (v.1 + 2)).2.2) (16 : Int)).2.2) (4 : Int)).2.2) (4 : Int)).2.2) ((legalC v b (drawDi v s).1).1.length : Int)).1.toNat (0, 0, 0, false)).2.1 - 1)) ∧ (@Eq (HO c_spec_l04DrawStep.outs) ((((legalC v b (drawDi v s).1).1.getD (nxtD (s.1, (nxtD (s.1, (nxtD (s.1, (nxtD (s.1, (nxtD (s.1, (drawDi v s).2.2) (v.1 + 2)).2.2) (16 : Int)).2.2) (4 : Int)).2.2) (4 : Int)).2.2) ((legalC v b (drawDi v s).1).1.length : Int)).1.toNat (0, 0, 0, false)).1, (((legalC v b (drawDi v s).1).1.getD (nxtD (s.1, (nxtD (s.1, (nxtD (s.1, (nxtD (s.1, (nxtD (s.1, (drawDi v s).2.2) (v.1 + 2)).2.2) (16 : Int)).2.2) (4 : Int)).2.2) (4 : Int)).2.2) ((legalC v b (drawDi v s).1).1.length : Int)).1.toNat (0, 0, 0, false)).2.1 - 1), ((legalC v b (drawDi v s).1).1.getD (nxtD (s.1, (nxtD (s.1, (nxtD (s.1, (nxtD (s.1, (nxtD (s.1, (drawDi v s).2.2) (v.1 + 2)).2.2) (16 : Int)).2.2) (4 : Int)).2.2) (4 : Int)).2.2) ((legalC v b (drawDi v s).1).1.length : Int)).1.toNat (0, 0, 0, false)).2.2), ()) (c_spec_l04DrawStep.out (s, v, b, ())) ∧ @Eq (HI c_spec_l04DrawStep.ins) ((s.1, (nxtD (s.1, (nxtD (s.1, (nxtD (s.1, (nxtD (s.1, (nxtD (s.1, (nxtD (s.1, (drawDi v s).2.2) (v.1 + 2)).2.2) (16 : Int)).2.2) (4 : Int)).2.2) (4 : Int)).2.2) ((legalC v b (drawDi v s).1).1.length : Int)).2.2) (16 : Int)).2.2), v, b, ()) (c_spec_l04DrawStep.upd (s, v, b, ())))) (@Eq (HO c_spec_l04DrawStep.outs) (((legalC v b (drawDi v s).1).1.getD (nxtD (s.1, (nxtD (s.1, (nxtD (s.1, (nxtD (s.1, (nxtD (s.1, (drawDi v s).2.2) (v.1 + 2)).2.2) (16 : Int)).2.2) (4 : Int)).2.2) (4 : Int)).2.2) ((legalC v b (drawDi v s).1).1.length : Int)).1.toNat (0, 0, 0, false)), ()) (c_spec_l04DrawStep.out (s, v, b, ())) ∧ @Eq (HI c_spec_l04DrawStep.ins) ((s.1, (nxtD (s.1, (nxtD (s.1, (nxtD (s.1, (nxtD (s.1, (nxtD (s.1, (nxtD (s.1, (drawDi v s).2.2) (v.1 + 2)).2.2) (16 : Int)).2.2) (4 : Int)).2.2) (4 : Int)).2.2) ((legalC v b (drawDi v s).1).1.length : Int)).2.2) (16 : Int)).2.2), v, b, ()) (c_spec_l04DrawStep.upd (s, v, b, ()))))))))) ((okS (s.1, (nxtD (s.1, (nxtD (s.1, (nxtD (s.1, (nxtD (s.1, (drawDi v s).2.2) (v.1 + 2)).2.2) (16 : Int)).2.2) (4 : Int)).2.2) (4 : Int)).2.2) ∧ (16 : Int) ≤ 1000000000000) ∧ (bsp (decide ((nxtD (s.1, (nxtD (s.1, (nxtD (s.1, (nxtD (s.1, (nxtD (s.1, (drawDi v s).2.2) (v.1 + 2)).2.2) (16 : Int)).2.2) (4 : Int)).2.2) (4 : Int)).2.2) (16 : Int)).1 = (0 : Int))) (@Eq (HO c_spec_l04DrawStep.outs) ((((nxtD (s.1, (drawDi v s).2.2) (v.1 + 2)).1 - (Int.tdiv (nxtD (s.1, (nxtD (s.1, (drawDi v s).2.2) (v.1 + 2)).2.2) (16 : Int)).1 15)), (max (-1 : Int) (((nxtD (s.1, (drawDi v s).2.2) (v.1 + 2)).1 - (Int.tdiv (nxtD (s.1, (nxtD (s.1, (drawDi v s).2.2) (v.1 + 2)).2.2) (16 : Int)).1 15)) - (drawDi v s).1)), (drawDi v s).1, (!(decide ((nxtD (s.1, (nxtD (s.1, (nxtD (s.1, (drawDi v s).2.2) (v.1 + 2)).2.2) (16 : Int)).2.2) (4 : Int)).1 = (0 : Int))))), ()) (c_spec_l04DrawStep.out (s, v, b, ())) ∧ @Eq (HI c_spec_l04DrawStep.ins) ((s.1, (nxtD (s.1, (nxtD (s.1, (nxtD (s.1, (nxtD (s.1, (nxtD (s.1, (drawDi v s).2.2) (v.1 + 2)).2.2) (16 : Int)).2.2) (4 : Int)).2.2) (4 : Int)).2.2) (16 : Int)).2.2), v, b, ()) (c_spec_l04DrawStep.upd (s, v, b, ()))) (bsp (decide ((nxtD (s.1, (nxtD (s.1, (nxtD (s.1, (nxtD (s.1, (nxtD (s.1, (drawDi v s).2.2) (v.1 + 2)).2.2) (16 : Int)).2.2) (4 : Int)).2.2) (4 : Int)).2.2) (16 : Int)).1 = (1 : Int))) ((inK .i64 ((max (-1 : Int) (((nxtD (s.1, (drawDi v s).2.2) (v.1 + 2)).1 - (Int.tdiv (nxtD (s.1, (nxtD (s.1, (drawDi v s).2.2) (v.1 + 2)).2.2) (16 : Int)).1 15)) - (drawDi v s).1)) - 1)) ∧ (@Eq (HO c_spec_l04DrawStep.outs) ((((nxtD (s.1, (drawDi v s).2.2) (v.1 + 2)).1 - (Int.tdiv (nxtD (s.1, (nxtD (s.1, (drawDi v s).2.2) (v.1 + 2)).2.2) (16 : Int)).1 15)), ((max (-1 : Int) (((nxtD (s.1, (drawDi v s).2.2) (v.1 + 2)).1 - (Int.tdiv (nxtD (s.1, (nxtD (s.1, (drawDi v s).2.2) (v.1 + 2)).2.2) (16 : Int)).1 15)) - (drawDi v s).1)) - 1), (drawDi v s).1, (decide ((nxtD (s.1, (nxtD (s.1, (nxtD (s.1, (drawDi v s).2.2) (v.1 + 2)).2.2) (16 : Int)).2.2) (4 : Int)).1 = (0 : Int)))), ()) (c_spec_l04DrawStep.out (s, v, b, ())) ∧ @Eq (HI c_spec_l04DrawStep.ins) ((s.1, (nxtD (s.1, (nxtD (s.1, (nxtD (s.1, (nxtD (s.1, (nxtD (s.1, (drawDi v s).2.2) (v.1 + 2)).2.2) (16 : Int)).2.2) (4 : Int)).2.2) (4 : Int)).2.2) (16 : Int)).2.2), v, b, ()) (c_spec_l04DrawStep.upd (s, v, b, ())))) (@Eq (HO c_spec_l04DrawStep.outs) ((((nxtD (s.1, (drawDi v s).2.2) (v.1 + 2)).1 - (Int.tdiv (nxtD (s.1, (nxtD (s.1, (drawDi v s).2.2) (v.1 + 2)).2.2) (16 : Int)).1 15)), (max (-1 : Int) (((nxtD (s.1, (drawDi v s).2.2) (v.1 + 2)).1 - (Int.tdiv (nxtD (s.1, (nxtD (s.1, (drawDi v s).2.2) (v.1 + 2)).2.2) (16 : Int)).1 15)) - (drawDi v s).1)), (drawDi v s).1, (decide ((nxtD (s.1, (nxtD (s.1, (nxtD (s.1, (drawDi v s).2.2) (v.1 + 2)).2.2) (16 : Int)).2.2) (4 : Int)).1 = (0 : Int)))), ()) (c_spec_l04DrawStep.out (s, v, b, ())) ∧ @Eq (HI c_spec_l04DrawStep.ins) ((s.1, (nxtD (s.1, (nxtD (s.1, (nxtD (s.1, (nxtD (s.1, (nxtD (s.1, (drawDi v s).2.2) (v.1 + 2)).2.2) (16 : Int)).2.2) (4 : Int)).2.2) (4 : Int)).2.2) (16 : Int)).2.2), v, b, ()) (c_spec_l04DrawStep.upd (s, v, b, ())))))))) ((okS (s.1, (nxtD (s.1, (nxtD (s.1, (nxtD (s.1, (drawDi v s).2.2) (v.1 + 2)).2.2) (16 : Int)).2.2) (4 : Int)).2.2) ∧ (16 : Int) ≤ 1000000000000) ∧ (bsp (decide ((nxtD (s.1, (nxtD (s.1, (nxtD (s.1, (nxtD (s.1, (drawDi v s).2.2) (v.1 + 2)).2.2) (16 : Int)).2.2) (4 : Int)).2.2) (16 : Int)).1 = (0 : Int))) (@Eq (HO c_spec_l04DrawStep.outs) ((((nxtD (s.1, (drawDi v s).2.2) (v.1 + 2)).1 - (Int.tdiv (nxtD (s.1, (nxtD (s.1, (drawDi v s).2.2) (v.1 + 2)).2.2) (16 : Int)).1 15)), (max (-1 : Int) (((nxtD (s.1, (drawDi v s).2.2) (v.1 + 2)).1 - (Int.tdiv (nxtD (s.1, (nxtD (s.1, (drawDi v s).2.2) (v.1 + 2)).2.2) (16 : Int)).1 15)) - (drawDi v s).1)), (drawDi v s).1, (!(decide ((nxtD (s.1, (nxtD (s.1, (nxtD (s.1, (drawDi v s).2.2) (v.1 + 2)).2.2) (16 : Int)).2.2) (4 : Int)).1 = (0 : Int))))), ()) (c_spec_l04DrawStep.out (s, v, b, ())) ∧ @Eq (HI c_spec_l04DrawStep.ins) ((s.1, (nxtD (s.1, (nxtD (s.1, (nxtD (s.1, (nxtD (s.1, (drawDi v s).2.2) (v.1 + 2)).2.2) (16 : Int)).2.2) (4 : Int)).2.2) (16 : Int)).2.2), v, b, ()) (c_spec_l04DrawStep.upd (s, v, b, ()))) (bsp (decide ((nxtD (s.1, (nxtD (s.1, (nxtD (s.1, (nxtD (s.1, (drawDi v s).2.2) (v.1 + 2)).2.2) (16 : Int)).2.2) (4 : Int)).2.2) (16 : Int)).1 = (1 : Int))) ((inK .i64 ((max (-1 : Int) (((nxtD (s.1, (drawDi v s).2.2) (v.1 + 2)).1 - (Int.tdiv (nxtD (s.1, (nxtD (s.1, (drawDi v s).2.2) (v.1 + 2)).2.2) (16 : Int)).1 15)) - (drawDi v s).1)) - 1)) ∧ (@Eq (HO c_spec_l04DrawStep.outs) ((((nxtD (s.1, (drawDi v s).2.2) (v.1 + 2)).1 - (Int.tdiv (nxtD (s.1, (nxtD (s.1, (drawDi v s).2.2) (v.1 + 2)).2.2) (16 : Int)).1 15)), ((max (-1 : Int) (((nxtD (s.1, (drawDi v s).2.2) (v.1 + 2)).1 - (Int.tdiv (nxtD (s.1, (nxtD (s.1, (drawDi v s).2.2) (v.1 + 2)).2.2) (16 : Int)).1 15)) - (drawDi v s).1)) - 1), (drawDi v s).1, (decide ((nxtD (s.1, (nxtD (s.1, (nxtD (s.1, (drawDi v s).2.2) (v.1 + 2)).2.2) (16 : Int)).2.2) (4 : Int)).1 = (0 : Int)))), ()) (c_spec_l04DrawStep.out (s, v, b, ())) ∧ @Eq (HI c_spec_l04DrawStep.ins) ((s.1, (nxtD (s.1, (nxtD (s.1, (nxtD (s.1, (nxtD (s.1, (drawDi v s).2.2) (v.1 + 2)).2.2) (16 : Int)).2.2) (4 : Int)).2.2) (16 : Int)).2.2), v, b, ()) (c_spec_l04DrawStep.upd (s, v, b, ())))) (@Eq (HO c_spec_l04DrawStep.outs) ((((nxtD (s.1, (drawDi v s).2.2) (v.1 + 2)).1 - (Int.tdiv (nxtD (s.1, (nxtD (s.1, (drawDi v s).2.2) (v.1 + 2)).2.2) (16 : Int)).1 15)), (max (-1 : Int) (((nxtD (s.1, (drawDi v s).2.2) (v.1 + 2)).1 - (Int.tdiv (nxtD (s.1, (nxtD (s.1, (drawDi v s).2.2) (v.1 + 2)).2.2) (16 : Int)).1 15)) - (drawDi v s).1)), (drawDi v s).1, (decide ((nxtD (s.1, (nxtD (s.1, (nxtD (s.1, (drawDi v s).2.2) (v.1 + 2)).2.2) (16 : Int)).2.2) (4 : Int)).1 = (0 : Int)))), ()) (c_spec_l04DrawStep.out (s, v, b, ())) ∧ @Eq (HI c_spec_l04DrawStep.ins) ((s.1, (nxtD (s.1, (nxtD (s.1, (nxtD (s.1, (nxtD (s.1, (drawDi v s).2.2) (v.1 + 2)).2.2) (16 : Int)).2.2) (4 : Int)).2.2) (16 : Int)).2.2), v, b, ()) (c_spec_l04DrawStep.upd (s, v, b, ()))))))))))))))))))) (by kernel_rfl) ?_
  rintro s v b ⟨hs, hv⟩ hl
  have out : ∀ r, drawSt v b s = r → @Eq (HO c_spec_l04DrawStep.outs) (r.1, ()) (c_spec_l04DrawStep.out (s, v, b, ())) ∧ @Eq (HI c_spec_l04DrawStep.ins) (r.2, v, b, ()) (c_spec_l04DrawStep.upd (s, v, b, ())) := fun r h => by
    subst h
    refine ⟨rfl, ?_⟩
    simp only [c_spec_l04DrawStep]
    rw [upd_etaB (drawSt_ok hs hv).2]
  have hD : drawSt v b s = stD2 (stD1 (legalC v b (drawDi v s).1).1 (stD0 v (drawDi v s))) := rfl
  obtain ⟨d1, d2, d3, d4⟩ := drawDi_ok hs hv
  have hv1 := hv.1
  have hlen := legalC_len v b (drawDi v s).1
  have hin : ∀ x, x ∈ (legalC v b (drawDi v s).1).1 → -1 ≤ x.2.1 ∧ x.2.1 ≤ 24 := fun x hx => legalC_in hx
  simp only [src_etaB, nxtD_codeB, d2]
  generalize (legalC v b (drawDi v s).1).1 = l at *
  generalize drawDi v s = q at *
  have a1 := nxtD_ok d1 (v.1 + 2)
  have a2 := nxtD_bd d1 (v.1 + 2)
  have b1 := nxtD_ok a1 16
  have b2 := nxtD_bd a1 16
  have hq : Int.tdiv (nxtD (nxtD q.2 (v.1 + 2)).2 16).1 15 = (nxtD (nxtD q.2 (v.1 + 2)).2 16).1 / 15 := Int.tdiv_eq_ediv_of_nonneg b2.1
  have c1 := nxtD_ok b1 4
  have e1 := nxtD_ok c1 4
  have f1 := nxtD_ok e1 l.length
  have f2 := nxtD_bd e1 l.length
  refine ⟨⟨hs, hv⟩, by simp only [inK]; omega, ⟨d1, by omega⟩, ⟨a1, by decide⟩, by decide, by simp only [inK]; omega, by simp only [inK]; omega, by simp only [inK]; omega, ⟨b1, by decide⟩, trivial, bspD (fun c => ⟨⟨c1, by decide⟩, bspD (fun k => ?_) (fun k => ?_)⟩) (fun c => ?_)⟩
  · have hx := hD.trans (congrArg stD2 ((stD1.eq_1 _ _).trans ((if_pos c).trans (if_pos k))))
    have hm := hin _ (getD_mem (show (nxtD (nxtD (stD0 v q).2 4).2 l.length).1.toNat < l.length by show (nxtD (nxtD (nxtD (nxtD (nxtD q.2 (v.1 + 2)).2 16).2 4).2 4).2 l.length).1.toNat < l.length; omega) zeroS)
    refine ⟨⟨e1, by omega⟩, ⟨by omega, by omega⟩, by omega, ⟨f1, by decide⟩, bspD (fun m => out _ (hx.trans (stD2_0 m))) (fun m => bspD (fun n => ⟨?_, out _ (hx.trans (stD2_1 m n))⟩) (fun n => out _ (hx.trans (stD2_2 m n))))⟩
    change inK .i64 ((l.getD (nxtD (nxtD (stD0 v q).2 4).2 l.length).1.toNat zeroS).2.1 - 1)
    simp only [inK]; omega
  · have hx := hD.trans (congrArg stD2 ((stD1.eq_1 _ _).trans ((if_pos c).trans (if_neg k))))
    exact ⟨⟨e1, by decide⟩, bspD (fun m => out _ (hx.trans (stD2_0 m))) (fun m => bspD (fun n => ⟨by simp only [inK]; omega, out _ (hx.trans (stD2_1 m n))⟩) (fun n => out _ (hx.trans (stD2_2 m n))))⟩
  · have hx := hD.trans (congrArg stD2 ((stD1.eq_1 _ _).trans (if_neg c)))
    exact ⟨⟨c1, by decide⟩, bspD (fun m => out _ (hx.trans (stD2_0 m))) (fun m => bspD (fun n => ⟨by simp only [inK]; omega, out _ (hx.trans (stD2_1 m n))⟩) (fun n => out _ (hx.trans (stD2_2 m n))))⟩
def stA (l : List DPlay) (ok : Int) (s : DSrc) : List DStep × DSrc :=
  if ok = 0 then (if 0 < (nxtD s 8).1 then (([] : List DStep) ++ (l.getD (nxtD (nxtD s 8).2 l.length).1.toNat ([], ([], []))).1, (nxtD (nxtD s 8).2 l.length).2) else ([], (nxtD s 8).2)) else ([], s)
def stB (v : DVar) (b : DBoard) (x : List DStep × DSrc) : List DStep :=
  if (nxtD x.2 12).1 = 0 then x.1 ++ [(drawSt v b (nxtD x.2 12).2).1] else x.1
def drawPT (q : DVar × DGame × DSrc) : List DStep := stB q.1 q.2.1.1 (stA (allPlaysD q.1 q.2.1.1 q.2.1.2.2.1).1 (allPlaysD q.1 q.2.1.1 q.2.1.2.2.1).2 q.2.2)
theorem allD_steps {v : DVar} {b : DBoard} {r : DRoll} (hb : okB v b) (hr : rollD v r = true) {p : DPlay} (h : p ∈ allD v b r) : p.1.length ≤ 4 := by
  rcases addP_sub h with h | h
  · simp at h
  · obtain ⟨o, ho, hp⟩ := List.mem_flatMap.1 h
    have hd := ordersD_ok hr o (selD_sub.1 o ho)
    have hk := (last_ok (o := o) (l := startP b) (k := 0) hd.2 (startP_ok hb) (by simp [startP])).1
    have := (hk p hp).2
    have := seqD_len v (startP b) o
    have := hd.1
    omega
theorem allPlays_ok {v : DVar} {b : DBoard} {r : DRoll} (h : (allPlaysD v b r).2 = 0) : 0 < (allPlaysD v b r).1.length ∧ ∀ p, p ∈ (allPlaysD v b r).1 → p.1.length ≤ 4 := by
  unfold allPlaysD at h ⊢
  split at h
  · next h1 => exact absurd h h1
  next h1 =>
  rw [if_neg h1]
  have hk := codeD_ok (by simpa using h1 : codeD v b r = 0)
  split at h
  · next h2 => rw [if_pos h2]; exact ⟨allD_one v b r, fun p hp => allD_steps hk.1 hk.2 hp⟩
  · exact absurd (show (3 : Int) = 0 from h) (by decide)
def c_spec_DrawPlayTurn : Con where
  ins := [(false, .v (.sl (.i .u8)))]
  outs := [(true, .v tVar), (true, .v tGame), (false, .v (.sl tStep))]
  sh := false
  pre := fun x => okC x.1
  out := fun x => ((drawGA (fromD x.1)).1, (drawGA (fromD x.1)).2.1, drawPT (drawGA (fromD x.1)), ())
  upd := fun x => x
  eat := false
theorem k_spec_DrawPlayTurn [B : Base] : ConOk Try.prog 16 c_spec_DrawPlayTurn := by
  refine fn_okW (C := cx Try.prog 59 c_spec_DrawPlayTurn) (cs := [(24, c_spec_l01From), (25, c_spec_l08DrawAny), (44, c_spec_AllPlays), (45, c_spec_l01Next), (46, c_spec_l04DrawStep)]) (res := Try.f16.results.toList) (fun _ => ⟨[], [(9, ⟨[[], [], [], [0], [0, 1, 3], [0, 1, 2, 3, 4]], [[1, 2], [0, 2, 3], [0, 1, 3, 4], [1, 2], [2], []], [[], [1], [1, 17], [], [], []]⟩)], []⟩) Try.func16 (by kernel_rfl) rfl rfl rfl tysOk.look eqTsOk.look (AllCs.ok (l := [(24, c_spec_l01From), (25, c_spec_l08DrawAny), (44, c_spec_AllPlays), (45, c_spec_l01Next), (46, c_spec_l04DrawStep)]) ⟨k_spec_l01From, k_spec_l08DrawAny, k_spec_AllPlays, k_spec_l01Next, k_spec_l04DrawStep, trivial⟩) mixed rfl rfl rfl rfl ?_
  refine of_nf (P := ∀ c : List Int, (okC c) → ((lensI c_spec_DrawPlayTurn.ins (c, ())) → ((okC c) ∧ ((okS (fromD c)) ∧ (True ∧ (bsp (decide ((allPlaysD (drawGA (fromD c)).1 (drawGA (fromD c)).2.1.1 (drawGA (fromD c)).2.1.2.2.1).2 = (0 : Int))) ((okS ((fromD c).1, (drawGA (fromD c)).2.2.2) ∧ (8 : Int) ≤ 1000000000000) ∧ (bsp (decide ((0 : Int) < (nxtD ((fromD c).1, (drawGA (fromD c)).2.2.2) (8 : Int)).1)) ((okS ((fromD c).1, (nxtD ((fromD c).1, (drawGA (fromD c)).2.2.2) (8 : Int)).2.2) ∧ ((allPlaysD (drawGA (fromD c)).1 (drawGA (fromD c)).2.1.1 (drawGA (fromD c)).2.1.2.2.1).1.length : Int) ≤ 1000000000000) ∧ ((0 ≤ (nxtD ((fromD c).1, (nxtD ((fromD c).1, (drawGA (fromD c)).2.2.2) (8 : Int)).2.2) ((allPlaysD (drawGA (fromD c)).1 (drawGA (fromD c)).2.1.1 (drawGA (fromD c)).2.1.2.2.1).1.length : Int)).1 ∧ (nxtD ((fromD c).1, (nxtD ((fromD c).1, (drawGA (fromD c)).2.2.2) (8 : Int)).2.2) ((allPlaysD (drawGA (fromD c)).1 (drawGA (fromD c)).2.1.1 (drawGA (fromD c)).2.1.2.2.1).1.length : Int)).1 < ((allPlaysD (drawGA (fromD c)).1 (drawGA (fromD c)).2.1.1 (drawGA (fromD c)).2.1.2.2.1).1.length : Int)) ∧ (((nxtD ((fromD c).1, (nxtD ((fromD c).1, (drawGA (fromD c)).2.2.2) (8 : Int)).2.2) ((allPlaysD (drawGA (fromD c)).1 (drawGA (fromD c)).2.1.1 (drawGA (fromD c)).2.1.2.2.1).1.length : Int)).1.toNat < (allPlaysD (drawGA (fromD c)).1 (drawGA (fromD c)).2.1.1 (drawGA (fromD c)).2.1.2.2.1).1.length) ∧ ((([] : List (Int × Int × Int × Bool)).length + ((allPlaysD (drawGA (fromD c)).1 (drawGA (fromD c)).2.1.1 (drawGA (fromD c)).2.1.2.2.1).1.getD (nxtD ((fromD c).1, (nxtD ((fromD c).1, (drawGA (fromD c)).2.2.2) (8 : Int)).2.2) ((allPlaysD (drawGA (fromD c)).1 (drawGA (fromD c)).2.1.1 (drawGA (fromD c)).2.1.2.2.1).1.length : Int)).1.toNat ([], [], [])).1.length ≤ AB) ∧ ((okS ((fromD c).1, (nxtD ((fromD c).1, (nxtD ((fromD c).1, (drawGA (fromD c)).2.2.2) (8 : Int)).2.2) ((allPlaysD (drawGA (fromD c)).1 (drawGA (fromD c)).2.1.1 (drawGA (fromD c)).2.1.2.2.1).1.length : Int)).2.2) ∧ (12 : Int) ≤ 1000000000000) ∧ (bsp (decide ((nxtD ((fromD c).1, (nxtD ((fromD c).1, (nxtD ((fromD c).1, (drawGA (fromD c)).2.2.2) (8 : Int)).2.2) ((allPlaysD (drawGA (fromD c)).1 (drawGA (fromD c)).2.1.1 (drawGA (fromD c)).2.1.2.2.1).1.length : Int)).2.2) (12 : Int)).1 = (0 : Int))) ((okS ((fromD c).1, (nxtD ((fromD c).1, (nxtD ((fromD c).1, (nxtD ((fromD c).1, (drawGA (fromD c)).2.2.2) (8 : Int)).2.2) ((allPlaysD (drawGA (fromD c)).1 (drawGA (fromD c)).2.1.1 (drawGA (fromD c)).2.1.2.2.1).1.length : Int)).2.2) (12 : Int)).2.2) ∧ vBd (drawGA (fromD c)).1) ∧ (((([] : List (Int × Int × Int × Bool)) ++ ((allPlaysD (drawGA (fromD c)).1 (drawGA (fromD c)).2.1.1 (drawGA (fromD c)).2.1.2.2.1).1.getD (nxtD ((fromD c).1, (nxtD ((fromD c).1, (drawGA (fromD c)).2.2.2) (8 : Int)).2.2) ((allPlaysD (drawGA (fromD c)).1 (drawGA (fromD c)).2.1.1 (drawGA (fromD c)).2.1.2.2.1).1.length : Int)).1.toNat ([], [], [])).1).length + ([(drawSt (drawGA (fromD c)).1 (drawGA (fromD c)).2.1.1 ((fromD c).1, (nxtD ((fromD c).1, (nxtD ((fromD c).1, (nxtD ((fromD c).1, (drawGA (fromD c)).2.2.2) (8 : Int)).2.2) ((allPlaysD (drawGA (fromD c)).1 (drawGA (fromD c)).2.1.1 (drawGA (fromD c)).2.1.2.2.1).1.length : Int)).2.2) (12 : Int)).2.2)).1] : List (Int × Int × Int × Bool)).length ≤ AB) ∧ (@Eq (HO c_spec_DrawPlayTurn.outs) ((drawGA (fromD c)).1, (drawGA (fromD c)).2.1, ((([] : List (Int × Int × Int × Bool)) ++ ((allPlaysD (drawGA (fromD c)).1 (drawGA (fromD c)).2.1.1 (drawGA (fromD c)).2.1.2.2.1).1.getD (nxtD ((fromD c).1, (nxtD ((fromD c).1, (drawGA (fromD c)).2.2.2) (8 : Int)).2.2) ((allPlaysD (drawGA (fromD c)).1 (drawGA (fromD c)).2.1.1 (drawGA (fromD c)).2.1.2.2.1).1.length : Int)).1.toNat ([], [], [])).1) ++ [(drawSt (drawGA (fromD c)).1 (drawGA (fromD c)).2.1.1 ((fromD c).1, (nxtD ((fromD c).1, (nxtD ((fromD c).1, (nxtD ((fromD c).1, (drawGA (fromD c)).2.2.2) (8 : Int)).2.2) ((allPlaysD (drawGA (fromD c)).1 (drawGA (fromD c)).2.1.1 (drawGA (fromD c)).2.1.2.2.1).1.length : Int)).2.2) (12 : Int)).2.2)).1]), ()) (c_spec_DrawPlayTurn.out (c, ()))))) (@Eq (HO c_spec_DrawPlayTurn.outs) ((drawGA (fromD c)).1, (drawGA (fromD c)).2.1, (([] : List (Int × Int × Int × Bool)) ++ ((allPlaysD (drawGA (fromD c)).1 (drawGA (fromD c)).2.1.1 (drawGA (fromD c)).2.1.2.2.1).1.getD (nxtD ((fromD c).1, (nxtD ((fromD c).1, (drawGA (fromD c)).2.2.2) (8 : Int)).2.2) ((allPlaysD (drawGA (fromD c)).1 (drawGA (fromD c)).2.1.1 (drawGA (fromD c)).2.1.2.2.1).1.length : Int)).1.toNat ([], [], [])).1), ()) (c_spec_DrawPlayTurn.out (c, ()))))))))) ((okS ((fromD c).1, (nxtD ((fromD c).1, (drawGA (fromD c)).2.2.2) (8 : Int)).2.2) ∧ (12 : Int) ≤ 1000000000000) ∧ (bsp (decide ((nxtD ((fromD c).1, (nxtD ((fromD c).1, (drawGA (fromD c)).2.2.2) (8 : Int)).2.2) (12 : Int)).1 = (0 : Int))) ((okS ((fromD c).1, (nxtD ((fromD c).1, (nxtD ((fromD c).1, (drawGA (fromD c)).2.2.2) (8 : Int)).2.2) (12 : Int)).2.2) ∧ vBd (drawGA (fromD c)).1) ∧ ((([] : List (Int × Int × Int × Bool)).length + ([(drawSt (drawGA (fromD c)).1 (drawGA (fromD c)).2.1.1 ((fromD c).1, (nxtD ((fromD c).1, (nxtD ((fromD c).1, (drawGA (fromD c)).2.2.2) (8 : Int)).2.2) (12 : Int)).2.2)).1] : List (Int × Int × Int × Bool)).length ≤ AB) ∧ (@Eq (HO c_spec_DrawPlayTurn.outs) ((drawGA (fromD c)).1, (drawGA (fromD c)).2.1, (([] : List (Int × Int × Int × Bool)) ++ [(drawSt (drawGA (fromD c)).1 (drawGA (fromD c)).2.1.1 ((fromD c).1, (nxtD ((fromD c).1, (nxtD ((fromD c).1, (drawGA (fromD c)).2.2.2) (8 : Int)).2.2) (12 : Int)).2.2)).1]), ()) (c_spec_DrawPlayTurn.out (c, ()))))) (@Eq (HO c_spec_DrawPlayTurn.outs) ((drawGA (fromD c)).1, (drawGA (fromD c)).2.1, [], ()) (c_spec_DrawPlayTurn.out (c, ()))))))) ((okS ((fromD c).1, (drawGA (fromD c)).2.2.2) ∧ (12 : Int) ≤ 1000000000000) ∧ (bsp (decide ((nxtD ((fromD c).1, (drawGA (fromD c)).2.2.2) (12 : Int)).1 = (0 : Int))) ((okS ((fromD c).1, (nxtD ((fromD c).1, (drawGA (fromD c)).2.2.2) (12 : Int)).2.2) ∧ vBd (drawGA (fromD c)).1) ∧ ((([] : List (Int × Int × Int × Bool)).length + ([(drawSt (drawGA (fromD c)).1 (drawGA (fromD c)).2.1.1 ((fromD c).1, (nxtD ((fromD c).1, (drawGA (fromD c)).2.2.2) (12 : Int)).2.2)).1] : List (Int × Int × Int × Bool)).length ≤ AB) ∧ (@Eq (HO c_spec_DrawPlayTurn.outs) ((drawGA (fromD c)).1, (drawGA (fromD c)).2.1, (([] : List (Int × Int × Int × Bool)) ++ [(drawSt (drawGA (fromD c)).1 (drawGA (fromD c)).2.1.1 ((fromD c).1, (nxtD ((fromD c).1, (drawGA (fromD c)).2.2.2) (12 : Int)).2.2)).1]), ()) (c_spec_DrawPlayTurn.out (c, ()))))) (@Eq (HO c_spec_DrawPlayTurn.outs) ((drawGA (fromD c)).1, (drawGA (fromD c)).2.1, [], ()) (c_spec_DrawPlayTurn.out (c, ()))))))))))) (by kernel_rfl) ?_
  rintro c hc hl
  have hF := fromD_ok hc
  obtain ⟨g1, g2, g3, g4, g5⟩ := drawGA_ok hF
  have hv : vBd (drawGA (fromD c)).1 := ⟨g3, g4, g5⟩
  have out : ∀ x, drawPT (drawGA (fromD c)) = x → @Eq (HO c_spec_DrawPlayTurn.outs) ((drawGA (fromD c)).1, (drawGA (fromD c)).2.1, x, ()) (c_spec_DrawPlayTurn.out (c, ())) := fun x h => by subst h; rfl
  refine ⟨hc, hF, trivial, ?_⟩
  simp only [src_etaB, nxtD_codeB, g2]
  generalize drawGA (fromD c) = q at *
  have hD : drawPT q = stB q.1 q.2.1.1 (stA (allPlaysD q.1 q.2.1.1 q.2.1.2.2.1).1 (allPlaysD q.1 q.2.1.1 q.2.1.2.2.1).2 q.2.2) := rfl
  have hlen := allPlaysD_len q.1 q.2.1.1 q.2.1.2.2.1
  have hok := allPlays_ok (v := q.1) (b := q.2.1.1) (r := q.2.1.2.2.1)
  generalize allPlaysD q.1 q.2.1.1 q.2.1.2.2.1 = L at *
  have a1 := nxtD_ok g1 8
  have b1 := nxtD_ok a1 L.1.length
  have b2 := nxtD_bd a1 L.1.length
  have hAB : AB = 1099511627776 := rfl
  refine bspD (fun c0 => ⟨⟨g1, by decide⟩, bspD (fun c1 => ?_) (fun c1 => ?_)⟩) (fun c0 => ?_)
  · obtain ⟨k1, k2⟩ := hok c0
    have hx := hD.trans (congrArg (stB q.1 q.2.1.1) ((stA.eq_1 _ _ _).trans ((if_pos c0).trans (if_pos c1))))
    have hi : (nxtD (nxtD q.2.2 8).2 L.1.length).1.toNat < L.1.length := by omega
    have hm := k2 _ (getD_mem hi ([], ([], [])))
    have w1 := nxtD_ok b1 12
    refine ⟨⟨a1, by omega⟩, ⟨by omega, by omega⟩, hi, by simp only [List.length_nil]; omega, ⟨b1, by decide⟩, bspD (fun m => ⟨⟨w1, hv⟩, by simp only [List.nil_append, List.length_cons, List.length_nil]; omega, out _ (hx.trans ((stB.eq_1 _ _ _).trans (if_pos m)))⟩) (fun m => out _ (hx.trans ((stB.eq_1 _ _ _).trans (if_neg m))))⟩
  · have hx := hD.trans (congrArg (stB q.1 q.2.1.1) ((stA.eq_1 _ _ _).trans ((if_pos c0).trans (if_neg c1))))
    have w1 := nxtD_ok a1 12
    exact ⟨⟨a1, by decide⟩, bspD (fun m => ⟨⟨w1, hv⟩, by simp only [List.length_cons, List.length_nil]; omega, out _ (hx.trans ((stB.eq_1 _ _ _).trans (if_pos m)))⟩) (fun m => out _ (hx.trans ((stB.eq_1 _ _ _).trans (if_neg m))))⟩
  · have hx := hD.trans (congrArg (stB q.1 q.2.1.1) ((stA.eq_1 _ _ _).trans (if_neg c0)))
    have w1 := nxtD_ok g1 12
    exact ⟨⟨g1, by decide⟩, bspD (fun m => ⟨⟨w1, hv⟩, by simp only [List.length_cons, List.length_nil]; omega, out _ (hx.trans ((stB.eq_1 _ _ _).trans (if_pos m)))⟩) (fun m => out _ (hx.trans ((stB.eq_1 _ _ _).trans (if_neg m))))⟩
end Go.Proofs.Ytlnagcdnnaffgaa
