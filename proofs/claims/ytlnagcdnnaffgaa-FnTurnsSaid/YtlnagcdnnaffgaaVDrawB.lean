/-
  Contracts: draws of valid variants.
-/
import Derived.Test.YtlnagcdnnaffgaaVDraw
import Derived.Test.YtlnagcdnnaffgaaVGame
namespace Go.Proofs.Ytlnagcdnnaffgaa
open Go.RowKit
set_option linter.unusedSimpArgs false
set_option linter.unusedVariables false
theorem nxtD_codeB (s : DSrc) (n : Int) : (nxtD s n).2.1 = s.1 := by unfold nxtD; split; rfl; split <;> rfl
theorem nxtD_etaB {s : DSrc} {c : List Int} {n : Int} (h : s.1 = c) : (c, (nxtD s n).2.2) = (nxtD s n).2 := by
  have := nxtD_codeB s n
  rw [← h, ← this]
theorem src_etaB {s : DSrc} {c : List Int} (h : s.1 = c) : (c, s.2) = s := by subst h; rfl
theorem upd_etaB {s t : DSrc} (h : t.1 = s.1) : t = (s.1, t.2) := by rw [← h]
def drawSm (s : DSrc) : DVar × DSrc :=
  let a := nxtD s 5
  let b := nxtD a.2 3
  let c := nxtD b.2 3
  let d := nxtD c.2 (2 + a.1)
  ((2 + a.1, 1 + b.1, 1 + d.1, 1 + c.1), d.2)
def drawVal (s : DSrc) : DVar × DSrc :=
  let k := nxtD s 4
  if k.1 = 0 then ((24, 15, 6, 6), k.2)
  else if k.1 = 1 then
    ((4 + (nxtD k.2 21).1, 1 + (nxtD (nxtD k.2 21).2 15).1, 1 + (nxtD (nxtD (nxtD (nxtD k.2 21).2 15).2 6).2 (Int.tdiv (4 + (nxtD k.2 21).1) 2)).1, 1 + (nxtD (nxtD (nxtD k.2 21).2 15).2 6).1), (nxtD (nxtD (nxtD (nxtD k.2 21).2 15).2 6).2 (Int.tdiv (4 + (nxtD k.2 21).1) 2)).2)
  else drawSm k.2
theorem drawSm_ok {s : DSrc} (h : okS s) : okS (drawSm s).2 ∧ (drawSm s).2.1 = s.1 ∧ varD (drawSm s).1 = true := by
  have b1 := nxtD_bd h 5
  have h1 := nxtD_ok h 5
  have b2 := nxtD_bd h1 3
  have h2 := nxtD_ok h1 3
  have b3 := nxtD_bd h2 3
  have h3 := nxtD_ok h2 3
  have b4 := nxtD_bd h3 (2 + (nxtD s 5).1)
  have h4 := nxtD_ok h3 (2 + (nxtD s 5).1)
  unfold drawSm
  refine ⟨h4, by simp only [nxtD_codeB], varD_iff.2 ?_⟩
  simp only []
  refine ⟨?_, ?_, ?_, ?_⟩ <;> omega
theorem drawVal_ok {s : DSrc} (h : okS s) : okS (drawVal s).2 ∧ (drawVal s).2.1 = s.1 ∧ varD (drawVal s).1 = true := by
  have h0 := nxtD_ok h 4
  have b1 := nxtD_bd h0 21
  have h1 := nxtD_ok h0 21
  have b2 := nxtD_bd h1 15
  have h2 := nxtD_ok h1 15
  have b3 := nxtD_bd h2 6
  have h3 := nxtD_ok h2 6
  have b4 := nxtD_bd h3 (Int.tdiv (4 + (nxtD (nxtD s 4).2 21).1) 2)
  have h4 := nxtD_ok h3 (Int.tdiv (4 + (nxtD (nxtD s 4).2 21).1) 2)
  have e : Int.tdiv (4 + (nxtD (nxtD s 4).2 21).1) 2 = (4 + (nxtD (nxtD s 4).2 21).1) / 2 := Int.tdiv_eq_ediv_of_nonneg (by omega)
  have sm := drawSm_ok h0
  unfold drawVal
  simp only []
  split
  · exact ⟨h0, by simp only [nxtD_codeB], show varD (24, 15, 6, 6) = true by decide⟩
  · split
    · refine ⟨h4, by simp only [nxtD_codeB], varD_iff.2 ?_⟩
      dsimp only
      refine ⟨?_, ?_, ?_, ?_⟩ <;> omega
    · exact ⟨sm.1, by rw [sm.2.1, nxtD_codeB], sm.2.2⟩
def c_spec_l01DrawSmall : Con where
  ins := [(false, .bx (.pr (.sl (.i .u8)) tRoll))]
  outs := [(true, .v tVar)]
  sh := false
  pre := fun x => okS x.1
  out := fun x => ((drawSm x.1).1, ())
  upd := fun x => ((x.1.1, (drawSm x.1).2.2), ())
  eat := false
theorem k_spec_l01DrawSmall [B : Base] : ConOk Try.prog 101 c_spec_l01DrawSmall := by
  refine fn_okW (C := cx Try.prog 21 c_spec_l01DrawSmall) (cs := [(45, c_spec_l01Next)]) (res := Try.f101.results.toList) (fun _ => ⟨[], [], []⟩) Try.func101 (by kernel_rfl) rfl rfl rfl tysOk.look eqTsOk.look (AllCs.ok (l := [(45, c_spec_l01Next)]) ⟨k_spec_l01Next, trivial⟩) mixed rfl rfl rfl rfl ?_
  refine of_nf (P := ∀ s : (List Int) × Int × Int, (okS s) → ((lensI c_spec_l01DrawSmall.ins (s, ())) → ((okS s ∧ (5 : Int) ≤ 1000000000000) ∧ ((inK .i64 (2 + (nxtD s (5 : Int)).1)) ∧ ((okS (s.1, (nxtD s (5 : Int)).2.2) ∧ (3 : Int) ≤ 1000000000000) ∧ ((inK .i64 (1 + (nxtD (s.1, (nxtD s (5 : Int)).2.2) (3 : Int)).1)) ∧ ((okS (s.1, (nxtD (s.1, (nxtD s (5 : Int)).2.2) (3 : Int)).2.2) ∧ (3 : Int) ≤ 1000000000000) ∧ ((inK .i64 (1 + (nxtD (s.1, (nxtD (s.1, (nxtD s (5 : Int)).2.2) (3 : Int)).2.2) (3 : Int)).1)) ∧ ((okS (s.1, (nxtD (s.1, (nxtD (s.1, (nxtD s (5 : Int)).2.2) (3 : Int)).2.2) (3 : Int)).2.2) ∧ (2 + (nxtD s (5 : Int)).1) ≤ 1000000000000) ∧ ((inK .i64 (1 + (nxtD (s.1, (nxtD (s.1, (nxtD (s.1, (nxtD s (5 : Int)).2.2) (3 : Int)).2.2) (3 : Int)).2.2) (2 + (nxtD s (5 : Int)).1)).1)) ∧ (@Eq (HO c_spec_l01DrawSmall.outs) (((2 + (nxtD s (5 : Int)).1), (1 + (nxtD (s.1, (nxtD s (5 : Int)).2.2) (3 : Int)).1), (1 + (nxtD (s.1, (nxtD (s.1, (nxtD (s.1, (nxtD s (5 : Int)).2.2) (3 : Int)).2.2) (3 : Int)).2.2) (2 + (nxtD s (5 : Int)).1)).1), (1 + (nxtD (s.1, (nxtD (s.1, (nxtD s (5 : Int)).2.2) (3 : Int)).2.2) (3 : Int)).1)), ()) (c_spec_l01DrawSmall.out (s, ())) ∧ @Eq (HI c_spec_l01DrawSmall.ins) ((s.1, (nxtD (s.1, (nxtD (s.1, (nxtD (s.1, (nxtD s (5 : Int)).2.2) (3 : Int)).2.2) (3 : Int)).2.2) (2 + (nxtD s (5 : Int)).1)).2.2), ()) (c_spec_l01DrawSmall.upd (s, ()))))))))))))) (by kernel_rfl) ?_
  rintro s hs hl

  have out : ∀ r, drawSm s = r → @Eq (HO c_spec_l01DrawSmall.outs) (r.1, ()) (c_spec_l01DrawSmall.out (s, ())) ∧ @Eq (HI c_spec_l01DrawSmall.ins) (r.2, ()) (c_spec_l01DrawSmall.upd (s, ())) := fun r h => by
    subst h
    refine ⟨rfl, ?_⟩
    simp only [c_spec_l01DrawSmall]
    rw [upd_etaB (drawSm_ok hs).2.1]

  have b1 := nxtD_bd hs 5
  have h1 := nxtD_ok hs 5
  have b2 := nxtD_bd h1 3
  have h2 := nxtD_ok h1 3
  have b3 := nxtD_bd h2 3
  have h3 := nxtD_ok h2 3
  have b4 := nxtD_bd h3 (2 + (nxtD s 5).1)
  simp only [nxtD_etaB, nxtD_codeB]
  exact ⟨⟨hs, by decide⟩, by simp only [inK]; omega, ⟨h1, by decide⟩, by simp only [inK]; omega, ⟨h2, by decide⟩, by simp only [inK]; omega, ⟨h3, by omega⟩, by simp only [inK]; omega, out _ rfl⟩
def c_spec_l01DrawValid : Con where
  ins := [(false, .bx (.pr (.sl (.i .u8)) tRoll))]
  outs := [(true, .v tVar)]
  sh := false
  pre := fun x => okS x.1
  out := fun x => ((drawVal x.1).1, ())
  upd := fun x => ((x.1.1, (drawVal x.1).2.2), ())
  eat := false
theorem k_spec_l01DrawValid [B : Base] : ConOk Try.prog 85 c_spec_l01DrawValid := by
  refine fn_okW (C := cx Try.prog 31 c_spec_l01DrawValid) (cs := [(45, c_spec_l01Next), (97, c_spec_FullVariant), (101, c_spec_l01DrawSmall)]) (res := Try.f85.results.toList) (fun _ => ⟨[], [], []⟩) Try.func85 (by kernel_rfl) rfl rfl rfl tysOk.look eqTsOk.look (AllCs.ok (l := [(45, c_spec_l01Next), (97, c_spec_FullVariant), (101, c_spec_l01DrawSmall)]) ⟨k_spec_l01Next, k_spec_FullVariant, k_spec_l01DrawSmall, trivial⟩) mixed rfl rfl rfl rfl ?_
  refine of_nf (P := ∀ s : (List Int) × Int × Int, (okS s) → ((lensI c_spec_l01DrawValid.ins (s, ())) → ((okS s ∧ (4 : Int) ≤ 1000000000000) ∧ (bsp (decide ((nxtD s (4 : Int)).1 = (0 : Int))) (True ∧ (@Eq (HO c_spec_l01DrawValid.outs) ((24, 15, 6, 6), ()) (c_spec_l01DrawValid.out (s, ())) ∧ @Eq (HI c_spec_l01DrawValid.ins) ((s.1, (nxtD s (4 : Int)).2.2), ()) (c_spec_l01DrawValid.upd (s, ())))) (bsp (decide ((nxtD s (4 : Int)).1 = (1 : Int))) ((okS (s.1, (nxtD s (4 : Int)).2.2) ∧ (21 : Int) ≤ 1000000000000) ∧ ((inK .i64 (4 + (nxtD (s.1, (nxtD s (4 : Int)).2.2) (21 : Int)).1)) ∧ ((okS (s.1, (nxtD (s.1, (nxtD s (4 : Int)).2.2) (21 : Int)).2.2) ∧ (15 : Int) ≤ 1000000000000) ∧ ((inK .i64 (1 + (nxtD (s.1, (nxtD (s.1, (nxtD s (4 : Int)).2.2) (21 : Int)).2.2) (15 : Int)).1)) ∧ ((okS (s.1, (nxtD (s.1, (nxtD (s.1, (nxtD s (4 : Int)).2.2) (21 : Int)).2.2) (15 : Int)).2.2) ∧ (6 : Int) ≤ 1000000000000) ∧ ((inK .i64 (1 + (nxtD (s.1, (nxtD (s.1, (nxtD (s.1, (nxtD s (4 : Int)).2.2) (21 : Int)).2.2) (15 : Int)).2.2) (6 : Int)).1)) ∧ (((2 : Int) ≠ 0) ∧ ((inK .i64 (Int.tdiv (4 + (nxtD (s.1, (nxtD s (4 : Int)).2.2) (21 : Int)).1) 2)) ∧ ((okS (s.1, (nxtD (s.1, (nxtD (s.1, (nxtD (s.1, (nxtD s (4 : Int)).2.2) (21 : Int)).2.2) (15 : Int)).2.2) (6 : Int)).2.2) ∧ (Int.tdiv (4 + (nxtD (s.1, (nxtD s (4 : Int)).2.2) (21 : Int)).1) 2) ≤ 1000000000000) ∧ ((inK .i64 (1 + (nxtD (s.1, (nxtD (s.1, (nxtD (s.1, (nxtD (s.1, (nxtD s (4 : Int)).2.2) (21 : Int)).2.2) (15 : Int)).2.2) (6 : Int)).2.2) (Int.tdiv (4 + (nxtD (s.1, (nxtD s (4 : Int)).2.2) (21 : Int)).1) 2)).1)) ∧ (@Eq (HO c_spec_l01DrawValid.outs) (((4 + (nxtD (s.1, (nxtD s (4 : Int)).2.2) (21 : Int)).1), (1 + (nxtD (s.1, (nxtD (s.1, (nxtD s (4 : Int)).2.2) (21 : Int)).2.2) (15 : Int)).1), (1 + (nxtD (s.1, (nxtD (s.1, (nxtD (s.1, (nxtD (s.1, (nxtD s (4 : Int)).2.2) (21 : Int)).2.2) (15 : Int)).2.2) (6 : Int)).2.2) (Int.tdiv (4 + (nxtD (s.1, (nxtD s (4 : Int)).2.2) (21 : Int)).1) 2)).1), (1 + (nxtD (s.1, (nxtD (s.1, (nxtD (s.1, (nxtD s (4 : Int)).2.2) (21 : Int)).2.2) (15 : Int)).2.2) (6 : Int)).1)), ()) (c_spec_l01DrawValid.out (s, ())) ∧ @Eq (HI c_spec_l01DrawValid.ins) ((s.1, (nxtD (s.1, (nxtD (s.1, (nxtD (s.1, (nxtD (s.1, (nxtD s (4 : Int)).2.2) (21 : Int)).2.2) (15 : Int)).2.2) (6 : Int)).2.2) (Int.tdiv (4 + (nxtD (s.1, (nxtD s (4 : Int)).2.2) (21 : Int)).1) 2)).2.2), ()) (c_spec_l01DrawValid.upd (s, ()))))))))))))) ((okS (s.1, (nxtD s (4 : Int)).2.2)) ∧ (@Eq (HO c_spec_l01DrawValid.outs) ((drawSm (s.1, (nxtD s (4 : Int)).2.2)).1, ()) (c_spec_l01DrawValid.out (s, ())) ∧ @Eq (HI c_spec_l01DrawValid.ins) ((s.1, (drawSm (s.1, (nxtD s (4 : Int)).2.2)).2.2), ()) (c_spec_l01DrawValid.upd (s, ()))))))))) (by kernel_rfl) ?_
  rintro s hs hl

  have out : ∀ r, drawVal s = r → @Eq (HO c_spec_l01DrawValid.outs) (r.1, ()) (c_spec_l01DrawValid.out (s, ())) ∧ @Eq (HI c_spec_l01DrawValid.ins) (r.2, ()) (c_spec_l01DrawValid.upd (s, ())) := fun r h => by
    subst h
    refine ⟨rfl, ?_⟩
    simp only [c_spec_l01DrawValid]
    rw [upd_etaB (drawVal_ok hs).2.1]

  have hD := drawVal.eq_1 s
  have h0 := nxtD_ok hs 4
  have b1 := nxtD_bd h0 21
  have h1 := nxtD_ok h0 21
  have b2 := nxtD_bd h1 15
  have h2 := nxtD_ok h1 15
  have b3 := nxtD_bd h2 6
  have h3 := nxtD_ok h2 6
  have b4 := nxtD_bd h3 (Int.tdiv (4 + (nxtD (nxtD s 4).2 21).1) 2)
  have e : Int.tdiv (4 + (nxtD (nxtD s 4).2 21).1) 2 = (4 + (nxtD (nxtD s 4).2 21).1) / 2 := Int.tdiv_eq_ediv_of_nonneg (by omega)
  have sm := drawSm_ok h0
  simp only [src_etaB, nxtD_codeB, sm.2.1]
  refine ⟨⟨hs, by decide⟩, bspD (fun c => ⟨trivial, out _ (hD.trans (if_pos c))⟩) (fun c => bspD (fun c' => ?_) (fun c' => ⟨h0, out _ (by rw [hD, if_neg c, if_neg c'])⟩))⟩
  exact ⟨⟨h0, by decide⟩, by simp only [inK]; omega, ⟨h1, by decide⟩, by simp only [inK]; omega, ⟨h2, by decide⟩, by simp only [inK]; omega, by decide, by simp only [inK]; omega, ⟨h3, by omega⟩, by simp only [inK]; omega, out _ (by rw [hD, if_neg c, if_pos c'])⟩
def drawAny (s : DSrc) : DVar × DSrc :=
  let v := drawVal s
  let k := nxtD v.2 40
  if k.1 = 0 then (([1, 25, -1, 24].getD (nxtD k.2 4).1.toNat 0, v.1.2), (nxtD k.2 4).2)
  else if k.1 = 1 then ((v.1.1, 16 * (nxtD k.2 2).1, v.1.2.2), (nxtD k.2 2).2)
  else if k.1 = 2 then ((v.1.1, v.1.2.1, v.1.1 + 1, v.1.2.2.2), k.2)
  else if k.1 = 3 then ((v.1.1, v.1.2.1, v.1.2.2.1, 7 * (nxtD k.2 2).1), (nxtD k.2 2).2)
  else (v.1, k.2)
theorem drawAny_ok {s : DSrc} (h : okS s) : okS (drawAny s).2 ∧ (drawAny s).2.1 = s.1 := by
  obtain ⟨v1, v2, -⟩ := drawVal_ok h
  have h0 := nxtD_ok v1 40
  unfold drawAny
  simp only []
  repeat' split
  all_goals first | exact ⟨nxtD_ok h0 _, by simp only [nxtD_codeB, v2]⟩ | exact ⟨h0, by simp only [nxtD_codeB, v2]⟩
def c_spec_l01DrawAny : Con where
  ins := [(false, .bx (.pr (.sl (.i .u8)) tRoll))]
  outs := [(true, .v tVar)]
  sh := false
  pre := fun x => okS x.1
  out := fun x => ((drawAny x.1).1, ())
  upd := fun x => ((x.1.1, (drawAny x.1).2.2), ())
  eat := false
theorem k_spec_l01DrawAny [B : Base] : ConOk Try.prog 54 c_spec_l01DrawAny := by
  refine fn_okW (C := cx Try.prog 35 c_spec_l01DrawAny) (cs := [(85, c_spec_l01DrawValid), (45, c_spec_l01Next)]) (res := Try.f54.results.toList) (fun _ => ⟨[], [], []⟩) Try.func54 (by kernel_rfl) rfl rfl rfl tysOk.look eqTsOk.look (AllCs.ok (l := [(85, c_spec_l01DrawValid), (45, c_spec_l01Next)]) ⟨k_spec_l01DrawValid, k_spec_l01Next, trivial⟩) mixed rfl rfl rfl rfl ?_
  refine of_nf (P := ∀ s : (List Int) × Int × Int, (okS s) → ((lensI c_spec_l01DrawAny.ins (s, ())) → ((okS s) ∧ ((okS (s.1, (drawVal s).2.2) ∧ (40 : Int) ≤ 1000000000000) ∧ (bsp (decide ((nxtD (s.1, (drawVal s).2.2) (40 : Int)).1 = (0 : Int))) ((okS (s.1, (nxtD (s.1, (drawVal s).2.2) (40 : Int)).2.2) ∧ (4 : Int) ≤ 1000000000000) ∧ ((0 ≤ (nxtD (s.1, (nxtD (s.1, (drawVal s).2.2) (40 : Int)).2.2) (4 : Int)).1 ∧ (nxtD (s.1, (nxtD (s.1, (drawVal s).2.2) (40 : Int)).2.2) (4 : Int)).1 < (([1, 25, (-1), 24] : List Int).length : Int)) ∧ (((nxtD (s.1, (nxtD (s.1, (drawVal s).2.2) (40 : Int)).2.2) (4 : Int)).1.toNat < ([1, 25, (-1), 24] : List Int).length) ∧ (@Eq (HO c_spec_l01DrawAny.outs) (((([1, 25, (-1), 24] : List Int).getD (nxtD (s.1, (nxtD (s.1, (drawVal s).2.2) (40 : Int)).2.2) (4 : Int)).1.toNat 0), (drawVal s).1.2), ()) (c_spec_l01DrawAny.out (s, ())) ∧ @Eq (HI c_spec_l01DrawAny.ins) ((s.1, (nxtD (s.1, (nxtD (s.1, (drawVal s).2.2) (40 : Int)).2.2) (4 : Int)).2.2), ()) (c_spec_l01DrawAny.upd (s, ())))))) (bsp (decide ((nxtD (s.1, (drawVal s).2.2) (40 : Int)).1 = (1 : Int))) ((okS (s.1, (nxtD (s.1, (drawVal s).2.2) (40 : Int)).2.2) ∧ (2 : Int) ≤ 1000000000000) ∧ ((inK .i64 (16 * (nxtD (s.1, (nxtD (s.1, (drawVal s).2.2) (40 : Int)).2.2) (2 : Int)).1)) ∧ (@Eq (HO c_spec_l01DrawAny.outs) (((drawVal s).1.1, (16 * (nxtD (s.1, (nxtD (s.1, (drawVal s).2.2) (40 : Int)).2.2) (2 : Int)).1), (drawVal s).1.2.2), ()) (c_spec_l01DrawAny.out (s, ())) ∧ @Eq (HI c_spec_l01DrawAny.ins) ((s.1, (nxtD (s.1, (nxtD (s.1, (drawVal s).2.2) (40 : Int)).2.2) (2 : Int)).2.2), ()) (c_spec_l01DrawAny.upd (s, ()))))) (bsp (decide ((nxtD (s.1, (drawVal s).2.2) (40 : Int)).1 = (2 : Int))) ((inK .i64 ((drawVal s).1.1 + 1)) ∧ (@Eq (HO c_spec_l01DrawAny.outs) (((drawVal s).1.1, (drawVal s).1.2.1, (drawVal s).1.1 + 1, (drawVal s).1.2.2.2), ()) (c_spec_l01DrawAny.out (s, ())) ∧ @Eq (HI c_spec_l01DrawAny.ins) ((s.1, (nxtD (s.1, (drawVal s).2.2) (40 : Int)).2.2), ()) (c_spec_l01DrawAny.upd (s, ())))) (bsp (decide ((nxtD (s.1, (drawVal s).2.2) (40 : Int)).1 = (3 : Int))) ((okS (s.1, (nxtD (s.1, (drawVal s).2.2) (40 : Int)).2.2) ∧ (2 : Int) ≤ 1000000000000) ∧ ((inK .i64 (7 * (nxtD (s.1, (nxtD (s.1, (drawVal s).2.2) (40 : Int)).2.2) (2 : Int)).1)) ∧ (@Eq (HO c_spec_l01DrawAny.outs) (((drawVal s).1.1, (drawVal s).1.2.1, (drawVal s).1.2.2.1, (7 * (nxtD (s.1, (nxtD (s.1, (drawVal s).2.2) (40 : Int)).2.2) (2 : Int)).1)), ()) (c_spec_l01DrawAny.out (s, ())) ∧ @Eq (HI c_spec_l01DrawAny.ins) ((s.1, (nxtD (s.1, (nxtD (s.1, (drawVal s).2.2) (40 : Int)).2.2) (2 : Int)).2.2), ()) (c_spec_l01DrawAny.upd (s, ()))))) (@Eq (HO c_spec_l01DrawAny.outs) ((drawVal s).1, ()) (c_spec_l01DrawAny.out (s, ())) ∧ @Eq (HI c_spec_l01DrawAny.ins) ((s.1, (nxtD (s.1, (drawVal s).2.2) (40 : Int)).2.2), ()) (c_spec_l01DrawAny.upd (s, ()))))))))))) (by kernel_rfl) ?_
  rintro s hs hl

  have out : ∀ r, drawAny s = r → @Eq (HO c_spec_l01DrawAny.outs) (r.1, ()) (c_spec_l01DrawAny.out (s, ())) ∧ @Eq (HI c_spec_l01DrawAny.ins) (r.2, ()) (c_spec_l01DrawAny.upd (s, ())) := fun r h => by
    subst h
    refine ⟨rfl, ?_⟩
    simp only [c_spec_l01DrawAny]
    rw [upd_etaB (drawAny_ok hs).2]

  have hD := drawAny.eq_1 s
  obtain ⟨v1, v2, v3⟩ := drawVal_ok hs
  obtain ⟨g1, g2, g3, g4⟩ := varD_iff.1 v3
  have h0 := nxtD_ok v1 40
  have b4 := nxtD_bd h0 4
  have b2 := nxtD_bd h0 2
  simp only [src_etaB, nxtD_codeB, v2]
  refine ⟨hs, ⟨v1, by decide⟩, bspD (fun c => ⟨⟨h0, by decide⟩, ⟨by omega, by simp only [List.length_cons, List.length_nil]; omega⟩, by simp only [List.length_cons, List.length_nil]; omega, out _ (hD.trans (if_pos c))⟩) (fun c => bspD (fun c' => ⟨⟨h0, by decide⟩, by simp only [inK]; omega, out _ (by rw [hD, if_neg c, if_pos c'])⟩) (fun c' => bspD (fun c2 => ⟨by simp only [inK]; omega, out _ (by rw [hD, if_neg c, if_neg c', if_pos c2])⟩) (fun c2 => bspD (fun c3 => ⟨⟨h0, by decide⟩, by simp only [inK]; omega, out _ (by rw [hD, if_neg c, if_neg c', if_neg c2, if_pos c3])⟩) (fun c3 => out _ (by rw [hD, if_neg c, if_neg c', if_neg c2, if_neg c3])))))⟩
end Go.Proofs.Ytlnagcdnnaffgaa
