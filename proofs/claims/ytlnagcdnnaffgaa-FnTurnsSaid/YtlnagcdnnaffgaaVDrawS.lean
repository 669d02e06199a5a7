/-
  Contracts: draws of games' variants and of seeds.
-/
import Derived.Test.YtlnagcdnnaffgaaVDrawB
import Derived.Test.YtlnagcdnnaffgaaVTurn2
import Derived.Test.YtlnagcdnnaffgaaVW9
namespace Go.Proofs.Ytlnagcdnnaffgaa
open Go.RowKit
set_option linter.unusedSimpArgs false
set_option linter.unusedVariables false
def drawV8 (s : DSrc) : DVar × DSrc :=
  if (nxtD s 6).1 = 0 then ((24, 15, 6, 6), (nxtD s 6).2)
  else ((4 + (nxtD (nxtD s 6).2 5).1, 1 + (nxtD (nxtD (nxtD s 6).2 5).2 4).1, 1 + (nxtD (nxtD (nxtD (nxtD s 6).2 5).2 4).2 3 |>.2 |> fun u => nxtD u (Int.tdiv (4 + (nxtD (nxtD s 6).2 5).1) 2)).1, 2 + (nxtD (nxtD (nxtD (nxtD s 6).2 5).2 4).2 3).1),
    (nxtD (nxtD (nxtD (nxtD (nxtD s 6).2 5).2 4).2 3).2 (Int.tdiv (4 + (nxtD (nxtD s 6).2 5).1) 2)).2)
theorem drawV8_ok {s : DSrc} (h : okS s) : okS (drawV8 s).2 ∧ (drawV8 s).2.1 = s.1 ∧ bigD (drawV8 s).1 = true ∧ ((drawV8 s).1 = (24, 15, 6, 6) ∨ ((drawV8 s).1.2.1 ≤ 4 ∧ (drawV8 s).1.1 ≤ 8 ∧ (drawV8 s).1.2.2.2 ≤ 4 ∧ 2 ≤ (drawV8 s).1.2.2.2)) := by
  have h0 := nxtD_ok h 6
  have b1 := nxtD_bd h0 5
  have h1 := nxtD_ok h0 5
  have b2 := nxtD_bd h1 4
  have h2 := nxtD_ok h1 4
  have b3 := nxtD_bd h2 3
  have h3 := nxtD_ok h2 3
  have b4 := nxtD_bd h3 (Int.tdiv (4 + (nxtD (nxtD s 6).2 5).1) 2)
  have h4 := nxtD_ok h3 (Int.tdiv (4 + (nxtD (nxtD s 6).2 5).1) 2)
  have e : Int.tdiv (4 + (nxtD (nxtD s 6).2 5).1) 2 = (4 + (nxtD (nxtD s 6).2 5).1) / 2 := Int.tdiv_eq_ediv_of_nonneg (by omega)
  unfold drawV8
  split
  · exact ⟨h0, by simp only [nxtD_codeB], show bigD (24, 15, 6, 6) = true by decide, .inl rfl⟩
  · refine ⟨h4, by simp only [nxtD_codeB], ?_, .inr ⟨?_, ?_, ?_, ?_⟩⟩
    · simp only [bigD, Bool.and_eq_true, decide_eq_true_eq]
      refine ⟨varD_iff.2 ?_, ?_⟩
      · dsimp only
        refine ⟨?_, ?_, ?_, ?_⟩ <;> omega
      · omega
    all_goals (dsimp only; omega)
def drawSd (s : DSrc) : Int × DSrc :=
  if (nxtD s 16).1 = 0 then ([0, 1, 2147483646, 2147483647, -1].getD (nxtD (nxtD s 16).2 5).1.toNat 0, (nxtD (nxtD s 16).2 5).2)
  else (1 + (nxtD (nxtD s 16).2 2147483646).1, (nxtD (nxtD s 16).2 2147483646).2)
theorem drawSd_ok {s : DSrc} (h : okS s) : okS (drawSd s).2 ∧ (drawSd s).2.1 = s.1 := by
  have h0 := nxtD_ok h 16
  unfold drawSd
  split
  · exact ⟨nxtD_ok h0 _, by simp only [nxtD_codeB]⟩
  · exact ⟨nxtD_ok h0 _, by simp only [nxtD_codeB]⟩
def drawSQ (q : DVar × DSrc) : DVar × Int × Int :=
  if (nxtD (nxtD q.2 8).2 16).1 = 0 then (q.1, (drawSd (nxtD (nxtD (nxtD q.2 8).2 16).2 2).2).1, [-1, 2001].getD (nxtD (nxtD (nxtD q.2 8).2 16).2 2).1.toNat 0)
  else (q.1, (drawSd (nxtD (nxtD q.2 8).2 16).2).1, (nxtD q.2 8).1)
def drawSP (c : List Int) : DVar × Int × Int :=
  if (nxtD (drawV8 (fromD c)).2 12).1 = 0 then drawSQ (drawAny (nxtD (drawV8 (fromD c)).2 12).2) else drawSQ ((drawV8 (fromD c)).1, (nxtD (drawV8 (fromD c)).2 12).2)
def c_spec_l08DrawVariant : Con where
  ins := [(false, .bx (.pr (.sl (.i .u8)) tRoll))]
  outs := [(true, .v tVar)]
  sh := false
  pre := fun x => okS x.1
  out := fun x => ((drawV8 x.1).1, ())
  upd := fun x => ((x.1.1, (drawV8 x.1).2.2), ())
  eat := false
theorem k_spec_l08DrawVariant [B : Base] : ConOk Try.prog 83 c_spec_l08DrawVariant := by
  refine fn_okW (C := cx Try.prog 26 c_spec_l08DrawVariant) (cs := [(45, c_spec_l01Next), (97, c_spec_FullVariant)]) (res := Try.f83.results.toList) (fun _ => ⟨[], [], []⟩) Try.func83 (by kernel_rfl) rfl rfl rfl tysOk.look eqTsOk.look (AllCs.ok (l := [(45, c_spec_l01Next), (97, c_spec_FullVariant)]) ⟨k_spec_l01Next, k_spec_FullVariant, trivial⟩) mixed rfl rfl rfl rfl ?_
  refine of_nf (P := ∀ s : (List Int) × Int × Int, (okS s) → ((lensI c_spec_l08DrawVariant.ins (s, ())) → ((okS s ∧ (6 : Int) ≤ 1000000000000) ∧ (bsp (decide ((nxtD s (6 : Int)).1 = (0 : Int))) (True ∧ (@Eq (HO c_spec_l08DrawVariant.outs) ((24, 15, 6, 6), ()) (c_spec_l08DrawVariant.out (s, ())) ∧ @Eq (HI c_spec_l08DrawVariant.ins) ((s.1, (nxtD s (6 : Int)).2.2), ()) (c_spec_l08DrawVariant.upd (s, ())))) ((okS (s.1, (nxtD s (6 : Int)).2.2) ∧ (5 : Int) ≤ 1000000000000) ∧ ((inK .i64 (4 + (nxtD (s.1, (nxtD s (6 : Int)).2.2) (5 : Int)).1)) ∧ ((okS (s.1, (nxtD (s.1, (nxtD s (6 : Int)).2.2) (5 : Int)).2.2) ∧ (4 : Int) ≤ 1000000000000) ∧ ((inK .i64 (1 + (nxtD (s.1, (nxtD (s.1, (nxtD s (6 : Int)).2.2) (5 : Int)).2.2) (4 : Int)).1)) ∧ ((okS (s.1, (nxtD (s.1, (nxtD (s.1, (nxtD s (6 : Int)).2.2) (5 : Int)).2.2) (4 : Int)).2.2) ∧ (3 : Int) ≤ 1000000000000) ∧ ((inK .i64 (2 + (nxtD (s.1, (nxtD (s.1, (nxtD (s.1, (nxtD s (6 : Int)).2.2) (5 : Int)).2.2) (4 : Int)).2.2) (3 : Int)).1)) ∧ (((2 : Int) ≠ 0) ∧ ((inK .i64 (Int.tdiv (4 + (nxtD (s.1, (nxtD s (6 : Int)).2.2) (5 : Int)).1) 2)) ∧ ((okS (s.1, (nxtD (s.1, (nxtD (s.1, (nxtD (s.1, (nxtD s (6 : Int)).2.2) (5 : Int)).2.2) (4 : Int)).2.2) (3 : Int)).2.2) ∧ (Int.tdiv (4 + (nxtD (s.1, (nxtD s (6 : Int)).2.2) (5 : Int)).1) 2) ≤ 1000000000000) ∧ ((inK .i64 (1 + (nxtD (s.1, (nxtD (s.1, (nxtD (s.1, (nxtD (s.1, (nxtD s (6 : Int)).2.2) (5 : Int)).2.2) (4 : Int)).2.2) (3 : Int)).2.2) (Int.tdiv (4 + (nxtD (s.1, (nxtD s (6 : Int)).2.2) (5 : Int)).1) 2)).1)) ∧ (@Eq (HO c_spec_l08DrawVariant.outs) (((4 + (nxtD (s.1, (nxtD s (6 : Int)).2.2) (5 : Int)).1), (1 + (nxtD (s.1, (nxtD (s.1, (nxtD s (6 : Int)).2.2) (5 : Int)).2.2) (4 : Int)).1), (1 + (nxtD (s.1, (nxtD (s.1, (nxtD (s.1, (nxtD (s.1, (nxtD s (6 : Int)).2.2) (5 : Int)).2.2) (4 : Int)).2.2) (3 : Int)).2.2) (Int.tdiv (4 + (nxtD (s.1, (nxtD s (6 : Int)).2.2) (5 : Int)).1) 2)).1), (2 + (nxtD (s.1, (nxtD (s.1, (nxtD (s.1, (nxtD s (6 : Int)).2.2) (5 : Int)).2.2) (4 : Int)).2.2) (3 : Int)).1)), ()) (c_spec_l08DrawVariant.out (s, ())) ∧ @Eq (HI c_spec_l08DrawVariant.ins) ((s.1, (nxtD (s.1, (nxtD (s.1, (nxtD (s.1, (nxtD (s.1, (nxtD s (6 : Int)).2.2) (5 : Int)).2.2) (4 : Int)).2.2) (3 : Int)).2.2) (Int.tdiv (4 + (nxtD (s.1, (nxtD s (6 : Int)).2.2) (5 : Int)).1) 2)).2.2), ()) (c_spec_l08DrawVariant.upd (s, ()))))))))))))))))) (by kernel_rfl) ?_
  rintro s hs hl
  have out : ∀ r, drawV8 s = r → @Eq (HO c_spec_l08DrawVariant.outs) (r.1, ()) (c_spec_l08DrawVariant.out (s, ())) ∧ @Eq (HI c_spec_l08DrawVariant.ins) (r.2, ()) (c_spec_l08DrawVariant.upd (s, ())) := fun r h => by
    subst h
    refine ⟨rfl, ?_⟩
    simp only [c_spec_l08DrawVariant]
    rw [upd_etaB (drawV8_ok hs).2.1]

  have hD := drawV8.eq_1 s
  have h0 := nxtD_ok hs 6
  have b1 := nxtD_bd h0 5
  have h1 := nxtD_ok h0 5
  have b2 := nxtD_bd h1 4
  have h2 := nxtD_ok h1 4
  have b3 := nxtD_bd h2 3
  have h3 := nxtD_ok h2 3
  have e : Int.tdiv (4 + (nxtD (nxtD s 6).2 5).1) 2 = (4 + (nxtD (nxtD s 6).2 5).1) / 2 := Int.tdiv_eq_ediv_of_nonneg (by omega)
  have b4 := nxtD_bd h3 (Int.tdiv (4 + (nxtD (nxtD s 6).2 5).1) 2)
  simp only [src_etaB, nxtD_codeB]
  refine ⟨⟨hs, by decide⟩, bspD (fun c => ⟨trivial, out _ (hD.trans (if_pos c))⟩) (fun c => ⟨⟨h0, by decide⟩, by simp only [inK]; omega, ⟨h1, by decide⟩, by simp only [inK]; omega, ⟨h2, by decide⟩, by simp only [inK]; omega, by decide, by simp only [inK]; omega, ⟨h3, by omega⟩, by simp only [inK]; omega, out _ (hD.trans (if_neg c))⟩)⟩
end Go.Proofs.Ytlnagcdnnaffgaa
