/-
  Contracts: draws of variants with few points.
-/
import Derived.Test.YtgfpojneeekgkaaVDraw
namespace Go.Proofs.Ytgfpojneeekgkaa
open Go.RowKit
set_option linter.unusedSimpArgs false
set_option linter.unusedVariables false
theorem nxtD_code (s : DSrc) (n : Int) : (nxtD s n).2.1 = s.1 := by unfold nxtD; split; rfl; split <;> rfl
/-- a source again, from its bytes, its place and its seed -/
theorem src_eta {s : DSrc} {c : List Int} (h : s.1 = c) : (c, s.2.1, s.2.2) = s := by subst h; rfl
theorem nxtD_eta {s : DSrc} {c : List Int} {n : Int} (h : s.1 = c) : (c, (nxtD s n).2.2) = (nxtD s n).2 := by
  have := nxtD_code s n
  rw [← h, ← this]
theorem upd_eta {s t : DSrc} (h : t.1 = s.1) : t = (s.1, t.2) := by rw [← h]
def drawV (s : DSrc) : DVar × DSrc :=
  let a := nxtD s 3
  let b := nxtD a.2 3
  let c := nxtD b.2 3
  let d := nxtD c.2 24
  if d.1 = 0 then ((6, 1 + a.1, 1 + b.1, 7 * (nxtD d.2 2).1), (nxtD d.2 2).2)
  else if d.1 = 1 then ((6, 16 * (nxtD d.2 2).1, 1 + b.1, 1 + c.1), (nxtD d.2 2).2)
  else if d.1 = 2 then ((24, 15, 6, 6), d.2)
  else ((6, 1 + a.1, 1 + b.1, 1 + c.1), d.2)
theorem drawV_code (s : DSrc) : (drawV s).2.1 = s.1 := by
  unfold drawV
  simp only []
  repeat' split
  all_goals simp only [nxtD_code]
theorem drawV_ok {s : DSrc} (h : okS s) : okS (drawV s).2 := by
  unfold drawV
  simp only []
  repeat' split
  all_goals repeat' first | exact h | refine nxtD_ok ?_ _
def c_spec_l09DrawVariant : Con where
  ins := [(false, .bx (.pr (.sl (.i .u8)) tRoll))]
  outs := [(true, .v tVar)]
  sh := false
  pre := fun x => okS x.1
  out := fun x => ((drawV x.1).1, ())
  upd := fun x => ((x.1.1, (drawV x.1).2.2), ())
  eat := false
theorem k_spec_l09DrawVariant [B : Base] : ConOk Try.prog 57 c_spec_l09DrawVariant := by
  refine fn_ok (C := cx Try.prog 32 c_spec_l09DrawVariant) (cs := [(56, c_spec_l01Next)]) (res := Try.f57.results.toList) (fun _ => ⟨[], [], []⟩) Try.func57 (by kernel_rfl) rfl rfl rfl tysOk.look eqTsOk.look (AllCs.ok (l := [(56, c_spec_l01Next)]) ⟨k_spec_l01Next, trivial⟩) mixed rfl rfl rfl rfl ?_
  refine of_nf (P := ∀ sCode : List Int, ∀ sAt : Int, ∀ sSeed : Int, (okS (sCode, sAt, sSeed)) → ((lensI c_spec_l09DrawVariant.ins ((sCode, sAt, sSeed), ())) → ((okS (sCode, sAt, sSeed) ∧ (3 : Int) ≤ 1000000000000) ∧ ((inK .i64 (1 + (nxtD (sCode, sAt, sSeed) (3 : Int)).1)) ∧ ((okS (sCode, (nxtD (sCode, sAt, sSeed) (3 : Int)).2.2) ∧ (3 : Int) ≤ 1000000000000) ∧ ((inK .i64 (1 + (nxtD (sCode, (nxtD (sCode, sAt, sSeed) (3 : Int)).2.2) (3 : Int)).1)) ∧ ((okS (sCode, (nxtD (sCode, (nxtD (sCode, sAt, sSeed) (3 : Int)).2.2) (3 : Int)).2.2) ∧ (3 : Int) ≤ 1000000000000) ∧ ((inK .i64 (1 + (nxtD (sCode, (nxtD (sCode, (nxtD (sCode, sAt, sSeed) (3 : Int)).2.2) (3 : Int)).2.2) (3 : Int)).1)) ∧ ((okS (sCode, (nxtD (sCode, (nxtD (sCode, (nxtD (sCode, sAt, sSeed) (3 : Int)).2.2) (3 : Int)).2.2) (3 : Int)).2.2) ∧ (24 : Int) ≤ 1000000000000) ∧ (bsp (decide ((nxtD (sCode, (nxtD (sCode, (nxtD (sCode, (nxtD (sCode, sAt, sSeed) (3 : Int)).2.2) (3 : Int)).2.2) (3 : Int)).2.2) (24 : Int)).1 = (0 : Int))) ((okS (sCode, (nxtD (sCode, (nxtD (sCode, (nxtD (sCode, (nxtD (sCode, sAt, sSeed) (3 : Int)).2.2) (3 : Int)).2.2) (3 : Int)).2.2) (24 : Int)).2.2) ∧ (2 : Int) ≤ 1000000000000) ∧ ((inK .i64 (7 * (nxtD (sCode, (nxtD (sCode, (nxtD (sCode, (nxtD (sCode, (nxtD (sCode, sAt, sSeed) (3 : Int)).2.2) (3 : Int)).2.2) (3 : Int)).2.2) (24 : Int)).2.2) (2 : Int)).1)) ∧ (@Eq (HO c_spec_l09DrawVariant.outs) ((6, (1 + (nxtD (sCode, sAt, sSeed) (3 : Int)).1), (1 + (nxtD (sCode, (nxtD (sCode, sAt, sSeed) (3 : Int)).2.2) (3 : Int)).1), (7 * (nxtD (sCode, (nxtD (sCode, (nxtD (sCode, (nxtD (sCode, (nxtD (sCode, sAt, sSeed) (3 : Int)).2.2) (3 : Int)).2.2) (3 : Int)).2.2) (24 : Int)).2.2) (2 : Int)).1)), ()) (c_spec_l09DrawVariant.out ((sCode, sAt, sSeed), ())) ∧ @Eq (HI c_spec_l09DrawVariant.ins) ((sCode, (nxtD (sCode, (nxtD (sCode, (nxtD (sCode, (nxtD (sCode, (nxtD (sCode, sAt, sSeed) (3 : Int)).2.2) (3 : Int)).2.2) (3 : Int)).2.2) (24 : Int)).2.2) (2 : Int)).2.2), ()) (c_spec_l09DrawVariant.upd ((sCode, sAt, sSeed), ()))))) (bsp (decide ((nxtD (sCode, (nxtD (sCode, (nxtD (sCode, (nxtD (sCode, sAt, sSeed) (3 : Int)).2.2) (3 : Int)).2.2) (3 : Int)).2.2) (24 : Int)).1 = (1 : Int))) ((okS (sCode, (nxtD (sCode, (nxtD (sCode, (nxtD (sCode, (nxtD (sCode, sAt, sSeed) (3 : Int)).2.2) (3 : Int)).2.2) (3 : Int)).2.2) (24 : Int)).2.2) ∧ (2 : Int) ≤ 1000000000000) ∧ ((inK .i64 (16 * (nxtD (sCode, (nxtD (sCode, (nxtD (sCode, (nxtD (sCode, (nxtD (sCode, sAt, sSeed) (3 : Int)).2.2) (3 : Int)).2.2) (3 : Int)).2.2) (24 : Int)).2.2) (2 : Int)).1)) ∧ (@Eq (HO c_spec_l09DrawVariant.outs) ((6, (16 * (nxtD (sCode, (nxtD (sCode, (nxtD (sCode, (nxtD (sCode, (nxtD (sCode, sAt, sSeed) (3 : Int)).2.2) (3 : Int)).2.2) (3 : Int)).2.2) (24 : Int)).2.2) (2 : Int)).1), (1 + (nxtD (sCode, (nxtD (sCode, sAt, sSeed) (3 : Int)).2.2) (3 : Int)).1), (1 + (nxtD (sCode, (nxtD (sCode, (nxtD (sCode, sAt, sSeed) (3 : Int)).2.2) (3 : Int)).2.2) (3 : Int)).1)), ()) (c_spec_l09DrawVariant.out ((sCode, sAt, sSeed), ())) ∧ @Eq (HI c_spec_l09DrawVariant.ins) ((sCode, (nxtD (sCode, (nxtD (sCode, (nxtD (sCode, (nxtD (sCode, (nxtD (sCode, sAt, sSeed) (3 : Int)).2.2) (3 : Int)).2.2) (3 : Int)).2.2) (24 : Int)).2.2) (2 : Int)).2.2), ()) (c_spec_l09DrawVariant.upd ((sCode, sAt, sSeed), ()))))) (bsp (decide ((nxtD (sCode, (nxtD (sCode, (nxtD (sCode, (nxtD (sCode, sAt, sSeed) (3 : Int)).2.2) (3 : Int)).2.2) (3 : Int)).2.2) (24 : Int)).1 = (2 : Int))) (@Eq (HO c_spec_l09DrawVariant.outs) ((24, 15, 6, 6), ()) (c_spec_l09DrawVariant.out ((sCode, sAt, sSeed), ())) ∧ @Eq (HI c_spec_l09DrawVariant.ins) ((sCode, (nxtD (sCode, (nxtD (sCode, (nxtD (sCode, (nxtD (sCode, sAt, sSeed) (3 : Int)).2.2) (3 : Int)).2.2) (3 : Int)).2.2) (24 : Int)).2.2), ()) (c_spec_l09DrawVariant.upd ((sCode, sAt, sSeed), ()))) (@Eq (HO c_spec_l09DrawVariant.outs) ((6, (1 + (nxtD (sCode, sAt, sSeed) (3 : Int)).1), (1 + (nxtD (sCode, (nxtD (sCode, sAt, sSeed) (3 : Int)).2.2) (3 : Int)).1), (1 + (nxtD (sCode, (nxtD (sCode, (nxtD (sCode, sAt, sSeed) (3 : Int)).2.2) (3 : Int)).2.2) (3 : Int)).1)), ()) (c_spec_l09DrawVariant.out ((sCode, sAt, sSeed), ())) ∧ @Eq (HI c_spec_l09DrawVariant.ins) ((sCode, (nxtD (sCode, (nxtD (sCode, (nxtD (sCode, (nxtD (sCode, sAt, sSeed) (3 : Int)).2.2) (3 : Int)).2.2) (3 : Int)).2.2) (24 : Int)).2.2), ()) (c_spec_l09DrawVariant.upd ((sCode, sAt, sSeed), ()))))))))))))))) (by kernel_rfl) ?_
  rintro sCode sAt sSeed hs hl
  have out : ∀ r : DVar × DSrc, drawV (sCode, sAt, sSeed) = r → @Eq (HO c_spec_l09DrawVariant.outs) (r.1, ()) (c_spec_l09DrawVariant.out ((sCode, sAt, sSeed), ())) ∧ @Eq (HI c_spec_l09DrawVariant.ins) (r.2, ()) (c_spec_l09DrawVariant.upd ((sCode, sAt, sSeed), ())) := fun r h => by
    subst h
    refine ⟨rfl, ?_⟩
    simp only [c_spec_l09DrawVariant]
    rw [upd_eta (drawV_code (sCode, sAt, sSeed))]
  have hD := drawV.eq_1 (sCode, sAt, sSeed)
  have h1 := nxtD_ok hs 3
  have b1 := nxtD_bd hs 3
  have h2 := nxtD_ok h1 3
  have b2 := nxtD_bd h1 3
  have h3 := nxtD_ok h2 3
  have b3 := nxtD_bd h2 3
  have h4 := nxtD_ok h3 24
  have b4 := nxtD_bd h3 24
  have h5 := nxtD_ok h4 2
  have b5 := nxtD_bd h4 2
  simp only [nxtD_eta, nxtD_code]
  refine ⟨⟨hs, by decide⟩, by simp only [inK]; omega, ⟨h1, by decide⟩, by simp only [inK]; omega, ⟨h2, by decide⟩, by simp only [inK]; omega, ⟨h3, by decide⟩, bspD (fun c => ?_) (fun c => bspD (fun c' => ?_) (fun c' => bspD (fun c'' => ?_) (fun c'' => ?_)))⟩
  · exact ⟨⟨h4, by decide⟩, by simp only [inK]; omega, out _ (hD.trans (if_pos c))⟩
  · exact ⟨⟨h4, by decide⟩, by simp only [inK]; omega, out _ (by rw [hD, if_neg c, if_pos c'])⟩
  · exact out _ (by rw [hD, if_neg c, if_neg c', if_pos c''])
  · exact out _ (by rw [hD, if_neg c, if_neg c', if_neg c''])
/-- numbers that fit, as a draw brings them -/
def okV64 (v : DVar) : Prop := (-100 ≤ v.1 ∧ v.1 ≤ 100) ∧ (-100 ≤ v.2.1 ∧ v.2.1 ≤ 100) ∧ (-100 ≤ v.2.2.1 ∧ v.2.2.1 ≤ 100) ∧ 0 ≤ v.2.2.2 ∧ v.2.2.2 ≤ 7
theorem drawV_bd {s : DSrc} (h : okS s) : okV64 (drawV s).1 := by
  have b1 := nxtD_bd h 3
  have h1 := nxtD_ok h 3
  have b2 := nxtD_bd h1 3
  have h2 := nxtD_ok h1 3
  have b3 := nxtD_bd h2 3
  have h3 := nxtD_ok h2 3
  have b5 := nxtD_bd (nxtD_ok h3 24) 2
  unfold drawV okV64
  simp only []
  repeat' split
  all_goals (try dsimp only)
  all_goals omega
end Go.Proofs.Ytgfpojneeekgkaa
