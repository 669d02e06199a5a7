/-
  Contracts: draws of variants and exact numbers.
-/
import Derived.Test.YtghfpidpefdndaaVDraw
import Derived.Test.YtghfpidpefdndaaVMul
import Derived.Test.YtghfpidpefdndaaVAdd2
namespace Go.Proofs.Ytghfpidpefdndaa
open Go.RowKit
set_option linter.unusedSimpArgs false
set_option linter.unusedVariables false
theorem nextD_code (s : DSrc) (n : Int) : (nextD s n).2.1 = s.1 := by unfold nextD; split; rfl; split <;> rfl
/-- a source again, from its bytes, its place and its seed -/
theorem src_eta {s : DSrc} {c : List Int} (h : s.1 = c) : (c, s.2.1, s.2.2) = s := by subst h; rfl
theorem nextD_eta {s : DSrc} {c : List Int} {n : Int} (h : s.1 = c) : (c, (nextD s n).2.2) = (nextD s n).2 := by
  have := nextD_code s n
  rw [← h, ← this]
theorem upd_eta {s t : DSrc} (h : t.1 = s.1) : t = (s.1, t.2) := by rw [← h]
def drawV (s : DSrc) : DVar × DSrc :=
  let a := nextD s 3
  let b := nextD a.2 3
  let c := nextD b.2 3
  let d := nextD c.2 24
  if d.1 = 0 then ((6, 1 + a.1, 1 + b.1, 7 * (nextD d.2 2).1), (nextD d.2 2).2)
  else if d.1 = 1 then ((6, 16 * (nextD d.2 2).1, 1 + b.1, 1 + c.1), (nextD d.2 2).2)
  else if d.1 = 2 then ((24, 15, 6, 6), d.2)
  else ((6, 1 + a.1, 1 + b.1, 1 + c.1), d.2)
theorem drawV_code (s : DSrc) : (drawV s).2.1 = s.1 := by
  unfold drawV
  simp only []
  repeat' split
  all_goals simp only [nextD_code]
theorem drawV_ok {s : DSrc} (h : okS s) : okS (drawV s).2 := by
  unfold drawV
  simp only []
  repeat' split
  all_goals repeat' first | exact h | refine nextD_ok ?_ _
def c_spec_l09DrawVariant : Con where
  ins := [(false, .bx (.pr (.sl (.i .u8)) tRoll))]
  outs := [(true, .v tVar)]
  sh := false
  pre := fun x => okS x.1
  out := fun x => ((drawV x.1).1, ())
  upd := fun x => ((x.1.1, (drawV x.1).2.2), ())
theorem k_spec_l09DrawVariant : ConOk Try.prog 132 c_spec_l09DrawVariant := by
  refine fn_ok (C := cx Try.prog 32 c_spec_l09DrawVariant) (cs := [(133, c_spec_l01Next)]) (res := Try.f132.results.toList) (fun _ => ⟨[], [], []⟩) Try.func132 (by kernel_rfl) rfl rfl rfl tysOk.look eqTsOk.look (AllCs.ok (l := [(133, c_spec_l01Next)]) ⟨k_spec_l01Next, trivial⟩) mixed rfl rfl rfl ?_
  refine of_nf (P := ∀ sCode : List Int, ∀ sAt : Int, ∀ sSeed : Int, (okS (sCode, sAt, sSeed)) → ((lensI c_spec_l09DrawVariant.ins ((sCode, sAt, sSeed), ())) → ((okS (sCode, sAt, sSeed) ∧ (3 : Int) ≤ 1000000000000) ∧ ((inK .i64 (1 + (nextD (sCode, sAt, sSeed) (3 : Int)).1)) ∧ ((okS (sCode, (nextD (sCode, sAt, sSeed) (3 : Int)).2.2) ∧ (3 : Int) ≤ 1000000000000) ∧ ((inK .i64 (1 + (nextD (sCode, (nextD (sCode, sAt, sSeed) (3 : Int)).2.2) (3 : Int)).1)) ∧ ((okS (sCode, (nextD (sCode, (nextD (sCode, sAt, sSeed) (3 : Int)).2.2) (3 : Int)).2.2) ∧ (3 : Int) ≤ 1000000000000) ∧ ((inK .i64 (1 + (nextD (sCode, (nextD (sCode, (nextD (sCode, sAt, sSeed) (3 : Int)).2.2) (3 : Int)).2.2) (3 : Int)).1)) ∧ ((okS (sCode, (nextD (sCode, (nextD (sCode, (nextD (sCode, sAt, sSeed) (3 : Int)).2.2) (3 : Int)).2.2) (3 : Int)).2.2) ∧ (24 : Int) ≤ 1000000000000) ∧ (bsp (decide ((nextD (sCode, (nextD (sCode, (nextD (sCode, (nextD (sCode, sAt, sSeed) (3 : Int)).2.2) (3 : Int)).2.2) (3 : Int)).2.2) (24 : Int)).1 = (0 : Int))) ((okS (sCode, (nextD (sCode, (nextD (sCode, (nextD (sCode, (nextD (sCode, sAt, sSeed) (3 : Int)).2.2) (3 : Int)).2.2) (3 : Int)).2.2) (24 : Int)).2.2) ∧ (2 : Int) ≤ 1000000000000) ∧ ((inK .i64 (7 * (nextD (sCode, (nextD (sCode, (nextD (sCode, (nextD (sCode, (nextD (sCode, sAt, sSeed) (3 : Int)).2.2) (3 : Int)).2.2) (3 : Int)).2.2) (24 : Int)).2.2) (2 : Int)).1)) ∧ (@Eq (HO c_spec_l09DrawVariant.outs) ((6, (1 + (nextD (sCode, sAt, sSeed) (3 : Int)).1), (1 + (nextD (sCode, (nextD (sCode, sAt, sSeed) (3 : Int)).2.2) (3 : Int)).1), (7 * (nextD (sCode, (nextD (sCode, (nextD (sCode, (nextD (sCode, (nextD (sCode, sAt, sSeed) (3 : Int)).2.2) (3 : Int)).2.2) (3 : Int)).2.2) (24 : Int)).2.2) (2 : Int)).1)), ()) (c_spec_l09DrawVariant.out ((sCode, sAt, sSeed), ())) ∧ @Eq (HI c_spec_l09DrawVariant.ins) ((sCode, (nextD (sCode, (nextD (sCode, (nextD (sCode, (nextD (sCode, (nextD (sCode, sAt, sSeed) (3 : Int)).2.2) (3 : Int)).2.2) (3 : Int)).2.2) (24 : Int)).2.2) (2 : Int)).2.2), ()) (c_spec_l09DrawVariant.upd ((sCode, sAt, sSeed), ()))))) (bsp (decide ((nextD (sCode, (nextD (sCode, (nextD (sCode, (nextD (sCode, sAt, sSeed) (3 : Int)).2.2) (3 : Int)).2.2) (3 : Int)).2.2) (24 : Int)).1 = (1 : Int))) ((okS (sCode, (nextD (sCode, (nextD (sCode, (nextD (sCode, (nextD (sCode, sAt, sSeed) (3 : Int)).2.2) (3 : Int)).2.2) (3 : Int)).2.2) (24 : Int)).2.2) ∧ (2 : Int) ≤ 1000000000000) ∧ ((inK .i64 (16 * (nextD (sCode, (nextD (sCode, (nextD (sCode, (nextD (sCode, (nextD (sCode, sAt, sSeed) (3 : Int)).2.2) (3 : Int)).2.2) (3 : Int)).2.2) (24 : Int)).2.2) (2 : Int)).1)) ∧ (@Eq (HO c_spec_l09DrawVariant.outs) ((6, (16 * (nextD (sCode, (nextD (sCode, (nextD (sCode, (nextD (sCode, (nextD (sCode, sAt, sSeed) (3 : Int)).2.2) (3 : Int)).2.2) (3 : Int)).2.2) (24 : Int)).2.2) (2 : Int)).1), (1 + (nextD (sCode, (nextD (sCode, sAt, sSeed) (3 : Int)).2.2) (3 : Int)).1), (1 + (nextD (sCode, (nextD (sCode, (nextD (sCode, sAt, sSeed) (3 : Int)).2.2) (3 : Int)).2.2) (3 : Int)).1)), ()) (c_spec_l09DrawVariant.out ((sCode, sAt, sSeed), ())) ∧ @Eq (HI c_spec_l09DrawVariant.ins) ((sCode, (nextD (sCode, (nextD (sCode, (nextD (sCode, (nextD (sCode, (nextD (sCode, sAt, sSeed) (3 : Int)).2.2) (3 : Int)).2.2) (3 : Int)).2.2) (24 : Int)).2.2) (2 : Int)).2.2), ()) (c_spec_l09DrawVariant.upd ((sCode, sAt, sSeed), ()))))) (bsp (decide ((nextD (sCode, (nextD (sCode, (nextD (sCode, (nextD (sCode, sAt, sSeed) (3 : Int)).2.2) (3 : Int)).2.2) (3 : Int)).2.2) (24 : Int)).1 = (2 : Int))) (@Eq (HO c_spec_l09DrawVariant.outs) ((24, 15, 6, 6), ()) (c_spec_l09DrawVariant.out ((sCode, sAt, sSeed), ())) ∧ @Eq (HI c_spec_l09DrawVariant.ins) ((sCode, (nextD (sCode, (nextD (sCode, (nextD (sCode, (nextD (sCode, sAt, sSeed) (3 : Int)).2.2) (3 : Int)).2.2) (3 : Int)).2.2) (24 : Int)).2.2), ()) (c_spec_l09DrawVariant.upd ((sCode, sAt, sSeed), ()))) (@Eq (HO c_spec_l09DrawVariant.outs) ((6, (1 + (nextD (sCode, sAt, sSeed) (3 : Int)).1), (1 + (nextD (sCode, (nextD (sCode, sAt, sSeed) (3 : Int)).2.2) (3 : Int)).1), (1 + (nextD (sCode, (nextD (sCode, (nextD (sCode, sAt, sSeed) (3 : Int)).2.2) (3 : Int)).2.2) (3 : Int)).1)), ()) (c_spec_l09DrawVariant.out ((sCode, sAt, sSeed), ())) ∧ @Eq (HI c_spec_l09DrawVariant.ins) ((sCode, (nextD (sCode, (nextD (sCode, (nextD (sCode, (nextD (sCode, sAt, sSeed) (3 : Int)).2.2) (3 : Int)).2.2) (3 : Int)).2.2) (24 : Int)).2.2), ()) (c_spec_l09DrawVariant.upd ((sCode, sAt, sSeed), ()))))))))))))))) (by kernel_rfl) ?_
  rintro sCode sAt sSeed hs hl
  have out : ∀ r : DVar × DSrc, drawV (sCode, sAt, sSeed) = r → @Eq (HO c_spec_l09DrawVariant.outs) (r.1, ()) (c_spec_l09DrawVariant.out ((sCode, sAt, sSeed), ())) ∧ @Eq (HI c_spec_l09DrawVariant.ins) (r.2, ()) (c_spec_l09DrawVariant.upd ((sCode, sAt, sSeed), ())) := fun r h => by
    subst h
    refine ⟨rfl, ?_⟩
    simp only [c_spec_l09DrawVariant]
    rw [upd_eta (drawV_code (sCode, sAt, sSeed))]
  have hD := drawV.eq_1 (sCode, sAt, sSeed)
  have h1 := nextD_ok hs 3
  have b1 := nextD_bd hs 3
  have h2 := nextD_ok h1 3
  have b2 := nextD_bd h1 3
  have h3 := nextD_ok h2 3
  have b3 := nextD_bd h2 3
  have h4 := nextD_ok h3 24
  have b4 := nextD_bd h3 24
  have h5 := nextD_ok h4 2
  have b5 := nextD_bd h4 2
  simp only [nextD_eta, nextD_code]
  refine ⟨⟨hs, by decide⟩, by simp only [inK]; omega, ⟨h1, by decide⟩, by simp only [inK]; omega, ⟨h2, by decide⟩, by simp only [inK]; omega, ⟨h3, by decide⟩, bspD (fun c => ?_) (fun c => bspD (fun c' => ?_) (fun c' => bspD (fun c'' => ?_) (fun c'' => ?_)))⟩
  · exact ⟨⟨h4, by decide⟩, by simp only [inK]; omega, out _ (hD.trans (if_pos c))⟩
  · exact ⟨⟨h4, by decide⟩, by simp only [inK]; omega, out _ (by rw [hD, if_neg c, if_pos c'])⟩
  · exact out _ (by rw [hD, if_neg c, if_neg c', if_pos c''])
  · exact out _ (by rw [hD, if_neg c, if_neg c', if_neg c''])
/-- what the reference's MakeExact returns -/
def makeS (v : DVar) (n d : Int) : DExact × Int :=
  if varD v = false then ((0, 0), 1) else if (inB n (-1000000000000000000) 1000000000000000000 && inB d 0 60 && sclB (bsD v) (max 0 (min d 61))) = false then ((0, 0), 2) else ((mkD v n d.toNat).1, 0)
theorem mkD_small {v : DVar} {n : Int} {d : Nat} (hv : varD v = true) (hn : n.natAbs ≤ 1000000000000000000) (hd : d ≤ 60) (hs : bsD v ^ d ≤ 1000000000000000) : (mkD v n d).2 = true := by
  obtain ⟨-, b1, b2, -⟩ := bsD_facts hv
  have h1 := strip_abs (bsD v) b1 d n
  have h2 := strip_end (bsD v) d n
  have h3 := strip_depth (bsD v) d n
  unfold mkD
  rw [if_pos]
  obtain ⟨z, hz⟩ : ∃ z, z = strip (bsD v) d n := ⟨_, rfl⟩
  rw [← hz] at h1 h2 h3 ⊢
  have hin : inB z.1 (-1000000000000000000) 1000000000000000000 = true := by simp [inB]; omega
  have hsc := (scl_yes (b := bsD v) (k := z.2) (d := (z.2 : Int)) rfl (Nat.le_trans (Nat.pow_le_pow_right b1 h3) hs)).1
  unfold exD
  dsimp only
  rcases h2 with h | h
  · simp [hin, h]
  · have hb2 : 1 < bsD v := by
      rcases Nat.lt_or_ge 1 (bsD v) with h2 | h2
      · exact h2
      · exfalso
        have : bsD v = 1 := by omega
        rw [this] at h; simp at h
    simp [hin, hsc, hb2, h]
def c_spec_MakeExact : Con where
  ins := [(true, .v tVar), (false, .v tI), (false, .v tI)]
  outs := [(true, .v tRoll), (false, .v tI)]
  sh := false
  pre := fun _ => True
  out := fun x => ((makeS x.1 x.2.1 x.2.2.1).1, (makeS x.1 x.2.1 x.2.2.1).2, ())
  upd := fun x => x
theorem k_spec_MakeExact : ConOk Try.prog 205 c_spec_MakeExact := by
  refine fn_okW (C := cx Try.prog 45 c_spec_MakeExact) (cs := [(82, c_spec_IsVariant), (161, c_spec_l09Scale), (109, c_spec_l01In), (213, c_spec_l09Fit)]) (res := Try.f205.results.toList) (fun _ => ⟨[], [], []⟩) Try.func205 (by kernel_rfl) rfl rfl rfl tysOk.look eqTsOk.look (AllCs.ok (l := [(82, c_spec_IsVariant), (161, c_spec_l09Scale), (109, c_spec_l01In), (213, c_spec_l09Fit)]) ⟨k_spec_IsVariant, k_spec_l09Scale, k_spec_l01In, k_spec_l09Fit, trivial⟩) mixed rfl rfl rfl ?_
  refine of_nf (P := ∀ v : Int × Int × Int × Int, ∀ n : Int, ∀ d : Int, (True) → ((lensI c_spec_MakeExact.ins (v, n, d, ())) → (True ∧ (bsp (!(varD v)) (@Eq (HO c_spec_MakeExact.outs) ((0, 0), 1, ()) (c_spec_MakeExact.out (v, n, d, ()))) ((varD v = true ∧ (max (0 : Int) (min d (61 : Int))) ≤ 9223372036854775807) ∧ (True ∧ (bsp (!(inB n (-1000000000000000000 : Int) (1000000000000000000 : Int))) (@Eq (HO c_spec_MakeExact.outs) ((0, 0), 2, ()) (c_spec_MakeExact.out (v, n, d, ()))) (True ∧ (bsp (!(inB d (0 : Int) (60 : Int))) (@Eq (HO c_spec_MakeExact.outs) ((0, 0), 2, ()) (c_spec_MakeExact.out (v, n, d, ()))) (bsp (!(sclB (bsD v) (max (0 : Int) (min d (61 : Int))))) (@Eq (HO c_spec_MakeExact.outs) ((0, 0), 2, ()) (c_spec_MakeExact.out (v, n, d, ()))) ((varD v = true ∧ FitP v n (sclV (bsD v) (max (0 : Int) (min d (61 : Int))) : Int)) ∧ (@Eq (HO c_spec_MakeExact.outs) ((fitD v n (Int.toNat (sclV (bsD v) (max (0 : Int) (min d (61 : Int))) : Int))).1, 0, ()) (c_spec_MakeExact.out (v, n, d, ())))))))))))))) (by kernel_rfl) ?_
  rintro v n d hp hl
  have out : ∀ r : DExact × Int, makeS v n d = r → @Eq (HO c_spec_MakeExact.outs) (r.1, r.2, ()) (c_spec_MakeExact.out (v, n, d, ())) := fun r h => by subst h; rfl
  refine ⟨trivial, bspB (fun h => out ((0, 0), 1) (by simp_all [makeS])) (fun h => ?_)⟩
  simp only [Bool.not_eq_false'] at h
  obtain ⟨-, b1, b2, s1, s2⟩ := bsD_facts h
  refine ⟨⟨h, by omega⟩, trivial, bspB (fun g => out ((0, 0), 2) (by simp_all [makeS])) (fun g => ⟨trivial, bspB (fun g2 => out ((0, 0), 2) (by simp_all [makeS])) (fun g2 => bspB (fun g3 => out ((0, 0), 2) (by simp_all [makeS])) (fun g3 => ?_))⟩)⟩
  simp only [Bool.not_eq_false'] at g g2 g3
  have hM : makeS v n d = ((mkD v n d.toNat).1, 0) := by simp [makeS, h, g, g2, g3]
  have gn := inBx.1 g
  have gd := inBx.1 g2
  have em : max 0 (min d 61) = d := by omega
  rw [em] at g3 ⊢
  have hb := (scl_bd b1 g3).2
  rw [scl_ok g3] at hb
  rw [scl_ok g3, Int.toNat_natCast]
  obtain ⟨F1, F2, F3⟩ := fit_mk h (by omega) (show d.toNat ≤ 60 by omega) hb (A := n)
  have hok := mkD_small h (by omega) (show d.toNat ≤ 60 by omega) hb (n := n)
  exact ⟨⟨h, F1⟩, by rw [F3 hok]; exact out _ hM⟩
def drawN (s : DSrc) : Int × DSrc :=
  let a := nextD s 200
  let k := nextD a.2 8
  if k.1 = 0 then ([0, 1, 1000000000000000000, -1000000000000000000, 999999999999999999, 999999999999999999].getD (nextD k.2 6).1.toNat 0, (nextD k.2 6).2)
  else if k.1 = 1 then ((a.1 - 60) * 1000003 * (nextD k.2 1000).1, (nextD k.2 1000).2)
  else (a.1 - 60, k.2)
def drawP (s : DSrc) : Int × DSrc :=
  let a := nextD s 4
  let t := nextD a.2 6
  if t.1 = 0 then nextD t.2 30 else (a.1, t.2)
def drawE (v : DVar) (n d : Int) (s : DSrc) : DExact × DSrc :=
  if (makeS v n d).2 ≠ 0 then ((n, d - (nextD s 3).1), (nextD s 3).2)
  else if (nextD s 24).1 = 0 then ((n, d - (nextD (nextD s 24).2 3).1), (nextD (nextD s 24).2 3).2) else ((makeS v n d).1, (nextD s 24).2)
def drawX (s : DSrc) (v : DVar) : DExact × DSrc := drawE v (drawN s).1 (drawP (drawN s).2).1 (drawP (drawN s).2).2
theorem drawN_ok {s : DSrc} (h : okS s) : okS (drawN s).2 ∧ (drawN s).2.1 = s.1 := by
  unfold drawN
  refine ⟨?_, ?_⟩
  all_goals (simp only []; repeat' split)
  all_goals first | (simp only [nextD_code]; done) | (repeat' first | exact h | refine nextD_ok ?_ _)
theorem drawP_ok {s : DSrc} (h : okS s) : okS (drawP s).2 ∧ (drawP s).2.1 = s.1 := by
  unfold drawP
  refine ⟨?_, ?_⟩
  all_goals (simp only []; repeat' split)
  all_goals first | (simp only [nextD_code]; done) | (repeat' first | exact h | refine nextD_ok ?_ _)
theorem drawE_ok {v : DVar} {n d : Int} {s : DSrc} (h : okS s) : okS (drawE v n d s).2 ∧ (drawE v n d s).2.1 = s.1 := by
  unfold drawE
  refine ⟨?_, ?_⟩
  all_goals (repeat' split)
  all_goals first | (simp only [nextD_code]; done) | (repeat' first | exact h | refine nextD_ok ?_ _)
theorem drawX_ok {s : DSrc} {v : DVar} (h : okS s) : okS (drawX s v).2 ∧ (drawX s v).2.1 = s.1 := by
  have h1 := drawN_ok h
  have h2 := drawP_ok h1.1
  have h3 := drawE_ok h2.1 (v := v) (n := (drawN s).1) (d := (drawP (drawN s).2).1)
  exact ⟨h3.1, h3.2.trans (h2.2.trans h1.2)⟩
theorem drawN_bd {s : DSrc} (h : okS s) : -1000000000000000000 ≤ (drawN s).1 ∧ (drawN s).1 ≤ 1000000000000000000 := by
  have b1 := nextD_bd h 200
  have h1 := nextD_ok h 200
  have b2 := nextD_bd h1 8
  have h2 := nextD_ok h1 8
  unfold drawN
  simp only []
  split
  · have b3 := nextD_bd h2 6
    generalize (nextD (nextD (nextD s 200).2 8).2 6).1 = k at *
    dsimp only
    have : k = 0 ∨ k = 1 ∨ k = 2 ∨ k = 3 ∨ k = 4 ∨ k = 5 := by omega
    rcases this with rfl | rfl | rfl | rfl | rfl | rfl <;> decide
  · split
    · have b3 := nextD_bd h2 1000
      generalize (nextD (nextD (nextD s 200).2 8).2 1000).1 = k at *
      generalize (nextD s 200).1 = a at *
      have h5 : (a - 60) * 1000003 ≤ 200000000 ∧ -200000000 ≤ (a - 60) * 1000003 := by omega
      have h6 : ((a - 60) * 1000003 * k).natAbs ≤ 200000000 * 1000 := by rw [Int.natAbs_mul]; exact Nat.mul_le_mul (by omega) (by omega)
      generalize (a - 60) * 1000003 * k = m at *
      dsimp only; omega
    · dsimp only; omega
theorem drawP_bd {s : DSrc} (h : okS s) : 0 ≤ (drawP s).1 ∧ (drawP s).1 ≤ 29 := by
  have b1 := nextD_bd h 4
  have b3 := nextD_bd (nextD_ok (nextD_ok h 4) 6) 30
  unfold drawP
  simp only []
  split <;> (try dsimp only) <;> omega
def c_spec_l09DrawExact : Con where
  ins := [(false, .bx (.pr (.sl (.i .u8)) tRoll)), (true, .v tVar)]
  outs := [(true, .v tRoll)]
  sh := false
  pre := fun x => okS x.1
  out := fun x => ((drawX x.1 x.2.1).1, ())
  upd := fun x => ((x.1.1, (drawX x.1 x.2.1).2.2), x.2.1, ())
theorem k_spec_l09DrawExact : ConOk Try.prog 134 c_spec_l09DrawExact := by
  refine fn_okW (C := cx Try.prog 56 c_spec_l09DrawExact) (cs := [(133, c_spec_l01Next), (205, c_spec_MakeExact)]) (res := Try.f134.results.toList) (fun x => ⟨[], [], [(7, { sh := ⟨[(0, .one (.ref 0)), (3, .one (.ref 2)), (4, .one (.ref 3)), (5, .one (.i .i64))], [(2, .box [.i .i64, .i .i64, .i .i64, .i .i64]), (3, .box [.i .i64, .i .i64]), (0, .box [.ref 1, .i .i64, .i .i64]), (1, .imm (.i .u8) false)]⟩, nx := 4, I := fun _ dat_ => (x.2.1.1 = dat_.2.1.1 ∧ x.2.1.2.1 = dat_.2.1.2.1 ∧ x.2.1.2.2.1 = dat_.2.1.2.2.1 ∧ x.2.1.2.2.2 = dat_.2.1.2.2.2.1 ∧ (0 : Int) = dat_.2.2.1.1 ∧ (0 : Int) = dat_.2.2.1.2.1 ∧ x.1.1 = dat_.2.2.2.2.1) ∧ ((dat_.1.2.2.2.1, x.1.1, dat_.2.2.2.1.2.1, dat_.2.2.2.1.2.2.1) = drawN x.1), mu := fun dat_ => 0 }), (10, { sh := ⟨[(0, .one (.ref 0)), (3, .one (.ref 2)), (4, .one (.ref 3)), (5, .one (.i .i64)), (6, .one (.i .i64))], [(2, .box [.i .i64, .i .i64, .i .i64, .i .i64]), (3, .box [.i .i64, .i .i64]), (0, .box [.ref 1, .i .i64, .i .i64]), (1, .imm (.i .u8) false)]⟩, nx := 4, I := fun _ dat_ => (x.2.1.1 = dat_.2.1.1 ∧ x.2.1.2.1 = dat_.2.1.2.1 ∧ x.2.1.2.2.1 = dat_.2.1.2.2.1 ∧ x.2.1.2.2.2 = dat_.2.1.2.2.2.1 ∧ (0 : Int) = dat_.2.2.1.1 ∧ (0 : Int) = dat_.2.2.1.2.1 ∧ x.1.1 = dat_.2.2.2.2.1) ∧ ((dat_.1.2.2.2.2.1, x.1.1, dat_.2.2.2.1.2.1, dat_.2.2.2.1.2.2.1) = drawP (drawN x.1).2 ∧ dat_.1.2.2.2.1 = (drawN x.1).1), mu := fun dat_ => 0 })]⟩) Try.func134 (by kernel_rfl) rfl rfl rfl tysOk.look eqTsOk.look (AllCs.ok (l := [(133, c_spec_l01Next), (205, c_spec_MakeExact)]) ⟨k_spec_l01Next, k_spec_MakeExact, trivial⟩) mixed rfl rfl rfl ?_
  refine of_nf (P := ∀ s : (List Int) × Int × Int, ∀ v : Int × Int × Int × Int, (okS s) → ((lensI c_spec_l09DrawExact.ins (s, v, ())) → ((okS s ∧ (200 : Int) ≤ 1000000000000) ∧ ((inK .i64 ((nextD s (200 : Int)).1 - 60)) ∧ (((okS (s.1, (nextD s (200 : Int)).2.2) ∧ (8 : Int) ≤ 1000000000000) ∧ (bsp (decide ((nextD (s.1, (nextD s (200 : Int)).2.2) (8 : Int)).1 = (0 : Int))) ((okS (s.1, (nextD (s.1, (nextD s (200 : Int)).2.2) (8 : Int)).2.2) ∧ (6 : Int) ≤ 1000000000000) ∧ ((0 ≤ (nextD (s.1, (nextD (s.1, (nextD s (200 : Int)).2.2) (8 : Int)).2.2) (6 : Int)).1 ∧ (nextD (s.1, (nextD (s.1, (nextD s (200 : Int)).2.2) (8 : Int)).2.2) (6 : Int)).1 < (([0, 1, 1000000000000000000, (-1000000000000000000), 999999999999999999, 999999999999999999] : List Int).length : Int)) ∧ (((nextD (s.1, (nextD (s.1, (nextD s (200 : Int)).2.2) (8 : Int)).2.2) (6 : Int)).1.toNat < ([0, 1, 1000000000000000000, (-1000000000000000000), 999999999999999999, 999999999999999999] : List Int).length) ∧ ((v.1 = v.1 ∧ v.2.1 = v.2.1 ∧ v.2.2.1 = v.2.2.1 ∧ v.2.2.2 = v.2.2.2 ∧ (0 : Int) = 0 ∧ (0 : Int) = 0 ∧ s.1 = s.1) ∧ (((([0, 1, 1000000000000000000, (-1000000000000000000), 999999999999999999, 999999999999999999] : List Int).getD (nextD (s.1, (nextD (s.1, (nextD s (200 : Int)).2.2) (8 : Int)).2.2) (6 : Int)).1.toNat 0), s.1, (nextD (s.1, (nextD (s.1, (nextD s (200 : Int)).2.2) (8 : Int)).2.2) (6 : Int)).2.2.1, (nextD (s.1, (nextD (s.1, (nextD s (200 : Int)).2.2) (8 : Int)).2.2) (6 : Int)).2.2.2) = drawN s))))) (bsp (decide ((nextD (s.1, (nextD s (200 : Int)).2.2) (8 : Int)).1 = (1 : Int))) ((inK .i64 (((nextD s (200 : Int)).1 - 60) * 1000003)) ∧ ((okS (s.1, (nextD (s.1, (nextD s (200 : Int)).2.2) (8 : Int)).2.2) ∧ (1000 : Int) ≤ 1000000000000) ∧ ((inK .i64 ((((nextD s (200 : Int)).1 - 60) * 1000003) * (nextD (s.1, (nextD (s.1, (nextD s (200 : Int)).2.2) (8 : Int)).2.2) (1000 : Int)).1)) ∧ ((v.1 = v.1 ∧ v.2.1 = v.2.1 ∧ v.2.2.1 = v.2.2.1 ∧ v.2.2.2 = v.2.2.2 ∧ (0 : Int) = 0 ∧ (0 : Int) = 0 ∧ s.1 = s.1) ∧ ((((((nextD s (200 : Int)).1 - 60) * 1000003) * (nextD (s.1, (nextD (s.1, (nextD s (200 : Int)).2.2) (8 : Int)).2.2) (1000 : Int)).1), s.1, (nextD (s.1, (nextD (s.1, (nextD s (200 : Int)).2.2) (8 : Int)).2.2) (1000 : Int)).2.2.1, (nextD (s.1, (nextD (s.1, (nextD s (200 : Int)).2.2) (8 : Int)).2.2) (1000 : Int)).2.2.2) = drawN s))))) ((v.1 = v.1 ∧ v.2.1 = v.2.1 ∧ v.2.2.1 = v.2.2.1 ∧ v.2.2.2 = v.2.2.2 ∧ (0 : Int) = 0 ∧ (0 : Int) = 0 ∧ s.1 = s.1) ∧ ((((nextD s (200 : Int)).1 - 60), s.1, (nextD (s.1, (nextD s (200 : Int)).2.2) (8 : Int)).2.2.1, (nextD (s.1, (nextD s (200 : Int)).2.2) (8 : Int)).2.2.2) = drawN s))))) ∧ (∀ num : Int, ∀ t3_0 : Int, ∀ t3_1 : Int, ∀ t3_2 : Int, ∀ t3_3 : Int, ∀ t4_0 : Int, ∀ t4_1 : Int, ∀ s_1 : Int, ∀ s_2 : Int, ∀ s_0 : List Int, ((v.1 = t3_0 ∧ v.2.1 = t3_1 ∧ v.2.2.1 = t3_2 ∧ v.2.2.2 = t3_3 ∧ (0 : Int) = t4_0 ∧ (0 : Int) = t4_1 ∧ s.1 = s_0) ∧ ((num, s.1, s_1, s_2) = drawN s)) → ((okS (s_0, s_1, s_2) ∧ (4 : Int) ≤ 1000000000000) ∧ (((okS (s_0, (nextD (s_0, s_1, s_2) (4 : Int)).2.2) ∧ (6 : Int) ≤ 1000000000000) ∧ (bsp (decide ((nextD (s_0, (nextD (s_0, s_1, s_2) (4 : Int)).2.2) (6 : Int)).1 = (0 : Int))) ((okS (s_0, (nextD (s_0, (nextD (s_0, s_1, s_2) (4 : Int)).2.2) (6 : Int)).2.2) ∧ (30 : Int) ≤ 1000000000000) ∧ ((v.1 = t3_0 ∧ v.2.1 = t3_1 ∧ v.2.2.1 = t3_2 ∧ v.2.2.2 = t3_3 ∧ (0 : Int) = t4_0 ∧ (0 : Int) = t4_1 ∧ s.1 = s_0) ∧ (((nextD (s_0, (nextD (s_0, (nextD (s_0, s_1, s_2) (4 : Int)).2.2) (6 : Int)).2.2) (30 : Int)).1, s.1, (nextD (s_0, (nextD (s_0, (nextD (s_0, s_1, s_2) (4 : Int)).2.2) (6 : Int)).2.2) (30 : Int)).2.2.1, (nextD (s_0, (nextD (s_0, (nextD (s_0, s_1, s_2) (4 : Int)).2.2) (6 : Int)).2.2) (30 : Int)).2.2.2) = drawP (drawN s).2 ∧ num = (drawN s).1))) ((v.1 = t3_0 ∧ v.2.1 = t3_1 ∧ v.2.2.1 = t3_2 ∧ v.2.2.2 = t3_3 ∧ (0 : Int) = t4_0 ∧ (0 : Int) = t4_1 ∧ s.1 = s_0) ∧ (((nextD (s_0, s_1, s_2) (4 : Int)).1, s.1, (nextD (s_0, (nextD (s_0, s_1, s_2) (4 : Int)).2.2) (6 : Int)).2.2.1, (nextD (s_0, (nextD (s_0, s_1, s_2) (4 : Int)).2.2) (6 : Int)).2.2.2) = drawP (drawN s).2 ∧ num = (drawN s).1)))) ∧ (∀ num_1 : Int, ∀ dep : Int, ∀ t3_0x1 : Int, ∀ t3_1x1 : Int, ∀ t3_2x1 : Int, ∀ t3_3x1 : Int, ∀ t4_0x1 : Int, ∀ t4_1x1 : Int, ∀ s_1x1 : Int, ∀ s_2x1 : Int, ∀ s_0x1 : List Int, ((v.1 = t3_0x1 ∧ v.2.1 = t3_1x1 ∧ v.2.2.1 = t3_2x1 ∧ v.2.2.2 = t3_3x1 ∧ (0 : Int) = t4_0x1 ∧ (0 : Int) = t4_1x1 ∧ s.1 = s_0x1) ∧ ((dep, s.1, s_1x1, s_2x1) = drawP (drawN s).2 ∧ num_1 = (drawN s).1)) → (True ∧ (bsp (decide ((makeS (t3_0x1, t3_1x1, t3_2x1, t3_3x1) num_1 dep).2 ≠ (0 : Int))) ((okS (s_0x1, s_1x1, s_2x1) ∧ (3 : Int) ≤ 1000000000000) ∧ ((inK .i64 (dep - (nextD (s_0x1, s_1x1, s_2x1) (3 : Int)).1)) ∧ (@Eq (HO c_spec_l09DrawExact.outs) ((num_1, (dep - (nextD (s_0x1, s_1x1, s_2x1) (3 : Int)).1)), ()) (c_spec_l09DrawExact.out (s, v, ())) ∧ @Eq (HI c_spec_l09DrawExact.ins) ((s.1, (nextD (s_0x1, s_1x1, s_2x1) (3 : Int)).2.2), v, ()) (c_spec_l09DrawExact.upd (s, v, ()))))) ((okS (s_0x1, s_1x1, s_2x1) ∧ (24 : Int) ≤ 1000000000000) ∧ (bsp (decide ((nextD (s_0x1, s_1x1, s_2x1) (24 : Int)).1 = (0 : Int))) ((okS (s_0x1, (nextD (s_0x1, s_1x1, s_2x1) (24 : Int)).2.2) ∧ (3 : Int) ≤ 1000000000000) ∧ ((inK .i64 (dep - (nextD (s_0x1, (nextD (s_0x1, s_1x1, s_2x1) (24 : Int)).2.2) (3 : Int)).1)) ∧ (@Eq (HO c_spec_l09DrawExact.outs) ((num_1, (dep - (nextD (s_0x1, (nextD (s_0x1, s_1x1, s_2x1) (24 : Int)).2.2) (3 : Int)).1)), ()) (c_spec_l09DrawExact.out (s, v, ())) ∧ @Eq (HI c_spec_l09DrawExact.ins) ((s.1, (nextD (s_0x1, (nextD (s_0x1, s_1x1, s_2x1) (24 : Int)).2.2) (3 : Int)).2.2), v, ()) (c_spec_l09DrawExact.upd (s, v, ()))))) (@Eq (HO c_spec_l09DrawExact.outs) ((makeS (t3_0x1, t3_1x1, t3_2x1, t3_3x1) num_1 dep).1, ()) (c_spec_l09DrawExact.out (s, v, ())) ∧ @Eq (HI c_spec_l09DrawExact.ins) ((s.1, (nextD (s_0x1, s_1x1, s_2x1) (24 : Int)).2.2), v, ()) (c_spec_l09DrawExact.upd (s, v, ())))))))))))))))) (by kernel_rfl) ?_
  rintro s v hs hl
  have hN := drawN.eq_1 s
  have hP := drawP.eq_1 (drawN s).2
  have h1 := nextD_ok hs 200
  have b1 := nextD_bd hs 200
  have h2 := nextD_ok h1 8
  have b6 := nextD_bd h2 6
  have b7 := nextD_bd h2 1000
  obtain ⟨n1, n2⟩ := drawN_ok hs
  have n3 := drawN_bd hs
  obtain ⟨p1, p2⟩ := drawP_ok n1
  have p3 := drawP_bd n1
  have q1 := nextD_ok n1 4
  have q2 := nextD_ok q1 6
  simp only [nextD_eta, src_eta, nextD_code]
  refine ⟨⟨hs, by decide⟩, by simp only [inK]; omega, ⟨⟨h1, by decide⟩, bspD (fun c => ⟨⟨h2, by decide⟩, ⟨by omega, by simp only [List.length_cons, List.length_nil]; omega⟩, by simp only [List.length_cons, List.length_nil]; omega, (by first | trivial | rfl | (and_intros <;> rfl)), ?_⟩) (fun c => bspD (fun c' => ⟨?_, ⟨h2, by decide⟩, ?_, (by first | trivial | rfl | (and_intros <;> rfl)), ?_⟩) (fun c' => ⟨(by first | trivial | rfl | (and_intros <;> rfl)), ?_⟩))⟩, ?_⟩
  · rw [hN, if_pos c]
  · simp only [inK]; omega
  · generalize (nextD (nextD (nextD s 200).2 8).2 1000).1 = k at *
    generalize (nextD s 200).1 = a at *
    have h5 : (a - 60) * 1000003 ≤ 200000000 ∧ -200000000 ≤ (a - 60) * 1000003 := by omega
    have h6 : ((a - 60) * 1000003 * k).natAbs ≤ 200000000 * 1000 := by rw [Int.natAbs_mul]; exact Nat.mul_le_mul (by omega) (by omega)
    generalize (a - 60) * 1000003 * k = m at *
    simp only [inK]; omega
  · rw [hN, if_neg c, if_pos c']
  · rw [hN, if_neg c, if_neg c']
  rintro num t3_0 t3_1 t3_2 t3_3 t4_0 t4_1 s_1 s_2 s_0 ⟨⟨rfl, rfl, rfl, rfl, rfl, rfl, rfl⟩, hk⟩
  have hk2 : (s.1, s_1, s_2) = (drawN s).2 := by rw [← hk]
  have hk1 : num = (drawN s).1 := by rw [← hk]
  rw [hk2]
  simp only [nextD_eta, src_eta, nextD_code, n2]
  refine ⟨⟨n1, by decide⟩, ⟨⟨q1, by decide⟩, bspD (fun c => ⟨⟨q2, by decide⟩, (by first | trivial | rfl | (and_intros <;> rfl)), ?_, hk1⟩) (fun c => ⟨(by first | trivial | rfl | (and_intros <;> rfl)), ?_, hk1⟩)⟩, ?_⟩
  · rw [hP, if_pos c]
  · rw [hP, if_neg c]
  rintro num_1 dep t3_0x1 t3_1x1 t3_2x1 t3_3x1 t4_0x1 t4_1x1 s_1x1 s_2x1 s_0x1 ⟨⟨rfl, rfl, rfl, rfl, rfl, rfl, rfl⟩, ⟨hd, hn⟩⟩
  have hd2 : (s.1, s_1x1, s_2x1) = (drawP (drawN s).2).2 := by rw [← hd]
  have hd1 : dep = (drawP (drawN s).2).1 := by rw [← hd]
  rw [hd2]
  simp only [nextD_eta, src_eta, nextD_code, n2, p2]
  simp only [Prod.eta]
  subst hd1 hn
  have out : ∀ r : DExact × DSrc, drawX s v = r → @Eq (HO c_spec_l09DrawExact.outs) (r.1, ()) (c_spec_l09DrawExact.out (s, v, ())) ∧ @Eq (HI c_spec_l09DrawExact.ins) (r.2, v, ()) (c_spec_l09DrawExact.upd (s, v, ())) := fun r h => by
    subst h
    refine ⟨rfl, ?_⟩
    simp only [c_spec_l09DrawExact]
    rw [upd_eta (drawX_ok hs).2]
  have hE := drawE.eq_1 v (drawN s).1 (drawP (drawN s).2).1 (drawP (drawN s).2).2
  have b8 := nextD_bd p1 3
  have r1 := nextD_ok p1 24
  have b9 := nextD_bd r1 3
  refine ⟨trivial, bspD (fun c => ⟨⟨p1, by decide⟩, by simp only [inK]; omega, out _ (hE.trans (if_pos c))⟩) (fun c => ⟨⟨p1, by decide⟩, bspD (fun c' => ⟨⟨r1, by decide⟩, by simp only [inK]; omega, out _ (hE.trans (by rw [if_neg c, if_pos c']))⟩) (fun c' => out _ (hE.trans (by rw [if_neg c, if_neg c'])))⟩)⟩
def drawScale (c : List Int) : DVar × DExact × Int :=
  let a := drawV (fromD c)
  let x := drawX a.2 a.1
  (a.1, x.1, [0, 1, -1, 2, 4, 9, 36, 1000, 1001, -1001, (nextD x.2 60).1 - 30].getD (nextD (nextD x.2 60).2 11).1.toNat 0)
def drawAdd (c : List Int) : DVar × DExact × DExact :=
  let a := drawV (fromD c)
  let x := drawX a.2 a.1
  (a.1, x.1, (drawX x.2 a.1).1)
theorem drawX_eta {s : DSrc} {v : DVar} {c : List Int} (h : s.1 = c) (hs : okS s) : (c, (drawX s v).2.2) = (drawX s v).2 := by
  have := (drawX_ok (v := v) hs).2
  rw [← h, ← this]
theorem drawV_eta {s : DSrc} {c : List Int} (h : s.1 = c) : (c, (drawV s).2.2) = (drawV s).2 := by
  have := drawV_code s
  rw [← h, ← this]
theorem fromD_code (c : List Int) : (fromD c).1 = c := rfl
def c_spec_DrawAddExact : Con where
  ins := [(false, .v (.sl (.i .u8)))]
  outs := [(true, .v tVar), (true, .v tRoll), (true, .v tRoll)]
  sh := false
  pre := fun x => okC x.1
  out := fun x => ((drawAdd x.1).1, (drawAdd x.1).2.1, (drawAdd x.1).2.2, ())
  upd := fun x => x
theorem k_spec_DrawAddExact : ConOk Try.prog 66 c_spec_DrawAddExact := by
  refine fn_ok (C := cx Try.prog 20 c_spec_DrawAddExact) (cs := [(131, c_spec_l01From), (132, c_spec_l09DrawVariant), (134, c_spec_l09DrawExact)]) (res := Try.f66.results.toList) (fun _ => ⟨[], [(4, ⟨[[], [], [], [], [2, 3], [0, 2, 3, 4], [0, 1, 2, 3, 4, 5], [0, 1, 2, 3, 4, 5, 6]], [[1, 2, 3, 4], [0, 2, 3, 4, 5], [0, 1, 3], [0, 1, 2], [0, 1], [1], [], []], [[65], [65, 1], [], [], [], [], [], []]⟩)], []⟩) Try.func66 (by kernel_rfl) rfl rfl rfl tysOk.look eqTsOk.look (AllCs.ok (l := [(131, c_spec_l01From), (132, c_spec_l09DrawVariant), (134, c_spec_l09DrawExact)]) ⟨k_spec_l01From, k_spec_l09DrawVariant, k_spec_l09DrawExact, trivial⟩) mixed rfl rfl rfl ?_
  refine of_nf (P := ∀ c : List Int, (okC c) → ((lensI c_spec_DrawAddExact.ins (c, ())) → ((okC c) ∧ ((okS (fromD c)) ∧ ((okS ((fromD c).1, (drawV (fromD c)).2.2)) ∧ ((okS ((fromD c).1, (drawX ((fromD c).1, (drawV (fromD c)).2.2) (drawV (fromD c)).1).2.2)) ∧ (@Eq (HO c_spec_DrawAddExact.outs) ((drawV (fromD c)).1, (drawX ((fromD c).1, (drawV (fromD c)).2.2) (drawV (fromD c)).1).1, (drawX ((fromD c).1, (drawX ((fromD c).1, (drawV (fromD c)).2.2) (drawV (fromD c)).1).2.2) (drawV (fromD c)).1).1, ()) (c_spec_DrawAddExact.out (c, ()))))))))) (by kernel_rfl) ?_
  rintro c hs hl
  have hF := fromD_ok hs
  have hV := drawV_ok hF
  have hX := (drawX_ok (v := (drawV (fromD c)).1) hV).1
  have e1 : ((fromD c).1, (drawV (fromD c)).2.2) = (drawV (fromD c)).2 := drawV_eta rfl
  rw [e1]
  have e2 : ((fromD c).1, (drawX (drawV (fromD c)).2 (drawV (fromD c)).1).2.2) = (drawX (drawV (fromD c)).2 (drawV (fromD c)).1).2 := drawX_eta (drawV_code _) hV
  rw [e2]
  exact ⟨hs, hF, hV, hX, rfl⟩
def c_spec_DrawScaleExact : Con where
  ins := [(false, .v (.sl (.i .u8)))]
  outs := [(true, .v tVar), (true, .v tRoll), (false, .v tI)]
  sh := false
  pre := fun x => okC x.1
  out := fun x => ((drawScale x.1).1, (drawScale x.1).2.1, (drawScale x.1).2.2, ())
  upd := fun x => x
theorem k_spec_DrawScaleExact : ConOk Try.prog 61 c_spec_DrawScaleExact := by
  refine fn_ok (C := cx Try.prog 25 c_spec_DrawScaleExact) (cs := [(131, c_spec_l01From), (132, c_spec_l09DrawVariant), (134, c_spec_l09DrawExact), (133, c_spec_l01Next)]) (res := Try.f61.results.toList) (fun _ => ⟨[], [(4, ⟨[[], [], [], [2], [2, 3], [2, 3, 4], [], [2, 3, 6], [2, 3, 4, 5, 6, 7], [2, 3, 4, 5, 6, 7, 8], [0, 2, 3, 6, 7], [0, 1, 2, 3, 6, 7, 10], [0, 1, 2, 3, 4, 5, 6, 7, 8, 9, 10, 11]], [[1, 2, 3, 4, 5, 6, 7, 8, 9], [0, 2, 3, 4, 5, 6, 7, 8, 9, 10], [0, 1, 6], [0, 1, 6], [0, 1, 6, 7, 10, 11], [0, 1, 6, 7, 10, 11], [0, 1, 2, 3, 4, 5], [0, 1, 4, 5], [0, 1, 10, 11], [0, 1, 10, 11], [1, 4, 5, 8, 9], [4, 5, 8, 9], []], [[65], [65, 1], [], [], [65, 1, 17], [65, 1, 17], [65], [], [1, 17], [1, 17], [], [], []]⟩)], []⟩) Try.func61 (by kernel_rfl) rfl rfl rfl tysOk.look eqTsOk.look (AllCs.ok (l := [(131, c_spec_l01From), (132, c_spec_l09DrawVariant), (134, c_spec_l09DrawExact), (133, c_spec_l01Next)]) ⟨k_spec_l01From, k_spec_l09DrawVariant, k_spec_l09DrawExact, k_spec_l01Next, trivial⟩) mixed rfl rfl rfl ?_
  refine of_nf (P := ∀ c : List Int, (okC c) → ((lensI c_spec_DrawScaleExact.ins (c, ())) → ((okC c) ∧ ((okS (fromD c)) ∧ ((okS ((fromD c).1, (drawV (fromD c)).2.2)) ∧ ((okS ((fromD c).1, (drawX ((fromD c).1, (drawV (fromD c)).2.2) (drawV (fromD c)).1).2.2) ∧ (60 : Int) ≤ 1000000000000) ∧ ((inK .i64 ((nextD ((fromD c).1, (drawX ((fromD c).1, (drawV (fromD c)).2.2) (drawV (fromD c)).1).2.2) (60 : Int)).1 - 30)) ∧ ((okS ((fromD c).1, (nextD ((fromD c).1, (drawX ((fromD c).1, (drawV (fromD c)).2.2) (drawV (fromD c)).1).2.2) (60 : Int)).2.2) ∧ (11 : Int) ≤ 1000000000000) ∧ ((0 ≤ (nextD ((fromD c).1, (nextD ((fromD c).1, (drawX ((fromD c).1, (drawV (fromD c)).2.2) (drawV (fromD c)).1).2.2) (60 : Int)).2.2) (11 : Int)).1 ∧ (nextD ((fromD c).1, (nextD ((fromD c).1, (drawX ((fromD c).1, (drawV (fromD c)).2.2) (drawV (fromD c)).1).2.2) (60 : Int)).2.2) (11 : Int)).1 < (([0, 1, (-1), 2, 4, 9, 36, 1000, 1001, (-1001), ((nextD ((fromD c).1, (drawX ((fromD c).1, (drawV (fromD c)).2.2) (drawV (fromD c)).1).2.2) (60 : Int)).1 - 30)] : List Int).length : Int)) ∧ (((nextD ((fromD c).1, (nextD ((fromD c).1, (drawX ((fromD c).1, (drawV (fromD c)).2.2) (drawV (fromD c)).1).2.2) (60 : Int)).2.2) (11 : Int)).1.toNat < ([0, 1, (-1), 2, 4, 9, 36, 1000, 1001, (-1001), ((nextD ((fromD c).1, (drawX ((fromD c).1, (drawV (fromD c)).2.2) (drawV (fromD c)).1).2.2) (60 : Int)).1 - 30)] : List Int).length) ∧ (@Eq (HO c_spec_DrawScaleExact.outs) ((drawV (fromD c)).1, (drawX ((fromD c).1, (drawV (fromD c)).2.2) (drawV (fromD c)).1).1, (([0, 1, (-1), 2, 4, 9, 36, 1000, 1001, (-1001), ((nextD ((fromD c).1, (drawX ((fromD c).1, (drawV (fromD c)).2.2) (drawV (fromD c)).1).2.2) (60 : Int)).1 - 30)] : List Int).getD (nextD ((fromD c).1, (nextD ((fromD c).1, (drawX ((fromD c).1, (drawV (fromD c)).2.2) (drawV (fromD c)).1).2.2) (60 : Int)).2.2) (11 : Int)).1.toNat 0), ()) (c_spec_DrawScaleExact.out (c, ()))))))))))))) (by kernel_rfl) ?_
  rintro c hs hl
  have hF := fromD_ok hs
  have hV := drawV_ok hF
  have hX := (drawX_ok (v := (drawV (fromD c)).1) hV).1
  have e1 : ((fromD c).1, (drawV (fromD c)).2.2) = (drawV (fromD c)).2 := drawV_eta rfl
  rw [e1]
  have e2 : ((fromD c).1, (drawX (drawV (fromD c)).2 (drawV (fromD c)).1).2.2) = (drawX (drawV (fromD c)).2 (drawV (fromD c)).1).2 := drawX_eta (drawV_code _) hV
  rw [e2]
  have e3 : ((fromD c).1, (nextD (drawX (drawV (fromD c)).2 (drawV (fromD c)).1).2 60).2.2) = (nextD (drawX (drawV (fromD c)).2 (drawV (fromD c)).1).2 60).2 := nextD_eta ((drawX_ok hV).2.trans (drawV_code _))
  rw [e3]
  have hN := nextD_ok hX 60
  have b1 := nextD_bd hX 60
  have b2 := nextD_bd hN 11
  exact ⟨hs, hF, hV, ⟨hX, by decide⟩, by simp only [inK]; omega, ⟨hN, by decide⟩, ⟨by omega, by simp only [List.length_cons, List.length_nil]; omega⟩, by simp only [List.length_cons, List.length_nil]; omega, rfl⟩
/-- numbers that fit, as a draw brings them -/
def okV64 (v : DVar) : Prop := (-100 ≤ v.1 ∧ v.1 ≤ 100) ∧ (-100 ≤ v.2.1 ∧ v.2.1 ≤ 100) ∧ (-100 ≤ v.2.2.1 ∧ v.2.2.1 ≤ 100) ∧ 0 ≤ v.2.2.2 ∧ v.2.2.2 ≤ 7
def okX64 (x : DExact) : Prop := (-1000000000000000000 ≤ x.1 ∧ x.1 ≤ 1000000000000000000) ∧ -10 ≤ x.2 ∧ x.2 ≤ 1000
theorem drawV_bd {s : DSrc} (h : okS s) : okV64 (drawV s).1 := by
  have b1 := nextD_bd h 3
  have h1 := nextD_ok h 3
  have b2 := nextD_bd h1 3
  have h2 := nextD_ok h1 3
  have b3 := nextD_bd h2 3
  have h3 := nextD_ok h2 3
  have b5 := nextD_bd (nextD_ok h3 24) 2
  unfold drawV okV64
  simp only []
  repeat' split
  all_goals (try dsimp only)
  all_goals omega
theorem makeS_bd {v : DVar} {n d : Int} (hc : ¬ (makeS v n d).2 ≠ 0) : okX64 (makeS v n d).1 := by
  unfold makeS at hc ⊢
  split at hc
  · exact absurd (by decide) hc
  · next h1 =>
    split at hc
    · exact absurd (by decide) hc
    · next h2 =>
      rw [if_neg h1, if_neg h2]
      have hv : varD v = true := by simpa using h1
      simp only [Bool.and_eq_false_iff, not_or, Bool.not_eq_false] at h2
      obtain ⟨⟨g1, g2⟩, g3⟩ := h2
      have gn := inBx.1 g1
      have gd := inBx.1 g2
      obtain ⟨-, b1, -⟩ := bsD_facts hv
      rw [show max 0 (min d 61) = d by omega] at g3
      have hb := (scl_bd b1 g3).2
      rw [scl_ok g3] at hb
      obtain ⟨h3, h4, h5⟩ := (exD_in hv (mkD_ok (mkD_small hv (n := n) (d := d.toNat) (by omega) (by omega) hb))).1
      refine ⟨h3, ?_, ?_⟩ <;> dsimp only <;> omega
theorem drawX_bd {s : DSrc} {v : DVar} (h : okS s) : okX64 (drawX s v).1 := by
  have n1 := drawN_bd h
  have n2 := (drawN_ok h).1
  have p1 := drawP_bd n2
  have p2 := (drawP_ok n2).1
  have b1 := nextD_bd p2 3
  have b2 := nextD_bd (nextD_ok p2 24) 3
  unfold drawX drawE
  split
  · unfold okX64; dsimp only; omega
  · split
    · unfold okX64; dsimp only; omega
    · next hc _ => exact makeS_bd hc
end Go.Proofs.Ytghfpidpefdndaa
