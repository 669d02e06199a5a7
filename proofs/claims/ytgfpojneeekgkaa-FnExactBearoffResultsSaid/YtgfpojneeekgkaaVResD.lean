/-
  Contracts: draws of positions and rolls; pips; results with codes; greedy results.
-/
import Derived.Test.YtgfpojneeekgkaaVResC
import Derived.Test.YtgfpojneeekgkaaVDrawV
import Derived.Test.YtgfpojneeekgkaaAbL
namespace Go.Proofs.Ytgfpojneeekgkaa
open Go.RowKit
set_option linter.unusedSimpArgs false
set_option linter.unusedVariables false
def drawBig (s : DSrc) : DVar × DSrc :=
  if (nxtD s 2).1 = 0 then drawV (nxtD s 2).2
  else ((12, 1 + (nxtD (nxtD s 2).2 6).1, 1 + (nxtD (nxtD (nxtD s 2).2 6).2 6).1, 1 + (nxtD (nxtD (nxtD (nxtD s 2).2 6).2 6).2 6).1), (nxtD (nxtD (nxtD (nxtD s 2).2 6).2 6).2 6).2)
theorem src_etaN {s : DSrc} {c : List Int} (h : s.1 = c) : (c, s.2) = s := by subst h; rfl
def okW (v : DVar) : Prop := (0 ≤ v.2.1 ∧ v.2.1 ≤ 100) ∧ 0 ≤ v.2.2.1 ∧ v.2.2.1 ≤ 100
theorem drawV_cnt {s : DSrc} (h : okS s) : okW (drawV s).1 := by
  have b1 := nxtD_bd h 3
  have h1 := nxtD_ok h 3
  have b2 := nxtD_bd h1 3
  have h2 := nxtD_ok h1 3
  have b3 := nxtD_bd h2 3
  have h3 := nxtD_ok h2 3
  have b5 := nxtD_bd (nxtD_ok h3 24) 2
  unfold drawV okW
  simp only []
  repeat' split
  all_goals (try dsimp only)
  all_goals omega
theorem drawBig_ok {s : DSrc} (h : okS s) : okS (drawBig s).2 ∧ (drawBig s).2.1 = s.1 ∧ okW (drawBig s).1 := by
  have h1 := nxtD_ok h 2
  have b2 := nxtD_bd h1 6
  have h2 := nxtD_ok h1 6
  have b3 := nxtD_bd h2 6
  have h3 := nxtD_ok h2 6
  have h4 := nxtD_ok h3 6
  unfold drawBig
  split
  · exact ⟨drawV_ok h1, by rw [drawV_code, nxtD_code], drawV_cnt h1⟩
  · refine ⟨h4, by simp only [nxtD_code], ?_⟩
    unfold okW; dsimp only; omega
def drN (p : (List Int × Int) × DSrc) : Int := if (nxtD (nxtD p.2 (max 1 (p.1.2 + 1))).2 3).1 = 0 then 0 else (nxtD p.2 (max 1 (p.1.2 + 1))).1
def drStep (p : (List Int × Int) × DSrc) : (List Int × Int) × DSrc := ((p.1.1 ++ [drN p], p.1.2 - drN p), (nxtD (nxtD p.2 (max 1 (p.1.2 + 1))).2 3).2)
def drIt (p : (List Int × Int) × DSrc) : Nat → (List Int × Int) × DSrc
  | 0 => p
  | n + 1 => drStep (drIt p n)
def drEnd (c : Int) (l : List Int) (s : DSrc) : List Int × DSrc :=
  (if (nxtD s 30).1 = 0 then l ++ [0] else if (nxtD s 30).1 = 1 then (if 0 < l.length then l.set 0 (-1) else l) else if (nxtD s 30).1 = 2 then (if 0 < l.length then l.set (l.length - 1) (c + 1) else l) else l, (nxtD s 30).2)
def drawP0 (s : DSrc) (v : DVar) : (List Int × Int) × DSrc := drIt (([], v.2.1), s) (min 24 v.2.2.1).toNat
def drawPos (s : DSrc) (v : DVar) : List Int × DSrc := drEnd v.2.1 (drawP0 s v).1.1 (drawP0 s v).2
theorem drIt_ok {s : DSrc} {c : Int} (h : okS s) (hc : 0 ≤ c ∧ c ≤ 100) : ∀ n, okS (drIt (([], c), s) n).2 ∧ (drIt (([], c), s) n).2.1 = s.1 ∧ (drIt (([], c), s) n).1.1.length = n ∧ (0 ≤ (drIt (([], c), s) n).1.2 ∧ (drIt (([], c), s) n).1.2 ≤ c)
  | 0 => ⟨h, rfl, rfl, by simp only [drIt]; omega⟩
  | n + 1 => by
    obtain ⟨i1, i2, i3, i4⟩ := drIt_ok h hc n
    have b1 := nxtD_bd i1 (max 1 ((drIt (([], c), s) n).1.2 + 1))
    have j1 := nxtD_ok i1 (max 1 ((drIt (([], c), s) n).1.2 + 1))
    have j2 := nxtD_ok j1 3
    refine ⟨j2, by simp only [drIt, drStep, nxtD_code, i2], by simp [drIt, drStep, i3], ?_⟩
    simp only [drIt, drStep, drN]
    split <;> omega
theorem drawPos_ok {s : DSrc} {v : DVar} (h : okS s) (hv : okW v) : okS (drawPos s v).2 ∧ (drawPos s v).2.1 = s.1 ∧ (drawPos s v).1.length ≤ 25 := by
  obtain ⟨i1, i2, i3, i4⟩ := drIt_ok h hv.1 (min 24 v.2.2.1).toNat
  refine ⟨nxtD_ok i1 30, by simp only [drawPos, drEnd, nxtD_code]; exact i2, ?_⟩
  have hl : (drawP0 s v).1.1.length ≤ 24 := by
    have : (drawP0 s v).1.1.length = (min 24 v.2.2.1).toNat := i3
    omega
  simp only [drawPos, drEnd]
  repeat' split
  all_goals first | (simp; omega) | omega
def c_spec_l10DrawBig : Con where
  ins := [(false, .bx (.pr (.sl (.i .u8)) tRoll))]
  outs := [(true, .v tVar)]
  sh := false
  pre := fun x => okS x.1
  out := fun x => ((drawBig x.1).1, ())
  upd := fun x => ((x.1.1, (drawBig x.1).2.2), ())
  eat := false
theorem k_spec_l10DrawBig [B : Base] : ConOk Try.prog 37 c_spec_l10DrawBig := by
  refine fn_okW (C := cx Try.prog 18 c_spec_l10DrawBig) (cs := [(56, c_spec_l01Next), (57, c_spec_l09DrawVariant)]) (res := Try.f37.results.toList) (fun _ => ⟨[], [], []⟩) Try.func37 (by kernel_rfl) rfl rfl rfl tysOk.look eqTsOk.look (AllCs.ok (l := [(56, c_spec_l01Next), (57, c_spec_l09DrawVariant)]) ⟨k_spec_l01Next, k_spec_l09DrawVariant, trivial⟩) mixed rfl rfl rfl rfl ?_
  refine of_nf (P := ∀ s : (List Int) × Int × Int, (okS s) → ((lensI c_spec_l10DrawBig.ins (s, ())) → ((okS s ∧ (2 : Int) ≤ 1000000000000) ∧ (bsp (decide ((nxtD s (2 : Int)).1 = (0 : Int))) ((okS (s.1, (nxtD s (2 : Int)).2.2)) ∧ (@Eq (HO c_spec_l10DrawBig.outs) ((drawV (s.1, (nxtD s (2 : Int)).2.2)).1, ()) (c_spec_l10DrawBig.out (s, ())) ∧ @Eq (HI c_spec_l10DrawBig.ins) ((s.1, (drawV (s.1, (nxtD s (2 : Int)).2.2)).2.2), ()) (c_spec_l10DrawBig.upd (s, ())))) ((okS (s.1, (nxtD s (2 : Int)).2.2) ∧ (6 : Int) ≤ 1000000000000) ∧ ((inK .i64 (1 + (nxtD (s.1, (nxtD s (2 : Int)).2.2) (6 : Int)).1)) ∧ ((okS (s.1, (nxtD (s.1, (nxtD s (2 : Int)).2.2) (6 : Int)).2.2) ∧ (6 : Int) ≤ 1000000000000) ∧ ((inK .i64 (1 + (nxtD (s.1, (nxtD (s.1, (nxtD s (2 : Int)).2.2) (6 : Int)).2.2) (6 : Int)).1)) ∧ ((okS (s.1, (nxtD (s.1, (nxtD (s.1, (nxtD s (2 : Int)).2.2) (6 : Int)).2.2) (6 : Int)).2.2) ∧ (6 : Int) ≤ 1000000000000) ∧ ((inK .i64 (1 + (nxtD (s.1, (nxtD (s.1, (nxtD (s.1, (nxtD s (2 : Int)).2.2) (6 : Int)).2.2) (6 : Int)).2.2) (6 : Int)).1)) ∧ (@Eq (HO c_spec_l10DrawBig.outs) ((12, (1 + (nxtD (s.1, (nxtD s (2 : Int)).2.2) (6 : Int)).1), (1 + (nxtD (s.1, (nxtD (s.1, (nxtD s (2 : Int)).2.2) (6 : Int)).2.2) (6 : Int)).1), (1 + (nxtD (s.1, (nxtD (s.1, (nxtD (s.1, (nxtD s (2 : Int)).2.2) (6 : Int)).2.2) (6 : Int)).2.2) (6 : Int)).1)), ()) (c_spec_l10DrawBig.out (s, ())) ∧ @Eq (HI c_spec_l10DrawBig.ins) ((s.1, (nxtD (s.1, (nxtD (s.1, (nxtD (s.1, (nxtD s (2 : Int)).2.2) (6 : Int)).2.2) (6 : Int)).2.2) (6 : Int)).2.2), ()) (c_spec_l10DrawBig.upd (s, ()))))))))))))) (by kernel_rfl) ?_
  rintro s hs hl
  have hD := drawBig.eq_1 s
  have h1 := nxtD_ok hs 2
  have b2 := nxtD_bd h1 6
  have h2 := nxtD_ok h1 6
  have b3 := nxtD_bd h2 6
  have h3 := nxtD_ok h2 6
  have b4 := nxtD_bd h3 6
  have dv : (drawV (nxtD s 2).2).2.1 = s.1 := by rw [drawV_code, nxtD_code]
  have out : ∀ r, drawBig s = r → @Eq (HO c_spec_l10DrawBig.outs) (r.1, ()) (c_spec_l10DrawBig.out (s, ())) ∧ @Eq (HI c_spec_l10DrawBig.ins) (r.2, ()) (c_spec_l10DrawBig.upd (s, ())) := fun r h => by
    subst h
    refine ⟨rfl, ?_⟩
    simp only [c_spec_l10DrawBig]
    rw [upd_eta (drawBig_ok hs).2.1]
  simp only [src_etaN, nxtD_code, dv]
  refine ⟨⟨hs, by decide⟩, bspD (fun c => ⟨h1, out _ (hD.trans (if_pos c))⟩) (fun c => ⟨⟨h1, by decide⟩, by simp only [inK]; omega, ⟨h2, by decide⟩, by simp only [inK]; omega, ⟨h3, by decide⟩, by simp only [inK]; omega, out _ (hD.trans (if_neg c))⟩)⟩
def c_spec_l10Draw : Con where
  ins := [(false, .bx (.pr (.sl (.i .u8)) tRoll)), (true, .v tVar)]
  outs := [(false, .own 2 tI)]
  sh := false
  pre := fun x => okS x.1 ∧ okW x.2.1
  out := fun x => ((drawPos x.1 x.2.1).1, ())
  upd := fun x => ((x.1.1, (drawPos x.1 x.2.1).2.2), x.2.1, ())
  eat := false
theorem k_spec_l10Draw [B : Base] : ConOk Try.prog 38 c_spec_l10Draw := by
  refine fn_okW (C := cx Try.prog 62 c_spec_l10Draw) (cs := [(56, c_spec_l01Next)]) (res := Try.f38.results.toList) (fun x => ⟨[{ sh := ⟨[(0, .one (.ref 0)), (3, .one (.ref 2)), (5, .one (.ref 3)), (6, .one (.i .i64)), (7, .one (.i .i64))], [(2, .box [.i .i64, .i .i64, .i .i64, .i .i64]), (3, .own 2 tI true), (0, .box [.ref 1, .i .i64, .i .i64]), (1, .imm (.i .u8) false)]⟩, nx := 4, I := fun _ dat_ => (x.2.1.1 = dat_.2.1.1 ∧ x.2.1.2.1 = dat_.2.1.2.1 ∧ x.2.1.2.2.1 = dat_.2.1.2.2.1 ∧ x.2.1.2.2.2 = dat_.2.1.2.2.2.1 ∧ x.1.1 = dat_.2.2.2.2.1) ∧ ((dat_.2.2.1 = (drIt (([], x.2.1.2.1), x.1) (Int.toNat dat_.1.2.2.2.2.1)).1.1 ∧ dat_.1.2.2.2.1 = (drIt (([], x.2.1.2.1), x.1) (Int.toNat dat_.1.2.2.2.2.1)).1.2 ∧ (x.1.1, dat_.2.2.2.1.2.1, dat_.2.2.2.1.2.2.1) = (drIt (([], x.2.1.2.1), x.1) (Int.toNat dat_.1.2.2.2.2.1)).2) ∧ 0 ≤ dat_.1.2.2.2.2.1 ∧ (dat_.1.2.2.2.2.1 ≤ min 24 x.2.1.2.2.1 ∨ dat_.1.2.2.2.2.1 = 0)), mu := fun dat_ => Int.toNat (min 24 x.2.1.2.2.1 - dat_.1.2.2.2.2.1) }], [], [(9, { sh := ⟨[(0, .one (.ref 0)), (3, .one (.ref 2)), (5, .one (.ref 3)), (6, .one (.i .i64)), (7, .one (.i .i64)), (8, .one (.i .i64))], [(2, .box [.i .i64, .i .i64, .i .i64, .i .i64]), (3, .own 2 tI true), (0, .box [.ref 1, .i .i64, .i .i64]), (1, .imm (.i .u8) false)]⟩, nx := 4, I := fun g_ dat_ => (x.2.1.1 = dat_.2.1.1 ∧ x.2.1.2.1 = dat_.2.1.2.1 ∧ x.2.1.2.2.1 = dat_.2.1.2.2.1 ∧ x.2.1.2.2.2 = dat_.2.1.2.2.2.1 ∧ x.1.1 = dat_.2.2.2.2.1) ∧ ((dat_.2.2.1 = (drIt (([], x.2.1.2.1), x.1) (Int.toNat dat_.1.2.2.2.2.1)).1.1 ∧ dat_.1.2.2.2.1 = (drIt (([], x.2.1.2.1), x.1) (Int.toNat dat_.1.2.2.2.2.1)).1.2 ∧ dat_.1.2.2.2.2.2.1 = drN (drIt (([], x.2.1.2.1), x.1) (Int.toNat dat_.1.2.2.2.2.1))) ∧ (x.1.1, dat_.2.2.2.1.2.1, dat_.2.2.2.1.2.2.1) = (drStep (drIt (([], x.2.1.2.1), x.1) (Int.toNat dat_.1.2.2.2.2.1))).2 ∧ 0 ≤ dat_.1.2.2.2.2.1 ∧ dat_.1.2.2.2.2.1 < min 24 x.2.1.2.2.1 ∧ (g_.headD 0) = Int.toNat (min 24 x.2.1.2.2.1 - dat_.1.2.2.2.2.1)), mu := fun dat_ => 0 })]⟩) Try.func38 (by kernel_rfl) rfl rfl rfl tysOk.look eqTsOk.look (AllCs.ok (l := [(56, c_spec_l01Next)]) ⟨k_spec_l01Next, trivial⟩) mixed rfl rfl rfl rfl ?_
  refine of_nf (P := ∀ s : (List Int) × Int × Int, ∀ v : Int × Int × Int × Int, (okS s ∧ okW v) → ((lensI c_spec_l10Draw.ins (s, v, ())) → (((v.1 = v.1 ∧ v.2.1 = v.2.1 ∧ v.2.2.1 = v.2.2.1 ∧ v.2.2.2 = v.2.2.2 ∧ s.1 = s.1) ∧ (([] = (drIt (([], v.2.1), s) (Int.toNat (0 : Int))).1.1 ∧ v.2.1 = (drIt (([], v.2.1), s) (Int.toNat (0 : Int))).1.2 ∧ (s.1, s.2.1, s.2.2) = (drIt (([], v.2.1), s) (Int.toNat (0 : Int))).2) ∧ 0 ≤ (0 : Int) ∧ ((0 : Int) ≤ min 24 v.2.2.1 ∨ (0 : Int) = 0))) ∧ (∀ left : Int, ∀ i : Int, ∀ t3_0 : Int, ∀ t3_1 : Int, ∀ t3_2 : Int, ∀ t3_3 : Int, ∀ out : List Int, ∀ s_1 : Int, ∀ s_2 : Int, ∀ s_0 : List Int, ((v.1 = t3_0 ∧ v.2.1 = t3_1 ∧ v.2.2.1 = t3_2 ∧ v.2.2.2 = t3_3 ∧ s.1 = s_0) ∧ ((out = (drIt (([], v.2.1), s) (Int.toNat i)).1.1 ∧ left = (drIt (([], v.2.1), s) (Int.toNat i)).1.2 ∧ (s.1, s_1, s_2) = (drIt (([], v.2.1), s) (Int.toNat i)).2) ∧ 0 ≤ i ∧ (i ≤ min 24 v.2.2.1 ∨ i = 0))) → (bsp (decide (i < (min (24 : Int) t3_2))) ((inK .i64 (left + 1)) ∧ ((okS (s_0, s_1, s_2) ∧ (max (1 : Int) (left + 1)) ≤ 1000000000000) ∧ (((okS (s_0, (nxtD (s_0, s_1, s_2) (max (1 : Int) (left + 1))).2.2) ∧ (3 : Int) ≤ 1000000000000) ∧ (bsp (decide ((nxtD (s_0, (nxtD (s_0, s_1, s_2) (max (1 : Int) (left + 1))).2.2) (3 : Int)).1 = (0 : Int))) ((v.1 = t3_0 ∧ v.2.1 = t3_1 ∧ v.2.2.1 = t3_2 ∧ v.2.2.2 = t3_3 ∧ s.1 = s_0) ∧ ((out = (drIt (([], v.2.1), s) (Int.toNat i)).1.1 ∧ left = (drIt (([], v.2.1), s) (Int.toNat i)).1.2 ∧ (0 : Int) = drN (drIt (([], v.2.1), s) (Int.toNat i))) ∧ (s.1, (nxtD (s_0, (nxtD (s_0, s_1, s_2) (max (1 : Int) (left + 1))).2.2) (3 : Int)).2.2.1, (nxtD (s_0, (nxtD (s_0, s_1, s_2) (max (1 : Int) (left + 1))).2.2) (3 : Int)).2.2.2) = (drStep (drIt (([], v.2.1), s) (Int.toNat i))).2 ∧ 0 ≤ i ∧ i < min 24 v.2.2.1 ∧ (Int.toNat (min 24 v.2.2.1 - i)) = Int.toNat (min 24 v.2.2.1 - i))) ((v.1 = t3_0 ∧ v.2.1 = t3_1 ∧ v.2.2.1 = t3_2 ∧ v.2.2.2 = t3_3 ∧ s.1 = s_0) ∧ ((out = (drIt (([], v.2.1), s) (Int.toNat i)).1.1 ∧ left = (drIt (([], v.2.1), s) (Int.toNat i)).1.2 ∧ (nxtD (s_0, s_1, s_2) (max (1 : Int) (left + 1))).1 = drN (drIt (([], v.2.1), s) (Int.toNat i))) ∧ (s.1, (nxtD (s_0, (nxtD (s_0, s_1, s_2) (max (1 : Int) (left + 1))).2.2) (3 : Int)).2.2.1, (nxtD (s_0, (nxtD (s_0, s_1, s_2) (max (1 : Int) (left + 1))).2.2) (3 : Int)).2.2.2) = (drStep (drIt (([], v.2.1), s) (Int.toNat i))).2 ∧ 0 ≤ i ∧ i < min 24 v.2.2.1 ∧ (Int.toNat (min 24 v.2.2.1 - i)) = Int.toNat (min 24 v.2.2.1 - i))))) ∧ (∀ left_1 : Int, ∀ i_1 : Int, ∀ n : Int, ∀ t3_0x1 : Int, ∀ t3_1x1 : Int, ∀ t3_2x1 : Int, ∀ t3_3x1 : Int, ∀ out_1 : List Int, ∀ s_1x1 : Int, ∀ s_2x1 : Int, ∀ s_0x1 : List Int, ((v.1 = t3_0x1 ∧ v.2.1 = t3_1x1 ∧ v.2.2.1 = t3_2x1 ∧ v.2.2.2 = t3_3x1 ∧ s.1 = s_0x1) ∧ ((out_1 = (drIt (([], v.2.1), s) (Int.toNat i_1)).1.1 ∧ left_1 = (drIt (([], v.2.1), s) (Int.toNat i_1)).1.2 ∧ n = drN (drIt (([], v.2.1), s) (Int.toNat i_1))) ∧ (s.1, s_1x1, s_2x1) = (drStep (drIt (([], v.2.1), s) (Int.toNat i_1))).2 ∧ 0 ≤ i_1 ∧ i_1 < min 24 v.2.2.1 ∧ (Int.toNat (min 24 v.2.2.1 - i)) = Int.toNat (min 24 v.2.2.1 - i_1))) → ((out_1.length + ([n] : List Int).length ≤ AB) ∧ ((inK .i64 (left_1 - n)) ∧ ((inK .i64 (i_1 + 1)) ∧ (((v.1 = t3_0x1 ∧ v.2.1 = t3_1x1 ∧ v.2.2.1 = t3_2x1 ∧ v.2.2.2 = t3_3x1 ∧ s.1 = s_0x1) ∧ (((out_1 ++ [n]) = (drIt (([], v.2.1), s) (Int.toNat (i_1 + 1))).1.1 ∧ (left_1 - n) = (drIt (([], v.2.1), s) (Int.toNat (i_1 + 1))).1.2 ∧ (s.1, s_1x1, s_2x1) = (drIt (([], v.2.1), s) (Int.toNat (i_1 + 1))).2) ∧ 0 ≤ (i_1 + 1) ∧ ((i_1 + 1) ≤ min 24 v.2.2.1 ∨ (i_1 + 1) = 0))) ∧ ((Int.toNat (min 24 v.2.2.1 - (i_1 + 1)) : Nat) < Int.toNat (min 24 v.2.2.1 - i)))))))))) ((okS (s_0, s_1, s_2) ∧ (30 : Int) ≤ 1000000000000) ∧ (bsp (decide ((nxtD (s_0, s_1, s_2) (30 : Int)).1 = (0 : Int))) ((out.length + ([0] : List Int).length ≤ AB) ∧ (@Eq (HO c_spec_l10Draw.outs) ((out ++ [0]), ()) (c_spec_l10Draw.out (s, v, ())) ∧ @Eq (HI c_spec_l10Draw.ins) ((s.1, (nxtD (s_0, s_1, s_2) (30 : Int)).2.2), v, ()) (c_spec_l10Draw.upd (s, v, ())))) (bsp (decide ((nxtD (s_0, s_1, s_2) (30 : Int)).1 = (1 : Int))) (bsp (decide ((0 : Int) < (out.length : Int))) ((0 ≤ (0 : Int) ∧ 0 < (out.length : Int)) ∧ ((0 < out.length) ∧ (@Eq (HO c_spec_l10Draw.outs) ((out.set 0 (-1)), ()) (c_spec_l10Draw.out (s, v, ())) ∧ @Eq (HI c_spec_l10Draw.ins) ((s.1, (nxtD (s_0, s_1, s_2) (30 : Int)).2.2), v, ()) (c_spec_l10Draw.upd (s, v, ()))))) (@Eq (HO c_spec_l10Draw.outs) (out, ()) (c_spec_l10Draw.out (s, v, ())) ∧ @Eq (HI c_spec_l10Draw.ins) ((s.1, (nxtD (s_0, s_1, s_2) (30 : Int)).2.2), v, ()) (c_spec_l10Draw.upd (s, v, ())))) (bsp (decide ((nxtD (s_0, s_1, s_2) (30 : Int)).1 = (2 : Int))) (bsp (decide ((0 : Int) < (out.length : Int))) ((inK .i64 ((out.length : Int) - 1)) ∧ ((inK .i64 (t3_1 + 1)) ∧ ((0 ≤ ((out.length : Int) - 1) ∧ ((out.length : Int) - 1) < (out.length : Int)) ∧ ((((out.length : Int) - 1).toNat < out.length) ∧ (@Eq (HO c_spec_l10Draw.outs) ((out.set ((out.length : Int) - 1).toNat (t3_1 + 1)), ()) (c_spec_l10Draw.out (s, v, ())) ∧ @Eq (HI c_spec_l10Draw.ins) ((s.1, (nxtD (s_0, s_1, s_2) (30 : Int)).2.2), v, ()) (c_spec_l10Draw.upd (s, v, ()))))))) (@Eq (HO c_spec_l10Draw.outs) (out, ()) (c_spec_l10Draw.out (s, v, ())) ∧ @Eq (HI c_spec_l10Draw.ins) ((s.1, (nxtD (s_0, s_1, s_2) (30 : Int)).2.2), v, ()) (c_spec_l10Draw.upd (s, v, ())))) (@Eq (HO c_spec_l10Draw.outs) (out, ()) (c_spec_l10Draw.out (s, v, ())) ∧ @Eq (HI c_spec_l10Draw.ins) ((s.1, (nxtD (s_0, s_1, s_2) (30 : Int)).2.2), v, ()) (c_spec_l10Draw.upd (s, v, ())))))))))))) (by kernel_rfl) ?_
  rintro s v ⟨hs, hv⟩ hl
  have hv' := hv
  unfold okW at hv'
  have hok := drIt_ok hs hv.1
  refine ⟨⟨(by first | trivial | rfl | (and_intros <;> rfl)), ⟨rfl, rfl, rfl⟩, by omega, .inr rfl⟩, ?_⟩
  rintro left i t3_0 t3_1 t3_2 t3_3 out s_1 s_2 s_0 ⟨⟨rfl, rfl, rfl, rfl, rfl⟩, ⟨⟨ho, hle, hs'⟩, i0, i1⟩⟩
  simp only [Prod.eta]
  obtain ⟨k, rfl⟩ : ∃ k : Nat, i = k := ⟨i.toNat, by omega⟩
  simp only [Int.toNat_natCast] at ho hle hs' ⊢
  obtain ⟨j1, j2, j3, j4, j5⟩ := hok k
  rw [hs']
  subst ho
  subst hle
  have hnN := drN.eq_1 (drIt (([], v.2.1), s) k)
  have r1 := nxtD_ok j1 (max 1 ((drIt (([], v.2.1), s) k).1.2 + 1))
  simp only [src_etaN, nxtD_code, j2]
  refine bspD (fun hlt => ⟨by simp only [inK]; omega, ⟨j1, by omega⟩, ⟨⟨r1, by decide⟩, bspD (fun c => ⟨(by first | trivial | rfl | (and_intros <;> rfl)), ⟨by trivial, by trivial, ?_⟩, ?_, by omega, hlt, by trivial⟩) (fun c => ⟨(by first | trivial | rfl | (and_intros <;> rfl)), ⟨by trivial, by trivial, ?_⟩, ?_, by omega, hlt, by trivial⟩)⟩, ?_⟩) (fun hge => ?_)
  · rw [hnN, if_pos c]
  · rfl
  · rw [hnN, if_neg c]
  · rfl
  · rintro left_1 i_1 n t3_0x1 t3_1x1 t3_2x1 t3_3x1 out_1 s_1x1 s_2x1 s_0x1 ⟨⟨rfl, rfl, rfl, rfl, rfl⟩, ⟨⟨ho1, hl1, hn1⟩, hs1, q0, q1, hG⟩⟩
    obtain rfl : i_1 = (k : Int) := by omega
    simp only [Int.toNat_natCast] at ho1 hl1 hn1 hs1
    subst ho1
    subst hl1
    have b1 := nxtD_bd j1 (max 1 ((drIt (([], v.2.1), s) k).1.2 + 1))
    have hnb : 0 ≤ n ∧ n ≤ 100 := by rw [hn1, hnN]; split <;> omega
    rw [show ((k : Int) + 1).toNat = k + 1 by omega]
    refine ⟨by simp [AB]; omega, by simp only [inK]; omega, by simp only [inK]; omega, ⟨(by first | trivial | rfl | (and_intros <;> rfl)), ⟨?_, ?_, ?_⟩, by omega, .inl (by omega)⟩, by omega⟩
    · rw [hn1]; rfl
    · rw [hn1]; rfl
    · rw [hs1]; rfl
  · have hk : (min 24 v.2.2.1).toNat = k := by omega
    have hP : drawP0 s v = drIt (([], v.2.1), s) k := by unfold drawP0; rw [hk]
    have hD : drawPos s v = drEnd v.2.1 (drIt (([], v.2.1), s) k).1.1 (drIt (([], v.2.1), s) k).2 := by unfold drawPos; rw [hP]
    have hE := drEnd.eq_1 v.2.1 (drIt (([], v.2.1), s) k).1.1 (drIt (([], v.2.1), s) k).2
    rw [← hD] at hE
    have out : ∀ l : List Int, drawPos s v = (l, (nxtD (drIt (([], v.2.1), s) k).2 30).2) → @Eq (HO c_spec_l10Draw.outs) (l, ()) (c_spec_l10Draw.out (s, v, ())) ∧ @Eq (HI c_spec_l10Draw.ins) ((nxtD (drIt (([], v.2.1), s) k).2 30).2, v, ()) (c_spec_l10Draw.upd (s, v, ())) := fun l h => by
      have h1 : (drawPos s v).1 = l := by rw [h]
      have h2 : (drawPos s v).2 = (nxtD (drIt (([], v.2.1), s) k).2 30).2 := by rw [h]
      subst h1
      refine ⟨rfl, ?_⟩
      rw [← h2]
      simp only [c_spec_l10Draw]
      rw [upd_eta (drawPos_ok hs hv).2.1]
    refine ⟨⟨j1, by decide⟩, bspD (fun c0 => ⟨by simp [AB]; omega, out _ (by rw [hE, if_pos c0])⟩) (fun c0 => bspD (fun c1 => bspD (fun c => ⟨⟨by omega, by omega⟩, by omega, out _ (by rw [hE, if_neg c0, if_pos c1, if_pos (by omega)])⟩) (fun c => out _ (by rw [hE, if_neg c0, if_pos c1, if_neg (by omega)]))) (fun c1 => bspD (fun c2 => bspD (fun c => ⟨by simp only [inK]; omega, by simp only [inK]; omega, ⟨by omega, by omega⟩, by omega, out _ (by rw [hE, if_neg c0, if_neg c1, if_pos c2, if_pos (by omega)]; congr 2; omega)⟩) (fun c => out _ (by rw [hE, if_neg c0, if_neg c1, if_pos c2, if_neg (by omega)]))) (fun c2 => out _ (by rw [hE, if_neg c0, if_neg c1, if_neg c2]))))⟩
theorem okC_ofN {c : List Int} (h : wfD (TC.sl (.i .u8)) c) (hl : ¬ 4096 < (c.length : Int)) : okC c := by
  refine ⟨by omega, fun i => ?_⟩
  by_cases hi : i < c.length
  · have := h _ (by rw [List.getD_eq_getElem?_getD, List.getElem?_eq_getElem hi]; exact List.getElem_mem hi : c.getD i 0 ∈ c)
    simp only [wfD, inK] at this
    omega
  · rw [List.getD_eq_getElem?_getD, List.getElem?_eq_none (by omega)]; decide
theorem drawBig_sides {s : DSrc} (h : okS s) : 0 ≤ (drawBig s).1.2.2.2 ∧ (drawBig s).1.2.2.2 ≤ 7 := by
  have h1 := nxtD_ok h 2
  have h2 := nxtD_ok h1 6
  have h3 := nxtD_ok h2 6
  have b4 := nxtD_bd h3 6
  unfold drawBig
  split
  · have := (drawV_bd h1).2.2.2; omega
  · dsimp only; omega
def rolA (s : DSrc) (v : DVar) : Int := 1 + (nxtD s (max 1 v.2.2.2)).1
def rolS (s : DSrc) (v : DVar) : DSrc := (nxtD s (max 1 v.2.2.2)).2
def drawRollP (s : DSrc) (v : DVar) : DRoll × DSrc :=
  (if (nxtD (nxtD (rolS s v) (rolA s v)).2 24).1 = 0 then (1 + (nxtD (rolS s v) (rolA s v)).1 - 1, rolA s v) else (rolA s v, 1 + (nxtD (rolS s v) (rolA s v)).1), (nxtD (nxtD (rolS s v) (rolA s v)).2 24).2)
theorem drawRollP_ok {s : DSrc} {v : DVar} (h : okS s) (hv : 0 ≤ v.2.2.2 ∧ v.2.2.2 ≤ 7) : okS (drawRollP s v).2 ∧ (drawRollP s v).2.1 = s.1 := by
  have h1 := nxtD_ok h (max 1 v.2.2.2)
  have h2 := nxtD_ok h1 (rolA s v)
  have h3 := nxtD_ok h2 24
  exact ⟨h3, by simp only [drawRollP, rolS, nxtD_code]⟩
/-- a variant, a position, a roll -/
def drawBR (c : List Int) : DVar × List Int × DRoll :=
  ((drawBig (fromD c)).1, (drawPos (drawBig (fromD c)).2 (drawBig (fromD c)).1).1, (drawRollP (drawPos (drawBig (fromD c)).2 (drawBig (fromD c)).1).2 (drawBig (fromD c)).1).1)
def c_spec_l10DrawRoll : Con where
  ins := [(false, .bx (.pr (.sl (.i .u8)) tRoll)), (true, .v tVar)]
  outs := [(true, .v tRoll)]
  sh := false
  pre := fun x => okS x.1 ∧ 0 ≤ x.2.1.2.2.2 ∧ x.2.1.2.2.2 ≤ 7
  out := fun x => ((drawRollP x.1 x.2.1).1, ())
  upd := fun x => ((x.1.1, (drawRollP x.1 x.2.1).2.2), x.2.1, ())
  eat := false
theorem k_spec_l10DrawRoll [B : Base] : ConOk Try.prog 39 c_spec_l10DrawRoll := by
  refine fn_okW (C := cx Try.prog 27 c_spec_l10DrawRoll) (cs := [(56, c_spec_l01Next)]) (res := Try.f39.results.toList) (fun _ => ⟨[], [], []⟩) Try.func39 (by kernel_rfl) rfl rfl rfl tysOk.look eqTsOk.look (AllCs.ok (l := [(56, c_spec_l01Next)]) ⟨k_spec_l01Next, trivial⟩) mixed rfl rfl rfl rfl ?_
  refine of_nf (P := ∀ s : (List Int) × Int × Int, ∀ v : Int × Int × Int × Int, (okS s ∧ 0 ≤ v.2.2.2 ∧ v.2.2.2 ≤ 7) → ((lensI c_spec_l10DrawRoll.ins (s, v, ())) → ((okS s ∧ (max (1 : Int) v.2.2.2) ≤ 1000000000000) ∧ ((inK .i64 (1 + (nxtD s (max (1 : Int) v.2.2.2)).1)) ∧ ((okS (s.1, (nxtD s (max (1 : Int) v.2.2.2)).2.2) ∧ (1 + (nxtD s (max (1 : Int) v.2.2.2)).1) ≤ 1000000000000) ∧ ((inK .i64 (1 + (nxtD (s.1, (nxtD s (max (1 : Int) v.2.2.2)).2.2) (1 + (nxtD s (max (1 : Int) v.2.2.2)).1)).1)) ∧ ((okS (s.1, (nxtD (s.1, (nxtD s (max (1 : Int) v.2.2.2)).2.2) (1 + (nxtD s (max (1 : Int) v.2.2.2)).1)).2.2) ∧ (24 : Int) ≤ 1000000000000) ∧ (bsp (decide ((nxtD (s.1, (nxtD (s.1, (nxtD s (max (1 : Int) v.2.2.2)).2.2) (1 + (nxtD s (max (1 : Int) v.2.2.2)).1)).2.2) (24 : Int)).1 = (0 : Int))) ((inK .i64 ((1 + (nxtD (s.1, (nxtD s (max (1 : Int) v.2.2.2)).2.2) (1 + (nxtD s (max (1 : Int) v.2.2.2)).1)).1) - 1)) ∧ (@Eq (HO c_spec_l10DrawRoll.outs) ((((1 + (nxtD (s.1, (nxtD s (max (1 : Int) v.2.2.2)).2.2) (1 + (nxtD s (max (1 : Int) v.2.2.2)).1)).1) - 1), (1 + (nxtD s (max (1 : Int) v.2.2.2)).1)), ()) (c_spec_l10DrawRoll.out (s, v, ())) ∧ @Eq (HI c_spec_l10DrawRoll.ins) ((s.1, (nxtD (s.1, (nxtD (s.1, (nxtD s (max (1 : Int) v.2.2.2)).2.2) (1 + (nxtD s (max (1 : Int) v.2.2.2)).1)).2.2) (24 : Int)).2.2), v, ()) (c_spec_l10DrawRoll.upd (s, v, ())))) (@Eq (HO c_spec_l10DrawRoll.outs) (((1 + (nxtD s (max (1 : Int) v.2.2.2)).1), (1 + (nxtD (s.1, (nxtD s (max (1 : Int) v.2.2.2)).2.2) (1 + (nxtD s (max (1 : Int) v.2.2.2)).1)).1)), ()) (c_spec_l10DrawRoll.out (s, v, ())) ∧ @Eq (HI c_spec_l10DrawRoll.ins) ((s.1, (nxtD (s.1, (nxtD (s.1, (nxtD s (max (1 : Int) v.2.2.2)).2.2) (1 + (nxtD s (max (1 : Int) v.2.2.2)).1)).2.2) (24 : Int)).2.2), v, ()) (c_spec_l10DrawRoll.upd (s, v, ()))))))))))) (by kernel_rfl) ?_
  rintro s v ⟨hs, v0, v1⟩ hl
  have h1 := nxtD_ok hs (max 1 v.2.2.2)
  have b1 := nxtD_bd hs (max 1 v.2.2.2)
  have h2 := nxtD_ok h1 (rolA s v)
  have b2 := nxtD_bd h1 (rolA s v)
  have hA := rolA.eq_1 s v
  have c1 : (rolS s v).1 = s.1 := nxtD_code _ _
  have e1 : (s.1, (nxtD s (max 1 v.2.2.2)).2.2) = rolS s v := src_etaN c1
  have e2 : (s.1, (nxtD (rolS s v) (rolA s v)).2.2) = (nxtD (rolS s v) (rolA s v)).2 := src_etaN (by rw [nxtD_code, c1])
  have h2 : okS (nxtD (rolS s v) (rolA s v)).2 := nxtD_ok h1 _
  have b2 := nxtD_bd h1 (rolA s v)
  have hO := drawRollP.eq_1 s v
  have fin : ∀ r : DRoll, drawRollP s v = (r, (nxtD (nxtD (rolS s v) (rolA s v)).2 24).2) → @Eq (HO c_spec_l10DrawRoll.outs) (r, ()) (c_spec_l10DrawRoll.out (s, v, ())) ∧ @Eq (HI c_spec_l10DrawRoll.ins) ((s.1, (nxtD (nxtD (rolS s v) (rolA s v)).2 24).2.2), v, ()) (c_spec_l10DrawRoll.upd (s, v, ())) := fun r h => by
    simp only [c_spec_l10DrawRoll, h, and_self]
  rw [← hA, e1, e2]
  have b2' : 0 ≤ (nxtD (rolS s v) (rolA s v)).1 ∧ (nxtD (rolS s v) (rolA s v)).1 ≤ 10 := by unfold rolS at *; omega
  refine ⟨⟨hs, by omega⟩, by simp only [inK]; omega, ⟨h1, by omega⟩, by simp only [inK]; omega, ⟨h2, by decide⟩, bspD (fun c => ⟨by simp only [inK]; omega, fin _ (by rw [hO, if_pos c])⟩) (fun c => fin _ (by rw [hO, if_neg c]))⟩
def c_spec_DrawBearoffResults : Con where
  ins := [(false, .v (.sl (.i .u8)))]
  outs := [(true, .v tVar), (false, .own 2 tI), (true, .v tRoll)]
  sh := false
  pre := fun x => okC x.1
  out := fun x => ((drawBR x.1).1, (drawBR x.1).2.1, (drawBR x.1).2.2, ())
  upd := fun x => x
  eat := false
theorem k_spec_DrawBearoffResults [B : Base] : ConOk Try.prog 21 c_spec_DrawBearoffResults := by
  refine fn_ok (C := cx Try.prog 20 c_spec_DrawBearoffResults) (cs := [(36, c_spec_l01From), (37, c_spec_l10DrawBig), (38, c_spec_l10Draw), (39, c_spec_l10DrawRoll)]) (res := Try.f21.results.toList) (fun _ => ⟨[], [(4, ⟨[[], [], [], [], [2, 3], [0, 2, 3, 4], [0, 1, 2, 3, 4, 5], [0, 1, 2, 3, 4, 5, 6]], [[1, 2, 3, 4], [0, 2, 3, 4, 5], [0, 1, 3], [0, 1, 2], [0, 1], [1], [], []], [[65], [65, 1], [], [], [], [], [], []]⟩)], []⟩) Try.func21 (by kernel_rfl) rfl rfl rfl tysOk.look eqTsOk.look (AllCs.ok (l := [(36, c_spec_l01From), (37, c_spec_l10DrawBig), (38, c_spec_l10Draw), (39, c_spec_l10DrawRoll)]) ⟨k_spec_l01From, k_spec_l10DrawBig, k_spec_l10Draw, k_spec_l10DrawRoll, trivial⟩) mixed rfl rfl rfl rfl ?_
  refine of_nf (P := ∀ c : List Int, (okC c) → ((lensI c_spec_DrawBearoffResults.ins (c, ())) → ((okC c) ∧ ((okS (fromD c)) ∧ ((okS ((fromD c).1, (drawBig (fromD c)).2.2) ∧ okW (drawBig (fromD c)).1) ∧ ((okS ((fromD c).1, (drawPos ((fromD c).1, (drawBig (fromD c)).2.2) (drawBig (fromD c)).1).2.2) ∧ 0 ≤ (drawBig (fromD c)).1.2.2.2 ∧ (drawBig (fromD c)).1.2.2.2 ≤ 7) ∧ (@Eq (HO c_spec_DrawBearoffResults.outs) ((drawBig (fromD c)).1, (drawPos ((fromD c).1, (drawBig (fromD c)).2.2) (drawBig (fromD c)).1).1, (drawRollP ((fromD c).1, (drawPos ((fromD c).1, (drawBig (fromD c)).2.2) (drawBig (fromD c)).1).2.2) (drawBig (fromD c)).1).1, ()) (c_spec_DrawBearoffResults.out (c, ()))))))))) (by kernel_rfl) ?_
  rintro c hc hl
  have hF := fromD_ok hc
  obtain ⟨a1, a2, a3⟩ := drawBig_ok hF
  obtain ⟨b1, b2, _⟩ := drawPos_ok a1 a3
  have e1 : ((fromD c).1, (drawBig (fromD c)).2.2) = (drawBig (fromD c)).2 := src_etaN a2
  rw [e1]
  have e2 : ((fromD c).1, (drawPos (drawBig (fromD c)).2 (drawBig (fromD c)).1).2.2) = (drawPos (drawBig (fromD c)).2 (drawBig (fromD c)).1).2 := src_etaN (b2.trans a2)
  rw [e2]
  exact ⟨hc, hF, ⟨a1, a3⟩, ⟨b1, drawBig_sides hF⟩, rfl⟩
def c_spec_DrawGreedyResult : Con where
  ins := [(false, .v (.sl (.i .u8)))]
  outs := [(true, .v tVar), (false, .own 2 tI), (true, .v tRoll)]
  sh := false
  pre := fun x => okC x.1
  out := fun x => ((drawBR x.1).1, (drawBR x.1).2.1, (drawBR x.1).2.2, ())
  upd := fun x => x
  eat := false
theorem k_spec_DrawGreedyResult [B : Base] : ConOk Try.prog 25 c_spec_DrawGreedyResult := by
  refine fn_ok (C := cx Try.prog 10 c_spec_DrawGreedyResult) (cs := [(21, c_spec_DrawBearoffResults)]) (res := Try.f25.results.toList) (fun _ => ⟨[], [], []⟩) Try.func25 (by kernel_rfl) rfl rfl rfl tysOk.look eqTsOk.look (AllCs.ok (l := [(21, c_spec_DrawBearoffResults)]) ⟨k_spec_DrawBearoffResults, trivial⟩) mixed rfl rfl rfl rfl ?_
  refine of_nf (P := ∀ c : List Int, (okC c) → ((lensI c_spec_DrawGreedyResult.ins (c, ())) → ((okC c) ∧ (@Eq (HO c_spec_DrawGreedyResult.outs) ((drawBR c).1, (drawBR c).2.1, (drawBR c).2.2, ()) (c_spec_DrawGreedyResult.out (c, ())))))) (by kernel_rfl) ?_
  rintro c hc hl
  exact ⟨hc, rfl⟩
def c_laws_big : Con where
  ins := [(false, .v (.sl (.i .u8)))]
  outs := [(false, .v .b)]
  sh := false
  pre := fun _ => True
  out := fun x => (decide (4096 < (List.length x.1 : Int)), ())
  upd := fun x => x
  eat := false
theorem k_laws_big [B : Base] : ConOk Try.prog 20 c_laws_big := by
  refine fn_ok (C := cx Try.prog 6 c_laws_big) (cs := []) (res := Try.f20.results.toList) (fun _ => ⟨[], [], []⟩) Try.func20 (by kernel_rfl) rfl rfl rfl tysOk.look eqTsOk.look (AllCs.ok (l := []) trivial) mixed rfl rfl rfl rfl ?_
  refine of_nf (P := ∀ c : List Int, (True) → ((lensI c_laws_big.ins (c, ())) → (@Eq (HO c_laws_big.outs) ((decide ((4096 : Int) < (c.length : Int))), ()) (c_laws_big.out (c, ()))))) (by kernel_rfl) ?_
  rintro c hp hl
  rfl
def c_laws_likeInts : Con where
  ins := [(false, .v tSI), (false, .v tSI)]
  outs := [(false, .v .b)]
  sh := false
  pre := fun _ => True
  out := fun x => (decide (x.1 = x.2.1), ())
  upd := fun x => x
  eat := false
theorem k_laws_likeInts [B : Base] : ConOk Try.prog 26 c_laws_likeInts := by
  refine fn_ok (C := cx Try.prog 26 c_laws_likeInts) (cs := []) (res := Try.f26.results.toList) (fun x => ⟨[{ sh := ⟨[(0, .one (.ref 0)), (1, .one (.ref 1)), (5, .one (.i .i64))], [(0, .imm tI false), (1, .imm tI false)]⟩, nx := 2, I := fun _ dat_ => (x.1 = dat_.2.1 ∧ x.2.1 = dat_.2.2.1) ∧ (List.length x.1 = List.length x.2.1 ∧ (∀ j : Nat, j < Int.toNat dat_.1.2.2.1 → List.getD x.1 j 0 = List.getD x.2.1 j 0) ∧ 0 ≤ dat_.1.2.2.1 ∧ dat_.1.2.2.1 ≤ (List.length x.1 : Int)), mu := fun dat_ => Int.toNat ((List.length x.1 : Int) - dat_.1.2.2.1) }], [(6, ⟨[[], [], [0, 1], [0, 1, 2], [], [], [4, 5], [4, 5, 6], [0, 1, 2, 3, 4, 5, 6, 7]], [[1, 4, 5, 6, 7], [0, 4, 5, 6, 7], [4, 5, 6, 7], [4, 5, 6, 7], [0, 1, 2, 3, 5], [0, 1, 2, 3, 4], [0, 1, 2, 3], [0, 1, 2, 3], []], []⟩)], []⟩) Try.func26 (by kernel_rfl) rfl rfl rfl tysOk.look eqTsOk.look (AllCs.ok (l := []) trivial) mixed rfl rfl rfl rfl ?_
  refine of_nf (P := ∀ p : List Int, ∀ q : List Int, (True) → ((lensI c_laws_likeInts.ins (p, q, ())) → (bsp (decide ((p.length : Int) ≠ (q.length : Int))) (@Eq (HO c_laws_likeInts.outs) (false, ()) (c_laws_likeInts.out (p, q, ()))) (((p = p ∧ q = q) ∧ (List.length p = List.length q ∧ (∀ j : Nat, j < Int.toNat (0 : Int) → List.getD p j 0 = List.getD q j 0) ∧ 0 ≤ (0 : Int) ∧ (0 : Int) ≤ (List.length p : Int))) ∧ (∀ i : Int, ∀ t0 : List Int, ∀ t1 : List Int, ((p = t0 ∧ q = t1) ∧ (List.length p = List.length q ∧ (∀ j : Nat, j < Int.toNat i → List.getD p j 0 = List.getD q j 0) ∧ 0 ≤ i ∧ i ≤ (List.length p : Int))) → (bsp (decide (i < (t0.length : Int))) ((0 ≤ i ∧ i < (t0.length : Int)) ∧ ((i.toNat < t0.length) ∧ ((0 ≤ i ∧ i < (t1.length : Int)) ∧ ((i.toNat < t1.length) ∧ (bsp (decide ((t0.getD i.toNat 0) ≠ (t1.getD i.toNat 0))) (@Eq (HO c_laws_likeInts.outs) (false, ()) (c_laws_likeInts.out (p, q, ()))) ((inK .i64 (i + 1)) ∧ (((p = t0 ∧ q = t1) ∧ (List.length p = List.length q ∧ (∀ j : Nat, j < Int.toNat (i + 1) → List.getD p j 0 = List.getD q j 0) ∧ 0 ≤ (i + 1) ∧ (i + 1) ≤ (List.length p : Int))) ∧ ((Int.toNat ((List.length p : Int) - (i + 1)) : Nat) < Int.toNat ((List.length p : Int) - i))))))))) (@Eq (HO c_laws_likeInts.outs) (true, ()) (c_laws_likeInts.out (p, q, ()))))))))) (by kernel_rfl) ?_
  rintro p q hp hl
  have hlen : p.length ≤ 9223372036854775807 := hl.1.1
  refine bspD (fun h => ?_) (fun h => ⟨⟨(by first | trivial | rfl | (and_intros <;> rfl)), by omega, fun j hj => by simp at hj, by omega, by omega⟩, ?_⟩)
  · have : p ≠ q := fun e => h (by rw [e])
    simp only [c_laws_likeInts, decide_eq_false this]
  rintro i t0 t1 ⟨⟨rfl, rfl⟩, ⟨he, ha, i0, i1⟩⟩
  obtain ⟨k, rfl⟩ : ∃ k : Nat, i = k := ⟨i.toNat, by omega⟩
  simp only [Int.toNat_natCast, show ((k : Int) + 1).toNat = k + 1 by omega] at ha ⊢
  refine bspD (fun hlt => ⟨⟨by omega, by omega⟩, by omega, ⟨by omega, by omega⟩, by omega, bspD (fun g => ?_) (fun g => ⟨by simp only [inK]; omega, ⟨(by first | trivial | rfl | (and_intros <;> rfl)), he, fun j hj => ?_, by omega, by omega⟩, by omega⟩)⟩) (fun hge => ?_)
  · have : p ≠ q := fun e => g (by rw [e])
    simp only [c_laws_likeInts, decide_eq_false this]
  · by_cases e : j = k
    · subst e; exact Decidable.not_not.1 g
    · exact ha j (by omega)
  · have : p = q := List.ext_getElem? fun j => by
      by_cases e : j < p.length
      · have := ha j (by omega)
        rw [List.getD_eq_getElem?_getD, List.getD_eq_getElem?_getD, List.getElem?_eq_getElem e, List.getElem?_eq_getElem (by omega)] at this
        rw [List.getElem?_eq_getElem e, List.getElem?_eq_getElem (by omega)]
        exact congrArg some this
      · rw [List.getElem?_eq_none (by omega), List.getElem?_eq_none (by omega)]
    simp only [c_laws_likeInts, decide_eq_true this]
theorem pw_bd {n : Nat} {p : List Int} (h : OkP n p) : ∀ k, k ≤ 24 → 0 ≤ wS pw p k ∧ wS pw p k ≤ 360 * (k : Int)
  | 0, _ => by simp [wS]
  | k + 1, hk => by
    have ih := pw_bd h k (by omega)
    have hb := h.le k
    have h1 : 0 ≤ ((k : Int) + 1) * p.getD k 0 := Int.mul_nonneg (by omega) hb.1
    have h2 : ((k : Int) + 1) * p.getD k 0 ≤ 24 * 15 := Int.mul_le_mul (by omega) hb.2 hb.1 (by decide)
    simp only [wS, pw]; omega
def c_impl_pips : Con where
  ins := [(false, .v tSI)]
  outs := [(false, .v tI)]
  sh := false
  pre := fun x => OkP (List.length x.1) x.1 ∧ List.length x.1 ≤ 24
  out := fun x => (wS pw x.1 (List.length x.1), ())
  upd := fun x => x
  eat := false
theorem k_impl_pips [B : Base] : ConOk Try.prog 40 c_impl_pips := by
  refine fn_ok (C := cx Try.prog 21 c_impl_pips) (cs := []) (res := Try.f40.results.toList) (fun x => ⟨[{ sh := ⟨[(3, .one (.i .i64)), (6, .one (.ref 0)), (7, .one (.i .i64)), (8, .one (.i .i64))], [(0, .imm tI false)]⟩, nx := 1, I := fun _ dat_ => ((x.1.length : Int) = dat_.1.2.2.1 ∧ x.1 = dat_.2.1) ∧ (dat_.1.1 = wS pw x.1 (Int.toNat dat_.1.2.2.2.1) ∧ dat_.1.2.2.1 = (List.length x.1 : Int) ∧ 0 ≤ dat_.1.2.2.2.1 ∧ dat_.1.2.2.2.1 ≤ (List.length x.1 : Int)), mu := fun dat_ => Int.toNat ((List.length x.1 : Int) - dat_.1.2.2.2.1) }], [], []⟩) Try.func40 (by kernel_rfl) rfl rfl rfl tysOk.look eqTsOk.look (AllCs.ok (l := []) trivial) mixed rfl rfl rfl rfl ?_
  refine of_nf (P := ∀ p : List Int, (OkP (List.length p) p ∧ List.length p ≤ 24) → ((lensI c_impl_pips.ins (p, ())) → ((((p.length : Int) = (p.length : Int) ∧ p = p) ∧ ((0 : Int) = wS pw p (Int.toNat (0 : Int)) ∧ (p.length : Int) = (List.length p : Int) ∧ 0 ≤ (0 : Int) ∧ (0 : Int) ≤ (List.length p : Int))) ∧ (∀ s : Int, ∀ n : Int, ∀ i : Int, ∀ q : List Int, (((p.length : Int) = n ∧ p = q) ∧ (s = wS pw p (Int.toNat i) ∧ n = (List.length p : Int) ∧ 0 ≤ i ∧ i ≤ (List.length p : Int))) → (bsp (decide (i < n)) ((0 ≤ i ∧ i < (q.length : Int)) ∧ ((i.toNat < q.length) ∧ ((inK .i64 (i + 1)) ∧ ((inK .i64 ((i + 1) * (q.getD i.toNat 0))) ∧ ((inK .i64 (s + ((i + 1) * (q.getD i.toNat 0)))) ∧ ((inK .i64 (i + 1)) ∧ ((((p.length : Int) = n ∧ p = q) ∧ ((s + ((i + 1) * (q.getD i.toNat 0))) = wS pw p (Int.toNat (i + 1)) ∧ n = (List.length p : Int) ∧ 0 ≤ (i + 1) ∧ (i + 1) ≤ (List.length p : Int))) ∧ ((Int.toNat ((List.length p : Int) - (i + 1)) : Nat) < Int.toNat ((List.length p : Int) - i))))))))) (@Eq (HO c_impl_pips.outs) (s, ()) (c_impl_pips.out (p, ())))))))) (by kernel_rfl) ?_
  rintro p ⟨hp, hn⟩ hl
  refine ⟨⟨(by first | trivial | rfl | (and_intros <;> rfl)), rfl, rfl, by omega, by omega⟩, ?_⟩
  rintro s n i q ⟨⟨rfl, rfl⟩, ⟨hs, -, i0, i1⟩⟩
  obtain ⟨k, rfl⟩ : ∃ x : Nat, i = x := ⟨i.toNat, by omega⟩
  simp only [Int.toNat_natCast, show ((k : Int) + 1).toNat = k + 1 by omega] at hs ⊢
  refine bspD (fun hlt => ?_) (fun hge => ?_)
  · have h1 := pw_bd hp k (by omega)
    have h2 := pw_bd hp (k + 1) (by omega)
    have hb := hp.le k
    have hm1 : 0 ≤ ((k : Int) + 1) * p.getD k 0 := Int.mul_nonneg (by omega) hb.1
    have hm2 : ((k : Int) + 1) * p.getD k 0 ≤ 24 * 15 := Int.mul_le_mul (by omega) hb.2 hb.1 (by decide)
    simp only [wS, pw] at h2
    exact ⟨⟨by omega, by omega⟩, by omega, by simp only [inK]; omega, by simp only [inK]; omega, by simp only [inK]; omega, by simp only [inK]; omega, ⟨(by first | trivial | rfl | (and_intros <;> rfl)), by rw [hs]; rfl, trivial, by omega, by omega⟩, by omega⟩
  · have : k = p.length := by omega
    subst this
    exact congrArg (fun x => (x, ())) hs
def c_spec_l10Pips : Con where
  ins := [(false, .v tSI)]
  outs := [(false, .v tI)]
  sh := false
  pre := fun x => OkP (List.length x.1) x.1 ∧ List.length x.1 ≤ 24
  out := fun x => (wS pw x.1 (List.length x.1), ())
  upd := fun x => x
  eat := false
theorem k_spec_l10Pips [B : Base] : ConOk Try.prog 55 c_spec_l10Pips := by
  refine fn_ok (C := cx Try.prog 21 c_spec_l10Pips) (cs := []) (res := Try.f55.results.toList) (fun x => ⟨[{ sh := ⟨[(0, .one (.ref 0)), (3, .one (.i .i64)), (4, .one (.i .i64))], [(0, .imm tI false)]⟩, nx := 1, I := fun _ dat_ => (x.1 = dat_.2.1) ∧ (dat_.1.2.1 = wS pw x.1 (Int.toNat dat_.1.2.2.1) ∧ 0 ≤ dat_.1.2.2.1 ∧ dat_.1.2.2.1 ≤ (List.length x.1 : Int)), mu := fun dat_ => Int.toNat ((List.length x.1 : Int) - dat_.1.2.2.1) }], [], []⟩) Try.func55 (by kernel_rfl) rfl rfl rfl tysOk.look eqTsOk.look (AllCs.ok (l := []) trivial) mixed rfl rfl rfl rfl ?_
  refine of_nf (P := ∀ p : List Int, (OkP (List.length p) p ∧ List.length p ≤ 24) → ((lensI c_spec_l10Pips.ins (p, ())) → (((p = p) ∧ ((0 : Int) = wS pw p (Int.toNat (0 : Int)) ∧ 0 ≤ (0 : Int) ∧ (0 : Int) ≤ (List.length p : Int))) ∧ (∀ s : Int, ∀ i : Int, ∀ t0 : List Int, ((p = t0) ∧ (s = wS pw p (Int.toNat i) ∧ 0 ≤ i ∧ i ≤ (List.length p : Int))) → (bsp (decide (i < (t0.length : Int))) ((inK .i64 (i + 1)) ∧ ((0 ≤ i ∧ i < (t0.length : Int)) ∧ ((i.toNat < t0.length) ∧ ((inK .i64 ((i + 1) * (t0.getD i.toNat 0))) ∧ ((inK .i64 (s + ((i + 1) * (t0.getD i.toNat 0)))) ∧ ((inK .i64 (i + 1)) ∧ (((p = t0) ∧ ((s + ((i + 1) * (t0.getD i.toNat 0))) = wS pw p (Int.toNat (i + 1)) ∧ 0 ≤ (i + 1) ∧ (i + 1) ≤ (List.length p : Int))) ∧ ((Int.toNat ((List.length p : Int) - (i + 1)) : Nat) < Int.toNat ((List.length p : Int) - i))))))))) (@Eq (HO c_spec_l10Pips.outs) (s, ()) (c_spec_l10Pips.out (p, ())))))))) (by kernel_rfl) ?_
  rintro p ⟨hp, hn⟩ hl
  refine ⟨⟨(by first | trivial | rfl | (and_intros <;> rfl)), rfl, by omega, by omega⟩, ?_⟩
  rintro s i t0 ⟨rfl, ⟨hs, i0, i1⟩⟩
  obtain ⟨k, rfl⟩ : ∃ x : Nat, i = x := ⟨i.toNat, by omega⟩
  simp only [Int.toNat_natCast, show ((k : Int) + 1).toNat = k + 1 by omega] at hs ⊢
  refine bspD (fun hlt => ?_) (fun hge => ?_)
  · have h1 := pw_bd hp k (by omega)
    have h2 := pw_bd hp (k + 1) (by omega)
    have hb := hp.le k
    have hm1 : 0 ≤ ((k : Int) + 1) * p.getD k 0 := Int.mul_nonneg (by omega) hb.1
    have hm2 : ((k : Int) + 1) * p.getD k 0 ≤ 24 * 15 := Int.mul_le_mul (by omega) hb.2 hb.1 (by decide)
    simp only [wS, pw] at h2
    exact ⟨by simp only [inK]; omega, ⟨by omega, by omega⟩, by omega, by simp only [inK]; omega, by simp only [inK]; omega, by simp only [inK]; omega, ⟨(by first | trivial | rfl | (and_intros <;> rfl)), by rw [hs]; rfl, by omega, by omega⟩, by omega⟩
  · have : k = p.length := by omega
    subst this
    exact congrArg (fun x => (x, ())) hs
def c_laws_w6Sum : Con where
  ins := [(false, .v tSI)]
  outs := [(false, .v tI)]
  sh := false
  pre := fun x => Bd x.1
  out := fun x => (List.sum x.1, ())
  upd := fun x => x
  eat := false
theorem k_laws_w6Sum [B : Base] : ConOk Try.prog 27 c_laws_w6Sum := by
  refine fn_ok (C := cx Try.prog 18 c_laws_w6Sum) (cs := []) (res := Try.f27.results.toList) (fun x => ⟨[{ sh := ⟨[(0, .one (.ref 0)), (3, .one (.i .i64)), (4, .one (.i .i64))], [(0, .imm tI false)]⟩, nx := 1, I := fun _ dat_ => (x.1 = dat_.2.1) ∧ (dat_.1.2.1 = sumTo x.1 (Int.toNat dat_.1.2.2.1) ∧ 0 ≤ dat_.1.2.2.1 ∧ dat_.1.2.2.1 ≤ (List.length x.1 : Int)), mu := fun dat_ => Int.toNat ((List.length x.1 : Int) - dat_.1.2.2.1) }], [], []⟩) Try.func27 (by kernel_rfl) rfl rfl rfl tysOk.look eqTsOk.look (AllCs.ok (l := []) trivial) mixed rfl rfl rfl rfl ?_
  refine of_nf (P := ∀ zs : List Int, (Bd zs) → ((lensI c_laws_w6Sum.ins (zs, ())) → (((zs = zs) ∧ ((0 : Int) = sumTo zs (Int.toNat (0 : Int)) ∧ 0 ≤ (0 : Int) ∧ (0 : Int) ≤ (List.length zs : Int))) ∧ (∀ s : Int, ∀ i : Int, ∀ l : List Int, ((zs = l) ∧ (s = sumTo zs (Int.toNat i) ∧ 0 ≤ i ∧ i ≤ (List.length zs : Int))) → (bsp (decide (i < (l.length : Int))) ((0 ≤ i ∧ i < (l.length : Int)) ∧ ((i.toNat < l.length) ∧ ((inK .i64 (s + (l.getD i.toNat 0))) ∧ ((inK .i64 (i + 1)) ∧ (((zs = l) ∧ ((s + (l.getD i.toNat 0)) = sumTo zs (Int.toNat (i + 1)) ∧ 0 ≤ (i + 1) ∧ (i + 1) ≤ (List.length zs : Int))) ∧ ((Int.toNat ((List.length zs : Int) - (i + 1)) : Nat) < Int.toNat ((List.length zs : Int) - i))))))) (@Eq (HO c_laws_w6Sum.outs) (s, ()) (c_laws_w6Sum.out (zs, ())))))))) (by kernel_rfl) ?_
  rintro zs hpre hl
  refine ⟨by simp [sumTo], ?_⟩
  rintro s i l ⟨rfl, ⟨hs, h0, h1⟩⟩
  have hlen : zs.length ≤ 1099511627776 := hpre.1
  refine bspD (fun hlt => ?_) (fun hge => ?_)
  · obtain ⟨k, rfl⟩ : ∃ k : Nat, i = k := ⟨i.toNat, by omega⟩
    have hb := sumTo_bd hpre k (by omega)
    have ha := hpre.at k
    have hs1 := sumTo_succ (zs := zs) (k := k) (by omega)
    simp only [Int.toNat_natCast] at hs ⊢
    subst hs
    refine ⟨⟨by omega, by omega⟩, by omega, by simp only [inK]; omega, by simp only [inK]; omega, ⟨by simp, ?_, by omega, by omega⟩, by omega⟩
    rw [show ((k : Int) + 1).toNat = k + 1 by omega, hs1]
  · have : i.toNat = zs.length := by omega
    rw [this, sumTo_all] at hs
    subst hs; rfl
theorem code_ok {v : DVar} {p : List Int} (h0 : codeP v p = 0) : OkP p.length p ∧ 0 < p.length ∧ p.length ≤ 24 ∧ varD v = true ∧ bearD v p = true := by
  have hv : varD v = true := by
    cases hh : varD v with
    | true => rfl
    | false => rw [codeP, if_pos hh] at h0; cases h0
  unfold codeP at h0
  rw [if_neg (by rw [hv]; decide)] at h0
  have hb : bearD v p = true := by
    cases h : bearD v p with
    | true => rfl
    | false => rw [if_pos h] at h0; cases h0
  obtain ⟨b1, b2, b3, _⟩ := bear_ok hv hb
  exact ⟨b1, b2, b3, hv, hb⟩
def c_impl_BearoffPips : Con where
  ins := [(true, .v tVar), (false, .v tSI)]
  outs := [(false, .v tI), (false, .v tI)]
  sh := false
  pre := fun _ => True
  out := fun x => ((if codeP x.1 x.2.1 ≠ 0 then 0 else wS pw x.2.1 (List.length x.2.1)), codeP x.1 x.2.1, ())
  upd := fun x => x
  eat := false
theorem k_impl_BearoffPips [B : Base] : ConOk Try.prog 23 c_impl_BearoffPips := by
  refine fn_okW (C := cx Try.prog 15 c_impl_BearoffPips) (cs := [(31, c_impl_checkBearoff), (40, c_impl_pips)]) (res := Try.f23.results.toList) (fun _ => ⟨[], [], []⟩) Try.func23 (by kernel_rfl) rfl rfl rfl tysOk.look eqTsOk.look (AllCs.ok (l := [(31, c_impl_checkBearoff), (40, c_impl_pips)]) ⟨k_impl_checkBearoff, k_impl_pips, trivial⟩) mixed rfl rfl rfl rfl ?_
  refine of_nf (P := ∀ v : Int × Int × Int × Int, ∀ p : List Int, (True) → ((lensI c_impl_BearoffPips.ins (v, p, ())) → (True ∧ (bsp (decide ((codeP v p) ≠ (0 : Int))) (@Eq (HO c_impl_BearoffPips.outs) (0, codeP v p, ()) (c_impl_BearoffPips.out (v, p, ()))) ((OkP (List.length p) p ∧ List.length p ≤ 24) ∧ (@Eq (HO c_impl_BearoffPips.outs) (wS pw p (List.length p), 0, ()) (c_impl_BearoffPips.out (v, p, ())))))))) (by kernel_rfl) ?_
  rintro v p hp hl
  refine ⟨trivial, bspD (fun h => by simp only [c_impl_BearoffPips, if_pos h]) (fun h => ?_)⟩
  have h0 : codeP v p = 0 := Decidable.not_not.1 h
  obtain ⟨b1, b2, b3, _⟩ := code_ok h0
  exact ⟨⟨b1, b3⟩, by simp [c_impl_BearoffPips, h0]⟩
def c_impl_IsBearoff : Con where
  ins := [(true, .v tVar), (false, .v tSI)]
  outs := [(false, .v .b)]
  sh := false
  pre := fun _ => True
  out := fun x => ((varD x.1 && bearD x.1 x.2.1), ())
  upd := fun x => x
  eat := false
theorem k_impl_IsBearoff [B : Base] : ConOk Try.prog 24 c_impl_IsBearoff := by
  refine fn_okW (C := cx Try.prog 12 c_impl_IsBearoff) (cs := [(41, c_impl_IsVariant), (42, c_impl_isBearoff)]) (res := Try.f24.results.toList) (fun _ => ⟨[], [], []⟩) Try.func24 (by kernel_rfl) rfl rfl rfl tysOk.look eqTsOk.look (AllCs.ok (l := [(41, c_impl_IsVariant), (42, c_impl_isBearoff)]) ⟨k_impl_IsVariant, k_impl_isBearoff, trivial⟩) mixed rfl rfl rfl rfl ?_
  refine of_nf (P := ∀ v : Int × Int × Int × Int, ∀ p : List Int, (True) → ((lensI c_impl_IsBearoff.ins (v, p, ())) → (True ∧ (bsp (varD v) ((varD v = true) ∧ (@Eq (HO c_impl_IsBearoff.outs) (bearD v p, ()) (c_impl_IsBearoff.out (v, p, ())))) (@Eq (HO c_impl_IsBearoff.outs) (false, ()) (c_impl_IsBearoff.out (v, p, ()))))))) (by kernel_rfl) ?_
  rintro v p hp hl
  refine ⟨trivial, bspB (fun h => ⟨h, ?_⟩) (fun h => ?_)⟩
  · simp [c_impl_IsBearoff, h]
  · simp [c_impl_IsBearoff, h]
def c_impl_BearoffResults : Con where
  ins := [(true, .v tVar), (false, .v tSI), (true, .v tRoll)]
  outs := [(false, .own 24 tSI), (false, .v tI)]
  sh := false
  pre := fun _ => True
  out := fun x => ((brD x.1 x.2.1 x.2.2.1).1, (brD x.1 x.2.1 x.2.2.1).2, ())
  upd := fun x => x
  eat := false
theorem k_impl_BearoffResults [B : Base] : ConOk Try.prog 11 c_impl_BearoffResults := by
  refine fn_okW (C := cx Try.prog 22 c_impl_BearoffResults) (cs := [(31, c_impl_checkBearoff), (32, c_impl_IsRoll), (33, c_impl_bearoffResults)]) (res := Try.f11.results.toList) (fun _ => ⟨[], [], []⟩) Try.func11 (by kernel_rfl) rfl rfl rfl tysOk.look eqTsOk.look (AllCs.ok (l := [(31, c_impl_checkBearoff), (32, c_impl_IsRoll), (33, c_impl_bearoffResults)]) ⟨k_impl_checkBearoff, k_impl_IsRoll, k_impl_bearoffResults, trivial⟩) mixed rfl rfl rfl rfl ?_
  refine of_nf (P := ∀ v : Int × Int × Int × Int, ∀ p : List Int, ∀ r : Int × Int, (True) → ((lensI c_impl_BearoffResults.ins (v, p, r, ())) → (True ∧ (bsp (decide ((codeP v p) ≠ (0 : Int))) (@Eq (HO c_impl_BearoffResults.outs) ([], codeP v p, ()) (c_impl_BearoffResults.out (v, p, r, ()))) (True ∧ (bsp (!(rollD v r)) (@Eq (HO c_impl_BearoffResults.outs) ([], 2, ()) (c_impl_BearoffResults.out (v, p, r, ()))) ((ResOk p r) ∧ (@Eq (HO c_impl_BearoffResults.outs) (implRes p r, 0, ()) (c_impl_BearoffResults.out (v, p, r, ())))))))))) (by kernel_rfl) ?_
  rintro v p r hp hl
  have out : ∀ c : List (List Int) × Int, brD v p r = c → @Eq (HO c_impl_BearoffResults.outs) (c.1, c.2, ()) (c_impl_BearoffResults.out (v, p, r, ())) := fun c h => by subst h; rfl
  refine ⟨trivial, bspD (fun h => out ([], codeP v p) (by unfold brD; rw [if_pos h])) (fun h => ?_)⟩
  have h0 : codeP v p = 0 := Decidable.not_not.1 h
  refine ⟨trivial, bspB (fun g => out ([], 2) (by unfold brD; rw [if_neg h, if_pos (by simpa using g)])) (fun g => ?_)⟩
  have g' : rollD v r = true := by simpa using g
  have hb := (br_ok h0 g').1
  refine ⟨hb, out (implRes p r, 0) ?_⟩
  unfold brD
  rw [if_neg h, if_neg (by rw [g']; decide), implRes_eq hb.ok hb.lo hb.mid]
end Go.Proofs.Ytgfpojneeekgkaa
