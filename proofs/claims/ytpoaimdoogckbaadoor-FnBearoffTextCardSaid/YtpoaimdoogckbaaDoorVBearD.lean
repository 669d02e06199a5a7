/-
  Draws of bear-off positions.
-/
import Derived.Test.YtpoaimdoogckbaaDoorVDrawV
import Derived.Test.YtpoaimdoogckbaaDoorAbL
namespace Go.Proofs.YtpoaimdoogckbaaDoor
open Go.RowKit
set_option linter.unusedSimpArgs false
set_option linter.unusedVariables false
def drawBig (s : DSrc) : DVar × DSrc :=
  if (nxtD s 2).1 = 0 then drawV (nxtD s 2).2
  else ((12, 1 + (nxtD (nxtD s 2).2 6).1, 1 + (nxtD (nxtD (nxtD s 2).2 6).2 6).1, 1 + (nxtD (nxtD (nxtD (nxtD s 2).2 6).2 6).2 6).1), (nxtD (nxtD (nxtD (nxtD s 2).2 6).2 6).2 6).2)
theorem src_etaN {s : DSrc} {c : List Int} (h : s.1 = c) : (c, s.2) = s := by subst h; rfl
def okW (v : DVar) : Prop := (0 ≤ v.2.1 ∧ v.2.1 ≤ 100) ∧ 0 ≤ v.2.2.1 ∧ v.2.2.1 ≤ 100
theorem drawV_cnt {s : DSrc} (h : okS s) : okW (drawV s).1 := by
  have b1 := nxtD_bd h 3
  have h1 := nxtD_ok h 3
  have b2 := nxtD_bd h1 3
  have h2 := nxtD_ok h1 3
  have b3 := nxtD_bd h2 3
  have h3 := nxtD_ok h2 3
  have b5 := nxtD_bd (nxtD_ok h3 24) 2
  unfold drawV okW
  simp only []
  repeat' split
  all_goals (try dsimp only)
  all_goals omega
theorem drawBig_ok {s : DSrc} (h : okS s) : okS (drawBig s).2 ∧ (drawBig s).2.1 = s.1 ∧ okW (drawBig s).1 := by
  have h1 := nxtD_ok h 2
  have b2 := nxtD_bd h1 6
  have h2 := nxtD_ok h1 6
  have b3 := nxtD_bd h2 6
  have h3 := nxtD_ok h2 6
  have h4 := nxtD_ok h3 6
  unfold drawBig
  split
  · exact ⟨drawV_ok h1, by rw [drawV_code, nxtD_code], drawV_cnt h1⟩
  · refine ⟨h4, by simp only [nxtD_code], ?_⟩
    unfold okW; dsimp only; omega
def drN (p : (List Int × Int) × DSrc) : Int := if (nxtD (nxtD p.2 (max 1 (p.1.2 + 1))).2 3).1 = 0 then 0 else (nxtD p.2 (max 1 (p.1.2 + 1))).1
def drStep (p : (List Int × Int) × DSrc) : (List Int × Int) × DSrc := ((p.1.1 ++ [drN p], p.1.2 - drN p), (nxtD (nxtD p.2 (max 1 (p.1.2 + 1))).2 3).2)
def drIt (p : (List Int × Int) × DSrc) : Nat → (List Int × Int) × DSrc
  | 0 => p
  | n + 1 => drStep (drIt p n)
def drEnd (c : Int) (l : List Int) (s : DSrc) : List Int × DSrc :=
  (if (nxtD s 30).1 = 0 then l ++ [0] else if (nxtD s 30).1 = 1 then (if 0 < l.length then l.set 0 (-1) else l) else if (nxtD s 30).1 = 2 then (if 0 < l.length then l.set (l.length - 1) (c + 1) else l) else l, (nxtD s 30).2)
def drawP0 (s : DSrc) (v : DVar) : (List Int × Int) × DSrc := drIt (([], v.2.1), s) (min 24 v.2.2.1).toNat
def drawPos (s : DSrc) (v : DVar) : List Int × DSrc := drEnd v.2.1 (drawP0 s v).1.1 (drawP0 s v).2
theorem drIt_ok {s : DSrc} {c : Int} (h : okS s) (hc : 0 ≤ c ∧ c ≤ 100) : ∀ n, okS (drIt (([], c), s) n).2 ∧ (drIt (([], c), s) n).2.1 = s.1 ∧ (drIt (([], c), s) n).1.1.length = n ∧ (0 ≤ (drIt (([], c), s) n).1.2 ∧ (drIt (([], c), s) n).1.2 ≤ c)
  | 0 => ⟨h, rfl, rfl, by simp only [drIt]; omega⟩
  | n + 1 => by
    obtain ⟨i1, i2, i3, i4⟩ := drIt_ok h hc n
    have b1 := nxtD_bd i1 (max 1 ((drIt (([], c), s) n).1.2 + 1))
    have j1 := nxtD_ok i1 (max 1 ((drIt (([], c), s) n).1.2 + 1))
    have j2 := nxtD_ok j1 3
    refine ⟨j2, by simp only [drIt, drStep, nxtD_code, i2], by simp [drIt, drStep, i3], ?_⟩
    simp only [drIt, drStep, drN]
    split <;> omega
theorem drawPos_ok {s : DSrc} {v : DVar} (h : okS s) (hv : okW v) : okS (drawPos s v).2 ∧ (drawPos s v).2.1 = s.1 ∧ (drawPos s v).1.length ≤ 25 := by
  obtain ⟨i1, i2, i3, i4⟩ := drIt_ok h hv.1 (min 24 v.2.2.1).toNat
  refine ⟨nxtD_ok i1 30, by simp only [drawPos, drEnd, nxtD_code]; exact i2, ?_⟩
  have hl : (drawP0 s v).1.1.length ≤ 24 := by
    have : (drawP0 s v).1.1.length = (min 24 v.2.2.1).toNat := i3
    omega
  simp only [drawPos, drEnd]
  repeat' split
  all_goals first | (simp; omega) | omega
def c_spec_l10DrawBig : Con where
  ins := [(false, .bx (.pr (.sl (.i .u8)) tRoll))]
  outs := [(true, .v tVar)]
  sh := false
  pre := fun x => okS x.1
  out := fun x => ((drawBig x.1).1, ())
  upd := fun x => ((x.1.1, (drawBig x.1).2.2), ())
theorem k_spec_l10DrawBig [B : Base] : ConOk Tryd.prog 19 c_spec_l10DrawBig := by
  refine fn_okW (C := cx Tryd.prog 18 c_spec_l10DrawBig) (cs := [(27, c_spec_l01Next), (28, c_spec_l09DrawVariant)]) (res := Tryd.f19.results.toList) (fun _ => ⟨[], [], []⟩) Tryd.func19 (by kernel_rfl) rfl rfl rfl tysOk.look eqTsOk.look (AllCs.ok (l := [(27, c_spec_l01Next), (28, c_spec_l09DrawVariant)]) ⟨k_spec_l01Next, k_spec_l09DrawVariant, trivial⟩) mixed rfl rfl rfl ?_
  refine of_nf (P := ∀ s : (List Int) × Int × Int, (okS s) → ((lensI c_spec_l10DrawBig.ins (s, ())) → ((okS s ∧ (2 : Int) ≤ 1000000000000) ∧ (bsp (decide ((nxtD s (2 : Int)).1 = (0 : Int))) ((okS (s.1, (nxtD s (2 : Int)).2.2)) ∧ (@Eq (HO c_spec_l10DrawBig.outs) ((drawV (s.1, (nxtD s (2 : Int)).2.2)).1, ()) (c_spec_l10DrawBig.out (s, ())) ∧ @Eq (HI c_spec_l10DrawBig.ins) ((s.1, (drawV (s.1, (nxtD s (2 : Int)).2.2)).2.2), ()) (c_spec_l10DrawBig.upd (s, ())))) ((okS (s.1, (nxtD s (2 : Int)).2.2) ∧ (6 : Int) ≤ 1000000000000) ∧ ((inK .i64 (1 + (nxtD (s.1, (nxtD s (2 : Int)).2.2) (6 : Int)).1)) ∧ ((okS (s.1, (nxtD (s.1, (nxtD s (2 : Int)).2.2) (6 : Int)).2.2) ∧ (6 : Int) ≤ 1000000000000) ∧ ((inK .i64 (1 + (nxtD (s.1, (nxtD (s.1, (nxtD s (2 : Int)).2.2) (6 : Int)).2.2) (6 : Int)).1)) ∧ ((okS (s.1, (nxtD (s.1, (nxtD (s.1, (nxtD s (2 : Int)).2.2) (6 : Int)).2.2) (6 : Int)).2.2) ∧ (6 : Int) ≤ 1000000000000) ∧ ((inK .i64 (1 + (nxtD (s.1, (nxtD (s.1, (nxtD (s.1, (nxtD s (2 : Int)).2.2) (6 : Int)).2.2) (6 : Int)).2.2) (6 : Int)).1)) ∧ (@Eq (HO c_spec_l10DrawBig.outs) ((12, (1 + (nxtD (s.1, (nxtD s (2 : Int)).2.2) (6 : Int)).1), (1 + (nxtD (s.1, (nxtD (s.1, (nxtD s (2 : Int)).2.2) (6 : Int)).2.2) (6 : Int)).1), (1 + (nxtD (s.1, (nxtD (s.1, (nxtD (s.1, (nxtD s (2 : Int)).2.2) (6 : Int)).2.2) (6 : Int)).2.2) (6 : Int)).1)), ()) (c_spec_l10DrawBig.out (s, ())) ∧ @Eq (HI c_spec_l10DrawBig.ins) ((s.1, (nxtD (s.1, (nxtD (s.1, (nxtD (s.1, (nxtD s (2 : Int)).2.2) (6 : Int)).2.2) (6 : Int)).2.2) (6 : Int)).2.2), ()) (c_spec_l10DrawBig.upd (s, ()))))))))))))) (by kernel_rfl) ?_
  rintro s hs hl
  have hD := drawBig.eq_1 s
  have h1 := nxtD_ok hs 2
  have b2 := nxtD_bd h1 6
  have h2 := nxtD_ok h1 6
  have b3 := nxtD_bd h2 6
  have h3 := nxtD_ok h2 6
  have b4 := nxtD_bd h3 6
  have dv : (drawV (nxtD s 2).2).2.1 = s.1 := by rw [drawV_code, nxtD_code]
  have out : ∀ r, drawBig s = r → @Eq (HO c_spec_l10DrawBig.outs) (r.1, ()) (c_spec_l10DrawBig.out (s, ())) ∧ @Eq (HI c_spec_l10DrawBig.ins) (r.2, ()) (c_spec_l10DrawBig.upd (s, ())) := fun r h => by
    subst h
    refine ⟨rfl, ?_⟩
    simp only [c_spec_l10DrawBig]
    rw [upd_eta (drawBig_ok hs).2.1]
  simp only [src_etaN, nxtD_code, dv]
  refine ⟨⟨hs, by decide⟩, bspD (fun c => ⟨h1, out _ (hD.trans (if_pos c))⟩) (fun c => ⟨⟨h1, by decide⟩, by simp only [inK]; omega, ⟨h2, by decide⟩, by simp only [inK]; omega, ⟨h3, by decide⟩, by simp only [inK]; omega, out _ (hD.trans (if_neg c))⟩)⟩
def c_spec_l10Draw : Con where
  ins := [(false, .bx (.pr (.sl (.i .u8)) tRoll)), (true, .v tVar)]
  outs := [(false, .own 2 tI)]
  sh := false
  pre := fun x => okS x.1 ∧ okW x.2.1
  out := fun x => ((drawPos x.1 x.2.1).1, ())
  upd := fun x => ((x.1.1, (drawPos x.1 x.2.1).2.2), x.2.1, ())
theorem k_spec_l10Draw [B : Base] : ConOk Tryd.prog 20 c_spec_l10Draw := by
  refine fn_okW (C := cx Tryd.prog 62 c_spec_l10Draw) (cs := [(27, c_spec_l01Next)]) (res := Tryd.f20.results.toList) (fun x => ⟨[{ sh := ⟨[(0, .one (.ref 0)), (3, .one (.ref 2)), (5, .one (.ref 3)), (6, .one (.i .i64)), (7, .one (.i .i64))], [(2, .box [.i .i64, .i .i64, .i .i64, .i .i64]), (3, .own 2 tI true), (0, .box [.ref 1, .i .i64, .i .i64]), (1, .imm (.i .u8) false)]⟩, nx := 4, I := fun _ dat_ => (x.2.1.1 = dat_.2.1.1 ∧ x.2.1.2.1 = dat_.2.1.2.1 ∧ x.2.1.2.2.1 = dat_.2.1.2.2.1 ∧ x.2.1.2.2.2 = dat_.2.1.2.2.2.1 ∧ x.1.1 = dat_.2.2.2.2.1) ∧ ((dat_.2.2.1 = (drIt (([], x.2.1.2.1), x.1) (Int.toNat dat_.1.2.2.2.2.1)).1.1 ∧ dat_.1.2.2.2.1 = (drIt (([], x.2.1.2.1), x.1) (Int.toNat dat_.1.2.2.2.2.1)).1.2 ∧ (x.1.1, dat_.2.2.2.1.2.1, dat_.2.2.2.1.2.2.1) = (drIt (([], x.2.1.2.1), x.1) (Int.toNat dat_.1.2.2.2.2.1)).2) ∧ 0 ≤ dat_.1.2.2.2.2.1 ∧ (dat_.1.2.2.2.2.1 ≤ min 24 x.2.1.2.2.1 ∨ dat_.1.2.2.2.2.1 = 0)), mu := fun dat_ => Int.toNat (min 24 x.2.1.2.2.1 - dat_.1.2.2.2.2.1) }], [], [(9, { sh := ⟨[(0, .one (.ref 0)), (3, .one (.ref 2)), (5, .one (.ref 3)), (6, .one (.i .i64)), (7, .one (.i .i64)), (8, .one (.i .i64))], [(2, .box [.i .i64, .i .i64, .i .i64, .i .i64]), (3, .own 2 tI true), (0, .box [.ref 1, .i .i64, .i .i64]), (1, .imm (.i .u8) false)]⟩, nx := 4, I := fun g_ dat_ => (x.2.1.1 = dat_.2.1.1 ∧ x.2.1.2.1 = dat_.2.1.2.1 ∧ x.2.1.2.2.1 = dat_.2.1.2.2.1 ∧ x.2.1.2.2.2 = dat_.2.1.2.2.2.1 ∧ x.1.1 = dat_.2.2.2.2.1) ∧ ((dat_.2.2.1 = (drIt (([], x.2.1.2.1), x.1) (Int.toNat dat_.1.2.2.2.2.1)).1.1 ∧ dat_.1.2.2.2.1 = (drIt (([], x.2.1.2.1), x.1) (Int.toNat dat_.1.2.2.2.2.1)).1.2 ∧ dat_.1.2.2.2.2.2.1 = drN (drIt (([], x.2.1.2.1), x.1) (Int.toNat dat_.1.2.2.2.2.1))) ∧ (x.1.1, dat_.2.2.2.1.2.1, dat_.2.2.2.1.2.2.1) = (drStep (drIt (([], x.2.1.2.1), x.1) (Int.toNat dat_.1.2.2.2.2.1))).2 ∧ 0 ≤ dat_.1.2.2.2.2.1 ∧ dat_.1.2.2.2.2.1 < min 24 x.2.1.2.2.1 ∧ (g_.headD 0) = Int.toNat (min 24 x.2.1.2.2.1 - dat_.1.2.2.2.2.1)), mu := fun dat_ => 0 })]⟩) Tryd.func20 (by kernel_rfl) rfl rfl rfl tysOk.look eqTsOk.look (AllCs.ok (l := [(27, c_spec_l01Next)]) ⟨k_spec_l01Next, trivial⟩) mixed rfl rfl rfl ?_
  refine of_nf (P := ∀ s : (List Int) × Int × Int, ∀ v : Int × Int × Int × Int, (okS s ∧ okW v) → ((lensI c_spec_l10Draw.ins (s, v, ())) → (((v.1 = v.1 ∧ v.2.1 = v.2.1 ∧ v.2.2.1 = v.2.2.1 ∧ v.2.2.2 = v.2.2.2 ∧ s.1 = s.1) ∧ (([] = (drIt (([], v.2.1), s) (Int.toNat (0 : Int))).1.1 ∧ v.2.1 = (drIt (([], v.2.1), s) (Int.toNat (0 : Int))).1.2 ∧ (s.1, s.2.1, s.2.2) = (drIt (([], v.2.1), s) (Int.toNat (0 : Int))).2) ∧ 0 ≤ (0 : Int) ∧ ((0 : Int) ≤ min 24 v.2.2.1 ∨ (0 : Int) = 0))) ∧ (∀ left : Int, ∀ i : Int, ∀ t3_0 : Int, ∀ t3_1 : Int, ∀ t3_2 : Int, ∀ t3_3 : Int, ∀ out : List Int, ∀ s_1 : Int, ∀ s_2 : Int, ∀ s_0 : List Int, ((v.1 = t3_0 ∧ v.2.1 = t3_1 ∧ v.2.2.1 = t3_2 ∧ v.2.2.2 = t3_3 ∧ s.1 = s_0) ∧ ((out = (drIt (([], v.2.1), s) (Int.toNat i)).1.1 ∧ left = (drIt (([], v.2.1), s) (Int.toNat i)).1.2 ∧ (s.1, s_1, s_2) = (drIt (([], v.2.1), s) (Int.toNat i)).2) ∧ 0 ≤ i ∧ (i ≤ min 24 v.2.2.1 ∨ i = 0))) → (bsp (decide (i < (min (24 : Int) t3_2))) ((inK .i64 (left + 1)) ∧ ((okS (s_0, s_1, s_2) ∧ (max (1 : Int) (left + 1)) ≤ 1000000000000) ∧ (((okS (s_0, (nxtD (s_0, s_1, s_2) (max (1 : Int) (left + 1))).2.2) ∧ (3 : Int) ≤ 1000000000000) ∧ (bsp (decide ((nxtD (s_0, (nxtD (s_0, s_1, s_2) (max (1 : Int) (left + 1))).2.2) (3 : Int)).1 = (0 : Int))) ((v.1 = t3_0 ∧ v.2.1 = t3_1 ∧ v.2.2.1 = t3_2 ∧ v.2.2.2 = t3_3 ∧ s.1 = s_0) ∧ ((out = (drIt (([], v.2.1), s) (Int.toNat i)).1.1 ∧ left = (drIt (([], v.2.1), s) (Int.toNat i)).1.2 ∧ (0 : Int) = drN (drIt (([], v.2.1), s) (Int.toNat i))) ∧ (s.1, (nxtD (s_0, (nxtD (s_0, s_1, s_2) (max (1 : Int) (left + 1))).2.2) (3 : Int)).2.2.1, (nxtD (s_0, (nxtD (s_0, s_1, s_2) (max (1 : Int) (left + 1))).2.2) (3 : Int)).2.2.2) = (drStep (drIt (([], v.2.1), s) (Int.toNat i))).2 ∧ 0 ≤ i ∧ i < min 24 v.2.2.1 ∧ (Int.toNat (min 24 v.2.2.1 - i)) = Int.toNat (min 24 v.2.2.1 - i))) ((v.1 = t3_0 ∧ v.2.1 = t3_1 ∧ v.2.2.1 = t3_2 ∧ v.2.2.2 = t3_3 ∧ s.1 = s_0) ∧ ((out = (drIt (([], v.2.1), s) (Int.toNat i)).1.1 ∧ left = (drIt (([], v.2.1), s) (Int.toNat i)).1.2 ∧ (nxtD (s_0, s_1, s_2) (max (1 : Int) (left + 1))).1 = drN (drIt (([], v.2.1), s) (Int.toNat i))) ∧ (s.1, (nxtD (s_0, (nxtD (s_0, s_1, s_2) (max (1 : Int) (left + 1))).2.2) (3 : Int)).2.2.1, (nxtD (s_0, (nxtD (s_0, s_1, s_2) (max (1 : Int) (left + 1))).2.2) (3 : Int)).2.2.2) = (drStep (drIt (([], v.2.1), s) (Int.toNat i))).2 ∧ 0 ≤ i ∧ i < min 24 v.2.2.1 ∧ (Int.toNat (min 24 v.2.2.1 - i)) = Int.toNat (min 24 v.2.2.1 - i))))) ∧ (∀ left_1 : Int, ∀ i_1 : Int, ∀ n : Int, ∀ t3_0x1 : Int, ∀ t3_1x1 : Int, ∀ t3_2x1 : Int, ∀ t3_3x1 : Int, ∀ out_1 : List Int, ∀ s_1x1 : Int, ∀ s_2x1 : Int, ∀ s_0x1 : List Int, ((v.1 = t3_0x1 ∧ v.2.1 = t3_1x1 ∧ v.2.2.1 = t3_2x1 ∧ v.2.2.2 = t3_3x1 ∧ s.1 = s_0x1) ∧ ((out_1 = (drIt (([], v.2.1), s) (Int.toNat i_1)).1.1 ∧ left_1 = (drIt (([], v.2.1), s) (Int.toNat i_1)).1.2 ∧ n = drN (drIt (([], v.2.1), s) (Int.toNat i_1))) ∧ (s.1, s_1x1, s_2x1) = (drStep (drIt (([], v.2.1), s) (Int.toNat i_1))).2 ∧ 0 ≤ i_1 ∧ i_1 < min 24 v.2.2.1 ∧ (Int.toNat (min 24 v.2.2.1 - i)) = Int.toNat (min 24 v.2.2.1 - i_1))) → ((out_1.length + ([n] : List Int).length ≤ AB) ∧ ((inK .i64 (left_1 - n)) ∧ ((inK .i64 (i_1 + 1)) ∧ (((v.1 = t3_0x1 ∧ v.2.1 = t3_1x1 ∧ v.2.2.1 = t3_2x1 ∧ v.2.2.2 = t3_3x1 ∧ s.1 = s_0x1) ∧ (((out_1 ++ [n]) = (drIt (([], v.2.1), s) (Int.toNat (i_1 + 1))).1.1 ∧ (left_1 - n) = (drIt (([], v.2.1), s) (Int.toNat (i_1 + 1))).1.2 ∧ (s.1, s_1x1, s_2x1) = (drIt (([], v.2.1), s) (Int.toNat (i_1 + 1))).2) ∧ 0 ≤ (i_1 + 1) ∧ ((i_1 + 1) ≤ min 24 v.2.2.1 ∨ (i_1 + 1) = 0))) ∧ ((Int.toNat (min 24 v.2.2.1 - (i_1 + 1)) : Nat) < Int.toNat (min 24 v.2.2.1 - i)))))))))) ((okS (s_0, s_1, s_2) ∧ (30 : Int) ≤ 1000000000000) ∧ (bsp (decide ((nxtD (s_0, s_1, s_2) (30 : Int)).1 = (0 : Int))) ((out.length + ([0] : List Int).length ≤ AB) ∧ (@Eq (HO c_spec_l10Draw.outs) ((out ++ [0]), ()) (c_spec_l10Draw.out (s, v, ())) ∧ @Eq (HI c_spec_l10Draw.ins) ((s.1, (nxtD (s_0, s_1, s_2) (30 : Int)).2.2), v, ()) (c_spec_l10Draw.upd (s, v, ())))) (bsp (decide ((nxtD (s_0, s_1, s_2) (30 : Int)).1 = (1 : Int))) (bsp (decide ((0 : Int) < (out.length : Int))) ((0 ≤ (0 : Int) ∧ 0 < (out.length : Int)) ∧ ((0 < out.length) ∧ (@Eq (HO c_spec_l10Draw.outs) ((out.set 0 (-1)), ()) (c_spec_l10Draw.out (s, v, ())) ∧ @Eq (HI c_spec_l10Draw.ins) ((s.1, (nxtD (s_0, s_1, s_2) (30 : Int)).2.2), v, ()) (c_spec_l10Draw.upd (s, v, ()))))) (@Eq (HO c_spec_l10Draw.outs) (out, ()) (c_spec_l10Draw.out (s, v, ())) ∧ @Eq (HI c_spec_l10Draw.ins) ((s.1, (nxtD (s_0, s_1, s_2) (30 : Int)).2.2), v, ()) (c_spec_l10Draw.upd (s, v, ())))) (bsp (decide ((nxtD (s_0, s_1, s_2) (30 : Int)).1 = (2 : Int))) (bsp (decide ((0 : Int) < (out.length : Int))) ((inK .i64 ((out.length : Int) - 1)) ∧ ((inK .i64 (t3_1 + 1)) ∧ ((0 ≤ ((out.length : Int) - 1) ∧ ((out.length : Int) - 1) < (out.length : Int)) ∧ ((((out.length : Int) - 1).toNat < out.length) ∧ (@Eq (HO c_spec_l10Draw.outs) ((out.set ((out.length : Int) - 1).toNat (t3_1 + 1)), ()) (c_spec_l10Draw.out (s, v, ())) ∧ @Eq (HI c_spec_l10Draw.ins) ((s.1, (nxtD (s_0, s_1, s_2) (30 : Int)).2.2), v, ()) (c_spec_l10Draw.upd (s, v, ()))))))) (@Eq (HO c_spec_l10Draw.outs) (out, ()) (c_spec_l10Draw.out (s, v, ())) ∧ @Eq (HI c_spec_l10Draw.ins) ((s.1, (nxtD (s_0, s_1, s_2) (30 : Int)).2.2), v, ()) (c_spec_l10Draw.upd (s, v, ())))) (@Eq (HO c_spec_l10Draw.outs) (out, ()) (c_spec_l10Draw.out (s, v, ())) ∧ @Eq (HI c_spec_l10Draw.ins) ((s.1, (nxtD (s_0, s_1, s_2) (30 : Int)).2.2), v, ()) (c_spec_l10Draw.upd (s, v, ())))))))))))) (by kernel_rfl) ?_
  rintro s v ⟨hs, hv⟩ hl
  have hv' := hv
  unfold okW at hv'
  have hok := drIt_ok hs hv.1
  refine ⟨⟨(by first | trivial | rfl | (and_intros <;> rfl)), ⟨rfl, rfl, rfl⟩, by omega, .inr rfl⟩, ?_⟩
  rintro left i t3_0 t3_1 t3_2 t3_3 out s_1 s_2 s_0 ⟨⟨rfl, rfl, rfl, rfl, rfl⟩, ⟨⟨ho, hle, hs'⟩, i0, i1⟩⟩
  simp only [Prod.eta]
  obtain ⟨k, rfl⟩ : ∃ k : Nat, i = k := ⟨i.toNat, by omega⟩
  simp only [Int.toNat_natCast] at ho hle hs' ⊢
  obtain ⟨j1, j2, j3, j4, j5⟩ := hok k
  rw [hs']
  subst ho
  subst hle
  have hnN := drN.eq_1 (drIt (([], v.2.1), s) k)
  have r1 := nxtD_ok j1 (max 1 ((drIt (([], v.2.1), s) k).1.2 + 1))
  simp only [src_etaN, nxtD_code, j2]
  refine bspD (fun hlt => ⟨by simp only [inK]; omega, ⟨j1, by omega⟩, ⟨⟨r1, by decide⟩, bspD (fun c => ⟨(by first | trivial | rfl | (and_intros <;> rfl)), ⟨by trivial, by trivial, ?_⟩, ?_, by omega, hlt, by trivial⟩) (fun c => ⟨(by first | trivial | rfl | (and_intros <;> rfl)), ⟨by trivial, by trivial, ?_⟩, ?_, by omega, hlt, by trivial⟩)⟩, ?_⟩) (fun hge => ?_)
  · rw [hnN, if_pos c]
  · rfl
  · rw [hnN, if_neg c]
  · rfl
  · rintro left_1 i_1 n t3_0x1 t3_1x1 t3_2x1 t3_3x1 out_1 s_1x1 s_2x1 s_0x1 ⟨⟨rfl, rfl, rfl, rfl, rfl⟩, ⟨⟨ho1, hl1, hn1⟩, hs1, q0, q1, hG⟩⟩
    obtain rfl : i_1 = (k : Int) := by omega
    simp only [Int.toNat_natCast] at ho1 hl1 hn1 hs1
    subst ho1
    subst hl1
    have b1 := nxtD_bd j1 (max 1 ((drIt (([], v.2.1), s) k).1.2 + 1))
    have hnb : 0 ≤ n ∧ n ≤ 100 := by rw [hn1, hnN]; split <;> omega
    rw [show ((k : Int) + 1).toNat = k + 1 by omega]
    refine ⟨by simp [AB]; omega, by simp only [inK]; omega, by simp only [inK]; omega, ⟨(by first | trivial | rfl | (and_intros <;> rfl)), ⟨?_, ?_, ?_⟩, by omega, .inl (by omega)⟩, by omega⟩
    · rw [hn1]; rfl
    · rw [hn1]; rfl
    · rw [hs1]; rfl
  · have hk : (min 24 v.2.2.1).toNat = k := by omega
    have hP : drawP0 s v = drIt (([], v.2.1), s) k := by unfold drawP0; rw [hk]
    have hD : drawPos s v = drEnd v.2.1 (drIt (([], v.2.1), s) k).1.1 (drIt (([], v.2.1), s) k).2 := by unfold drawPos; rw [hP]
    have hE := drEnd.eq_1 v.2.1 (drIt (([], v.2.1), s) k).1.1 (drIt (([], v.2.1), s) k).2
    rw [← hD] at hE
    have out : ∀ l : List Int, drawPos s v = (l, (nxtD (drIt (([], v.2.1), s) k).2 30).2) → @Eq (HO c_spec_l10Draw.outs) (l, ()) (c_spec_l10Draw.out (s, v, ())) ∧ @Eq (HI c_spec_l10Draw.ins) ((nxtD (drIt (([], v.2.1), s) k).2 30).2, v, ()) (c_spec_l10Draw.upd (s, v, ())) := fun l h => by
      have h1 : (drawPos s v).1 = l := by rw [h]
      have h2 : (drawPos s v).2 = (nxtD (drIt (([], v.2.1), s) k).2 30).2 := by rw [h]
      subst h1
      refine ⟨rfl, ?_⟩
      rw [← h2]
      simp only [c_spec_l10Draw]
      rw [upd_eta (drawPos_ok hs hv).2.1]
    refine ⟨⟨j1, by decide⟩, bspD (fun c0 => ⟨by simp [AB]; omega, out _ (by rw [hE, if_pos c0])⟩) (fun c0 => bspD (fun c1 => bspD (fun c => ⟨⟨by omega, by omega⟩, by omega, out _ (by rw [hE, if_neg c0, if_pos c1, if_pos (by omega)])⟩) (fun c => out _ (by rw [hE, if_neg c0, if_pos c1, if_neg (by omega)]))) (fun c1 => bspD (fun c2 => bspD (fun c => ⟨by simp only [inK]; omega, by simp only [inK]; omega, ⟨by omega, by omega⟩, by omega, out _ (by rw [hE, if_neg c0, if_neg c1, if_pos c2, if_pos (by omega)]; congr 2; omega)⟩) (fun c => out _ (by rw [hE, if_neg c0, if_neg c1, if_pos c2, if_neg (by omega)]))) (fun c2 => out _ (by rw [hE, if_neg c0, if_neg c1, if_neg c2]))))⟩
def drawBear (c : List Int) : DVar × List Int := ((drawBig (fromD c)).1, (drawPos (drawBig (fromD c)).2 (drawBig (fromD c)).1).1)
theorem okC_ofN {c : List Int} (h : wfD (TC.sl (.i .u8)) c) (hl : ¬ 4096 < (c.length : Int)) : okC c := by
  refine ⟨by omega, fun i => ?_⟩
  by_cases hi : i < c.length
  · have := h _ (by rw [List.getD_eq_getElem?_getD, List.getElem?_eq_getElem hi]; exact List.getElem_mem hi : c.getD i 0 ∈ c)
    simp only [wfD, inK] at this
    omega
  · rw [List.getD_eq_getElem?_getD, List.getElem?_eq_none (by omega)]; decide
def c_spec_DrawIsBearoff : Con where
  ins := [(false, .v (.sl (.i .u8)))]
  outs := [(true, .v tVar), (false, .own 2 tI)]
  sh := false
  pre := fun x => okC x.1
  out := fun x => ((drawBear x.1).1, (drawBear x.1).2, ())
  upd := fun x => x
theorem k_spec_DrawIsBearoff [B : Base] : ConOk Tryd.prog 10 c_spec_DrawIsBearoff := by
  refine fn_ok (C := cx Tryd.prog 14 c_spec_DrawIsBearoff) (cs := [(18, c_spec_l01From), (19, c_spec_l10DrawBig), (20, c_spec_l10Draw)]) (res := Tryd.f10.results.toList) (fun _ => ⟨[], [(3, ⟨[[], [], [], [1, 2], [0, 1, 2, 3], [0, 1, 2, 3, 4]], [[1, 2, 3], [0, 2], [0, 1], [0], [], []], [[49], [], [], [], [], []]⟩)], []⟩) Tryd.func10 (by kernel_rfl) rfl rfl rfl tysOk.look eqTsOk.look (AllCs.ok (l := [(18, c_spec_l01From), (19, c_spec_l10DrawBig), (20, c_spec_l10Draw)]) ⟨k_spec_l01From, k_spec_l10DrawBig, k_spec_l10Draw, trivial⟩) mixed rfl rfl rfl ?_
  refine of_nf (P := ∀ c : List Int, (okC c) → ((lensI c_spec_DrawIsBearoff.ins (c, ())) → ((okC c) ∧ ((okS (fromD c)) ∧ ((okS ((fromD c).1, (drawBig (fromD c)).2.2) ∧ okW (drawBig (fromD c)).1) ∧ (@Eq (HO c_spec_DrawIsBearoff.outs) ((drawBig (fromD c)).1, (drawPos ((fromD c).1, (drawBig (fromD c)).2.2) (drawBig (fromD c)).1).1, ()) (c_spec_DrawIsBearoff.out (c, ())))))))) (by kernel_rfl) ?_
  rintro c hc hl
  have hF := fromD_ok hc
  obtain ⟨a1, a2, a3⟩ := drawBig_ok hF
  have e1 : ((fromD c).1, (drawBig (fromD c)).2.2) = (drawBig (fromD c)).2 := src_etaN a2
  rw [e1]
  exact ⟨hc, hF, ⟨a1, a3⟩, rfl⟩
def c_spec_DrawBearoffText : Con where
  ins := [(false, .v (.sl (.i .u8)))]
  outs := [(true, .v tVar), (false, .own 2 tI)]
  sh := false
  pre := fun x => okC x.1
  out := fun x => ((drawBear x.1).1, (drawBear x.1).2, ())
  upd := fun x => x
theorem k_spec_DrawBearoffText [B : Base] : ConOk Tryd.prog 5 c_spec_DrawBearoffText := by
  refine fn_ok (C := cx Tryd.prog 8 c_spec_DrawBearoffText) (cs := [(10, c_spec_DrawIsBearoff)]) (res := Tryd.f5.results.toList) (fun _ => ⟨[], [], []⟩) Tryd.func5 (by kernel_rfl) rfl rfl rfl tysOk.look eqTsOk.look (AllCs.ok (l := [(10, c_spec_DrawIsBearoff)]) ⟨k_spec_DrawIsBearoff, trivial⟩) mixed rfl rfl rfl ?_
  refine of_nf (P := ∀ c : List Int, (okC c) → ((lensI c_spec_DrawBearoffText.ins (c, ())) → ((okC c) ∧ (@Eq (HO c_spec_DrawBearoffText.outs) ((drawBear c).1, (drawBear c).2, ()) (c_spec_DrawBearoffText.out (c, ())))))) (by kernel_rfl) ?_
  rintro c hc hl
  exact ⟨hc, rfl⟩
def c_laws_big : Con where
  ins := [(false, .v (.sl (.i .u8)))]
  outs := [(false, .v .b)]
  sh := false
  pre := fun _ => True
  out := fun x => (decide (4096 < (List.length x.1 : Int)), ())
  upd := fun x => x
theorem k_laws_big [B : Base] : ConOk Tryd.prog 4 c_laws_big := by
  refine fn_ok (C := cx Tryd.prog 6 c_laws_big) (cs := []) (res := Tryd.f4.results.toList) (fun _ => ⟨[], [], []⟩) Tryd.func4 (by kernel_rfl) rfl rfl rfl tysOk.look eqTsOk.look (AllCs.ok (l := []) trivial) mixed rfl rfl rfl ?_
  refine of_nf (P := ∀ c : List Int, (True) → ((lensI c_laws_big.ins (c, ())) → (@Eq (HO c_laws_big.outs) ((decide ((4096 : Int) < (c.length : Int))), ()) (c_laws_big.out (c, ()))))) (by kernel_rfl) ?_
  rintro c hp hl
  rfl
def c_laws_likeInts : Con where
  ins := [(false, .v tSI), (false, .v tSI)]
  outs := [(false, .v .b)]
  sh := false
  pre := fun _ => True
  out := fun x => (decide (x.1 = x.2.1), ())
  upd := fun x => x
theorem k_laws_likeInts [B : Base] : ConOk Tryd.prog 9 c_laws_likeInts := by
  refine fn_ok (C := cx Tryd.prog 26 c_laws_likeInts) (cs := []) (res := Tryd.f9.results.toList) (fun x => ⟨[{ sh := ⟨[(0, .one (.ref 0)), (1, .one (.ref 1)), (5, .one (.i .i64))], [(0, .imm tI false), (1, .imm tI false)]⟩, nx := 2, I := fun _ dat_ => (x.1 = dat_.2.1 ∧ x.2.1 = dat_.2.2.1) ∧ (List.length x.1 = List.length x.2.1 ∧ (∀ j : Nat, j < Int.toNat dat_.1.2.2.1 → List.getD x.1 j 0 = List.getD x.2.1 j 0) ∧ 0 ≤ dat_.1.2.2.1 ∧ dat_.1.2.2.1 ≤ (List.length x.1 : Int)), mu := fun dat_ => Int.toNat ((List.length x.1 : Int) - dat_.1.2.2.1) }], [(6, ⟨[[], [], [0, 1], [0, 1, 2], [], [], [4, 5], [4, 5, 6], [0, 1, 2, 3, 4, 5, 6, 7]], [[1, 4, 5, 6, 7], [0, 4, 5, 6, 7], [4, 5, 6, 7], [4, 5, 6, 7], [0, 1, 2, 3, 5], [0, 1, 2, 3, 4], [0, 1, 2, 3], [0, 1, 2, 3], []], []⟩)], []⟩) Tryd.func9 (by kernel_rfl) rfl rfl rfl tysOk.look eqTsOk.look (AllCs.ok (l := []) trivial) mixed rfl rfl rfl ?_
  refine of_nf (P := ∀ p : List Int, ∀ q : List Int, (True) → ((lensI c_laws_likeInts.ins (p, q, ())) → (bsp (decide ((p.length : Int) ≠ (q.length : Int))) (@Eq (HO c_laws_likeInts.outs) (false, ()) (c_laws_likeInts.out (p, q, ()))) (((p = p ∧ q = q) ∧ (List.length p = List.length q ∧ (∀ j : Nat, j < Int.toNat (0 : Int) → List.getD p j 0 = List.getD q j 0) ∧ 0 ≤ (0 : Int) ∧ (0 : Int) ≤ (List.length p : Int))) ∧ (∀ i : Int, ∀ t0 : List Int, ∀ t1 : List Int, ((p = t0 ∧ q = t1) ∧ (List.length p = List.length q ∧ (∀ j : Nat, j < Int.toNat i → List.getD p j 0 = List.getD q j 0) ∧ 0 ≤ i ∧ i ≤ (List.length p : Int))) → (bsp (decide (i < (t0.length : Int))) ((0 ≤ i ∧ i < (t0.length : Int)) ∧ ((i.toNat < t0.length) ∧ ((0 ≤ i ∧ i < (t1.length : Int)) ∧ ((i.toNat < t1.length) ∧ (bsp (decide ((t0.getD i.toNat 0) ≠ (t1.getD i.toNat 0))) (@Eq (HO c_laws_likeInts.outs) (false, ()) (c_laws_likeInts.out (p, q, ()))) ((inK .i64 (i + 1)) ∧ (((p = t0 ∧ q = t1) ∧ (List.length p = List.length q ∧ (∀ j : Nat, j < Int.toNat (i + 1) → List.getD p j 0 = List.getD q j 0) ∧ 0 ≤ (i + 1) ∧ (i + 1) ≤ (List.length p : Int))) ∧ ((Int.toNat ((List.length p : Int) - (i + 1)) : Nat) < Int.toNat ((List.length p : Int) - i))))))))) (@Eq (HO c_laws_likeInts.outs) (true, ()) (c_laws_likeInts.out (p, q, ()))))))))) (by kernel_rfl) ?_
  rintro p q hp hl
  have hlen : p.length ≤ 9223372036854775807 := hl.1.1
  refine bspD (fun h => ?_) (fun h => ⟨⟨(by first | trivial | rfl | (and_intros <;> rfl)), by omega, fun j hj => by simp at hj, by omega, by omega⟩, ?_⟩)
  · have : p ≠ q := fun e => h (by rw [e])
    simp only [c_laws_likeInts, decide_eq_false this]
  rintro i t0 t1 ⟨⟨rfl, rfl⟩, ⟨he, ha, i0, i1⟩⟩
  obtain ⟨k, rfl⟩ : ∃ k : Nat, i = k := ⟨i.toNat, by omega⟩
  simp only [Int.toNat_natCast, show ((k : Int) + 1).toNat = k + 1 by omega] at ha ⊢
  refine bspD (fun hlt => ⟨⟨by omega, by omega⟩, by omega, ⟨by omega, by omega⟩, by omega, bspD (fun g => ?_) (fun g => ⟨by simp only [inK]; omega, ⟨(by first | trivial | rfl | (and_intros <;> rfl)), he, fun j hj => ?_, by omega, by omega⟩, by omega⟩)⟩) (fun hge => ?_)
  · have : p ≠ q := fun e => g (by rw [e])
    simp only [c_laws_likeInts, decide_eq_false this]
  · by_cases e : j = k
    · subst e; exact Decidable.not_not.1 g
    · exact ha j (by omega)
  · have : p = q := List.ext_getElem? fun j => by
      by_cases e : j < p.length
      · have := ha j (by omega)
        rw [List.getD_eq_getElem?_getD, List.getD_eq_getElem?_getD, List.getElem?_eq_getElem e, List.getElem?_eq_getElem (by omega)] at this
        rw [List.getElem?_eq_getElem e, List.getElem?_eq_getElem (by omega)]
        exact congrArg some this
      · rw [List.getElem?_eq_none (by omega), List.getElem?_eq_none (by omega)]
    simp only [c_laws_likeInts, decide_eq_true this]
end Go.Proofs.YtpoaimdoogckbaaDoor
