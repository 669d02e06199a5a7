/-
  Draws of steps, rolls, turns and their texts.
-/
import Derived.Test.YtmklkigppmgigaaGreatDoorVDrawB
import Derived.Test.YtmklkigppmgigaaGreatDoorVW9b
import Derived.Test.YtmklkigppmgigaaGreatDoorVTurnT
import Derived.Test.YtmklkigppmgigaaGreatDoorVReadQ
import Derived.Test.YtmklkigppmgigaaGreatDoorAbL
namespace Go.Proofs.YtmklkigppmgigaaGreatDoor
open Go.RowKit
set_option linter.unusedSimpArgs false
set_option linter.unusedVariables false
noncomputable section
def litS : List ByteArray := [ByteArray.mk #[48], ByteArray.mk #[47], ByteArray.mk #[32], ByteArray.mk #[42], ByteArray.mk #[111, 102, 102], ByteArray.mk #[98, 97, 114], ByteArray.mk #[40], ByteArray.mk #[49, 41]]
def okV (v : DVar) : Prop := (-1 ≤ v.1 ∧ v.1 ≤ 25) ∧ 0 ≤ v.2.2.2 ∧ v.2.2.2 ≤ 7
def drawRl (s : DSrc) (v : DVar) : DRoll × DSrc :=
  if (nxtD s 20).1 = 0 then (((nxtD (nxtD s 20).2 8).1, (nxtD (nxtD (nxtD s 20).2 8).2 8).1), (nxtD (nxtD (nxtD s 20).2 8).2 8).2)
  else ((max (1 + (nxtD (nxtD s 20).2 v.2.2.2).1) (1 + (nxtD (nxtD (nxtD s 20).2 v.2.2.2).2 v.2.2.2).1), min (1 + (nxtD (nxtD s 20).2 v.2.2.2).1) (1 + (nxtD (nxtD (nxtD s 20).2 v.2.2.2).2 v.2.2.2).1)), (nxtD (nxtD (nxtD s 20).2 v.2.2.2).2 v.2.2.2).2)
def stA (s : DSrc) (v : DVar) : Int := (nxtD s (v.1 + 1)).1
def stB (s : DSrc) (v : DVar) : Int := 1 + (nxtD (nxtD s (v.1 + 1)).2 v.2.2.2).1
def stC (s : DSrc) (v : DVar) : Int := max (-1) (stA s v - stB s v)
def stS (s : DSrc) (v : DVar) : DSrc := (nxtD (nxtD s (v.1 + 1)).2 v.2.2.2).2
def stH (s : DSrc) (v : DVar) : Bool × DSrc := if 0 ≤ stC s v then (decide ((nxtD (stS s v) 4).1 = 0), (nxtD (stS s v) 4).2) else (false, stS s v)
def drawSt (s : DSrc) (v : DVar) : DStep × DSrc :=
  if (nxtD (stH s v).2 20).1 = 0 then ((stA s v, stC s v, stB s v + 1, (stH s v).1), (nxtD (stH s v).2 20).2)
  else if (nxtD (stH s v).2 20).1 = 1 then ((stA s v, stC s v, stB s v, true), (nxtD (stH s v).2 20).2)
  else if (nxtD (stH s v).2 20).1 = 2 then ((v.1 + (nxtD (nxtD (stH s v).2 20).2 2).1, stC s v, stB s v, (stH s v).1), (nxtD (nxtD (stH s v).2 20).2 2).2)
  else if (nxtD (stH s v).2 20).1 = 3 then ((stA s v, -1, stB s v, (stH s v).1), (nxtD (stH s v).2 20).2)
  else ((stA s v, stC s v, stB s v, (stH s v).1), (nxtD (stH s v).2 20).2)
def drawStN (s : DSrc) (v : DVar) : Nat → List DStep × DSrc
  | 0 => ([], s)
  | n + 1 => ((drawStN s v n).1 ++ [(drawSt (drawStN s v n).2 v).1], (drawSt (drawStN s v n).2 v).2)
def cntS (s : DSrc) : Int := (nxtD s 5).1 + Int.tdiv (nxtD (nxtD s 5).2 16).1 15
def drawSts (s : DSrc) (v : DVar) : List DStep × DSrc := drawStN (nxtD (nxtD s 5).2 16).2 v (cntS s).toNat
def dmK (s : DSrc) (t : ByteArray) : Int := (nxtD s ((t.size : Int) + 1)).1
def dmS (s : DSrc) (t : ByteArray) : DSrc := (nxtD (nxtD s ((t.size : Int) + 1)).2 8).2
def dmC (s : DSrc) (t : ByteArray) : Int := (nxtD (nxtD s ((t.size : Int) + 1)).2 8).1
def damage (s : DSrc) (t : ByteArray) : ByteArray × DSrc :=
  if dmC s t = 0 then (t.extract 0 (dmK s t).toNat, dmS s t)
  else if dmC s t = 1 then (t.extract 0 (dmK s t).toNat ++ litS.getD (nxtD (dmS s t) 8).1.toNat ByteArray.empty ++ t.extract (dmK s t).toNat t.size, (nxtD (dmS s t) 8).2)
  else if dmC s t = 2 then (if dmK s t < (t.size : Int) then (t.extract 0 (dmK s t).toNat ++ t.extract (dmK s t + 1).toNat t.size, dmS s t) else (t, dmS s t))
  else (t, dmS s t)
def drawTT (c : List Int) : (DVar × DRoll × List DStep) × DSrc :=
  (((drawAny (fromD c)).1, (drawRl (drawAny (fromD c)).2 (drawAny (fromD c)).1).1, (drawSts (drawRl (drawAny (fromD c)).2 (drawAny (fromD c)).1).2 (drawAny (fromD c)).1).1), (drawSts (drawRl (drawAny (fromD c)).2 (drawAny (fromD c)).1).2 (drawAny (fromD c)).1).2)
def padN (t : ByteArray) : Nat → ByteArray
  | 0 => t
  | k + 1 => padN t k ++ spB
def ttS (c : List Int) : ByteArray := turnS (drawTT c).1.1 (drawTT c).1.2.1 (drawTT c).1.2.2
def ttP (c : List Int) : ByteArray × DSrc :=
  if (nxtD (drawTT c).2 20).1 = 0 then (padN (ttS c) (80 + (nxtD (nxtD (drawTT c).2 20).2 2).1 - (ttS c).size).toNat, (nxtD (nxtD (drawTT c).2 20).2 2).2) else (ttS c, (nxtD (drawTT c).2 20).2)
def drawRT (c : List Int) : DVar × ByteArray := ((drawTT c).1.1, (damage (ttP c).2 (ttP c).1).1)
theorem drawRl_ok {s : DSrc} (v : DVar) (h : okS s) : okS (drawRl s v).2 ∧ (drawRl s v).2.1 = s.1 := by
  unfold drawRl
  split
  · exact ⟨nxtD_ok (nxtD_ok (nxtD_ok h _) _) _, by simp only [nxtD_codeB]⟩
  · exact ⟨nxtD_ok (nxtD_ok (nxtD_ok h _) _) _, by simp only [nxtD_codeB]⟩
theorem stS_ok {s : DSrc} (v : DVar) (h : okS s) : okS (stS s v) ∧ (stS s v).1 = s.1 := ⟨nxtD_ok (nxtD_ok h _) _, by simp only [stS, nxtD_codeB]⟩
theorem stH_ok {s : DSrc} (v : DVar) (h : okS s) : okS (stH s v).2 ∧ (stH s v).2.1 = s.1 := by
  obtain ⟨a, b⟩ := stS_ok v h
  unfold stH
  split
  · exact ⟨nxtD_ok a _, by simp only [nxtD_codeB, b]⟩
  · exact ⟨a, b⟩
theorem drawSt_ok {s : DSrc} (v : DVar) (h : okS s) : okS (drawSt s v).2 ∧ (drawSt s v).2.1 = s.1 := by
  obtain ⟨a, b⟩ := stH_ok v h
  have c := nxtD_ok a 20
  unfold drawSt
  repeat' split
  all_goals first | exact ⟨nxtD_ok c _, by simp only [nxtD_codeB, b]⟩ | exact ⟨c, by simp only [nxtD_codeB, b]⟩
theorem drawStN_ok {s : DSrc} (v : DVar) (h : okS s) : ∀ n, okS (drawStN s v n).2 ∧ (drawStN s v n).2.1 = s.1 ∧ (drawStN s v n).1.length = n
  | 0 => ⟨h, rfl, rfl⟩
  | n + 1 => by
    obtain ⟨a, b, c⟩ := drawStN_ok v h n
    obtain ⟨d, e⟩ := drawSt_ok v a
    exact ⟨d, by simp only [drawStN]; rw [e, b], by simp only [drawStN, List.length_append, c]; rfl⟩
theorem cntS_bd {s : DSrc} (h : okS s) : 0 ≤ cntS s ∧ cntS s ≤ 5 := by
  have a := nxtD_bd h 5
  have b := nxtD_bd (nxtD_ok h 5) 16
  unfold cntS
  rw [Int.tdiv_eq_ediv_of_nonneg (by omega)]; omega
theorem drawSts_ok {s : DSrc} (v : DVar) (h : okS s) : okS (drawSts s v).2 ∧ (drawSts s v).2.1 = s.1 ∧ (drawSts s v).1.length ≤ 5 := by
  obtain ⟨a, b, c⟩ := drawStN_ok v (nxtD_ok (nxtD_ok h 5) 16) (cntS s).toNat
  have := cntS_bd h
  exact ⟨a, by unfold drawSts; rw [b]; simp only [nxtD_codeB], by unfold drawSts; omega⟩
theorem dmS_ok {s : DSrc} (t : ByteArray) (h : okS s) : okS (dmS s t) ∧ (dmS s t).1 = s.1 := ⟨nxtD_ok (nxtD_ok h _) _, by simp only [dmS, nxtD_codeB]⟩
theorem lit_size (k : Nat) : (litS.getD k ByteArray.empty).size ≤ 3 := by
  match k with
  | 0 | 1 | 2 | 3 | 4 | 5 | 6 | 7 => decide
  | k + 8 => exact Nat.zero_le _
theorem ext_size (t : ByteArray) (a b : Nat) : (t.extract a b).size ≤ t.size := by
  rw [Lib.size_eq, Lib.size_eq, ext_list, List.length_take, List.length_drop]; omega
theorem damage_ok {s : DSrc} (t : ByteArray) (h : okS s) : okS (damage s t).2 ∧ (damage s t).2.1 = s.1 ∧ (damage s t).1.size ≤ 2 * t.size + 3 := by
  obtain ⟨a, b⟩ := dmS_ok t h
  unfold damage
  repeat' split
  · exact ⟨a, b, by have := ext_size t 0 (dmK s t).toNat; dsimp only; omega⟩
  · refine ⟨nxtD_ok a _, by simp only [nxtD_codeB, b], ?_⟩
    have h1 := ext_size t 0 (dmK s t).toNat
    have h2 := ext_size t (dmK s t).toNat t.size
    have h3 := lit_size (nxtD (dmS s t) 8).1.toNat
    simp only [app_size]; omega
  · refine ⟨a, b, ?_⟩
    have h1 := ext_size t 0 (dmK s t).toNat
    have h2 := ext_size t (dmK s t + 1).toNat t.size
    simp only [app_size]; omega
  · exact ⟨a, b, by dsimp only; omega⟩
  · exact ⟨a, b, by dsimp only; omega⟩
theorem drawAny_okV {s : DSrc} (h : okS s) : okV (drawAny s).1 := by
  obtain ⟨v1, v2, v3⟩ := drawVal_ok h
  obtain ⟨g1, g2, g3, g4⟩ := varD_iff.1 v3
  have h0 := nxtD_ok v1 40
  have b4 := nxtD_bd h0 4
  have b2 := nxtD_bd h0 2
  unfold drawAny okV
  simp only []
  repeat' split
  · have : ∀ k : Nat, -1 ≤ ([1, 25, -1, 24] : List Int).getD k 0 ∧ ([1, 25, -1, 24] : List Int).getD k 0 ≤ 25 := fun k => by
      match k with
      | 0 | 1 | 2 | 3 => decide
      | k + 4 => exact ⟨show (-1 : Int) ≤ 0 by decide, show (0 : Int) ≤ 25 by decide⟩
    have := this (nxtD (nxtD (drawVal s).2 40).2 4).1.toNat
    dsimp only; omega
  all_goals (dsimp only; omega)
theorem drawTT_ok {c : List Int} (h : okC c) : okS (drawTT c).2 ∧ (drawTT c).2.1 = c ∧ (drawTT c).1.2.2.length ≤ 5 ∧ okV (drawTT c).1.1 := by
  have hF := fromD_ok h
  obtain ⟨a1, a2⟩ := drawAny_ok hF
  obtain ⟨b1, b2⟩ := drawRl_ok (drawAny (fromD c)).1 a1
  obtain ⟨c1, c2, c3⟩ := drawSts_ok (drawAny (fromD c)).1 b1
  exact ⟨c1, by unfold drawTT; dsimp only; rw [c2, b2, a2]; rfl, c3, drawAny_okV hF⟩
theorem turnS_size (v : DVar) (r : DRoll) (ss : List DStep) : (turnS v r ss).size ≤ 600 := by
  have h1 := stepsS_size v ss
  have h2 := rollS_size (v := v) (r := r)
  have k2 : colB.size = 2 := rfl
  have k0 : nilB.size = 0 := rfl
  unfold turnS
  repeat' split
  all_goals first | (simp only [app_size]; omega) | omega
theorem padN_size (t : ByteArray) : ∀ k, (padN t k).size = t.size + k
  | 0 => rfl
  | k + 1 => by have k1 : spB.size = 1 := rfl; rw [padN, app_size, padN_size t k]; omega
theorem ttP_ok {c : List Int} (h : okC c) : okS (ttP c).2 ∧ (ttP c).2.1 = c ∧ (ttP c).1.size ≤ 700 := by
  obtain ⟨a, b, -, -⟩ := drawTT_ok h
  have hz := turnS_size (drawTT c).1.1 (drawTT c).1.2.1 (drawTT c).1.2.2
  have b2 := nxtD_bd (nxtD_ok a 20) 2
  unfold ttP
  split
  · refine ⟨nxtD_ok (nxtD_ok a _) _, by simp only [nxtD_codeB, b], ?_⟩
    rw [padN_size]
    have : (ttS c).size ≤ 600 := hz
    omega
  · exact ⟨nxtD_ok a _, by simp only [nxtD_codeB, b], by have : (ttS c).size ≤ 600 := hz; dsimp only; omega⟩
theorem okC_other {c : List Int} (h : okC c) (hl : c.length ≤ 4096) : okC ([6, 13, 18] ++ c) := by
  refine ⟨by simp; omega, fun i => ?_⟩
  match i with
  | 0 => exact ⟨show (0 : Int) ≤ 6 by decide, show (6 : Int) ≤ 255 by decide⟩
  | 1 => exact ⟨show (0 : Int) ≤ 13 by decide, show (13 : Int) ≤ 255 by decide⟩
  | 2 => exact ⟨show (0 : Int) ≤ 18 by decide, show (18 : Int) ≤ 255 by decide⟩
  | i + 3 => exact h.2 i
def c_spec_l07DrawRoll : Con where
  ins := [(false, .bx (.pr (.sl (.i .u8)) tRoll)), (true, .v tVar)]
  outs := [(true, .v tRoll)]
  sh := false
  pre := fun x => okS x.1 ∧ okV x.2.1
  out := fun x => ((drawRl x.1 x.2.1).1, ())
  upd := fun x => ((x.1.1, (drawRl x.1 x.2.1).2.2), x.2.1, ())
theorem k_spec_l07DrawRoll [B : Base] : ConOk Tryz.prog 16 c_spec_l07DrawRoll := by
  refine fn_okW (C := cx Tryz.prog 24 c_spec_l07DrawRoll) (cs := [(30, c_spec_l01Next), (33, c_spec_l07Pair)]) (res := Tryz.f16.results.toList) (fun _ => ⟨[], [(3, ⟨[[], [], [1], [0, 1, 2], [0, 1, 2, 3], [], [], [6], [0, 1, 2, 3, 5, 6, 7], [0, 1, 2, 3, 5, 6, 7, 8], [0, 1, 2, 3, 4, 5, 6, 7, 8, 9], [0, 1, 2, 3, 4, 5, 6, 7, 8, 9, 10]], [[1, 2, 5, 6, 7], [0, 5, 6, 7], [0, 5, 6, 7], [5, 6, 7], [5, 6, 7, 8, 9], [0, 1, 2, 3, 4, 6, 7], [0, 1, 2, 3, 4, 5], [0, 1, 2, 3, 4, 5], [4], [4], [], []], [[], [], [], [], [0], [0], [0], [0], [], [], [], []]⟩)], []⟩) Tryz.func16 (by kernel_rfl) rfl rfl rfl tysOk.look eqTsOk.look (AllCs.ok (l := [(30, c_spec_l01Next), (33, c_spec_l07Pair)]) ⟨k_spec_l01Next, k_spec_l07Pair, trivial⟩) mixed rfl rfl rfl ?_
  refine of_nf (P := ∀ s : (List Int) × Int × Int, ∀ v : Int × Int × Int × Int, (okS s ∧ okV v) → ((lensI c_spec_l07DrawRoll.ins (s, v, ())) → ((okS s ∧ (20 : Int) ≤ 1000000000000) ∧ (bsp (decide ((nxtD s (20 : Int)).1 = (0 : Int))) ((okS (s.1, (nxtD s (20 : Int)).2.2) ∧ (8 : Int) ≤ 1000000000000) ∧ ((okS (s.1, (nxtD (s.1, (nxtD s (20 : Int)).2.2) (8 : Int)).2.2) ∧ (8 : Int) ≤ 1000000000000) ∧ (@Eq (HO c_spec_l07DrawRoll.outs) (((nxtD (s.1, (nxtD s (20 : Int)).2.2) (8 : Int)).1, (nxtD (s.1, (nxtD (s.1, (nxtD s (20 : Int)).2.2) (8 : Int)).2.2) (8 : Int)).1), ()) (c_spec_l07DrawRoll.out (s, v, ())) ∧ @Eq (HI c_spec_l07DrawRoll.ins) ((s.1, (nxtD (s.1, (nxtD (s.1, (nxtD s (20 : Int)).2.2) (8 : Int)).2.2) (8 : Int)).2.2), v, ()) (c_spec_l07DrawRoll.upd (s, v, ()))))) ((okS (s.1, (nxtD s (20 : Int)).2.2) ∧ v.2.2.2 ≤ 1000000000000) ∧ ((inK .i64 (1 + (nxtD (s.1, (nxtD s (20 : Int)).2.2) v.2.2.2).1)) ∧ ((okS (s.1, (nxtD (s.1, (nxtD s (20 : Int)).2.2) v.2.2.2).2.2) ∧ v.2.2.2 ≤ 1000000000000) ∧ ((inK .i64 (1 + (nxtD (s.1, (nxtD (s.1, (nxtD s (20 : Int)).2.2) v.2.2.2).2.2) v.2.2.2).1)) ∧ (True ∧ (@Eq (HO c_spec_l07DrawRoll.outs) ((max (1 + (nxtD (s.1, (nxtD s (20 : Int)).2.2) v.2.2.2).1) (1 + (nxtD (s.1, (nxtD (s.1, (nxtD s (20 : Int)).2.2) v.2.2.2).2.2) v.2.2.2).1), min (1 + (nxtD (s.1, (nxtD s (20 : Int)).2.2) v.2.2.2).1) (1 + (nxtD (s.1, (nxtD (s.1, (nxtD s (20 : Int)).2.2) v.2.2.2).2.2) v.2.2.2).1)), ()) (c_spec_l07DrawRoll.out (s, v, ())) ∧ @Eq (HI c_spec_l07DrawRoll.ins) ((s.1, (nxtD (s.1, (nxtD (s.1, (nxtD s (20 : Int)).2.2) v.2.2.2).2.2) v.2.2.2).2.2), v, ()) (c_spec_l07DrawRoll.upd (s, v, ())))))))))))) (by kernel_rfl) ?_
  rintro s v ⟨hs, hv⟩ hl

  have out : ∀ r, drawRl s v = r → @Eq (HO c_spec_l07DrawRoll.outs) (r.1, ()) (c_spec_l07DrawRoll.out (s, v, ())) ∧ @Eq (HI c_spec_l07DrawRoll.ins) (r.2, v, ()) (c_spec_l07DrawRoll.upd (s, v, ())) := fun r h => by
    subst h
    refine ⟨rfl, ?_⟩
    simp only [c_spec_l07DrawRoll]
    rw [upd_etaB (drawRl_ok v hs).2]

  have hD := drawRl.eq_1 s v
  have hv' := hv
  unfold okV at hv'
  have h1 := nxtD_ok hs 20
  have h2 := nxtD_ok h1 8
  have h3 := nxtD_ok h1 v.2.2.2
  have b1 := nxtD_bd h1 v.2.2.2
  have b2 := nxtD_bd h3 v.2.2.2
  simp only [src_etaB, nxtD_codeB]
  exact ⟨⟨hs, by decide⟩, bspD (fun c => ⟨⟨h1, by decide⟩, ⟨h2, by decide⟩, out _ (hD.trans (if_pos c))⟩) (fun c => ⟨⟨h1, by omega⟩, by simp only [inK]; omega, ⟨h3, by omega⟩, by simp only [inK]; omega, trivial, out _ (hD.trans (if_neg c))⟩)⟩
def c_spec_l06DrawStep : Con where
  ins := [(false, .bx (.pr (.sl (.i .u8)) tRoll)), (true, .v tVar)]
  outs := [(true, .v tStep)]
  sh := false
  pre := fun x => okS x.1 ∧ okV x.2.1
  out := fun x => ((drawSt x.1 x.2.1).1, ())
  upd := fun x => ((x.1.1, (drawSt x.1 x.2.1).2.2), x.2.1, ())
theorem k_spec_l06DrawStep [B : Base] : ConOk Tryz.prog 34 c_spec_l06DrawStep := by
  refine fn_okW (C := cx Tryz.prog 56 c_spec_l06DrawStep) (cs := [(30, c_spec_l01Next)]) (res := Tryz.f34.results.toList) (fun _ => ⟨[], [(1, ⟨[[], [], [1], [1, 2], [0, 1, 2, 3], [], [], [6], [0, 1, 2, 3, 4, 5, 6, 7], [0, 1, 2, 3, 4, 5, 6, 7, 8], [0, 1, 2, 3, 4, 5, 6, 7, 8, 9], [], [0, 1, 2, 3, 4, 5, 6, 7, 8, 9, 10, 11]], [[1, 2, 3, 5, 6, 7, 11], [0, 5, 6, 7, 11], [0, 5, 6, 7, 11], [0, 5, 6, 7, 11], [5, 6, 7, 11], [0, 1, 2, 3, 4, 6, 7, 11], [0, 1, 2, 3, 4, 5, 11], [0, 1, 2, 3, 4, 5, 11], [11], [11], [11], [0, 1, 2, 3, 4, 5, 6, 7, 8, 9, 10], []], [[], [], [], [], [], [0], [0], [0], [], [], [], [0], []]⟩), (10, ⟨[[], [0], [], [2], [0, 1, 2, 3], [0, 1, 2, 3, 4], [0, 1, 2, 3, 4, 5]], [[2, 3], [2, 3], [0, 1], [0, 1], [], [], []], [[0], [0], [], [], [], [], []]⟩)], []⟩) Tryz.func34 (by kernel_rfl) rfl rfl rfl tysOk.look eqTsOk.look (AllCs.ok (l := [(30, c_spec_l01Next)]) ⟨k_spec_l01Next, trivial⟩) mixed rfl rfl rfl ?_
  refine of_nf (P := ∀ s : (List Int) × Int × Int, ∀ v : Int × Int × Int × Int, (okS s ∧ okV v) → ((lensI c_spec_l06DrawStep.ins (s, v, ())) → ((inK .i64 (v.1 + 1)) ∧ ((okS s ∧ (v.1 + 1) ≤ 1000000000000) ∧ ((okS (s.1, (nxtD s (v.1 + 1)).2.2) ∧ v.2.2.2 ≤ 1000000000000) ∧ ((inK .i64 (1 + (nxtD (s.1, (nxtD s (v.1 + 1)).2.2) v.2.2.2).1)) ∧ ((inK .i64 ((nxtD s (v.1 + 1)).1 - (1 + (nxtD (s.1, (nxtD s (v.1 + 1)).2.2) v.2.2.2).1))) ∧ (bsp (decide ((0 : Int) ≤ (max (-1 : Int) ((nxtD s (v.1 + 1)).1 - (1 + (nxtD (s.1, (nxtD s (v.1 + 1)).2.2) v.2.2.2).1))))) ((okS (s.1, (nxtD (s.1, (nxtD s (v.1 + 1)).2.2) v.2.2.2).2.2) ∧ (4 : Int) ≤ 1000000000000) ∧ ((okS (s.1, (nxtD (s.1, (nxtD (s.1, (nxtD s (v.1 + 1)).2.2) v.2.2.2).2.2) (4 : Int)).2.2) ∧ (20 : Int) ≤ 1000000000000) ∧ (bsp (decide ((nxtD (s.1, (nxtD (s.1, (nxtD (s.1, (nxtD s (v.1 + 1)).2.2) v.2.2.2).2.2) (4 : Int)).2.2) (20 : Int)).1 = (0 : Int))) ((inK .i64 ((1 + (nxtD (s.1, (nxtD s (v.1 + 1)).2.2) v.2.2.2).1) + 1)) ∧ (@Eq (HO c_spec_l06DrawStep.outs) (((nxtD s (v.1 + 1)).1, (max (-1 : Int) ((nxtD s (v.1 + 1)).1 - (1 + (nxtD (s.1, (nxtD s (v.1 + 1)).2.2) v.2.2.2).1))), ((1 + (nxtD (s.1, (nxtD s (v.1 + 1)).2.2) v.2.2.2).1) + 1), (decide ((nxtD (s.1, (nxtD (s.1, (nxtD s (v.1 + 1)).2.2) v.2.2.2).2.2) (4 : Int)).1 = (0 : Int)))), ()) (c_spec_l06DrawStep.out (s, v, ())) ∧ @Eq (HI c_spec_l06DrawStep.ins) ((s.1, (nxtD (s.1, (nxtD (s.1, (nxtD (s.1, (nxtD s (v.1 + 1)).2.2) v.2.2.2).2.2) (4 : Int)).2.2) (20 : Int)).2.2), v, ()) (c_spec_l06DrawStep.upd (s, v, ())))) (bsp (decide ((nxtD (s.1, (nxtD (s.1, (nxtD (s.1, (nxtD s (v.1 + 1)).2.2) v.2.2.2).2.2) (4 : Int)).2.2) (20 : Int)).1 = (1 : Int))) (@Eq (HO c_spec_l06DrawStep.outs) (((nxtD s (v.1 + 1)).1, (max (-1 : Int) ((nxtD s (v.1 + 1)).1 - (1 + (nxtD (s.1, (nxtD s (v.1 + 1)).2.2) v.2.2.2).1))), (1 + (nxtD (s.1, (nxtD s (v.1 + 1)).2.2) v.2.2.2).1), true), ()) (c_spec_l06DrawStep.out (s, v, ())) ∧ @Eq (HI c_spec_l06DrawStep.ins) ((s.1, (nxtD (s.1, (nxtD (s.1, (nxtD (s.1, (nxtD s (v.1 + 1)).2.2) v.2.2.2).2.2) (4 : Int)).2.2) (20 : Int)).2.2), v, ()) (c_spec_l06DrawStep.upd (s, v, ()))) (bsp (decide ((nxtD (s.1, (nxtD (s.1, (nxtD (s.1, (nxtD s (v.1 + 1)).2.2) v.2.2.2).2.2) (4 : Int)).2.2) (20 : Int)).1 = (2 : Int))) ((okS (s.1, (nxtD (s.1, (nxtD (s.1, (nxtD (s.1, (nxtD s (v.1 + 1)).2.2) v.2.2.2).2.2) (4 : Int)).2.2) (20 : Int)).2.2) ∧ (2 : Int) ≤ 1000000000000) ∧ ((inK .i64 (v.1 + (nxtD (s.1, (nxtD (s.1, (nxtD (s.1, (nxtD (s.1, (nxtD s (v.1 + 1)).2.2) v.2.2.2).2.2) (4 : Int)).2.2) (20 : Int)).2.2) (2 : Int)).1)) ∧ (@Eq (HO c_spec_l06DrawStep.outs) (((v.1 + (nxtD (s.1, (nxtD (s.1, (nxtD (s.1, (nxtD (s.1, (nxtD s (v.1 + 1)).2.2) v.2.2.2).2.2) (4 : Int)).2.2) (20 : Int)).2.2) (2 : Int)).1), (max (-1 : Int) ((nxtD s (v.1 + 1)).1 - (1 + (nxtD (s.1, (nxtD s (v.1 + 1)).2.2) v.2.2.2).1))), (1 + (nxtD (s.1, (nxtD s (v.1 + 1)).2.2) v.2.2.2).1), (decide ((nxtD (s.1, (nxtD (s.1, (nxtD s (v.1 + 1)).2.2) v.2.2.2).2.2) (4 : Int)).1 = (0 : Int)))), ()) (c_spec_l06DrawStep.out (s, v, ())) ∧ @Eq (HI c_spec_l06DrawStep.ins) ((s.1, (nxtD (s.1, (nxtD (s.1, (nxtD (s.1, (nxtD (s.1, (nxtD s (v.1 + 1)).2.2) v.2.2.2).2.2) (4 : Int)).2.2) (20 : Int)).2.2) (2 : Int)).2.2), v, ()) (c_spec_l06DrawStep.upd (s, v, ()))))) (bsp (decide ((nxtD (s.1, (nxtD (s.1, (nxtD (s.1, (nxtD s (v.1 + 1)).2.2) v.2.2.2).2.2) (4 : Int)).2.2) (20 : Int)).1 = (3 : Int))) (@Eq (HO c_spec_l06DrawStep.outs) (((nxtD s (v.1 + 1)).1, (-1), (1 + (nxtD (s.1, (nxtD s (v.1 + 1)).2.2) v.2.2.2).1), (decide ((nxtD (s.1, (nxtD (s.1, (nxtD s (v.1 + 1)).2.2) v.2.2.2).2.2) (4 : Int)).1 = (0 : Int)))), ()) (c_spec_l06DrawStep.out (s, v, ())) ∧ @Eq (HI c_spec_l06DrawStep.ins) ((s.1, (nxtD (s.1, (nxtD (s.1, (nxtD (s.1, (nxtD s (v.1 + 1)).2.2) v.2.2.2).2.2) (4 : Int)).2.2) (20 : Int)).2.2), v, ()) (c_spec_l06DrawStep.upd (s, v, ()))) (@Eq (HO c_spec_l06DrawStep.outs) (((nxtD s (v.1 + 1)).1, (max (-1 : Int) ((nxtD s (v.1 + 1)).1 - (1 + (nxtD (s.1, (nxtD s (v.1 + 1)).2.2) v.2.2.2).1))), (1 + (nxtD (s.1, (nxtD s (v.1 + 1)).2.2) v.2.2.2).1), (decide ((nxtD (s.1, (nxtD (s.1, (nxtD s (v.1 + 1)).2.2) v.2.2.2).2.2) (4 : Int)).1 = (0 : Int)))), ()) (c_spec_l06DrawStep.out (s, v, ())) ∧ @Eq (HI c_spec_l06DrawStep.ins) ((s.1, (nxtD (s.1, (nxtD (s.1, (nxtD (s.1, (nxtD s (v.1 + 1)).2.2) v.2.2.2).2.2) (4 : Int)).2.2) (20 : Int)).2.2), v, ()) (c_spec_l06DrawStep.upd (s, v, ()))))))))) ((okS (s.1, (nxtD (s.1, (nxtD s (v.1 + 1)).2.2) v.2.2.2).2.2) ∧ (20 : Int) ≤ 1000000000000) ∧ (bsp (decide ((nxtD (s.1, (nxtD (s.1, (nxtD s (v.1 + 1)).2.2) v.2.2.2).2.2) (20 : Int)).1 = (0 : Int))) ((inK .i64 ((1 + (nxtD (s.1, (nxtD s (v.1 + 1)).2.2) v.2.2.2).1) + 1)) ∧ (@Eq (HO c_spec_l06DrawStep.outs) (((nxtD s (v.1 + 1)).1, (max (-1 : Int) ((nxtD s (v.1 + 1)).1 - (1 + (nxtD (s.1, (nxtD s (v.1 + 1)).2.2) v.2.2.2).1))), ((1 + (nxtD (s.1, (nxtD s (v.1 + 1)).2.2) v.2.2.2).1) + 1), false), ()) (c_spec_l06DrawStep.out (s, v, ())) ∧ @Eq (HI c_spec_l06DrawStep.ins) ((s.1, (nxtD (s.1, (nxtD (s.1, (nxtD s (v.1 + 1)).2.2) v.2.2.2).2.2) (20 : Int)).2.2), v, ()) (c_spec_l06DrawStep.upd (s, v, ())))) (bsp (decide ((nxtD (s.1, (nxtD (s.1, (nxtD s (v.1 + 1)).2.2) v.2.2.2).2.2) (20 : Int)).1 = (1 : Int))) (@Eq (HO c_spec_l06DrawStep.outs) (((nxtD s (v.1 + 1)).1, (max (-1 : Int) ((nxtD s (v.1 + 1)).1 - (1 + (nxtD (s.1, (nxtD s (v.1 + 1)).2.2) v.2.2.2).1))), (1 + (nxtD (s.1, (nxtD s (v.1 + 1)).2.2) v.2.2.2).1), true), ()) (c_spec_l06DrawStep.out (s, v, ())) ∧ @Eq (HI c_spec_l06DrawStep.ins) ((s.1, (nxtD (s.1, (nxtD (s.1, (nxtD s (v.1 + 1)).2.2) v.2.2.2).2.2) (20 : Int)).2.2), v, ()) (c_spec_l06DrawStep.upd (s, v, ()))) (bsp (decide ((nxtD (s.1, (nxtD (s.1, (nxtD s (v.1 + 1)).2.2) v.2.2.2).2.2) (20 : Int)).1 = (2 : Int))) ((okS (s.1, (nxtD (s.1, (nxtD (s.1, (nxtD s (v.1 + 1)).2.2) v.2.2.2).2.2) (20 : Int)).2.2) ∧ (2 : Int) ≤ 1000000000000) ∧ ((inK .i64 (v.1 + (nxtD (s.1, (nxtD (s.1, (nxtD (s.1, (nxtD s (v.1 + 1)).2.2) v.2.2.2).2.2) (20 : Int)).2.2) (2 : Int)).1)) ∧ (@Eq (HO c_spec_l06DrawStep.outs) (((v.1 + (nxtD (s.1, (nxtD (s.1, (nxtD (s.1, (nxtD s (v.1 + 1)).2.2) v.2.2.2).2.2) (20 : Int)).2.2) (2 : Int)).1), (max (-1 : Int) ((nxtD s (v.1 + 1)).1 - (1 + (nxtD (s.1, (nxtD s (v.1 + 1)).2.2) v.2.2.2).1))), (1 + (nxtD (s.1, (nxtD s (v.1 + 1)).2.2) v.2.2.2).1), false), ()) (c_spec_l06DrawStep.out (s, v, ())) ∧ @Eq (HI c_spec_l06DrawStep.ins) ((s.1, (nxtD (s.1, (nxtD (s.1, (nxtD (s.1, (nxtD s (v.1 + 1)).2.2) v.2.2.2).2.2) (20 : Int)).2.2) (2 : Int)).2.2), v, ()) (c_spec_l06DrawStep.upd (s, v, ()))))) (bsp (decide ((nxtD (s.1, (nxtD (s.1, (nxtD s (v.1 + 1)).2.2) v.2.2.2).2.2) (20 : Int)).1 = (3 : Int))) (@Eq (HO c_spec_l06DrawStep.outs) (((nxtD s (v.1 + 1)).1, (-1), (1 + (nxtD (s.1, (nxtD s (v.1 + 1)).2.2) v.2.2.2).1), false), ()) (c_spec_l06DrawStep.out (s, v, ())) ∧ @Eq (HI c_spec_l06DrawStep.ins) ((s.1, (nxtD (s.1, (nxtD (s.1, (nxtD s (v.1 + 1)).2.2) v.2.2.2).2.2) (20 : Int)).2.2), v, ()) (c_spec_l06DrawStep.upd (s, v, ()))) (@Eq (HO c_spec_l06DrawStep.outs) (((nxtD s (v.1 + 1)).1, (max (-1 : Int) ((nxtD s (v.1 + 1)).1 - (1 + (nxtD (s.1, (nxtD s (v.1 + 1)).2.2) v.2.2.2).1))), (1 + (nxtD (s.1, (nxtD s (v.1 + 1)).2.2) v.2.2.2).1), false), ()) (c_spec_l06DrawStep.out (s, v, ())) ∧ @Eq (HI c_spec_l06DrawStep.ins) ((s.1, (nxtD (s.1, (nxtD (s.1, (nxtD s (v.1 + 1)).2.2) v.2.2.2).2.2) (20 : Int)).2.2), v, ()) (c_spec_l06DrawStep.upd (s, v, ())))))))))))))))) (by kernel_rfl) ?_
  rintro s v ⟨hs, hv⟩ hl

  have out : ∀ r, drawSt s v = r → @Eq (HO c_spec_l06DrawStep.outs) (r.1, ()) (c_spec_l06DrawStep.out (s, v, ())) ∧ @Eq (HI c_spec_l06DrawStep.ins) (r.2, v, ()) (c_spec_l06DrawStep.upd (s, v, ())) := fun r h => by
    subst h
    refine ⟨rfl, ?_⟩
    simp only [c_spec_l06DrawStep]
    rw [upd_etaB (drawSt_ok v hs).2]

  have hD := drawSt.eq_1 s v
  have hv' := hv
  unfold okV at hv'
  have h1 := nxtD_ok hs (v.1 + 1)
  have b1 := nxtD_bd hs (v.1 + 1)
  have b2 := nxtD_bd h1 v.2.2.2
  obtain ⟨hS, -⟩ := stS_ok v hs
  have hS4 := nxtD_ok hS 4
  simp only [src_etaB, nxtD_codeB]
  have eA : (nxtD s (v.1 + 1)).1 = stA s v := rfl
  have eB : 1 + (nxtD (nxtD s (v.1 + 1)).2 v.2.2.2).1 = stB s v := rfl
  have eS : (nxtD (nxtD s (v.1 + 1)).2 v.2.2.2).2 = stS s v := rfl
  have eC : max (-1) (stA s v - stB s v) = stC s v := rfl
  rw [eA] at b1
  have bB : 0 ≤ stB s v ∧ stB s v ≤ 10 := by rw [← eB]; omega
  simp only [eA, eB, eS, eC]
  refine ⟨by simp only [inK]; omega, ⟨hs, by omega⟩, ⟨h1, by omega⟩, by simp only [inK]; omega, by simp only [inK]; omega, bspD (fun c => ⟨⟨hS, by decide⟩, ?_⟩) (fun c => ?_)⟩
  · have hH : stH s v = (decide ((nxtD (stS s v) 4).1 = 0), (nxtD (stS s v) 4).2) := if_pos c
    rw [hH] at hD
    dsimp only at hD
    have hK := nxtD_ok hS4 20
    have b3 := nxtD_bd hK 2
    repeat' first
      | refine ⟨⟨hS4, by decide⟩, ?_⟩
      | refine ⟨⟨hK, by decide⟩, ?_⟩
      | refine bspD (fun _ => ?_) (fun _ => ?_)
      | refine ⟨(show inK _ _ by simp only [inK]; omega), ?_⟩
      | refine out (_, _) ?_
      | fail
    all_goals
      rw [hD]
      repeat rw [if_neg (by assumption)]
      first | (rw [if_pos (by assumption)]; done) | rfl | skip
  · have hH : stH s v = (false, stS s v) := if_neg c
    rw [hH] at hD
    dsimp only at hD
    have hK := nxtD_ok hS 20
    have b3 := nxtD_bd hK 2
    repeat' first
      | refine ⟨⟨hS, by decide⟩, ?_⟩
      | refine ⟨⟨hK, by decide⟩, ?_⟩
      | refine bspD (fun _ => ?_) (fun _ => ?_)
      | refine ⟨(show inK _ _ by simp only [inK]; omega), ?_⟩
      | refine out (_, _) ?_
      | fail
    all_goals
      rw [hD]
      repeat rw [if_neg (by assumption)]
      first | (rw [if_pos (by assumption)]; done) | rfl | skip
def c_spec_l06DrawSteps : Con where
  ins := [(false, .bx (.pr (.sl (.i .u8)) tRoll)), (true, .v tVar)]
  outs := [(false, .own 56 tStep)]
  sh := false
  pre := fun x => okS x.1 ∧ okV x.2.1
  out := fun x => ((drawSts x.1 x.2.1).1, ())
  upd := fun x => ((x.1.1, (drawSts x.1 x.2.1).2.2), x.2.1, ())
theorem k_spec_l06DrawSteps [B : Base] : ConOk Tryz.prog 17 c_spec_l06DrawSteps := by
  refine fn_okW (C := cx Tryz.prog 25 c_spec_l06DrawSteps) (cs := [(30, c_spec_l01Next), (34, c_spec_l06DrawStep)]) (res := Tryz.f17.results.toList) (fun x => ⟨[{ sh := ⟨[(0, .one (.ref 0)), (3, .one (.ref 2)), (5, .one (.ref 3)), (6, .one (.i .i64))], [(2, .box [.i .i64, .i .i64, .i .i64, .i .i64]), (3, .own 56 tStep true), (0, .box [.ref 1, .i .i64, .i .i64]), (1, .imm (.i .u8) false)]⟩, nx := 4, I := fun _ dat_ => (x.2.1.1 = dat_.2.1.1 ∧ x.2.1.2.1 = dat_.2.1.2.1 ∧ x.2.1.2.2.1 = dat_.2.1.2.2.1 ∧ x.2.1.2.2.2 = dat_.2.1.2.2.2.1 ∧ x.1.1 = dat_.2.2.2.2.1) ∧ ((dat_.2.2.1 = (drawStN (nxtD (nxtD x.1 5).2 16).2 x.2.1 (Int.toNat (cntS x.1 - dat_.1.2.2.2.1))).1 ∧ (x.1.1, dat_.2.2.2.1.2.1, dat_.2.2.2.1.2.2.1) = (drawStN (nxtD (nxtD x.1 5).2 16).2 x.2.1 (Int.toNat (cntS x.1 - dat_.1.2.2.2.1))).2) ∧ 0 ≤ dat_.1.2.2.2.1 ∧ dat_.1.2.2.2.1 ≤ cntS x.1), mu := fun dat_ => Int.toNat dat_.1.2.2.2.1 }], [], []⟩) Tryz.func17 (by kernel_rfl) rfl rfl rfl tysOk.look eqTsOk.look (AllCs.ok (l := [(30, c_spec_l01Next), (34, c_spec_l06DrawStep)]) ⟨k_spec_l01Next, k_spec_l06DrawStep, trivial⟩) mixed rfl rfl rfl ?_
  refine of_nf (P := ∀ s : (List Int) × Int × Int, ∀ v : Int × Int × Int × Int, (okS s ∧ okV v) → ((lensI c_spec_l06DrawSteps.ins (s, v, ())) → ((okS s ∧ (5 : Int) ≤ 1000000000000) ∧ ((okS (s.1, (nxtD s (5 : Int)).2.2) ∧ (16 : Int) ≤ 1000000000000) ∧ (((15 : Int) ≠ 0) ∧ ((inK .i64 (Int.tdiv (nxtD (s.1, (nxtD s (5 : Int)).2.2) (16 : Int)).1 15)) ∧ ((inK .i64 ((nxtD s (5 : Int)).1 + (Int.tdiv (nxtD (s.1, (nxtD s (5 : Int)).2.2) (16 : Int)).1 15))) ∧ (((v.1 = v.1 ∧ v.2.1 = v.2.1 ∧ v.2.2.1 = v.2.2.1 ∧ v.2.2.2 = v.2.2.2 ∧ s.1 = s.1) ∧ (([] = (drawStN (nxtD (nxtD s 5).2 16).2 v (Int.toNat (cntS s - ((nxtD s (5 : Int)).1 + (Int.tdiv (nxtD (s.1, (nxtD s (5 : Int)).2.2) (16 : Int)).1 15))))).1 ∧ (s.1, (nxtD (s.1, (nxtD s (5 : Int)).2.2) (16 : Int)).2.2.1, (nxtD (s.1, (nxtD s (5 : Int)).2.2) (16 : Int)).2.2.2) = (drawStN (nxtD (nxtD s 5).2 16).2 v (Int.toNat (cntS s - ((nxtD s (5 : Int)).1 + (Int.tdiv (nxtD (s.1, (nxtD s (5 : Int)).2.2) (16 : Int)).1 15))))).2) ∧ 0 ≤ ((nxtD s (5 : Int)).1 + (Int.tdiv (nxtD (s.1, (nxtD s (5 : Int)).2.2) (16 : Int)).1 15)) ∧ ((nxtD s (5 : Int)).1 + (Int.tdiv (nxtD (s.1, (nxtD s (5 : Int)).2.2) (16 : Int)).1 15)) ≤ cntS s)) ∧ (∀ k : Int, ∀ t3_0 : Int, ∀ t3_1 : Int, ∀ t3_2 : Int, ∀ t3_3 : Int, ∀ out : List (Int × Int × Int × Bool), ∀ s_1 : Int, ∀ s_2 : Int, ∀ s_0 : List Int, ((v.1 = t3_0 ∧ v.2.1 = t3_1 ∧ v.2.2.1 = t3_2 ∧ v.2.2.2 = t3_3 ∧ s.1 = s_0) ∧ ((out = (drawStN (nxtD (nxtD s 5).2 16).2 v (Int.toNat (cntS s - k))).1 ∧ (s.1, s_1, s_2) = (drawStN (nxtD (nxtD s 5).2 16).2 v (Int.toNat (cntS s - k))).2) ∧ 0 ≤ k ∧ k ≤ cntS s)) → (bsp (decide ((0 : Int) < k)) ((okS (s_0, s_1, s_2) ∧ okV (t3_0, t3_1, t3_2, t3_3)) ∧ ((out.length + ([(drawSt (s_0, s_1, s_2) (t3_0, t3_1, t3_2, t3_3)).1] : List (Int × Int × Int × Bool)).length ≤ AB) ∧ ((inK .i64 (k - 1)) ∧ (((v.1 = t3_0 ∧ v.2.1 = t3_1 ∧ v.2.2.1 = t3_2 ∧ v.2.2.2 = t3_3 ∧ s.1 = s_0) ∧ (((out ++ [(drawSt (s_0, s_1, s_2) (t3_0, t3_1, t3_2, t3_3)).1]) = (drawStN (nxtD (nxtD s 5).2 16).2 v (Int.toNat (cntS s - (k - 1)))).1 ∧ (s.1, (drawSt (s_0, s_1, s_2) (t3_0, t3_1, t3_2, t3_3)).2.2.1, (drawSt (s_0, s_1, s_2) (t3_0, t3_1, t3_2, t3_3)).2.2.2) = (drawStN (nxtD (nxtD s 5).2 16).2 v (Int.toNat (cntS s - (k - 1)))).2) ∧ 0 ≤ (k - 1) ∧ (k - 1) ≤ cntS s)) ∧ ((Int.toNat (k - 1) : Nat) < Int.toNat k))))) (@Eq (HO c_spec_l06DrawSteps.outs) (out, ()) (c_spec_l06DrawSteps.out (s, v, ())) ∧ @Eq (HI c_spec_l06DrawSteps.ins) ((s.1, s_1, s_2), v, ()) (c_spec_l06DrawSteps.upd (s, v, ()))))))))))))) (by kernel_rfl) ?_
  rintro s v ⟨hs, hv⟩ hl

  have out : ∀ r, drawSts s v = r → @Eq (HO c_spec_l06DrawSteps.outs) (r.1, ()) (c_spec_l06DrawSteps.out (s, v, ())) ∧ @Eq (HI c_spec_l06DrawSteps.ins) (r.2, v, ()) (c_spec_l06DrawSteps.upd (s, v, ())) := fun r h => by
    subst h
    refine ⟨rfl, ?_⟩
    simp only [c_spec_l06DrawSteps]
    rw [upd_etaB (drawSts_ok v hs).2.1]

  have h1 := nxtD_ok hs 5
  have h2 := nxtD_ok h1 16
  have b1 := nxtD_bd hs 5
  have b2 := nxtD_bd h1 16
  have hc := cntS_bd hs
  simp only [src_etaB, nxtD_codeB]
  have eC : (nxtD s 5).1 + Int.tdiv (nxtD (nxtD s 5).2 16).1 15 = cntS s := rfl
  have e15 : Int.tdiv (nxtD (nxtD s 5).2 16).1 15 = (nxtD (nxtD s 5).2 16).1 / 15 := Int.tdiv_eq_ediv_of_nonneg (by omega)
  rw [eC, show cntS s - cntS s = 0 by omega]
  have eS : (s.1, (nxtD (nxtD s 5).2 16).2.2.1, (nxtD (nxtD s 5).2 16).2.2.2) = (nxtD (nxtD s 5).2 16).2 := src_etaB (by simp only [nxtD_codeB])
  refine ⟨⟨hs, by decide⟩, ⟨h1, by decide⟩, by decide, by simp only [inK]; omega, by simp only [inK]; omega, ⟨(by first | trivial | rfl | (and_intros <;> rfl)), ⟨rfl, eS⟩, by omega, by omega⟩, ?_⟩
  rintro k t3_0 t3_1 t3_2 t3_3 out s_1 s_2 s_0 ⟨⟨rfl, rfl, rfl, rfl, rfl⟩, ⟨⟨ho, hs'⟩, k0, k1⟩⟩
  simp only [Prod.eta]
  obtain ⟨n, hn⟩ : ∃ n : Nat, cntS s - k = n := ⟨(cntS s - k).toNat, by omega⟩
  obtain ⟨d1, d2, d3⟩ := drawStN_ok v h2 n
  rw [hn, Int.toNat_natCast] at ho hs'
  rw [hs']
  subst ho
  refine bspD (fun hlt => ?_) (fun hge => ?_)
  · obtain ⟨e1, e2⟩ := drawSt_ok v d1
    have hd : (drawSt (drawStN (nxtD (nxtD s 5).2 16).2 v n).2 v).2.1 = s.1 := by rw [e2, d2]; simp only [nxtD_codeB]
    rw [show (cntS s - (k - 1)).toNat = n + 1 by omega]
    refine ⟨⟨d1, hv⟩, ?_, by simp only [inK]; omega, ⟨(by first | trivial | rfl | (and_intros <;> rfl)), ⟨rfl, src_etaB hd⟩, by omega, by omega⟩, by omega⟩
    have : AB = 1099511627776 := rfl
    rw [d3]; simp only [List.length_cons, List.length_nil]; omega
  · have e : drawSts s v = drawStN (nxtD (nxtD s 5).2 16).2 v n := by
      unfold drawSts
      rw [show (cntS s).toNat = n by omega]
    exact out (_, _) e
def c_spec_l06Damage : Con where
  ins := [(false, .bx (.pr (.sl (.i .u8)) tRoll)), (false, .v .s)]
  outs := [(false, .v .s)]
  sh := false
  pre := fun x => okS x.1 ∧ (x.2.1).size ≤ 1000
  out := fun x => ((damage x.1 x.2.1).1, ())
  upd := fun x => ((x.1.1, (damage x.1 x.2.1).2.2), x.2.1, ())
theorem k_spec_l06Damage [B : Base] : ConOk Tryz.prog 31 c_spec_l06Damage := by
  refine fn_okW (C := cx Tryz.prog 48 c_spec_l06Damage) (cs := [(30, c_spec_l01Next)]) (res := Tryz.f31.results.toList) (fun _ => ⟨[], [(6, ⟨[[], [], [0, 1], [], [], [4], [3, 4, 5], [3, 4, 5, 6], [0, 1, 2, 3, 4, 5, 6, 7], [], [], [9, 10], [0, 1, 2, 3, 4, 5, 6, 7, 8, 9, 10, 11], [0, 1, 2, 3, 4, 5, 6, 7, 8, 9, 10, 11, 12]], [[1, 3, 4, 5, 6, 7, 9, 10, 11], [0, 3, 4, 5, 6, 7, 9, 10, 11], [3, 4, 5, 6, 7, 9, 10, 11], [0, 1, 2, 4, 5, 9, 10, 11], [0, 1, 2, 3, 9, 10, 11], [0, 1, 2, 3, 9, 10, 11], [0, 1, 2, 9, 10, 11], [0, 1, 2, 9, 10, 11], [9, 10, 11], [0, 1, 2, 3, 4, 5, 6, 7, 8, 10], [0, 1, 2, 3, 4, 5, 6, 7, 8, 9], [0, 1, 2, 3, 4, 5, 6, 7, 8], [], []], [[0], [0], [0], [0], [], [], [], [], [], [0], [0], [0], [], []]⟩), (9, ⟨[[], [], [0, 1], [], [], [4], [3, 4, 5], [0, 1, 2, 3, 4, 5, 6], [0, 1, 2, 3, 4, 5, 6, 7]], [[1, 3, 4, 5, 6], [0, 3, 4, 5, 6], [3, 4, 5, 6], [0, 1, 2, 4, 5], [0, 1, 2, 3], [0, 1, 2, 3], [0, 1, 2], [], []], []⟩)], []⟩) Tryz.func31 (by kernel_rfl) rfl rfl rfl tysOk.look eqTsOk.look (AllCs.ok (l := [(30, c_spec_l01Next)]) ⟨k_spec_l01Next, trivial⟩) mixed rfl rfl rfl ?_
  refine of_nf (P := ∀ s : (List Int) × Int × Int, ∀ t : ByteArray, (okS s ∧ (t).size ≤ 1000) → ((lensI c_spec_l06Damage.ins (s, t, ())) → ((inK .i64 ((ByteArray.size t : Int) + 1)) ∧ ((okS s ∧ ((ByteArray.size t : Int) + 1) ≤ 1000000000000) ∧ ((okS (s.1, (nxtD s ((ByteArray.size t : Int) + 1)).2.2) ∧ (8 : Int) ≤ 1000000000000) ∧ (bsp (decide ((nxtD (s.1, (nxtD s ((ByteArray.size t : Int) + 1)).2.2) (8 : Int)).1 = (0 : Int))) ((0 ≤ (0 : Int) ∧ (0 : Int) ≤ (nxtD s ((ByteArray.size t : Int) + 1)).1 ∧ (nxtD s ((ByteArray.size t : Int) + 1)).1 ≤ (ByteArray.size t : Int)) ∧ (@Eq (HO c_spec_l06Damage.outs) ((ByteArray.extract t 0 (nxtD s ((ByteArray.size t : Int) + 1)).1.toNat), ()) (c_spec_l06Damage.out (s, t, ())) ∧ @Eq (HI c_spec_l06Damage.ins) ((s.1, (nxtD (s.1, (nxtD s ((ByteArray.size t : Int) + 1)).2.2) (8 : Int)).2.2), t, ()) (c_spec_l06Damage.upd (s, t, ())))) (bsp (decide ((nxtD (s.1, (nxtD s ((ByteArray.size t : Int) + 1)).2.2) (8 : Int)).1 = (1 : Int))) ((0 ≤ (0 : Int) ∧ (0 : Int) ≤ (nxtD s ((ByteArray.size t : Int) + 1)).1 ∧ (nxtD s ((ByteArray.size t : Int) + 1)).1 ≤ (ByteArray.size t : Int)) ∧ ((okS (s.1, (nxtD (s.1, (nxtD s ((ByteArray.size t : Int) + 1)).2.2) (8 : Int)).2.2) ∧ (8 : Int) ≤ 1000000000000) ∧ ((0 ≤ (nxtD (s.1, (nxtD (s.1, (nxtD s ((ByteArray.size t : Int) + 1)).2.2) (8 : Int)).2.2) (8 : Int)).1 ∧ (nxtD (s.1, (nxtD (s.1, (nxtD s ((ByteArray.size t : Int) + 1)).2.2) (8 : Int)).2.2) (8 : Int)).1 < (([(ByteArray.mk #[48]), (ByteArray.mk #[47]), (ByteArray.mk #[32]), (ByteArray.mk #[42]), (ByteArray.mk #[111, 102, 102]), (ByteArray.mk #[98, 97, 114]), (ByteArray.mk #[40]), (ByteArray.mk #[49, 41])] : List ByteArray).length : Int)) ∧ (((nxtD (s.1, (nxtD (s.1, (nxtD s ((ByteArray.size t : Int) + 1)).2.2) (8 : Int)).2.2) (8 : Int)).1.toNat < ([(ByteArray.mk #[48]), (ByteArray.mk #[47]), (ByteArray.mk #[32]), (ByteArray.mk #[42]), (ByteArray.mk #[111, 102, 102]), (ByteArray.mk #[98, 97, 114]), (ByteArray.mk #[40]), (ByteArray.mk #[49, 41])] : List ByteArray).length) ∧ ((ByteArray.size (ByteArray.extract t 0 (nxtD s ((ByteArray.size t : Int) + 1)).1.toNat) + ByteArray.size (([(ByteArray.mk #[48]), (ByteArray.mk #[47]), (ByteArray.mk #[32]), (ByteArray.mk #[42]), (ByteArray.mk #[111, 102, 102]), (ByteArray.mk #[98, 97, 114]), (ByteArray.mk #[40]), (ByteArray.mk #[49, 41])] : List ByteArray).getD (nxtD (s.1, (nxtD (s.1, (nxtD s ((ByteArray.size t : Int) + 1)).2.2) (8 : Int)).2.2) (8 : Int)).1.toNat ByteArray.empty) ≤ 9223372036854775807) ∧ ((0 ≤ (nxtD s ((ByteArray.size t : Int) + 1)).1 ∧ (nxtD s ((ByteArray.size t : Int) + 1)).1 ≤ (ByteArray.size t : Int) ∧ (ByteArray.size t : Int) ≤ (ByteArray.size t : Int)) ∧ ((ByteArray.size ((ByteArray.extract t 0 (nxtD s ((ByteArray.size t : Int) + 1)).1.toNat) ++ (([(ByteArray.mk #[48]), (ByteArray.mk #[47]), (ByteArray.mk #[32]), (ByteArray.mk #[42]), (ByteArray.mk #[111, 102, 102]), (ByteArray.mk #[98, 97, 114]), (ByteArray.mk #[40]), (ByteArray.mk #[49, 41])] : List ByteArray).getD (nxtD (s.1, (nxtD (s.1, (nxtD s ((ByteArray.size t : Int) + 1)).2.2) (8 : Int)).2.2) (8 : Int)).1.toNat ByteArray.empty)) + ByteArray.size (ByteArray.extract t (nxtD s ((ByteArray.size t : Int) + 1)).1.toNat (ByteArray.size t)) ≤ 9223372036854775807) ∧ (@Eq (HO c_spec_l06Damage.outs) ((((ByteArray.extract t 0 (nxtD s ((ByteArray.size t : Int) + 1)).1.toNat) ++ (([(ByteArray.mk #[48]), (ByteArray.mk #[47]), (ByteArray.mk #[32]), (ByteArray.mk #[42]), (ByteArray.mk #[111, 102, 102]), (ByteArray.mk #[98, 97, 114]), (ByteArray.mk #[40]), (ByteArray.mk #[49, 41])] : List ByteArray).getD (nxtD (s.1, (nxtD (s.1, (nxtD s ((ByteArray.size t : Int) + 1)).2.2) (8 : Int)).2.2) (8 : Int)).1.toNat ByteArray.empty)) ++ (ByteArray.extract t (nxtD s ((ByteArray.size t : Int) + 1)).1.toNat (ByteArray.size t))), ()) (c_spec_l06Damage.out (s, t, ())) ∧ @Eq (HI c_spec_l06Damage.ins) ((s.1, (nxtD (s.1, (nxtD (s.1, (nxtD s ((ByteArray.size t : Int) + 1)).2.2) (8 : Int)).2.2) (8 : Int)).2.2), t, ()) (c_spec_l06Damage.upd (s, t, ())))))))))) (bsp (decide ((nxtD (s.1, (nxtD s ((ByteArray.size t : Int) + 1)).2.2) (8 : Int)).1 = (2 : Int))) (bsp (decide ((nxtD s ((ByteArray.size t : Int) + 1)).1 < (ByteArray.size t : Int))) ((0 ≤ (0 : Int) ∧ (0 : Int) ≤ (nxtD s ((ByteArray.size t : Int) + 1)).1 ∧ (nxtD s ((ByteArray.size t : Int) + 1)).1 ≤ (ByteArray.size t : Int)) ∧ ((inK .i64 ((nxtD s ((ByteArray.size t : Int) + 1)).1 + 1)) ∧ ((0 ≤ ((nxtD s ((ByteArray.size t : Int) + 1)).1 + 1) ∧ ((nxtD s ((ByteArray.size t : Int) + 1)).1 + 1) ≤ (ByteArray.size t : Int) ∧ (ByteArray.size t : Int) ≤ (ByteArray.size t : Int)) ∧ ((ByteArray.size (ByteArray.extract t 0 (nxtD s ((ByteArray.size t : Int) + 1)).1.toNat) + ByteArray.size (ByteArray.extract t ((nxtD s ((ByteArray.size t : Int) + 1)).1 + 1).toNat (ByteArray.size t)) ≤ 9223372036854775807) ∧ (@Eq (HO c_spec_l06Damage.outs) (((ByteArray.extract t 0 (nxtD s ((ByteArray.size t : Int) + 1)).1.toNat) ++ (ByteArray.extract t ((nxtD s ((ByteArray.size t : Int) + 1)).1 + 1).toNat (ByteArray.size t))), ()) (c_spec_l06Damage.out (s, t, ())) ∧ @Eq (HI c_spec_l06Damage.ins) ((s.1, (nxtD (s.1, (nxtD s ((ByteArray.size t : Int) + 1)).2.2) (8 : Int)).2.2), t, ()) (c_spec_l06Damage.upd (s, t, ()))))))) (@Eq (HO c_spec_l06Damage.outs) (t, ()) (c_spec_l06Damage.out (s, t, ())) ∧ @Eq (HI c_spec_l06Damage.ins) ((s.1, (nxtD (s.1, (nxtD s ((ByteArray.size t : Int) + 1)).2.2) (8 : Int)).2.2), t, ()) (c_spec_l06Damage.upd (s, t, ())))) (@Eq (HO c_spec_l06Damage.outs) (t, ()) (c_spec_l06Damage.out (s, t, ())) ∧ @Eq (HI c_spec_l06Damage.ins) ((s.1, (nxtD (s.1, (nxtD s ((ByteArray.size t : Int) + 1)).2.2) (8 : Int)).2.2), t, ()) (c_spec_l06Damage.upd (s, t, ()))))))))))) (by kernel_rfl) ?_
  rintro s t ⟨hs, ht⟩ hl

  have out : ∀ r, damage s t = r → @Eq (HO c_spec_l06Damage.outs) (r.1, ()) (c_spec_l06Damage.out (s, t, ())) ∧ @Eq (HI c_spec_l06Damage.ins) (r.2, t, ()) (c_spec_l06Damage.upd (s, t, ())) := fun r h => by
    subst h
    refine ⟨rfl, ?_⟩
    simp only [c_spec_l06Damage]
    rw [upd_etaB (damage_ok t hs).2.1]

  have hD := damage.eq_1 s t
  have h1 := nxtD_ok hs ((t.size : Int) + 1)
  have b1 := nxtD_bd hs ((t.size : Int) + 1)
  obtain ⟨hS, -⟩ := dmS_ok t hs
  have b8 := nxtD_bd hS 8
  simp only [src_etaB, nxtD_codeB]
  have eK : (nxtD s ((t.size : Int) + 1)).1 = dmK s t := rfl
  have eC : (nxtD (nxtD s ((t.size : Int) + 1)).2 8).1 = dmC s t := rfl
  have eS : (nxtD (nxtD s ((t.size : Int) + 1)).2 8).2 = dmS s t := rfl
  have eL : [ByteArray.mk #[48], ByteArray.mk #[47], ByteArray.mk #[32], ByteArray.mk #[42], ByteArray.mk #[111, 102, 102], ByteArray.mk #[98, 97, 114], ByteArray.mk #[40], ByteArray.mk #[49, 41]] = litS := rfl
  have l8 : litS.length = 8 := rfl
  simp only [eK, eC, eS, eL, l8] at b1 ⊢
  have z1 := ext_size t 0 (dmK s t).toNat
  have z2 := ext_size t (dmK s t).toNat t.size
  have z3 := ext_size t (dmK s t + 1).toNat t.size
  have z4 := lit_size (nxtD (dmS s t) 8).1.toNat
  refine ⟨by simp only [inK]; omega, ⟨hs, by omega⟩, ⟨h1, by decide⟩, bspD (fun c => ⟨⟨by omega, by omega, by omega⟩, out (_, _) (hD.trans (if_pos c))⟩) (fun c => bspD (fun c1 => ?_) (fun c1 => bspD (fun c2 => ?_) (fun c2 => ?_)))⟩
  · exact ⟨⟨by omega, by omega, by omega⟩, ⟨hS, by decide⟩, ⟨by omega, by omega⟩, by omega, by omega, ⟨by omega, by omega, by omega⟩, by rw [app_size]; omega, out (_, _) (by rw [hD, if_neg c, if_pos c1])⟩
  · refine bspD (fun c3 => ⟨⟨by omega, by omega, by omega⟩, by simp only [inK]; omega, ⟨by omega, by omega, by omega⟩, by omega, out (_, _) (by rw [hD, if_neg c, if_neg c1, if_pos c2, if_pos c3]; rfl)⟩) (fun c3 => out (_, _) (by rw [hD, if_neg c, if_neg c1, if_pos c2, if_neg c3]; rfl))
  · exact out (_, _) (by rw [hD, if_neg c, if_neg c1, if_neg c2]; rfl)
def PadI (c : List Int) (t : ByteArray) (n : Int) : Prop := n = 80 + (nxtD (nxtD (drawTT c).2 20).2 2).1 ∧ ∃ k : Nat, t = padN (ttS c) k ∧ k ≤ (n - (ttS c).size).toNat
def c_spec_DrawTurnText : Con where
  ins := [(false, .v (.sl (.i .u8)))]
  outs := [(true, .v tVar), (true, .v tRoll), (false, .v (.sl tStep))]
  sh := false
  pre := fun x => okC x.1
  out := fun x => ((drawTT x.1).1.1, (drawTT x.1).1.2.1, (drawTT x.1).1.2.2, ())
  upd := fun x => x
theorem k_spec_DrawTurnText [B : Base] : ConOk Tryz.prog 5 c_spec_DrawTurnText := by
  refine fn_ok (C := cx Tryz.prog 18 c_spec_DrawTurnText) (cs := [(14, c_spec_l01From), (15, c_spec_l01DrawAny), (16, c_spec_l07DrawRoll), (17, c_spec_l06DrawSteps)]) (res := Tryz.f5.results.toList) (fun _ => ⟨[], [(3, ⟨[[], [], [], [1, 2], [], [], [1, 2, 3, 4, 5], [0, 1, 2, 3, 4, 5, 6], [0, 1, 2, 3, 4, 5, 6, 7], [0, 1, 2, 3, 4, 5, 6, 7, 8]], [[1, 2, 3, 4, 5, 6], [0, 2, 4, 5], [0, 1, 4, 5], [0, 4, 5], [0, 1, 2, 3, 5], [0, 1, 2, 3, 4], [0], [], [], []], [[65], [], [], [], [65], [65], [], [], [], []]⟩)], []⟩) Tryz.func5 (by kernel_rfl) rfl rfl rfl tysOk.look eqTsOk.look (AllCs.ok (l := [(14, c_spec_l01From), (15, c_spec_l01DrawAny), (16, c_spec_l07DrawRoll), (17, c_spec_l06DrawSteps)]) ⟨k_spec_l01From, k_spec_l01DrawAny, k_spec_l07DrawRoll, k_spec_l06DrawSteps, trivial⟩) mixed rfl rfl rfl ?_
  refine of_nf (P := ∀ c : List Int, (okC c) → ((lensI c_spec_DrawTurnText.ins (c, ())) → ((okC c) ∧ ((okS (fromD c)) ∧ ((okS ((fromD c).1, (drawAny (fromD c)).2.2) ∧ okV (drawAny (fromD c)).1) ∧ ((okS ((fromD c).1, (drawRl ((fromD c).1, (drawAny (fromD c)).2.2) (drawAny (fromD c)).1).2.2) ∧ okV (drawAny (fromD c)).1) ∧ (@Eq (HO c_spec_DrawTurnText.outs) ((drawAny (fromD c)).1, (drawRl ((fromD c).1, (drawAny (fromD c)).2.2) (drawAny (fromD c)).1).1, (drawSts ((fromD c).1, (drawRl ((fromD c).1, (drawAny (fromD c)).2.2) (drawAny (fromD c)).1).2.2) (drawAny (fromD c)).1).1, ()) (c_spec_DrawTurnText.out (c, ()))))))))) (by kernel_rfl) ?_
  rintro c hc hl
  have hF := fromD_ok hc
  obtain ⟨a1, a2⟩ := drawAny_ok hF
  have hv := drawAny_okV hF
  obtain ⟨b1, b2⟩ := drawRl_ok (drawAny (fromD c)).1 a1
  simp only [src_etaB, a2, b2]
  exact ⟨hc, hF, ⟨a1, hv⟩, ⟨b1, hv⟩, rfl⟩
def c_spec_DrawReadTurn : Con where
  ins := [(false, .v (.sl (.i .u8)))]
  outs := [(true, .v tVar), (false, .v .s)]
  sh := false
  pre := fun x => okC x.1
  out := fun x => ((drawRT x.1).1, (drawRT x.1).2, ())
  upd := fun x => x
theorem k_spec_DrawReadTurn [B : Base] : ConOk Tryz.prog 12 c_spec_DrawReadTurn := by
  refine fn_ok (C := cx Tryz.prog 36 c_spec_DrawReadTurn) (cs := [(14, c_spec_l01From), (15, c_spec_l01DrawAny), (16, c_spec_l07DrawRoll), (17, c_spec_l06DrawSteps), (7, c_spec_TurnText), (30, c_spec_l01Next), (31, c_spec_l06Damage)]) (res := Tryz.f12.results.toList) (fun x => ⟨[{ sh := ⟨[(2, .one (.ref 0)), (4, .one (.ref 1)), (5, .one (.ref 2)), (6, .one .s), (7, .one (.i .i64))], [(0, .box [.i .i64, .i .i64, .i .i64, .i .i64]), (1, .box [.ref 3, .i .i64, .i .i64]), (2, .box [.i .i64, .i .i64, .i .i64, .i .i64]), (3, .imm (.i .u8) false)]⟩, nx := 4, I := fun _ dat_ => ((80 + (nxtD ((fromD x.1).1, (nxtD ((fromD x.1).1, (drawSts ((fromD x.1).1, (drawRl ((fromD x.1).1, (drawAny (fromD x.1)).2.2) (drawAny (fromD x.1)).1).2.2) (drawAny (fromD x.1)).1).2.2) (20 : Int)).2.2) (2 : Int)).1) = dat_.1.2.2.2.2.1 ∧ (0 : Int) = dat_.2.1.1 ∧ (0 : Int) = dat_.2.1.2.1 ∧ (0 : Int) = dat_.2.1.2.2.1 ∧ (0 : Int) = dat_.2.1.2.2.2.1 ∧ (nxtD ((fromD x.1).1, (nxtD ((fromD x.1).1, (drawSts ((fromD x.1).1, (drawRl ((fromD x.1).1, (drawAny (fromD x.1)).2.2) (drawAny (fromD x.1)).1).2.2) (drawAny (fromD x.1)).1).2.2) (20 : Int)).2.2) (2 : Int)).2.2.1 = dat_.2.2.1.2.1 ∧ (nxtD ((fromD x.1).1, (nxtD ((fromD x.1).1, (drawSts ((fromD x.1).1, (drawRl ((fromD x.1).1, (drawAny (fromD x.1)).2.2) (drawAny (fromD x.1)).1).2.2) (drawAny (fromD x.1)).1).2.2) (20 : Int)).2.2) (2 : Int)).2.2.2 = dat_.2.2.1.2.2.1 ∧ (drawAny (fromD x.1)).1.1 = dat_.2.2.2.1.1 ∧ (drawAny (fromD x.1)).1.2.1 = dat_.2.2.2.1.2.1 ∧ (drawAny (fromD x.1)).1.2.2.1 = dat_.2.2.2.1.2.2.1 ∧ (drawAny (fromD x.1)).1.2.2.2 = dat_.2.2.2.1.2.2.2.1 ∧ (fromD x.1).1 = dat_.2.2.2.2.1) ∧ (PadI x.1 dat_.1.2.2.2.1 dat_.1.2.2.2.2.1), mu := fun dat_ => Int.toNat (dat_.1.2.2.2.2.1 - (ByteArray.size dat_.1.2.2.2.1 : Int)) }], [(3, ⟨[[], [], [], [1, 2], [], [], [1, 2, 3, 4, 5], [0, 1, 2, 3, 4, 5, 6], [0, 1, 2, 3, 4, 5, 6, 7]], [[1, 2, 3, 4, 5, 6], [0, 2, 4, 5], [0, 1, 4, 5], [0, 4, 5], [0, 1, 2, 3, 5], [0, 1, 2, 3, 4], [0], [], []], [[49], [], [], [], [49], [49], [], [], []]⟩), (8, ⟨[[], [], [], [1, 2], [0, 1, 2, 3], [0, 1, 2, 3, 4]], [[1, 2, 3], [0, 2], [0, 1], [0], [], []], [[1, 49], [], [], [], [], []]⟩)], []⟩) Tryz.func12 (by kernel_rfl) rfl rfl rfl tysOk.look eqTsOk.look (AllCs.ok (l := [(14, c_spec_l01From), (15, c_spec_l01DrawAny), (16, c_spec_l07DrawRoll), (17, c_spec_l06DrawSteps), (7, c_spec_TurnText), (30, c_spec_l01Next), (31, c_spec_l06Damage)]) ⟨k_spec_l01From, k_spec_l01DrawAny, k_spec_l07DrawRoll, k_spec_l06DrawSteps, k_spec_TurnText, k_spec_l01Next, k_spec_l06Damage, trivial⟩) mixed rfl rfl rfl ?_
  refine of_nf (P := ∀ c : List Int, (okC c) → ((lensI c_spec_DrawReadTurn.ins (c, ())) → ((okC c) ∧ ((okS (fromD c)) ∧ ((okS ((fromD c).1, (drawAny (fromD c)).2.2) ∧ okV (drawAny (fromD c)).1) ∧ ((okS ((fromD c).1, (drawRl ((fromD c).1, (drawAny (fromD c)).2.2) (drawAny (fromD c)).1).2.2) ∧ okV (drawAny (fromD c)).1) ∧ (True ∧ ((okS ((fromD c).1, (drawSts ((fromD c).1, (drawRl ((fromD c).1, (drawAny (fromD c)).2.2) (drawAny (fromD c)).1).2.2) (drawAny (fromD c)).1).2.2) ∧ (20 : Int) ≤ 1000000000000) ∧ (bsp (decide ((nxtD ((fromD c).1, (drawSts ((fromD c).1, (drawRl ((fromD c).1, (drawAny (fromD c)).2.2) (drawAny (fromD c)).1).2.2) (drawAny (fromD c)).1).2.2) (20 : Int)).1 = (0 : Int))) ((okS ((fromD c).1, (nxtD ((fromD c).1, (drawSts ((fromD c).1, (drawRl ((fromD c).1, (drawAny (fromD c)).2.2) (drawAny (fromD c)).1).2.2) (drawAny (fromD c)).1).2.2) (20 : Int)).2.2) ∧ (2 : Int) ≤ 1000000000000) ∧ ((inK .i64 (80 + (nxtD ((fromD c).1, (nxtD ((fromD c).1, (drawSts ((fromD c).1, (drawRl ((fromD c).1, (drawAny (fromD c)).2.2) (drawAny (fromD c)).1).2.2) (drawAny (fromD c)).1).2.2) (20 : Int)).2.2) (2 : Int)).1)) ∧ ((((80 + (nxtD ((fromD c).1, (nxtD ((fromD c).1, (drawSts ((fromD c).1, (drawRl ((fromD c).1, (drawAny (fromD c)).2.2) (drawAny (fromD c)).1).2.2) (drawAny (fromD c)).1).2.2) (20 : Int)).2.2) (2 : Int)).1) = (80 + (nxtD ((fromD c).1, (nxtD ((fromD c).1, (drawSts ((fromD c).1, (drawRl ((fromD c).1, (drawAny (fromD c)).2.2) (drawAny (fromD c)).1).2.2) (drawAny (fromD c)).1).2.2) (20 : Int)).2.2) (2 : Int)).1) ∧ (0 : Int) = 0 ∧ (0 : Int) = 0 ∧ (0 : Int) = 0 ∧ (0 : Int) = 0 ∧ (nxtD ((fromD c).1, (nxtD ((fromD c).1, (drawSts ((fromD c).1, (drawRl ((fromD c).1, (drawAny (fromD c)).2.2) (drawAny (fromD c)).1).2.2) (drawAny (fromD c)).1).2.2) (20 : Int)).2.2) (2 : Int)).2.2.1 = (nxtD ((fromD c).1, (nxtD ((fromD c).1, (drawSts ((fromD c).1, (drawRl ((fromD c).1, (drawAny (fromD c)).2.2) (drawAny (fromD c)).1).2.2) (drawAny (fromD c)).1).2.2) (20 : Int)).2.2) (2 : Int)).2.2.1 ∧ (nxtD ((fromD c).1, (nxtD ((fromD c).1, (drawSts ((fromD c).1, (drawRl ((fromD c).1, (drawAny (fromD c)).2.2) (drawAny (fromD c)).1).2.2) (drawAny (fromD c)).1).2.2) (20 : Int)).2.2) (2 : Int)).2.2.2 = (nxtD ((fromD c).1, (nxtD ((fromD c).1, (drawSts ((fromD c).1, (drawRl ((fromD c).1, (drawAny (fromD c)).2.2) (drawAny (fromD c)).1).2.2) (drawAny (fromD c)).1).2.2) (20 : Int)).2.2) (2 : Int)).2.2.2 ∧ (drawAny (fromD c)).1.1 = (drawAny (fromD c)).1.1 ∧ (drawAny (fromD c)).1.2.1 = (drawAny (fromD c)).1.2.1 ∧ (drawAny (fromD c)).1.2.2.1 = (drawAny (fromD c)).1.2.2.1 ∧ (drawAny (fromD c)).1.2.2.2 = (drawAny (fromD c)).1.2.2.2 ∧ (fromD c).1 = (fromD c).1) ∧ (PadI c (turnS (drawAny (fromD c)).1 (drawRl ((fromD c).1, (drawAny (fromD c)).2.2) (drawAny (fromD c)).1).1 (drawSts ((fromD c).1, (drawRl ((fromD c).1, (drawAny (fromD c)).2.2) (drawAny (fromD c)).1).2.2) (drawAny (fromD c)).1).1) (80 + (nxtD ((fromD c).1, (nxtD ((fromD c).1, (drawSts ((fromD c).1, (drawRl ((fromD c).1, (drawAny (fromD c)).2.2) (drawAny (fromD c)).1).2.2) (drawAny (fromD c)).1).2.2) (20 : Int)).2.2) (2 : Int)).1))) ∧ (∀ t : ByteArray, ∀ n : Int, ∀ t2_0 : Int, ∀ t2_1 : Int, ∀ t2_2 : Int, ∀ t2_3 : Int, ∀ t4_1 : Int, ∀ t4_2 : Int, ∀ t5_0 : Int, ∀ t5_1 : Int, ∀ t5_2 : Int, ∀ t5_3 : Int, ∀ t4_0 : List Int, (((80 + (nxtD ((fromD c).1, (nxtD ((fromD c).1, (drawSts ((fromD c).1, (drawRl ((fromD c).1, (drawAny (fromD c)).2.2) (drawAny (fromD c)).1).2.2) (drawAny (fromD c)).1).2.2) (20 : Int)).2.2) (2 : Int)).1) = n ∧ (0 : Int) = t2_0 ∧ (0 : Int) = t2_1 ∧ (0 : Int) = t2_2 ∧ (0 : Int) = t2_3 ∧ (nxtD ((fromD c).1, (nxtD ((fromD c).1, (drawSts ((fromD c).1, (drawRl ((fromD c).1, (drawAny (fromD c)).2.2) (drawAny (fromD c)).1).2.2) (drawAny (fromD c)).1).2.2) (20 : Int)).2.2) (2 : Int)).2.2.1 = t4_1 ∧ (nxtD ((fromD c).1, (nxtD ((fromD c).1, (drawSts ((fromD c).1, (drawRl ((fromD c).1, (drawAny (fromD c)).2.2) (drawAny (fromD c)).1).2.2) (drawAny (fromD c)).1).2.2) (20 : Int)).2.2) (2 : Int)).2.2.2 = t4_2 ∧ (drawAny (fromD c)).1.1 = t5_0 ∧ (drawAny (fromD c)).1.2.1 = t5_1 ∧ (drawAny (fromD c)).1.2.2.1 = t5_2 ∧ (drawAny (fromD c)).1.2.2.2 = t5_3 ∧ (fromD c).1 = t4_0) ∧ (PadI c t n)) → (bsp (decide ((ByteArray.size t : Int) < n)) ((ByteArray.size t + ByteArray.size (ByteArray.mk #[32]) ≤ 9223372036854775807) ∧ ((((80 + (nxtD ((fromD c).1, (nxtD ((fromD c).1, (drawSts ((fromD c).1, (drawRl ((fromD c).1, (drawAny (fromD c)).2.2) (drawAny (fromD c)).1).2.2) (drawAny (fromD c)).1).2.2) (20 : Int)).2.2) (2 : Int)).1) = n ∧ (0 : Int) = t2_0 ∧ (0 : Int) = t2_1 ∧ (0 : Int) = t2_2 ∧ (0 : Int) = t2_3 ∧ (nxtD ((fromD c).1, (nxtD ((fromD c).1, (drawSts ((fromD c).1, (drawRl ((fromD c).1, (drawAny (fromD c)).2.2) (drawAny (fromD c)).1).2.2) (drawAny (fromD c)).1).2.2) (20 : Int)).2.2) (2 : Int)).2.2.1 = t4_1 ∧ (nxtD ((fromD c).1, (nxtD ((fromD c).1, (drawSts ((fromD c).1, (drawRl ((fromD c).1, (drawAny (fromD c)).2.2) (drawAny (fromD c)).1).2.2) (drawAny (fromD c)).1).2.2) (20 : Int)).2.2) (2 : Int)).2.2.2 = t4_2 ∧ (drawAny (fromD c)).1.1 = t5_0 ∧ (drawAny (fromD c)).1.2.1 = t5_1 ∧ (drawAny (fromD c)).1.2.2.1 = t5_2 ∧ (drawAny (fromD c)).1.2.2.2 = t5_3 ∧ (fromD c).1 = t4_0) ∧ (PadI c (t ++ (ByteArray.mk #[32])) n)) ∧ ((Int.toNat (n - (ByteArray.size (t ++ (ByteArray.mk #[32])) : Int)) : Nat) < Int.toNat (n - (ByteArray.size t : Int))))) ((okS (t4_0, t4_1, t4_2) ∧ (t).size ≤ 1000) ∧ (@Eq (HO c_spec_DrawReadTurn.outs) ((t5_0, t5_1, t5_2, t5_3), (damage (t4_0, t4_1, t4_2) t).1, ()) (c_spec_DrawReadTurn.out (c, ()))))))))) ((okS ((fromD c).1, (nxtD ((fromD c).1, (drawSts ((fromD c).1, (drawRl ((fromD c).1, (drawAny (fromD c)).2.2) (drawAny (fromD c)).1).2.2) (drawAny (fromD c)).1).2.2) (20 : Int)).2.2) ∧ ((turnS (drawAny (fromD c)).1 (drawRl ((fromD c).1, (drawAny (fromD c)).2.2) (drawAny (fromD c)).1).1 (drawSts ((fromD c).1, (drawRl ((fromD c).1, (drawAny (fromD c)).2.2) (drawAny (fromD c)).1).2.2) (drawAny (fromD c)).1).1)).size ≤ 1000) ∧ (@Eq (HO c_spec_DrawReadTurn.outs) ((drawAny (fromD c)).1, (damage ((fromD c).1, (nxtD ((fromD c).1, (drawSts ((fromD c).1, (drawRl ((fromD c).1, (drawAny (fromD c)).2.2) (drawAny (fromD c)).1).2.2) (drawAny (fromD c)).1).2.2) (20 : Int)).2.2) (turnS (drawAny (fromD c)).1 (drawRl ((fromD c).1, (drawAny (fromD c)).2.2) (drawAny (fromD c)).1).1 (drawSts ((fromD c).1, (drawRl ((fromD c).1, (drawAny (fromD c)).2.2) (drawAny (fromD c)).1).2.2) (drawAny (fromD c)).1).1)).1, ()) (c_spec_DrawReadTurn.out (c, ()))))))))))))) (by kernel_rfl) ?_
  rintro c hc hl
  have hF := fromD_ok hc
  obtain ⟨a1, a2⟩ := drawAny_ok hF
  have hv := drawAny_okV hF
  obtain ⟨b1, b2⟩ := drawRl_ok (drawAny (fromD c)).1 a1
  obtain ⟨c1, c2, c3⟩ := drawSts_ok (drawAny (fromD c)).1 b1
  simp only [src_etaB, nxtD_codeB, a2, b2, c2]
  have f0 : (drawSts (drawRl (drawAny (fromD c)).2 (drawAny (fromD c)).1).2 (drawAny (fromD c)).1).2 = (drawTT c).2 := rfl
  have f1 : turnS (drawAny (fromD c)).1 (drawRl (drawAny (fromD c)).2 (drawAny (fromD c)).1).1 (drawSts (drawRl (drawAny (fromD c)).2 (drawAny (fromD c)).1).2 (drawAny (fromD c)).1).1 = ttS c := rfl
  rw [f0] at c1 c2
  simp only [f0, f1]
  have c20 := nxtD_ok c1 20
  have c22 := nxtD_ok c20 2
  have b22 := nxtD_bd c20 2
  have hz : (ttS c).size ≤ 600 := turnS_size _ _ _
  have hS : (drawTT c).2.1 = (fromD c).1 := by rw [c2, b2, a2]
  have out : ∀ p, ttP c = p → @Eq (HO c_spec_DrawReadTurn.outs) ((drawAny (fromD c)).1, (damage p.2 p.1).1, ()) (c_spec_DrawReadTurn.out (c, ())) := fun p h => by subst h; rfl
  have hP := ttP.eq_1 c
  refine ⟨hc, hF, ⟨a1, hv⟩, ⟨b1, hv⟩, trivial, ⟨c1, by decide⟩, bspD (fun g => ⟨⟨c20, by decide⟩, by simp only [inK]; omega, ⟨(by first | trivial | rfl | (and_intros <;> rfl)), rfl, 0, rfl, by omega⟩, ?_⟩) (fun g => ⟨⟨c20, by omega⟩, ?_⟩)⟩
  · rintro t n t2_0 t2_1 t2_2 t2_3 t4_1 t4_2 t5_0 t5_1 t5_2 t5_3 t4_0 ⟨⟨rfl, rfl, rfl, rfl, rfl, rfl, rfl, rfl, rfl, rfl, rfl, rfl⟩, ⟨hn, k, hk, hle⟩⟩
    simp only [Prod.eta]
    subst hk
    rw [padN_size]
    rw [if_pos g] at hP
    refine bspD (fun hlt => ⟨?_, ⟨(by first | trivial | rfl | (and_intros <;> rfl)), rfl, k + 1, rfl, by omega⟩, ?_⟩) (fun hge => ?_)
    · have k1 : (ByteArray.mk #[32]).size = 1 := rfl
      rw [k1]; omega
    · have k1 : (ByteArray.mk #[32]).size = 1 := rfl
      rw [app_size, padN_size, k1]; omega
    · have e : k = (80 + (nxtD (nxtD (drawTT c).2 20).2 2).1 - (ttS c).size).toNat := by omega
      rw [src_etaB (s := (nxtD (nxtD (drawTT c).2 20).2 2).2) (by simp only [nxtD_codeB, hS])]
      refine ⟨⟨c22, by omega⟩, out (_, _) (hP.trans ?_)⟩
      rw [← e]
  · exact out (_, _) (hP.trans (if_neg g))
def c_laws_other : Con where
  ins := [(false, .v (.sl (.i .u8))), (false, .v (.i .u8))]
  outs := [(false, .v (.sl (.i .u8)))]
  sh := false
  pre := fun x => (0 ≤ x.2.1 ∧ x.2.1 ≤ 50) ∧ List.length x.1 ≤ 1000000
  out := fun x => ([x.2.1, x.2.1 + 7, 3 * x.2.1] ++ x.1, ())
  upd := fun x => x
theorem k_laws_other [B : Base] : ConOk Tryz.prog 13 c_laws_other := by
  refine fn_ok (C := cx Tryz.prog 15 c_laws_other) (cs := []) (res := Tryz.f13.results.toList) (fun _ => ⟨[], [], []⟩) Tryz.func13 (by kernel_rfl) rfl rfl rfl tysOk.look eqTsOk.look (AllCs.ok (l := []) trivial) mixed rfl rfl rfl ?_
  refine of_nf (P := ∀ c : List Int, ∀ k : Int, ((0 ≤ k ∧ k ≤ 50) ∧ List.length c ≤ 1000000) → ((lensI c_laws_other.ins (c, k, ())) → ((inK .u8 (k + 7)) ∧ ((inK .u8 (3 * k)) ∧ ((([k, (k + 7), (3 * k)] : List Int).length + c.length ≤ AB) ∧ (@Eq (HO c_laws_other.outs) ((([k, (k + 7), (3 * k)] : List Int) ++ c), ()) (c_laws_other.out (c, k, ())))))))) (by kernel_rfl) ?_
  rintro c k ⟨⟨h0, h1⟩, h2⟩ hl
  have : AB = 1099511627776 := rfl
  exact ⟨by simp only [inK]; omega, by simp only [inK]; omega, by simp only [List.length_cons, List.length_nil]; omega, rfl⟩
def c_laws_w9Steps : Con where
  ins := [(false, .v (.sl tStep)), (false, .v (.sl tStep))]
  outs := [(false, .v .b)]
  sh := false
  pre := fun _ => True
  out := fun x => (decide (x.1 = x.2.1), ())
  upd := fun x => x
theorem k_laws_w9Steps [B : Base] : ConOk Tryz.prog 11 c_laws_w9Steps := by
  refine fn_ok (C := cx Tryz.prog 26 c_laws_w9Steps) (cs := []) (res := Tryz.f11.results.toList) (fun x => ⟨[{ sh := ⟨[(0, .one (.ref 0)), (1, .one (.ref 1)), (5, .one (.i .i64))], [(0, .imm tStep false), (1, .imm tStep false)]⟩, nx := 2, I := fun _ dat_ => (x.1 = dat_.2.1 ∧ x.2.1 = dat_.2.2.1) ∧ ((x.1.length = x.2.1.length ∧ ∀ j : Nat, j < Int.toNat dat_.1.2.2.1 → x.1.getD j (0, 0, 0, false) = x.2.1.getD j (0, 0, 0, false)) ∧ 0 ≤ dat_.1.2.2.1 ∧ dat_.1.2.2.1 ≤ (x.1.length : Int)), mu := fun dat_ => Int.toNat ((x.1.length : Int) - dat_.1.2.2.1) }], [(6, ⟨[[], [], [0, 1], [0, 1, 2], [], [], [4, 5], [4, 5, 6], [0, 1, 2, 3, 4, 5, 6, 7]], [[1, 4, 5, 6, 7], [0, 4, 5, 6, 7], [4, 5, 6, 7], [4, 5, 6, 7], [0, 1, 2, 3, 5], [0, 1, 2, 3, 4], [0, 1, 2, 3], [0, 1, 2, 3], []], []⟩)], []⟩) Tryz.func11 (by kernel_rfl) rfl rfl rfl tysOk.look eqTsOk.look (AllCs.ok (l := []) trivial) mixed rfl rfl rfl ?_
  refine of_nf (P := ∀ p : List (Int × Int × Int × Bool), ∀ q : List (Int × Int × Int × Bool), (True) → ((lensI c_laws_w9Steps.ins (p, q, ())) → (bsp (decide ((p.length : Int) ≠ (q.length : Int))) (@Eq (HO c_laws_w9Steps.outs) (false, ()) (c_laws_w9Steps.out (p, q, ()))) (((p = p ∧ q = q) ∧ ((p.length = q.length ∧ ∀ j : Nat, j < Int.toNat (0 : Int) → p.getD j (0, 0, 0, false) = q.getD j (0, 0, 0, false)) ∧ 0 ≤ (0 : Int) ∧ (0 : Int) ≤ (p.length : Int))) ∧ (∀ i : Int, ∀ t0 : List (Int × Int × Int × Bool), ∀ t1 : List (Int × Int × Int × Bool), ((p = t0 ∧ q = t1) ∧ ((p.length = q.length ∧ ∀ j : Nat, j < Int.toNat i → p.getD j (0, 0, 0, false) = q.getD j (0, 0, 0, false)) ∧ 0 ≤ i ∧ i ≤ (p.length : Int))) → (bsp (decide (i < (t0.length : Int))) ((0 ≤ i ∧ i < (t0.length : Int)) ∧ ((i.toNat < t0.length) ∧ ((0 ≤ i ∧ i < (t1.length : Int)) ∧ ((i.toNat < t1.length) ∧ (bsp (!(decide ((t0.getD i.toNat (0, 0, 0, false)).1 = (t1.getD i.toNat (0, 0, 0, false)).1) && (decide ((t0.getD i.toNat (0, 0, 0, false)).2.1 = (t1.getD i.toNat (0, 0, 0, false)).2.1) && (decide ((t0.getD i.toNat (0, 0, 0, false)).2.2.1 = (t1.getD i.toNat (0, 0, 0, false)).2.2.1) && (((t0.getD i.toNat (0, 0, 0, false)).2.2.2 == (t1.getD i.toNat (0, 0, 0, false)).2.2.2) && (true)))))) (@Eq (HO c_laws_w9Steps.outs) (false, ()) (c_laws_w9Steps.out (p, q, ()))) ((inK .i64 (i + 1)) ∧ (((p = t0 ∧ q = t1) ∧ ((p.length = q.length ∧ ∀ j : Nat, j < Int.toNat (i + 1) → p.getD j (0, 0, 0, false) = q.getD j (0, 0, 0, false)) ∧ 0 ≤ (i + 1) ∧ (i + 1) ≤ (p.length : Int))) ∧ ((Int.toNat ((p.length : Int) - (i + 1)) : Nat) < Int.toNat ((p.length : Int) - i))))))))) (@Eq (HO c_laws_w9Steps.outs) (true, ()) (c_laws_w9Steps.out (p, q, ()))))))))) (by kernel_rfl) ?_
  rintro p q hp hl
  have hlen : p.length ≤ 9223372036854775807 := hl.1.1
  refine bspD (fun h => ?_) (fun h => ⟨⟨(by first | trivial | rfl | (and_intros <;> rfl)), ⟨by omega, fun j hj => by simp at hj⟩, by omega, by omega⟩, ?_⟩)
  · have : p ≠ q := fun e => h (by rw [e])
    simp only [c_laws_w9Steps, decide_eq_false this]
  rintro i t0 t1 ⟨⟨rfl, rfl⟩, ⟨⟨he, ha⟩, i0, i1⟩⟩
  obtain ⟨k, rfl⟩ : ∃ k : Nat, i = k := ⟨i.toNat, by omega⟩
  simp only [Int.toNat_natCast, show ((k : Int) + 1).toNat = k + 1 by omega] at ha ⊢
  refine bspD (fun hlt => ⟨⟨by omega, by omega⟩, by omega, ⟨by omega, by omega⟩, by omega, bspB (fun g => ?_) (fun g => ⟨by simp only [inK]; omega, ⟨(by first | trivial | rfl | (and_intros <;> rfl)), ⟨he, fun j hj => ?_⟩, by omega, by omega⟩, by omega⟩)⟩) (fun hge => ?_)
  · have : p ≠ q := fun e => by subst e; simp at g
    simp only [c_laws_w9Steps, decide_eq_false this]
  · by_cases e : j = k
    · subst e
      simp only [Bool.not_eq_false', Bool.and_eq_true, decide_eq_true_eq, beq_iff_eq] at g
      exact Prod.ext g.1 (Prod.ext g.2.1 (Prod.ext g.2.2.1 g.2.2.2.1))
    · exact ha j (by omega)
  · have : p = q := List.ext_getElem? fun j => by
      by_cases e : j < p.length
      · have := ha j (by omega)
        rw [List.getD_eq_getElem?_getD, List.getD_eq_getElem?_getD, List.getElem?_eq_getElem e, List.getElem?_eq_getElem (by omega)] at this
        rw [List.getElem?_eq_getElem e, List.getElem?_eq_getElem (by omega)]
        exact congrArg some this
      · rw [List.getElem?_eq_none (by omega), List.getElem?_eq_none (by omega)]
    simp only [c_laws_w9Steps, decide_eq_true this]
theorem from_no32 (v : DVar) (x : DStep) : (32 : UInt8) ∉ (fromT v x).data.toList := by
  rcases fromT_cases v x with ⟨-, e⟩ | ⟨-, e⟩
  · rw [e]; exact dec_not (by decide) (.inl (by decide))
  · rw [e]; simp [barB]
theorem rest_no32 (x : DStep) : (32 : UInt8) ∉ (restT x).data.toList := by
  rcases rest_list x with ⟨-, e⟩ | ⟨-, e⟩ <;> rw [e]
  · rw [List.mem_append, not_or]
    exact ⟨dec_not (by decide) (.inl (by decide)), by split <;> decide⟩
  · rw [List.mem_append, not_or]
    refine ⟨by decide, ?_⟩
    rcases tail_list x with ⟨-, e⟩ | ⟨-, e⟩ <;> rw [e]
    · decide
    · simp only [List.mem_cons, List.mem_append, not_or]
      exact ⟨by decide, dec_not (by decide) (.inl (by decide)), by decide⟩
theorem step_no32 (v : DVar) (x : DStep) : (32 : UInt8) ∉ (stepS v x).data.toList := by
  rw [step_rest, app_listS, app_listS, sl_list, List.mem_append, List.mem_append, not_or, not_or]
  exact ⟨⟨from_no32 v x, by decide⟩, rest_no32 x⟩
theorem step_has (v : DVar) (x : DStep) : (47 : UInt8) ∈ (stepS v x).data.toList := by
  rw [step_rest, app_listS, app_listS, sl_list]; simp
theorem dec_small {n : Int} (h0 : 0 ≤ n) (h1 : n ≤ 99) : (decS n).size ≤ 2 := by
  rw [Lib.size_eq, decS_list, itoa_nat h0]; exact decDigits_len (k := 1) (by omega)
theorem step_small {v : DVar} {x : DStep} (hv : varD v = true) (h : plainD v x = true) : (stepS v x).size ≤ 14 := by
  obtain ⟨p1, p2, p3, p4, p5⟩ := plainD_in hv h
  have a := dec_small (n := x.1 + 1) (by omega) (by omega)
  have b := dec_small (n := x.2.1 + 1) (by omega) (by omega)
  have c := dec_small (n := x.2.2.1) (by omega) (by omega)
  have k0 : barB.size = 3 := rfl
  have k1 : slB.size = 1 := rfl
  have k2 : offB.size = 3 := rfl
  have k3 : starB.size = 1 := rfl
  have k4 : opB.size = 1 := rfl
  have k5 : clB.size = 1 := rfl
  have k6 : nilB.size = 0 := rfl
  have f : (fromT v x).size ≤ 3 := by unfold fromT; split <;> omega
  unfold stepS
  split <;> split <;> simp only [app_size] <;> omega
theorem stepsS_facts {v : DVar} {ss : List DStep} (h : stepsS v ss ≠ nilB) : varD v = true ∧ ss.length ≤ 4 ∧ ((ss = [] ∧ stepsS v ss = minB) ∨ (ss ≠ [] ∧ ss.all (plainD v) = true ∧ stepsS v ss = joinS (ss.map (stepS v)) spB)) := by
  unfold stepsS at h ⊢
  by_cases hv : varD v = false
  · rw [if_pos hv] at h; exact absurd rfl h
  · rw [if_neg hv] at h ⊢
    by_cases h4 : 4 < ss.length
    · rw [if_pos h4] at h; exact absurd rfl h
    · rw [if_neg h4] at h ⊢
      refine ⟨by simpa using hv, by omega, ?_⟩
      by_cases h0 : ss = []
      · rw [if_pos h0]; exact .inl ⟨h0, rfl⟩
      · rw [if_neg h0] at h ⊢
        by_cases ha : ss.all (plainD v) = true
        · rw [if_pos ha]; exact .inr ⟨h0, ha, rfl⟩
        · rw [if_neg ha] at h; exact absurd rfl h
theorem steps_small {v : DVar} {ss : List DStep} (h : stepsS v ss ≠ nilB) : (stepsS v ss).size ≤ 60 := by
  obtain ⟨hv, hl, ⟨-, e⟩ | ⟨-, ha, e⟩⟩ := stepsS_facts h <;> rw [e]
  · decide
  · have := joinS_size (k := 14) (q := 1) (s := spB) (n := ss.length) (xs := ss.map (stepS v)) (Nat.le_refl _) (by simp) (fun x hx => by
      obtain ⟨s, hs, rfl⟩ := List.mem_map.1 hx
      exact step_small hv (List.all_eq_true.1 ha s hs))
    omega
theorem joinT_list (xs : List ByteArray) : (joinS xs spB).data.toList = Lib.join (xs.map (·.data.toList)) [32] := by simp [joinS, spB]
theorem map_mkB (xs : List ByteArray) : (xs.map (·.data.toList)).map mkB = xs := by
  rw [List.map_map]
  conv => rhs; rw [← List.map_id xs]
  exact List.map_congr_left fun w _ => mkB_of w
theorem readSs_back {v : DVar} {ss : List DStep} (h : stepsS v ss ≠ nilB) : readSs v (stepsS v ss) = (ss, true) := by
  obtain ⟨hv, hl, ⟨h0, e⟩ | ⟨h0, ha, e⟩⟩ := stepsS_facts h
  · rw [e, h0]; unfold readSs; exact if_pos (show minB = ByteArray.mk #[45] from rfl)
  · have hsp : spl 32 (joinS (ss.map (stepS v)) spB).data.toList = (ss.map (stepS v)).map (·.data.toList) := by
      rw [joinT_list]
      refine spl_join (by simpa using h0) fun p hp => ?_
      simp only [List.mem_map] at hp
      obtain ⟨w, ⟨z, -, rfl⟩, rfl⟩ := hp
      exact step_no32 v z
    have hS : splS (joinS (ss.map (stepS v)) spB) 32 = ss.map (stepS v) := by
      unfold splS
      rw [show UInt8.ofNat (32 : Int).toNat = 32 from rfl, hsp, map_mkB]
    have hk : ∀ x ∈ ss, readS v (stepS v x) = (x, true) := fun x hx => readS_yes hv ⟨List.all_eq_true.1 ha x hx, rfl⟩
    rw [e]
    unfold readSs
    rw [if_neg, hS, if_neg (by rw [List.length_map]; omega), if_pos, List.map_map]
    · congr 1
      conv => rhs; rw [← List.map_id ss]
      exact List.map_congr_left fun x hx => by simp only [Function.comp, stT, hk x hx, id]
    · rw [List.all_map]
      exact List.all_eq_true.2 fun x hx => by simp only [Function.comp, okT, hk x hx]
    · intro g
      rw [g] at hsp
      obtain ⟨x, xs, rfl⟩ := List.exists_cons_of_ne_nil h0
      have hd : [[(45 : UInt8)]] = ((x :: xs).map (stepS v)).map (·.data.toList) := hsp
      simp only [List.map_cons, List.cons.injEq] at hd
      have := step_has v x
      rw [← hd.1] at this
      exact absurd this (by decide)
theorem dig_list {n : Int} (h0 : 1 ≤ n) (h1 : n ≤ 6) : (decS n).data.toList = [UInt8.ofNat (48 + n.toNat)] := by
  rw [decS_list, itoa_nat (by omega), Lib.decDigits_one (by omega)]
theorem dig_val {n : Int} (h0 : 1 ≤ n) (h1 : n ≤ 6) : ((UInt8.ofNat (48 + n.toNat)).toNat : Int) = 48 + n := by
  rw [byte_dig (by omega)]; omega
theorem readR_back {v : DVar} {r : DRoll} (h : rollD v r = true) : readR v (rollS v r) = (r, true) ∧ (rollS v r).data.toList = [UInt8.ofNat (48 + r.1.toNat), UInt8.ofNat (48 + r.2.toNat)] := by
  obtain ⟨⟨a0, a1⟩, b0, b1⟩ := rollD_in h
  have hl : (rollS v r).data.toList = [UInt8.ofNat (48 + r.1.toNat), UInt8.ofNat (48 + r.2.toNat)] := by
    unfold rollS
    rw [if_pos h, app_listS, dig_list a0 a1, dig_list b0 b1]; rfl
  have e0 : byteAt (rollS v r) 0 = 48 + r.1 := by
    rw [show byteAt (rollS v r) 0 = (((rollS v r).data.toList.getD 0 0).toNat : Int) from rfl, hl, ← dig_val a0 a1]; rfl
  have e1 : byteAt (rollS v r) 1 = 48 + r.2 := by
    rw [show byteAt (rollS v r) 1 = (((rollS v r).data.toList.getD 1 0).toNat : Int) from rfl, hl, ← dig_val b0 b1]; rfl
  refine ⟨?_, hl⟩
  have er : (byteAt (rollS v r) 0 - 48, byteAt (rollS v r) 1 - 48) = r := by
    rw [e0, e1]; exact Prod.ext (by dsimp only; omega) (by dsimp only; omega)
  unfold readR
  rw [if_pos (by rw [Lib.size_eq, hl]; rfl), er, if_pos h]
theorem turnR_back {v : DVar} {r : DRoll} {ss : List DStep} (h : turnS v r ss ≠ nilB) : turnR v (turnS v r ss) = (r, ss, 0) ∧ readSI v (stepsS v ss) = (ss, true) := by
  unfold turnS at h ⊢
  by_cases hr : rollD v r = false
  · rw [if_pos hr] at h; exact absurd rfl h
  · rw [if_neg hr] at h ⊢
    have hr' : rollD v r = true := by simpa using hr
    by_cases hs : stepsS v ss = nilB
    · rw [if_pos hs] at h; exact absurd rfl h
    · rw [if_neg hs] at h ⊢
      have hv := (stepsS_facts hs).1
      have hb := readSs_back hs
      refine ⟨?_, by unfold readSI; rw [if_pos hv, hb]⟩
      obtain ⟨hR, hl⟩ := readR_back hr'
      obtain ⟨⟨a0, a1⟩, b0, b1⟩ := rollD_in hr'
      have hsz := steps_small hs
      have e : (rollS v r ++ colB ++ stepsS v ss).data.toList = UInt8.ofNat (48 + r.1.toNat) :: UInt8.ofNat (48 + r.2.toNat) :: 58 :: 32 :: (stepsS v ss).data.toList := by
        rw [app_listS, app_listS, hl, col_list]; rfl
      have hlen : (rollS v r ++ colB ++ stepsS v ss).size = 4 + (stepsS v ss).size := by
        rw [Lib.size_eq, e, Lib.size_eq]; simp only [List.length_cons]; omega
      have x0 : (rollS v r ++ colB ++ stepsS v ss).extract 0 2 = rollS v r := bytes_ext (by rw [ext_list, e, hl]; rfl)
      have x2 : (rollS v r ++ colB ++ stepsS v ss).extract 2 4 = colB := bytes_ext (by rw [ext_list, e, col_list]; rfl)
      have x4 : (rollS v r ++ colB ++ stepsS v ss).extract 4 (rollS v r ++ colB ++ stepsS v ss).size = stepsS v ss := by
        refine bytes_ext ?_
        rw [ext_list, e, hlen]
        simp only [List.drop_succ_cons, List.drop_zero]
        exact List.take_of_length_le (by rw [← Lib.size_eq]; omega)
      have e0 : byteAt (rollS v r) 0 = 48 + r.1 := by
        rw [show byteAt (rollS v r) 0 = (((rollS v r).data.toList.getD 0 0).toNat : Int) from rfl, hl, ← dig_val a0 a1]; rfl
      have e1 : byteAt (rollS v r) 1 = 48 + r.2 := by
        rw [show byteAt (rollS v r) 1 = (((rollS v r).data.toList.getD 1 0).toNat : Int) from rfl, hl, ← dig_val b0 b1]; rfl
      have hc := cut_four (by omega) x2 (by rw [x0, e0]; omega) (by rw [x0, e1]; omega)
      rw [x0, x4] at hc
      unfold turnR
      rw [if_neg (by rw [hv]; decide), if_neg (by omega), hc, if_neg (show ¬ true = false by decide), hR, hb]
      exact if_pos ⟨rfl, rfl⟩
theorem rollS_back {v : DVar} {h : ByteArray} (hr : (readR v h).2 = true) : rollS v (readR v h).1 = h ∧ rollD v (readR v h).1 = true := by
  obtain ⟨h2, ⟨a0, a1⟩, b0, b1⟩ := readR_ok hr
  unfold readR at hr ⊢
  rw [if_pos h2] at hr ⊢
  by_cases hd : rollD v (byteAt h 0 - 48, byteAt h 1 - 48) = true
  · rw [if_pos hd]
    refine ⟨?_, hd⟩
    unfold rollS
    rw [if_pos hd]
    obtain ⟨x, y, hxy⟩ : ∃ x y, h.data.toList = [x, y] := by
      rw [Lib.size_eq] at h2
      match hl : h.data.toList, h2 with
      | [x, y], _ => exact ⟨x, y, rfl⟩
    have e0 : byteAt h 0 = (x.toNat : Int) := by rw [show byteAt h 0 = ((h.data.toList.getD 0 0).toNat : Int) from rfl, hxy]; rfl
    have e1 : byteAt h 1 = (y.toNat : Int) := by rw [show byteAt h 1 = ((h.data.toList.getD 1 0).toNat : Int) from rfl, hxy]; rfl
    refine bytes_ext ?_
    dsimp only
    rw [app_listS, dig_list a0 a1, dig_list b0 b1, hxy]
    have f0 : UInt8.ofNat (48 + (byteAt h 0 - 48).toNat) = x := UInt8.toNat_inj.1 (by rw [byte_dig (by omega)]; omega)
    have f1 : UInt8.ofNat (48 + (byteAt h 1 - 48).toNat) = y := UInt8.toNat_inj.1 (by rw [byte_dig (by omega)]; omega)
    rw [f0, f1]; rfl
  · rw [if_neg hd] at hr; cases hr
theorem stepsS_back {v : DVar} {t : ByteArray} (hv : varD v = true) (hr : (readSs v t).2 = true) : stepsS v (readSs v t).1 = t ∧ t ≠ nilB := by
  unfold readSs at hr ⊢
  by_cases h1 : t = ByteArray.mk #[45]
  · rw [if_pos h1]
    refine ⟨?_, by rw [h1]; decide⟩
    unfold stepsS
    rw [if_neg (by rw [hv]; decide), if_neg (by decide), if_pos rfl, h1]; rfl
  · rw [if_neg h1] at hr ⊢
    by_cases h4 : 4 < (splS t 32).length
    · rw [if_pos h4] at hr; cases hr
    · rw [if_neg h4] at hr ⊢
      by_cases ha : (splS t 32).all (okT v) = true
      · rw [if_pos ha]
        have hx : ∀ w ∈ splS t 32, StT v w (stT v w) := fun w hw => by
          have h := List.all_eq_true.1 ha w hw
          unfold okT at h
          by_cases he : ∃ x, StT v w x
          · obtain ⟨x, hx⟩ := he
            unfold stT
            rw [readS_yes hv hx]; exact hx
          · rw [readS_no (fun x hx => he ⟨x, hx⟩)] at h; cases h
        have hne : splS t 32 ≠ [] := by
          unfold splS
          intro g
          exact spl_ne _ _ (List.map_eq_nil_iff.1 g)
        have hm : ((splS t 32).map (stT v)).map (stepS v) = splS t 32 := by
          rw [List.map_map]
          conv => rhs; rw [← List.map_id (splS t 32)]
          exact List.map_congr_left fun w hw => (hx w hw).tx
        have hj : joinS (splS t 32) spB = t := by
          refine bytes_ext ?_
          rw [joinT_list]
          unfold splS
          rw [show UInt8.ofNat (32 : Int).toNat = 32 from rfl, List.map_map]
          have : (spl 32 t.data.toList).map ((fun x : ByteArray => x.data.toList) ∘ mkB) = spl 32 t.data.toList := by
            conv => rhs; rw [← List.map_id (spl 32 t.data.toList)]
            exact List.map_congr_left fun w _ => mkB_data w
          rw [this]; exact join_spl 32 _
        refine ⟨?_, fun g => ?_⟩
        · unfold stepsS
          dsimp only
          rw [if_neg (by rw [hv]; decide), if_neg (by rw [List.length_map]; omega), if_neg (by simpa using hne), if_pos, hm, hj]
          rw [List.all_map]
          exact List.all_eq_true.2 fun w hw => (hx w hw).ok
        · have hw : nilB ∈ splS t 32 := by
            unfold splS
            rw [g]; exact List.mem_map.2 ⟨[], by simp [nil_list, spl], rfl⟩
          have := step_has v (stT v nilB)
          rw [(hx _ hw).tx] at this
          exact absurd this (by decide)
      · rw [if_neg ha] at hr; cases hr
theorem turnR_fwd (v : DVar) (s : ByteArray) : ((turnR v s).2.2 ≠ 0 → (turnR v s).1 = (0, 0) ∧ (turnR v s).2.1 = []) ∧ ((turnR v s).2.2 = 0 → turnS v (turnR v s).1 (turnR v s).2.1 = s) := by
  unfold turnR
  by_cases hv : varD v = false
  · rw [if_pos hv]; exact ⟨fun _ => ⟨rfl, rfl⟩, fun h => absurd h (by decide)⟩
  · rw [if_neg hv]
    have hv' : varD v = true := by simpa using hv
    by_cases h8 : 80 < s.size
    · rw [if_pos h8]; exact ⟨fun _ => ⟨rfl, rfl⟩, fun h => absurd h (by decide)⟩
    · rw [if_neg h8]
      by_cases hc : (cutD s colB).2.2 = false
      · rw [if_pos hc]; exact ⟨fun _ => ⟨rfl, rfl⟩, fun h => absurd h (by decide)⟩
      · rw [if_neg hc]
        by_cases hg : (readR v (cutD s colB).1).2 = true ∧ (readSs v (cutD s colB).2.1).2 = true
        · rw [if_pos hg]
          refine ⟨fun h => absurd rfl h, fun _ => ?_⟩
          obtain ⟨r1, r2⟩ := rollS_back hg.1
          obtain ⟨t1, t2⟩ := stepsS_back hv' hg.2
          have hc' : (cutD s colB).2.2 = true := by simpa using hc
          have hj := cut_join (l := s.data.toList) (sep := colB.data.toList) hc'
          have e1 : (cutD s colB).1.data.toList = (Lib.cut s.data.toList colB.data.toList).1 := mkB_data _
          have e2 : (cutD s colB).2.1.data.toList = (Lib.cut s.data.toList colB.data.toList).2.1 := mkB_data _
          unfold turnS
          dsimp only
          rw [if_neg (by rw [r2]; decide), t1, if_neg t2, r1]
          refine bytes_ext ?_
          rw [app_listS, app_listS, e1, e2]; exact hj.symm
        · rw [if_neg hg]; exact ⟨fun _ => ⟨rfl, rfl⟩, fun h => absurd h (by decide)⟩
theorem okC_ofT {c : List Int} (h : wfD (TC.sl (.i .u8)) c) (hl : ¬ 4096 < (c.length : Int)) : okC c := by
  refine ⟨by omega, fun i => ?_⟩
  by_cases hi : i < c.length
  · have := h _ (by rw [List.getD_eq_getElem?_getD, List.getElem?_eq_getElem hi]; exact List.getElem_mem hi : c.getD i 0 ∈ c)
    simp only [wfD, inK] at this
    omega
  · rw [List.getD_eq_getElem?_getD, List.getElem?_eq_none (by omega)]; decide
theorem drawRT_size {c : List Int} (h : okC c) : (drawRT c).2.size ≤ 2000 := by
  obtain ⟨a, -, b⟩ := ttP_ok h
  have := (damage_ok (ttP c).1 a).2.2
  have e : (drawRT c).2 = (damage (ttP c).2 (ttP c).1).1 := rfl
  rw [e]; omega
def c_laws_FnNotation : Con where
  ins := [(false, .v (.sl (.i .u8)))]
  outs := [(false, .v .b)]
  sh := false
  pre := fun x => wfD (TC.sl (.i .u8)) x.1
  out := fun _ => (true, ())
  upd := fun x => x
theorem k_laws_FnNotation [B : Base] : ConOk Tryz.prog 3 c_laws_FnNotation := by
  refine fn_okW (C := cx Tryz.prog 112 c_laws_FnNotation) (cs := [(4, c_laws_big), (5, c_spec_DrawTurnText), (6, c_impl_TurnText), (7, c_spec_TurnText), (8, c_impl_ReadTurn), (10, c_impl_StepsText), (9, c_impl_ReadSteps), (11, c_laws_w9Steps), (13, c_laws_other), (12, c_spec_DrawReadTurn)]) (res := Tryz.f3.results.toList) (fun _ => ⟨[], [(9, ⟨[[], [], [], [1, 2], [0, 1, 2, 3], [0, 1, 2, 3, 4], [0, 1, 2, 3, 4, 5], [0, 1, 2, 3, 4, 5], [0, 1, 2, 3, 4, 5, 6], [0, 1, 2, 3, 4, 5, 6, 7, 8]], [[1, 2, 3], [0, 2], [0, 1], [0], [], [], [7], [6, 8], [7], []], []⟩)], []⟩) Tryz.func3 (by kernel_rfl) rfl rfl rfl tysOk.look eqTsOk.look (AllCs.ok (l := [(4, c_laws_big), (5, c_spec_DrawTurnText), (6, c_impl_TurnText), (7, c_spec_TurnText), (8, c_impl_ReadTurn), (10, c_impl_StepsText), (9, c_impl_ReadSteps), (11, c_laws_w9Steps), (13, c_laws_other), (12, c_spec_DrawReadTurn)]) ⟨k_laws_big, k_spec_DrawTurnText, k_impl_TurnText, k_spec_TurnText, k_impl_ReadTurn, k_impl_StepsText, k_impl_ReadSteps, k_laws_w9Steps, k_laws_other, k_spec_DrawReadTurn, trivial⟩) mixed rfl rfl rfl ?_
  refine of_nf (P := ∀ c : List Int, (wfD (TC.sl (.i .u8)) c) → ((lensI c_laws_FnNotation.ins (c, ())) → (True ∧ (bsp (decide (4096 < (List.length c : Int))) (@Eq (HO c_laws_FnNotation.outs) (true, ()) (c_laws_FnNotation.out (c, ()))) ((okC c) ∧ (True ∧ (True ∧ (bsp (decide (turnS (drawTT c).1.1 (drawTT c).1.2.1 (drawTT c).1.2.2 ≠ turnS (drawTT c).1.1 (drawTT c).1.2.1 (drawTT c).1.2.2)) (@Eq (HO c_laws_FnNotation.outs) (false, ()) (c_laws_FnNotation.out (c, ()))) (bsp (decide (turnS (drawTT c).1.1 (drawTT c).1.2.1 (drawTT c).1.2.2 ≠ (ByteArray.mk #[]))) ((((turnS (drawTT c).1.1 (drawTT c).1.2.1 (drawTT c).1.2.2)).size ≤ 1048576) ∧ (True ∧ ((((stepsS (drawTT c).1.1 (drawTT c).1.2.2)).size ≤ 1048576) ∧ (bsp (decide ((turnR (drawTT c).1.1 (turnS (drawTT c).1.1 (drawTT c).1.2.1 (drawTT c).1.2.2)).2.2 ≠ (0 : Int))) (@Eq (HO c_laws_FnNotation.outs) (false, ()) (c_laws_FnNotation.out (c, ()))) (bsp (!(decide ((turnR (drawTT c).1.1 (turnS (drawTT c).1.1 (drawTT c).1.2.1 (drawTT c).1.2.2)).1.1 = (drawTT c).1.2.1.1) && (decide ((turnR (drawTT c).1.1 (turnS (drawTT c).1.1 (drawTT c).1.2.1 (drawTT c).1.2.2)).1.2 = (drawTT c).1.2.1.2) && (true)))) (@Eq (HO c_laws_FnNotation.outs) (false, ()) (c_laws_FnNotation.out (c, ()))) (True ∧ (bsp (!(decide ((turnR (drawTT c).1.1 (turnS (drawTT c).1.1 (drawTT c).1.2.1 (drawTT c).1.2.2)).2.1 = (drawTT c).1.2.2))) (@Eq (HO c_laws_FnNotation.outs) (false, ()) (c_laws_FnNotation.out (c, ()))) (bsp (!(readSI (drawTT c).1.1 (stepsS (drawTT c).1.1 (drawTT c).1.2.2)).2) (@Eq (HO c_laws_FnNotation.outs) (false, ()) (c_laws_FnNotation.out (c, ()))) (True ∧ (bsp (!(decide ((readSI (drawTT c).1.1 (stepsS (drawTT c).1.1 (drawTT c).1.2.2)).1 = (drawTT c).1.2.2))) (@Eq (HO c_laws_FnNotation.outs) (false, ()) (c_laws_FnNotation.out (c, ()))) (((0 ≤ (6 : Int) ∧ (6 : Int) ≤ 50) ∧ List.length c ≤ 1000000) ∧ ((okC ([(6 : Int), (6 : Int) + 7, 3 * (6 : Int)] ++ c)) ∧ ((((drawRT ([(6 : Int), (6 : Int) + 7, 3 * (6 : Int)] ++ c)).2).size ≤ 1048576) ∧ (bsp (decide ((turnR (drawRT ([(6 : Int), (6 : Int) + 7, 3 * (6 : Int)] ++ c)).1 (drawRT ([(6 : Int), (6 : Int) + 7, 3 * (6 : Int)] ++ c)).2).2.2 ≠ (0 : Int))) (bsp (decide ((turnR (drawRT ([(6 : Int), (6 : Int) + 7, 3 * (6 : Int)] ++ c)).1 (drawRT ([(6 : Int), (6 : Int) + 7, 3 * (6 : Int)] ++ c)).2).1.1 = (0 : Int)) && (decide ((turnR (drawRT ([(6 : Int), (6 : Int) + 7, 3 * (6 : Int)] ++ c)).1 (drawRT ([(6 : Int), (6 : Int) + 7, 3 * (6 : Int)] ++ c)).2).1.2 = (0 : Int)) && (true))) (bsp (decide (((turnR (drawRT ([(6 : Int), (6 : Int) + 7, 3 * (6 : Int)] ++ c)).1 (drawRT ([(6 : Int), (6 : Int) + 7, 3 * (6 : Int)] ++ c)).2).2.1.length : Int) = (0 : Int))) (@Eq (HO c_laws_FnNotation.outs) (true, ()) (c_laws_FnNotation.out (c, ()))) (bsp (decide ((turnR (drawRT ([(6 : Int), (6 : Int) + 7, 3 * (6 : Int)] ++ c)).1 (drawRT ([(6 : Int), (6 : Int) + 7, 3 * (6 : Int)] ++ c)).2).2.2 = (0 : Int))) (True ∧ (@Eq (HO c_laws_FnNotation.outs) ((decide (turnS (drawRT ([(6 : Int), (6 : Int) + 7, 3 * (6 : Int)] ++ c)).1 (turnR (drawRT ([(6 : Int), (6 : Int) + 7, 3 * (6 : Int)] ++ c)).1 (drawRT ([(6 : Int), (6 : Int) + 7, 3 * (6 : Int)] ++ c)).2).1 (turnR (drawRT ([(6 : Int), (6 : Int) + 7, 3 * (6 : Int)] ++ c)).1 (drawRT ([(6 : Int), (6 : Int) + 7, 3 * (6 : Int)] ++ c)).2).2.1 = (drawRT ([(6 : Int), (6 : Int) + 7, 3 * (6 : Int)] ++ c)).2)), ()) (c_laws_FnNotation.out (c, ())))) (@Eq (HO c_laws_FnNotation.outs) (false, ()) (c_laws_FnNotation.out (c, ()))))) (bsp (decide ((turnR (drawRT ([(6 : Int), (6 : Int) + 7, 3 * (6 : Int)] ++ c)).1 (drawRT ([(6 : Int), (6 : Int) + 7, 3 * (6 : Int)] ++ c)).2).2.2 = (0 : Int))) (True ∧ (@Eq (HO c_laws_FnNotation.outs) ((decide (turnS (drawRT ([(6 : Int), (6 : Int) + 7, 3 * (6 : Int)] ++ c)).1 (turnR (drawRT ([(6 : Int), (6 : Int) + 7, 3 * (6 : Int)] ++ c)).1 (drawRT ([(6 : Int), (6 : Int) + 7, 3 * (6 : Int)] ++ c)).2).1 (turnR (drawRT ([(6 : Int), (6 : Int) + 7, 3 * (6 : Int)] ++ c)).1 (drawRT ([(6 : Int), (6 : Int) + 7, 3 * (6 : Int)] ++ c)).2).2.1 = (drawRT ([(6 : Int), (6 : Int) + 7, 3 * (6 : Int)] ++ c)).2)), ()) (c_laws_FnNotation.out (c, ())))) (@Eq (HO c_laws_FnNotation.outs) (false, ()) (c_laws_FnNotation.out (c, ()))))) (bsp (decide ((turnR (drawRT ([(6 : Int), (6 : Int) + 7, 3 * (6 : Int)] ++ c)).1 (drawRT ([(6 : Int), (6 : Int) + 7, 3 * (6 : Int)] ++ c)).2).2.2 = (0 : Int))) (True ∧ (@Eq (HO c_laws_FnNotation.outs) ((decide (turnS (drawRT ([(6 : Int), (6 : Int) + 7, 3 * (6 : Int)] ++ c)).1 (turnR (drawRT ([(6 : Int), (6 : Int) + 7, 3 * (6 : Int)] ++ c)).1 (drawRT ([(6 : Int), (6 : Int) + 7, 3 * (6 : Int)] ++ c)).2).1 (turnR (drawRT ([(6 : Int), (6 : Int) + 7, 3 * (6 : Int)] ++ c)).1 (drawRT ([(6 : Int), (6 : Int) + 7, 3 * (6 : Int)] ++ c)).2).2.1 = (drawRT ([(6 : Int), (6 : Int) + 7, 3 * (6 : Int)] ++ c)).2)), ()) (c_laws_FnNotation.out (c, ())))) (@Eq (HO c_laws_FnNotation.outs) (false, ()) (c_laws_FnNotation.out (c, ())))))))))))))))))) (((0 ≤ (6 : Int) ∧ (6 : Int) ≤ 50) ∧ List.length c ≤ 1000000) ∧ ((okC ([(6 : Int), (6 : Int) + 7, 3 * (6 : Int)] ++ c)) ∧ ((((drawRT ([(6 : Int), (6 : Int) + 7, 3 * (6 : Int)] ++ c)).2).size ≤ 1048576) ∧ (bsp (decide ((turnR (drawRT ([(6 : Int), (6 : Int) + 7, 3 * (6 : Int)] ++ c)).1 (drawRT ([(6 : Int), (6 : Int) + 7, 3 * (6 : Int)] ++ c)).2).2.2 ≠ (0 : Int))) (bsp (decide ((turnR (drawRT ([(6 : Int), (6 : Int) + 7, 3 * (6 : Int)] ++ c)).1 (drawRT ([(6 : Int), (6 : Int) + 7, 3 * (6 : Int)] ++ c)).2).1.1 = (0 : Int)) && (decide ((turnR (drawRT ([(6 : Int), (6 : Int) + 7, 3 * (6 : Int)] ++ c)).1 (drawRT ([(6 : Int), (6 : Int) + 7, 3 * (6 : Int)] ++ c)).2).1.2 = (0 : Int)) && (true))) (bsp (decide (((turnR (drawRT ([(6 : Int), (6 : Int) + 7, 3 * (6 : Int)] ++ c)).1 (drawRT ([(6 : Int), (6 : Int) + 7, 3 * (6 : Int)] ++ c)).2).2.1.length : Int) = (0 : Int))) (@Eq (HO c_laws_FnNotation.outs) (true, ()) (c_laws_FnNotation.out (c, ()))) (bsp (decide ((turnR (drawRT ([(6 : Int), (6 : Int) + 7, 3 * (6 : Int)] ++ c)).1 (drawRT ([(6 : Int), (6 : Int) + 7, 3 * (6 : Int)] ++ c)).2).2.2 = (0 : Int))) (True ∧ (@Eq (HO c_laws_FnNotation.outs) ((decide (turnS (drawRT ([(6 : Int), (6 : Int) + 7, 3 * (6 : Int)] ++ c)).1 (turnR (drawRT ([(6 : Int), (6 : Int) + 7, 3 * (6 : Int)] ++ c)).1 (drawRT ([(6 : Int), (6 : Int) + 7, 3 * (6 : Int)] ++ c)).2).1 (turnR (drawRT ([(6 : Int), (6 : Int) + 7, 3 * (6 : Int)] ++ c)).1 (drawRT ([(6 : Int), (6 : Int) + 7, 3 * (6 : Int)] ++ c)).2).2.1 = (drawRT ([(6 : Int), (6 : Int) + 7, 3 * (6 : Int)] ++ c)).2)), ()) (c_laws_FnNotation.out (c, ())))) (@Eq (HO c_laws_FnNotation.outs) (false, ()) (c_laws_FnNotation.out (c, ()))))) (bsp (decide ((turnR (drawRT ([(6 : Int), (6 : Int) + 7, 3 * (6 : Int)] ++ c)).1 (drawRT ([(6 : Int), (6 : Int) + 7, 3 * (6 : Int)] ++ c)).2).2.2 = (0 : Int))) (True ∧ (@Eq (HO c_laws_FnNotation.outs) ((decide (turnS (drawRT ([(6 : Int), (6 : Int) + 7, 3 * (6 : Int)] ++ c)).1 (turnR (drawRT ([(6 : Int), (6 : Int) + 7, 3 * (6 : Int)] ++ c)).1 (drawRT ([(6 : Int), (6 : Int) + 7, 3 * (6 : Int)] ++ c)).2).1 (turnR (drawRT ([(6 : Int), (6 : Int) + 7, 3 * (6 : Int)] ++ c)).1 (drawRT ([(6 : Int), (6 : Int) + 7, 3 * (6 : Int)] ++ c)).2).2.1 = (drawRT ([(6 : Int), (6 : Int) + 7, 3 * (6 : Int)] ++ c)).2)), ()) (c_laws_FnNotation.out (c, ())))) (@Eq (HO c_laws_FnNotation.outs) (false, ()) (c_laws_FnNotation.out (c, ()))))) (bsp (decide ((turnR (drawRT ([(6 : Int), (6 : Int) + 7, 3 * (6 : Int)] ++ c)).1 (drawRT ([(6 : Int), (6 : Int) + 7, 3 * (6 : Int)] ++ c)).2).2.2 = (0 : Int))) (True ∧ (@Eq (HO c_laws_FnNotation.outs) ((decide (turnS (drawRT ([(6 : Int), (6 : Int) + 7, 3 * (6 : Int)] ++ c)).1 (turnR (drawRT ([(6 : Int), (6 : Int) + 7, 3 * (6 : Int)] ++ c)).1 (drawRT ([(6 : Int), (6 : Int) + 7, 3 * (6 : Int)] ++ c)).2).1 (turnR (drawRT ([(6 : Int), (6 : Int) + 7, 3 * (6 : Int)] ++ c)).1 (drawRT ([(6 : Int), (6 : Int) + 7, 3 * (6 : Int)] ++ c)).2).2.1 = (drawRT ([(6 : Int), (6 : Int) + 7, 3 * (6 : Int)] ++ c)).2)), ()) (c_laws_FnNotation.out (c, ())))) (@Eq (HO c_laws_FnNotation.outs) (false, ()) (c_laws_FnNotation.out (c, ()))))))))))))))))) (by kernel_rfl) ?_
  rintro c hw hl
  have out : ∀ r, r = true → @Eq (HO c_laws_FnNotation.outs) (r, ()) (c_laws_FnNotation.out (c, ())) := fun r h => by subst h; rfl
  refine ⟨trivial, bspD (fun _ => rfl) (fun hbig => ?_)⟩
  have hc := okC_ofT hw hbig
  have hcl : c.length ≤ 4096 := by omega
  have hO : okC ([6, 6 + 7, 3 * 6] ++ c) := okC_other hc hcl
  have hsz2 := drawRT_size hO
  have hF := turnR_fwd (drawRT ([6, 6 + 7, 3 * 6] ++ c)).1 (drawRT ([6, 6 + 7, 3 * 6] ++ c)).2
  have hz := turnS_size (drawTT c).1.1 (drawTT c).1.2.1 (drawTT c).1.2.2
  have hz2 := stepsS_size (drawTT c).1.1 (drawTT c).1.2.2
  have hB := fun h => turnR_back (v := (drawTT c).1.1) (r := (drawTT c).1.2.1) (ss := (drawTT c).1.2.2) h
  generalize turnR (drawRT ([6, 6 + 7, 3 * 6] ++ c)).1 (drawRT ([6, 6 + 7, 3 * 6] ++ c)).2 = Q at hF ⊢
  refine ⟨hc, trivial, trivial, bspD (fun h => absurd rfl h) (fun _ => bspD (fun hne => ⟨by omega, trivial, by omega, ?_⟩) (fun heq => ?_))⟩
  · obtain ⟨hT, hS⟩ := hB hne
    have t1 : (turnR (drawTT c).1.1 (turnS (drawTT c).1.1 (drawTT c).1.2.1 (drawTT c).1.2.2)).1 = (drawTT c).1.2.1 := by rw [hT]
    have t2 : (turnR (drawTT c).1.1 (turnS (drawTT c).1.1 (drawTT c).1.2.1 (drawTT c).1.2.2)).2.1 = (drawTT c).1.2.2 := by rw [hT]
    have t3 : (turnR (drawTT c).1.1 (turnS (drawTT c).1.1 (drawTT c).1.2.1 (drawTT c).1.2.2)).2.2 = 0 := by rw [hT]
    have s1 : (readSI (drawTT c).1.1 (stepsS (drawTT c).1.1 (drawTT c).1.2.2)).1 = (drawTT c).1.2.2 := by rw [hS]
    have s2 : (readSI (drawTT c).1.1 (stepsS (drawTT c).1.1 (drawTT c).1.2.2)).2 = true := by rw [hS]
    refine bspD (fun h => absurd t3 h) (fun _ => bspB (fun h => ?_) (fun _ => ⟨trivial, bspB (fun h => ?_) (fun _ => bspB (fun h => ?_) (fun _ => ⟨trivial, bspB (fun h => ?_) (fun _ => ?_)⟩))⟩))
    · rw [decide_eq_true (congrArg Prod.fst t1), decide_eq_true (congrArg Prod.snd t1)] at h; cases h
    · rw [decide_eq_true t2] at h; cases h
    · rw [s2] at h; cases h
    · rw [decide_eq_true s1] at h; cases h
    · refine ⟨⟨⟨by omega, by omega⟩, by omega⟩, hO, by omega, bspD (fun h => ?_) (fun h => ?_)⟩
      · obtain ⟨q1, q2⟩ := hF.1 h
        rw [q1, q2]
        exact bspB (fun _ => bspD (fun _ => rfl) (fun g => absurd rfl g)) (fun g => by cases g)
      · exact bspD (fun g => ⟨trivial, out _ (decide_eq_true (hF.2 g))⟩) (fun g => absurd (Decidable.not_not.1 h) g)
  · refine ⟨⟨⟨by omega, by omega⟩, by omega⟩, hO, by omega, bspD (fun h => ?_) (fun h => ?_)⟩
    · obtain ⟨q1, q2⟩ := hF.1 h
      rw [q1, q2]
      exact bspB (fun _ => bspD (fun _ => rfl) (fun g => absurd rfl g)) (fun g => by cases g)
    · exact bspD (fun g => ⟨trivial, out _ (decide_eq_true (hF.2 g))⟩) (fun g => absurd (Decidable.not_not.1 h) g)
end
end Go.Proofs.YtmklkigppmgigaaGreatDoor
