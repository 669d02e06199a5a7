/-
  Contracts: texts of turns; the law FnExactTurnText.
-/
import Derived.Test.YtmklkigppmgigaaGreatDoorVStepT
namespace Go.Proofs.YtmklkigppmgigaaGreatDoor
open Go.RowKit
set_option linter.unusedSimpArgs false
set_option linter.unusedVariables false
def stepsS (v : DVar) (ss : List DStep) : ByteArray :=
  if varD v = false then nilB else if 4 < ss.length then nilB else if ss = [] then minB else if ss.all (plainD v) = true then joinS (ss.map (stepS v)) spB else nilB
def turnS (v : DVar) (r : DRoll) (ss : List DStep) : ByteArray := if rollD v r = false then nilB else if stepsS v ss = nilB then nilB else rollS v r ++ colB ++ stepsS v ss
def c_impl_StepsText : Con where
  ins := [(true, .v tVar), (false, .v (.sl tStep))]
  outs := [(false, .v .s)]
  sh := false
  pre := fun _ => True
  out := fun x => (stepsS x.1 x.2.1, ())
  upd := fun x => x
theorem k_impl_StepsText [B : Base] : ConOk Tryz.prog 10 c_impl_StepsText := by
  refine fn_okW (C := cx Tryz.prog 42 c_impl_StepsText) (cs := [(22, c_impl_IsVariant), (27, c_impl_plainStep), (28, c_impl_stepText), (29, c_strings_Join)]) (res := Tryz.f10.results.toList) (fun x => ⟨[{ sh := ⟨[(2, .one (.ref 0)), (5, .one (.ref 1)), (22, .one (.ref 2)), (23, .one (.i .i64)), (24, .one (.i .i64))], [(0, .box [.i .i64, .i .i64, .i .i64, .i .i64]), (1, .own 9 .s true), (2, .imm tStep false)]⟩, nx := 3, I := fun _ dat_ => ((x.2.1.length : Int) = dat_.1.2.2.2.1 ∧ x.1.1 = dat_.2.1.1 ∧ x.1.2.1 = dat_.2.1.2.1 ∧ x.1.2.2.1 = dat_.2.1.2.2.1 ∧ x.1.2.2.2 = dat_.2.1.2.2.2.1 ∧ x.2.1 = dat_.2.2.2.1) ∧ ((List.length dat_.2.2.1 = List.length x.2.1 ∧ (∀ j : Nat, j < Int.toNat dat_.1.2.2.2.2.1 → List.getD dat_.2.2.1 j ByteArray.empty = stepS x.1 (List.getD x.2.1 j (0, 0, 0, false))) ∧ List.all (List.take (Int.toNat dat_.1.2.2.2.2.1) x.2.1) (plainD x.1) = true) ∧ 0 ≤ dat_.1.2.2.2.2.1 ∧ dat_.1.2.2.2.2.1 ≤ (List.length x.2.1 : Int)), mu := fun dat_ => Int.toNat ((List.length x.2.1 : Int) - dat_.1.2.2.2.2.1) }], [], []⟩) Tryz.func10 (by kernel_rfl) rfl rfl rfl tysOk.look eqTsOk.look (AllCs.ok (l := [(22, c_impl_IsVariant), (27, c_impl_plainStep), (28, c_impl_stepText), (29, c_strings_Join)]) ⟨k_impl_IsVariant, k_impl_plainStep, k_impl_stepText, k_strings_Join, trivial⟩) mixed rfl rfl rfl ?_
  refine of_nf (P := ∀ v : Int × Int × Int × Int, ∀ ss : List (Int × Int × Int × Bool), (True) → ((lensI c_impl_StepsText.ins (v, ss, ())) → (True ∧ (bsp (!(varD v)) (@Eq (HO c_impl_StepsText.outs) ((ByteArray.mk #[]), ()) (c_impl_StepsText.out (v, ss, ()))) (bsp (decide ((4 : Int) < (ss.length : Int))) (@Eq (HO c_impl_StepsText.outs) ((ByteArray.mk #[]), ()) (c_impl_StepsText.out (v, ss, ()))) (bsp (decide ((ss.length : Int) = (0 : Int))) (@Eq (HO c_impl_StepsText.outs) ((ByteArray.mk #[45]), ()) (c_impl_StepsText.out (v, ss, ()))) ((0 ≤ (ss.length : Int) ∧ (ss.length : Int) ≤ (ss.length : Int) ∧ (ss.length : Int) ≤ 1099511627776) ∧ ((((ss.length : Int) = (ss.length : Int) ∧ v.1 = v.1 ∧ v.2.1 = v.2.1 ∧ v.2.2.1 = v.2.2.1 ∧ v.2.2.2 = v.2.2.2 ∧ ss = ss) ∧ ((List.length (List.replicate ss.length (ByteArray.empty : ByteArray)) = List.length ss ∧ (∀ j : Nat, j < Int.toNat (0 : Int) → List.getD (List.replicate ss.length (ByteArray.empty : ByteArray)) j ByteArray.empty = stepS v (List.getD ss j (0, 0, 0, false))) ∧ List.all (List.take (Int.toNat (0 : Int)) ss) (plainD v) = true) ∧ 0 ≤ (0 : Int) ∧ (0 : Int) ≤ (List.length ss : Int))) ∧ (∀ n : Int, ∀ i : Int, ∀ t2_0 : Int, ∀ t2_1 : Int, ∀ t2_2 : Int, ∀ t2_3 : Int, ∀ ws : List ByteArray, ∀ l : List (Int × Int × Int × Bool), (((ss.length : Int) = n ∧ v.1 = t2_0 ∧ v.2.1 = t2_1 ∧ v.2.2.1 = t2_2 ∧ v.2.2.2 = t2_3 ∧ ss = l) ∧ ((List.length ws = List.length ss ∧ (∀ j : Nat, j < Int.toNat i → List.getD ws j ByteArray.empty = stepS v (List.getD ss j (0, 0, 0, false))) ∧ List.all (List.take (Int.toNat i) ss) (plainD v) = true) ∧ 0 ≤ i ∧ i ≤ (List.length ss : Int))) → (bsp (decide (i < n)) ((0 ≤ i ∧ i < (l.length : Int)) ∧ ((i.toNat < l.length) ∧ ((varD (t2_0, t2_1, t2_2, t2_3) = true) ∧ (bsp (!(plainD (t2_0, t2_1, t2_2, t2_3) (l.getD i.toNat (0, 0, 0, false)))) (@Eq (HO c_impl_StepsText.outs) ((ByteArray.mk #[]), ()) (c_impl_StepsText.out (v, ss, ()))) ((varD (t2_0, t2_1, t2_2, t2_3) = true ∧ plainD (t2_0, t2_1, t2_2, t2_3) (l.getD i.toNat (0, 0, 0, false)) = true) ∧ ((0 ≤ i ∧ i < (ws.length : Int)) ∧ ((i.toNat < ws.length) ∧ ((inK .i64 (i + 1)) ∧ ((((ss.length : Int) = n ∧ v.1 = t2_0 ∧ v.2.1 = t2_1 ∧ v.2.2.1 = t2_2 ∧ v.2.2.2 = t2_3 ∧ ss = l) ∧ ((List.length (ws.set i.toNat (stepS (t2_0, t2_1, t2_2, t2_3) (l.getD i.toNat (0, 0, 0, false)))) = List.length ss ∧ (∀ j : Nat, j < Int.toNat (i + 1) → List.getD (ws.set i.toNat (stepS (t2_0, t2_1, t2_2, t2_3) (l.getD i.toNat (0, 0, 0, false)))) j ByteArray.empty = stepS v (List.getD ss j (0, 0, 0, false))) ∧ List.all (List.take (Int.toNat (i + 1)) ss) (plainD v) = true) ∧ 0 ≤ (i + 1) ∧ (i + 1) ≤ (List.length ss : Int))) ∧ ((Int.toNat ((List.length ss : Int) - (i + 1)) : Nat) < Int.toNat ((List.length ss : Int) - i))))))))))) (((joinS ws (ByteArray.mk #[32])).size ≤ 140737488355328 ∧ List.length ws ≤ 140737488355328) ∧ (@Eq (HO c_impl_StepsText.outs) (joinS ws (ByteArray.mk #[32]), ()) (c_impl_StepsText.out (v, ss, ())))))))))))))) (by kernel_rfl) ?_
  rintro v ss hp hl
  have hD := stepsS.eq_1 v ss
  have out : ∀ r, stepsS v ss = r → @Eq (HO c_impl_StepsText.outs) (r, ()) (c_impl_StepsText.out (v, ss, ())) := fun r h => by subst h; rfl
  refine ⟨trivial, bspB (fun h => out _ (hD.trans (if_pos (by simpa using h)))) (fun h => ?_)⟩
  have hv : varD v = true := by simpa using h
  rw [if_neg (by rw [hv]; decide)] at hD
  refine bspD (fun h4 => out _ (hD.trans (if_pos (by omega)))) (fun h4 => ?_)
  rw [if_neg (by omega)] at hD
  refine bspD (fun h0 => out _ (hD.trans (if_pos (List.length_eq_zero_iff.1 (by omega))))) (fun h0 => ?_)
  rw [if_neg (fun e => h0 (by rw [e]; rfl))] at hD
  have bad : ∀ k : Nat, k < ss.length → plainD v (ss.getD k (0, 0, 0, false)) = false → stepsS v ss = nilB := fun k hk hb => by
    rw [hD, if_neg]
    intro hall
    have := List.all_eq_true.1 hall (ss.getD k (0, 0, 0, false)) (by rw [List.getD_eq_getElem?_getD, List.getElem?_eq_getElem hk]; exact List.getElem_mem hk)
    rw [hb] at this; cases this

  refine ⟨by omega, ⟨(by first | trivial | rfl | (and_intros <;> rfl)), ⟨by simp, fun j hj => by simp at hj, by simp⟩, by omega, by omega⟩, ?_⟩
  rintro n i t2_0 t2_1 t2_2 t2_3 ws l ⟨⟨rfl, rfl, rfl, rfl, rfl, rfl⟩, ⟨⟨hw, hs, ha⟩, i0, i1⟩⟩
  simp only [Prod.eta]
  obtain ⟨k, rfl⟩ : ∃ k : Nat, i = k := ⟨i.toNat, by omega⟩
  simp only [Int.toNat_natCast, show ((k : Int) + 1).toNat = k + 1 by omega] at hs ha ⊢
  refine bspD (fun hlt => ?_) (fun hge => ?_)
  · have hk : k < ss.length := by omega
    refine ⟨⟨by omega, by omega⟩, hk, hv, bspB (fun hb => out _ (bad k hk (by simpa using hb))) (fun hb => ?_)⟩
    have hp1 : plainD v (ss.getD k (0, 0, 0, false)) = true := by simpa using hb
    refine ⟨⟨hv, hp1⟩, ⟨by omega, by omega⟩, by omega, by simp only [inK]; omega, ⟨(by first | trivial | rfl | (and_intros <;> rfl)), ⟨by simpa using hw, fun j hj => ?_, ?_⟩, by omega, by omega⟩, by omega⟩
    · rw [getD_set_str (by omega)]
      split
      · next e => rw [e]
      · exact hs j (by omega)
    · rw [take_all_step _ hk (0, 0, 0, false), ha, hp1]; rfl
  · have hkl : ss.length ≤ k := by omega
    rw [List.take_of_length_le hkl] at ha
    have e : ws = ss.map (stepS v) := List.ext_getElem? fun j => by
      by_cases hj : j < ss.length
      · have := hs j (by omega)
        rw [List.getD_eq_getElem?_getD, List.getD_eq_getElem?_getD, List.getElem?_eq_getElem hj, List.getElem?_eq_getElem (by omega)] at this
        rw [List.getElem?_map, List.getElem?_eq_getElem hj, List.getElem?_eq_getElem (by omega)]
        exact congrArg some this
      · rw [List.getElem?_eq_none (by omega), List.getElem?_eq_none (by simp; omega)]
    subst e
    have hz := joinS_size (s := spB) (q := 1) (k := 100) (n := ss.length) (xs := ss.map (stepS v)) (Nat.le_refl _) (by simp) (fun x hx => by
      obtain ⟨s, hs, rfl⟩ := List.mem_map.1 hx
      exact stepS_size hv (List.all_eq_true.1 ha s hs))
    refine ⟨⟨?_, by simp; omega⟩, out _ (hD.trans (if_pos ha))⟩
    have : (joinS (ss.map (stepS v)) spB).size ≤ 140737488355328 := by omega
    exact this
def c_spec_StepsText : Con where
  ins := [(true, .v tVar), (false, .v (.sl tStep))]
  outs := [(false, .v .s)]
  sh := false
  pre := fun _ => True
  out := fun x => (stepsS x.1 x.2.1, ())
  upd := fun x => x
theorem k_spec_StepsText [B : Base] : ConOk Tryz.prog 21 c_spec_StepsText := by
  refine fn_okW (C := cx Tryz.prog 44 c_spec_StepsText) (cs := [(39, c_spec_IsVariant), (40, c_spec_l06Plain), (41, c_spec_l06Step)]) (res := Tryz.f21.results.toList) (fun x => ⟨[{ sh := ⟨[(1, .one (.ref 0)), (2, .one (.ref 1)), (5, .one .s), (6, .one (.i .i64))], [(0, .imm tStep false), (1, .box [.i .i64, .i .i64, .i .i64, .i .i64])]⟩, nx := 2, I := fun _ dat_ => (x.2.1 = dat_.2.1 ∧ x.1.1 = dat_.2.2.1.1 ∧ x.1.2.1 = dat_.2.2.1.2.1 ∧ x.1.2.2.1 = dat_.2.2.1.2.2.1 ∧ x.1.2.2.2 = dat_.2.2.1.2.2.2.1) ∧ ((dat_.1.2.2.1 = joinS (List.map (stepS x.1) (List.take (Int.toNat dat_.1.2.2.2.1) x.2.1)) spB ∧ List.all (List.take (Int.toNat dat_.1.2.2.2.1) x.2.1) (plainD x.1) = true) ∧ 0 ≤ dat_.1.2.2.2.1 ∧ dat_.1.2.2.2.1 ≤ (List.length x.2.1 : Int)), mu := fun dat_ => Int.toNat ((List.length x.2.1 : Int) - dat_.1.2.2.2.1) }], [(9, ⟨[[], [], [], [1, 2], [1, 2, 3], [0, 1, 2, 3, 4], [0, 1, 2, 3, 4, 5]], [[1, 2, 3, 4], [0, 2], [0, 1], [0], [0], [], []], []⟩), (13, ⟨[[], [], [], [], [2, 3], [2, 3, 4], [1, 2, 3, 4, 5], [0, 1, 2, 3, 4, 5, 6], [0, 1, 2, 3, 4, 5, 6, 7]], [[1, 2, 3, 4, 5, 6], [0, 2, 3, 4, 5], [0, 1, 3], [0, 1, 2], [0, 1], [0, 1], [0], [], []], []⟩)], []⟩) Tryz.func21 (by kernel_rfl) rfl rfl rfl tysOk.look eqTsOk.look (AllCs.ok (l := [(39, c_spec_IsVariant), (40, c_spec_l06Plain), (41, c_spec_l06Step)]) ⟨k_spec_IsVariant, k_spec_l06Plain, k_spec_l06Step, trivial⟩) mixed rfl rfl rfl ?_
  refine of_nf (P := ∀ v : Int × Int × Int × Int, ∀ ss : List (Int × Int × Int × Bool), (True) → ((lensI c_spec_StepsText.ins (v, ss, ())) → (True ∧ (bsp (!(varD v)) (@Eq (HO c_spec_StepsText.outs) ((ByteArray.mk #[]), ()) (c_spec_StepsText.out (v, ss, ()))) (bsp (decide ((4 : Int) < (ss.length : Int))) (@Eq (HO c_spec_StepsText.outs) ((ByteArray.mk #[]), ()) (c_spec_StepsText.out (v, ss, ()))) (bsp (decide ((ss.length : Int) = (0 : Int))) (@Eq (HO c_spec_StepsText.outs) ((ByteArray.mk #[45]), ()) (c_spec_StepsText.out (v, ss, ()))) (((ss = ss ∧ v.1 = v.1 ∧ v.2.1 = v.2.1 ∧ v.2.2.1 = v.2.2.1 ∧ v.2.2.2 = v.2.2.2) ∧ (((ByteArray.mk #[]) = joinS (List.map (stepS v) (List.take (Int.toNat (0 : Int)) ss)) spB ∧ List.all (List.take (Int.toNat (0 : Int)) ss) (plainD v) = true) ∧ 0 ≤ (0 : Int) ∧ (0 : Int) ≤ (List.length ss : Int))) ∧ (∀ acc : ByteArray, ∀ i : Int, ∀ t1 : List (Int × Int × Int × Bool), ∀ t2_0 : Int, ∀ t2_1 : Int, ∀ t2_2 : Int, ∀ t2_3 : Int, ((ss = t1 ∧ v.1 = t2_0 ∧ v.2.1 = t2_1 ∧ v.2.2.1 = t2_2 ∧ v.2.2.2 = t2_3) ∧ ((acc = joinS (List.map (stepS v) (List.take (Int.toNat i) ss)) spB ∧ List.all (List.take (Int.toNat i) ss) (plainD v) = true) ∧ 0 ≤ i ∧ i ≤ (List.length ss : Int))) → (bsp (decide (i < (t1.length : Int))) ((0 ≤ i ∧ i < (t1.length : Int)) ∧ ((i.toNat < t1.length) ∧ ((varD (t2_0, t2_1, t2_2, t2_3) = true) ∧ (bsp (!(plainD (t2_0, t2_1, t2_2, t2_3) (t1.getD i.toNat (0, 0, 0, false)))) (@Eq (HO c_spec_StepsText.outs) ((ByteArray.mk #[]), ()) (c_spec_StepsText.out (v, ss, ()))) (bsp (decide ((0 : Int) < i)) ((ByteArray.size acc + ByteArray.size (ByteArray.mk #[32]) ≤ 9223372036854775807) ∧ ((0 ≤ i ∧ i < (t1.length : Int)) ∧ ((i.toNat < t1.length) ∧ ((varD (t2_0, t2_1, t2_2, t2_3) = true ∧ plainD (t2_0, t2_1, t2_2, t2_3) (t1.getD i.toNat (0, 0, 0, false)) = true) ∧ ((ByteArray.size (acc ++ (ByteArray.mk #[32])) + ByteArray.size (stepS (t2_0, t2_1, t2_2, t2_3) (t1.getD i.toNat (0, 0, 0, false))) ≤ 9223372036854775807) ∧ ((inK .i64 (i + 1)) ∧ (((ss = t1 ∧ v.1 = t2_0 ∧ v.2.1 = t2_1 ∧ v.2.2.1 = t2_2 ∧ v.2.2.2 = t2_3) ∧ ((((acc ++ (ByteArray.mk #[32])) ++ stepS (t2_0, t2_1, t2_2, t2_3) (t1.getD i.toNat (0, 0, 0, false))) = joinS (List.map (stepS v) (List.take (Int.toNat (i + 1)) ss)) spB ∧ List.all (List.take (Int.toNat (i + 1)) ss) (plainD v) = true) ∧ 0 ≤ (i + 1) ∧ (i + 1) ≤ (List.length ss : Int))) ∧ ((Int.toNat ((List.length ss : Int) - (i + 1)) : Nat) < Int.toNat ((List.length ss : Int) - i))))))))) ((0 ≤ i ∧ i < (t1.length : Int)) ∧ ((i.toNat < t1.length) ∧ ((varD (t2_0, t2_1, t2_2, t2_3) = true ∧ plainD (t2_0, t2_1, t2_2, t2_3) (t1.getD i.toNat (0, 0, 0, false)) = true) ∧ ((ByteArray.size acc + ByteArray.size (stepS (t2_0, t2_1, t2_2, t2_3) (t1.getD i.toNat (0, 0, 0, false))) ≤ 9223372036854775807) ∧ ((inK .i64 (i + 1)) ∧ (((ss = t1 ∧ v.1 = t2_0 ∧ v.2.1 = t2_1 ∧ v.2.2.1 = t2_2 ∧ v.2.2.2 = t2_3) ∧ (((acc ++ stepS (t2_0, t2_1, t2_2, t2_3) (t1.getD i.toNat (0, 0, 0, false))) = joinS (List.map (stepS v) (List.take (Int.toNat (i + 1)) ss)) spB ∧ List.all (List.take (Int.toNat (i + 1)) ss) (plainD v) = true) ∧ 0 ≤ (i + 1) ∧ (i + 1) ≤ (List.length ss : Int))) ∧ ((Int.toNat ((List.length ss : Int) - (i + 1)) : Nat) < Int.toNat ((List.length ss : Int) - i))))))))))))) (@Eq (HO c_spec_StepsText.outs) (acc, ()) (c_spec_StepsText.out (v, ss, ())))))))))))) (by kernel_rfl) ?_
  rintro v ss hp hl
  have hD := stepsS.eq_1 v ss
  have out : ∀ r, stepsS v ss = r → @Eq (HO c_spec_StepsText.outs) (r, ()) (c_spec_StepsText.out (v, ss, ())) := fun r h => by subst h; rfl
  refine ⟨trivial, bspB (fun h => out _ (hD.trans (if_pos (by simpa using h)))) (fun h => ?_)⟩
  have hv : varD v = true := by simpa using h
  rw [if_neg (by rw [hv]; decide)] at hD
  refine bspD (fun h4 => out _ (hD.trans (if_pos (by omega)))) (fun h4 => ?_)
  rw [if_neg (by omega)] at hD
  refine bspD (fun h0 => out _ (hD.trans (if_pos (List.length_eq_zero_iff.1 (by omega))))) (fun h0 => ?_)
  rw [if_neg (fun e => h0 (by rw [e]; rfl))] at hD
  have bad : ∀ k : Nat, k < ss.length → plainD v (ss.getD k (0, 0, 0, false)) = false → stepsS v ss = nilB := fun k hk hb => by
    rw [hD, if_neg]
    intro hall
    have := List.all_eq_true.1 hall (ss.getD k (0, 0, 0, false)) (by rw [List.getD_eq_getElem?_getD, List.getElem?_eq_getElem hk]; exact List.getElem_mem hk)
    rw [hb] at this; cases this

  refine ⟨⟨(by first | trivial | rfl | (and_intros <;> rfl)), ⟨rfl, by simp⟩, by omega, by omega⟩, ?_⟩
  rintro acc i t1 t2_0 t2_1 t2_2 t2_3 ⟨⟨rfl, rfl, rfl, rfl, rfl⟩, ⟨⟨hacc, ha⟩, i0, i1⟩⟩
  simp only [Prod.eta]
  obtain ⟨k, rfl⟩ : ∃ k : Nat, i = k := ⟨i.toNat, by omega⟩
  simp only [Int.toNat_natCast, show ((k : Int) + 1).toNat = k + 1 by omega] at hacc ha ⊢
  refine bspD (fun hlt => ?_) (fun hge => ?_)
  · have hk : k < ss.length := by omega
    refine ⟨⟨by omega, by omega⟩, hk, hv, bspB (fun hb => out _ (bad k hk (by simpa using hb))) (fun hb => ?_)⟩
    have hp1 : plainD v (ss.getD k (0, 0, 0, false)) = true := by simpa using hb
    have hsz := stepS_size hv hp1
    have hz := joinS_size (s := spB) (q := 1) (k := 100) (n := k) (xs := (ss.take k).map (stepS v)) (Nat.le_refl _) (by simp; omega) (fun x hx => by
      obtain ⟨s, hs, rfl⟩ := List.mem_map.1 hx
      exact stepS_size hv (List.all_eq_true.1 ha s hs))
    rw [← hacc] at hz
    have hsn := joinS_snoc ((ss.take k).map (stepS v)) (stepS v (ss.getD k (0, 0, 0, false))) spB
    rw [← take_map_step _ hk (0, 0, 0, false), ← hacc] at hsn
    have hall : (ss.take (k + 1)).all (plainD v) = true := by rw [take_all_step _ hk (0, 0, 0, false), ha, hp1]; rfl
    have k1 : (ByteArray.mk #[32]).size = 1 := rfl
    simp only [app_size]
    refine bspD (fun h1 => ?_) (fun h1 => ?_)
    · rw [if_neg (fun e => by have := congrArg List.length e; rw [List.length_map, List.length_take, List.length_nil] at this; omega)] at hsn
      refine ⟨by omega, ⟨by omega, by omega⟩, hk, ⟨hv, hp1⟩, (Nat.le_trans (Nat.add_le_add (Nat.add_le_add (Nat.le_refl _) (show _ ≤ 1 from Nat.le_refl 1)) hsz) (by omega)), by simp only [inK]; omega, ⟨(by first | trivial | rfl | (and_intros <;> rfl)), ⟨hsn.symm, hall⟩, by omega, by omega⟩, by omega⟩
    · have hk0 : k = 0 := by omega
      subst hk0
      rw [if_pos (by simp)] at hsn
      have e0 : acc = nilB := by rw [hacc]; rfl
      refine ⟨⟨by omega, by omega⟩, hk, ⟨hv, hp1⟩, by omega, by simp only [inK]; omega, ⟨(by first | trivial | rfl | (and_intros <;> rfl)), ⟨?_, hall⟩, by omega, by omega⟩, by omega⟩
      rw [hsn, e0]; exact bytes_ext (by simp [ByteArray.data_append, nilB])
  · rw [List.take_of_length_le (by omega)] at ha hacc
    subst hacc
    exact out _ (hD.trans (if_pos ha))
theorem decS_ne {n : Int} : (decS n).size ≠ 0 := by
  have : ∀ u : Nat, Lib.decDigits u ≠ [] := fun u => by
    rw [Lib.decDigits]; split <;> simp
  have e : (decS n).size = (Lib.itoa n).length := by simp [decS, ByteArray.size]
  rw [e]
  unfold Lib.itoa
  split
  · simp
  · exact fun h => this _ (List.length_eq_zero_iff.1 h)
theorem rollS_nil {v : DVar} {r : DRoll} : rollS v r = nilB ↔ rollD v r = false := by
  unfold rollS
  cases h : rollD v r with
  | true =>
    refine ⟨fun e => ?_, fun e => by cases e⟩
    exfalso
    rw [if_pos rfl] at e
    have h1 := congrArg ByteArray.size e
    have := decS_ne (n := r.1)
    have k : nilB.size = 0 := rfl
    rw [app_size, k] at h1; omega
  | false => exact ⟨fun _ => rfl, fun _ => rfl⟩
theorem stepsS_size (v : DVar) (ss : List DStep) : (stepsS v ss).size ≤ 500 := by
  unfold stepsS
  split
  · decide
  · next hv =>
    split
    · decide
    · split
      · decide
      · split
        · next h =>
          have := joinS_size (s := spB) (q := 1) (k := 100) (n := ss.length) (xs := ss.map (stepS v)) (Nat.le_refl _) (by simp) (fun x hx => by
            obtain ⟨s, hs, rfl⟩ := List.mem_map.1 hx
            exact stepS_size (by simpa using hv) (List.all_eq_true.1 h s hs))
          omega
        · decide
theorem rollS_size {v : DVar} {r : DRoll} : (rollS v r).size ≤ 42 := by
  unfold rollS
  split
  · next h =>
    have hr := rollD_in h
    have s1 := decS_size (n := r.1) (by simp only [inK]; omega)
    have s2 := decS_size (n := r.2) (by simp only [inK]; omega)
    rw [app_size]; omega
  · decide
def c_impl_TurnText : Con where
  ins := [(true, .v tVar), (true, .v tRoll), (false, .v (.sl tStep))]
  outs := [(false, .v .s)]
  sh := false
  pre := fun _ => True
  out := fun x => (turnS x.1 x.2.1 x.2.2.1, ())
  upd := fun x => x
theorem k_impl_TurnText [B : Base] : ConOk Tryz.prog 6 c_impl_TurnText := by
  refine fn_okW (C := cx Tryz.prog 25 c_impl_TurnText) (cs := [(10, c_impl_StepsText), (18, c_impl_IsRoll), (19, c_impl_RollText)]) (res := Tryz.f6.results.toList) (fun _ => ⟨[], [], []⟩) Tryz.func6 (by kernel_rfl) rfl rfl rfl tysOk.look eqTsOk.look (AllCs.ok (l := [(10, c_impl_StepsText), (18, c_impl_IsRoll), (19, c_impl_RollText)]) ⟨k_impl_StepsText, k_impl_IsRoll, k_impl_RollText, trivial⟩) mixed rfl rfl rfl ?_
  refine of_nf (P := ∀ v : Int × Int × Int × Int, ∀ r : Int × Int, ∀ ss : List (Int × Int × Int × Bool), (True) → ((lensI c_impl_TurnText.ins (v, r, ss, ())) → (True ∧ (True ∧ (bsp (!(rollD v r)) (@Eq (HO c_impl_TurnText.outs) ((ByteArray.mk #[]), ()) (c_impl_TurnText.out (v, r, ss, ()))) (bsp (decide (stepsS v ss = (ByteArray.mk #[]))) (@Eq (HO c_impl_TurnText.outs) ((ByteArray.mk #[]), ()) (c_impl_TurnText.out (v, r, ss, ()))) (True ∧ ((ByteArray.size (rollS v r) + ByteArray.size (ByteArray.mk #[58, 32]) ≤ 9223372036854775807) ∧ ((ByteArray.size (rollS v r ++ (ByteArray.mk #[58, 32])) + ByteArray.size (stepsS v ss) ≤ 9223372036854775807) ∧ (@Eq (HO c_impl_TurnText.outs) (((rollS v r ++ (ByteArray.mk #[58, 32])) ++ stepsS v ss), ()) (c_impl_TurnText.out (v, r, ss, ())))))))))))) (by kernel_rfl) ?_
  rintro v r ss hp hl
  have hD := turnS.eq_1 v r ss
  have out : ∀ x, turnS v r ss = x → @Eq (HO c_impl_TurnText.outs) (x, ()) (c_impl_TurnText.out (v, r, ss, ())) := fun x h => by subst h; rfl
  have h1 := stepsS_size v ss
  have h2 := rollS_size (v := v) (r := r)
  have k2 : (ByteArray.mk #[58, 32]).size = 2 := rfl
  have kn : (ByteArray.mk #[]) = nilB := rfl
  rw [kn]
  simp only [app_size]

  refine ⟨trivial, trivial, bspB (fun h => out _ (hD.trans (if_pos (by simpa using h)))) (fun h => ?_)⟩
  rw [if_neg (by simpa using h)] at hD
  exact bspD (fun e => out _ (hD.trans (if_pos e))) (fun e => ⟨trivial, by omega, by omega, out _ (hD.trans (if_neg e))⟩)
def c_spec_TurnText : Con where
  ins := [(true, .v tVar), (true, .v tRoll), (false, .v (.sl tStep))]
  outs := [(false, .v .s)]
  sh := false
  pre := fun _ => True
  out := fun x => (turnS x.1 x.2.1 x.2.2.1, ())
  upd := fun x => x
theorem k_spec_TurnText [B : Base] : ConOk Tryz.prog 7 c_spec_TurnText := by
  refine fn_okW (C := cx Tryz.prog 25 c_spec_TurnText) (cs := [(20, c_spec_RollText), (21, c_spec_StepsText)]) (res := Tryz.f7.results.toList) (fun _ => ⟨[], [(1, ⟨[[], [], [0, 1], [], [], [0, 1, 2, 3, 4], [0, 1, 2, 3, 4, 5], [0, 1, 2, 3, 4, 5, 6]], [[1, 3, 4], [0, 3, 4], [3, 4], [0, 1, 2, 4], [0, 1, 2, 3], [], [], []], []⟩)], []⟩) Tryz.func7 (by kernel_rfl) rfl rfl rfl tysOk.look eqTsOk.look (AllCs.ok (l := [(20, c_spec_RollText), (21, c_spec_StepsText)]) ⟨k_spec_RollText, k_spec_StepsText, trivial⟩) mixed rfl rfl rfl ?_
  refine of_nf (P := ∀ v : Int × Int × Int × Int, ∀ r : Int × Int, ∀ ss : List (Int × Int × Int × Bool), (True) → ((lensI c_spec_TurnText.ins (v, r, ss, ())) → (True ∧ (True ∧ (bsp (decide (rollS v r = (ByteArray.mk #[]))) (@Eq (HO c_spec_TurnText.outs) ((ByteArray.mk #[]), ()) (c_spec_TurnText.out (v, r, ss, ()))) (bsp (decide (stepsS v ss = (ByteArray.mk #[]))) (@Eq (HO c_spec_TurnText.outs) ((ByteArray.mk #[]), ()) (c_spec_TurnText.out (v, r, ss, ()))) ((ByteArray.size (rollS v r) + ByteArray.size (ByteArray.mk #[58, 32]) ≤ 9223372036854775807) ∧ ((ByteArray.size (rollS v r ++ (ByteArray.mk #[58, 32])) + ByteArray.size (stepsS v ss) ≤ 9223372036854775807) ∧ (@Eq (HO c_spec_TurnText.outs) (((rollS v r ++ (ByteArray.mk #[58, 32])) ++ stepsS v ss), ()) (c_spec_TurnText.out (v, r, ss, ()))))))))))) (by kernel_rfl) ?_
  rintro v r ss hp hl
  have hD := turnS.eq_1 v r ss
  have out : ∀ x, turnS v r ss = x → @Eq (HO c_spec_TurnText.outs) (x, ()) (c_spec_TurnText.out (v, r, ss, ())) := fun x h => by subst h; rfl
  have h1 := stepsS_size v ss
  have h2 := rollS_size (v := v) (r := r)
  have k2 : (ByteArray.mk #[58, 32]).size = 2 := rfl
  have kn : (ByteArray.mk #[]) = nilB := rfl
  rw [kn]
  simp only [app_size]

  refine ⟨trivial, trivial, bspD (fun h => out _ (hD.trans (if_pos (rollS_nil.1 h)))) (fun h => ?_)⟩
  rw [if_neg (fun e => h (rollS_nil.2 e))] at hD
  exact bspD (fun e => out _ (hD.trans (if_pos e))) (fun e => ⟨by omega, by omega, out _ (hD.trans (if_neg e))⟩)
end Go.Proofs.YtmklkigppmgigaaGreatDoor
