/-
  The law FnExactPlayOfText.
-/
import Derived.Test.YtifkmkhapabpkaaGreatDoorVReadQ
import Derived.Test.YtifkmkhapabpkaaGreatDoorVSteps
namespace Go.Proofs.YtifkmkhapabpkaaGreatDoor
open Go.RowKit
set_option linter.unusedSimpArgs false
set_option linter.unusedVariables false
noncomputable section
theorem follow_ok {v : DVar} : ∀ {o : List Int} {ss : List DStep} {b c : DBoard}, okB v b → followD v o ss b = some c → okB v c
  | _, [], _, _, hb, h => by rw [follow_nil] at h; cases h; exact hb
  | [], _ :: _, _, _, _, h => by cases h
  | d :: ds, s :: ss, b, c, hb, h => by
    simp only [followD] at h
    split at h
    · next hs => exact follow_ok (okB_after hb (legalB_fits hb hs.2)) h
    · cases h
theorem playStepsD_len (v : DVar) (b : DBoard) (r : DRoll) (ss : List DStep) : (playStepsD v b r ss).1.1.length ≤ 25 ∧ (playStepsD v b r ss).1.2.length ≤ 25 := by
  unfold playStepsD
  split
  · simp
  · next h =>
    have hb := (codeD_ok (by simpa using h : codeD v b r = 0)).1
    cases hp : playO v b r ss with
    | none => simp
    | some c =>
      have : okB v c := by
        unfold playO at hp
        split at hp
        · cases hp
        · obtain ⟨o, _, ho⟩ := List.exists_of_findSome?_eq_some hp
          exact follow_ok hb ho
      have hF := this.facts
      simp only [Option.getD_some]; omega

def potD (v : DVar) (b : DBoard) (r : DRoll) (s : ByteArray) : DBoard × Int :=
  if codeD v b r ≠ 0 then (([], []), codeD v b r) else if (readSs v s).2 = false then (([], []), 6) else playStepsD v b r (readSs v s).1
theorem potD_len (v : DVar) (b : DBoard) (r : DRoll) (s : ByteArray) : (potD v b r s).1.1.length ≤ 25 ∧ (potD v b r s).1.2.length ≤ 25 := by
  unfold potD
  split
  · exact ⟨Nat.zero_le _, Nat.zero_le _⟩
  · split
    · exact ⟨Nat.zero_le _, Nat.zero_le _⟩
    · exact playStepsD_len _ _ _ _
def c_impl_PlayOfText : Con where
  ins := [(true, .v tVar), (true, .v tBoard), (true, .v tRoll), (false, .v .s)]
  outs := [(true, .pr (.own 2 tI) (.own 2 tI)), (false, .v tI)]
  sh := false
  pre := fun x => (x.2.2.2.1).size ≤ 1048576
  out := fun x => ((potD x.1 x.2.1 x.2.2.1 x.2.2.2.1).1, (potD x.1 x.2.1 x.2.2.1 x.2.2.2.1).2, ())
  upd := fun x => x
theorem k_impl_PlayOfText [B : Base] : ConOk Tryz.prog 9 c_impl_PlayOfText := by
  refine fn_okW (C := cx Tryz.prog 37 c_impl_PlayOfText) (cs := [(18, c_impl_checkRoll), (19, c_impl_ReadSteps), (20, c_impl_PlaySteps)]) (res := Tryz.f9.results.toList) (fun _ => ⟨[], [], []⟩) Tryz.func9 (by kernel_rfl) rfl rfl rfl tysOk.look eqTsOk.look (AllCs.ok (l := [(18, c_impl_checkRoll), (19, c_impl_ReadSteps), (20, c_impl_PlaySteps)]) ⟨k_impl_checkRoll, k_impl_ReadSteps, k_impl_PlaySteps, trivial⟩) mixed rfl rfl rfl ?_
  refine of_nf (P := ∀ v : Int × Int × Int × Int, ∀ b : (List Int) × List Int, ∀ r : Int × Int, ∀ s : ByteArray, ((s).size ≤ 1048576) → ((lensI c_impl_PlayOfText.ins (v, b, r, s, ())) → (True ∧ (bsp (decide ((codeD v b r) ≠ (0 : Int))) (@Eq (HO c_impl_PlayOfText.outs) (([], []), codeD v b r, ()) (c_impl_PlayOfText.out (v, b, r, s, ()))) (((s).size ≤ 1048576) ∧ (bsp (!(readSI v s).2) (@Eq (HO c_impl_PlayOfText.outs) (([], []), 6, ()) (c_impl_PlayOfText.out (v, b, r, s, ()))) (True ∧ (@Eq (HO c_impl_PlayOfText.outs) ((playStepsD v b r (readSI v s).1).1, (playStepsD v b r (readSI v s).1).2, ()) (c_impl_PlayOfText.out (v, b, r, s, ())))))))))) (by kernel_rfl) ?_
  rintro v b r s hs hl
  have hD := potD.eq_1 v b r s
  have out : ∀ x : DBoard × Int, potD v b r s = x → @Eq (HO c_impl_PlayOfText.outs) (x.1, x.2, ()) (c_impl_PlayOfText.out (v, b, r, s, ())) := fun x h => by subst h; rfl
  have hI : varD v = true → readSI v s = readSs v s := fun h => by unfold readSI; rw [if_pos h]
  refine ⟨trivial, bspD (fun h => out (_, _) (hD.trans (if_pos h))) (fun h => ?_)⟩
  rw [if_neg h] at hD
  obtain ⟨-, hr⟩ := codeD_ok (Decidable.not_not.1 h)
  have hv : varD v = true := by simp only [rollD, Bool.and_eq_true] at hr; exact hr.1.1
  rw [hI hv]
  refine ⟨hs, bspB (fun g => out (_, 6) (hD.trans (if_pos (by revert g; cases (readSs v s).2 <;> simp)))) (fun g => ⟨trivial, out (_, _) (hD.trans (if_neg (by revert g; cases (readSs v s).2 <;> simp)))⟩)⟩
def c_spec_PlayOfText : Con where
  ins := [(true, .v tVar), (true, .v tBoard), (true, .v tRoll), (false, .v .s)]
  outs := [(true, .pr (.own 2 tI) (.own 2 tI)), (false, .v tI)]
  sh := false
  pre := fun x => (x.2.2.2.1).size ≤ 1048576
  out := fun x => ((potD x.1 x.2.1 x.2.2.1 x.2.2.2.1).1, (potD x.1 x.2.1 x.2.2.1 x.2.2.2.1).2, ())
  upd := fun x => x
theorem k_spec_PlayOfText [B : Base] : ConOk Tryz.prog 5 c_spec_PlayOfText := by
  refine fn_okW (C := cx Tryz.prog 37 c_spec_PlayOfText) (cs := [(14, c_spec_l05Code), (15, c_spec_l06Steps), (16, c_spec_PlaySteps)]) (res := Tryz.f5.results.toList) (fun _ => ⟨[], [], []⟩) Tryz.func5 (by kernel_rfl) rfl rfl rfl tysOk.look eqTsOk.look (AllCs.ok (l := [(14, c_spec_l05Code), (15, c_spec_l06Steps), (16, c_spec_PlaySteps)]) ⟨k_spec_l05Code, k_spec_l06Steps, k_spec_PlaySteps, trivial⟩) mixed rfl rfl rfl ?_
  refine of_nf (P := ∀ v : Int × Int × Int × Int, ∀ b : (List Int) × List Int, ∀ r : Int × Int, ∀ s : ByteArray, ((s).size ≤ 1048576) → ((lensI c_spec_PlayOfText.ins (v, b, r, s, ())) → (True ∧ (bsp (decide ((codeD v b r) ≠ (0 : Int))) (@Eq (HO c_spec_PlayOfText.outs) (([], []), codeD v b r, ()) (c_spec_PlayOfText.out (v, b, r, s, ()))) ((varD v = true ∧ (s).size ≤ 1048576) ∧ (bsp (!(readSs v s).2) (@Eq (HO c_spec_PlayOfText.outs) (([], []), 6, ()) (c_spec_PlayOfText.out (v, b, r, s, ()))) (True ∧ (@Eq (HO c_spec_PlayOfText.outs) ((playStepsD v b r (readSs v s).1).1, (playStepsD v b r (readSs v s).1).2, ()) (c_spec_PlayOfText.out (v, b, r, s, ())))))))))) (by kernel_rfl) ?_
  rintro v b r s hs hl
  have hD := potD.eq_1 v b r s
  have out : ∀ x : DBoard × Int, potD v b r s = x → @Eq (HO c_spec_PlayOfText.outs) (x.1, x.2, ()) (c_spec_PlayOfText.out (v, b, r, s, ())) := fun x h => by subst h; rfl
  have hI : varD v = true → readSI v s = readSs v s := fun h => by unfold readSI; rw [if_pos h]
  refine ⟨trivial, bspD (fun h => out (_, _) (hD.trans (if_pos h))) (fun h => ?_)⟩
  rw [if_neg h] at hD
  obtain ⟨-, hr⟩ := codeD_ok (Decidable.not_not.1 h)
  have hv : varD v = true := by simp only [rollD, Bool.and_eq_true] at hr; exact hr.1.1
  clear hI
  refine ⟨⟨hv, hs⟩, bspB (fun g => out (_, 6) (hD.trans (if_pos (by revert g; cases (readSs v s).2 <;> simp)))) (fun g => ⟨trivial, out (_, _) (hD.trans (if_neg (by revert g; cases (readSs v s).2 <;> simp)))⟩)⟩
def c_laws_FnExactPlayOfText : Con where
  ins := [(true, .v tVar), (true, .v tBoard), (true, .v tRoll), (false, .v .s)]
  outs := [(false, .v .b)]
  sh := false
  pre := fun x => wfD tVar x.1 ∧ wfD tBoard x.2.1 ∧ wfD tRoll x.2.2.1 ∧ wfD TC.s x.2.2.2.1
  out := fun _ => (true, ())
  upd := fun x => x
theorem k_laws_FnExactPlayOfText [B : Base] : ConOk Tryz.prog 3 c_laws_FnExactPlayOfText := by
  refine fn_okW (C := cx Tryz.prog 120 c_laws_FnExactPlayOfText) (cs := [(4, c_laws_szBoard), (6, c_laws_toVariant), (7, c_laws_toBoard), (8, c_laws_toRoll), (5, c_spec_PlayOfText), (9, c_impl_PlayOfText), (10, c_laws_eqBoard), (11, c_laws_markBoard), (12, c_laws_heldBoard)]) (res := Tryz.f3.results.toList) (fun _ => ⟨[], [(7, ⟨[[], [0], [], [0, 1, 2], [], [0, 1, 2, 3, 4], [], [0, 1, 2, 3, 4, 5, 6], [0, 1, 2, 3, 4, 5, 6, 7], [0, 1, 2, 3, 4, 5, 6, 7, 8], [0, 1, 2, 3, 4, 5, 6, 7, 8], [], [0, 1, 2, 3, 4, 5, 6, 7, 8, 9, 11], [0, 1, 2, 3, 4, 5, 6, 7, 8, 9, 10, 11, 12]], [[2, 4, 6, 11], [2, 4, 6, 11], [0, 1, 4, 6, 11], [4, 6, 11], [0, 1, 2, 3, 6, 11], [6, 11], [0, 1, 2, 3, 4, 5, 11], [11], [11], [10, 11], [9, 11, 12], [0, 1, 2, 3, 4, 5, 6, 7, 8, 9, 10], [10], []], []⟩), (9, ⟨[[], [0], [], [], [0, 1, 3], [], [0, 1, 2, 3, 4, 5], [0, 1, 2, 3, 4, 5, 6], [0, 1, 2, 3, 4, 5, 6, 7], [0, 1, 2, 3, 4, 5, 6, 7], [], [0, 1, 2, 3, 4, 5, 6, 7, 8, 10], [0, 1, 2, 3, 4, 5, 6, 7, 8, 9, 10, 11]], [[2, 3, 5, 10], [2, 3, 5, 10], [0, 1, 3, 4, 5, 10], [0, 1, 2, 5, 10], [2, 5, 10], [0, 1, 2, 3, 4, 10], [10], [10], [9, 10], [8, 10, 11], [0, 1, 2, 3, 4, 5, 6, 7, 8, 9], [9], []], []⟩), (12, ⟨[[], [], [1], [0, 1, 2], [0, 1, 2, 3]], [[1, 2], [0], [0], [], []], []⟩), (26, ⟨[[], [0], [], [0, 1, 2], [], [0, 1, 2, 3, 4], [], [0, 1, 2, 3, 4, 5, 6], [0, 1, 2, 3, 4, 5, 6, 7], [0, 1, 2, 3, 4, 5, 6, 7, 8], [0, 1, 2, 3, 4, 5, 6, 7, 8], [], [0, 1, 2, 3, 4, 5, 6, 7, 8, 9, 11], [0, 1, 2, 3, 4, 5, 6, 7, 8, 9, 10, 11, 12]], [[2, 4, 6, 11], [2, 4, 6, 11], [0, 1, 4, 6, 11], [4, 6, 11], [0, 1, 2, 3, 6, 11], [6, 11], [0, 1, 2, 3, 4, 5, 11], [11], [11], [10, 11], [9, 11, 12], [0, 1, 2, 3, 4, 5, 6, 7, 8, 9, 10], [10], []], []⟩)], []⟩) Tryz.func3 (by kernel_rfl) rfl rfl rfl tysOk.look eqTsOk.look (AllCs.ok (l := [(4, c_laws_szBoard), (6, c_laws_toVariant), (7, c_laws_toBoard), (8, c_laws_toRoll), (5, c_spec_PlayOfText), (9, c_impl_PlayOfText), (10, c_laws_eqBoard), (11, c_laws_markBoard), (12, c_laws_heldBoard)]) ⟨k_laws_szBoard, k_laws_toVariant, k_laws_toBoard, k_laws_toRoll, k_spec_PlayOfText, k_impl_PlayOfText, k_laws_eqBoard, k_laws_markBoard, k_laws_heldBoard, trivial⟩) mixed rfl rfl rfl ?_
  refine of_nf (P := ∀ v : Int × Int × Int × Int, ∀ b : (List Int) × List Int, ∀ r : Int × Int, ∀ s : ByteArray, (wfD tVar v ∧ wfD tBoard b ∧ wfD tRoll r ∧ wfD TC.s s) → ((lensI c_laws_FnExactPlayOfText.ins (v, b, r, s, ())) → (bsp (decide ((1048576 : Int) < (ByteArray.size s : Int))) (@Eq (HO c_laws_FnExactPlayOfText.outs) (true, ()) (c_laws_FnExactPlayOfText.out (v, b, r, s, ()))) ((-1 ≤ (1048576 : Int) ∧ (1048576 : Int) ≤ 1048576) ∧ (bsp (decide ((szD (List.length b.1 + List.length b.2) (1048576 : Int)) < (0 : Int))) (@Eq (HO c_laws_FnExactPlayOfText.outs) (true, ()) (c_laws_FnExactPlayOfText.out (v, b, r, s, ()))) (True ∧ ((List.length b.1 ≤ 1099511627776 ∧ List.length b.2 ≤ 1099511627776) ∧ (True ∧ (((s).size ≤ 1048576) ∧ ((List.length b.1 ≤ 1099511627776 ∧ List.length b.2 ≤ 1099511627776) ∧ (True ∧ (True ∧ (((s).size ≤ 1048576) ∧ (True ∧ (bsp (!(decide ((potD v b r s).1 = (potD v b r s).1))) (@Eq (HO c_laws_FnExactPlayOfText.outs) (false, ()) (c_laws_FnExactPlayOfText.out (v, b, r, s, ()))) (bsp (decide ((potD v b r s).2 ≠ (potD v b r s).2)) (@Eq (HO c_laws_FnExactPlayOfText.outs) (false, ()) (c_laws_FnExactPlayOfText.out (v, b, r, s, ()))) ((List.length b.1 ≤ 1099511627776 ∧ List.length b.2 ≤ 1099511627776) ∧ (True ∧ (bsp (!(decide (b = b))) (@Eq (HO c_laws_FnExactPlayOfText.outs) (false, ()) (c_laws_FnExactPlayOfText.out (v, b, r, s, ()))) ((0 ≤ (1 : Int) ∧ (1 : Int) + (List.length b.1 : Int) ≤ 1099511627776 ∧ List.length b.2 ≤ 1099511627776) ∧ (bsp (decide (((1 : Int) + (List.length b.1 : Int) + (List.length b.2 : Int)) < (0 : Int))) (@Eq (HO c_laws_FnExactPlayOfText.outs) (false, ()) (c_laws_FnExactPlayOfText.out (v, b, r, s, ()))) (True ∧ (bsp (!(decide ((potD v b r s).1 = (potD v b r s).1))) (@Eq (HO c_laws_FnExactPlayOfText.outs) (false, ()) (c_laws_FnExactPlayOfText.out (v, b, r, s, ()))) (bsp (decide ((potD v b r s).2 ≠ (potD v b r s).2)) (@Eq (HO c_laws_FnExactPlayOfText.outs) (false, ()) (c_laws_FnExactPlayOfText.out (v, b, r, s, ()))) ((0 ≤ (1 : Int) ∧ (1 : Int) + (List.length (potD v b r s).1.1 : Int) ≤ 1099511627776 ∧ List.length (potD v b r s).1.2 ≤ 1099511627776) ∧ ((((markL (1 : Int) (List.length (potD v b r s).1.1), markL ((1 : Int) + (List.length (potD v b r s).1.1 : Int)) (List.length (potD v b r s).1.2)).1 = markL (1 : Int) (List.length (markL (1 : Int) (List.length (potD v b r s).1.1), markL ((1 : Int) + (List.length (potD v b r s).1.1 : Int)) (List.length (potD v b r s).1.2)).1) ∧ (markL (1 : Int) (List.length (potD v b r s).1.1), markL ((1 : Int) + (List.length (potD v b r s).1.1 : Int)) (List.length (potD v b r s).1.2)).2 = markL ((1 : Int) + (List.length (markL (1 : Int) (List.length (potD v b r s).1.1), markL ((1 : Int) + (List.length (potD v b r s).1.1 : Int)) (List.length (potD v b r s).1.2)).1 : Int)) (List.length (markL (1 : Int) (List.length (potD v b r s).1.1), markL ((1 : Int) + (List.length (potD v b r s).1.1 : Int)) (List.length (potD v b r s).1.2)).2)) ∧ 0 ≤ (1 : Int) ∧ (1 : Int) + (List.length (markL (1 : Int) (List.length (potD v b r s).1.1), markL ((1 : Int) + (List.length (potD v b r s).1.1 : Int)) (List.length (potD v b r s).1.2)).1 : Int) ≤ 1099511627776 ∧ List.length (markL (1 : Int) (List.length (potD v b r s).1.1), markL ((1 : Int) + (List.length (potD v b r s).1.1 : Int)) (List.length (potD v b r s).1.2)).2 ≤ 1099511627776) ∧ (bsp (decide (((1 : Int) + (List.length (markL (1 : Int) (List.length (potD v b r s).1.1), markL ((1 : Int) + (List.length (potD v b r s).1.1 : Int)) (List.length (potD v b r s).1.2)).1 : Int) + (List.length (markL (1 : Int) (List.length (potD v b r s).1.1), markL ((1 : Int) + (List.length (potD v b r s).1.1 : Int)) (List.length (potD v b r s).1.2)).2 : Int)) < (0 : Int))) (@Eq (HO c_laws_FnExactPlayOfText.outs) (false, ()) (c_laws_FnExactPlayOfText.out (v, b, r, s, ()))) (bsp (decide (((1 : Int) + (List.length (markL (1 : Int) (List.length (potD v b r s).1.1), markL ((1 : Int) + (List.length (potD v b r s).1.1 : Int)) (List.length (potD v b r s).1.2)).1 : Int) + (List.length (markL (1 : Int) (List.length (potD v b r s).1.1), markL ((1 : Int) + (List.length (potD v b r s).1.1 : Int)) (List.length (potD v b r s).1.2)).2 : Int)) ≠ ((1 : Int) + (List.length (potD v b r s).1.1 : Int) + (List.length (potD v b r s).1.2 : Int)))) (@Eq (HO c_laws_FnExactPlayOfText.outs) (false, ()) (c_laws_FnExactPlayOfText.out (v, b, r, s, ()))) (True ∧ ((List.length b.1 ≤ 1099511627776 ∧ List.length b.2 ≤ 1099511627776) ∧ (True ∧ (((s).size ≤ 1048576) ∧ (True ∧ (bsp (!(decide ((potD v b r s).1 = (potD v b r s).1))) (@Eq (HO c_laws_FnExactPlayOfText.outs) (false, ()) (c_laws_FnExactPlayOfText.out (v, b, r, s, ()))) (bsp (decide ((potD v b r s).2 ≠ (potD v b r s).2)) (@Eq (HO c_laws_FnExactPlayOfText.outs) (false, ()) (c_laws_FnExactPlayOfText.out (v, b, r, s, ()))) ((((markL (1 : Int) (List.length (potD v b r s).1.1), markL ((1 : Int) + (List.length (potD v b r s).1.1 : Int)) (List.length (potD v b r s).1.2)).1 = markL (1 : Int) (List.length (markL (1 : Int) (List.length (potD v b r s).1.1), markL ((1 : Int) + (List.length (potD v b r s).1.1 : Int)) (List.length (potD v b r s).1.2)).1) ∧ (markL (1 : Int) (List.length (potD v b r s).1.1), markL ((1 : Int) + (List.length (potD v b r s).1.1 : Int)) (List.length (potD v b r s).1.2)).2 = markL ((1 : Int) + (List.length (markL (1 : Int) (List.length (potD v b r s).1.1), markL ((1 : Int) + (List.length (potD v b r s).1.1 : Int)) (List.length (potD v b r s).1.2)).1 : Int)) (List.length (markL (1 : Int) (List.length (potD v b r s).1.1), markL ((1 : Int) + (List.length (potD v b r s).1.1 : Int)) (List.length (potD v b r s).1.2)).2)) ∧ 0 ≤ (1 : Int) ∧ (1 : Int) + (List.length (markL (1 : Int) (List.length (potD v b r s).1.1), markL ((1 : Int) + (List.length (potD v b r s).1.1 : Int)) (List.length (potD v b r s).1.2)).1 : Int) ≤ 1099511627776 ∧ List.length (markL (1 : Int) (List.length (potD v b r s).1.1), markL ((1 : Int) + (List.length (potD v b r s).1.1 : Int)) (List.length (potD v b r s).1.2)).2 ≤ 1099511627776) ∧ (bsp (decide (((1 : Int) + (List.length (markL (1 : Int) (List.length (potD v b r s).1.1), markL ((1 : Int) + (List.length (potD v b r s).1.1 : Int)) (List.length (potD v b r s).1.2)).1 : Int) + (List.length (markL (1 : Int) (List.length (potD v b r s).1.1), markL ((1 : Int) + (List.length (potD v b r s).1.1 : Int)) (List.length (potD v b r s).1.2)).2 : Int)) < (0 : Int))) (@Eq (HO c_laws_FnExactPlayOfText.outs) (false, ()) (c_laws_FnExactPlayOfText.out (v, b, r, s, ()))) (bsp (decide (((1 : Int) + (List.length (markL (1 : Int) (List.length (potD v b r s).1.1), markL ((1 : Int) + (List.length (potD v b r s).1.1 : Int)) (List.length (potD v b r s).1.2)).1 : Int) + (List.length (markL (1 : Int) (List.length (potD v b r s).1.1), markL ((1 : Int) + (List.length (potD v b r s).1.1 : Int)) (List.length (potD v b r s).1.2)).2 : Int)) ≠ ((1 : Int) + (List.length (potD v b r s).1.1 : Int) + (List.length (potD v b r s).1.2 : Int)))) (@Eq (HO c_laws_FnExactPlayOfText.outs) (false, ()) (c_laws_FnExactPlayOfText.out (v, b, r, s, ()))) (@Eq (HO c_laws_FnExactPlayOfText.outs) (true, ()) (c_laws_FnExactPlayOfText.out (v, b, r, s, ()))))))))))))))))))))))))))))))))))))))))) (by kernel_rfl) ?_
  rintro v b r s hw hl
  refine bspD (fun _ => rfl) (fun hs0 => ?_)
  have hsz : s.size ≤ 1048576 := by omega
  have hb := szD_bd (m := b.1.length + b.2.length) (l := 1048576) (by omega)
  refine ⟨by omega, bspD (fun _ => rfl) (fun hs => ?_)⟩
  have hle := szD_ge hs
  have hX : (potD v b r s).1.1.length ≤ 25 ∧ (potD v b r s).1.2.length ≤ 25 := potD_len v b r s
  revert hX
  generalize potD v b r s = X
  intro hX
  clear hl hw hs hs0

  repeat' first
    | exact rfl
    | refine ⟨trivial, ?_⟩
    | refine bspB (fun h => absurd h (by first | simp; done | (simp [markL_length]; done) | (simp [markL_length]; omega))) (fun _ => ?_)
    | refine ⟨(by first | omega | (simp [markL_length]; done) | (simp [markL_length]; omega)), ?_⟩
    | fail
end
end Go.Proofs.YtifkmkhapabpkaaGreatDoor
