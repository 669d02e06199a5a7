/-
  The law FnSelfPlay.
-/
import Derived.Test.YthpoihibbahblaaVDrawS
import Derived.Test.YthpoihibbahblaaAbL
namespace Go.Proofs.Ythpoihibbahblaa
open Go.RowKit
set_option linter.unusedSimpArgs false
set_option linter.unusedVariables false
theorem turnD_p2 (v : DVar) (g : DGame) (b : DBoard) : (turnD v g b).2.2.2.1 ≠ 2 := by
  unfold turnD; split
  · show (3 : Int) ≠ 2; decide
  · show (1 : Int) ≠ 2; decide
theorem turnIt_game {v : DVar} : ∀ (n : Nat) (p : DGame × Int), gameD v p.1 = true → p.1.2.2.2.1 ≠ 0 → (1 ≤ p.2 ∧ p.2 ≤ 2147483646) → p.1.2.2.2.2.2.2 + n ≤ 2000 → (turnIt v n p).2 = true →
    gameD v (turnIt v n p).1.1 = true ∧ (turnIt v n p).1.1.2.2.2.1 ≠ 0 ∧ ((p.1.2.2.2.1 ≠ 2 ∨ 0 < n) → (turnIt v n p).1.1.2.2.2.1 ≠ 2) ∧ (turnIt v n p).1.1.2.2.2.2.2.2 ≤ p.1.2.2.2.2.2.2 + n ∧ 1 ≤ (turnIt v n p).1.2 ∧ (turnIt v n p).1.2 ≤ 2147483646
  | 0, p, hg, h0, hz, _, _ => ⟨hg, h0, fun h => h.resolve_right (by omega), by simp only [turnIt]; omega, hz⟩
  | n + 1, p, hg, h0, hz, ht, hf => by
    by_cases h3 : p.1.2.2.2.1 = 3
    · rw [turnIt_stop _ (.inr h3)]
      exact ⟨hg, h0, fun _ => by show p.1.2.2.2.1 ≠ 2; rw [h3]; decide, by show p.1.2.2.2.2.2.2 ≤ _; omega, hz⟩
    · cases hfit : fitsA v (rolled v p).1 with
      | false => rw [turnIt_fail h3 hfit] at hf; cases hf
      | true =>
        rw [turnIt_step h3 hfit] at hf ⊢
        have hr := rolled_ok hg hz h0 h3
        have hgt := turn_game hg hz h0 h3 (by omega)
        have hph := turnD_ph v (rolled v p).1 ((allD v (rolled v p).1.1 (rolled v p).1.2.2.1).getD 0 ([], ([], []))).2
        have hp2 := turnD_p2 v (rolled v p).1 ((allD v (rolled v p).1.1 (rolled v p).1.2.2.1).getD 0 ([], ([], []))).2
        have htu : (rolled v p).1.2.2.2.2.2.2 = p.1.2.2.2.2.2.2 := by rw [hr.2.2.2.2.1]
        rw [htu] at hph
        have hrz := hr.2.2.2.2.2.2.1
        clear htu hr
        generalize turnD v (rolled v p).1 ((allD v (rolled v p).1.1 (rolled v p).1.2.2.1).getD 0 ([], ([], []))).2 = T at *
        generalize (rolled v p).2 = z at *
        have h1 : T.2.2.2.2.2.2 + (n : Int) ≤ 2000 := by omega
        obtain ⟨i1, i2, i3, i4, i5⟩ := turnIt_game n (T, z) hgt hph.1 hrz h1 hf
        refine ⟨i1, i2, fun _ => i3 (.inl hp2), ?_, i5⟩
        have i4' : (turnIt v n (T, z)).1.1.2.2.2.2.2.2 ≤ T.2.2.2.2.2.2 + n := i4
        omega
theorem turnIt_add {v : DVar} : ∀ (n : Nat) (p : DGame × Int), (turnIt v n p).2 = true → turnIt v (n + 1) p = turnIt v 1 (turnIt v n p).1
  | 0, p, _ => rfl
  | n + 1, p, hf => by
    by_cases h3 : p.1.2.2.2.1 = 3
    · rw [turnIt_stop _ (.inr h3), turnIt_stop _ (.inr h3), turnIt_stop _ (.inr h3)]
    · cases hfit : fitsA v (rolled v p).1 with
      | false => rw [turnIt_fail h3 hfit] at hf; cases hf
      | true =>
        rw [turnIt_step h3 hfit] at hf
        rw [turnIt_step h3 hfit, turnIt_step h3 hfit]
        exact turnIt_add n _ hf
theorem self_zero {v : DVar} {y n : Int} (h : (selfD v y n).2.2 = 0) : bigD v = true ∧ (1 ≤ y ∧ y ≤ 2147483646) ∧ (0 ≤ n ∧ n ≤ 2000) ∧ v.2.2.2 ≠ 1 ∧ (opened v y).1.2.2.2.1 ≠ 0 ∧ (turnIt v n.toNat (opened v y)).2 = true ∧ selfD v y n = ((turnIt v n.toNat (opened v y)).1.1, (turnIt v n.toNat (opened v y)).1.2, 0) := by
  by_cases h1 : varD v = false
  · unfold selfD at h; rw [if_pos h1] at h; exact absurd (show (1 : Int) = 0 from h) (by decide)
  by_cases h2 : bigD v = false
  · unfold selfD at h; rw [if_neg h1, if_pos h2] at h; exact absurd (show (2 : Int) = 0 from h) (by decide)
  by_cases h3 : inB y 1 2147483646 = false ∨ inB n 0 2000 = false
  · unfold selfD at h; rw [if_neg h1, if_neg h2, if_pos h3] at h; exact absurd (show (2 : Int) = 0 from h) (by decide)
  by_cases h4 : v.2.2.2 = 1
  · unfold selfD at h; rw [if_neg h1, if_neg h2, if_neg h3, if_pos h4] at h; exact absurd (show (5 : Int) = 0 from h) (by decide)
  by_cases h5 : (opened v y).1.2.2.2.1 = 0
  · unfold selfD at h; rw [if_neg h1, if_neg h2, if_neg h3, if_neg h4, if_pos h5] at h; exact absurd (show (3 : Int) = 0 from h) (by decide)
  by_cases h6 : (turnIt v n.toNat (opened v y)).2 = true
  · refine ⟨by simpa using h2, ?_, ?_, h4, h5, h6, ?_⟩
    · have : inB y 1 2147483646 = true := by simpa using fun e => h3 (.inl e)
      simpa only [inB, Bool.and_eq_true, decide_eq_true_eq] using this
    · have : inB n 0 2000 = true := by simpa using fun e => h3 (.inr e)
      simpa only [inB, Bool.and_eq_true, decide_eq_true_eq] using this
    · unfold selfD; rw [if_neg h1, if_neg h2, if_neg h3, if_neg h4, if_neg h5, if_pos h6]
  · unfold selfD at h; rw [if_neg h1, if_neg h2, if_neg h3, if_neg h4, if_neg h5, if_neg h6] at h; exact absurd (show (3 : Int) = 0 from h) (by decide)
theorem self_succ {v : DVar} {y n : Int} (h : (selfD v y n).2.2 = 0) (hn : n ≤ 1999) : (selfD v y (n + 1)).2.2 = 0 ∨ (selfD v y (n + 1)).2.2 = 3 := by
  obtain ⟨h1, h2, h3, h4, h5, h6, -⟩ := self_zero h
  have hv : varD v = true := by simp only [bigD, Bool.and_eq_true] at h1; exact h1.1
  have e1 : inB y 1 2147483646 = true := by simp only [inB, Bool.and_eq_true, decide_eq_true_eq]; exact h2
  have e2 : inB (n + 1) 0 2000 = true := by simp only [inB, Bool.and_eq_true, decide_eq_true_eq]; omega
  unfold selfD
  rw [if_neg (by rw [hv]; decide), if_neg (by rw [h1]; decide), if_neg (by rw [e1, e2]; decide), if_neg h4, if_neg h5]
  split
  · exact .inl rfl
  · exact .inr rfl
theorem self_next {v : DVar} {y n : Int} (h : (selfD v y n).2.2 = 0) (hn : 1 ≤ n ∧ n ≤ 1999) (h' : (selfD v y (n + 1)).2.2 = 0) :
    ((selfD v y n).1.2.2.2.1 = 3 → (selfD v y (n + 1)).1 = (selfD v y n).1 ∧ (selfD v y (n + 1)).2.1 = (selfD v y n).2.1) ∧
    ((selfD v y n).1.2.2.2.1 ≠ 3 → (varD v = true ∧ inB (selfD v y n).2.1 1 2147483646 = true) ∧ (rollDiceD v (selfD v y n).1 (rollF v (selfD v y n).2.1)).2 = 0 ∧
      allPlaysD v (rollDiceD v (selfD v y n).1 (rollF v (selfD v y n).2.1)).1.1 (rollF v (selfD v y n).2.1) = (allD v (selfD v y n).1.1 (rollF v (selfD v y n).2.1), 0) ∧
      playTurnD v (rollDiceD v (selfD v y n).1 (rollF v (selfD v y n).2.1)).1 ((allD v (selfD v y n).1.1 (rollF v (selfD v y n).2.1)).getD 0 ([], ([], []))).1 = ((selfD v y (n + 1)).1, 0) ∧
      seedN (seedN (selfD v y n).2.1) = (selfD v y (n + 1)).2.1) := by
  obtain ⟨a1, a2, a3, a4, a5, a6, a7⟩ := self_zero h
  obtain ⟨b1, b2, b3, b4, b5, b6, b7⟩ := self_zero h'
  have hv : varD v = true := by simp only [bigD, Bool.and_eq_true] at a1; exact a1.1
  obtain ⟨o1, o2, o3, o4⟩ := opened_ok a1 a2
  have en : (n + 1).toNat = n.toNat + 1 := by omega
  rw [en, turnIt_add _ _ a6] at b6 b7
  obtain ⟨t1, t2, t3, t4, t5⟩ := turnIt_game n.toNat (opened v y) o1 a5 o4 (by omega) a6
  have t3 := t3 (.inr (by omega))
  rw [a7, b7]
  generalize (turnIt v n.toNat (opened v y)).1 = q at *
  refine ⟨fun h3 => ?_, fun h3 => ?_⟩
  · rw [turnIt_stop 1 (.inr h3)]; exact ⟨rfl, rfl⟩
  have hr := rolled_ok t1 t5 t2 h3
  have hp1 : q.1.2.2.2.1 = 1 := hr.1.resolve_right t3
  have eR : rolled v q = ((q.1.1, q.1.2.1, rollF v q.2, q.1.2.2.2), seedN (seedN q.2)) := if_pos hp1
  have hro : rollD v (rollF v q.2) = true := rollF_ok hv (by omega)
  have hgr := game_rolled t1 hp1 hro
  cases hfit : fitsA v (rolled v q).1 with
  | false => rw [turnIt_fail h3 hfit] at b6; cases b6
  | true =>
    rw [turnIt_step h3 hfit]
    rw [eR] at hfit hr ⊢
    have hin : inB q.2 1 2147483646 = true := by simp only [inB, Bool.and_eq_true, decide_eq_true_eq]; exact t5
    have hip : inPlay v q.1.1 := hr.2.1
    have hc : codeD v q.1.1 (rollF v q.2) = 0 := by unfold codeD; rw [if_neg (by rw [hip.1]; decide), if_neg (by rw [hro]; decide)]
    refine ⟨⟨hv, hin⟩, by rw [hgr.1], ?_, ?_, rfl⟩
    · rw [hgr.1]
      unfold allPlaysD
      rw [if_neg (by rw [hc]; decide), if_pos (show ((ordersD (rollF v q.2)).all (fitsP v q.1.1)) = true from hfit)]
    · have hpl := play_first hip hro
      have hgv := hgr.2
      rw [hgr.1] at hgv ⊢
      unfold playTurnD
      rw [if_neg (by rw [hgv]; decide), if_neg (show ¬ (2 : Int) ≠ 2 from fun x => x rfl)]
      show (if playO v q.1.1 (rollF v q.2) _ = none then _ else if q.1.2.2.2.2.2.2 = 2000 then _ else (turnD v _ ((playO v q.1.1 (rollF v q.2) _).getD ([], [])), 0)) = _
      rw [hpl, if_neg (by simp), if_neg (by omega)]
      rfl
def c_laws_FnSelfPlay : Con where
  ins := [(false, .v (.sl (.i .u8)))]
  outs := [(false, .v .b)]
  sh := false
  pre := fun x => wfD (TC.sl (.i .u8)) x.1
  out := fun _ => (true, ())
  upd := fun x => x
theorem k_laws_FnSelfPlay : ConOk Try.prog 3 c_laws_FnSelfPlay := by
  refine fn_okW (C := cx Try.prog 155 c_laws_FnSelfPlay) (cs := [(4, c_laws_big), (5, c_spec_DrawSelfPlay), (6, c_impl_SelfPlay), (7, c_spec_SelfPlay), (8, c_laws_w9Games), (9, c_impl_RollFrom), (10, c_impl_RollDice), (11, c_impl_AllPlays), (12, c_impl_PlayTurn)]) (res := Try.f3.results.toList) (fun _ => ⟨[], [(20, ⟨[[], [], [], [2], [2, 3], [2, 3, 4], [0, 1, 2, 3, 4, 5], [0, 1, 2, 3, 4, 5, 6], [0, 1, 2, 3, 4, 5, 6, 7], [0, 1, 2, 3, 4, 5, 6, 7], [], [0, 1, 2, 3, 4, 5, 6, 7, 8, 10], [0, 1, 2, 3, 4, 5, 6, 7, 8, 9, 10, 11]], [[1, 2, 3, 4, 5, 10], [0, 2, 3, 4, 5, 10], [0, 1, 10], [0, 1, 10], [0, 1, 10], [0, 1, 10], [10], [10], [9, 10], [8, 10, 11], [0, 1, 2, 3, 4, 5, 6, 7, 8, 9], [9], []], [[], [], [], [], [], [], [], [], [], [], [1489, 1490], [], []]⟩)], []⟩) Try.func3 (by kernel_rfl) rfl rfl rfl tysOk.look eqTsOk.look (AllCs.ok (l := [(4, c_laws_big), (5, c_spec_DrawSelfPlay), (6, c_impl_SelfPlay), (7, c_spec_SelfPlay), (8, c_laws_w9Games), (9, c_impl_RollFrom), (10, c_impl_RollDice), (11, c_impl_AllPlays), (12, c_impl_PlayTurn)]) ⟨k_laws_big, k_spec_DrawSelfPlay, k_impl_SelfPlay, k_spec_SelfPlay, k_laws_w9Games, k_impl_RollFrom, k_impl_RollDice, k_impl_AllPlays, k_impl_PlayTurn, trivial⟩) mixed rfl rfl rfl ?_
  refine of_nf (P := ∀ c : List Int, (wfD (TC.sl (.i .u8)) c) → ((lensI c_laws_FnSelfPlay.ins (c, ())) → (True ∧ (bsp (decide (4096 < (List.length c : Int))) (@Eq (HO c_laws_FnSelfPlay.outs) (true, ()) (c_laws_FnSelfPlay.out (c, ()))) ((okC c) ∧ (True ∧ (True ∧ (bsp (decide ((selfD (drawSP c).1 (drawSP c).2.1 (drawSP c).2.2).2.2 ≠ (selfD (drawSP c).1 (drawSP c).2.1 (drawSP c).2.2).2.2)) (@Eq (HO c_laws_FnSelfPlay.outs) (false, ()) (c_laws_FnSelfPlay.out (c, ()))) (bsp (decide ((selfD (drawSP c).1 (drawSP c).2.1 (drawSP c).2.2).2.1 ≠ (selfD (drawSP c).1 (drawSP c).2.1 (drawSP c).2.2).2.1)) (@Eq (HO c_laws_FnSelfPlay.outs) (false, ()) (c_laws_FnSelfPlay.out (c, ()))) (True ∧ (bsp (!(decide ((selfD (drawSP c).1 (drawSP c).2.1 (drawSP c).2.2).1 = (selfD (drawSP c).1 (drawSP c).2.1 (drawSP c).2.2).1))) (@Eq (HO c_laws_FnSelfPlay.outs) (false, ()) (c_laws_FnSelfPlay.out (c, ()))) (bsp (decide ((selfD (drawSP c).1 (drawSP c).2.1 (drawSP c).2.2).2.2 ≠ (0 : Int))) (@Eq (HO c_laws_FnSelfPlay.outs) (true, ()) (c_laws_FnSelfPlay.out (c, ()))) (bsp (decide ((drawSP c).2.2 = (2000 : Int))) (@Eq (HO c_laws_FnSelfPlay.outs) (true, ()) (c_laws_FnSelfPlay.out (c, ()))) (bsp (decide ((drawSP c).2.2 = (0 : Int))) (@Eq (HO c_laws_FnSelfPlay.outs) (true, ()) (c_laws_FnSelfPlay.out (c, ()))) ((inK .i64 ((drawSP c).2.2 + 1)) ∧ (True ∧ (bsp (decide ((selfD (drawSP c).1 (drawSP c).2.1 ((drawSP c).2.2 + 1)).2.2 ≠ (0 : Int))) (@Eq (HO c_laws_FnSelfPlay.outs) ((decide ((selfD (drawSP c).1 (drawSP c).2.1 ((drawSP c).2.2 + 1)).2.2 = (3 : Int))), ()) (c_laws_FnSelfPlay.out (c, ()))) (bsp (decide ((selfD (drawSP c).1 (drawSP c).2.1 (drawSP c).2.2).1.2.2.2.1 = (3 : Int))) (True ∧ (bsp (decide ((selfD (drawSP c).1 (drawSP c).2.1 (drawSP c).2.2).1 = (selfD (drawSP c).1 (drawSP c).2.1 ((drawSP c).2.2 + 1)).1)) (@Eq (HO c_laws_FnSelfPlay.outs) ((decide ((selfD (drawSP c).1 (drawSP c).2.1 ((drawSP c).2.2 + 1)).2.1 = (selfD (drawSP c).1 (drawSP c).2.1 (drawSP c).2.2).2.1)), ()) (c_laws_FnSelfPlay.out (c, ()))) (@Eq (HO c_laws_FnSelfPlay.outs) (false, ()) (c_laws_FnSelfPlay.out (c, ()))))) (True ∧ (True ∧ (True ∧ (bsp (!(varD (drawSP c).1 && inB (selfD (drawSP c).1 (drawSP c).2.1 (drawSP c).2.2).2.1 1 2147483646)) (@Eq (HO c_laws_FnSelfPlay.outs) (false, ()) (c_laws_FnSelfPlay.out (c, ()))) (bsp (decide ((rollDiceD (drawSP c).1 (selfD (drawSP c).1 (drawSP c).2.1 (drawSP c).2.2).1 (if varD (drawSP c).1 = true ∧ inB (selfD (drawSP c).1 (drawSP c).2.1 (drawSP c).2.2).2.1 1 2147483646 = true then rollF (drawSP c).1 (selfD (drawSP c).1 (drawSP c).2.1 (drawSP c).2.2).2.1 else (0, 0))).2 ≠ (0 : Int))) (@Eq (HO c_laws_FnSelfPlay.outs) (false, ()) (c_laws_FnSelfPlay.out (c, ()))) (bsp (decide ((allPlaysD (drawSP c).1 (rollDiceD (drawSP c).1 (selfD (drawSP c).1 (drawSP c).2.1 (drawSP c).2.2).1 (if varD (drawSP c).1 = true ∧ inB (selfD (drawSP c).1 (drawSP c).2.1 (drawSP c).2.2).2.1 1 2147483646 = true then rollF (drawSP c).1 (selfD (drawSP c).1 (drawSP c).2.1 (drawSP c).2.2).2.1 else (0, 0))).1.1 (if varD (drawSP c).1 = true ∧ inB (selfD (drawSP c).1 (drawSP c).2.1 (drawSP c).2.2).2.1 1 2147483646 = true then rollF (drawSP c).1 (selfD (drawSP c).1 (drawSP c).2.1 (drawSP c).2.2).2.1 else (0, 0))).2 ≠ (0 : Int))) (@Eq (HO c_laws_FnSelfPlay.outs) (false, ()) (c_laws_FnSelfPlay.out (c, ()))) (bsp (decide (((allPlaysD (drawSP c).1 (rollDiceD (drawSP c).1 (selfD (drawSP c).1 (drawSP c).2.1 (drawSP c).2.2).1 (if varD (drawSP c).1 = true ∧ inB (selfD (drawSP c).1 (drawSP c).2.1 (drawSP c).2.2).2.1 1 2147483646 = true then rollF (drawSP c).1 (selfD (drawSP c).1 (drawSP c).2.1 (drawSP c).2.2).2.1 else (0, 0))).1.1 (if varD (drawSP c).1 = true ∧ inB (selfD (drawSP c).1 (drawSP c).2.1 (drawSP c).2.2).2.1 1 2147483646 = true then rollF (drawSP c).1 (selfD (drawSP c).1 (drawSP c).2.1 (drawSP c).2.2).2.1 else (0, 0))).1.length : Int) = (0 : Int))) (@Eq (HO c_laws_FnSelfPlay.outs) (false, ()) (c_laws_FnSelfPlay.out (c, ()))) ((0 ≤ (0 : Int) ∧ 0 < ((allPlaysD (drawSP c).1 (rollDiceD (drawSP c).1 (selfD (drawSP c).1 (drawSP c).2.1 (drawSP c).2.2).1 (if varD (drawSP c).1 = true ∧ inB (selfD (drawSP c).1 (drawSP c).2.1 (drawSP c).2.2).2.1 1 2147483646 = true then rollF (drawSP c).1 (selfD (drawSP c).1 (drawSP c).2.1 (drawSP c).2.2).2.1 else (0, 0))).1.1 (if varD (drawSP c).1 = true ∧ inB (selfD (drawSP c).1 (drawSP c).2.1 (drawSP c).2.2).2.1 1 2147483646 = true then rollF (drawSP c).1 (selfD (drawSP c).1 (drawSP c).2.1 (drawSP c).2.2).2.1 else (0, 0))).1.length : Int)) ∧ ((0 < (allPlaysD (drawSP c).1 (rollDiceD (drawSP c).1 (selfD (drawSP c).1 (drawSP c).2.1 (drawSP c).2.2).1 (if varD (drawSP c).1 = true ∧ inB (selfD (drawSP c).1 (drawSP c).2.1 (drawSP c).2.2).2.1 1 2147483646 = true then rollF (drawSP c).1 (selfD (drawSP c).1 (drawSP c).2.1 (drawSP c).2.2).2.1 else (0, 0))).1.1 (if varD (drawSP c).1 = true ∧ inB (selfD (drawSP c).1 (drawSP c).2.1 (drawSP c).2.2).2.1 1 2147483646 = true then rollF (drawSP c).1 (selfD (drawSP c).1 (drawSP c).2.1 (drawSP c).2.2).2.1 else (0, 0))).1.length) ∧ (True ∧ (bsp (decide ((playTurnD (drawSP c).1 (rollDiceD (drawSP c).1 (selfD (drawSP c).1 (drawSP c).2.1 (drawSP c).2.2).1 (if varD (drawSP c).1 = true ∧ inB (selfD (drawSP c).1 (drawSP c).2.1 (drawSP c).2.2).2.1 1 2147483646 = true then rollF (drawSP c).1 (selfD (drawSP c).1 (drawSP c).2.1 (drawSP c).2.2).2.1 else (0, 0))).1 ((allPlaysD (drawSP c).1 (rollDiceD (drawSP c).1 (selfD (drawSP c).1 (drawSP c).2.1 (drawSP c).2.2).1 (if varD (drawSP c).1 = true ∧ inB (selfD (drawSP c).1 (drawSP c).2.1 (drawSP c).2.2).2.1 1 2147483646 = true then rollF (drawSP c).1 (selfD (drawSP c).1 (drawSP c).2.1 (drawSP c).2.2).2.1 else (0, 0))).1.1 (if varD (drawSP c).1 = true ∧ inB (selfD (drawSP c).1 (drawSP c).2.1 (drawSP c).2.2).2.1 1 2147483646 = true then rollF (drawSP c).1 (selfD (drawSP c).1 (drawSP c).2.1 (drawSP c).2.2).2.1 else (0, 0))).1.getD 0 ([], [], [])).1).2 = (0 : Int))) (True ∧ (bsp (decide ((playTurnD (drawSP c).1 (rollDiceD (drawSP c).1 (selfD (drawSP c).1 (drawSP c).2.1 (drawSP c).2.2).1 (if varD (drawSP c).1 = true ∧ inB (selfD (drawSP c).1 (drawSP c).2.1 (drawSP c).2.2).2.1 1 2147483646 = true then rollF (drawSP c).1 (selfD (drawSP c).1 (drawSP c).2.1 (drawSP c).2.2).2.1 else (0, 0))).1 ((allPlaysD (drawSP c).1 (rollDiceD (drawSP c).1 (selfD (drawSP c).1 (drawSP c).2.1 (drawSP c).2.2).1 (if varD (drawSP c).1 = true ∧ inB (selfD (drawSP c).1 (drawSP c).2.1 (drawSP c).2.2).2.1 1 2147483646 = true then rollF (drawSP c).1 (selfD (drawSP c).1 (drawSP c).2.1 (drawSP c).2.2).2.1 else (0, 0))).1.1 (if varD (drawSP c).1 = true ∧ inB (selfD (drawSP c).1 (drawSP c).2.1 (drawSP c).2.2).2.1 1 2147483646 = true then rollF (drawSP c).1 (selfD (drawSP c).1 (drawSP c).2.1 (drawSP c).2.2).2.1 else (0, 0))).1.getD 0 ([], [], [])).1).1 = (selfD (drawSP c).1 (drawSP c).2.1 ((drawSP c).2.2 + 1)).1)) (@Eq (HO c_laws_FnSelfPlay.outs) ((decide ((if varD (drawSP c).1 = true ∧ inB (selfD (drawSP c).1 (drawSP c).2.1 (drawSP c).2.2).2.1 1 2147483646 = true then seedN (seedN (selfD (drawSP c).1 (drawSP c).2.1 (drawSP c).2.2).2.1) else 0) = (selfD (drawSP c).1 (drawSP c).2.1 ((drawSP c).2.2 + 1)).2.1)), ()) (c_laws_FnSelfPlay.out (c, ()))) (@Eq (HO c_laws_FnSelfPlay.outs) (false, ()) (c_laws_FnSelfPlay.out (c, ()))))) (@Eq (HO c_laws_FnSelfPlay.outs) (false, ()) (c_laws_FnSelfPlay.out (c, ())))))))))))))))))))))))))))))))) (by kernel_rfl) ?_
  rintro c hw hl
  refine ⟨trivial, bspD (fun _ => rfl) (fun hb => ?_)⟩
  have hc := okC_ofP hw hb
  clear hw hl hb
  refine ⟨hc, trivial, trivial, bspD (fun h => absurd rfl h) (fun _ => bspD (fun h => absurd rfl h) (fun _ => ⟨trivial, bspB (fun h => by simp at h) (fun _ => bspD (fun _ => rfl) (fun h0 => bspD (fun _ => rfl) (fun h2 => bspD (fun _ => rfl) (fun h1 => ?_))))⟩))⟩
  generalize (drawSP c).1 = v at *
  generalize (drawSP c).2.1 = y at *
  generalize (drawSP c).2.2 = n at *
  have h0 : (selfD v y n).2.2 = 0 := by omega
  obtain ⟨a1, a2, a3, -⟩ := self_zero h0
  have hs := self_succ h0 (by omega)
  refine ⟨by simp only [inK]; omega, trivial, bspD (fun g => ?_) (fun g => ?_)⟩
  · have : (selfD v y (n + 1)).2.2 = 3 := by omega
    rw [decide_eq_true this]; rfl
  obtain ⟨n3, n4⟩ := self_next h0 (by omega) (by omega)
  refine bspD (fun h3 => ⟨trivial, ?_⟩) (fun h3 => ?_)
  · obtain ⟨e1, e2⟩ := n3 h3
    rw [e1, e2]
    refine bspD (fun _ => ?_) (fun h => absurd rfl h)
    rw [decide_eq_true rfl]; rfl
  obtain ⟨⟨k1, k2⟩, k3, k4, k5, k6⟩ := n4 h3
  rw [if_pos ⟨k1, k2⟩, if_pos ⟨k1, k2⟩, k4, k3, k1, k2]
  have hpos := allD_one v (selfD v y n).1.1 (rollF v (selfD v y n).2.1)
  simp only []
  rw [k5, k6]
  refine ⟨trivial, trivial, trivial, bspB (fun h => by simp at h) (fun _ => bspD (fun h => absurd rfl h) (fun _ => bspD (fun h => absurd rfl h) (fun _ => bspD (fun h => absurd h (by omega)) (fun _ => ⟨⟨by omega, by omega⟩, hpos, trivial, bspD (fun _ => ⟨trivial, bspD (fun _ => ?_) (fun h => absurd rfl h)⟩) (fun h => absurd rfl h)⟩))))⟩
  rw [decide_eq_true rfl]; rfl
end Go.Proofs.Ythpoihibbahblaa
