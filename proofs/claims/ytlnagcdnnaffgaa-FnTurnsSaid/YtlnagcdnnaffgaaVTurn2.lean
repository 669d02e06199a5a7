/-
  Contracts: the program's self-play.
-/
import Derived.Test.YtlnagcdnnaffgaaVTurn
namespace Go.Proofs.Ytlnagcdnnaffgaa
open Go.RowKit
set_option linter.unusedSimpArgs false
set_option linter.unusedVariables false
theorem rollF_in {v : DVar} (hv : varD v = true) {z : Int} (h : 0 ≤ z) : (1 ≤ (rollF v z).1 ∧ (rollF v z).1 ≤ v.2.2.2) ∧ 1 ≤ (rollF v z).2 ∧ (rollF v z).2 ≤ v.2.2.2 := by
  have := rollF_ok hv h
  simp only [rollD, hv, Bool.true_and, Bool.and_eq_true, inB, decide_eq_true_eq] at this
  omega
theorem openIt_ok {v : DVar} (hb : bigD v = true) : ∀ (m : Nat) (z : Int), 1 ≤ z ∧ z ≤ 2147483646 →
    gameD v (openIt v m (newG v, z)).1 = true ∧ ((openIt v m (newG v, z)).1.2.2.2.1 = 0 ∨ (openIt v m (newG v, z)).1.2.2.2.1 = 2) ∧ (openIt v m (newG v, z)).1.2.2.2.2.2.2 = 0 ∧ 1 ≤ (openIt v m (newG v, z)).2 ∧ (openIt v m (newG v, z)).2 ≤ 2147483646
  | 0, z, hz => ⟨game_new hb, .inl rfl, rfl, hz⟩
  | m + 1, z, hz => by
    have hv : varD v = true := by simp only [bigD, Bool.and_eq_true] at hb; exact hb.1
    have hs := seedN_pos (seedN_pos hz)
    have hi := rollF_in hv (z := z) (by omega)
    have e : openIt v (m + 1) (newG v, z) = openIt v m (openD (newG v) (rollF v z).1 (rollF v z).2, seedN (seedN z)) := by
      simp only [openIt]; rw [if_pos (show (newG v).2.2.2.1 = 0 from rfl)]; rfl
    rw [e]
    by_cases h : (rollF v z).1 = (rollF v z).2
    · rw [show openD (newG v) (rollF v z).1 (rollF v z).2 = newG v from if_pos h]
      exact openIt_ok hb m _ hs
    · have ho := game_open (game_new hb) rfl hi.1 hi.2
      have h2 := ho.2 h
      rw [openIt_stop _ (.inr (by show (openD (newG v) (rollF v z).1 (rollF v z).2).2.2.2.1 ≠ 0; rw [h2]; decide))]
      exact ⟨ho.1, .inr h2, by rw [openD_tu]; rfl, hs⟩
theorem opened_ok {v : DVar} (hb : bigD v = true) {z : Int} (hz : 1 ≤ z ∧ z ≤ 2147483646) :
    gameD v (opened v z).1 = true ∧ ((opened v z).1.2.2.2.1 = 0 ∨ (opened v z).1.2.2.2.1 = 2) ∧ (opened v z).1.2.2.2.2.2.2 = 0 ∧ 1 ≤ (opened v z).2 ∧ (opened v z).2 ≤ 2147483646 := openIt_ok hb 100 z hz
theorem rolled_ok {v : DVar} {p : DGame × Int} (hg : gameD v p.1 = true) (hz : 1 ≤ p.2 ∧ p.2 ≤ 2147483646) (h0 : p.1.2.2.2.1 ≠ 0) (h3 : p.1.2.2.2.1 ≠ 3) :
    (p.1.2.2.2.1 = 1 ∨ p.1.2.2.2.1 = 2) ∧ inPlay v (rolled v p).1.1 ∧ rollD v (rolled v p).1.2.2.1 = true ∧ (rolled v p).1.2.1 = p.1.2.1 ∧ (rolled v p).1.2.2.2 = p.1.2.2.2 ∧ (rolled v p).1.1 = p.1.1 ∧ (1 ≤ (rolled v p).2 ∧ (rolled v p).2 ≤ 2147483646) ∧ p.1.2.2.2.2.1 = 0 ∧ p.1.2.2.2.2.2.1 = 0 := by
  obtain ⟨k1, k2, k3, k4, k5, k6⟩ := gameD_iff.1 hg
  have h12 : p.1.2.2.2.1 = 1 ∨ p.1.2.2.2.1 = 2 := by
    rw [if_neg h0] at k6
    by_cases h : p.1.2.2.2.1 = 1 ∨ p.1.2.2.2.1 = 2
    · exact h
    · rw [if_neg h, if_neg h3] at k6; exact absurd k6 (by decide)
  obtain ⟨r1, r2, r3, r4⟩ := game_run hg h12
  have hv := (boardD_iff.1 k2).1.1
  refine ⟨h12, ?_⟩
  unfold rolled
  split
  · exact ⟨r1, rollF_ok hv (by omega), rfl, rfl, rfl, seedN_pos (seedN_pos hz), r3, r4⟩
  · rw [if_pos (by omega)] at k5
    exact ⟨r1, k5, rfl, rfl, rfl, hz, r3, r4⟩
theorem first_in {v : DVar} {b : DBoard} {r : DRoll} (hb : inPlay v b) (hr : rollD v r = true) : inPlay v ((allD v b r).getD 0 ([], ([], []))).2 := allD_inPlay hb hr (getD_mem (allD_one v b r) _)
theorem turnD_same (v : DVar) (g g' : DGame) (c : DBoard) (h1 : g.2.1 = g'.2.1) (h2 : g.2.2.2.2.2.2 = g'.2.2.2.2.2.2) : turnD v g c = turnD v g' c := by
  unfold turnD; rw [h1, h2]
/-- one turn from a valid game -/
theorem turn_game {v : DVar} {p : DGame × Int} (hg : gameD v p.1 = true) (hz : 1 ≤ p.2 ∧ p.2 ≤ 2147483646) (h0 : p.1.2.2.2.1 ≠ 0) (h3 : p.1.2.2.2.1 ≠ 3) (ht : p.1.2.2.2.2.2.2 < 2000) :
    gameD v (turnD v (rolled v p).1 ((allD v (rolled v p).1.1 (rolled v p).1.2.2.1).getD 0 ([], ([], []))).2) = true := by
  obtain ⟨h12, q1, q2, q3, q4, q5, q6, -⟩ := rolled_ok hg hz h0 h3
  obtain ⟨k1, k2, k3, k4, k5, k6⟩ := gameD_iff.1 hg
  exact game_turn k1 (by rw [q3]; exact k3) (by rw [q4]; omega) (first_in q1 q2)
end Go.Proofs.Ytlnagcdnnaffgaa
