/-
  Contract: the reference's self-play.
-/
import Derived.Test.YteojdnkgjdffcaaVSelfP
namespace Go.Proofs.Yteojdnkgjdffcaa
open Go.RowKit
set_option linter.unusedSimpArgs false
set_option linter.unusedVariables false
theorem openIt_stop {v : DVar} {p : DGame × Int} : ∀ m : Nat, (m = 0 ∨ p.1.2.2.2.1 ≠ 0) → openIt v m p = p
  | 0, _ => rfl
  | m + 1, h => by simp only [openIt]; rw [if_neg (h.resolve_left (by omega))]
theorem turnIt_stop {v : DVar} {p : DGame × Int} : ∀ m : Nat, (m = 0 ∨ p.1.2.2.2.1 = 3) → turnIt v m p = (p, true)
  | 0, _ => rfl
  | m + 1, h => by simp only [turnIt]; rw [if_pos (h.resolve_left (by omega))]
theorem turnD_ph (v : DVar) (g : DGame) (b : DBoard) : (turnD v g b).2.2.2.1 ≠ 0 ∧ (turnD v g b).2.2.2.2.2.2 = g.2.2.2.2.2.2 + 1 := by
  unfold turnD; split
  · exact ⟨by show (3 : Int) ≠ 0; decide, rfl⟩
  · exact ⟨by show (1 : Int) ≠ 0; decide, rfl⟩
theorem openD_tu (g : DGame) (a b : Int) : (openD g a b).2.2.2.2.2.2 = g.2.2.2.2.2.2 := by
  unfold openD; split
  · rfl
  · split <;> rfl
theorem seqSel_ne (v : DVar) (b : DBoard) (r : DRoll) : selD v b (usedD v b r) (ordersD r) ≠ [] := by
  have hrow : ∀ o, ((rowsD v b o).length : Int) - 1 = seqN v b o := fun o => by simp only [rowsD, seqN, List.length_cons]; omega
  have pos : ∀ o, 0 ≤ seqN v b o := fun o => by unfold seqN; omega
  have key : ∃ o, o ∈ ordersD r ∧ seqN v b o = usedD v b r := by
    unfold usedD usedL ordersD
    split
    · refine ⟨_, List.mem_singleton.2 rfl, ?_⟩
      simp only [List.map_cons, List.map_nil, List.foldl_cons, List.foldl_nil, hrow]
      have := pos [r.1, r.1, r.1, r.1]; omega
    · simp only [List.map_cons, List.map_nil, List.foldl_cons, List.foldl_nil, hrow]
      have p1 := pos [r.1, r.2]
      have p2 := pos [r.2, r.1]
      by_cases h : seqN v b [r.1, r.2] ≤ seqN v b [r.2, r.1]
      · exact ⟨[r.2, r.1], by simp, by omega⟩
      · exact ⟨[r.1, r.2], by simp, by omega⟩
  obtain ⟨o, h1, h2⟩ := key
  have hm : o ∈ (ordersD r).filter fun o => decide (seqN v b o = usedD v b r) := List.mem_filter.2 ⟨h1, by simpa using h2⟩
  unfold selD
  split
  · intro e
    cases hf : (ordersD r).filter fun o => decide (seqN v b o = usedD v b r) with
    | nil => rw [hf] at hm; simp at hm
    | cons x xs => rw [hf] at e; simp at e
  · exact fun e => by rw [e] at hm; simp at hm
theorem allD_one (v : DVar) (b : DBoard) (r : DRoll) : 0 < (allD v b r).length := by
  have hne : (selD v b (usedD v b r) (ordersD r)).flatMap (longD v b) ≠ [] := by
    cases hs : selD v b (usedD v b r) (ordersD r) with
    | nil => exact absurd hs (seqSel_ne v b r)
    | cons o l =>
      simp only [List.flatMap_cons]
      intro e
      exact longD_ne v b o (List.append_eq_nil_iff.1 e).1
  unfold allD
  cases hl : (selD v b (usedD v b r) (ordersD r)).flatMap (longD v b) with
  | nil => exact absurd hl hne
  | cons p l =>
    have := (len_foldl_addP l (addP [] p)).1
    simp only [List.foldl_cons]
    simp only [addP, List.any_nil, Bool.false_eq_true, if_false, List.nil_append, List.length_cons, List.length_nil] at this ⊢
    omega
theorem okB_neS {v : DVar} {b : DBoard} (hb : okB v b) : NeB b := by
  obtain ⟨h1, h2, h3, h4, h5, h6, _⟩ := hb.facts
  exact ⟨⟨fun e => by rw [e] at h3; simp at h3; omega, by omega⟩, fun e => by rw [e] at h4; simp at h4; omega, by omega⟩
theorem turnIt_step {v : DVar} {p : DGame × Int} {m : Nat} (h3 : p.1.2.2.2.1 ≠ 3) (hf : fitsA v (rolled v p).1 = true) :
    turnIt v (m + 1) p = turnIt v m (turnD v (rolled v p).1 ((allD v (rolled v p).1.1 (rolled v p).1.2.2.1).getD 0 ([], ([], []))).2, (rolled v p).2) := by
  simp only [turnIt]; rw [if_neg h3, if_pos hf]
theorem turnIt_fail {v : DVar} {p : DGame × Int} {m : Nat} (h3 : p.1.2.2.2.1 ≠ 3) (hf : fitsA v (rolled v p).1 = false) : turnIt v (m + 1) p = ((zeroG, 0), false) := by
  simp only [turnIt]; rw [if_neg h3, if_neg (by rw [hf]; decide)]
theorem okG_roll {v : DVar} {p : DGame × Int} (h : OkG v p.1) (hz : 0 ≤ p.2) (h0 : p.1.2.2.2.1 ≠ 0) (h3 : p.1.2.2.2.1 ≠ 3) :
    okB v (rolled v p).1.1 ∧ rollD v (rolled v p).1.2.2.1 = true ∧ (rolled v p).1.2.1 = p.1.2.1 ∧ (rolled v p).1.2.2.2 = p.1.2.2.2 := by
  have hp := h.ph
  unfold rolled
  split
  · exact ⟨h.bo, rollF_ok h.bo.1 hz, rfl, rfl⟩
  · exact ⟨h.bo, h.ro (by omega), rfl, rfl⟩
theorem okG_rolled {v : DVar} {p : DGame × Int} (h : OkG v p.1) (hz : 0 ≤ p.2) (h0 : p.1.2.2.2.1 ≠ 0) (h3 : p.1.2.2.2.1 ≠ 3) : OkG v (rolled v p).1 := by
  have hk := okG_roll h hz h0 h3
  exact ⟨hk.1, by rw [hk.2.2.1]; exact h.pl, by rw [hk.2.2.2]; exact h.ph, fun _ => hk.2.1, by rw [hk.2.2.2]; exact h.tu⟩
theorem rolled_z {v : DVar} {p : DGame × Int} (hz : 0 ≤ p.2 ∧ p.2 ≤ 2147483646) : 0 ≤ (rolled v p).2 ∧ (rolled v p).2 ≤ 2147483646 := by
  unfold rolled
  split
  · exact seedN_bd (seedN_bd hz.1).1
  · exact hz
end Go.Proofs.Yteojdnkgjdffcaa
