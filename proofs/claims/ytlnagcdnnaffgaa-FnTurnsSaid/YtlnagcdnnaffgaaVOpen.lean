/-
  Plain: the games that are drawn open within a hundred rolls, and are played for their turns.
-/
import Derived.Test.YtlnagcdnnaffgaaVOcc
import Derived.Test.YtlnagcdnnaffgaaS2
import Derived.Test.YtlnagcdnnaffgaaS3
namespace Go.Proofs.Ytlnagcdnnaffgaa
open Go.RowKit
set_option linter.unusedSimpArgs false
set_option linter.unusedVariables false
theorem all2 : Simd.cov Simd.b2 1 195788801 := Simd.cS2_238
theorem all3 : Simd.cov Simd.b3 1 195788801 := Simd.cS3_238
theorem seedN_nxt {s : Nat} (h1 : 1 ≤ s) (h2 : s < 2147483647) : seedN (s : Int) = (Simd.nxt1 s : Nat) := by
  rw [Simd.nxt1_eq h1 h2]
  unfold seedN
  rw [Int.tmod_eq_emod_of_nonneg (by omega)]
  omega
theorem nxt1_in {s : Nat} (h1 : 1 ≤ s) (h2 : s < 2147483647) : 1 ≤ Simd.nxt1 s ∧ Simd.nxt1 s < 2147483647 := by
  have := seedN_pos (z := (s : Int)) (by omega)
  rw [seedN_nxt h1 h2] at this
  omega
theorem openIt_met {v : DVar} (hb : bigD v = true) {b : Nat → Nat → Nat} (hit : ∀ y z : Nat, y < 2147483648 → z < 2147483648 → b y z = 1 → (y : Int) % v.2.2.2 ≠ (z : Int) % v.2.2.2) :
    ∀ (k m s : Nat), k ≤ m → 1 ≤ s → s < 2147483647 → Simd.met b k s → (openIt v m (newG v, (s : Int))).1.2.2.2.1 ≠ 0
  | 0, _, _, _, _, _, h => absurd h (by simp [Simd.met])
  | k + 1, 0, _, h, _, _, _ => by omega
  | k + 1, m + 1, s, hm, h1, h2, h => by
    have hv : varD v = true := by simp only [bigD, Bool.and_eq_true] at hb; exact hb.1
    have hi := rollF_in hv (z := (s : Int)) (by omega)
    have n1 := nxt1_in h1 h2
    have n2 := nxt1_in n1.1 n1.2
    have e1 := seedN_nxt h1 h2
    have e2 := seedN_nxt n1.1 n1.2
    have e : openIt v (m + 1) (newG v, (s : Int)) = openIt v m (openD (newG v) (rollF v s).1 (rollF v s).2, seedN (seedN s)) := by
      simp only [openIt]; rw [if_pos (show (newG v).2.2.2.1 = 0 from rfl)]; rfl
    rw [e]
    by_cases hr : (rollF v (s : Int)).1 = (rollF v (s : Int)).2
    · rw [show openD (newG v) (rollF v s).1 (rollF v s).2 = newG v from if_pos hr, e1, e2]
      refine openIt_met hb hit k m _ (by omega) n2.1 n2.2 (h.resolve_left fun hh => ?_)
      refine hit _ _ (by omega) (by omega) hh ?_
      unfold rollF at hr
      rw [e1, e2] at hr
      dsimp only at hr
      rw [Int.tmod_eq_emod_of_nonneg (by omega), Int.tmod_eq_emod_of_nonneg (by omega)] at hr
      omega
    · have ho := (game_open (game_new hb) rfl hi.1 hi.2).2 hr
      rw [openIt_stop _ (.inr (by show (openD (newG v) (rollF v s).1 (rollF v s).2).2.2.2.1 ≠ 0; rw [ho]; decide))]
      show (openD (newG v) (rollF v s).1 (rollF v s).2).2.2.2.1 ≠ 0
      rw [ho]; decide
/-- a drawn seed's game opens -/
theorem opened_small {v : DVar} (hb : bigD v = true) (hs : v.2.2.2 = 2 ∨ v.2.2.2 = 3 ∨ v.2.2.2 = 4 ∨ v.2.2.2 = 6) {z : Int} (hz : 1 ≤ z ∧ z < 195788801) : (opened v z).1.2.2.2.1 ≠ 0 := by
  obtain ⟨s, rfl⟩ : ∃ s : Nat, z = s := ⟨z.toNat, by omega⟩
  by_cases h3 : v.2.2.2 = 3
  · refine openIt_met hb (b := Simd.b3) (fun y z hy hz h => ?_) 40 100 s (by omega) (by omega) (by omega) (all3 s (by omega) (by omega))
    have := Simd.b3_hit (by omega) (by omega) h
    rw [h3]; omega
  · refine openIt_met hb (b := Simd.b2) (fun y z hy hz h => ?_) 40 100 s (by omega) (by omega) (by omega) (all2 s (by omega) (by omega))
    unfold Simd.b2 at h
    rw [Nat.and_one_is_mod] at h
    have h246 : v.2.2.2 = 2 ∨ v.2.2.2 = 4 ∨ v.2.2.2 = 6 := by omega
    rcases h246 with e | e | e <;> (rw [e]; omega)
/-- the variants of drawn games -/
def drawnV (v : DVar) : Prop := bigD v = true ∧ (v = (24, 15, 6, 6) ∨ (v.2.1 ≤ 4 ∧ v.1 ≤ 8 ∧ v.2.2.2 ≤ 4 ∧ 2 ≤ v.2.2.2))
theorem selfD_drawn {v : DVar} (hv : drawnV v) {z n : Int} (hz : 1 ≤ z ∧ z < 195788801) (hn : 0 ≤ n ∧ n ≤ 12) (h24 : 20 < v.1 → n ≤ 3) : gameD v (selfD v z n).1 = true ∧ (selfD v z n).2.2 = 0 := by
  obtain ⟨hb, hd⟩ := hv
  have hv : varD v = true := by simp only [bigD, Bool.and_eq_true] at hb; exact hb.1
  have hz2 : 1 ≤ z ∧ z ≤ 2147483646 := by omega
  have hs : v.2.2.2 = 2 ∨ v.2.2.2 = 3 ∨ v.2.2.2 = 4 ∨ v.2.2.2 = 6 := by
    rcases hd with rfl | h
    · exact .inr (.inr (.inr rfl))
    · omega
  have h0 := opened_small hb hs hz
  obtain ⟨o1, o2, o3, o4⟩ := opened_ok hb hz2
  have hT : (turnIt v n.toNat (opened v z)).2 = true := by
    rcases hd with rfl | h
    · exact turns_full hz2 h0 (by have := h24 (by decide); omega)
    · exact turnIt_four h.1 _ _ o1 o4 h0 (by omega)
  have hG := turnIt_game _ _ o1 o4 h0 (by omega) hT
  have e : selfD v z n = ((turnIt v n.toNat (opened v z)).1.1, (turnIt v n.toNat (opened v z)).1.2, 0) := by
    unfold selfD
    rw [if_neg (by rw [hv]; decide), if_neg (by rw [hb]; decide), if_neg (by simp only [inB, Bool.and_eq_false_iff, decide_eq_false_iff_not]; omega), if_neg (by omega), if_neg h0, if_pos hT]
  rw [e]
  exact ⟨hG, rfl⟩
end Go.Proofs.Ytlnagcdnnaffgaa
