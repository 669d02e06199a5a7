/-
  Plain: games stay fit through opening rolls and turns.
-/
import Derived.Test.YtlnagcdnnaffgaaVSelf
namespace Go.Proofs.Ytlnagcdnnaffgaa
open Go.RowKit
set_option linter.unusedSimpArgs false
set_option linter.unusedVariables false
theorem sum_setS {zs : List Int} {x : Int} : ∀ {i : Nat}, i < zs.length → (zs.set i x).sum = zs.sum - zs.getD i 0 + x := by
  induction zs with
  | nil => intro i h; simp at h
  | cons z zs ih =>
    intro i h
    cases i with
    | zero => simp; omega
    | succ i =>
      have := ih (i := i) (by simpa using h)
      simp only [List.set_cons_succ, List.sum_cons, this, List.getD_cons_succ]; omega
theorem sum_repl (n : Nat) : (List.replicate n (0 : Int)).sum = 0 := by
  induction n with
  | zero => rfl
  | succ n ih => simp [List.replicate_succ, ih]
theorem mem_repl_set {n i : Nat} {x z : Int} (hx : 0 ≤ x) {l : List Int} (hl : ∀ y, y ∈ l → 0 ≤ y) (h : z ∈ l.set i x) : 0 ≤ z := by
  rcases List.mem_or_eq_of_mem_set h with h | h
  · exact hl z h
  · rw [h]; exact hx
theorem start_side {v : DVar} (h : bigD v = true) : sideD v (startD v) = true := by
  have hb := h
  simp only [bigD, Bool.and_eq_true, decide_eq_true_eq] at hb
  obtain ⟨hv, h4⟩ := hb
  obtain ⟨⟨g1, g1'⟩, ⟨g2, g2'⟩, ⟨g3, g3'⟩, g4⟩ := varD_iff.1 hv
  unfold startD
  split
  · next e => rw [e]; decide
  · have e1 : Int.tdiv v.2.1 2 = v.2.1 / 2 := Int.tdiv_eq_ediv_of_nonneg (by omega)
    have e2 : Int.tdiv v.1 2 = v.1 / 2 := Int.tdiv_eq_ediv_of_nonneg (by omega)
    rw [e1, e2]
    have hl : ∀ y, y ∈ List.replicate (v.1 + 1).toNat (0 : Int) → 0 ≤ y := fun y hy => by rw [(List.mem_replicate.1 hy).2]; decide
    have hne : (v.1 / 2 - 1).toNat ≠ (v.1 - 1).toNat := by omega
    simp only [sideD, fitsD, Bool.and_eq_true, decide_eq_true_eq, List.all_eq_true, List.length_set, List.length_replicate]
    refine ⟨by omega, fun z hz => ?_, ?_⟩
    · exact mem_repl_set (n := 0) (by omega) (fun y hy => mem_repl_set (n := 0) (by omega) hl hy) hz
    · rw [sum_setS (by simp; omega), sum_setS (by simp; omega), sum_repl]
      have a1 : ((List.replicate (v.1 + 1).toNat (0 : Int)).set (v.1 - 1).toNat (v.2.1 / 2)).getD (v.1 / 2 - 1).toNat 0 = 0 := by
        rw [List.getD_eq_getElem?_getD, List.getElem?_set_ne (by omega), List.getElem?_replicate]; split <;> rfl
      have a2 : (List.replicate (v.1 + 1).toNat (0 : Int)).getD (v.1 - 1).toNat 0 = 0 := by
        rw [List.getD_eq_getElem?_getD, List.getElem?_replicate]; split <;> rfl
      rw [a1, a2]; omega
/-- what a game keeps -/
structure OkG (v : DVar) (g : DGame) : Prop where
  bo : okB v g.1
  pl : 0 ≤ g.2.1 ∧ g.2.1 ≤ 1
  ph : 0 ≤ g.2.2.2.1 ∧ g.2.2.2.1 ≤ 3
  ro : g.2.2.2.1 = 2 → rollD v g.2.2.1 = true
  tu : 0 ≤ g.2.2.2.2.2.2
theorem okG_new {v : DVar} (h : bigD v = true) : OkG v (newG v) := by
  have hv : varD v = true := by simp only [bigD, Bool.and_eq_true] at h; exact h.1
  exact ⟨⟨hv, start_side h, start_side h⟩, by simp [newG], by simp [newG], by simp [newG], by simp [newG]⟩
theorem okG_open {v : DVar} {g : DGame} (h : OkG v g) {r : DRoll} (hr : rollD v r = true) : OkG v (openD g r.1 r.2) := by
  have hf := h.bo
  have hrr := hr
  simp only [rollD, Bool.and_eq_true, inB, decide_eq_true_eq] at hrr
  have hm : rollD v (max r.1 r.2, min r.1 r.2) = true := by
    simp only [rollD, Bool.and_eq_true, inB, decide_eq_true_eq]
    obtain ⟨⟨k1, k2, k3⟩, k4, k5⟩ := hrr
    refine ⟨⟨k1, by omega, by omega⟩, by omega, by omega⟩
  unfold openD
  split
  · exact h
  · split
    · exact ⟨⟨hf.1, hf.2.2, hf.2.1⟩, by show 0 ≤ (1 : Int) ∧ (1 : Int) ≤ 1; decide, by show 0 ≤ (2 : Int) ∧ (2 : Int) ≤ 3; decide, fun _ => hm, h.tu⟩
    · exact ⟨hf, h.pl, by show 0 ≤ (2 : Int) ∧ (2 : Int) ≤ 3; decide, fun _ => hm, h.tu⟩
theorem okG_turn {v : DVar} {g : DGame} (h : OkG v g) {b : DBoard} (hb : okB v b) : OkG v (turnD v g b) := by
  have hp := h.pl
  have ht := h.tu
  unfold turnD
  split
  · exact ⟨hb, hp, by show 0 ≤ (3 : Int) ∧ (3 : Int) ≤ 3; decide, fun e => absurd (show (3 : Int) = 2 from e) (by decide), by show 0 ≤ g.2.2.2.2.2.2 + 1; omega⟩
  · exact ⟨⟨hb.1, hb.2.2, hb.2.1⟩, by show 0 ≤ 1 - g.2.1 ∧ 1 - g.2.1 ≤ 1; omega, by show 0 ≤ (1 : Int) ∧ (1 : Int) ≤ 3; decide, fun e => absurd (show (1 : Int) = 2 from e) (by decide), by show 0 ≤ g.2.2.2.2.2.2 + 1; omega⟩
theorem addP_sub {l : List DPlay} : ∀ {out : List DPlay} {q : DPlay}, q ∈ l.foldl addP out → q ∈ out ∨ q ∈ l := by
  induction l with
  | nil => intro out q h; exact .inl h
  | cons p l ih =>
    intro out q h
    rcases ih h with h | h
    · unfold addP at h
      split at h
      · exact .inl h
      · rcases List.mem_append.1 h with h | h
        · exact .inl h
        · exact .inr (by rw [List.mem_singleton.1 h]; simp)
    · exact .inr (List.mem_cons_of_mem _ h)
theorem allD_okB {v : DVar} {b : DBoard} {r : DRoll} (hb : okB v b) (hr : rollD v r = true) {p : DPlay} (h : p ∈ allD v b r) : okB v p.2 := by
  rcases addP_sub h with h | h
  · simp at h
  · obtain ⟨o, ho, hp⟩ := List.mem_flatMap.1 h
    have hoo : o ∈ ordersD r := by
      unfold selD at ho
      split at ho
      · exact (List.mem_filter.1 (List.mem_of_mem_take ho)).1
      · exact (List.mem_filter.1 ho).1
    have hd := ordersD_ok hr o hoo
    have hk := (last_ok (o := o) (l := startP b) (k := 0) hd.2 (startP_ok hb) (by simp [startP])).1
    exact (hk p hp).1
end Go.Proofs.Ytlnagcdnnaffgaa
