/-
  Plain: bear-off positions correspond to their numbers, and the next position has the next number.
-/
import Derived.Test.YtghfpidpefdndaaVBearA
import Derived.Test.YtghfpidpefdndaaVBearX
namespace Go.Proofs.Ytghfpidpefdndaa
open Go.RowKit
set_option linter.unusedSimpArgs false
set_option linter.unusedVariables false
theorem skipTo_front (i l : Nat) : ∀ d, 1 ≤ l → skipTo i l (d + 1) = chs l i + skipTo i (l - 1) d
  | 0, _ => by simp [skipTo]
  | d + 1, h => by
    have ih := skipTo_front i l d h
    rw [skipTo, ih]
    simp only [skipTo]
    rw [show l - (d + 1) = l - 1 - d by omega]; omega
theorem digL_skip {i : Nat} (hi : i ≤ 24) : ∀ (d l r : Nat), d ≤ l → l ≤ 15 → r < chs (l - d) i → digL i l (skipTo i l d + r) = (l - d, r)
  | 0, l, r, _, _, hr => by
    simp only [skipTo, Nat.zero_add]
    exact digL_stop hr
  | d + 1, l, r, hd, hl, hr => by
    have hp := skipTo_pascal i l hi hl (d + 1) hd
    have hm := chs_mono1 (m := l - (d + 1)) (i := i) (by omega) (by omega)
    have hf := skipTo_front i l d (by omega)
    obtain ⟨s1, s2, s3⟩ := digL_step (i := i) (l := l) (n := skipTo i l (d + 1) + r) (by omega) (by omega) hi hl
    rw [s2, hf, show chs l i + skipTo i (l - 1) d + r - chs l i = skipTo i (l - 1) d + r by omega]
    have ih := digL_skip hi d (l - 1) r (by omega) (by omega) (by rw [show l - 1 - d = l - (d + 1) by omega]; exact hr)
    rw [ih]; congr 1; omega
/-- the position with a position's number is the position -/
theorem posAt_num {zs : List Int} (h : ∀ j : Nat, 0 ≤ zs.getD j 0) : ∀ (j l : Nat), j ≤ zs.length → j ≤ 24 → l ≤ 15 → sumTo zs j ≤ (l : Int) → posAt j l (numE zs j l) = zs.take j
  | 0, l, _, _, _, _ => by simp [posAt]
  | j + 1, l, h0, h1, h2, h3 => by
    have hz := h j
    rw [sumTo_succ (by omega)] at h3
    have hs := (sumTo_le_sum h j (by omega)).1
    have hr := numE_bd h j (l - (zs.getD j 0).toNat) (by omega) (by omega) (by omega) (by omega)
    have hd := digL_skip (i := j) (by omega) (zs.getD j 0).toNat l (numE zs j (l - (zs.getD j 0).toNat)) (by omega) h2 hr
    simp only [numE, posAt]
    rw [hd]
    dsimp only
    rw [posAt_num h j (l - (zs.getD j 0).toNat) (by omega) (by omega) (by omega) (by omega)]
    have e : (l : Int) - ((l - (zs.getD j 0).toNat : Nat) : Int) = zs.getD j 0 := by omega
    rw [e, List.take_add_one, List.getD_eq_getElem?_getD, List.getElem?_eq_getElem (by omega)]; rfl
theorem numE_congr {zs ys : List Int} : ∀ {j l : Nat}, (∀ k, k < j → zs.getD k 0 = ys.getD k 0) → numE zs j l = numE ys j l
  | 0, l, _ => rfl
  | j + 1, l, h => by
    simp only [numE]
    rw [h j (by omega), numE_congr fun k hk => h k (by omega)]
theorem numE_zero {zs : List Int} : ∀ {j l : Nat}, (∀ k, k < j → zs.getD k 0 = 0) → numE zs j l = 0
  | 0, l, _ => rfl
  | j + 1, l, h => by
    simp only [numE]
    rw [h j (by omega), numE_zero fun k hk => h k (by omega)]; rfl
theorem skipTo_zero {l : Nat} : ∀ d, skipTo 0 l d = d
  | 0 => rfl
  | d + 1 => by simp only [skipTo, skipTo_zero d, chs]
/-- what lies above does not matter -/
theorem numE_up {zs ys : List Int} {m c : Nat} {sl : Int} (h : ∀ k, m ≤ k → zs.getD k 0 = ys.getD k 0) (h0 : ∀ k : Nat, 0 ≤ zs.getD k 0) (hsl : 0 ≤ sl) (hL : ∀ L : Nat, (L : Int) = sumTo zs m + sl → numE ys m L = numE zs m L + c) :
    ∀ {j : Nat}, m ≤ j → j ≤ zs.length → ∀ {l : Nat}, (l : Int) = sumTo zs j + sl → numE ys j l = numE zs j l + c := by
  intro j hj
  induction j with
  | zero =>
    intro _ l hs
    obtain rfl : m = 0 := by omega
    exact hL l hs
  | succ j ih =>
    intro hlen l hs
    by_cases e : m = j + 1
    · subst e; exact hL l hs
    · have hjm : m ≤ j := by omega
      have hsj := sumTo_succ (zs := zs) (k := j) (by omega)
      have hz := h0 j
      have hp := (sumTo_le_sum h0 j (by omega)).1
      simp only [numE]
      rw [← h j hjm]
      have := ih hjm (by omega) (l := l - (zs.getD j 0).toNat) (by omega)
      omega
theorem getD_set' {zs : List Int} {i j : Nat} {x : Int} (hi : i < zs.length) : (zs.set i x).getD j 0 = if j = i then x else zs.getD j 0 := by
  simp only [List.getD_eq_getElem?_getD, List.getElem?_set]
  by_cases e : i = j
  · subst e; simp [hi]
  · rw [if_neg e, if_neg (Ne.symm e)]
theorem sum_set {zs : List Int} {x : Int} : ∀ {i : Nat}, i < zs.length → (zs.set i x).sum = zs.sum - zs.getD i 0 + x := by
  induction zs with
  | nil => intro i h; simp at h
  | cons z zs ih =>
    intro i h
    cases i with
    | zero => simp; omega
    | succ i =>
      have := ih (i := i) (by simpa using h)
      simp only [List.set_cons_succ, List.sum_cons, this, List.getD_cons_succ]; omega
theorem fitsP_of {zs : List Int} : ∀ {left : Int}, (∀ j : Nat, 0 ≤ zs.getD j 0) → zs.sum ≤ left → fitsP left zs = true := by
  induction zs with
  | nil => intro _ _ _; rfl
  | cons z zs ih =>
    intro left h hs
    have h0 := h 0
    simp only [List.getD_cons_zero] at h0
    have ht : ∀ j : Nat, 0 ≤ zs.getD j 0 := fun j => by simpa using h (j + 1)
    have hp := (sumTo_le_sum ht zs.length (Nat.le_refl _)).1
    rw [sumTo_all] at hp
    simp only [List.sum_cons] at hs
    simp only [fitsP, Bool.and_eq_true, decide_eq_true_eq]
    exact ⟨⟨h0, by omega⟩, ih ht (by omega)⟩
/-- the facts of a position -/
structure Pos (v : DVar) (zs : List Int) : Prop where
  var : varD v = true
  pos : ∀ j : Nat, 0 ≤ zs.getD j 0
  len : (zs.length : Int) = v.2.2.1
  sum : 0 ≤ zs.sum ∧ zs.sum ≤ v.2.1
theorem Pos.of {v : DVar} {zs : List Int} (hv : varD v = true) (hb : bearD v zs = true) : Pos v zs := by
  obtain ⟨⟨g1, g1'⟩, ⟨g2, g2'⟩, ⟨g3, g3'⟩, g4⟩ := varD_iff.1 hv
  simp only [bearD, Bool.and_eq_true, decide_eq_true_eq] at hb
  obtain ⟨hH, hf⟩ := hb
  obtain ⟨hz, hs⟩ := fitsP_sum hf
  have hp := (sumTo_le_sum (fun j => (hz j).1) zs.length (Nat.le_refl _)).1
  rw [sumTo_all] at hp
  exact ⟨hv, fun j => (hz j).1, hH, hp, hs (by omega)⟩
theorem Pos.bear {v : DVar} {zs : List Int} (h : Pos v zs) : bearD v zs = true ∧ codeP v zs = 0 := by
  have hb : bearD v zs = true := by simp only [bearD, decide_eq_true h.len, fitsP_of h.pos h.sum.2, Bool.and_self]
  exact ⟨hb, by simp [codeP, h.var, hb]⟩
theorem num_next {v : DVar} {zs : List Int} (h : Pos v zs) :
    (zs.sum < v.2.1 → Pos v (zs.set 0 (zs.getD 0 0 + 1)) ∧ numE (zs.set 0 (zs.getD 0 0 + 1)) zs.length v.2.1.toNat = numE zs zs.length v.2.1.toNat + 1) ∧
    (∀ q : Nat, zs.sum = v.2.1 → q < zs.length → zs.getD q 0 ≠ 0 → (∀ j, j < q → zs.getD j 0 = 0) →
      (q + 1 = zs.length → numE zs zs.length v.2.1.toNat + 1 = chs v.2.1.toNat zs.length) ∧
      (q + 1 < zs.length → Pos v ((zs.set q 0).set (q + 1) (zs.getD (q + 1) 0 + 1)) ∧ numE ((zs.set q 0).set (q + 1) (zs.getD (q + 1) 0 + 1)) zs.length v.2.1.toNat = numE zs zs.length v.2.1.toNat + 1)) := by
  obtain ⟨⟨g1, g1'⟩, ⟨g2, g2'⟩, ⟨g3, g3'⟩, g4⟩ := varD_iff.1 h.var
  have hl := h.len
  have hs := h.sum
  have hp := h.pos
  refine ⟨fun hlt => ⟨⟨h.var, fun j => ?_, by rw [List.length_set]; exact hl, ?_⟩, ?_⟩, fun q hC hq hnz hz => ?_⟩
  · rw [getD_set' (by omega)]
    have := hp 0
    have := hp j
    split <;> omega
  · rw [sum_set (by omega)]; omega
  · refine numE_up (m := 1) (sl := v.2.1 - zs.sum) (fun k hk => ?_) hp (by omega) (fun L _ => ?_) (by omega) (Nat.le_refl _) (by rw [sumTo_all]; omega)
    · rw [getD_set' (by omega), if_neg (by omega)]
    · simp only [numE, skipTo_zero, getD_set' (show 0 < zs.length by omega), if_true]
      have := hp 0
      omega
  · have hz0 := hp q
    have hs0 : sumTo zs q = 0 := by
      have : ∀ k : Nat, k ≤ q → sumTo zs k = 0 := by
        intro k hk
        induction k with
        | zero => exact sumTo_zero zs
        | succ k ih => rw [sumTo_succ (by omega), ih (by omega), hz k (by omega)]; rfl
      exact this q (Nat.le_refl _)
    have hs1 := sumTo_succ (zs := zs) (k := q) hq
    rw [hs0] at hs1
    -- the number of the first q + 1 points with their checkers
    have low : ∀ L : Nat, (L : Int) = zs.getD q 0 → L ≤ 15 → numE zs (q + 1) L + 1 = chs L (q + 1) := fun L hL hL15 => by
      have e1 : (zs.getD q 0).toNat = L := by omega
      have hpas := skipTo_pascal q L (by omega) hL15 L (Nat.le_refl _)
      rw [Nat.sub_self, chs_zero (by omega)] at hpas
      simp only [numE, e1, Nat.sub_self]
      rw [numE_zero (fun k hk => hz k hk)]
      omega
    refine ⟨fun e => ?_, fun hlt => ?_⟩
    · have h2 : sumTo zs zs.length = zs.getD q 0 := by rw [← e, hs1]; omega
      rw [sumTo_all] at h2
      have := low v.2.1.toNat (by omega) (by omega)
      rw [e] at this
      exact this
    · have hz1 := hp (q + 1)
      have hs2 : sumTo zs (q + 2) = sumTo zs (q + 1) + zs.getD (q + 1) 0 := sumTo_succ (zs := zs) (k := q + 1) hlt
      have hle := (sumTo_le_sum hp (q + 2) (by omega)).2 zs.length (by omega) (Nat.le_refl _)
      rw [sumTo_all] at hle
      have gq : (zs.set q 0).getD (q + 1) 0 = zs.getD (q + 1) 0 := by rw [getD_set' hq, if_neg (by omega)]
      have gat : ∀ j : Nat, ((zs.set q 0).set (q + 1) (zs.getD (q + 1) 0 + 1)).getD j 0 = if j = q + 1 then zs.getD (q + 1) 0 + 1 else if j = q then 0 else zs.getD j 0 := fun j => by
        rw [getD_set' (by rw [List.length_set]; omega), getD_set' hq]
      refine ⟨⟨h.var, fun j => ?_, by rw [List.length_set, List.length_set]; exact hl, ?_⟩, ?_⟩
      · rw [gat]
        have := hp j
        split
        · omega
        · split <;> omega
      · rw [sum_set (by rw [List.length_set]; omega), sum_set hq, gq]; omega
      · refine numE_up (m := q + 2) (sl := 0) (fun k hk => ?_) hp (by omega) (fun L hL => ?_) (by omega) (Nat.le_refl _) (by rw [sumTo_all]; omega)
        · rw [gat, if_neg (by omega), if_neg (by omega)]
        · have hL15 : L ≤ 15 := by omega
          have hlow := low (L - (zs.getD (q + 1) 0).toNat) (by omega) (by omega)
          have e1 : numE zs (q + 2) L = skipTo (q + 1) L (zs.getD (q + 1) 0).toNat + numE zs (q + 1) (L - (zs.getD (q + 1) 0).toNat) := rfl
          have e2 : numE ((zs.set q 0).set (q + 1) (zs.getD (q + 1) 0 + 1)) (q + 2) L = skipTo (q + 1) L ((zs.getD (q + 1) 0).toNat + 1) + 0 := by
            show skipTo (q + 1) L (((zs.set q 0).set (q + 1) (zs.getD (q + 1) 0 + 1)).getD (q + 1) 0).toNat + numE ((zs.set q 0).set (q + 1) (zs.getD (q + 1) 0 + 1)) (q + 1) _ = _
            rw [numE_zero (fun k hk => ?_), gat, if_pos rfl, show (zs.getD (q + 1) 0 + 1).toNat = (zs.getD (q + 1) 0).toNat + 1 by omega]
            rw [gat, if_neg (by omega)]
            split
            · rfl
            · exact hz k (by omega)
          rw [e1, e2]
          simp only [skipTo]
          omega
end Go.Proofs.Ytghfpidpefdndaa
