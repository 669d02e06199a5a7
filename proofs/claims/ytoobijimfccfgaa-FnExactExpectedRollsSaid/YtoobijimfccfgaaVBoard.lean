/-
  Contracts: sides and boards.
-/
import Derived.Test.YtoobijimfccfgaaVBase
namespace Go.Proofs.Ytoobijimfccfgaa
open Go.RowKit
set_option linter.unusedSimpArgs false
set_option linter.unusedVariables false
theorem getD_neg {zs : List Int} {k : Nat} (h : k < zs.length) : zs.getD k 0 ∈ zs := by
  rw [List.getD_eq_getElem?_getD, List.getElem?_eq_getElem h]; exact List.getElem_mem h
/-- all elements are at least 0, their sum is at most c -/
def fitsD (c : Int) (zs : List Int) : Bool := zs.all (fun z => decide (0 ≤ z)) && decide (zs.sum ≤ c)
def sideD (v : DVar) (zs : List Int) : Bool := decide ((zs.length : Int) = v.1 + 1) && fitsD v.2.1 zs
/-- whether both players have checkers on one of the first k points -/
def clashD (zs ys : List Int) (p : Nat) : Nat → Bool
  | 0 => false
  | k + 1 => clashD zs ys p k || (decide (0 < zs.getD k 0) && decide (0 < ys.getD (p - 1 - k) 0))
def overD (b : DBoard) : Bool := decide (b.1.sum = 0) || decide (b.2.sum = 0)
def boardD (v : DVar) (b : DBoard) : Bool := varD v && (sideD v b.1 && (sideD v b.2 && (!(decide (b.1.sum = 0) && decide (b.2.sum = 0)) && !clashD b.1 b.2 v.1.toNat v.1.toNat)))
theorem fitsD_iff {c : Int} {zs : List Int} : fitsD c zs = true ↔ (∀ z, z ∈ zs → 0 ≤ z) ∧ zs.sum ≤ c := by
  simp [fitsD]
theorem sum_nonneg {zs : List Int} (h : ∀ z, z ∈ zs → 0 ≤ z) : 0 ≤ zs.sum := by
  induction zs with
  | nil => simp
  | cons z zs ih =>
    have := ih fun y hy => h y (List.mem_cons_of_mem _ hy)
    have := h z (List.mem_cons_self ..)
    simp; omega
theorem mem_le_sum {zs : List Int} (h : ∀ z, z ∈ zs → 0 ≤ z) {z : Int} (hz : z ∈ zs) : z ≤ zs.sum := by
  induction zs with
  | nil => simp at hz
  | cons y zs ih =>
    have h0 := sum_nonneg fun x hx => h x (List.mem_cons_of_mem _ hx)
    have hy := h y (List.mem_cons_self ..)
    rcases List.mem_cons.1 hz with rfl | hz
    · simp; omega
    · have := ih (fun x hx => h x (List.mem_cons_of_mem _ hx)) hz
      simp; omega
theorem fitsD_bd {c : Int} {zs : List Int} (hc : c ≤ 15) (hl : zs.length ≤ 1099511627776) (h : fitsD c zs = true) : Bd zs := by
  obtain ⟨h1, h2⟩ := fitsD_iff.1 h
  refine ⟨hl, fun z hz => ⟨h1 z hz, by have := mem_le_sum h1 hz; omega⟩⟩
theorem sideD_bd {v : DVar} {zs : List Int} (hv : varD v = true) (h : sideD v zs = true) : Bd zs ∧ (zs.length : Int) = v.1 + 1 := by
  obtain ⟨h1, h2, _⟩ := varD_iff.1 hv
  simp only [sideD, Bool.and_eq_true, decide_eq_true_eq] at h
  exact ⟨fitsD_bd h2.2 (by omega) h.2, h.1⟩
theorem sumTo_nonneg {zs : List Int} {k : Nat} (h : ∀ j, j < k → 0 ≤ zs.getD j 0) (hk : k ≤ zs.length) : 0 ≤ sumTo zs k := by
  induction k with
  | zero => simp [sumTo_zero]
  | succ k ih =>
    rw [sumTo_succ (by omega)]
    have := ih (fun j hj => h j (by omega)) (by omega)
    have := h k (by omega)
    omega
/-- a part of the sum that is too great -/
theorem fitsD_false {c : Int} {zs : List Int} {k : Nat} (hk : k < zs.length) (h : zs.getD k 0 < 0 ∨ c - sumTo zs k < zs.getD k 0) : fitsD c zs = false := by
  cases hf : fitsD c zs with
  | false => rfl
  | true =>
    exfalso
    obtain ⟨h1, h2⟩ := fitsD_iff.1 hf
    have hg := h1 _ (getD_neg hk)
    have e : zs.sum = sumTo zs (k + 1) + (zs.drop (k + 1)).sum := by
      rw [sumTo, ← List.sum_append_int, List.take_append_drop]
    have := sum_nonneg (zs := zs.drop (k + 1)) fun z hz => h1 z (List.mem_of_mem_drop hz)
    rw [sumTo_succ hk] at e
    omega
theorem fitsD_true {c : Int} {zs : List Int} (h : ∀ j, j < zs.length → 0 ≤ zs.getD j 0) (hs : sumTo zs zs.length ≤ c) : fitsD c zs = true := by
  refine fitsD_iff.2 ⟨fun z hz => ?_, by rw [← sumTo_all]; exact hs⟩
  obtain ⟨i, hi, rfl⟩ := List.mem_iff_getElem.1 hz
  have := h i hi
  rwa [List.getD_eq_getElem?_getD, List.getElem?_eq_getElem hi] at this
/-- what has been seen of a side -/
def SeenS (c : Int) (zs : List Int) (k : Nat) : Prop := k ≤ zs.length ∧ (∀ j, j < k → 0 ≤ zs.getD j 0) ∧ sumTo zs k ≤ c
theorem SeenS.succ {c : Int} {zs : List Int} {k : Nat} (h : SeenS c zs k) (hk : k < zs.length) (h0 : 0 ≤ zs.getD k 0) (h1 : zs.getD k 0 ≤ c - sumTo zs k) : SeenS c zs (k + 1) := by
  refine ⟨by omega, fun j hj => ?_, by rw [sumTo_succ hk]; omega⟩
  by_cases e : j = k
  · subst e; exact h0
  · exact h.2.1 j (by omega)
/-- a board but for points that both players hold -/
def MidB (v : DVar) (b : DBoard) : Prop := varD v = true ∧ sideD v b.1 = true ∧ sideD v b.2 = true ∧ ¬ (b.1.sum = 0 ∧ b.2.sum = 0)
theorem MidB.bd {v : DVar} {b : DBoard} (h : MidB v b) : Bd b.1 ∧ Bd b.2 ∧ (b.1.length : Int) = v.1 + 1 ∧ (b.2.length : Int) = v.1 + 1 ∧ 2 ≤ v.1 ∧ v.1 ≤ 24 ∧ 1 ≤ v.2.1 ∧ v.2.1 ≤ 15 := by
  obtain ⟨h0, h1, h2, _⟩ := h
  obtain ⟨d1, l1⟩ := sideD_bd h0 h1
  obtain ⟨d2, l2⟩ := sideD_bd h0 h2
  obtain ⟨⟨v1, v2⟩, ⟨v3, v4⟩, _⟩ := varD_iff.1 h0
  exact ⟨d1, d2, l1, l2, v1, v2, v3, v4⟩
theorem clashD_mono {zs ys : List Int} {p k n : Nat} (h : clashD zs ys p k = true) (hn : k ≤ n) : clashD zs ys p n = true := by
  induction n with
  | zero => have : k = 0 := by omega
            subst this; exact h
  | succ n ih =>
    by_cases e : k = n + 1
    · subst e; exact h
    · simp only [clashD, ih (by omega), Bool.true_or]
theorem MidB.no {v : DVar} {b : DBoard} {k : Nat} (_ : MidB v b) (hk : (k : Int) < v.1) (h1 : 0 < b.1.getD k 0) (h2 : 0 < b.2.getD (v.1.toNat - 1 - k) 0) : boardD v b = false := by
  have : clashD b.1 b.2 v.1.toNat v.1.toNat = true := clashD_mono (k := k + 1) (by simp only [clashD, h1, h2, decide_true, Bool.and_self, Bool.or_true]) (by omega)
  simp [boardD, this]
theorem MidB.yes {v : DVar} {b : DBoard} (h : MidB v b) (hc : clashD b.1 b.2 v.1.toNat v.1.toNat = false) : boardD v b = true := by
  obtain ⟨h0, h1, h2, h3⟩ := h
  simp only [boardD, h0, h1, h2, hc, Bool.true_and, Bool.not_false, Bool.and_true]
  simp only [Bool.not_eq_true', Bool.and_eq_false_iff, decide_eq_false_iff_not]
  omega
theorem boardD_mid {v : DVar} {b : DBoard} (h : boardD v b = true) : MidB v b ∧ clashD b.1 b.2 v.1.toNat v.1.toNat = false := by
  simp only [boardD, Bool.and_eq_true, Bool.not_eq_true', Bool.and_eq_false_iff, decide_eq_false_iff_not] at h
  exact ⟨⟨h.1, h.2.1, h.2.2.1, fun e => by rcases h.2.2.2.1 with h | h; exact h e.1; exact h e.2⟩, h.2.2.2.2⟩
end Go.Proofs.Ytoobijimfccfgaa
