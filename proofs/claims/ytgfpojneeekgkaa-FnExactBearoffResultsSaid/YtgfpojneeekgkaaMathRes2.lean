/-
  Plain: steps of bear-off positions, the positions after as many steps as possible; both ways to list them agree.
-/
import Derived.Test.YtgfpojneeekgkaaMathRes
namespace Go.Proofs.Ytgfpojneeekgkaa

/-- the sum of the first k places, each with its weight -/
def wS (f : Nat → Int) (p : List Int) : Nat → Int
  | 0 => 0
  | k + 1 => wS f p k + f k * p.getD k 0
def NN (p : List Int) : Prop := ∀ j, 0 ≤ p.getD j 0
theorem set_self0 {p : List Int} {i : Nat} (hi : i < p.length) (x : Int) : (p.set i x).getD i 0 = x := by
  rw [List.getD_eq_getElem?_getD, List.getElem?_set_self hi]; rfl
theorem wS_set (f : Nat → Int) (p : List Int) (i : Nat) (x : Int) (hi : i < p.length) : ∀ k, wS f (p.set i x) k = wS f p k + (if i < k then f i * (x - p.getD i 0) else 0)
  | 0 => by simp [wS]
  | k + 1 => by
    simp only [wS, wS_set f p i x hi k]
    by_cases h : i = k
    · subst h
      rw [set_self0 hi, if_neg (by omega), if_pos (by omega), Int.mul_sub]; omega
    · have e : (p.set i x).getD k 0 = p.getD k 0 := by rw [List.getD_eq_getElem?_getD, List.getElem?_set_ne h, ← List.getD_eq_getElem?_getD]
      rw [e]
      by_cases h2 : i < k
      · rw [if_pos h2, if_pos (by omega)]; omega
      · rw [if_neg h2, if_neg (by omega)]; omega
theorem wS_nn {f : Nat → Int} {p : List Int} (hf : ∀ i, 0 ≤ f i) (hp : NN p) : ∀ k, 0 ≤ wS f p k
  | 0 => Int.le_refl _
  | k + 1 => by have := wS_nn hf hp k; have := Int.mul_nonneg (hf k) (hp k); simp only [wS]; omega
theorem wS_le {f g : Nat → Int} {p : List Int} (hf : ∀ i, f i ≤ g i) (hp : NN p) : ∀ k, wS f p k ≤ wS g p k
  | 0 => Int.le_refl _
  | k + 1 => by have := wS_le hf hp k; have := Int.mul_le_mul_of_nonneg_right (hf k) (hp k); simp only [wS]; omega
theorem wS_zero {f : Nat → Int} {p : List Int} (h : ∀ j, p.getD j 0 = 0) : ∀ k, wS f p k = 0
  | 0 => rfl
  | k + 1 => by simp only [wS, wS_zero h k, h k]; omega
theorem wS_at {f : Nat → Int} {p : List Int} (hf : ∀ i, 0 ≤ f i) (hp : NN p) {i : Nat} : ∀ k, i < k → f i * p.getD i 0 ≤ wS f p k
  | 0, h => by omega
  | k + 1, h => by
    have h1 := wS_nn hf hp k
    have h2 := Int.mul_nonneg (hf k) (hp k)
    simp only [wS]
    by_cases e : i = k
    · subst e; omega
    · have := wS_at hf hp k (i := i) (by omega); omega
def one1 : Nat → Int := fun _ => 1
theorem wS_one (p : List Int) : ∀ k, wS one1 p k = (p.take k).sum
  | 0 => by simp [wS]
  | k + 1 => by
    rw [wS, wS_one p k]
    rcases Nat.lt_or_ge k p.length with h | h
    · rw [← List.take_append_getElem h, List.sum_append, List.getD_eq_getElem?_getD, List.getElem?_eq_getElem h]
      simp [one1]
    · rw [List.take_of_length_le h, List.take_of_length_le (by omega), List.getD_eq_getElem?_getD, List.getElem?_eq_none h]
      simp [one1]
theorem wS_sum (p : List Int) : wS one1 p p.length = p.sum := by rw [wS_one, List.take_length]
theorem getD_out {p : List Int} {j : Nat} (h : p.length ≤ j) : p.getD j 0 = 0 := by rw [List.getD_eq_getElem?_getD, List.getElem?_eq_none h]; rfl
theorem sum_nn {p : List Int} (hp : NN p) : 0 ≤ p.sum := by rw [← wS_sum]; exact wS_nn (fun _ => by simp [one1]) hp _
theorem at_le_sum {p : List Int} (hp : NN p) (j : Nat) : p.getD j 0 ≤ p.sum := by
  rcases Nat.lt_or_ge j p.length with h | h
  · have := wS_at (f := one1) (fun _ => by simp [one1]) hp p.length h
    rw [wS_sum] at this; simpa [one1] using this
  · rw [getD_out h]; exact sum_nn hp
theorem zero_of_sum {p : List Int} (hp : NN p) (h : p.sum = 0) (j : Nat) : p.getD j 0 = 0 := by
  have := at_le_sum hp j; have := hp j; omega
theorem NN.drop {p : List Int} (hp : NN p) (m : Nat) : NN (p.drop m) := fun j => by
  rw [List.getD_eq_getElem?_getD, List.getElem?_drop, ← List.getD_eq_getElem?_getD]; exact hp _
theorem drop_at (p : List Int) (m j : Nat) : (p.drop m).getD j 0 = p.getD (m + j) 0 := by
  rw [List.getD_eq_getElem?_getD, List.getElem?_drop, ← List.getD_eq_getElem?_getD]
theorem drop_pos {p : List Int} (hp : NN p) (m : Nat) : 0 < (p.drop m).sum ↔ ∃ j, m ≤ j ∧ 0 < p.getD j 0 := by
  constructor
  · intro h
    apply Classical.byContradiction
    intro hn
    have hz : ∀ j, (p.drop m).getD j 0 = 0 := fun j => by
      rw [drop_at]
      have h1 := hp (m + j)
      have h2 : ¬ 0 < p.getD (m + j) 0 := fun h => hn ⟨m + j, by omega, h⟩
      omega
    have := wS_zero (f := one1) hz (p.drop m).length
    rw [wS_sum] at this; omega
  · rintro ⟨j, h1, h2⟩
    have := at_le_sum (hp.drop m) (j - m)
    rw [drop_at, show m + (j - m) = j by omega] at this; omega
/-- the greatest place that holds a checker -/
theorem top_ex {p : List Int} (hp : NN p) : ∀ k, (∃ j, j < k ∧ 0 < p.getD j 0) → ∃ i, i < k ∧ 0 < p.getD i 0 ∧ ∀ j, i < j → j < k → p.getD j 0 = 0
  | 0, ⟨j, h, _⟩ => by omega
  | k + 1, ⟨j, h, h2⟩ => by
    by_cases hk : 0 < p.getD k 0
    · exact ⟨k, by omega, hk, fun j h1 h2 => by omega⟩
    · obtain ⟨i, h3, h4, h5⟩ := top_ex hp k ⟨j, by
        rcases Nat.lt_or_ge j k with h | h
        · exact h
        · have : j = k := by omega
          subst this; exact absurd h2 hk, h2⟩
      refine ⟨i, by omega, h4, fun j h6 h7 => ?_⟩
      by_cases e : j = k
      · subst e; have := hp j; omega
      · exact h5 j h6 (by omega)

/-- a step with a die from place i -/
def moveD (p : List Int) (die : Int) (i : Nat) : List Int :=
  if die ≤ (i : Int) then (p.set i (p.getD i 0 - 1)).set ((i : Int) - die).toNat ((p.set i (p.getD i 0 - 1)).getD ((i : Int) - die).toNat 0 + 1) else p.set i (p.getD i 0 - 1)
def canGo (p : List Int) (die : Int) (i : Nat) : Bool := decide (p.getD i 0 ≠ 0) && !(decide ((i : Int) + 1 < die) && decide (0 < (p.drop (i + 1)).sum))
def stepsP (p : List Int) (die : Int) : List (List Int) := ((List.range p.length).filter (canGo p die)).map (moveD p die)
/-- positions of n places with at most 15 checkers -/
structure OkP (n : Nat) (p : List Int) : Prop where
  len : p.length = n
  nn : NN p
  sum : p.sum ≤ 15
theorem OkP.le {n : Nat} {p : List Int} (h : OkP n p) (j : Nat) : 0 ≤ p.getD j 0 ∧ p.getD j 0 ≤ 15 := ⟨h.nn j, by have := at_le_sum h.nn j; have := h.sum; omega⟩
theorem stepsP_mem {p q : List Int} {die : Int} : q ∈ stepsP p die ↔ ∃ i, i < p.length ∧ canGo p die i = true ∧ moveD p die i = q := by
  simp only [stepsP, List.mem_map, List.mem_filter, List.mem_range, and_assoc]
theorem canGo_pos {p : List Int} (hp : NN p) {die : Int} {i : Nat} (h : canGo p die i = true) : 0 < p.getD i 0 := by
  simp only [canGo, Bool.and_eq_true, decide_eq_true_eq] at h
  have := hp i; omega
/-- what a step makes of a weighted sum -/
theorem moveD_w {n : Nat} {p : List Int} (h : OkP n p) {die : Int} (hd : 1 ≤ die) {i : Nat} (hi : i < p.length) (hpos : 0 < p.getD i 0) (f : Nat → Int) :
    (moveD p die i).length = n ∧ NN (moveD p die i) ∧ wS f (moveD p die i) n = wS f p n - f i + (if die ≤ (i : Int) then f ((i : Int) - die).toNat else 0) := by
  have hl := h.len
  have e1 : wS f (p.set i (p.getD i 0 - 1)) n = wS f p n - f i := by
    rw [wS_set f p i _ hi, if_pos (by omega), show p.getD i 0 - 1 - p.getD i 0 = -1 by omega, Int.mul_neg, Int.mul_one]; omega
  have n1 : NN (p.set i (p.getD i 0 - 1)) := fun j => by
    by_cases hj : i = j
    · subst hj; rw [set_self0 hi]; omega
    · rw [List.getD_eq_getElem?_getD, List.getElem?_set_ne hj, ← List.getD_eq_getElem?_getD]; exact h.nn j
  unfold moveD
  by_cases hm : die ≤ (i : Int)
  · rw [if_pos hm, if_pos hm]
    generalize hq : p.set i (p.getD i 0 - 1) = q at *
    have hql : q.length = p.length := by rw [← hq]; simp
    have hk : ((i : Int) - die).toNat < q.length := by omega
    refine ⟨by simp; omega, fun j => ?_, ?_⟩
    · by_cases hj : ((i : Int) - die).toNat = j
      · subst hj; rw [set_self0 hk]; have := n1 ((i : Int) - die).toNat; omega
      · rw [List.getD_eq_getElem?_getD, List.getElem?_set_ne hj, ← List.getD_eq_getElem?_getD]; exact n1 j
    · rw [wS_set f q _ _ hk, if_pos (by omega), e1, show q.getD ((i : Int) - die).toNat 0 + 1 - q.getD ((i : Int) - die).toNat 0 = 1 by omega, Int.mul_one]
  · rw [if_neg hm, if_neg hm]
    exact ⟨by simp; omega, n1, by rw [e1]; omega⟩
/-- a step: where it starts, and what it makes of the sums -/
theorem step_of {n : Nat} {p q : List Int} (h : OkP n p) {die : Int} (hd : 1 ≤ die) (hq : q ∈ stepsP p die) :
    OkP n q ∧ ∃ i : Nat, i < n ∧ 0 < p.getD i 0 ∧ q = moveD p die i ∧ ∀ f, wS f q n = wS f p n - f i + (if die ≤ (i : Int) then f ((i : Int) - die).toNat else 0) := by
  obtain ⟨i, hi, hc, rfl⟩ := stepsP_mem.1 hq
  have hpos := canGo_pos h.nn hc
  have hm := fun f => moveD_w h hd hi hpos f
  have hl := (hm one1).1
  refine ⟨⟨hl, (hm one1).2.1, ?_⟩, i, by have := h.len; omega, hpos, rfl, fun f => (hm f).2.2⟩
  have := (hm one1).2.2
  rw [show wS one1 (moveD p die i) n = (moveD p die i).sum by rw [← wS_sum, hl], show wS one1 p n = p.sum by rw [← wS_sum, h.len]] at this
  have h15 := h.sum
  simp only [one1] at this
  split at this <;> omega
theorem wSum {n : Nat} {p : List Int} (h : OkP n p) : wS one1 p n = p.sum := by rw [← wS_sum, h.len]
/-- a position with a checker has a step -/
theorem stepsP_ne {n : Nat} {p : List Int} (h : OkP n p) (die : Int) (hs : p.sum ≠ 0) : stepsP p die ≠ [] := by
  have h0 := sum_nn h.nn
  obtain ⟨j, hj, hp⟩ := (drop_pos h.nn 0).1 (by rw [List.drop_zero]; omega)
  have hjl : j < p.length := by
    rcases Nat.lt_or_ge j p.length with h | h
    · exact h
    · rw [getD_out h] at hp; omega
  obtain ⟨i, h1, h2, h3⟩ := top_ex h.nn p.length ⟨j, hjl, hp⟩
  have hz : ¬ 0 < (p.drop (i + 1)).sum := fun hh => by
    obtain ⟨k, k1, k2⟩ := (drop_pos h.nn (i + 1)).1 hh
    rcases Nat.lt_or_ge k p.length with hk | hk
    · rw [h3 k (by omega) hk] at k2; omega
    · rw [getD_out hk] at k2; omega
  have : moveD p die i ∈ stepsP p die := stepsP_mem.2 ⟨i, h1, by simp only [canGo, Bool.and_eq_true, decide_eq_true_eq]; exact ⟨by omega, by simp [hz]⟩, rfl⟩
  intro e; rw [e] at this; simp at this
theorem stepsP_nil {n : Nat} {p : List Int} (h : OkP n p) (die : Int) (hs : p.sum = 0) : stepsP p die = [] := by
  apply List.eq_nil_iff_forall_not_mem.2
  intro q hq
  obtain ⟨i, hi, hc, -⟩ := stepsP_mem.1 hq
  have := canGo_pos h.nn hc
  rw [zero_of_sum h.nn hs] at this; omega

/-- the positions after as many steps with the dice as possible -/
def reachP : List Int → List Int → List (List Int)
  | [], p => [p]
  | d :: ds, p => if p.sum = 0 then [p] else (stepsP p d).flatMap (reachP ds)
def walkStep (w : List Int → List (List Int) × Int) (s : List (List Int) × Int) (q : List Int) : List (List Int) × Int :=
  if s.2 < (w q).2 + 1 then ((w q).1.foldl putD [], (w q).2 + 1) else if (w q).2 + 1 = s.2 then ((w q).1.foldl putD s.1, s.2) else s
/-- the reference's list of them, and the number of steps -/
def walkP : List Int → List Int → List (List Int) × Int
  | [], p => ([p], 0)
  | d :: ds, p => (stepsP p d).foldl (walkStep (walkP ds)) ([p], 0)
def numP : List Int → List Int → Int
  | [], _ => 0
  | d :: ds, p => match stepsP p d with | [] => 0 | q :: _ => numP ds q + 1
/-- every way takes as many steps -/
def UniP : List Int → List Int → Prop
  | [], _ => True
  | d :: ds, p => ∀ q, q ∈ stepsP p d → UniP ds q ∧ numP ds q + 1 = numP (d :: ds) p
def DiceP (ds : List Int) : Prop := ∀ d, d ∈ ds → 1 ≤ d
theorem numP_nn : ∀ (ds p : List Int), 0 ≤ numP ds p
  | [], _ => by simp [numP]
  | d :: ds, p => by
    simp only [numP]
    split
    · omega
    · next q l _ => have := numP_nn ds q; omega
theorem reachP_ok {n : Nat} : ∀ {ds p : List Int}, DiceP ds → OkP n p → ∀ q, q ∈ reachP ds p → OkP n q
  | [], p, _, h, q, hq => by simp only [reachP, List.mem_singleton] at hq; subst hq; exact h
  | d :: ds, p, hd, h, q, hq => by
    simp only [reachP] at hq
    split at hq
    · simp only [List.mem_singleton] at hq; subst hq; exact h
    · obtain ⟨r, hr, hq⟩ := List.mem_flatMap.1 hq
      exact reachP_ok (fun x hx => hd x (List.mem_cons_of_mem _ hx)) (step_of h (hd d (by simp)) hr).1 q hq
theorem reachP_len {n : Nat} {ds p : List Int} (hd : DiceP ds) (h : OkP n p) : LenL n (reachP ds p) := fun q hq => (reachP_ok hd h q hq).len
theorem reachP_zero {ds p : List Int} (h : p.sum = 0) : reachP ds p = [p] := by cases ds <;> simp [reachP, h]
theorem canon_one {n : Nat} {p : List Int} (_ : p.length = n) : canonD [p] = [p] := rfl
theorem fold_walk {n : Nat} {ds : List Int} {N : Int} : ∀ {qs acc : List (List Int)}, LenL n acc → (∀ q, q ∈ qs → LenL n (reachP ds q) ∧ walkP ds q = (canonD (reachP ds q), N - 1)) →
    qs.foldl (walkStep (walkP ds)) (canonD acc, N) = (canonD (acc ++ qs.flatMap (reachP ds)), N)
  | [], acc, _, _ => by simp
  | q :: qs, acc, ha, h => by
    obtain ⟨h1, h2⟩ := h q (by simp)
    have e : walkStep (walkP ds) (canonD acc, N) q = (canonD (acc ++ reachP ds q), N) := by
      unfold walkStep
      rw [h2]
      simp only
      rw [if_neg (by omega), if_pos (by omega), foldP_canon (n := n) ha (canonD_all h1).2.1]
      congr 1
      exact canonD_congr (n := n) (fun x hx => (List.mem_append.1 hx).elim (ha x) (h1 x)) fun x => by simp only [List.mem_append, (canonD_all h1).2.2 x]
    rw [List.foldl_cons, e, fold_walk (n := n) (fun x hx => (List.mem_append.1 hx).elim (ha x) (h1 x)) fun r hr => h r (List.mem_cons_of_mem _ hr), List.flatMap_cons, List.append_assoc]
theorem walk_eq {n : Nat} : ∀ {ds p : List Int}, DiceP ds → OkP n p → UniP ds p → walkP ds p = (canonD (reachP ds p), numP ds p)
  | [], p, _, h, _ => by simp only [walkP, reachP, numP]; rw [canon_one h.len]
  | d :: ds, p, hd, h, hu => by
    have hd' : DiceP ds := fun x hx => hd x (List.mem_cons_of_mem _ hx)
    have hd1 := hd d (by simp)
    by_cases hs : p.sum = 0
    · simp only [walkP, reachP, numP, stepsP_nil h d hs, List.foldl_nil, if_pos hs]; rw [canon_one h.len]
    · have hall : ∀ q, q ∈ stepsP p d → LenL n (reachP ds q) ∧ walkP ds q = (canonD (reachP ds q), numP (d :: ds) p - 1) := fun q hq => by
        have hq1 := (step_of h hd1 hq).1
        obtain ⟨u1, u2⟩ := hu q hq
        exact ⟨reachP_len hd' hq1, by rw [walk_eq hd' hq1 u1, ← u2]; congr 1; omega⟩
      cases hst : stepsP p d with
      | nil => exact absurd hst (stepsP_ne h d hs)
      | cons q qs =>
        rw [hst] at hall
        obtain ⟨h1, h2⟩ := hall q (by simp)
        have hN : 1 ≤ numP (d :: ds) p := by
          have := (hu q (by rw [hst]; simp)).2
          have := numP_nn ds q; omega
        simp only [walkP, reachP, hst, if_neg hs]
        have e : walkStep (walkP ds) ([p], 0) q = (canonD (reachP ds q), numP (d :: ds) p) := by
          unfold walkStep
          rw [h2]
          simp only
          rw [if_pos (by omega)]
          congr 1
          · exact canonD_congr (n := n) h1 fun x => (canonD_all h1).2.2 x
          · omega
        rw [List.foldl_cons, e, fold_walk (n := n) h1 fun r hr => hall r (List.mem_cons_of_mem _ hr), List.flatMap_cons]
end Go.Proofs.Ytgfpojneeekgkaa
