/-
  Plain: the results of a roll: both ways to list them agree; what they are.
-/
import Derived.Test.YtgfpojneeekgkaaMathRes2
namespace Go.Proofs.Ytgfpojneeekgkaa

/-- how many steps with a die a checker at a place takes -/
def cw (a : Int) : Nat → Int := fun i => ((i : Int) + a) / a
theorem cw_step {a : Int} (ha : 1 ≤ a) (i : Nat) : cw a i - (if a ≤ (i : Int) then cw a ((i : Int) - a).toNat else 0) = 1 := by
  have e : ((i : Int) + a) / a = (i : Int) / a + 1 := by
    have := Int.add_mul_ediv_right (i : Int) 1 (c := a) (by omega)
    rwa [Int.one_mul] at this
  unfold cw
  split
  · next h =>
    rw [show ((((i : Int) - a).toNat : Nat) : Int) = (i : Int) - a by omega, show (i : Int) - a + a = i by omega, e]; omega
  · next h =>
    rw [e, Int.ediv_eq_zero_of_lt (by omega) (by omega)]; rfl
theorem cw_ge {a : Int} (ha : 1 ≤ a) (i : Nat) : 1 ≤ cw a i := by
  unfold cw
  rw [show (i : Int) + a = i + 1 * a by omega, Int.add_mul_ediv_right _ _ (by omega)]
  have := Int.ediv_nonneg (show (0 : Int) ≤ i by omega) (show 0 ≤ a by omega)
  omega
theorem rep_ok {n : Nat} {a : Int} (ha : 1 ≤ a) : ∀ (m : Nat) {p : List Int}, OkP n p → numP (List.replicate m a) p = min (m : Int) (wS (cw a) p n) ∧ UniP (List.replicate m a) p
  | 0, p, h => by
    have := wS_nn (f := cw a) (fun i => by have := cw_ge ha i; omega) h.nn n
    exact ⟨by simp only [List.replicate, numP]; omega, trivial⟩
  | m + 1, p, h => by
    have hw0 := wS_nn (f := cw a) (fun i => by have := cw_ge ha i; omega) h.nn n
    by_cases hs : p.sum = 0
    · have hz := wS_zero (f := cw a) (fun j => zero_of_sum h.nn hs j) n
      refine ⟨by simp only [List.replicate, numP, stepsP_nil h a hs]; omega, fun q hq => by rw [stepsP_nil h a hs] at hq; simp at hq⟩
    · have hall : ∀ q, q ∈ stepsP p a → numP (List.replicate m a) q = min (m : Int) (wS (cw a) p n - 1) ∧ UniP (List.replicate m a) q := fun q hq => by
        obtain ⟨h1, i, _, _, _, h2⟩ := step_of h ha hq
        obtain ⟨i1, i2⟩ := rep_ok ha m h1
        have := h2 (cw a)
        have := cw_step ha i
        refine ⟨?_, i2⟩
        rw [i1]
        split at * <;> (congr 1; omega)
      have hw1 : 1 ≤ wS (cw a) p n := by
        have := wS_le (f := one1) (g := cw a) (fun i => cw_ge ha i) h.nn n
        rw [wSum h] at this
        have := sum_nn h.nn; omega
      have hnum : numP (List.replicate (m + 1) a) p = min ((m + 1 : Nat) : Int) (wS (cw a) p n) := by
        cases hst : stepsP p a with
        | nil => exact absurd hst (stepsP_ne h a hs)
        | cons q qs =>
          simp only [List.replicate, numP, hst]
          rw [(hall q (by rw [hst]; simp)).1]; omega
      refine ⟨hnum, fun q hq => ⟨(hall q hq).2, ?_⟩⟩
      have e : a :: List.replicate m a = List.replicate (m + 1) a := rfl
      rw [e, hnum, (hall q hq).1]; omega
theorem two_le {n : Nat} {p : List Int} (h : OkP n p) {i j : Nat} (hij : i ≠ j) (hi : 0 < p.getD i 0) (hj : 0 < p.getD j 0) : 2 ≤ p.sum := by
  have hil : i < p.length := by
    rcases Nat.lt_or_ge i p.length with h | h
    · exact h
    · rw [getD_out h] at hi; omega
  have hn : NN (p.set i 0) := fun k => by
    by_cases e : i = k
    · subst e; rw [set_self0 hil]; omega
    · rw [List.getD_eq_getElem?_getD, List.getElem?_set_ne e, ← List.getD_eq_getElem?_getD]; exact h.nn k
  have h1 := at_le_sum hn j
  rw [List.getD_eq_getElem?_getD, List.getElem?_set_ne hij, ← List.getD_eq_getElem?_getD] at h1
  have h2 := wS_set one1 p i 0 hil p.length
  rw [if_pos hil, wS_sum, show p.length = (p.set i 0).length by simp, wS_sum] at h2
  simp only [one1] at h2
  omega
theorem step_sum {n : Nat} {p q : List Int} (h : OkP n p) {die : Int} (hd : 1 ≤ die) (hq : q ∈ stepsP p die) : q.sum = p.sum ∨ q.sum = p.sum - 1 := by
  obtain ⟨h1, i, _, _, _, h2⟩ := step_of h hd hq
  have := h2 one1
  rw [wSum h, wSum h1] at this
  simp only [one1] at this
  split at this <;> omega
theorem num1 {n : Nat} {q : List Int} (h : OkP n q) (b : Int) : numP [b] q = if q.sum = 0 then 0 else 1 := by
  simp only [numP]
  split
  · next e => rw [if_pos (Classical.byContradiction fun hs => stepsP_ne h b hs e)]
  · next e => rw [if_neg fun hs => by rw [stepsP_nil h b hs] at e; cases e]; rfl
theorem uni2 {n : Nat} {p : List Int} (h : OkP n p) {a b : Int} (ha : 1 ≤ a) : UniP [a, b] p := fun q hq => by
  refine ⟨fun r hr => ⟨trivial, ?_⟩, ?_⟩
  · simp only [numP]
    split
    · next e => rw [e] at hr; simp at hr
    · rfl
  · have hs0 : p.sum ≠ 0 := fun e => by rw [stepsP_nil h a e] at hq; simp at hq
    have h0 := sum_nn h.nn
    cases hst : stepsP p a with
    | nil => rw [hst] at hq; simp at hq
    | cons q0 qs =>
      have hq0 : q0 ∈ stepsP p a := by rw [hst]; simp
      have e : numP [a, b] p = numP [b] q0 + 1 := by simp only [numP, hst]
      rw [e]
      congr 1
      obtain ⟨k1, i, _, hi, ei, _⟩ := step_of h ha hq
      obtain ⟨k2, j, _, hj, ej, _⟩ := step_of h ha hq0
      by_cases hij : i = j
      · rw [ei, ej, hij]
      · have := two_le h hij hi hj
        have s1 := step_sum h ha hq
        have s2 := step_sum h ha hq0
        rw [num1 k1, num1 k2, if_neg (by omega), if_neg (by omega)]
/-- the orders of a roll -/
def ordP (r : Int × Int) : List (List Int) := if r.1 = r.2 then [[r.1, r.1, r.1, r.1]] else [[r.1, r.2], [r.2, r.1]]
/-- the results of a roll -/
def resP (p : List Int) (r : Int × Int) : List (List Int) := canonD ((ordP r).flatMap fun o => reachP o p)
def specRes (p : List Int) (r : Int × Int) : List (List Int) :=
  if r.1 = r.2 then (walkP [r.1, r.1, r.1, r.1] p).1 else
    if (walkP [r.1, r.2] p).2 < (walkP [r.2, r.1] p).2 then (walkP [r.2, r.1] p).1 else
      if (walkP [r.2, r.1] p).2 = (walkP [r.1, r.2] p).2 then (walkP [r.2, r.1] p).1.foldl putD (walkP [r.1, r.2] p).1 else (walkP [r.1, r.2] p).1
def idx1 : Nat → Int := fun i => i
theorem place {n : Nat} {p : List Int} (h : OkP n p) (hs : p.sum = 1) {i : Nat} (hi : 0 < p.getD i 0) : wS idx1 p n = i := by
  have hil : i < p.length := by
    rcases Nat.lt_or_ge i p.length with h | h
    · exact h
    · rw [getD_out h] at hi; omega
  have h1 := at_le_sum h.nn i
  have hz : ∀ k, (p.set i 0).getD k 0 = 0 := fun k => by
    by_cases e : i = k
    · subst e; rw [set_self0 hil]
    · rw [List.getD_eq_getElem?_getD, List.getElem?_set_ne e, ← List.getD_eq_getElem?_getD]
      have := h.nn k
      apply Classical.byContradiction
      intro hk
      have := two_le h e hi (by omega)
      omega
  have h2 := wS_set idx1 p i 0 hil n
  rw [wS_zero hz n, if_pos (by have := h.len; omega), show p.getD i 0 = 1 by omega] at h2
  simp only [idx1] at h2
  omega
theorem zero_eq {n : Nat} {p q : List Int} (hp : OkP n p) (hq : OkP n q) (h1 : p.sum = 0) (h2 : q.sum = 0) : p = q :=
  list_ext0 (hp.len.trans hq.len.symm) fun j _ => by rw [zero_of_sum hp.nn h1, zero_of_sum hq.nn h2]
/-- one checker: after a die it is off if the die is great enough -/
theorem lone {n : Nat} {p q : List Int} (h : OkP n p) (hs : p.sum = 1) {d : Int} (hd : 1 ≤ d) (hq : q ∈ stepsP p d) : (wS idx1 p n < d → q.sum = 0) ∧ (¬ wS idx1 p n < d → q.sum = 1 ∧ wS idx1 q n = wS idx1 p n - d) := by
  obtain ⟨h1, i, hin, hi, _, h2⟩ := step_of h hd hq
  have e := place h hs hi
  have k1 := h2 one1
  have k2 := h2 idx1
  rw [wSum h, wSum h1] at k1
  rw [e] at k2 ⊢
  simp only [one1, idx1] at k1 k2
  split at k1
  · next hm =>
    rw [if_pos hm] at k2
    exact ⟨fun h => by omega, fun _ => ⟨by omega, by omega⟩⟩
  · next hm => exact ⟨fun _ => by omega, fun h => by omega⟩
theorem num2 {n : Nat} {p : List Int} (h : OkP n p) {a b : Int} (ha : 1 ≤ a) : numP [a, b] p = if p.sum = 0 then 0 else if p.sum = 1 ∧ wS idx1 p n < a then 1 else 2 := by
  by_cases hs : p.sum = 0
  · rw [if_pos hs]; simp only [numP, stepsP_nil h a hs]
  · rw [if_neg hs]
    have h0 := sum_nn h.nn
    cases hst : stepsP p a with
    | nil => exact absurd hst (stepsP_ne h a hs)
    | cons q qs =>
      have hq : q ∈ stepsP p a := by rw [hst]; simp
      have hq1 := (step_of h ha hq).1
      have e : numP [a, b] p = numP [b] q + 1 := by simp only [numP, hst]
      rw [e, num1 hq1]
      have hs1 := step_sum h ha hq
      by_cases h1 : p.sum = 1
      · obtain ⟨l1, l2⟩ := lone h h1 ha hq
        by_cases hw : wS idx1 p n < a
        · rw [if_pos (l1 hw), if_pos ⟨h1, hw⟩]; rfl
        · rw [if_neg (by have := (l2 hw).1; omega), if_neg (fun h => hw h.2)]; rfl
      · rw [if_neg (by omega), if_neg (fun h => h1 h.1)]; rfl
theorem reach2 {n : Nat} {p : List Int} (h : OkP n p) (hs : p.sum = 1) {a b : Int} (ha : 1 ≤ a) (hb : 1 ≤ b) (hw : wS idx1 p n < a + b) :
    (∃ x, x ∈ reachP [a, b] p) ∧ ∀ x, x ∈ reachP [a, b] p → OkP n x ∧ x.sum = 0 := by
  have hs0 : p.sum ≠ 0 := by omega
  have all : ∀ q, q ∈ stepsP p a → (∃ x, x ∈ reachP [b] q) ∧ ∀ x, x ∈ reachP [b] q → OkP n x ∧ x.sum = 0 := fun q hq => by
    have hq1 := (step_of h ha hq).1
    obtain ⟨l1, l2⟩ := lone h hs ha hq
    by_cases hz : q.sum = 0
    · rw [reachP_zero hz]; exact ⟨⟨q, by simp⟩, fun x hx => by simp only [List.mem_singleton] at hx; subst hx; exact ⟨hq1, hz⟩⟩
    · have hwa : ¬ wS idx1 p n < a := fun hh => hz (l1 hh)
      obtain ⟨m1, m2⟩ := l2 hwa
      have e : ∀ x, x ∈ reachP [b] q ↔ x ∈ stepsP q b := fun x => by
        simp only [reachP, if_neg hz, List.mem_flatMap, List.mem_singleton]
        exact ⟨fun ⟨y, hy, e⟩ => e ▸ hy, fun hx => ⟨x, hx, rfl⟩⟩
      refine ⟨?_, fun x hx => ?_⟩
      · cases hst : stepsP q b with
        | nil => exact absurd hst (stepsP_ne hq1 b hz)
        | cons r rs => exact ⟨r, (e r).2 (by rw [hst]; simp)⟩
      · have hx' := (e x).1 hx
        exact ⟨(step_of hq1 hb hx').1, (lone hq1 m1 hb hx').1 (by omega)⟩
  simp only [reachP, if_neg hs0, List.mem_flatMap] at all ⊢
  refine ⟨?_, fun x ⟨q, hq, hx⟩ => (all q hq).2 x hx⟩
  cases hst : stepsP p a with
  | nil => exact absurd hst (stepsP_ne h a hs0)
  | cons r rs =>
    obtain ⟨x, hx⟩ := (all r (by rw [hst]; simp)).1
    exact ⟨x, r, by simp, hx⟩
theorem specRes_eq {n : Nat} {p : List Int} (h : OkP n p) {r : Int × Int} (h1 : 1 ≤ r.2) (h2 : r.2 ≤ r.1) : specRes p r = resP p r := by
  obtain ⟨a, b⟩ := r
  simp only at h1 h2
  unfold specRes resP ordP
  simp only
  by_cases e : a = b
  · rw [if_pos e, if_pos e]
    have hd : DiceP [a, a, a, a] := fun d hd => by simp at hd; subst hd; omega
    have := rep_ok (n := n) (a := a) (by omega) 4 h
    rw [walk_eq hd h (show UniP [a, a, a, a] p from this.2)]
    simp
  · rw [if_neg e, if_neg e]
    have d1 : DiceP [a, b] := fun d hd => by simp at hd; omega
    have d2 : DiceP [b, a] := fun d hd => by simp at hd; omega
    have u1 := uni2 h (a := a) (b := b) (by omega)
    have u2 := uni2 h (a := b) (b := a) (by omega)
    have l1 := reachP_len d1 h
    have l2 := reachP_len d2 h
    have la : LenL n (reachP [a, b] p ++ reachP [b, a] p) := fun x hx => (List.mem_append.1 hx).elim (l1 x) (l2 x)
    rw [walk_eq d1 h u1, walk_eq d2 h u2]
    simp only [List.flatMap_cons, List.flatMap_nil, List.append_nil]
    by_cases hn : numP [b, a] p = numP [a, b] p
    · rw [if_neg (by omega), if_pos hn, foldP_canon (n := n) l1 (canonD_all l2).2.1]
      exact canonD_congr (n := n) la fun x => by simp only [List.mem_append, (canonD_all l2).2.2 x]
    · rw [num2 h (a := a) (b := b) (by omega), num2 h (a := b) (b := a) (by omega)] at hn ⊢
      have hs0 : p.sum ≠ 0 := fun e => by rw [if_pos e, if_pos e] at hn; exact hn rfl
      rw [if_neg hs0, if_neg hs0] at hn ⊢
      have hs1 : p.sum = 1 := Classical.byContradiction fun hh => by rw [if_neg (fun h => hh h.1), if_neg (fun h => hh h.1)] at hn; exact hn rfl
      have hwa : wS idx1 p n < a := Classical.byContradiction fun hh => by rw [if_neg (fun h => hh (by have := h.2; omega)), if_neg (fun h => hh h.2)] at hn; exact hn rfl
      have hwb : ¬ wS idx1 p n < b := fun hh => by rw [if_pos ⟨hs1, hh⟩, if_pos ⟨hs1, hwa⟩] at hn; exact hn rfl
      have hA : p.sum = 1 ∧ wS idx1 p n < a := ⟨hs1, hwa⟩
      have hB : ¬ (p.sum = 1 ∧ wS idx1 p n < b) := fun h => hwb h.2
      rw [if_pos hA, if_neg hB, if_pos (show (1 : Int) < 2 by decide)]
      obtain ⟨⟨z1, k1⟩, k2⟩ := reach2 h hs1 (a := a) (b := b) (by omega) (by omega) (by omega)
      obtain ⟨⟨z2, m1⟩, m2⟩ := reach2 h hs1 (a := b) (b := a) (by omega) (by omega) (by omega)
      refine canonD_congr (n := n) la fun x => ?_
      rw [List.mem_append]
      refine ⟨.inr, fun hx => hx.elim (fun hx => ?_) id⟩
      obtain ⟨o1, s1⟩ := k2 x hx
      obtain ⟨o2, s2⟩ := m2 z2 m1
      rw [zero_eq o1 o2 s1 s2]; exact m1

def step1 (d : Int) (q : List Int) : List (List Int) := if q.sum = 0 then [q] else stepsP q d
def rowStep (row : List (List Int)) (d : Int) : List (List Int) := canonD (row.flatMap (step1 d))
/-- the program's rows -/
def rowsP (o : List Int) (p : List Int) : List (List Int) := o.foldl rowStep [p]
def AllP (n : Nat) (l : List (List Int)) : Prop := ∀ q, q ∈ l → OkP n q
theorem AllP.len {n : Nat} {l : List (List Int)} (h : AllP n l) : LenL n l := fun q hq => (h q hq).len
theorem step1_ok {n : Nat} {d : Int} (hd : 1 ≤ d) {row : List (List Int)} (h : AllP n row) : AllP n (row.flatMap (step1 d)) := fun q hq => by
  obtain ⟨p, hp, hq⟩ := List.mem_flatMap.1 hq
  unfold step1 at hq
  split at hq
  · simp only [List.mem_singleton] at hq; subst hq; exact h _ hp
  · exact (step_of (h p hp) hd hq).1
theorem rowStep_ok {n : Nat} {d : Int} (hd : 1 ≤ d) {row : List (List Int)} (h : AllP n row) : AllP n (rowStep row d) ∧ ∀ x, x ∈ rowStep row d ↔ x ∈ row.flatMap (step1 d) := by
  have h1 := step1_ok hd h
  have h2 := (canonD_all h1.len).2.2
  exact ⟨fun q hq => h1 q ((h2 q).1 hq), h2⟩
theorem reach_step1 {ds : List Int} {d : Int} {p x : List Int} : x ∈ (step1 d p).flatMap (reachP ds) ↔ x ∈ reachP (d :: ds) p := by
  unfold step1
  by_cases hs : p.sum = 0
  · rw [if_pos hs, reachP_zero hs]; simp [reachP_zero hs]
  · rw [if_neg hs]; simp only [reachP, if_neg hs]
theorem rows_mem {n : Nat} : ∀ {ds : List Int} {row : List (List Int)}, DiceP ds → AllP n row → AllP n (ds.foldl rowStep row) ∧ ∀ x, x ∈ ds.foldl rowStep row ↔ ∃ q, q ∈ row ∧ x ∈ reachP ds q
  | [], row, _, h => ⟨h, fun x => by simp only [List.foldl_nil, reachP, List.mem_singleton]; exact ⟨fun hx => ⟨x, hx, rfl⟩, fun ⟨q, hq, e⟩ => e ▸ hq⟩⟩
  | d :: ds, row, hd, h => by
    obtain ⟨h1, h2⟩ := rowStep_ok (hd d (by simp)) h
    obtain ⟨i1, i2⟩ := rows_mem (ds := ds) (fun x hx => hd x (List.mem_cons_of_mem _ hx)) h1
    refine ⟨i1, fun x => ?_⟩
    rw [List.foldl_cons, i2 x]
    constructor
    · rintro ⟨q, hq, hx⟩
      obtain ⟨p, hp, hq⟩ := List.mem_flatMap.1 ((h2 q).1 hq)
      exact ⟨p, hp, reach_step1.1 (List.mem_flatMap.2 ⟨q, hq, hx⟩)⟩
    · rintro ⟨p, hp, hx⟩
      obtain ⟨q, hq, hx⟩ := List.mem_flatMap.1 (reach_step1.2 hx)
      exact ⟨q, (h2 q).2 (List.mem_flatMap.2 ⟨p, hp, hq⟩), hx⟩
def implRes (p : List Int) (r : Int × Int) : List (List Int) := canonD ((ordP r).flatMap fun o => rowsP o p)
theorem ordP_dice {r : Int × Int} (h1 : 1 ≤ r.2) (h2 : r.2 ≤ r.1) : ∀ o, o ∈ ordP r → DiceP o ∧ o.length ≤ 4 ∧ o ≠ [] ∧ ∀ d, d ∈ o → d ≤ r.1 := by
  intro o ho
  unfold ordP at ho
  split at ho <;> simp only [List.mem_cons, List.not_mem_nil, or_false] at ho
  · subst ho; exact ⟨fun d hd => by simp at hd; omega, by simp, by simp, fun d hd => by simp at hd; omega⟩
  · rcases ho with rfl | rfl <;> exact ⟨fun d hd => by simp at hd; omega, by simp, by simp, fun d hd => by simp at hd; omega⟩
theorem implRes_eq {n : Nat} {p : List Int} (h : OkP n p) {r : Int × Int} (h1 : 1 ≤ r.2) (h2 : r.2 ≤ r.1) : implRes p r = resP p r := by
  have hd := ordP_dice h1 h2
  have hp : AllP n [p] := fun q hq => by simp only [List.mem_singleton] at hq; subst hq; exact h
  refine canonD_congr (n := n) (fun x hx => ?_) fun x => ?_
  · obtain ⟨o, ho, hx⟩ := List.mem_flatMap.1 hx
    exact reachP_len (hd o ho).1 h x hx
  · simp only [List.mem_flatMap]
    refine exists_congr fun o => and_congr_right fun ho => ?_
    rw [rowsP, (rows_mem (hd o ho).1 hp).2 x]
    simp
theorem resP_mem {n : Nat} {p : List Int} (h : OkP n p) {r : Int × Int} (h1 : 1 ≤ r.2) (h2 : r.2 ≤ r.1) : ∀ x, x ∈ resP p r ↔ ∃ o, o ∈ ordP r ∧ x ∈ reachP o p := by
  have hd := ordP_dice h1 h2
  intro x
  rw [resP, (canonD_all (n := n) (fun x hx => by
    obtain ⟨o, ho, hx⟩ := List.mem_flatMap.1 hx
    exact reachP_len (hd o ho).1 h x hx)).2.2 x, List.mem_flatMap]
theorem resP_ok {n : Nat} {p : List Int} (h : OkP n p) {r : Int × Int} (h1 : 1 ≤ r.2) (h2 : r.2 ≤ r.1) : AllP n (resP p r) := fun x hx => by
  obtain ⟨o, ho, hx⟩ := (resP_mem h h1 h2 x).1 hx
  exact reachP_ok (ordP_dice h1 h2 o ho).1 h x hx
theorem reachP_ne {n : Nat} : ∀ {ds p : List Int}, DiceP ds → OkP n p → reachP ds p ≠ []
  | [], p, _, _ => by simp [reachP]
  | d :: ds, p, hd, h => by
    simp only [reachP]
    split
    · simp
    · next hs =>
      cases hst : stepsP p d with
      | nil => exact absurd hst (stepsP_ne h d hs)
      | cons q qs =>
        have := reachP_ne (ds := ds) (fun x hx => hd x (List.mem_cons_of_mem _ hx)) (step_of h (hd d (by simp)) (q := q) (by rw [hst]; simp)).1
        simp [this]
theorem resP_ne {n : Nat} {p : List Int} (h : OkP n p) {r : Int × Int} (h1 : 1 ≤ r.2) (h2 : r.2 ≤ r.1) : resP p r ≠ [] := by
  obtain ⟨o, ho⟩ : ∃ o, o ∈ ordP r := by
    by_cases e : r.1 = r.2
    · exact ⟨[r.1, r.1, r.1, r.1], by simp [ordP, e]⟩
    · exact ⟨[r.1, r.2], by simp [ordP, e]⟩
  have := reachP_ne (ordP_dice h1 h2 o ho).1 h
  obtain ⟨x, hx⟩ := List.exists_mem_of_ne_nil _ this
  have := (resP_mem h h1 h2 x).2 ⟨o, ho, hx⟩
  intro e; rw [e] at this; simp at this
/-- pips -/
def pw : Nat → Int := fun i => (i : Int) + 1
theorem reach_pips {n : Nat} : ∀ {ds p : List Int}, DiceP ds → OkP n p → ∀ q, q ∈ reachP ds p → wS pw p n - ds.sum ≤ wS pw q n ∧ wS pw q n ≤ wS pw p n ∧ (ds ≠ [] → p.sum ≠ 0 → wS pw q n < wS pw p n) ∧ q.sum ≤ p.sum
  | [], p, _, _, q, hq => by simp only [reachP, List.mem_singleton] at hq; subst hq; simp
  | d :: ds, p, hd, h, q, hq => by
    have hd' : DiceP ds := fun x hx => hd x (List.mem_cons_of_mem _ hx)
    have hd1 := hd d (by simp)
    have hds : 0 ≤ ds.sum := by
      clear hq
      induction ds with
      | nil => simp
      | cons x xs ih =>
        have := hd' x (by simp)
        have := ih (fun y hy => hd y (by simp at hy ⊢; rcases hy with h | h <;> simp [h])) (fun y hy => hd' y (List.mem_cons_of_mem _ hy))
        simp only [List.sum_cons]; omega
    simp only [reachP] at hq
    split at hq
    · next hs =>
      simp only [List.mem_singleton] at hq; subst hq
      exact ⟨by simp only [List.sum_cons]; omega, Int.le_refl _, fun _ hh => absurd hs hh, Int.le_refl _⟩
    · next hs =>
      obtain ⟨m, hm, hq⟩ := List.mem_flatMap.1 hq
      obtain ⟨h1, i, _, _, _, h2⟩ := step_of h hd1 hm
      obtain ⟨i1, i2, _, i4⟩ := reach_pips hd' h1 q hq
      have k := h2 pw
      have ks := step_sum h hd1 hm
      simp only [pw, List.sum_cons] at *
      split at k <;> exact ⟨by omega, by omega, fun _ _ => by omega, by omega⟩
theorem putD_length (l : List (List Int)) (p : List Int) : (putD l p).length ≤ l.length + 1 := by
  induction l with
  | nil => simp [putD]
  | cons q l ih => simp only [putD]; split <;> (try split) <;> simp <;> omega
theorem foldP_length : ∀ (l acc : List (List Int)), (l.foldl putD acc).length ≤ acc.length + l.length
  | [], acc => by simp
  | p :: l, acc => by
    have := foldP_length l (putD acc p)
    have := putD_length acc p
    simp only [List.foldl_cons, List.length_cons]; omega
theorem canonD_length (l : List (List Int)) : (canonD l).length ≤ l.length := by
  have := foldP_length l []
  simpa [canonD] using this
theorem stepsP_length (p : List Int) (d : Int) : (stepsP p d).length ≤ p.length := by
  unfold stepsP
  rw [List.length_map]
  exact Nat.le_trans (List.length_filter_le _ _) (by simp)
end Go.Proofs.Ytgfpojneeekgkaa
