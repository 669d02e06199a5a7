/-
  Plain: positions in order, lists of positions that are sorted and hold each once.
-/
import Derived.Test.YtgbfcjnkohhfoaaIn
namespace Go.Proofs.Ytgbfcjnkohhfoaa

/-- the comparison of two positions from place k down -/
def cmpTo (p q : List Int) : Nat → Int
  | 0 => 0
  | k + 1 => if p.getD k 0 = q.getD k 0 then cmpTo p q k else p.getD k 0 - q.getD k 0
theorem cmpTo_self (p : List Int) : ∀ k, cmpTo p p k = 0
  | 0 => rfl
  | k + 1 => by simp only [cmpTo]; rw [if_pos trivial]; exact cmpTo_self p k
theorem cmpTo_trans {p q r : List Int} : ∀ k, cmpTo p q k < 0 → cmpTo q r k < 0 → cmpTo p r k < 0
  | 0, h, _ => by simp [cmpTo] at h
  | k + 1, h1, h2 => by
    have ih := cmpTo_trans (p := p) (q := q) (r := r) k
    simp only [cmpTo] at h1 h2 ⊢
    split at h1 <;> split at h2 <;> split <;> first | omega | (exact ih h1 h2)
theorem cmpTo_ntrans {p q r : List Int} : ∀ k, ¬ cmpTo p q k < 0 → ¬ cmpTo q r k < 0 → ¬ cmpTo p r k < 0
  | 0, _, _ => by simp [cmpTo]
  | k + 1, h1, h2 => by
    have ih := cmpTo_ntrans (p := p) (q := q) (r := r) k
    simp only [cmpTo] at h1 h2 ⊢
    split at h1 <;> split at h2 <;> split <;> first | omega | (exact ih h1 h2)
theorem cmpTo_eq {p q : List Int} : ∀ k, ¬ cmpTo p q k < 0 → ¬ cmpTo q p k < 0 → ∀ j, j < k → p.getD j 0 = q.getD j 0
  | 0, _, _, j, hj => by omega
  | k + 1, h1, h2, j, hj => by
    have ih := cmpTo_eq (p := p) (q := q) k
    simp only [cmpTo] at h1 h2
    split at h1
    · next e =>
      rw [if_pos e.symm] at h2
      by_cases hk : j = k
      · subst hk; exact e
      · exact ih h1 h2 j (by omega)
    · next e => rw [if_neg (fun h => e h.symm)] at h2; omega
theorem list_ext0 {p q : List Int} (hl : p.length = q.length) (h : ∀ j, j < p.length → p.getD j 0 = q.getD j 0) : p = q := by
  refine List.ext_getElem hl fun j h1 h2 => ?_
  have := h j h1
  rwa [List.getD_eq_getElem?_getD, List.getD_eq_getElem?_getD, List.getElem?_eq_getElem h1, List.getElem?_eq_getElem h2] at this
/-- p comes before q (positions of one length) -/
def befD (p q : List Int) : Bool := decide (cmpTo p q p.length < 0)
/-- all of one length -/
def LenL (n : Nat) (l : List (List Int)) : Prop := ∀ p, p ∈ l → p.length = n
theorem befD_irr (p : List Int) : befD p p = false := by simp [befD, cmpTo_self]
theorem befD_trans {n : Nat} {p q r : List Int} (hp : p.length = n) (hq : q.length = n) (h1 : befD p q = true) (h2 : befD q r = true) : befD p r = true := by
  simp only [befD, decide_eq_true_eq] at h1 h2 ⊢
  rw [hp] at h1 ⊢; rw [hq] at h2
  exact cmpTo_trans n h1 h2
theorem befD_tot {n : Nat} {p q : List Int} (hp : p.length = n) (hq : q.length = n) (h1 : befD p q = false) (h2 : befD q p = false) : p = q := by
  simp only [befD, decide_eq_false_iff_not] at h1 h2
  rw [hp] at h1; rw [hq] at h2
  exact list_ext0 (hp.trans hq.symm) fun j hj => cmpTo_eq n h1 h2 j (by omega)
/-- a position put at its place, once -/
def putD (l : List (List Int)) (p : List Int) : List (List Int) :=
  match l with
  | [] => [p]
  | q :: l => if befD q p = true then q :: putD l p else if befD p q = true then p :: q :: l else q :: l
def canonD (l : List (List Int)) : List (List Int) := l.foldl putD []
def SS (l : List (List Int)) : Prop := l.Pairwise fun a b => befD a b = true
theorem putD_mem {n : Nat} {l : List (List Int)} {p : List Int} (hl : LenL n l) (hp : p.length = n) : ∀ x, x ∈ putD l p ↔ x ∈ l ∨ x = p := by
  induction l with
  | nil => intro x; simp [putD]
  | cons q l ih =>
    intro x
    have hq : q.length = n := hl q (by simp)
    have ih := ih (fun y hy => hl y (List.mem_cons_of_mem _ hy)) x
    simp only [putD]
    split
    · simp only [List.mem_cons, ih, or_assoc]
    · next h1 =>
      split
      · simp only [List.mem_cons]
        exact ⟨fun h => h.elim .inr .inl, fun h => h.elim .inr .inl⟩
      · next h2 =>
        have : q = p := befD_tot hq hp (by simpa using h1) (by simpa using h2)
        subst this
        simp only [List.mem_cons]
        exact ⟨.inl, fun h => h.elim id .inl⟩
theorem putD_len {n : Nat} {l : List (List Int)} {p : List Int} (hl : LenL n l) (hp : p.length = n) : LenL n (putD l p) := fun x hx =>
  ((putD_mem hl hp x).1 hx).elim (hl x) (fun e => e ▸ hp)
theorem putD_SS {n : Nat} {l : List (List Int)} {p : List Int} (hl : LenL n l) (hp : p.length = n) (hs : SS l) : SS (putD l p) := by
  induction l with
  | nil => simp [putD, SS]
  | cons q l ih =>
    have hq : q.length = n := hl q (by simp)
    have hl' : LenL n l := fun y hy => hl y (List.mem_cons_of_mem _ hy)
    obtain ⟨h1, h2⟩ := List.pairwise_cons.1 hs
    simp only [putD]
    split
    · next hb =>
      refine List.pairwise_cons.2 ⟨fun x hx => ?_, ih hl' h2⟩
      rcases (putD_mem hl' hp x).1 hx with hx | rfl
      · exact h1 x hx
      · exact hb
    · split
      · next hb =>
        refine List.pairwise_cons.2 ⟨fun x hx => ?_, hs⟩
        rcases List.mem_cons.1 hx with rfl | hx
        · exact hb
        · exact befD_trans hp hq hb (h1 x hx)
      · exact hs
theorem SS_uniq {n : Nat} : ∀ {l m : List (List Int)}, LenL n l → LenL n m → SS l → SS m → (∀ x, x ∈ l ↔ x ∈ m) → l = m
  | [], [], _, _, _, _, _ => rfl
  | [], b :: m, _, _, _, _, h => by have := (h b).2 (by simp); simp at this
  | a :: l, [], _, _, _, _, h => by have := (h a).1 (by simp); simp at this
  | a :: l, b :: m, hl, hm, h1, h2, h => by
    obtain ⟨a1, a2⟩ := List.pairwise_cons.1 h1
    obtain ⟨b1, b2⟩ := List.pairwise_cons.1 h2
    have ha : a.length = n := hl a (by simp)
    have hb : b.length = n := hm b (by simp)
    have hab : a = b := by
      rcases List.mem_cons.1 ((h a).1 (by simp)) with e | h3
      · exact e
      · rcases List.mem_cons.1 ((h b).2 (by simp)) with e | h4
        · exact e.symm
        · have := befD_trans ha hb (a1 b h4) (b1 a h3)
          rw [befD_irr] at this; cases this
    subst hab
    have : l = m := SS_uniq (n := n) (fun y hy => hl y (List.mem_cons_of_mem _ hy)) (fun y hy => hm y (List.mem_cons_of_mem _ hy)) a2 b2 fun x => by
      constructor
      · intro hx
        rcases List.mem_cons.1 ((h x).1 (List.mem_cons_of_mem _ hx)) with rfl | h3
        · have := a1 x hx; rw [befD_irr] at this; cases this
        · exact h3
      · intro hx
        rcases List.mem_cons.1 ((h x).2 (List.mem_cons_of_mem _ hx)) with rfl | h3
        · have := b1 x hx; rw [befD_irr] at this; cases this
        · exact h3
    rw [this]
theorem foldP_all {n : Nat} : ∀ {l acc : List (List Int)}, LenL n l → LenL n acc → SS acc → SS (l.foldl putD acc) ∧ LenL n (l.foldl putD acc) ∧ ∀ x, x ∈ l.foldl putD acc ↔ x ∈ acc ∨ x ∈ l
  | [], acc, _, h1, h2 => ⟨h2, h1, fun x => by simp⟩
  | p :: l, acc, hl, h1, h2 => by
    have hp : p.length = n := hl p (by simp)
    obtain ⟨i1, i2, i3⟩ := foldP_all (l := l) (acc := putD acc p) (fun y hy => hl y (List.mem_cons_of_mem _ hy)) (putD_len h1 hp) (putD_SS h1 hp h2)
    refine ⟨i1, i2, fun x => ?_⟩
    rw [List.foldl_cons, i3 x, putD_mem h1 hp x, List.mem_cons, or_assoc]
theorem canonD_all {n : Nat} {l : List (List Int)} (h : LenL n l) : SS (canonD l) ∧ LenL n (canonD l) ∧ ∀ x, x ∈ canonD l ↔ x ∈ l := by
  obtain ⟨h1, h2, h3⟩ := foldP_all (acc := []) h (fun p hp => by simp at hp) List.Pairwise.nil
  exact ⟨h1, h2, fun x => by rw [canonD, h3 x]; simp⟩
/-- a sorted list that holds what l holds is the one -/
theorem canonD_of {n : Nat} {l m : List (List Int)} (h : LenL n l) (hs : SS m) (hm : ∀ x, x ∈ m ↔ x ∈ l) : m = canonD l := by
  obtain ⟨h1, h2, h3⟩ := canonD_all h
  exact SS_uniq (n := n) (fun x hx => h x ((hm x).1 hx)) h2 hs h1 fun x => by rw [hm x, h3 x]
theorem canonD_congr {n : Nat} {l m : List (List Int)} (h : LenL n l) (hm : ∀ x, x ∈ m ↔ x ∈ l) : canonD m = canonD l := by
  have hm' : LenL n m := fun x hx => h x ((hm x).1 hx)
  obtain ⟨h1, h2, h3⟩ := canonD_all hm'
  exact canonD_of h h1 fun x => by rw [h3 x, hm x]
theorem foldP_canon {n : Nat} {l m : List (List Int)} (hl : LenL n l) (hm : LenL n m) : m.foldl putD (canonD l) = canonD (l ++ m) := by
  obtain ⟨h1, h2, h3⟩ := canonD_all hl
  obtain ⟨i1, i2, i3⟩ := foldP_all (acc := canonD l) hm h2 h1
  exact canonD_of (n := n) (fun x hx => (List.mem_append.1 hx).elim (hl x) (hm x)) i1 fun x => by rw [i3 x, h3 x, List.mem_append]
end Go.Proofs.Ytgbfcjnkohhfoaa
