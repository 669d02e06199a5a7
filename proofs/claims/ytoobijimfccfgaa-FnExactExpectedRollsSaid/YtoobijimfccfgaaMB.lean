/-
  Plain arithmetic: the number of lists of i elements with a sum of at most m, its bounds and its recurrence, for m up to 15 and i up to 26.
-/
import Derived.Test.YtoobijimfccfgaaProg
import Derived.Test.YtoobijimfccfgaaIn
namespace Go.Proofs.Ytoobijimfccfgaa

/-- the number of lists of i elements with a sum of at most m -/
def chs (m : Nat) : Nat → Nat
  | 0 => 1
  | i + 1 => chs m i * (m + (i + 1)) / (i + 1)

theorem chs_bd_all : ∀ m, m < 16 → ∀ i, i < 26 → chs m i * (m + (i + 1)) ≤ 1000000000000000 := by decide +kernel
theorem chs_bd {m i : Nat} (hm : m ≤ 15) (hi : i ≤ 25) : chs m i * (m + (i + 1)) ≤ 1000000000000000 := chs_bd_all m (by omega) i (by omega)
theorem chs_pos_all : ∀ m, m < 16 → ∀ i, i < 27 → 1 ≤ chs m i ∧ chs m i ≤ 1000000000000000 := by decide +kernel
theorem chs_pos {m i : Nat} (hm : m ≤ 15) (hi : i ≤ 26) : 1 ≤ chs m i ∧ chs m i ≤ 1000000000000000 := chs_pos_all m (by omega) i (by omega)
theorem chs_mono_all : ∀ m, m < 16 → ∀ i, i < 26 → chs m i ≤ chs m (i + 1) := by decide +kernel
theorem chs_mono1 {m i : Nat} (hm : m ≤ 15) (hi : i ≤ 25) : chs m i ≤ chs m (i + 1) := chs_mono_all m (by omega) i (by omega)
theorem chs_mono {m i j : Nat} (hm : m ≤ 15) (hij : i ≤ j) (hj : j ≤ 26) : chs m i ≤ chs m j := by
  induction hij with
  | refl => exact Nat.le_refl _
  | step h ih => exact Nat.le_trans (ih (by omega)) (chs_mono1 hm (by omega))
theorem chs_left_all : ∀ m, m < 15 → ∀ i, i < 27 → chs m i ≤ chs (m + 1) i := by decide +kernel
theorem chs_left {m n i : Nat} (hmn : m ≤ n) (hn : n ≤ 15) (hi : i ≤ 26) : chs m i ≤ chs n i := by
  induction hmn with
  | refl => exact Nat.le_refl _
  | step h ih => exact Nat.le_trans (ih (by omega)) (chs_left_all _ (by omega) i (by omega))
/-- Pascal: one element more -/
theorem chs_pascal_all : ∀ m, m < 15 → ∀ i, i < 26 → chs (m + 1) (i + 1) = chs (m + 1) i + chs m (i + 1) := by decide +kernel
theorem chs_pascal {m i : Nat} (hm : m ≤ 14) (hi : i ≤ 25) : chs (m + 1) (i + 1) = chs (m + 1) i + chs m (i + 1) := chs_pascal_all m (by omega) i (by omega)
theorem chs_zero_all : ∀ i, i < 27 → chs 0 i = 1 := by decide +kernel
theorem chs_zero {i : Nat} (hi : i ≤ 26) : chs 0 i = 1 := chs_zero_all i (by omega)

theorem chs_step (m j : Nat) : ((chs m (j + 1) : Nat) : Int) = (chs m j : Int) * ((m : Int) + ((j : Int) + 1)) / ((j : Int) + 1) := by
  simp [chs]

theorem castmul {a b N : Nat} {b' : Int} (h : a * b ≤ N) (e : (b : Int) = b') : 0 ≤ (a : Int) * b' ∧ (a : Int) * b' ≤ (N : Int) := by
  subst e; exact ⟨by exact_mod_cast Nat.zero_le _, by exact_mod_cast h⟩
theorem chs_bdI {m i : Nat} (hm : m ≤ 15) (hi : i ≤ 25) : 0 ≤ (chs m i : Int) * ((m : Int) + ((i : Int) + 1)) ∧ (chs m i : Int) * ((m : Int) + ((i : Int) + 1)) ≤ 1000000000000000 :=
  castmul (chs_bd hm hi) (by omega)

/-- what spec.l10Ways returns -/
def ways (m i : Nat) : Int := if chs m i ≤ 1000000 then (chs m i : Int) else -1
end Go.Proofs.Ytoobijimfccfgaa

/-
  Plain arithmetic: the position with a number, digit by digit; and the number of a position.
-/
namespace Go.Proofs.Ytoobijimfccfgaa

/-- (what is left, what remains of the number) behind the digit of element i -/
def digL (i : Nat) : Nat → Nat → Nat × Nat
  | 0, n => (0, n)
  | l + 1, n => if chs (l + 1) i ≤ n then digL i l (n - chs (l + 1) i) else (l + 1, n)

theorem digL_le (i : Nat) : ∀ l n, (digL i l n).1 ≤ l
  | 0, n => by simp [digL]
  | l + 1, n => by
    simp only [digL]
    split
    · have := digL_le i l (n - chs (l + 1) i); omega
    · simp

theorem digL_lt (i : Nat) (hi : i ≤ 24) : ∀ l n, l ≤ 15 → n < chs l (i + 1) → (digL i l n).2 < chs (digL i l n).1 i
  | 0, n, _, h => by
    have h0 := chs_zero (i := i + 1) (by omega)
    have h1 := chs_zero (i := i) (by omega)
    simp only [digL]; omega
  | l + 1, n, hl, h => by
    simp only [digL]
    split
    · refine digL_lt i hi l _ (by omega) ?_
      have := chs_pascal (m := l) (i := i) (by omega) (by omega)
      omega
    · show n < chs (l + 1) i
      omega

theorem digL_step {i l n : Nat} (h : chs l i ≤ n) (hn : n < chs l (i + 1)) (hi : i ≤ 24) (hl : l ≤ 15) :
    1 ≤ l ∧ digL i l n = digL i (l - 1) (n - chs l i) ∧ n - chs l i < chs (l - 1) (i + 1) := by
  cases l with
  | zero =>
    have h0 := chs_zero (i := i + 1) (by omega)
    have h1 := chs_zero (i := i) (by omega)
    omega
  | succ l =>
    have := chs_pascal (m := l) (i := i) (by omega) (by omega)
    refine ⟨by omega, ?_, ?_⟩
    · simp only [digL, if_pos h]; rfl
    · simp; omega
theorem digL_stop {i l n : Nat} (h : n < chs l i) : digL i l n = (l, n) := by
  cases l with
  | zero => simp [digL]
  | succ l => simp only [digL]; rw [if_neg (by omega)]

/-- the first i elements of the position with a number -/
def posAt : Nat → Nat → Nat → List Int
  | 0, _, _ => []
  | i + 1, l, n => posAt i (digL i l n).1 (digL i l n).2 ++ [(l : Int) - ((digL i l n).1 : Int)]
theorem posAt_length : ∀ i l n, (posAt i l n).length = i
  | 0, _, _ => rfl
  | i + 1, l, n => by simp [posAt, posAt_length i]

/-- what has been written when i elements remain -/
def halfDone (i : Nat) (done : List Int) : List Int := List.replicate i 0 ++ done
theorem halfDone_length (i : Nat) (done : List Int) : (halfDone i done).length = i + done.length := by simp [halfDone]
theorem halfDone_succ (j : Nat) (done : List Int) : halfDone (j + 1) done = halfDone j (0 :: done) := by
  simp [halfDone, List.replicate_succ']
theorem halfDone_get (j : Nat) (x : Int) (done : List Int) : (halfDone j (x :: done))[j]? = some x := by
  simp [halfDone]
theorem halfDone_set (j : Nat) (x y : Int) (done : List Int) : (halfDone j (x :: done)).set j y = halfDone j (y :: done) := by
  simp [halfDone]

/-- the numbers of positions that come before by element i alone: d of them -/
def skipTo (i left : Nat) : Nat → Nat
  | 0 => 0
  | d + 1 => skipTo i left d + chs (left - d) i
theorem skipTo_pascal (i left : Nat) (hi : i ≤ 24) (hl : left ≤ 15) : ∀ d, d ≤ left → skipTo i left d + chs (left - d) (i + 1) = chs left (i + 1)
  | 0, _ => by simp [skipTo]
  | d + 1, h => by
    have ih := skipTo_pascal i left hi hl d (by omega)
    have := chs_pascal (m := left - (d + 1)) (i := i) (by omega) (by omega)
    have e : left - (d + 1) + 1 = left - d := by omega
    rw [e] at this
    simp only [skipTo]
    omega
end Go.Proofs.Ytoobijimfccfgaa

/-
  Plain: positions in order, lists of positions that are sorted and hold each once.
-/
namespace Go.Proofs.Ytoobijimfccfgaa

/-- the comparison of two positions from place k down -/
def cmpTo (p q : List Int) : Nat → Int
  | 0 => 0
  | k + 1 => if p.getD k 0 = q.getD k 0 then cmpTo p q k else p.getD k 0 - q.getD k 0
theorem cmpTo_self (p : List Int) : ∀ k, cmpTo p p k = 0
  | 0 => rfl
  | k + 1 => by simp only [cmpTo]; rw [if_pos trivial]; exact cmpTo_self p k
theorem cmpTo_trans {p q r : List Int} : ∀ k, cmpTo p q k < 0 → cmpTo q r k < 0 → cmpTo p r k < 0
  | 0, h, _ => by simp [cmpTo] at h
  | k + 1, h1, h2 => by
    have ih := cmpTo_trans (p := p) (q := q) (r := r) k
    simp only [cmpTo] at h1 h2 ⊢
    split at h1 <;> split at h2 <;> split <;> first | omega | (exact ih h1 h2)
theorem cmpTo_ntrans {p q r : List Int} : ∀ k, ¬ cmpTo p q k < 0 → ¬ cmpTo q r k < 0 → ¬ cmpTo p r k < 0
  | 0, _, _ => by simp [cmpTo]
  | k + 1, h1, h2 => by
    have ih := cmpTo_ntrans (p := p) (q := q) (r := r) k
    simp only [cmpTo] at h1 h2 ⊢
    split at h1 <;> split at h2 <;> split <;> first | omega | (exact ih h1 h2)
theorem cmpTo_eq {p q : List Int} : ∀ k, ¬ cmpTo p q k < 0 → ¬ cmpTo q p k < 0 → ∀ j, j < k → p.getD j 0 = q.getD j 0
  | 0, _, _, j, hj => by omega
  | k + 1, h1, h2, j, hj => by
    have ih := cmpTo_eq (p := p) (q := q) k
    simp only [cmpTo] at h1 h2
    split at h1
    · next e =>
      rw [if_pos e.symm] at h2
      by_cases hk : j = k
      · subst hk; exact e
      · exact ih h1 h2 j (by omega)
    · next e => rw [if_neg (fun h => e h.symm)] at h2; omega
theorem list_ext0 {p q : List Int} (hl : p.length = q.length) (h : ∀ j, j < p.length → p.getD j 0 = q.getD j 0) : p = q := by
  refine List.ext_getElem hl fun j h1 h2 => ?_
  have := h j h1
  rwa [List.getD_eq_getElem?_getD, List.getD_eq_getElem?_getD, List.getElem?_eq_getElem h1, List.getElem?_eq_getElem h2] at this
/-- p comes before q (positions of one length) -/
def befD (p q : List Int) : Bool := decide (cmpTo p q p.length < 0)
/-- all of one length -/
def LenL (n : Nat) (l : List (List Int)) : Prop := ∀ p, p ∈ l → p.length = n
theorem befD_irr (p : List Int) : befD p p = false := by simp [befD, cmpTo_self]
theorem befD_trans {n : Nat} {p q r : List Int} (hp : p.length = n) (hq : q.length = n) (h1 : befD p q = true) (h2 : befD q r = true) : befD p r = true := by
  simp only [befD, decide_eq_true_eq] at h1 h2 ⊢
  rw [hp] at h1 ⊢; rw [hq] at h2
  exact cmpTo_trans n h1 h2
theorem befD_tot {n : Nat} {p q : List Int} (hp : p.length = n) (hq : q.length = n) (h1 : befD p q = false) (h2 : befD q p = false) : p = q := by
  simp only [befD, decide_eq_false_iff_not] at h1 h2
  rw [hp] at h1; rw [hq] at h2
  exact list_ext0 (hp.trans hq.symm) fun j hj => cmpTo_eq n h1 h2 j (by omega)
/-- a position put at its place, once -/
def putD (l : List (List Int)) (p : List Int) : List (List Int) :=
  match l with
  | [] => [p]
  | q :: l => if befD q p = true then q :: putD l p else if befD p q = true then p :: q :: l else q :: l
def canonD (l : List (List Int)) : List (List Int) := l.foldl putD []
def SS (l : List (List Int)) : Prop := l.Pairwise fun a b => befD a b = true
theorem putD_mem {n : Nat} {l : List (List Int)} {p : List Int} (hl : LenL n l) (hp : p.length = n) : ∀ x, x ∈ putD l p ↔ x ∈ l ∨ x = p := by
  induction l with
  | nil => intro x; simp [putD]
  | cons q l ih =>
    intro x
    have hq : q.length = n := hl q (by simp)
    have ih := ih (fun y hy => hl y (List.mem_cons_of_mem _ hy)) x
    simp only [putD]
    split
    · simp only [List.mem_cons, ih, or_assoc]
    · next h1 =>
      split
      · simp only [List.mem_cons]
        exact ⟨fun h => h.elim .inr .inl, fun h => h.elim .inr .inl⟩
      · next h2 =>
        have : q = p := befD_tot hq hp (by simpa using h1) (by simpa using h2)
        subst this
        simp only [List.mem_cons]
        exact ⟨.inl, fun h => h.elim id .inl⟩
theorem putD_len {n : Nat} {l : List (List Int)} {p : List Int} (hl : LenL n l) (hp : p.length = n) : LenL n (putD l p) := fun x hx =>
  ((putD_mem hl hp x).1 hx).elim (hl x) (fun e => e ▸ hp)
theorem putD_SS {n : Nat} {l : List (List Int)} {p : List Int} (hl : LenL n l) (hp : p.length = n) (hs : SS l) : SS (putD l p) := by
  induction l with
  | nil => simp [putD, SS]
  | cons q l ih =>
    have hq : q.length = n := hl q (by simp)
    have hl' : LenL n l := fun y hy => hl y (List.mem_cons_of_mem _ hy)
    obtain ⟨h1, h2⟩ := List.pairwise_cons.1 hs
    simp only [putD]
    split
    · next hb =>
      refine List.pairwise_cons.2 ⟨fun x hx => ?_, ih hl' h2⟩
      rcases (putD_mem hl' hp x).1 hx with hx | rfl
      · exact h1 x hx
      · exact hb
    · split
      · next hb =>
        refine List.pairwise_cons.2 ⟨fun x hx => ?_, hs⟩
        rcases List.mem_cons.1 hx with rfl | hx
        · exact hb
        · exact befD_trans hp hq hb (h1 x hx)
      · exact hs
theorem SS_uniq {n : Nat} : ∀ {l m : List (List Int)}, LenL n l → LenL n m → SS l → SS m → (∀ x, x ∈ l ↔ x ∈ m) → l = m
  | [], [], _, _, _, _, _ => rfl
  | [], b :: m, _, _, _, _, h => by have := (h b).2 (by simp); simp at this
  | a :: l, [], _, _, _, _, h => by have := (h a).1 (by simp); simp at this
  | a :: l, b :: m, hl, hm, h1, h2, h => by
    obtain ⟨a1, a2⟩ := List.pairwise_cons.1 h1
    obtain ⟨b1, b2⟩ := List.pairwise_cons.1 h2
    have ha : a.length = n := hl a (by simp)
    have hb : b.length = n := hm b (by simp)
    have hab : a = b := by
      rcases List.mem_cons.1 ((h a).1 (by simp)) with e | h3
      · exact e
      · rcases List.mem_cons.1 ((h b).2 (by simp)) with e | h4
        · exact e.symm
        · have := befD_trans ha hb (a1 b h4) (b1 a h3)
          rw [befD_irr] at this; cases this
    subst hab
    have : l = m := SS_uniq (n := n) (fun y hy => hl y (List.mem_cons_of_mem _ hy)) (fun y hy => hm y (List.mem_cons_of_mem _ hy)) a2 b2 fun x => by
      constructor
      · intro hx
        rcases List.mem_cons.1 ((h x).1 (List.mem_cons_of_mem _ hx)) with rfl | h3
        · have := a1 x hx; rw [befD_irr] at this; cases this
        · exact h3
      · intro hx
        rcases List.mem_cons.1 ((h x).2 (List.mem_cons_of_mem _ hx)) with rfl | h3
        · have := b1 x hx; rw [befD_irr] at this; cases this
        · exact h3
    rw [this]
theorem foldP_all {n : Nat} : ∀ {l acc : List (List Int)}, LenL n l → LenL n acc → SS acc → SS (l.foldl putD acc) ∧ LenL n (l.foldl putD acc) ∧ ∀ x, x ∈ l.foldl putD acc ↔ x ∈ acc ∨ x ∈ l
  | [], acc, _, h1, h2 => ⟨h2, h1, fun x => by simp⟩
  | p :: l, acc, hl, h1, h2 => by
    have hp : p.length = n := hl p (by simp)
    obtain ⟨i1, i2, i3⟩ := foldP_all (l := l) (acc := putD acc p) (fun y hy => hl y (List.mem_cons_of_mem _ hy)) (putD_len h1 hp) (putD_SS h1 hp h2)
    refine ⟨i1, i2, fun x => ?_⟩
    rw [List.foldl_cons, i3 x, putD_mem h1 hp x, List.mem_cons, or_assoc]
theorem canonD_all {n : Nat} {l : List (List Int)} (h : LenL n l) : SS (canonD l) ∧ LenL n (canonD l) ∧ ∀ x, x ∈ canonD l ↔ x ∈ l := by
  obtain ⟨h1, h2, h3⟩ := foldP_all (acc := []) h (fun p hp => by simp at hp) List.Pairwise.nil
  exact ⟨h1, h2, fun x => by rw [canonD, h3 x]; simp⟩
/-- a sorted list that holds what l holds is the one -/
theorem canonD_of {n : Nat} {l m : List (List Int)} (h : LenL n l) (hs : SS m) (hm : ∀ x, x ∈ m ↔ x ∈ l) : m = canonD l := by
  obtain ⟨h1, h2, h3⟩ := canonD_all h
  exact SS_uniq (n := n) (fun x hx => h x ((hm x).1 hx)) h2 hs h1 fun x => by rw [hm x, h3 x]
theorem canonD_congr {n : Nat} {l m : List (List Int)} (h : LenL n l) (hm : ∀ x, x ∈ m ↔ x ∈ l) : canonD m = canonD l := by
  have hm' : LenL n m := fun x hx => h x ((hm x).1 hx)
  obtain ⟨h1, h2, h3⟩ := canonD_all hm'
  exact canonD_of h h1 fun x => by rw [h3 x, hm x]
theorem foldP_canon {n : Nat} {l m : List (List Int)} (hl : LenL n l) (hm : LenL n m) : m.foldl putD (canonD l) = canonD (l ++ m) := by
  obtain ⟨h1, h2, h3⟩ := canonD_all hl
  obtain ⟨i1, i2, i3⟩ := foldP_all (acc := canonD l) hm h2 h1
  exact canonD_of (n := n) (fun x hx => (List.mem_append.1 hx).elim (hl x) (hm x)) i1 fun x => by rw [i3 x, h3 x, List.mem_append]
end Go.Proofs.Ytoobijimfccfgaa

/-
  Plain: steps of bear-off positions, the positions after as many steps as possible; both ways to list them agree.
-/
namespace Go.Proofs.Ytoobijimfccfgaa

/-- the sum of the first k places, each with its weight -/
def wS (f : Nat → Int) (p : List Int) : Nat → Int
  | 0 => 0
  | k + 1 => wS f p k + f k * p.getD k 0
def NN (p : List Int) : Prop := ∀ j, 0 ≤ p.getD j 0
theorem set_self0 {p : List Int} {i : Nat} (hi : i < p.length) (x : Int) : (p.set i x).getD i 0 = x := by
  rw [List.getD_eq_getElem?_getD, List.getElem?_set_self hi]; rfl
theorem wS_set (f : Nat → Int) (p : List Int) (i : Nat) (x : Int) (hi : i < p.length) : ∀ k, wS f (p.set i x) k = wS f p k + (if i < k then f i * (x - p.getD i 0) else 0)
  | 0 => by simp [wS]
  | k + 1 => by
    simp only [wS, wS_set f p i x hi k]
    by_cases h : i = k
    · subst h
      rw [set_self0 hi, if_neg (by omega), if_pos (by omega), Int.mul_sub]; omega
    · have e : (p.set i x).getD k 0 = p.getD k 0 := by rw [List.getD_eq_getElem?_getD, List.getElem?_set_ne h, ← List.getD_eq_getElem?_getD]
      rw [e]
      by_cases h2 : i < k
      · rw [if_pos h2, if_pos (by omega)]; omega
      · rw [if_neg h2, if_neg (by omega)]; omega
theorem wS_nn {f : Nat → Int} {p : List Int} (hf : ∀ i, 0 ≤ f i) (hp : NN p) : ∀ k, 0 ≤ wS f p k
  | 0 => Int.le_refl _
  | k + 1 => by have := wS_nn hf hp k; have := Int.mul_nonneg (hf k) (hp k); simp only [wS]; omega
theorem wS_le {f g : Nat → Int} {p : List Int} (hf : ∀ i, f i ≤ g i) (hp : NN p) : ∀ k, wS f p k ≤ wS g p k
  | 0 => Int.le_refl _
  | k + 1 => by have := wS_le hf hp k; have := Int.mul_le_mul_of_nonneg_right (hf k) (hp k); simp only [wS]; omega
theorem wS_zero {f : Nat → Int} {p : List Int} (h : ∀ j, p.getD j 0 = 0) : ∀ k, wS f p k = 0
  | 0 => rfl
  | k + 1 => by simp only [wS, wS_zero h k, h k]; omega
theorem wS_at {f : Nat → Int} {p : List Int} (hf : ∀ i, 0 ≤ f i) (hp : NN p) {i : Nat} : ∀ k, i < k → f i * p.getD i 0 ≤ wS f p k
  | 0, h => by omega
  | k + 1, h => by
    have h1 := wS_nn hf hp k
    have h2 := Int.mul_nonneg (hf k) (hp k)
    simp only [wS]
    by_cases e : i = k
    · subst e; omega
    · have := wS_at hf hp k (i := i) (by omega); omega
def one1 : Nat → Int := fun _ => 1
theorem wS_one (p : List Int) : ∀ k, wS one1 p k = (p.take k).sum
  | 0 => by simp [wS]
  | k + 1 => by
    rw [wS, wS_one p k]
    rcases Nat.lt_or_ge k p.length with h | h
    · rw [← List.take_append_getElem h, List.sum_append, List.getD_eq_getElem?_getD, List.getElem?_eq_getElem h]
      simp [one1]
    · rw [List.take_of_length_le h, List.take_of_length_le (by omega), List.getD_eq_getElem?_getD, List.getElem?_eq_none h]
      simp [one1]
theorem wS_sum (p : List Int) : wS one1 p p.length = p.sum := by rw [wS_one, List.take_length]
theorem getD_out {p : List Int} {j : Nat} (h : p.length ≤ j) : p.getD j 0 = 0 := by rw [List.getD_eq_getElem?_getD, List.getElem?_eq_none h]; rfl
theorem sum_nn {p : List Int} (hp : NN p) : 0 ≤ p.sum := by rw [← wS_sum]; exact wS_nn (fun _ => by simp [one1]) hp _
theorem at_le_sum {p : List Int} (hp : NN p) (j : Nat) : p.getD j 0 ≤ p.sum := by
  rcases Nat.lt_or_ge j p.length with h | h
  · have := wS_at (f := one1) (fun _ => by simp [one1]) hp p.length h
    rw [wS_sum] at this; simpa [one1] using this
  · rw [getD_out h]; exact sum_nn hp
theorem zero_of_sum {p : List Int} (hp : NN p) (h : p.sum = 0) (j : Nat) : p.getD j 0 = 0 := by
  have := at_le_sum hp j; have := hp j; omega
theorem NN.drop {p : List Int} (hp : NN p) (m : Nat) : NN (p.drop m) := fun j => by
  rw [List.getD_eq_getElem?_getD, List.getElem?_drop, ← List.getD_eq_getElem?_getD]; exact hp _
theorem drop_at (p : List Int) (m j : Nat) : (p.drop m).getD j 0 = p.getD (m + j) 0 := by
  rw [List.getD_eq_getElem?_getD, List.getElem?_drop, ← List.getD_eq_getElem?_getD]
theorem drop_pos {p : List Int} (hp : NN p) (m : Nat) : 0 < (p.drop m).sum ↔ ∃ j, m ≤ j ∧ 0 < p.getD j 0 := by
  constructor
  · intro h
    apply Classical.byContradiction
    intro hn
    have hz : ∀ j, (p.drop m).getD j 0 = 0 := fun j => by
      rw [drop_at]
      have h1 := hp (m + j)
      have h2 : ¬ 0 < p.getD (m + j) 0 := fun h => hn ⟨m + j, by omega, h⟩
      omega
    have := wS_zero (f := one1) hz (p.drop m).length
    rw [wS_sum] at this; omega
  · rintro ⟨j, h1, h2⟩
    have := at_le_sum (hp.drop m) (j - m)
    rw [drop_at, show m + (j - m) = j by omega] at this; omega
/-- the greatest place that holds a checker -/
theorem top_ex {p : List Int} (hp : NN p) : ∀ k, (∃ j, j < k ∧ 0 < p.getD j 0) → ∃ i, i < k ∧ 0 < p.getD i 0 ∧ ∀ j, i < j → j < k → p.getD j 0 = 0
  | 0, ⟨j, h, _⟩ => by omega
  | k + 1, ⟨j, h, h2⟩ => by
    by_cases hk : 0 < p.getD k 0
    · exact ⟨k, by omega, hk, fun j h1 h2 => by omega⟩
    · obtain ⟨i, h3, h4, h5⟩ := top_ex hp k ⟨j, by
        rcases Nat.lt_or_ge j k with h | h
        · exact h
        · have : j = k := by omega
          subst this; exact absurd h2 hk, h2⟩
      refine ⟨i, by omega, h4, fun j h6 h7 => ?_⟩
      by_cases e : j = k
      · subst e; have := hp j; omega
      · exact h5 j h6 (by omega)

/-- a step with a die from place i -/
def moveD (p : List Int) (die : Int) (i : Nat) : List Int :=
  if die ≤ (i : Int) then (p.set i (p.getD i 0 - 1)).set ((i : Int) - die).toNat ((p.set i (p.getD i 0 - 1)).getD ((i : Int) - die).toNat 0 + 1) else p.set i (p.getD i 0 - 1)
def canGo (p : List Int) (die : Int) (i : Nat) : Bool := decide (p.getD i 0 ≠ 0) && !(decide ((i : Int) + 1 < die) && decide (0 < (p.drop (i + 1)).sum))
def stepsP (p : List Int) (die : Int) : List (List Int) := ((List.range p.length).filter (canGo p die)).map (moveD p die)
/-- positions of n places with at most 15 checkers -/
structure OkP (n : Nat) (p : List Int) : Prop where
  len : p.length = n
  nn : NN p
  sum : p.sum ≤ 15
theorem OkP.le {n : Nat} {p : List Int} (h : OkP n p) (j : Nat) : 0 ≤ p.getD j 0 ∧ p.getD j 0 ≤ 15 := ⟨h.nn j, by have := at_le_sum h.nn j; have := h.sum; omega⟩
theorem stepsP_mem {p q : List Int} {die : Int} : q ∈ stepsP p die ↔ ∃ i, i < p.length ∧ canGo p die i = true ∧ moveD p die i = q := by
  simp only [stepsP, List.mem_map, List.mem_filter, List.mem_range, and_assoc]
theorem canGo_pos {p : List Int} (hp : NN p) {die : Int} {i : Nat} (h : canGo p die i = true) : 0 < p.getD i 0 := by
  simp only [canGo, Bool.and_eq_true, decide_eq_true_eq] at h
  have := hp i; omega
/-- what a step makes of a weighted sum -/
theorem moveD_w {n : Nat} {p : List Int} (h : OkP n p) {die : Int} (hd : 1 ≤ die) {i : Nat} (hi : i < p.length) (hpos : 0 < p.getD i 0) (f : Nat → Int) :
    (moveD p die i).length = n ∧ NN (moveD p die i) ∧ wS f (moveD p die i) n = wS f p n - f i + (if die ≤ (i : Int) then f ((i : Int) - die).toNat else 0) := by
  have hl := h.len
  have e1 : wS f (p.set i (p.getD i 0 - 1)) n = wS f p n - f i := by
    rw [wS_set f p i _ hi, if_pos (by omega), show p.getD i 0 - 1 - p.getD i 0 = -1 by omega, Int.mul_neg, Int.mul_one]; omega
  have n1 : NN (p.set i (p.getD i 0 - 1)) := fun j => by
    by_cases hj : i = j
    · subst hj; rw [set_self0 hi]; omega
    · rw [List.getD_eq_getElem?_getD, List.getElem?_set_ne hj, ← List.getD_eq_getElem?_getD]; exact h.nn j
  unfold moveD
  by_cases hm : die ≤ (i : Int)
  · rw [if_pos hm, if_pos hm]
    generalize hq : p.set i (p.getD i 0 - 1) = q at *
    have hql : q.length = p.length := by rw [← hq]; simp
    have hk : ((i : Int) - die).toNat < q.length := by omega
    refine ⟨by simp; omega, fun j => ?_, ?_⟩
    · by_cases hj : ((i : Int) - die).toNat = j
      · subst hj; rw [set_self0 hk]; have := n1 ((i : Int) - die).toNat; omega
      · rw [List.getD_eq_getElem?_getD, List.getElem?_set_ne hj, ← List.getD_eq_getElem?_getD]; exact n1 j
    · rw [wS_set f q _ _ hk, if_pos (by omega), e1, show q.getD ((i : Int) - die).toNat 0 + 1 - q.getD ((i : Int) - die).toNat 0 = 1 by omega, Int.mul_one]
  · rw [if_neg hm, if_neg hm]
    exact ⟨by simp; omega, n1, by rw [e1]; omega⟩
/-- a step: where it starts, and what it makes of the sums -/
theorem step_of {n : Nat} {p q : List Int} (h : OkP n p) {die : Int} (hd : 1 ≤ die) (hq : q ∈ stepsP p die) :
    OkP n q ∧ ∃ i : Nat, i < n ∧ 0 < p.getD i 0 ∧ q = moveD p die i ∧ ∀ f, wS f q n = wS f p n - f i + (if die ≤ (i : Int) then f ((i : Int) - die).toNat else 0) := by
  obtain ⟨i, hi, hc, rfl⟩ := stepsP_mem.1 hq
  have hpos := canGo_pos h.nn hc
  have hm := fun f => moveD_w h hd hi hpos f
  have hl := (hm one1).1
  refine ⟨⟨hl, (hm one1).2.1, ?_⟩, i, by have := h.len; omega, hpos, rfl, fun f => (hm f).2.2⟩
  have := (hm one1).2.2
  rw [show wS one1 (moveD p die i) n = (moveD p die i).sum by rw [← wS_sum, hl], show wS one1 p n = p.sum by rw [← wS_sum, h.len]] at this
  have h15 := h.sum
  simp only [one1] at this
  split at this <;> omega
theorem wSum {n : Nat} {p : List Int} (h : OkP n p) : wS one1 p n = p.sum := by rw [← wS_sum, h.len]
/-- a position with a checker has a step -/
theorem stepsP_ne {n : Nat} {p : List Int} (h : OkP n p) (die : Int) (hs : p.sum ≠ 0) : stepsP p die ≠ [] := by
  have h0 := sum_nn h.nn
  obtain ⟨j, hj, hp⟩ := (drop_pos h.nn 0).1 (by rw [List.drop_zero]; omega)
  have hjl : j < p.length := by
    rcases Nat.lt_or_ge j p.length with h | h
    · exact h
    · rw [getD_out h] at hp; omega
  obtain ⟨i, h1, h2, h3⟩ := top_ex h.nn p.length ⟨j, hjl, hp⟩
  have hz : ¬ 0 < (p.drop (i + 1)).sum := fun hh => by
    obtain ⟨k, k1, k2⟩ := (drop_pos h.nn (i + 1)).1 hh
    rcases Nat.lt_or_ge k p.length with hk | hk
    · rw [h3 k (by omega) hk] at k2; omega
    · rw [getD_out hk] at k2; omega
  have : moveD p die i ∈ stepsP p die := stepsP_mem.2 ⟨i, h1, by simp only [canGo, Bool.and_eq_true, decide_eq_true_eq]; exact ⟨by omega, by simp [hz]⟩, rfl⟩
  intro e; rw [e] at this; simp at this
theorem stepsP_nil {n : Nat} {p : List Int} (h : OkP n p) (die : Int) (hs : p.sum = 0) : stepsP p die = [] := by
  apply List.eq_nil_iff_forall_not_mem.2
  intro q hq
  obtain ⟨i, hi, hc, -⟩ := stepsP_mem.1 hq
  have := canGo_pos h.nn hc
  rw [zero_of_sum h.nn hs] at this; omega

/-- the positions after as many steps with the dice as possible -/
def reachP : List Int → List Int → List (List Int)
  | [], p => [p]
  | d :: ds, p => if p.sum = 0 then [p] else (stepsP p d).flatMap (reachP ds)
def walkStep (w : List Int → List (List Int) × Int) (s : List (List Int) × Int) (q : List Int) : List (List Int) × Int :=
  if s.2 < (w q).2 + 1 then ((w q).1.foldl putD [], (w q).2 + 1) else if (w q).2 + 1 = s.2 then ((w q).1.foldl putD s.1, s.2) else s
/-- the reference's list of them, and the number of steps -/
def walkP : List Int → List Int → List (List Int) × Int
  | [], p => ([p], 0)
  | d :: ds, p => (stepsP p d).foldl (walkStep (walkP ds)) ([p], 0)
def numP : List Int → List Int → Int
  | [], _ => 0
  | d :: ds, p => match stepsP p d with | [] => 0 | q :: _ => numP ds q + 1
/-- every way takes as many steps -/
def UniP : List Int → List Int → Prop
  | [], _ => True
  | d :: ds, p => ∀ q, q ∈ stepsP p d → UniP ds q ∧ numP ds q + 1 = numP (d :: ds) p
def DiceP (ds : List Int) : Prop := ∀ d, d ∈ ds → 1 ≤ d
theorem numP_nn : ∀ (ds p : List Int), 0 ≤ numP ds p
  | [], _ => by simp [numP]
  | d :: ds, p => by
    simp only [numP]
    split
    · omega
    · next q l _ => have := numP_nn ds q; omega
theorem reachP_ok {n : Nat} : ∀ {ds p : List Int}, DiceP ds → OkP n p → ∀ q, q ∈ reachP ds p → OkP n q
  | [], p, _, h, q, hq => by simp only [reachP, List.mem_singleton] at hq; subst hq; exact h
  | d :: ds, p, hd, h, q, hq => by
    simp only [reachP] at hq
    split at hq
    · simp only [List.mem_singleton] at hq; subst hq; exact h
    · obtain ⟨r, hr, hq⟩ := List.mem_flatMap.1 hq
      exact reachP_ok (fun x hx => hd x (List.mem_cons_of_mem _ hx)) (step_of h (hd d (by simp)) hr).1 q hq
theorem reachP_len {n : Nat} {ds p : List Int} (hd : DiceP ds) (h : OkP n p) : LenL n (reachP ds p) := fun q hq => (reachP_ok hd h q hq).len
theorem reachP_zero {ds p : List Int} (h : p.sum = 0) : reachP ds p = [p] := by cases ds <;> simp [reachP, h]
theorem canon_one {n : Nat} {p : List Int} (_ : p.length = n) : canonD [p] = [p] := rfl
theorem fold_walk {n : Nat} {ds : List Int} {N : Int} : ∀ {qs acc : List (List Int)}, LenL n acc → (∀ q, q ∈ qs → LenL n (reachP ds q) ∧ walkP ds q = (canonD (reachP ds q), N - 1)) →
    qs.foldl (walkStep (walkP ds)) (canonD acc, N) = (canonD (acc ++ qs.flatMap (reachP ds)), N)
  | [], acc, _, _ => by simp
  | q :: qs, acc, ha, h => by
    obtain ⟨h1, h2⟩ := h q (by simp)
    have e : walkStep (walkP ds) (canonD acc, N) q = (canonD (acc ++ reachP ds q), N) := by
      unfold walkStep
      rw [h2]
      simp only
      rw [if_neg (by omega), if_pos (by omega), foldP_canon (n := n) ha (canonD_all h1).2.1]
      congr 1
      exact canonD_congr (n := n) (fun x hx => (List.mem_append.1 hx).elim (ha x) (h1 x)) fun x => by simp only [List.mem_append, (canonD_all h1).2.2 x]
    rw [List.foldl_cons, e, fold_walk (n := n) (fun x hx => (List.mem_append.1 hx).elim (ha x) (h1 x)) fun r hr => h r (List.mem_cons_of_mem _ hr), List.flatMap_cons, List.append_assoc]
theorem walk_eq {n : Nat} : ∀ {ds p : List Int}, DiceP ds → OkP n p → UniP ds p → walkP ds p = (canonD (reachP ds p), numP ds p)
  | [], p, _, h, _ => by simp only [walkP, reachP, numP]; rw [canon_one h.len]
  | d :: ds, p, hd, h, hu => by
    have hd' : DiceP ds := fun x hx => hd x (List.mem_cons_of_mem _ hx)
    have hd1 := hd d (by simp)
    by_cases hs : p.sum = 0
    · simp only [walkP, reachP, numP, stepsP_nil h d hs, List.foldl_nil, if_pos hs]; rw [canon_one h.len]
    · have hall : ∀ q, q ∈ stepsP p d → LenL n (reachP ds q) ∧ walkP ds q = (canonD (reachP ds q), numP (d :: ds) p - 1) := fun q hq => by
        have hq1 := (step_of h hd1 hq).1
        obtain ⟨u1, u2⟩ := hu q hq
        exact ⟨reachP_len hd' hq1, by rw [walk_eq hd' hq1 u1, ← u2]; congr 1; omega⟩
      cases hst : stepsP p d with
      | nil => exact absurd hst (stepsP_ne h d hs)
      | cons q qs =>
        rw [hst] at hall
        obtain ⟨h1, h2⟩ := hall q (by simp)
        have hN : 1 ≤ numP (d :: ds) p := by
          have := (hu q (by rw [hst]; simp)).2
          have := numP_nn ds q; omega
        simp only [walkP, reachP, hst, if_neg hs]
        have e : walkStep (walkP ds) ([p], 0) q = (canonD (reachP ds q), numP (d :: ds) p) := by
          unfold walkStep
          rw [h2]
          simp only
          rw [if_pos (by omega)]
          congr 1
          · exact canonD_congr (n := n) h1 fun x => (canonD_all h1).2.2 x
          · omega
        rw [List.foldl_cons, e, fold_walk (n := n) h1 fun r hr => hall r (List.mem_cons_of_mem _ hr), List.flatMap_cons]
end Go.Proofs.Ytoobijimfccfgaa

/-
  Plain: the results of a roll: both ways to list them agree; what they are.
-/
namespace Go.Proofs.Ytoobijimfccfgaa

/-- how many steps with a die a checker at a place takes -/
def cw (a : Int) : Nat → Int := fun i => ((i : Int) + a) / a
theorem cw_step {a : Int} (ha : 1 ≤ a) (i : Nat) : cw a i - (if a ≤ (i : Int) then cw a ((i : Int) - a).toNat else 0) = 1 := by
  have e : ((i : Int) + a) / a = (i : Int) / a + 1 := by
    have := Int.add_mul_ediv_right (i : Int) 1 (c := a) (by omega)
    rwa [Int.one_mul] at this
  unfold cw
  split
  · next h =>
    rw [show ((((i : Int) - a).toNat : Nat) : Int) = (i : Int) - a by omega, show (i : Int) - a + a = i by omega, e]; omega
  · next h =>
    rw [e, Int.ediv_eq_zero_of_lt (by omega) (by omega)]; rfl
theorem cw_ge {a : Int} (ha : 1 ≤ a) (i : Nat) : 1 ≤ cw a i := by
  unfold cw
  rw [show (i : Int) + a = i + 1 * a by omega, Int.add_mul_ediv_right _ _ (by omega)]
  have := Int.ediv_nonneg (show (0 : Int) ≤ i by omega) (show 0 ≤ a by omega)
  omega
theorem rep_ok {n : Nat} {a : Int} (ha : 1 ≤ a) : ∀ (m : Nat) {p : List Int}, OkP n p → numP (List.replicate m a) p = min (m : Int) (wS (cw a) p n) ∧ UniP (List.replicate m a) p
  | 0, p, h => by
    have := wS_nn (f := cw a) (fun i => by have := cw_ge ha i; omega) h.nn n
    exact ⟨by simp only [List.replicate, numP]; omega, trivial⟩
  | m + 1, p, h => by
    have hw0 := wS_nn (f := cw a) (fun i => by have := cw_ge ha i; omega) h.nn n
    by_cases hs : p.sum = 0
    · have hz := wS_zero (f := cw a) (fun j => zero_of_sum h.nn hs j) n
      refine ⟨by simp only [List.replicate, numP, stepsP_nil h a hs]; omega, fun q hq => by rw [stepsP_nil h a hs] at hq; simp at hq⟩
    · have hall : ∀ q, q ∈ stepsP p a → numP (List.replicate m a) q = min (m : Int) (wS (cw a) p n - 1) ∧ UniP (List.replicate m a) q := fun q hq => by
        obtain ⟨h1, i, _, _, _, h2⟩ := step_of h ha hq
        obtain ⟨i1, i2⟩ := rep_ok ha m h1
        have := h2 (cw a)
        have := cw_step ha i
        refine ⟨?_, i2⟩
        rw [i1]
        split at * <;> (congr 1; omega)
      have hw1 : 1 ≤ wS (cw a) p n := by
        have := wS_le (f := one1) (g := cw a) (fun i => cw_ge ha i) h.nn n
        rw [wSum h] at this
        have := sum_nn h.nn; omega
      have hnum : numP (List.replicate (m + 1) a) p = min ((m + 1 : Nat) : Int) (wS (cw a) p n) := by
        cases hst : stepsP p a with
        | nil => exact absurd hst (stepsP_ne h a hs)
        | cons q qs =>
          simp only [List.replicate, numP, hst]
          rw [(hall q (by rw [hst]; simp)).1]; omega
      refine ⟨hnum, fun q hq => ⟨(hall q hq).2, ?_⟩⟩
      have e : a :: List.replicate m a = List.replicate (m + 1) a := rfl
      rw [e, hnum, (hall q hq).1]; omega
theorem two_le {n : Nat} {p : List Int} (h : OkP n p) {i j : Nat} (hij : i ≠ j) (hi : 0 < p.getD i 0) (hj : 0 < p.getD j 0) : 2 ≤ p.sum := by
  have hil : i < p.length := by
    rcases Nat.lt_or_ge i p.length with h | h
    · exact h
    · rw [getD_out h] at hi; omega
  have hn : NN (p.set i 0) := fun k => by
    by_cases e : i = k
    · subst e; rw [set_self0 hil]; omega
    · rw [List.getD_eq_getElem?_getD, List.getElem?_set_ne e, ← List.getD_eq_getElem?_getD]; exact h.nn k
  have h1 := at_le_sum hn j
  rw [List.getD_eq_getElem?_getD, List.getElem?_set_ne hij, ← List.getD_eq_getElem?_getD] at h1
  have h2 := wS_set one1 p i 0 hil p.length
  rw [if_pos hil, wS_sum, show p.length = (p.set i 0).length by simp, wS_sum] at h2
  simp only [one1] at h2
  omega
theorem step_sum {n : Nat} {p q : List Int} (h : OkP n p) {die : Int} (hd : 1 ≤ die) (hq : q ∈ stepsP p die) : q.sum = p.sum ∨ q.sum = p.sum - 1 := by
  obtain ⟨h1, i, _, _, _, h2⟩ := step_of h hd hq
  have := h2 one1
  rw [wSum h, wSum h1] at this
  simp only [one1] at this
  split at this <;> omega
theorem num1 {n : Nat} {q : List Int} (h : OkP n q) (b : Int) : numP [b] q = if q.sum = 0 then 0 else 1 := by
  simp only [numP]
  split
  · next e => rw [if_pos (Classical.byContradiction fun hs => stepsP_ne h b hs e)]
  · next e => rw [if_neg fun hs => by rw [stepsP_nil h b hs] at e; cases e]; rfl
theorem uni2 {n : Nat} {p : List Int} (h : OkP n p) {a b : Int} (ha : 1 ≤ a) : UniP [a, b] p := fun q hq => by
  refine ⟨fun r hr => ⟨trivial, ?_⟩, ?_⟩
  · simp only [numP]
    split
    · next e => rw [e] at hr; simp at hr
    · rfl
  · have hs0 : p.sum ≠ 0 := fun e => by rw [stepsP_nil h a e] at hq; simp at hq
    have h0 := sum_nn h.nn
    cases hst : stepsP p a with
    | nil => rw [hst] at hq; simp at hq
    | cons q0 qs =>
      have hq0 : q0 ∈ stepsP p a := by rw [hst]; simp
      have e : numP [a, b] p = numP [b] q0 + 1 := by simp only [numP, hst]
      rw [e]
      congr 1
      obtain ⟨k1, i, _, hi, ei, _⟩ := step_of h ha hq
      obtain ⟨k2, j, _, hj, ej, _⟩ := step_of h ha hq0
      by_cases hij : i = j
      · rw [ei, ej, hij]
      · have := two_le h hij hi hj
        have s1 := step_sum h ha hq
        have s2 := step_sum h ha hq0
        rw [num1 k1, num1 k2, if_neg (by omega), if_neg (by omega)]
/-- the orders of a roll -/
def ordP (r : Int × Int) : List (List Int) := if r.1 = r.2 then [[r.1, r.1, r.1, r.1]] else [[r.1, r.2], [r.2, r.1]]
/-- the results of a roll -/
def resP (p : List Int) (r : Int × Int) : List (List Int) := canonD ((ordP r).flatMap fun o => reachP o p)
def specRes (p : List Int) (r : Int × Int) : List (List Int) :=
  if r.1 = r.2 then (walkP [r.1, r.1, r.1, r.1] p).1 else
    if (walkP [r.1, r.2] p).2 < (walkP [r.2, r.1] p).2 then (walkP [r.2, r.1] p).1 else
      if (walkP [r.2, r.1] p).2 = (walkP [r.1, r.2] p).2 then (walkP [r.2, r.1] p).1.foldl putD (walkP [r.1, r.2] p).1 else (walkP [r.1, r.2] p).1
def idx1 : Nat → Int := fun i => i
theorem place {n : Nat} {p : List Int} (h : OkP n p) (hs : p.sum = 1) {i : Nat} (hi : 0 < p.getD i 0) : wS idx1 p n = i := by
  have hil : i < p.length := by
    rcases Nat.lt_or_ge i p.length with h | h
    · exact h
    · rw [getD_out h] at hi; omega
  have h1 := at_le_sum h.nn i
  have hz : ∀ k, (p.set i 0).getD k 0 = 0 := fun k => by
    by_cases e : i = k
    · subst e; rw [set_self0 hil]
    · rw [List.getD_eq_getElem?_getD, List.getElem?_set_ne e, ← List.getD_eq_getElem?_getD]
      have := h.nn k
      apply Classical.byContradiction
      intro hk
      have := two_le h e hi (by omega)
      omega
  have h2 := wS_set idx1 p i 0 hil n
  rw [wS_zero hz n, if_pos (by have := h.len; omega), show p.getD i 0 = 1 by omega] at h2
  simp only [idx1] at h2
  omega
theorem zero_eq {n : Nat} {p q : List Int} (hp : OkP n p) (hq : OkP n q) (h1 : p.sum = 0) (h2 : q.sum = 0) : p = q :=
  list_ext0 (hp.len.trans hq.len.symm) fun j _ => by rw [zero_of_sum hp.nn h1, zero_of_sum hq.nn h2]
/-- one checker: after a die it is off if the die is great enough -/
theorem lone {n : Nat} {p q : List Int} (h : OkP n p) (hs : p.sum = 1) {d : Int} (hd : 1 ≤ d) (hq : q ∈ stepsP p d) : (wS idx1 p n < d → q.sum = 0) ∧ (¬ wS idx1 p n < d → q.sum = 1 ∧ wS idx1 q n = wS idx1 p n - d) := by
  obtain ⟨h1, i, hin, hi, _, h2⟩ := step_of h hd hq
  have e := place h hs hi
  have k1 := h2 one1
  have k2 := h2 idx1
  rw [wSum h, wSum h1] at k1
  rw [e] at k2 ⊢
  simp only [one1, idx1] at k1 k2
  split at k1
  · next hm =>
    rw [if_pos hm] at k2
    exact ⟨fun h => by omega, fun _ => ⟨by omega, by omega⟩⟩
  · next hm => exact ⟨fun _ => by omega, fun h => by omega⟩
theorem num2 {n : Nat} {p : List Int} (h : OkP n p) {a b : Int} (ha : 1 ≤ a) : numP [a, b] p = if p.sum = 0 then 0 else if p.sum = 1 ∧ wS idx1 p n < a then 1 else 2 := by
  by_cases hs : p.sum = 0
  · rw [if_pos hs]; simp only [numP, stepsP_nil h a hs]
  · rw [if_neg hs]
    have h0 := sum_nn h.nn
    cases hst : stepsP p a with
    | nil => exact absurd hst (stepsP_ne h a hs)
    | cons q qs =>
      have hq : q ∈ stepsP p a := by rw [hst]; simp
      have hq1 := (step_of h ha hq).1
      have e : numP [a, b] p = numP [b] q + 1 := by simp only [numP, hst]
      rw [e, num1 hq1]
      have hs1 := step_sum h ha hq
      by_cases h1 : p.sum = 1
      · obtain ⟨l1, l2⟩ := lone h h1 ha hq
        by_cases hw : wS idx1 p n < a
        · rw [if_pos (l1 hw), if_pos ⟨h1, hw⟩]; rfl
        · rw [if_neg (by have := (l2 hw).1; omega), if_neg (fun h => hw h.2)]; rfl
      · rw [if_neg (by omega), if_neg (fun h => h1 h.1)]; rfl
theorem reach2 {n : Nat} {p : List Int} (h : OkP n p) (hs : p.sum = 1) {a b : Int} (ha : 1 ≤ a) (hb : 1 ≤ b) (hw : wS idx1 p n < a + b) :
    (∃ x, x ∈ reachP [a, b] p) ∧ ∀ x, x ∈ reachP [a, b] p → OkP n x ∧ x.sum = 0 := by
  have hs0 : p.sum ≠ 0 := by omega
  have all : ∀ q, q ∈ stepsP p a → (∃ x, x ∈ reachP [b] q) ∧ ∀ x, x ∈ reachP [b] q → OkP n x ∧ x.sum = 0 := fun q hq => by
    have hq1 := (step_of h ha hq).1
    obtain ⟨l1, l2⟩ := lone h hs ha hq
    by_cases hz : q.sum = 0
    · rw [reachP_zero hz]; exact ⟨⟨q, by simp⟩, fun x hx => by simp only [List.mem_singleton] at hx; subst hx; exact ⟨hq1, hz⟩⟩
    · have hwa : ¬ wS idx1 p n < a := fun hh => hz (l1 hh)
      obtain ⟨m1, m2⟩ := l2 hwa
      have e : ∀ x, x ∈ reachP [b] q ↔ x ∈ stepsP q b := fun x => by
        simp only [reachP, if_neg hz, List.mem_flatMap, List.mem_singleton]
        exact ⟨fun ⟨y, hy, e⟩ => e ▸ hy, fun hx => ⟨x, hx, rfl⟩⟩
      refine ⟨?_, fun x hx => ?_⟩
      · cases hst : stepsP q b with
        | nil => exact absurd hst (stepsP_ne hq1 b hz)
        | cons r rs => exact ⟨r, (e r).2 (by rw [hst]; simp)⟩
      · have hx' := (e x).1 hx
        exact ⟨(step_of hq1 hb hx').1, (lone hq1 m1 hb hx').1 (by omega)⟩
  simp only [reachP, if_neg hs0, List.mem_flatMap] at all ⊢
  refine ⟨?_, fun x ⟨q, hq, hx⟩ => (all q hq).2 x hx⟩
  cases hst : stepsP p a with
  | nil => exact absurd hst (stepsP_ne h a hs0)
  | cons r rs =>
    obtain ⟨x, hx⟩ := (all r (by rw [hst]; simp)).1
    exact ⟨x, r, by simp, hx⟩
theorem specRes_eq {n : Nat} {p : List Int} (h : OkP n p) {r : Int × Int} (h1 : 1 ≤ r.2) (h2 : r.2 ≤ r.1) : specRes p r = resP p r := by
  obtain ⟨a, b⟩ := r
  simp only at h1 h2
  unfold specRes resP ordP
  simp only
  by_cases e : a = b
  · rw [if_pos e, if_pos e]
    have hd : DiceP [a, a, a, a] := fun d hd => by simp at hd; subst hd; omega
    have := rep_ok (n := n) (a := a) (by omega) 4 h
    rw [walk_eq hd h (show UniP [a, a, a, a] p from this.2)]
    simp
  · rw [if_neg e, if_neg e]
    have d1 : DiceP [a, b] := fun d hd => by simp at hd; omega
    have d2 : DiceP [b, a] := fun d hd => by simp at hd; omega
    have u1 := uni2 h (a := a) (b := b) (by omega)
    have u2 := uni2 h (a := b) (b := a) (by omega)
    have l1 := reachP_len d1 h
    have l2 := reachP_len d2 h
    have la : LenL n (reachP [a, b] p ++ reachP [b, a] p) := fun x hx => (List.mem_append.1 hx).elim (l1 x) (l2 x)
    rw [walk_eq d1 h u1, walk_eq d2 h u2]
    simp only [List.flatMap_cons, List.flatMap_nil, List.append_nil]
    by_cases hn : numP [b, a] p = numP [a, b] p
    · rw [if_neg (by omega), if_pos hn, foldP_canon (n := n) l1 (canonD_all l2).2.1]
      exact canonD_congr (n := n) la fun x => by simp only [List.mem_append, (canonD_all l2).2.2 x]
    · rw [num2 h (a := a) (b := b) (by omega), num2 h (a := b) (b := a) (by omega)] at hn ⊢
      have hs0 : p.sum ≠ 0 := fun e => by rw [if_pos e, if_pos e] at hn; exact hn rfl
      rw [if_neg hs0, if_neg hs0] at hn ⊢
      have hs1 : p.sum = 1 := Classical.byContradiction fun hh => by rw [if_neg (fun h => hh h.1), if_neg (fun h => hh h.1)] at hn; exact hn rfl
      have hwa : wS idx1 p n < a := Classical.byContradiction fun hh => by rw [if_neg (fun h => hh (by have := h.2; omega)), if_neg (fun h => hh h.2)] at hn; exact hn rfl
      have hwb : ¬ wS idx1 p n < b := fun hh => by rw [if_pos ⟨hs1, hh⟩, if_pos ⟨hs1, hwa⟩] at hn; exact hn rfl
      have hA : p.sum = 1 ∧ wS idx1 p n < a := ⟨hs1, hwa⟩
      have hB : ¬ (p.sum = 1 ∧ wS idx1 p n < b) := fun h => hwb h.2
      rw [if_pos hA, if_neg hB, if_pos (show (1 : Int) < 2 by decide)]
      obtain ⟨⟨z1, k1⟩, k2⟩ := reach2 h hs1 (a := a) (b := b) (by omega) (by omega) (by omega)
      obtain ⟨⟨z2, m1⟩, m2⟩ := reach2 h hs1 (a := b) (b := a) (by omega) (by omega) (by omega)
      refine canonD_congr (n := n) la fun x => ?_
      rw [List.mem_append]
      refine ⟨.inr, fun hx => hx.elim (fun hx => ?_) id⟩
      obtain ⟨o1, s1⟩ := k2 x hx
      obtain ⟨o2, s2⟩ := m2 z2 m1
      rw [zero_eq o1 o2 s1 s2]; exact m1

def step1 (d : Int) (q : List Int) : List (List Int) := if q.sum = 0 then [q] else stepsP q d
def rowStep (row : List (List Int)) (d : Int) : List (List Int) := canonD (row.flatMap (step1 d))
/-- the program's rows -/
def rowsP (o : List Int) (p : List Int) : List (List Int) := o.foldl rowStep [p]
def AllP (n : Nat) (l : List (List Int)) : Prop := ∀ q, q ∈ l → OkP n q
theorem AllP.len {n : Nat} {l : List (List Int)} (h : AllP n l) : LenL n l := fun q hq => (h q hq).len
theorem step1_ok {n : Nat} {d : Int} (hd : 1 ≤ d) {row : List (List Int)} (h : AllP n row) : AllP n (row.flatMap (step1 d)) := fun q hq => by
  obtain ⟨p, hp, hq⟩ := List.mem_flatMap.1 hq
  unfold step1 at hq
  split at hq
  · simp only [List.mem_singleton] at hq; subst hq; exact h _ hp
  · exact (step_of (h p hp) hd hq).1
theorem rowStep_ok {n : Nat} {d : Int} (hd : 1 ≤ d) {row : List (List Int)} (h : AllP n row) : AllP n (rowStep row d) ∧ ∀ x, x ∈ rowStep row d ↔ x ∈ row.flatMap (step1 d) := by
  have h1 := step1_ok hd h
  have h2 := (canonD_all h1.len).2.2
  exact ⟨fun q hq => h1 q ((h2 q).1 hq), h2⟩
theorem reach_step1 {ds : List Int} {d : Int} {p x : List Int} : x ∈ (step1 d p).flatMap (reachP ds) ↔ x ∈ reachP (d :: ds) p := by
  unfold step1
  by_cases hs : p.sum = 0
  · rw [if_pos hs, reachP_zero hs]; simp [reachP_zero hs]
  · rw [if_neg hs]; simp only [reachP, if_neg hs]
theorem rows_mem {n : Nat} : ∀ {ds : List Int} {row : List (List Int)}, DiceP ds → AllP n row → AllP n (ds.foldl rowStep row) ∧ ∀ x, x ∈ ds.foldl rowStep row ↔ ∃ q, q ∈ row ∧ x ∈ reachP ds q
  | [], row, _, h => ⟨h, fun x => by simp only [List.foldl_nil, reachP, List.mem_singleton]; exact ⟨fun hx => ⟨x, hx, rfl⟩, fun ⟨q, hq, e⟩ => e ▸ hq⟩⟩
  | d :: ds, row, hd, h => by
    obtain ⟨h1, h2⟩ := rowStep_ok (hd d (by simp)) h
    obtain ⟨i1, i2⟩ := rows_mem (ds := ds) (fun x hx => hd x (List.mem_cons_of_mem _ hx)) h1
    refine ⟨i1, fun x => ?_⟩
    rw [List.foldl_cons, i2 x]
    constructor
    · rintro ⟨q, hq, hx⟩
      obtain ⟨p, hp, hq⟩ := List.mem_flatMap.1 ((h2 q).1 hq)
      exact ⟨p, hp, reach_step1.1 (List.mem_flatMap.2 ⟨q, hq, hx⟩)⟩
    · rintro ⟨p, hp, hx⟩
      obtain ⟨q, hq, hx⟩ := List.mem_flatMap.1 (reach_step1.2 hx)
      exact ⟨q, (h2 q).2 (List.mem_flatMap.2 ⟨p, hp, hq⟩), hx⟩
def implRes (p : List Int) (r : Int × Int) : List (List Int) := canonD ((ordP r).flatMap fun o => rowsP o p)
theorem ordP_dice {r : Int × Int} (h1 : 1 ≤ r.2) (h2 : r.2 ≤ r.1) : ∀ o, o ∈ ordP r → DiceP o ∧ o.length ≤ 4 ∧ o ≠ [] ∧ ∀ d, d ∈ o → d ≤ r.1 := by
  intro o ho
  unfold ordP at ho
  split at ho <;> simp only [List.mem_cons, List.not_mem_nil, or_false] at ho
  · subst ho; exact ⟨fun d hd => by simp at hd; omega, by simp, by simp, fun d hd => by simp at hd; omega⟩
  · rcases ho with rfl | rfl <;> exact ⟨fun d hd => by simp at hd; omega, by simp, by simp, fun d hd => by simp at hd; omega⟩
theorem implRes_eq {n : Nat} {p : List Int} (h : OkP n p) {r : Int × Int} (h1 : 1 ≤ r.2) (h2 : r.2 ≤ r.1) : implRes p r = resP p r := by
  have hd := ordP_dice h1 h2
  have hp : AllP n [p] := fun q hq => by simp only [List.mem_singleton] at hq; subst hq; exact h
  refine canonD_congr (n := n) (fun x hx => ?_) fun x => ?_
  · obtain ⟨o, ho, hx⟩ := List.mem_flatMap.1 hx
    exact reachP_len (hd o ho).1 h x hx
  · simp only [List.mem_flatMap]
    refine exists_congr fun o => and_congr_right fun ho => ?_
    rw [rowsP, (rows_mem (hd o ho).1 hp).2 x]
    simp
theorem resP_mem {n : Nat} {p : List Int} (h : OkP n p) {r : Int × Int} (h1 : 1 ≤ r.2) (h2 : r.2 ≤ r.1) : ∀ x, x ∈ resP p r ↔ ∃ o, o ∈ ordP r ∧ x ∈ reachP o p := by
  have hd := ordP_dice h1 h2
  intro x
  rw [resP, (canonD_all (n := n) (fun x hx => by
    obtain ⟨o, ho, hx⟩ := List.mem_flatMap.1 hx
    exact reachP_len (hd o ho).1 h x hx)).2.2 x, List.mem_flatMap]
theorem resP_ok {n : Nat} {p : List Int} (h : OkP n p) {r : Int × Int} (h1 : 1 ≤ r.2) (h2 : r.2 ≤ r.1) : AllP n (resP p r) := fun x hx => by
  obtain ⟨o, ho, hx⟩ := (resP_mem h h1 h2 x).1 hx
  exact reachP_ok (ordP_dice h1 h2 o ho).1 h x hx
theorem reachP_ne {n : Nat} : ∀ {ds p : List Int}, DiceP ds → OkP n p → reachP ds p ≠ []
  | [], p, _, _ => by simp [reachP]
  | d :: ds, p, hd, h => by
    simp only [reachP]
    split
    · simp
    · next hs =>
      cases hst : stepsP p d with
      | nil => exact absurd hst (stepsP_ne h d hs)
      | cons q qs =>
        have := reachP_ne (ds := ds) (fun x hx => hd x (List.mem_cons_of_mem _ hx)) (step_of h (hd d (by simp)) (q := q) (by rw [hst]; simp)).1
        simp [this]
theorem resP_ne {n : Nat} {p : List Int} (h : OkP n p) {r : Int × Int} (h1 : 1 ≤ r.2) (h2 : r.2 ≤ r.1) : resP p r ≠ [] := by
  obtain ⟨o, ho⟩ : ∃ o, o ∈ ordP r := by
    by_cases e : r.1 = r.2
    · exact ⟨[r.1, r.1, r.1, r.1], by simp [ordP, e]⟩
    · exact ⟨[r.1, r.2], by simp [ordP, e]⟩
  have := reachP_ne (ordP_dice h1 h2 o ho).1 h
  obtain ⟨x, hx⟩ := List.exists_mem_of_ne_nil _ this
  have := (resP_mem h h1 h2 x).2 ⟨o, ho, hx⟩
  intro e; rw [e] at this; simp at this
/-- pips -/
def pw : Nat → Int := fun i => (i : Int) + 1
theorem reach_pips {n : Nat} : ∀ {ds p : List Int}, DiceP ds → OkP n p → ∀ q, q ∈ reachP ds p → wS pw p n - ds.sum ≤ wS pw q n ∧ wS pw q n ≤ wS pw p n ∧ (ds ≠ [] → p.sum ≠ 0 → wS pw q n < wS pw p n) ∧ q.sum ≤ p.sum
  | [], p, _, _, q, hq => by simp only [reachP, List.mem_singleton] at hq; subst hq; simp
  | d :: ds, p, hd, h, q, hq => by
    have hd' : DiceP ds := fun x hx => hd x (List.mem_cons_of_mem _ hx)
    have hd1 := hd d (by simp)
    have hds : 0 ≤ ds.sum := by
      clear hq
      induction ds with
      | nil => simp
      | cons x xs ih =>
        have := hd' x (by simp)
        have := ih (fun y hy => hd y (by simp at hy ⊢; rcases hy with h | h <;> simp [h])) (fun y hy => hd' y (List.mem_cons_of_mem _ hy))
        simp only [List.sum_cons]; omega
    simp only [reachP] at hq
    split at hq
    · next hs =>
      simp only [List.mem_singleton] at hq; subst hq
      exact ⟨by simp only [List.sum_cons]; omega, Int.le_refl _, fun _ hh => absurd hs hh, Int.le_refl _⟩
    · next hs =>
      obtain ⟨m, hm, hq⟩ := List.mem_flatMap.1 hq
      obtain ⟨h1, i, _, _, _, h2⟩ := step_of h hd1 hm
      obtain ⟨i1, i2, _, i4⟩ := reach_pips hd' h1 q hq
      have k := h2 pw
      have ks := step_sum h hd1 hm
      simp only [pw, List.sum_cons] at *
      split at k <;> exact ⟨by omega, by omega, fun _ _ => by omega, by omega⟩
theorem putD_length (l : List (List Int)) (p : List Int) : (putD l p).length ≤ l.length + 1 := by
  induction l with
  | nil => simp [putD]
  | cons q l ih => simp only [putD]; split <;> (try split) <;> simp <;> omega
theorem foldP_length : ∀ (l acc : List (List Int)), (l.foldl putD acc).length ≤ acc.length + l.length
  | [], acc => by simp
  | p :: l, acc => by
    have := foldP_length l (putD acc p)
    have := putD_length acc p
    simp only [List.foldl_cons, List.length_cons]; omega
theorem canonD_length (l : List (List Int)) : (canonD l).length ≤ l.length := by
  have := foldP_length l []
  simpa [canonD] using this
theorem stepsP_length (p : List Int) (d : Int) : (stepsP p d).length ≤ p.length := by
  unfold stepsP
  rw [List.length_map]
  exact Nat.le_trans (List.length_filter_le _ _) (by simp)
end Go.Proofs.Ytoobijimfccfgaa
