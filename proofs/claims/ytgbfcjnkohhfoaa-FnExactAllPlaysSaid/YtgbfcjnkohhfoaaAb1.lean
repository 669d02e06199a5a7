/-
  An abstract machine over the model's code, part 1: codes of data, what memory says of them, abstract values, entries, states; what one step keeps.
-/
import Derived.Test.YtgbfcjnkohhfoaaBs
import Derived.Below
import Derived.Laws.AppendOwn
import Derived.Laws.OwnMore
import Derived.Orders
namespace Go.Proofs.Ytgbfcjnkohhfoaa
open Go.RowKit

/-- tests of numbers, in the spelling that 'dsimp' reckons -/
def nb (a b : Nat) : Bool := Nat.beq a b
def nle (a b : Nat) : Bool := Nat.ble a b
def nlt (a b : Nat) : Bool := Nat.ble (a + 1) b
def eqb (a b : Bool) : Bool := bif a then b else !b
theorem eq_of_nb {a b : Nat} (h : nb a b = true) : a = b := Nat.eq_of_beq_eq_true h
theorem nb_refl (a : Nat) : nb a a = true := Nat.beq_refl a
theorem le_of_nle {a b : Nat} (h : nle a b = true) : a ≤ b := Nat.le_of_ble_eq_true h
theorem lt_of_nlt {a b : Nat} (h : nlt a b = true) : a < b := Nat.le_of_ble_eq_true h
theorem nlt_of {a b : Nat} (h : a < b) : nlt a b = true := Nat.ble_eq_true_of_le h
theorem eqb_eq {a b : Bool} (h : eqb a b = true) : a = b := by cases a <;> cases b <;> simp_all [eqb]

def memb (x : Nat) : List Nat → Bool
  | [] => false
  | y :: l => bif nb x y then true else memb x l
theorem memb_iff {x : Nat} : ∀ {l : List Nat}, memb x l = true ↔ x ∈ l
  | [] => by simp [memb]
  | y :: l => by
    simp only [memb, List.mem_cons]
    cases h : nb x y with
    | true => have := eq_of_nb h; simp [this]
    | false => have : x ≠ y := by rintro rfl; rw [nb_refl] at h; cases h
               simp [this, memb_iff]

/-- codes of data -/
inductive TC | i (k : IntKind) | b | s | sl (t : TC) | pr (t u : TC) | tw (t u : TC)

@[reducible] def TC.D : TC → Type
  | .i _ => Int
  | .b => Bool
  | .s => ByteArray
  | .sl t => List t.D
  | .pr t u => t.D × u.D
  | .tw t u => t.D × u.D
def TC.n : TC → Nat
  | .pr t u => t.n + u.n
  | .tw t u => t.n + u.n
  | _ => 1
theorem TC.n_pos (t : TC) : 0 < t.n := by induction t <;> simp_all [TC.n] <;> omega
def TC.z : (t : TC) → t.D
  | .i _ => 0
  | .b => false
  | .s => ByteArray.empty
  | .sl _ => []
  | .pr t u => (t.z, u.z)
  | .tw t u => (t.z, u.z)
def TC.zc : TC → List Value
  | .i k => [.int k 0]
  | .b => [.bool false]
  | .s => [.string ByteArray.empty]
  | .sl _ => [.slice none 0 0]
  | .pr t u => t.zc ++ u.zc
  | .tw t u => t.zc ++ u.zc

/-- the greatest length of a slice that is spoken of -/
def LB : Nat := 9223372036854775807
/-- the greatest length of a slice that is appended to -/
def AB : Nat := 1099511627776

/-- whether rows of a code are whole rows -/
def TC.fl (_ : TC) : Bool := true
def isI64 : TC → Bool
  | .i .i64 => true
  | _ => false
def isStep : TC → Bool
  | .pr (.i .i64) (.pr (.i .i64) (.pr (.i .i64) .b)) => true
  | _ => false
/-- the type of steps -/
def stepTy : Nat := 90
/-- a slice whose block is its own whole row, as an append has made it -/
def Wh (w : World) (b cap : Nat) (t : TC) : Prop := cap ≤ maxLen ∧ ∃ cur e, w.heap[b]? = some (.cells cur e (0, 0)) ∧ cur.size = cap * t.n ∧ (isI64 t = true → e = 2) ∧ (isI64 t = false → e ≠ 2) ∧ (isStep t = true → e = stepTy) ∧ (isStep t = false → e ≠ stepTy)
/-- whether numbers of 64 bits have the type that is looked for -/
def okE (e : Nat) (t : TC) : Bool := bif isI64 t then nb e 2 else !(nb e 2) && (bif isStep t then nb e stepTy else !(nb e stepTy))
theorem Wh.agree {w w' : World} {b cap : Nat} {t : TC} (h : Wh w b cap t) (e : w'.heap[b]? = w.heap[b]?) : Wh w' b cap t := by unfold Wh at *; rw [e]; exact h
/-- a cell that leads to no block -/
def noBlk : Value → Bool
  | .int _ _ => true
  | .bool _ => true
  | .string _ => true
  | .slice none _ _ => true
  | _ => false
/-- twins: two slices whose blocks were made for one another, behind a block that nobody writes; or cells without blocks -/
def Twin (O : Nat → Prop) (w : World) (us ws : List Value) : Prop :=
  ((∀ v, v ∈ us → noBlk v = true) ∧ ∀ v, v ∈ ws → noBlk v = true) ∨
  ∃ n l m cap cap', us = [.slice (some ⟨n + 2, 0, none⟩) l cap] ∧ ws = [.slice (some ⟨n + 4, 0, none⟩) m cap'] ∧ ¬ O n ∧ ∃ cur e, w.heap[n]? = some (.cells cur e (0, 0)) ∧ e ≠ 2
theorem Twin.move {O O' : Nat → Prop} {w w' : World} (hA : ∀ b, b < w.heap.size → ¬ O b → ¬ O' b ∧ w'.heap[b]? = w.heap[b]?) {us ws : List Value} (h : Twin O w us ws) : Twin O' w' us ws := by
  rcases h with h | ⟨n, l, m, cap, cap', h1, h2, h3, cur, e, h4, h5⟩
  · exact .inl h
  · have := hA n (Array.getElem?_eq_some_iff.1 h4).1 h3
    exact .inr ⟨n, l, m, cap, cap', h1, h2, this.1, cur, e, this.2 ▸ h4, h5⟩
theorem TC.zc_noBlk : ∀ (t : TC) (v : Value), v ∈ t.zc → noBlk v = true
  | .i _, v, h => by simp only [TC.zc, List.mem_singleton] at h; subst h; rfl
  | .b, v, h => by simp only [TC.zc, List.mem_singleton] at h; subst h; rfl
  | .s, v, h => by simp only [TC.zc, List.mem_singleton] at h; subst h; rfl
  | .sl _, v, h => by simp only [TC.zc, List.mem_singleton] at h; subst h; rfl
  | .pr t u, v, h => by
    rcases List.mem_append.1 h with h | h
    · exact t.zc_noBlk v h
    · exact u.zc_noBlk v h
  | .tw t u, v, h => by
    rcases List.mem_append.1 h with h | h
    · exact t.zc_noBlk v h
    · exact u.zc_noBlk v h
/-- the cells vs are the data x, whose memory lies outside O; z: the data's slices are whole rows -/
def Rep (z : Prop) (O : Nat → Prop) (w : World) : (t : TC) → List Value → t.D → Prop
  | .i k, vs, x => vs = [.int k x]
  | .b, vs, x => vs = [.bool x]
  | .s, vs, x => vs = [.string x]
  | .sl t, vs, (xs : List t.D) => ∃ a cap, vs = [.slice a xs.length cap] ∧ xs.length ≤ cap ∧ xs.length ≤ LB ∧ (a = none → cap = 0) ∧ (z → t.fl = true → a = none ∨ ∃ b, a = some ⟨b, 0, none⟩ ∧ ¬ O b ∧ Wh w b cap t) ∧
      (xs = [] ∨ ∃ b off, a = some ⟨b, off, none⟩ ∧ ¬ O b ∧ ∀ (i : Nat) (x : t.D), xs[i]? = some x →
        ∃ us : List Value, us.length = t.n ∧ (∀ (j : Nat) (v : Value), us[j]? = some v → w.cell? ⟨b, off + i * t.n + j, none⟩ = some v) ∧ Rep z O w t us x)
  | .pr t u, vs, x => ∃ us ws, vs = us ++ ws ∧ Rep z O w t us x.1 ∧ Rep z O w u ws x.2
  | .tw t u, vs, x => ∃ us ws, vs = us ++ ws ∧ Rep z O w t us x.1 ∧ Rep z O w u ws x.2 ∧ (z → Twin O w us ws)

theorem Rep.len {z : Prop} {O : Nat → Prop} {w : World} : ∀ {t : TC} {vs : List Value} {x : t.D}, Rep z O w t vs x → vs.length = t.n
  | .i _, _, _, h => by simp only [Rep] at h; rw [h]; rfl
  | .b, _, _, h => by simp only [Rep] at h; rw [h]; rfl
  | .s, _, _, h => by simp only [Rep] at h; rw [h]; rfl
  | .sl _, _, _, h => by simp only [Rep] at h; obtain ⟨a, cap, rfl, _⟩ := h; rfl
  | .pr t u, _, _, h => by
    simp only [Rep] at h
    obtain ⟨us, ws, rfl, h1, h2⟩ := h
    simp [TC.n, h1.len, h2.len]
  | .tw t u, _, _, h => by
    simp only [Rep] at h
    obtain ⟨us, ws, rfl, h1, h2, _⟩ := h
    simp [TC.n, h1.len, h2.len]

theorem Rep.one {z : Prop} {O : Nat → Prop} {w : World} : ∀ {t : TC} {vs : List Value} {x : t.D}, Rep z O w t vs x → ∀ v ∈ vs, v.oneCell' = true
  | .i _, _, _, h => by simp only [Rep] at h; rw [h]; simp [Value.oneCell']
  | .b, _, _, h => by simp only [Rep] at h; rw [h]; simp [Value.oneCell']
  | .s, _, _, h => by simp only [Rep] at h; rw [h]; simp [Value.oneCell']
  | .sl _, _, _, h => by simp only [Rep] at h; obtain ⟨a, cap, rfl, _⟩ := h; simp [Value.oneCell']
  | .pr t u, _, _, h => by
    simp only [Rep] at h
    obtain ⟨us, ws, rfl, h1, h2⟩ := h
    intro v hv
    rcases List.mem_append.1 hv with hv | hv
    · exact h1.one v hv
    · exact h2.one v hv
  | .tw t u, _, _, h => by
    simp only [Rep] at h
    obtain ⟨us, ws, rfl, h1, h2, _⟩ := h
    intro v hv
    rcases List.mem_append.1 hv with hv | hv
    · exact h1.one v hv
    · exact h2.one v hv

theorem cell_lt {w : World} {b o : Nat} {v : Value} (h : w.cell? ⟨b, o, none⟩ = some v) : b < w.heap.size := by
  unfold World.cell? at h
  split at h
  · next hh => exact (Array.getElem?_eq_some_iff.1 hh).1
  · simp at h
theorem cell_agree {w w' : World} {b o : Nat} (h : w'.heap[b]? = w.heap[b]?) : w'.cell? ⟨b, o, none⟩ = w.cell? ⟨b, o, none⟩ := by
  simp only [World.cell?, h]

theorem Rep.move {z z' : Prop} {O O' : Nat → Prop} {w w' : World} (hz : z' → z) (hA : ∀ b, b < w.heap.size → ¬ O b → ¬ O' b ∧ w'.heap[b]? = w.heap[b]?) :
    ∀ {t : TC} {vs : List Value} {x : t.D}, Rep z O w t vs x → Rep z' O' w' t vs x
  | .i _, _, _, h => by simpa only [Rep] using h
  | .b, _, _, h => by simpa only [Rep] using h
  | .s, _, _, h => by simpa only [Rep] using h
  | .sl t, _, xs, h => by
    simp only [Rep] at h ⊢
    obtain ⟨a, cap, rfl, h1, h2, h2', hw, h3⟩ := h
    have hw' : z' → t.fl = true → a = none ∨ ∃ b, a = some ⟨b, 0, none⟩ ∧ ¬ O' b ∧ Wh w' b cap t := fun k k2 => by
      rcases hw (hz k) k2 with e | ⟨b, e, hb, hW⟩
      · exact .inl e
      · have hlt : b < w.heap.size := by
          obtain ⟨_, cur, e', hg, _⟩ := hW
          exact (Array.getElem?_eq_some_iff.1 hg).1
        exact .inr ⟨b, e, (hA b hlt hb).1, hW.agree (hA b hlt hb).2⟩
    refine ⟨a, cap, rfl, h1, h2, h2', hw', ?_⟩
    cases xs with
    | nil => exact .inl rfl
    | cons x0 xs =>
      obtain ⟨b, off, rfl, hb, hc⟩ := h3.resolve_left (by simp)
      have hlt : b < w.heap.size := by
        obtain ⟨us, hl, hcell, _⟩ := hc 0 x0 (by simp)
        cases us with
        | nil => have := TC.n_pos t; simp at hl; omega
        | cons u us => exact cell_lt (hcell 0 u (by simp))
      refine .inr ⟨b, off, rfl, (hA b hlt hb).1, fun i x hx => ?_⟩
      obtain ⟨us, hl, hcell, hr⟩ := hc i x hx
      refine ⟨us, hl, fun j v hv => ?_, hr.move hz hA⟩
      rw [cell_agree (hA b hlt hb).2]
      exact hcell j v hv
  | .pr t u, _, _, h => by
    simp only [Rep] at h ⊢
    obtain ⟨us, ws, rfl, h1, h2⟩ := h
    exact ⟨us, ws, rfl, h1.move hz hA, h2.move hz hA⟩
  | .tw t u, _, _, h => by
    simp only [Rep] at h ⊢
    obtain ⟨us, ws, rfl, h1, h2, h3⟩ := h
    exact ⟨us, ws, rfl, h1.move hz hA, h2.move hz hA, fun k => (h3 (hz k)).move hA⟩

theorem Rep.zero (z : Prop) (O : Nat → Prop) (w : World) : ∀ t : TC, Rep z O w t t.zc t.z
  | .i _ => by simp [Rep, TC.zc, TC.z]
  | .b => by simp [Rep, TC.zc, TC.z]
  | .s => by simp [Rep, TC.zc, TC.z]
  | .sl t => by simp only [Rep, TC.zc, TC.z]; exact ⟨none, 0, rfl, by simp, by simp, by simp, fun _ _ => .inl rfl, .inl trivial⟩
  | .pr t u => by simp only [Rep, TC.zc, TC.z]; exact ⟨_, _, rfl, Rep.zero z O w t, Rep.zero z O w u⟩
  | .tw t u => by simp only [Rep, TC.zc, TC.z]; exact ⟨_, _, rfl, Rep.zero z O w t, Rep.zero z O w u, fun _ => .inl ⟨t.zc_noBlk, u.zc_noBlk⟩⟩

/-- abstract values of one cell: a value; the value of entry k; the address in entry k of element i (of n cells), cell j -/
inductive A1 | con (v : Value) | ref (k : Nat) | ptr (k i n j : Nat)
inductive AV | one (x : A1) | agg (l : List A1) | tup (l : List (Bool × List A1))

abbrev Env := Nat → Option Value

def padd (v : Value) (o : Nat) : Option Value :=
  match v with
  | .pointer (some ⟨b, p, none⟩) => some (.pointer (some ⟨b, p + o, none⟩))
  | .slice (some ⟨b, p, none⟩) _ _ => some (.pointer (some ⟨b, p + o, none⟩))
  | _ => none
def den1 (ρ : Env) : A1 → Option Value
  | .con v => some v
  | .ref k => ρ k
  | .ptr k i n j => (ρ k).bind fun v => padd v (i * n + j)
def DenL (ρ : Env) : List A1 → List Value → Prop
  | [], vs => vs = []
  | x :: l, vs => ∃ v us, vs = v :: us ∧ den1 ρ x = some v ∧ DenL ρ l us
def DenC (ρ : Env) (c : Bool × List A1) (v : Value) : Prop :=
  ∃ vs, DenL ρ c.2 vs ∧ ((c.1 = true ∧ v = .agg vs.toArray) ∨ (c.1 = false ∧ vs = [v]))
def DenT (ρ : Env) : List (Bool × List A1) → List Value → Prop
  | [], vs => vs = []
  | x :: l, vs => ∃ v us, vs = v :: us ∧ DenC ρ x v ∧ DenT ρ l us
def Den (ρ : Env) : AV → Value → Prop
  | .one x, v => den1 ρ x = some v
  | .agg l, v => ∃ vs, DenL ρ l vs ∧ v = .agg vs.toArray
  | .tup l, v => ∃ vs, DenT ρ l vs ∧ v = .tuple vs.toArray

def Ext (ρ ρ' : Env) : Prop := ∀ k v, ρ k = some v → ρ' k = some v
theorem Ext.refl (ρ : Env) : Ext ρ ρ := fun _ _ h => h
theorem den1_ext {ρ ρ' : Env} (hE : Ext ρ ρ') {x : A1} {v : Value} (h : den1 ρ x = some v) : den1 ρ' x = some v := by
  cases x with
  | con u => exact h
  | ref k => exact hE k v h
  | ptr k i n j =>
    simp only [den1, Option.bind_eq_some_iff] at h ⊢
    obtain ⟨u, hu, h⟩ := h
    exact ⟨u, hE k u hu, h⟩
theorem DenL.ext {ρ ρ' : Env} (hE : Ext ρ ρ') : ∀ {l : List A1} {vs : List Value}, DenL ρ l vs → DenL ρ' l vs
  | [], _, h => h
  | _ :: _, _, h => by
    obtain ⟨v, us, rfl, h1, h2⟩ := h
    exact ⟨v, us, rfl, den1_ext hE h1, h2.ext hE⟩
theorem DenC.ext {ρ ρ' : Env} (hE : Ext ρ ρ') {c : Bool × List A1} {v : Value} (h : DenC ρ c v) : DenC ρ' c v :=
  let ⟨vs, h1, h2⟩ := h; ⟨vs, h1.ext hE, h2⟩
theorem DenT.ext {ρ ρ' : Env} (hE : Ext ρ ρ') : ∀ {l : List (Bool × List A1)} {vs : List Value}, DenT ρ l vs → DenT ρ' l vs
  | [], _, h => h
  | _ :: _, _, h => by
    obtain ⟨v, us, rfl, h1, h2⟩ := h
    exact ⟨v, us, rfl, h1.ext hE, h2.ext hE⟩
theorem Den.ext {ρ ρ' : Env} (hE : Ext ρ ρ') {x : AV} {v : Value} (h : Den ρ x v) : Den ρ' x v := by
  cases x with
  | one x => exact den1_ext hE h
  | agg l => obtain ⟨vs, h1, h2⟩ := h; exact ⟨vs, h1.ext hE, h2⟩
  | tup l => obtain ⟨vs, h1, h2⟩ := h; exact ⟨vs, h1.ext hE, h2⟩

theorem DenL.len {ρ : Env} : ∀ {l : List A1} {vs : List Value}, DenL ρ l vs → vs.length = l.length
  | [], _, h => by cases h; rfl
  | _ :: _, _, h => by obtain ⟨v, us, rfl, _, h2⟩ := h; simp [h2.len]
theorem DenL.uniq {ρ : Env} : ∀ {l : List A1} {vs us : List Value}, DenL ρ l vs → DenL ρ l us → vs = us
  | [], _, _, h, k => by simp only [DenL] at h k; rw [h, k]
  | _ :: _, _, _, h, k => by
    obtain ⟨v, us, rfl, h1, h2⟩ := h
    obtain ⟨v', us', rfl, k1, k2⟩ := k
    rw [h1] at k1; cases k1
    rw [h2.uniq k2]
theorem DenL.append {ρ : Env} : ∀ {l m : List A1} {vs us : List Value}, DenL ρ l vs → DenL ρ m us → DenL ρ (l ++ m) (vs ++ us)
  | [], _, _, _, h, h' => by cases h; exact h'
  | _ :: _, _, _, _, h, h' => by obtain ⟨v, us, rfl, h1, h2⟩ := h; exact ⟨v, _, rfl, h1, h2.append h'⟩
theorem DenL.get {ρ : Env} : ∀ {l : List A1} {vs : List Value} {i : Nat} {x : A1}, DenL ρ l vs → l[i]? = some x → ∃ v, den1 ρ x = some v ∧ vs[i]? = some v
  | [], _, i, _, _, hx => by simp at hx
  | _ :: _, _, 0, _, h, hx => by obtain ⟨v, us, rfl, h1, h2⟩ := h; simp at hx; subst hx; exact ⟨v, h1, rfl⟩
  | _ :: _, _, i + 1, _, h, hx => by obtain ⟨v, us, rfl, h1, h2⟩ := h; simpa using h2.get (by simpa using hx)
theorem DenL.take {ρ : Env} : ∀ {l : List A1} {vs : List Value} (n : Nat), DenL ρ l vs → DenL ρ (l.take n) (vs.take n)
  | [], _, n, h => by cases h; simp [DenL]
  | _ :: _, _, 0, h => by simp [DenL]
  | _ :: _, _, n + 1, h => by obtain ⟨v, us, rfl, h1, h2⟩ := h; exact ⟨v, _, rfl, h1, h2.take n⟩
theorem DenL.drop {ρ : Env} : ∀ {l : List A1} {vs : List Value} (n : Nat), DenL ρ l vs → DenL ρ (l.drop n) (vs.drop n)
  | [], _, n, h => by cases h; simp [DenL]
  | _ :: _, _, 0, h => h
  | _ :: _, _, n + 1, h => by obtain ⟨v, us, rfl, h1, h2⟩ := h; exact h2.drop n

/-- the first pair of a key -/
def look {β : Type} (k : Nat) : List (Nat × β) → Option β
  | [] => none
  | (k', b) :: l => bif nb k' k then some b else look k l
theorem look_cons_eq {β : Type} {k : Nat} {b : β} {l : List (Nat × β)} : look k ((k, b) :: l) = some b := by simp [look, nb_refl]
theorem look_cons_ne {β : Type} {k k' : Nat} {b : β} {l : List (Nat × β)} (h : k' ≠ k) : look k ((k', b) :: l) = look k l := by
  have : nb k' k = false := by cases hb : nb k' k with | false => rfl | true => exact absurd (eq_of_nb hb) h
  simp [look, this]
theorem look_append {β : Type} {k : Nat} : ∀ {l m : List (Nat × β)}, look k (l ++ m) = (look k l).or (look k m)
  | [], _ => by simp [look]
  | (k', b) :: l, m => by
    by_cases h : k' = k
    · subst h; simp [look_cons_eq]
    · simp [look_cons_ne h, look_append]
theorem look_mem {β : Type} {k : Nat} {b : β} : ∀ {l : List (Nat × β)}, look k l = some b → (k, b) ∈ l
  | [], h => by simp [look] at h
  | (k', b') :: l, h => by
    by_cases hk : k' = k
    · subst hk; simp [look_cons_eq] at h; subst h; exact List.mem_cons_self ..
    · rw [look_cons_ne hk] at h; exact List.mem_cons_of_mem _ (look_mem h)
theorem look_none {β : Type} {k : Nat} : ∀ {l : List (Nat × β)}, (∀ b, (k, b) ∉ l) → look k l = none
  | [], _ => rfl
  | (k', b') :: l, h => by
    have hk : k' ≠ k := fun e => h b' (by subst e; exact List.mem_cons_self ..)
    rw [look_cons_ne hk]
    exact look_none fun b hb => h b (List.mem_cons_of_mem _ hb)

theorem look_none_iff {β : Type} {k : Nat} : ∀ {l : List (Nat × β)}, look k l = none → ∀ b, (k, b) ∉ l
  | [], _, b, hb => by simp at hb
  | (k', b') :: l, h, b, hb => by
    by_cases hk : k' = k
    · subst hk; simp [look_cons_eq] at h
    · rw [look_cons_ne hk] at h
      simp only [List.mem_cons, Prod.mk.injEq] at hb
      exact look_none_iff h b (hb.resolve_left fun e => hk e.1.symm)

/-- what is known of memory: a box of known cells; a slice of one's own (e: the type of its elements); a slice that nobody writes; a map of one's own (g: its values are structs). fr: the data's memory is new -/
inductive Ent | box (l : List A1) | own (e : Nat) (t : TC) (xs : List t.D) (fr : Bool) | imm (t : TC) (xs : List t.D) (fr : Bool) | mp (g : Bool) (tk tv : TC) (m : List (tk.D × tv.D)) | gone | tw (l m : List A1)

/-- a value of the cells us: a struct, or a single cell -/
def ValC (g : Bool) (us : List Value) (v : Value) : Prop := (g = true ∧ v = .agg us.toArray) ∨ (g = false ∧ us = [v])
/-- a map's entries are the data m, in their order -/
def MapOk (O : Nat → Prop) (w : World) (g : Bool) (tk tv : TC) : List MapEntry → List (tk.D × tv.D) → Prop
  | [], m => m = []
  | e :: es, m => ∃ p m', m = p :: m' ∧ Rep False O w tk [e.key] p.1 ∧ (∃ us, ValC g us e.val ∧ Rep False O w tv us p.2) ∧ MapOk O w g tk tv es m'
theorem MapOk.move {O O' : Nat → Prop} {w w' : World} {g : Bool} {tk tv : TC} (hA : ∀ b, b < w.heap.size → ¬ O b → ¬ O' b ∧ w'.heap[b]? = w.heap[b]?) :
    ∀ {es : List MapEntry} {m : List (tk.D × tv.D)}, MapOk O w g tk tv es m → MapOk O' w' g tk tv es m
  | [], _, h => h
  | _ :: _, _, h => by
    obtain ⟨p, m', rfl, h1, ⟨us, h2, h3⟩, h4⟩ := h
    exact ⟨p, m', rfl, h1.move id hA, ⟨us, h2, h3.move id hA⟩, h4.move hA⟩

structure St where
  tm : List (Nat × AV)
  en : List (Nat × Ent)

/-- what stays the same in one activation -/
structure Cx where
  P : Program
  n : Nat
  w0 : World
  M : Nat → Prop
  O0 : Nat → Prop
  pin : Nat → Option Value
  z0 : Prop

def blkOf : Value → Option Nat
  | .pointer (some a) => some a.block
  | .slice (some a) _ _ => some a.block
  | .map (some r) => some r
  | _ => none
def isOwn : Ent → Bool
  | .imm _ _ _ => false
  | .gone => false
  | .tw _ _ => false
  | _ => true
/-- memory that the data of an entry avoids -/
def offs (c : Cx) (O1 : Nat → Prop) (fr : Bool) (b : Nat) : Prop := O1 b ∨ (fr = true ∧ c.O0 b)

/-- data of the flag fr: its slices are whole rows -/
def zs (c : Cx) (fr : Bool) : Prop := fr = true ∧ c.z0
theorem zs_mono {c : Cx} {f g : Bool} (h : f = true → g = true) : zs c f → zs c g := fun k => ⟨h k.1, k.2⟩
theorem zs_l {c : Cx} {f g : Bool} : zs c (f && g) → zs c f := zs_mono fun h => (Bool.and_eq_true _ _ ▸ h).1
theorem zs_r {c : Cx} {f g : Bool} : zs c (f && g) → zs c g := zs_mono fun h => (Bool.and_eq_true _ _ ▸ h).2
theorem zs_f {c : Cx} : ¬ zs c false := fun h => nomatch h.1

def EntOk (c : Cx) (O1 : Nat → Prop) (ρ : Env) (w : World) (k : Nat) : Ent → Prop
  | .box l => ∃ b e vs, ρ k = some (.pointer (some ⟨b, 0, none⟩)) ∧ O1 b ∧ DenL ρ l vs ∧ (∀ v ∈ vs, v.oneCell' = true) ∧ w.heap[b]? = some (.cells vs.toArray e (0, 0))
  | .own e t xs fr => ∃ v cs, ρ k = some v ∧ w.ownsRow 0 e t.n v xs.length cs ∧ xs.length ≤ LB ∧ (∀ b, blkOf v = some b → O1 b) ∧
      ∀ (i : Nat) (x : t.D), xs[i]? = some x → Rep (zs c fr) (offs c O1 fr) w t ((cs.drop (i * t.n)).take t.n) x
  | .imm t xs fr => ∃ v, ρ k = some v ∧ Rep (zs c fr) (offs c O1 fr) w (.sl t) [v] xs
  | .mp g tk tv m => ∃ b es clock, ρ k = some (.map (some b)) ∧ O1 b ∧ w.heap[b]? = some (.map es clock) ∧ MapOk (offs c O1 false) w g tk tv es.toList m
  | .gone => True
  | .tw l m => ∃ us ws, DenL ρ l us ∧ DenL ρ m ws ∧ (c.z0 → Twin (offs c O1 true) w us ws)

/-- w has grown from w0; of the old blocks only those of M may have turned -/
structure BelowM (M : Nat → Prop) (w w' : World) : Prop where
  os : w'.os = w.os
  tape : w'.tape = w.tape
  output : w'.output = w.output
  size : w.heap.size ≤ w'.heap.size
  block : ∀ b, b < w.heap.size → ¬ M b → w'.heap[b]? = w.heap[b]?
theorem BelowM.refl (M : Nat → Prop) (w : World) : BelowM M w w := ⟨rfl, rfl, rfl, Nat.le_refl _, fun _ _ _ => rfl⟩
theorem BelowM.trans {M : Nat → Prop} {a b c : World} (h : BelowM M a b) (k : BelowM M b c) : BelowM M a c :=
  ⟨k.os.trans h.os, k.tape.trans h.tape, k.output.trans h.output, Nat.le_trans h.size k.size,
    fun i hi hm => (k.block i (Nat.lt_of_lt_of_le hi h.size) hm).trans (h.block i hi hm)⟩

structure Conc (c : Cx) (N : Nat → Prop) (O1 : Nat → Prop) (ρ : Env) (S : St) (a : Act) (w : World) : Prop where
  size : a.tmps.size = c.n
  nodef : a.defers = []
  tm : ∀ t x, look t S.tm = some x → ∃ v, Den ρ x v ∧ a.tmps[t]? = some v
  en : ∀ k e, look k S.en = some e → EntOk c O1 ρ w k e
  ap : ∀ k k' e e' v v' b, k ≠ k' → look k S.en = some e → look k' S.en = some e' → isOwn e = true → isOwn e' = true → ρ k = some v → ρ k' = some v' → blkOf v = some b → blkOf v' ≠ some b
  nx : ∀ k, N k → ρ k = none
  one : ∀ k v, ρ k = some v → v.oneCell' = true
  olt : ∀ b, O1 b → b < w.heap.size ∧ (c.w0.heap.size ≤ b ∨ c.M b)
  o0 : ∀ b, c.O0 b → b < c.w0.heap.size
  eff : BelowM c.M c.w0 w
  pin : ∀ p v, c.pin p = some v → ρ p = some v

/-- what one operation brings: the value of its slot; entries, new ones or old ones as they are now -/
structure Dl where
  val : AV
  en : List (Nat × Ent)

def St.add (S : St) (dst : Option Nat) (δ : Dl) : St :=
  { tm := match dst with | some d => (d, δ.val) :: S.tm | none => S.tm, en := δ.en ++ S.en }

/-- a step from (O1, ρ, w) to (O1', ρ', w') that brings the entries L; the new ones have numbers in [i0, i0 + 16) -/
structure StepTo (c : Cx) (i0 : Nat) (L : List (Nat × Ent)) (O1 : Nat → Prop) (ρ : Env) (w : World) (O1' : Nat → Prop) (ρ' : Env) (w' : World) : Prop where
  ext : Ext ρ ρ'
  ids : ∀ k, (k < i0 ∨ i0 + 16 ≤ k) → ρ' k = ρ k
  one : ∀ k v, ρ' k = some v → v.oneCell' = true
  eff : BelowM (fun b => O1 b ∧ ∃ k e v, (k, e) ∈ L ∧ ρ k = some v ∧ blkOf v = some b) w w'
  en : ∀ k e, look k L = some e → EntOk c O1' ρ' w' k e
  o1 : ∀ b, O1' b → O1 b ∨ (w.heap.size ≤ b ∧ b < w'.heap.size)
  o1' : ∀ b, O1 b → O1' b ∨ ∃ k e v, (k, e) ∈ L ∧ ρ k = some v ∧ blkOf v = some b
  ap : ∀ k e v b, look k L = some e → isOwn e = true → ρ' k = some v → blkOf v = some b → w.heap.size ≤ b ∨ ∃ k' e' v', (k', e') ∈ L ∧ ρ k' = some v' ∧ blkOf v' = some b
  ap2 : ∀ k k' e e' v v' b, k ≠ k' → look k L = some e → look k' L = some e' → isOwn e = true → isOwn e' = true → ρ' k = some v → ρ' k' = some v' → blkOf v = some b → blkOf v' ≠ some b

theorem EntOk.val {c : Cx} {O1 : Nat → Prop} {ρ : Env} {w : World} {k : Nat} {e : Ent} (h : EntOk c O1 ρ w k e) (ho : isOwn e = true) : ∃ v, ρ k = some v ∧ ∀ b, blkOf v = some b → O1 b ∧ b < w.heap.size := by
  cases e with
  | box l =>
    obtain ⟨b, e, vs, h1, h2, _, _, h3⟩ := h
    refine ⟨_, h1, fun b' hb => ?_⟩
    simp [blkOf] at hb
    subst hb
    exact ⟨h2, (Array.getElem?_eq_some_iff.1 h3).1⟩
  | own e t xs fr =>
    obtain ⟨v, cs, h1, h2, _, h3, _⟩ := h
    refine ⟨v, h1, fun b hb => ⟨h3 b hb, ?_⟩⟩
    obtain ⟨_, h2⟩ := h2
    rcases h2 with ⟨rfl, _⟩ | ⟨g, cap, cur, rfl, _, hg, _⟩
    · simp [blkOf] at hb
    · simp [blkOf] at hb
      subst hb
      exact (Array.getElem?_eq_some_iff.1 hg).1
  | imm t xs fr => simp [isOwn] at ho
  | mp g tk tv m =>
    obtain ⟨b, es, cl, h1, h2, h3, _⟩ := h
    refine ⟨_, h1, fun b' hb => ?_⟩
    simp [blkOf] at hb
    subst hb
    exact ⟨h2, (Array.getElem?_eq_some_iff.1 h3).1⟩
  | gone => simp [isOwn] at ho
  | tw l m => simp [isOwn] at ho

/-- an entry that a step does not name stays as it is -/
theorem EntOk.move {c : Cx} {O1 O1' : Nat → Prop} {ρ ρ' : Env} {w w' : World} {k : Nat} {e : Ent} (h : EntOk c O1 ρ w k e) (hE : Ext ρ ρ')
    (hA : ∀ b, b < w.heap.size → ¬ O1 b → ¬ O1' b ∧ w'.heap[b]? = w.heap[b]?) (hO : isOwn e = true → ∀ v b, ρ k = some v → blkOf v = some b → O1' b ∧ w'.heap[b]? = w.heap[b]?) : EntOk c O1' ρ' w' k e := by
  have hA' : ∀ fr b, b < w.heap.size → ¬ offs c O1 fr b → ¬ offs c O1' fr b ∧ w'.heap[b]? = w.heap[b]? := by
    intro fr b hb hn
    simp only [offs, not_or] at hn ⊢
    have := hA b hb hn.1
    exact ⟨⟨this.1, hn.2⟩, this.2⟩
  cases e with
  | box l =>
    obtain ⟨b, e, vs, h1, h2, h3, h4, h5⟩ := h
    have := hO rfl _ b h1 rfl
    exact ⟨b, e, vs, hE _ _ h1, this.1, h3.ext hE, h4, by rw [this.2]; exact h5⟩
  | own e t xs fr =>
    obtain ⟨v, cs, h1, h2, h3, h4, h5⟩ := h
    refine ⟨v, cs, hE _ _ h1, ⟨h2.1, ?_⟩, h3, fun b hb => (hO rfl v b h1 hb).1, fun i x hx => (h5 i x hx).move id (hA' fr)⟩
    refine h2.2.imp id ?_
    rintro ⟨g, cap, cur, rfl, hb, hg, r⟩
    exact ⟨g, cap, cur, rfl, hb, by rw [(hO rfl _ g h1 rfl).2]; exact hg, r⟩
  | imm t xs fr =>
    obtain ⟨v, h1, h2⟩ := h
    exact ⟨v, hE _ _ h1, h2.move id (hA' fr)⟩
  | mp g tk tv m =>
    obtain ⟨b, es, cl, h1, h2, h3, h4⟩ := h
    have := hO rfl _ b h1 rfl
    exact ⟨b, es, cl, hE _ _ h1, this.1, by rw [this.2]; exact h3, h4.move (hA' false)⟩
  | gone => trivial
  | tw l m =>
    obtain ⟨us, ws, h1, h2, h3⟩ := h
    exact ⟨us, ws, h1.ext hE, h2.ext hE, fun k => (h3 k).move (hA' true)⟩

theorem look_add {S : St} {dst : Option Nat} {δ : Dl} {k : Nat} {e : Ent} (h : look k (S.add dst δ).en = some e) : look k δ.en = some e ∨ (look k δ.en = none ∧ look k S.en = some e) := by
  simp only [St.add, look_append] at h
  cases hl : look k δ.en with
  | none => rw [hl] at h; exact .inr ⟨rfl, by simpa using h⟩
  | some e' => rw [hl] at h; simp at h; subst h; exact .inl rfl

theorem conc_step {c : Cx} {N O1 O1' : Nat → Prop} {ρ ρ' : Env} {S : St} {a : Act} {w w' : World} {i0 : Nat} {δ : Dl} {dst : Option Nat} {v : Value}
    (h : Conc c N O1 ρ S a w) (s : StepTo c i0 δ.en O1 ρ w O1' ρ' w') (hv : Den ρ' δ.val v) (hd : ∀ d, dst = some d → d < c.n)
    (hup : ∀ k e v, (k, e) ∈ δ.en → ρ k = some v → ∃ e0, look k S.en = some e0 ∧ isOwn e0 = true) :
    Conc c (fun k => N k ∧ (k < i0 ∨ i0 + 16 ≤ k)) O1' ρ' (S.add dst δ) (a.put dst v) w' := by
  have hM : ∀ b, b < w.heap.size → ¬ O1 b → w'.heap[b]? = w.heap[b]? := fun b hb hn => s.eff.block b hb fun hw => hn hw.1
  have keep : ∀ b, b < w.heap.size → ¬ O1 b → ¬ O1' b ∧ w'.heap[b]? = w.heap[b]? := fun b hb hn =>
    ⟨fun h' => by rcases s.o1 b h' with h' | h'; exact hn h'; omega, hM b hb hn⟩
  -- an own entry that is not named: its block is none of those that are
  have other : ∀ k e, look k δ.en = none → look k S.en = some e → isOwn e = true → ∀ v b, ρ k = some v → blkOf v = some b → ¬ ∃ k' e' v', (k', e') ∈ δ.en ∧ ρ k' = some v' ∧ blkOf v' = some b := by
    rintro k e hk he ho v b hv hb ⟨k', e', v', hm, hv', hb'⟩
    obtain ⟨e0, he0, ho0⟩ := hup k' e' v' hm hv'
    have hne : k ≠ k' := by
      rintro rfl
      have : look k δ.en ≠ none := by
        intro hn
        have : ∀ l : List (Nat × Ent), (k, e') ∈ l → look k l ≠ none := by
          intro l
          induction l with
          | nil => simp
          | cons p l ih =>
            obtain ⟨kp, ep⟩ := p
            intro hm
            by_cases hkp : kp = k
            · subst hkp; simp [look_cons_eq]
            · rw [look_cons_ne hkp]
              simp at hm
              exact ih (hm.resolve_left fun h => hkp h.1.symm)
        exact this _ hm hn
      exact this hk
    exact h.ap k k' e e0 v v' b hne he he0 ho ho0 hv hv' hb hb'
  have stay : ∀ k e, look k δ.en = none → look k S.en = some e → isOwn e = true → ∀ v b, ρ k = some v → blkOf v = some b → O1' b ∧ w'.heap[b]? = w.heap[b]? := by
    intro k e hk he ho v b hv hb
    obtain ⟨v0, hv0, hb0⟩ := (h.en k e he).val ho
    rw [hv] at hv0
    cases hv0
    have := hb0 b hb
    have hn := other k e hk he ho v b hv hb
    exact ⟨(s.o1' b this.1).resolve_right hn, s.eff.block b this.2 fun hw => hn hw.2⟩
  refine ⟨?_, ?_, ?_, ?_, ?_, ?_, s.one, ?_, h.o0, ?_, fun p u hp => s.ext p u (h.pin p u hp)⟩
  · cases dst <;> simp [Act.put, h.size]
  · cases dst <;> simp [Act.put, h.nodef]
  · intro t x hx
    cases dst with
    | none =>
      obtain ⟨u, hu, ht⟩ := h.tm t x hx
      exact ⟨u, hu.ext s.ext, ht⟩
    | some d =>
      simp only [St.add] at hx
      by_cases hdt : d = t
      · subst hdt
        rw [look_cons_eq] at hx
        cases hx
        exact ⟨v, hv, by simp [Act.put, h.size, hd d rfl]⟩
      · rw [look_cons_ne hdt] at hx
        obtain ⟨u, hu, ht⟩ := h.tm t x hx
        exact ⟨u, hu.ext s.ext, by simp [Act.put, Array.getElem?_setIfInBounds_ne hdt, ht]⟩
  · intro k e he
    rcases look_add he with he | ⟨hk, he⟩
    · exact s.en k e he
    · exact (h.en k e he).move s.ext keep fun ho v b hv hb => stay k e hk he ho v b hv hb
  · intro k k' e e' v v' b hne he he' ho ho' hv hv' hb hb'
    rcases look_add he with he | ⟨hk, he⟩ <;> rcases look_add he' with he' | ⟨hk', he'⟩
    · exact s.ap2 k k' e e' v v' b hne he he' ho ho' hv hv' hb hb'
    · obtain ⟨v0, hv0, hb0⟩ := (h.en k' e' he').val ho'
      have := s.ext _ _ hv0
      rw [hv'] at this
      cases this
      rcases s.ap k e v b he ho hv hb with hlt | hold
      · have := (hb0 b hb').2; omega
      · exact other k' e' hk' he' ho' v' b hv0 hb' hold
    · obtain ⟨v0, hv0, hb0⟩ := (h.en k e he).val ho
      have := s.ext _ _ hv0
      rw [hv] at this
      cases this
      rcases s.ap k' e' v' b he' ho' hv' hb' with hlt | hold
      · have := (hb0 b hb).2; omega
      · exact other k e hk he ho v b hv0 hb hold
    · obtain ⟨v0, hv0, _⟩ := (h.en k e he).val ho
      obtain ⟨v0', hv0', _⟩ := (h.en k' e' he').val ho'
      have e1 := s.ext _ _ hv0
      have e2 := s.ext _ _ hv0'
      rw [hv] at e1; rw [hv'] at e2
      cases e1; cases e2
      exact h.ap k k' e e' v v' b hne he he' ho ho' hv0 hv0' hb hb'
  · rintro k ⟨hk, hr⟩
    rw [s.ids k hr]
    exact h.nx k hk
  · intro b hb
    rcases s.o1 b hb with hb | ⟨h1, h2⟩
    · have := h.olt b hb
      exact ⟨Nat.lt_of_lt_of_le this.1 s.eff.size, this.2⟩
    · exact ⟨h2, .inl (Nat.le_trans h.eff.size h1)⟩
  · refine ⟨s.eff.os.trans h.eff.os, s.eff.tape.trans h.eff.tape, s.eff.output.trans h.eff.output, Nat.le_trans h.eff.size s.eff.size, fun b hb hm => ?_⟩
    have hlt := Nat.lt_of_lt_of_le hb h.eff.size
    rw [s.eff.block b hlt fun hw => ?_]
    · exact h.eff.block b hb hm
    · rcases (h.olt b hw.1).2 with h' | h'
      · omega
      · exact hm h'
end Go.Proofs.Ytgbfcjnkohhfoaa
