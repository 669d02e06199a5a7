/-
  The abstract machine, part 16: loops and code.
  The abstract machine, part 17: functions: how they are entered, what they return.
-/
import Derived.Test.YtgbfcjnkohhfoaaAb13
namespace Go.Proofs.Ytgbfcjnkohhfoaa
open Go.RowKit

/-- shapes of states: what slots and entries are, but for their data -/
inductive SA | i (k : IntKind) | b | s | ref (id : Nat)
@[reducible] def SA.D : SA → Type
  | .i _ => Int
  | .b => Bool
  | .s => ByteArray
  | .ref _ => Unit
def SA.mk : (a : SA) → a.D → A1
  | .i k, x => .con (.int k x)
  | .b, x => .con (.bool x)
  | .s, x => .con (.string x)
  | .ref id, _ => .ref id
@[reducible] def SL : List SA → Type
  | [] => Unit
  | a :: l => a.D × SL l
def mkL : (l : List SA) → SL l → List A1
  | [], _ => []
  | a :: l, d => a.mk d.1 :: mkL l d.2
inductive SV | one (a : SA) | agg (l : List SA)
@[reducible] def SV.D : SV → Type
  | .one a => a.D
  | .agg l => SL l
def SV.mk : (v : SV) → v.D → AV
  | .one a, d => .one (a.mk d)
  | .agg l, d => .agg (mkL l d)
inductive SE | box (l : List SA) | own (e : Nat) (t : TC) (fr : Bool) | imm (t : TC) (fr : Bool) | mp (g : Bool) (tk tv : TC)
@[reducible] def SE.D : SE → Type
  | .box l => SL l
  | .own _ t _ => List t.D
  | .imm t _ => List t.D
  | .mp _ tk tv => List (tk.D × tv.D)
def SE.mk : (e : SE) → e.D → Ent
  | .box l, d => .box (mkL l d)
  | .own e t fr, d => .own e t d fr
  | .imm t fr, d => .imm t d fr
  | .mp g tk tv, d => .mp g tk tv d
@[reducible] def HT : List (Nat × SV) → Type
  | [] => Unit
  | x :: l => x.2.D × HT l
@[reducible] def HE : List (Nat × SE) → Type
  | [] => Unit
  | x :: l => x.2.D × HE l
def mkT : (l : List (Nat × SV)) → HT l → List (Nat × AV)
  | [], _ => []
  | x :: l, d => (x.1, x.2.mk d.1) :: mkT l d.2
def mkE : (l : List (Nat × SE)) → HE l → List (Nat × Ent)
  | [], _ => []
  | x :: l, d => (x.1, x.2.mk d.1) :: mkE l d.2
structure Shape where
  tm : List (Nat × SV)
  en : List (Nat × SE)
@[reducible] def Shape.D (s : Shape) : Type := HT s.tm × HE s.en
def Shape.mk' (s : Shape) (d : s.D) : St := ⟨mkT s.tm d.1, mkE s.en d.2⟩

/-- 'for all data', written out -/
def allT : (t : TC) → (t.D → Prop) → Prop
  | .i _, P => ∀ x : Int, P x
  | .b, P => ∀ x : Bool, P x
  | .s, P => ∀ x : ByteArray, P x
  | .sl t, P => ∀ x : List t.D, P x
  | .pr t u, P => allT t fun x => allT u fun y => P (x, y)
  | .tw t u, P => allT t fun x => allT u fun y => P (x, y)
theorem allT_ok : ∀ {t : TC} {P : t.D → Prop}, allT t P → ∀ d, P d
  | .i _, _, h => h
  | .b, _, h => h
  | .s, _, h => h
  | .sl _, _, h => h
  | .pr t u, _, h => fun d => allT_ok (t := u) (allT_ok (t := t) h d.1) d.2
  | .tw t u, _, h => fun d => allT_ok (t := u) (allT_ok (t := t) h d.1) d.2
def allA : (a : SA) → (a.D → Prop) → Prop
  | .i _, P => ∀ x : Int, P x
  | .b, P => ∀ x : Bool, P x
  | .s, P => ∀ x : ByteArray, P x
  | .ref _, P => P ()
theorem allA_ok : ∀ {a : SA} {P : a.D → Prop}, allA a P → ∀ d, P d
  | .i _, _, h => h
  | .b, _, h => h
  | .s, _, h => h
  | .ref _, _, h => fun _ => h
def allL : (l : List SA) → (SL l → Prop) → Prop
  | [], P => P ()
  | a :: l, P => allA a fun x => allL l fun y => P (x, y)
theorem allL_ok : ∀ {l : List SA} {P : SL l → Prop}, allL l P → ∀ d, P d
  | [], _, h => fun _ => h
  | _ :: _, _, h => fun d => allL_ok (allA_ok h d.1) d.2
def allV : (v : SV) → (v.D → Prop) → Prop
  | .one a, P => allA a P
  | .agg l, P => allL l P
theorem allV_ok : ∀ {v : SV} {P : v.D → Prop}, allV v P → ∀ d, P d
  | .one _, _, h => allA_ok h
  | .agg _, _, h => allL_ok h
def allE : (e : SE) → (e.D → Prop) → Prop
  | .box l, P => allL l P
  | .own _ t _, P => ∀ x : List t.D, P x
  | .imm t _, P => ∀ x : List t.D, P x
  | .mp _ tk tv, P => ∀ x : List (tk.D × tv.D), P x
theorem allE_ok : ∀ {e : SE} {P : e.D → Prop}, allE e P → ∀ d, P d
  | .box _, _, h => allL_ok h
  | .own _ _ _, _, h => h
  | .imm _ _, _, h => h
  | .mp _ _ _, _, h => h
def allHT : (l : List (Nat × SV)) → (HT l → Prop) → Prop
  | [], P => P ()
  | x :: l, P => allV x.2 fun a => allHT l fun b => P (a, b)
theorem allHT_ok : ∀ {l : List (Nat × SV)} {P : HT l → Prop}, allHT l P → ∀ d, P d
  | [], _, h => fun _ => h
  | _ :: _, _, h => fun d => allHT_ok (allV_ok h d.1) d.2
def allHE : (l : List (Nat × SE)) → (HE l → Prop) → Prop
  | [], P => P ()
  | x :: l, P => allE x.2 fun a => allHE l fun b => P (a, b)
theorem allHE_ok : ∀ {l : List (Nat × SE)} {P : HE l → Prop}, allHE l P → ∀ d, P d
  | [], _, h => fun _ => h
  | _ :: _, _, h => fun d => allHE_ok (allE_ok h d.1) d.2
def allS (s : Shape) (P : s.D → Prop) : Prop := allHT s.tm fun a => allHE s.en fun b => P (a, b)
theorem allS_ok {s : Shape} {P : s.D → Prop} (h : allS s P) : ∀ d, P d := fun d => allHE_ok (allHT_ok h d.1) d.2

/-- a shape's numbers of entries and the state's -/
abbrev Ren := List (Nat × Nat)
def addB (r : Ren) (id o : Nat) : Option Ren :=
  match look id r with
  | some o' => bif nb o' o then some r else none
  | none => some ((id, o) :: r)
def bindA (r : Ren) : SA → A1 → Option Ren
  | .ref id, .ref o => addB r id o
  | _, _ => some r
def bindL (r : Ren) : List SA → List A1 → Option Ren
  | [], _ => some r
  | a :: l, m => match m with
    | x :: m => (match bindA r a x with | some r' => bindL r' l m | none => none)
    | [] => none
def bindV (r : Ren) (v : SV) (y : AV) : Option Ren :=
  match v, y with
  | .one a, .one x => bindA r a x
  | .agg l, .agg m => bindL r l m
  | _, _ => none
def bindT (S : St) (r : Ren) : List (Nat × SV) → Option Ren
  | [] => some r
  | x :: l => match look x.1 S.tm with
    | some y => (match bindV r x.2 y with | some r' => bindT S r' l | none => none)
    | none => none
def bindE (S : St) (r : Ren) : List (Nat × SE) → Option Ren
  | [] => some r
  | x :: l => match x.2 with
    | .box m => (match (look x.1 r).bind (look · S.en) with
      | some (.box n) => (match bindL r m n with | some r' => bindE S r' l | none => none)
      | _ => none)
    | _ => bindE S r l

/-- the data of a state of a shape -/
def getA (r : Ren) : (a : SA) → A1 → Option a.D
  | .i k, x => match x with | .con (.int k' n) => (bif kb k' k then some n else none) | _ => none
  | .b, x => match x with | .con (.bool n) => some n | _ => none
  | .s, x => match x with | .con (.string n) => some n | _ => none
  | .ref id, x => match x with
    | .ref o => (match look id r with | some o' => (bif nb o' o then some () else none) | none => none)
    | .con (.slice none n m) => (bif nb n 0 && nb m 0 then (match look id r with | some _ => none | none => some ()) else none)
    | _ => none
def getL (r : Ren) : (l : List SA) → List A1 → Option (SL l)
  | [], m => match m with | [] => some () | _ => none
  | a :: l, m => match m with
    | x :: m => (match getA r a x, getL r l m with | some d, some e => some (d, e) | _, _ => none)
    | [] => none
def getV (r : Ren) : (v : SV) → AV → Option v.D
  | .one a, y => match y with | .one x => getA r a x | _ => none
  | .agg l, y => match y with | .agg m => getL r l m | _ => none
def getT (S : St) (r : Ren) : (l : List (Nat × SV)) → Option (HT l)
  | [] => some ()
  | x :: l => match (look x.1 S.tm).bind (getV r x.2), getT S r l with
    | some d, some e => some (d, e)
    | _, _ => none
def getE1 (S : St) (r : Ren) (id : Nat) : (e : SE) → Option e.D
  | .box l => (match (look id r).bind (look · S.en) with | some (.box m) => getL r l m | _ => none)
  | .own e t fr => (match look id r with
    | none => some []
    | some o => (match look o S.en with
      | some (.own e' t' xs fr') => (match teq t' t with | some ⟨h⟩ => (bif nb e' e && (fr' || !fr) then some (castD h xs) else none) | none => none)
      | _ => none))
  | .imm t fr => (match look id r with
    | none => some []
    | some o => (match look o S.en with
      | some (.imm t' xs fr') => (match teq t' t with | some ⟨h⟩ => (bif (fr' || !fr) then some (castD h xs) else none) | none => none)
      | _ => none))
  | .mp g tk tv => (match (look id r).bind (look · S.en) with
    | some (.mp g' tk' tv' m) => (match teq tk' tk, teq tv' tv with | some ⟨h⟩, some ⟨k⟩ => (bif eqb g' g then some (castM h k m) else none) | _, _ => none)
    | _ => none)
def getE (S : St) (r : Ren) : (l : List (Nat × SE)) → Option (HE l)
  | [] => some ()
  | x :: l => match getE1 S r x.1 x.2, getE S r l with
    | some d, some e => some (d, e)
    | _, _ => none
def isOwnS : SE → Bool
  | .imm _ _ => false
  | _ => true
/-- the entries of one's own that the shape speaks of -/
def ownOs (r : Ren) : List (Nat × SE) → List Nat
  | [] => []
  | x :: l => bif isOwnS x.2 then (match look x.1 r with | some o => o :: ownOs r l | none => ownOs r l) else ownOs r l
def keysE : List (Nat × SE) → List Nat
  | [] => []
  | x :: l => x.1 :: keysE l
def renP : List Nat → Ren
  | [] => []
  | p :: l => (p, p) :: renP l
def allLt (n : Nat) : Ren → Bool
  | [] => true
  | x :: l => nlt x.1 n && allLt n l
def ltAll (n : Nat) : List Nat → Bool
  | [] => true
  | x :: l => nlt x n && ltAll n l
/-- a loop's relation, or a meeting place: what its variables and the memory are, for data d with I d -/
structure LInv where
  sh : Shape
  nx : Nat
  I : List Nat → sh.D → Prop
  mu : sh.D → Nat
  /-- whether the first round is walked by itself, ahead of the relation -/
  pl : Bool := false
def rdSh (pins : List Nat) (S : St) (sh : Shape) (nx : Nat) : Option sh.D :=
  match (bindT S (renP pins) sh.tm).bind (bindE S · sh.en) with
  | some r => (match getT S r sh.tm, getE S r sh.en with
    | some a, some b => bif allLt nx r && (ltAll nx (keysE sh.en) && (nodB (keysE sh.en) && (nodB (ownOs r sh.en) && pins.all fun p => match look p r with | some q => nb q p | none => false))) then some (a, b) else none
    | _, _ => none)
  | none => none

theorem allLt_ok {n : Nat} : ∀ {r : Ren}, allLt n r = true → ∀ k o, look k r = some o → k < n
  | [], _, k, o, h => by simp [look] at h
  | x :: r, h, k, o, hm => by
    simp only [allLt, Bool.and_eq_true] at h
    by_cases hk : x.1 = k
    · subst hk; exact lt_of_nlt h.1
    · rw [look_cons_ne hk] at hm
      exact allLt_ok h.2 k o hm
theorem ltAll_ok {n : Nat} : ∀ {l : List Nat}, ltAll n l = true → ∀ k, k ∈ l → k < n
  | [], _, k, h => by simp at h
  | x :: r, h, k, hm => by
    simp only [ltAll, Bool.and_eq_true] at h
    rcases List.mem_cons.1 hm with rfl | hm
    · exact lt_of_nlt h.1
    · exact ltAll_ok h.2 k hm

/-- the values of the shape's entries -/
def renV (r : Ren) (ks : List Nat) (ρ : Env) : Env := fun n => match look n r with | some o => ρ o | none => if n ∈ ks then some (.slice none 0 0) else none
section
variable {r : Ren} {ks : List Nat} {ρ : Env}
theorem getA_ok : ∀ {a : SA} {x : A1} {d : a.D} {v : Value}, getA r a x = some d → (∀ id, a = .ref id → id ∈ ks) → den1 ρ x = some v → den1 (renV r ks ρ) (a.mk d) = some v
  | .i k, x, d, v, h, _, hd => by
    simp only [getA] at h
    split at h
    · next k' n =>
      cases hk : kb k' k with
      | false => rw [hk] at h; cases h
      | true => rw [hk] at h; cases kb_eq hk; cases h; exact hd
    · cases h
  | .b, x, d, v, h, _, hd => by
    simp only [getA] at h
    split at h
    · cases h; exact hd
    · cases h
  | .s, x, d, v, h, _, hd => by
    simp only [getA] at h
    split at h
    · cases h; exact hd
    · cases h
  | .ref id, x, d, v, h, hk, hd => by
    simp only [getA] at h
    split at h
    · next o =>
      split at h
      · next o' ho =>
        cases hb : nb o' o with
        | false => rw [hb] at h; cases h
        | true =>
          have := eq_of_nb hb
          subst this
          simp only [SA.mk, den1, renV, ho]
          exact hd
      · cases h
    · next n m =>
      cases hb : nb n 0 && nb m 0 with
      | false => rw [hb] at h; cases h
      | true =>
        rw [hb] at h
        simp only [Bool.and_eq_true] at hb
        have e1 := eq_of_nb hb.1
        have e2 := eq_of_nb hb.2
        subst e1; subst e2
        simp only [cond_true] at h
        split at h
        · cases h
        · next hl =>
          simp only [SA.mk, den1, renV, hl, if_pos (hk id rfl)]
          exact hd
    · cases h
/-- the shape's references lead to entries of the shape -/
def refsS : List SA → List Nat
  | [] => []
  | .ref id :: l => id :: refsS l
  | _ :: l => refsS l
theorem refsS_mem {id : Nat} : ∀ {l : List SA}, .ref id ∈ l → id ∈ refsS l
  | [], h => by simp at h
  | a :: l, h => by
    rcases List.mem_cons.1 h with h | h
    · subst h; simp [refsS]
    · have := refsS_mem h
      cases a <;> simp [refsS, this]
theorem getL_ok : ∀ {l : List SA} {m : List A1} {d : SL l} {vs : List Value}, getL r l m = some d → (∀ id, id ∈ refsS l → id ∈ ks) → DenL ρ m vs → DenL (renV r ks ρ) (mkL l d) vs
  | [], m, d, vs, h, _, hd => by
    simp only [getL] at h
    split at h
    · cases hd; rfl
    · cases h
  | a :: l, m, d, vs, h, hk, hd => by
    simp only [getL] at h
    split at h
    · next x m =>
      split at h
      · next d1 d2 h1 h2 =>
        cases h
        obtain ⟨v, us, rfl, h3, h4⟩ := hd
        refine ⟨v, us, rfl, getA_ok h1 (fun id he => hk id ?_) h3, getL_ok h2 (fun id he => hk id ?_) h4⟩
        · subst he; exact refsS_mem (List.mem_cons_self ..)
        · cases a <;> simp [refsS, he]
      · cases h
    · cases h
def refsV : SV → List Nat
  | .one a => refsS [a]
  | .agg l => refsS l
theorem getV_ok {v : SV} {y : AV} {d : v.D} {u : Value} (h : getV r v y = some d) (hk : ∀ id, id ∈ refsV v → id ∈ ks) (hd : Den ρ y u) : Den (renV r ks ρ) (v.mk d) u := by
  cases v with
  | one a =>
    simp only [getV] at h
    split at h
    · exact getA_ok h (fun id he => hk id (by subst he; simp [refsV, refsS])) hd
    · cases h
  | agg l =>
    simp only [getV] at h
    split at h
    · obtain ⟨vs, h1, h2⟩ := hd
      exact ⟨vs, getL_ok h hk h1, h2⟩
    · cases h
end
def refsT : List (Nat × SV) → List Nat
  | [] => []
  | x :: l => refsV x.2 ++ refsT l
def refsE : List (Nat × SE) → List Nat
  | [] => []
  | x :: l => (match x.2 with | .box m => refsS m | _ => []) ++ refsE l

theorem getT_look {S : St} {r : Ren} : ∀ {l : List (Nat × SV)} {d : HT l}, getT S r l = some d → ∀ {t : Nat} {y : AV}, look t (mkT l d) = some y → ∃ v x dv, look t S.tm = some x ∧ getV r v x = some dv ∧ v.mk dv = y ∧ ∀ id, id ∈ refsV v → id ∈ refsT l
  | [], d, _, t, y, hy => by simp [mkT, look] at hy
  | x :: l, d, h, t, y, hy => by
    simp only [getT] at h
    split at h
    · next d1 d2 h1 h2 =>
      cases h
      by_cases hk : x.1 = t
      · simp only [mkT] at hy
        rw [hk, look_cons_eq] at hy
        cases hy
        obtain ⟨z, hz, hg⟩ := Option.bind_eq_some_iff.1 h1
        exact ⟨x.2, z, d1, hk ▸ hz, hg, rfl, fun id hid => by simp [refsT, hid]⟩
      · simp only [mkT] at hy
        rw [look_cons_ne hk] at hy
        obtain ⟨v, z, dv, a, b, c, e⟩ := getT_look h2 hy
        exact ⟨v, z, dv, a, b, c, fun id hid => by simp [refsT, e id hid]⟩
    · cases h
theorem getE_look {S : St} {r : Ren} : ∀ {l : List (Nat × SE)} {d : HE l}, getE S r l = some d → ∀ {k : Nat} {e : Ent}, look k (mkE l d) = some e → ∃ se de, getE1 S r k se = some de ∧ se.mk de = e ∧ (k, se) ∈ l
  | [], d, _, t, y, hy => by simp [mkE, look] at hy
  | x :: l, d, h, t, y, hy => by
    simp only [getE] at h
    split at h
    · next d1 d2 h1 h2 =>
      cases h
      by_cases hk : x.1 = t
      · simp only [mkE] at hy
        rw [hk, look_cons_eq] at hy
        cases hy
        exact ⟨x.2, d1, hk ▸ h1, rfl, by rw [← hk]; exact List.mem_cons_self ..⟩
      · simp only [mkE] at hy
        rw [look_cons_ne hk] at hy
        obtain ⟨se, de, a, b, c⟩ := getE_look h2 hy
        exact ⟨se, de, a, b, List.mem_cons_of_mem _ c⟩
    · cases h
theorem keysE_mem {k : Nat} {se : SE} : ∀ {l : List (Nat × SE)}, (k, se) ∈ l → k ∈ keysE l
  | [], h => by simp at h
  | x :: l, h => by
    rcases List.mem_cons.1 h with h | h
    · subst h; simp [keysE]
    · simp [keysE, keysE_mem h]
theorem ownOs_apart {r : Ren} : ∀ {l : List (Nat × SE)}, nodB (ownOs r l) = true → nodB (keysE l) = true → ∀ k k' se se' o, (k, se) ∈ l → (k', se') ∈ l → k ≠ k' → isOwnS se = true → isOwnS se' = true → look k r = some o → look k' r ≠ some o
  | [], _, _, k, k', se, se', o, h, _, _, _, _, _ => by simp at h
  | x :: l, hn, hkk, k, k', se, se', o, h, h', hne, ho, ho', hl => by
    have memO : ∀ {l : List (Nat × SE)} {k : Nat} {se : SE} {o : Nat}, (k, se) ∈ l → isOwnS se = true → look k r = some o → o ∈ ownOs r l := by
      intro l
      induction l with
      | nil => intro k se o h; simp at h
      | cons y l ih =>
        intro k se o h ho hl
        rcases List.mem_cons.1 h with h | h
        · subst h; simp [ownOs, ho, hl]
        · have := ih h ho hl
          simp only [ownOs]
          cases isOwnS y.2 with
          | false => exact this
          | true =>
            simp only [cond_true]
            split
            · exact List.mem_cons_of_mem _ this
            · exact this
    simp only [keysE, nodB, Bool.and_eq_true] at hkk
    have tl : nodB (ownOs r l) = true := by
      simp only [ownOs] at hn
      cases hx : isOwnS x.2 with
      | false => rw [hx] at hn; exact hn
      | true =>
        rw [hx] at hn
        simp only [cond_true] at hn
        split at hn
        · simp only [nodB, Bool.and_eq_true] at hn; exact hn.2
        · exact hn
    rcases List.mem_cons.1 h with g | g <;> rcases List.mem_cons.1 h' with g' | g'
    · subst g; cases g'; exact absurd rfl hne
    · subst g
      simp only [ownOs, ho, cond_true, hl, nodB, Bool.and_eq_true, Bool.not_eq_true'] at hn
      intro hl'
      have := memO g' ho' hl'
      rw [memb_iff.2 this] at hn; simp at hn
    · subst g'
      intro hl'
      simp only [ownOs, ho', cond_true, hl', nodB, Bool.and_eq_true, Bool.not_eq_true'] at hn
      have := memO g ho hl
      rw [memb_iff.2 this] at hn; simp at hn
    · exact ownOs_apart tl hkk.2 k k' se se' o g g' hne ho ho' hl

theorem sh_ok [B : Base] {C : Ctx} {c : Cx} (hC : CtxOk C c) {N O1 : Nat → Prop} {ρ : Env} {S : St} {a : Act} {w : World} {sh : Shape} {nx : Nat} {d : sh.D} (h : Conc c N O1 ρ S a w) (hs : rdSh C.pins S sh nx = some d) (hR : (refsT sh.tm ++ refsE sh.en).all (memb · (keysE sh.en)) = true) :
    ∃ ρ', Conc c (nx ≤ ·) O1 ρ' (sh.mk' d) a w := by
  unfold rdSh at hs
  split at hs
  · next r hr =>
    split at hs
    · next da db hta heb =>
      cases hb : allLt nx r && (ltAll nx (keysE sh.en) && (nodB (keysE sh.en) && (nodB (ownOs r sh.en) && C.pins.all fun p => match look p r with | some q => nb q p | none => false))) with
      | false => rw [hb] at hs; cases hs
      | true =>
        rw [hb] at hs
        simp only [cond_true, Option.some.injEq] at hs
        subst hs
        simp only [Bool.and_eq_true, List.all_eq_true] at hb
        obtain ⟨b1, b2, b3, b4, b5⟩ := hb
        have hrefs : ∀ id, id ∈ refsT sh.tm ∨ id ∈ refsE sh.en → id ∈ keysE sh.en := fun id hid => by
          simp only [List.all_eq_true, List.mem_append] at hR
          exact memb_iff.1 (hR id hid)
        have own : ∀ (k : Nat) (se : SE) (de : se.D), (k, se) ∈ sh.en → getE1 S r k se = some de → isOwnS se = true → (look k r = none ∧ renV r (keysE sh.en) ρ k = some (.slice none 0 0)) ∨ ∃ o e0, look k r = some o ∧ look o S.en = some e0 ∧ isOwn e0 = true ∧ renV r (keysE sh.en) ρ k = ρ o := by
          intro k se de hm hg ho
          cases hl : look k r with
          | none => exact .inl ⟨rfl, by simp only [renV, hl, if_pos (keysE_mem hm)]⟩
          | some o =>
            refine .inr ?_
            cases se with
            | imm t fr => simp [isOwnS] at ho
            | box l =>
              simp only [getE1, hl, Option.bind_some] at hg
              split at hg
              · next m hm => exact ⟨o, _, rfl, hm, rfl, by simp only [renV, hl]⟩
              · cases hg
            | own e t fr =>
              simp only [getE1, hl] at hg
              split at hg
              · next hm => exact ⟨o, _, rfl, hm, rfl, by simp only [renV, hl]⟩
              · cases hg
            | mp g tk tv =>
              simp only [getE1, hl, Option.bind_some] at hg
              split at hg
              · next hm => exact ⟨o, _, rfl, hm, rfl, by simp only [renV, hl]⟩
              · cases hg
        have isO : ∀ (se : SE) (de : se.D), isOwn (se.mk de) = isOwnS se := fun se de => by cases se <;> rfl
        refine ⟨renV r (keysE sh.en) ρ, h.size, h.nodef, ?_, ?_, ?_, ?_, ?_, h.olt, h.o0, h.eff, ?_⟩
        · intro t y hy
          obtain ⟨v, x, dv, h1, h2, rfl, h3⟩ := getT_look hta hy
          obtain ⟨u, hu, ht⟩ := h.tm t x h1
          exact ⟨u, getV_ok h2 (fun id hid => hrefs id (.inl (h3 id hid))) hu, ht⟩
        · intro k e he
          obtain ⟨se, de, h1, rfl, hm⟩ := getE_look heb he
          cases se with
          | box l =>
            simp only [getE1] at h1
            split at h1
            · next m hmm =>
              obtain ⟨o, ho, hlo⟩ := Option.bind_eq_some_iff.1 hmm
              obtain ⟨b, e, vs, e1, e2, e3, e4, e5⟩ := h.en o _ hlo
              refine ⟨b, e, vs, by simp only [renV, ho]; exact e1, e2, getL_ok h1 (fun id hid => hrefs id (.inr ?_)) e3, e4, e5⟩
              have : ∀ l' : List (Nat × SE), (k, SE.box l) ∈ l' → id ∈ refsE l' := by
                intro l'
                induction l' with
                | nil => intro h; simp at h
                | cons x l' ih =>
                  intro h
                  simp only [refsE, List.mem_append]
                  rcases List.mem_cons.1 h with h | h
                  · subst h; exact .inl hid
                  · exact .inr (ih h)
              exact this _ hm
            · cases h1
          | own e t fr =>
            simp only [getE1] at h1
            split at h1
            · next hl =>
              cases h1
              exact ⟨.slice none 0 0, [], by simp only [renV, hl, if_pos (keysE_mem hm)], World.ownsRow_nil w 0 e t.n, by simp, by simp [blkOf], by simp⟩
            · next o hl =>
              split at h1
              · next e' t' xs fr' hlo =>
                split at h1
                · next g _ =>
                  subst g
                  cases hbb : nb e' e && (fr' || !fr) with
                  | false => rw [hbb] at h1; cases h1
                  | true =>
                    rw [hbb] at h1
                    simp only [castD, cast_eq, cond_true, Option.some.injEq] at h1
                    subst h1
                    simp only [Bool.and_eq_true] at hbb
                    have := eq_of_nb hbb.1
                    subst this
                    obtain ⟨v, cs, e1, e2, e3, e4, e5⟩ := h.en o _ hlo
                    refine ⟨v, cs, by simp only [renV, hl]; exact e1, e2, e3, e4, fun i x hx => (e5 i x hx).move (zs_mono fun hf => by rw [hf] at hbb; simpa using hbb.2) fun b _ hn => ⟨?_, rfl⟩⟩
                    simp only [offs, not_or, not_and] at hn ⊢
                    refine ⟨hn.1, fun hf => hn.2 ?_⟩
                    rw [hf] at hbb; simpa using hbb.2
                · cases h1
              · cases h1
          | imm t fr =>
            simp only [getE1] at h1
            split at h1
            · next hl =>
              cases h1
              exact ⟨.slice none 0 0, by simp only [renV, hl, if_pos (keysE_mem hm)], none, 0, rfl, by simp, by simp, fun _ => rfl, fun _ _ => .inl rfl, .inl rfl⟩
            · next o hl =>
              split at h1
              · next t' xs fr' hlo =>
                split at h1
                · next g _ =>
                  subst g
                  cases hbb : (fr' || !fr) with
                  | false => rw [hbb] at h1; cases h1
                  | true =>
                    rw [hbb] at h1
                    simp only [castD, cast_eq, cond_true, Option.some.injEq] at h1
                    subst h1
                    obtain ⟨v, e1, e2⟩ := h.en o _ hlo
                    refine ⟨v, by simp only [renV, hl]; exact e1, e2.move (zs_mono fun hf => by rw [hf] at hbb; simpa using hbb) fun b _ hn => ⟨?_, rfl⟩⟩
                    simp only [offs, not_or, not_and] at hn ⊢
                    refine ⟨hn.1, fun hf => hn.2 ?_⟩
                    rw [hf] at hbb; simpa using hbb
                · cases h1
              · cases h1
          | mp g tk tv =>
            simp only [getE1] at h1
            split at h1
            · next g' tk' tv' m hmm =>
              obtain ⟨o, ho, hlo⟩ := Option.bind_eq_some_iff.1 hmm
              split at h1
              · next g1 g2 _ _ =>
                subst g1; subst g2
                cases hbb : eqb g' g with
                | false => rw [hbb] at h1; cases h1
                | true =>
                  rw [hbb] at h1
                  simp only [castM, cast_eq, cond_true, Option.some.injEq] at h1
                  subst h1
                  have := eqb_eq hbb
                  subst this
                  obtain ⟨b, es, cl, e1, e2, e3, e4⟩ := h.en o _ hlo
                  exact ⟨b, es, cl, by simp only [renV, ho]; exact e1, e2, e3, e4⟩
              · cases h1
            · cases h1
        · intro k k' e e' v v' b hne he he' ho ho' hv hv' hb1
          obtain ⟨se, de, h1, rfl, hm⟩ := getE_look heb he
          obtain ⟨se', de', h1', rfl, hm'⟩ := getE_look heb he'
          rw [isO] at ho ho'
          rcases own k se de hm h1 ho with ⟨_, hn⟩ | ⟨o, e0, hl, hlo, hoo, hr⟩
          · rw [hn] at hv; cases hv; simp [blkOf] at hb1
          · rcases own k' se' de' hm' h1' ho' with ⟨_, hn⟩ | ⟨o', e0', hl', hlo', hoo', hr'⟩
            · rw [hn] at hv'; cases hv'; simp [blkOf]
            · rw [hr] at hv
              rw [hr'] at hv'
              have hoo2 : o ≠ o' := by
                rintro rfl
                exact ownOs_apart b4 b3 k k' se se' o hm hm' hne ho ho' hl hl'
              exact h.ap o o' e0 e0' v v' b hoo2 hlo hlo' hoo hoo' hv hv' hb1
        · intro k hk
          simp only [renV]
          cases hl : look k r with
          | some o => have := allLt_ok b1 k o hl; omega
          | none =>
            simp only
            rw [if_neg]
            intro hm
            have := ltAll_ok b2 k hm
            omega
        · intro k v hv
          simp only [renV] at hv
          split at hv
          · exact h.one _ v hv
          · split at hv
            · cases hv; rfl
            · cases hv
        · intro p v hp
          have h5 := b5 p (hC.pin p v hp)
          have hv := h.pin p v hp
          split at h5
          · next q hq =>
            have := eq_of_nb h5
            subst this
            simp only [renV, hq]; exact hv
          · cases h5
    · cases hs
  · cases hs

def loopsOf : Code → Nat
  | .seq a b => loopsOf a + loopsOf b
  | .cond _ a b => loopsOf a + loopsOf b
  | .block _ a => loopsOf a
  | .loop a => 1 + loopsOf a
  | _ => 0
def firstReg : Code → Option Nat
  | .region id _ _ => some id
  | .seq a _ => firstReg a
  | .block _ a => firstReg a
  | .loop a => firstReg a
  | _ => none

/-- the walk's notes: relations of the loops, in the order of the text; orders of the regions that draw; meeting places, by the region that follows -/
structure Ann where
  inv : List LInv
  da : List (Nat × DA)
  cut : List (Nat × LInv)
def nthI : List LInv → Nat → Option LInv
  | [], _ => none
  | x :: l, i => match i with | 0 => some x | i + 1 => nthI l i

def KN (K1 : St → Nat → Prop) (K : Exit → St → Nat → Prop) (e : Exit) (S : St) (nx : Nat) : Prop :=
  match e with | .normal => K1 S nx | e => K e S nx
def KB (id : Nat) (K : Exit → St → Nat → Prop) (e : Exit) (S : St) (nx : Nat) : Prop :=
  match e with | .exit id' => (bif nb id' id then K .normal S nx else K (.exit id') S nx) | e => K e S nx
/-- at a loop's head -/
def rdL (C : Ctx) (L : LInv) (S : St) : Option L.sh.D :=
  bif (refsT L.sh.tm ++ refsE L.sh.en).all (memb · (keysE L.sh.en)) then rdSh C.pins S L.sh L.nx else none
def atHead (C : Ctx) (L : LInv) (G : List Nat) (S : St) : Prop := match rdL C L S with | some d => L.I G d | none => False
def atHeadMu (C : Ctx) (L : LInv) (G : List Nat) (S : St) (m : Nat) : Prop := match rdL C L S with | some d => L.I G d ∧ L.mu d < m | none => False
def cutOf (A : Ann) (b : Code) : Option LInv := match A.cut with | [] => none | _ => (firstReg b).bind (look · A.cut)
def vc (C : Ctx) (cs : List (Nat × Con)) (A : Ann) : Code → Nat → List Nat → St → Nat → (Exit → St → Nat → Prop) → Prop
  | .skip, _, _, S, nx, K => K .normal S nx
  | .region id ops draw, _, _, S, nx, K => match draw with
    | false => vops C cs ops.toList ops.toList S nx (K .normal)
    | true => (match look id A.da with | some D => (bif chkB ops.toList D then vdraw C cs ops.toList D (forgetS D ops.toList S) nx ops.toList 0 [] (K .normal) else False) | none => False)
  | .seq a b, n, G, S, nx, K => match cutOf A b with
    | some L => vc C cs A a n G S nx (KN (fun S' _ => atHead C L G S') K) ∧ allS L.sh fun d => L.I G d → vc C cs A b (n + loopsOf a) G (L.sh.mk' d) L.nx K
    | none => vc C cs A a n G S nx (KN (fun S' nx' => vc C cs A b (n + loopsOf a) G S' nx' K) K)
  | .cond c a b, n, G, S, nx, K => match cv S c with
    | some (.bool t) => bsp t (vc C cs A a n G S nx K) (vc C cs A b (n + loopsOf a) G S nx K)
    | _ => False
  | .block id a, n, G, S, nx, K => vc C cs A a n G S nx (KB id K)
  | .loop a, n, G, S, nx, K => match nthI A.inv n with
    | some L => (match L.pl with | false => atHead C L G S | true => vc C cs A a (n + 1) (0 :: G) S nx (KN (fun S' _ => atHead C L G S') K)) ∧ allS L.sh fun d => L.I G d → vc C cs A a (n + 1) (L.mu d :: G) (L.sh.mk' d) L.nx (KN (fun S' _ => atHeadMu C L G S' (L.mu d)) K)
    | none => False
  | .exit id, _, _, S, nx, K => K (.exit id) S nx
  | .ret, _, _, S, nx, K => K .ret S nx
  | _, _, _, _, _, _ => False

theorem least {p : Nat → Prop} (h : ∃ n, p n) : ∃ n, p n ∧ ∀ m, p m → n ≤ m := by
  obtain ⟨n, hn⟩ := h
  induction n using Nat.strongRecOn with
  | _ n ih =>
    by_cases h : ∃ m, m < n ∧ p m
    · obtain ⟨m, hm, hp⟩ := h; exact ih m hm hp
    · exact ⟨n, hn, fun m hm => Nat.le_of_not_lt fun hlt => h ⟨m, hlt, hm⟩⟩
theorem wp_loop_relP {P : Program} {Q : Exit → Act → World → Prop} {a : Act} {w : World} {cd : Code} (J : Nat → Act → World → Prop) (h0 : cd.wp P (Exit.then (fun a' w' => ∃ n, J n a' w') Q) a w)
    (round : ∀ n a w, J n a w → cd.wp P (Exit.then (fun a' w' => ∃ n', n' < n ∧ J n' a' w') Q) a w) : (Code.loop cd).wp P Q a w := by
  intro b k cs
  have key : ∀ n a w, J n a w → ∃ e a' w', Q e a' w' ∧ Arrives P (lone (b.at a (.code cd :: .inLoop cd :: k)) cs w) b k cs e a' w' := by
    intro n
    induction n using Nat.strongRecOn with
    | _ n ih =>
      intro a w hJ
      obtain ⟨e, a1, w1, hq, harr⟩ := round n a w hJ b (.inLoop cd :: k) cs
      cases e with
      | normal =>
        obtain ⟨n', hlt, hJ'⟩ := hq
        obtain ⟨e2, a2, w2, hq2, harr2⟩ := ih n' hlt a1 w1 hJ'
        exact ⟨e2, a2, w2, hq2, .of_steps (Steps.trans harr (.one step_inLoop)) harr2⟩
      | exit id => exact ⟨_, a1, w1, hq, .pass (x := .inLoop cd) rfl (fun _ _ => .inl (by simp)) harr⟩
      | goto l => exact ⟨_, a1, w1, hq, .pass (x := .inLoop cd) rfl (fun _ _ => .inl (by simp)) harr⟩
      | ret => exact ⟨_, a1, w1, hq, .pass (x := .inLoop cd) rfl (fun _ _ => .inl (by simp)) harr⟩
      | panic ch => exact ⟨_, a1, w1, hq, .pass (x := .inLoop cd) rfl (fun _ _ => .inl (by simp)) harr⟩
      | outgrown => exact ⟨_, a1, w1, hq, .pass (x := .inLoop cd) rfl (fun _ _ => .inl (by simp)) harr⟩
  have first : ∃ e a' w', Q e a' w' ∧ Arrives P (lone (b.at a (.code cd :: .inLoop cd :: k)) cs w) b k cs e a' w' := by
    obtain ⟨e, a1, w1, hq, harr⟩ := h0 b (.inLoop cd :: k) cs
    cases e with
    | normal =>
      obtain ⟨n', hJ'⟩ := hq
      obtain ⟨e2, a2, w2, hq2, harr2⟩ := key n' a1 w1 hJ'
      exact ⟨e2, a2, w2, hq2, .of_steps (Steps.trans harr (.one step_inLoop)) harr2⟩
    | exit id => exact ⟨_, a1, w1, hq, .pass (x := .inLoop cd) rfl (fun _ _ => .inl (by simp)) harr⟩
    | goto l => exact ⟨_, a1, w1, hq, .pass (x := .inLoop cd) rfl (fun _ _ => .inl (by simp)) harr⟩
    | ret => exact ⟨_, a1, w1, hq, .pass (x := .inLoop cd) rfl (fun _ _ => .inl (by simp)) harr⟩
    | panic ch => exact ⟨_, a1, w1, hq, .pass (x := .inLoop cd) rfl (fun _ _ => .inl (by simp)) harr⟩
    | outgrown => exact ⟨_, a1, w1, hq, .pass (x := .inLoop cd) rfl (fun _ _ => .inl (by simp)) harr⟩
  obtain ⟨e, a', w', hq, harr⟩ := first
  exact ⟨e, a', w', hq, .of_steps (.one step_loop) harr⟩
theorem wp_loop_rel {P : Program} {Q : Exit → Act → World → Prop} {a : Act} {w : World} {cd : Code} (J : Nat → Act → World → Prop) (h0 : ∃ n, J n a w)
    (round : ∀ n a w, J n a w → cd.wp P (Exit.then (fun a' w' => ∃ n', n' < n ∧ J n' a' w') Q) a w) : (Code.loop cd).wp P Q a w := by
  have hl : ∀ a w, (∃ n, J n a w) → ∃ n, J n a w ∧ ∀ m, J m a w → n ≤ m := fun a w h => least h
  refine wp_loop (fun a w => ∃ n, J n a w) (fun a w => Classical.epsilon fun n => J n a w ∧ ∀ m, J m a w → n ≤ m) h0 fun a w h => ?_
  have hm := Classical.epsilon_spec (hl a w h)
  refine wp_mono (round _ a w hm.1) ?_
  intro e a' w' he
  cases e with
  | normal =>
    obtain ⟨n', hlt, hJ⟩ := he
    have hm' := Classical.epsilon_spec (hl a' w' ⟨n', hJ⟩)
    exact ⟨⟨n', hJ⟩, Nat.lt_of_le_of_lt (hm'.2 n' hJ) hlt⟩
  | _ => exact he

theorem head_ok [B : Base] {C : Ctx} {c : Cx} (hC : CtxOk C c) {N O1 : Nat → Prop} {ρ : Env} {S : St} {a : Act} {w : World} {L : LInv} {d : L.sh.D} (h : Conc c N O1 ρ S a w) (hd : rdL C L S = some d) : ∃ ρ', Conc c (L.nx ≤ ·) O1 ρ' (L.sh.mk' d) a w := by
  unfold rdL at hd
  cases hb : (refsT L.sh.tm ++ refsE L.sh.en).all (memb · (keysE L.sh.en)) with
  | false => rw [hb] at hd; cases hd
  | true => rw [hb] at hd; exact sh_ok hC h hd hb

theorem vc_ok [B : Base] {C : Ctx} {c : Cx} {cs : List (Nat × Con)} {A : Ann} (hC : CtxOk C c) (hcs : CsOk C cs) (hm : C.P.follows .mixedOrders = true) :
    ∀ (code : Code) (n : Nat) (G : List Nat) (S : St) (nx : Nat) (K : Exit → St → Nat → Prop) (Q : Exit → Act → World → Prop) (O1 : Nat → Prop) (ρ : Env) (a : Act) (w : World),
      (∀ e S' nx' O1' ρ' a' w', Conc c (nx' ≤ ·) O1' ρ' S' a' w' → K e S' nx' → Q e a' w') → vc C cs A code n G S nx K → Conc c (nx ≤ ·) O1 ρ S a w → code.wp c.P Q a w
  | .skip, n, G, S, nx, K, Q, O1, ρ, a, w, hQ, hv, hc => wp_skip (hQ _ _ _ _ _ _ _ hc hv)
  | .region id ops draw, n, G, S, nx, K, Q, O1, ρ, a, w, hQ, hv, hc => by
    simp only [vc] at hv
    cases draw with
    | false =>
      refine wp_region ?_
      have := vops_ok hC hcs (Q := Q) (K := K .normal) (fun S' nx' O1' ρ' a' w' h1 h2 => hQ _ S' nx' O1' ρ' a' w' h1 h2) ops.toList 0 S nx O1 ρ a w (fun j o hj => by simpa using hj) hv hc
      rw [List.range_eq_range']
      simpa using this
    | true =>
      simp only at hv
      split at hv
      · next D _ =>
        cases hA : chkB ops.toList D with
        | false => rw [hA] at hv; exact hv.elim
        | true =>
        rw [hA] at hv
        refine wp_region_any (by rw [hC.P]; exact hm) ?_
        exact vdraw_ok hC hcs hA hv (fun S' nx' O1' ρ' a' w' h1 h2 => hQ _ S' nx' O1' ρ' a' w' h1 h2) (hc.drew.forget D ops.toList)
      · exact hv.elim
  | .seq x y, n, G, S, nx, K, Q, O1, ρ, a, w, hQ, hv, hc => by
    simp only [vc] at hv
    split at hv
    · next L _ =>
      obtain ⟨hv, hb⟩ := hv
      refine wp_seq (vc_ok hC hcs hm x n G S nx _ _ O1 ρ a w ?_ hv hc)
      intro e S' nx' O1' ρ' a' w' h1 h2
      cases e with
      | normal =>
        simp only [KN, atHead] at h2
        split at h2
        · next d hd =>
          obtain ⟨ρ2, hc'⟩ := head_ok hC h1 hd
          exact vc_ok hC hcs hm y _ _ _ _ K Q O1' ρ2 a' w' hQ (allS_ok hb d h2) hc'
        · exact h2.elim
      | _ => exact hQ _ _ _ _ _ _ _ h1 h2
    · refine wp_seq (vc_ok hC hcs hm x n G S nx _ _ O1 ρ a w ?_ hv hc)
      intro e S' nx' O1' ρ' a' w' h1 h2
      cases e with
      | normal => exact vc_ok hC hcs hm y _ G S' nx' K Q O1' ρ' a' w' hQ h2 h1
      | _ => exact hQ _ _ _ _ _ _ _ h1 h2
  | .cond x y z, n, G, S, nx, K, Q, O1, ρ, a, w, hQ, hv, hc => by
    simp only [vc] at hv
    split at hv
    · next t ht =>
      have := cv_ok hc ht
      cases t with
      | true => exact wp_cond_true this (vc_ok hC hcs hm y _ G S nx K Q O1 ρ a w hQ hv hc)
      | false => exact wp_cond_false this (vc_ok hC hcs hm z _ G S nx K Q O1 ρ a w hQ hv hc)
    · exact hv.elim
  | .block id x, n, G, S, nx, K, Q, O1, ρ, a, w, hQ, hv, hc => by
    simp only [vc] at hv
    refine wp_block (vc_ok hC hcs hm x n G S nx _ _ O1 ρ a w ?_ hv hc)
    intro e S' nx' O1' ρ' a' w' h1 h2
    cases e with
    | exit id' =>
      simp only [KB] at h2
      simp only [Exit.inBlock]
      by_cases he : id' = id
      · subst he
        have : nb id' id' = true := nb_refl _
        rw [this] at h2
        rw [if_pos rfl]; exact hQ _ _ _ _ _ _ _ h1 h2
      · have : nb id' id = false := by
          cases hb : nb id' id with
          | false => rfl
          | true => exact absurd (eq_of_nb hb) he
        rw [this] at h2
        rw [if_neg he]; exact hQ _ _ _ _ _ _ _ h1 h2
    | _ => exact hQ _ _ _ _ _ _ _ h1 h2
  | .loop x, n, G, S, nx, K, Q, O1, ρ, a, w, hQ, hv, hc => by
    simp only [vc] at hv
    split at hv
    · next L _ =>
      obtain ⟨h0, hround⟩ := hv
      have hrd : ∀ m a w, (∃ d O1 ρ, L.mu d = m ∧ L.I G d ∧ Conc c (L.nx ≤ ·) O1 ρ (L.sh.mk' d) a w) → x.wp c.P (Exit.then (fun a' w' => ∃ n', n' < m ∧ ∃ d O1 ρ, L.mu d = n' ∧ L.I G d ∧ Conc c (L.nx ≤ ·) O1 ρ (L.sh.mk' d) a' w') Q) a w := by
        rintro m a w ⟨d, O1, ρ, rfl, hI, hc⟩
        refine vc_ok hC hcs hm x _ _ _ _ _ _ O1 ρ a w ?_ (allS_ok hround d hI) hc
        intro e S' nx' O1' ρ' a' w' h1 h2
        cases e with
        | normal =>
          simp only [KN, atHeadMu] at h2
          split at h2
          · next d' hd =>
            obtain ⟨ρ2, hc'⟩ := head_ok hC h1 hd
            exact ⟨_, h2.2, d', O1', ρ2, rfl, h2.1, hc'⟩
          · exact h2.elim
        | _ => exact hQ _ _ _ _ _ _ _ h1 h2
      have toHead : ∀ {N O1 ρ S a w}, Conc c N O1 ρ S a w → atHead C L G S → ∃ m d O1 ρ, L.mu d = m ∧ L.I G d ∧ Conc c (L.nx ≤ ·) O1 ρ (L.sh.mk' d) a w := by
        intro N O1 ρ S a w hc h0
        unfold atHead at h0
        split at h0
        · next d hd =>
          obtain ⟨ρ', hc'⟩ := head_ok hC hc hd
          exact ⟨_, d, O1, ρ', rfl, h0, hc'⟩
        · exact h0.elim
      cases hpl : L.pl with
      | false =>
        rw [hpl] at h0
        exact wp_loop_rel (fun m a w => ∃ d O1 ρ, L.mu d = m ∧ L.I G d ∧ Conc c (L.nx ≤ ·) O1 ρ (L.sh.mk' d) a w) (toHead hc h0) hrd
      | true =>
        rw [hpl] at h0
        refine wp_loop_relP (fun m a w => ∃ d O1 ρ, L.mu d = m ∧ L.I G d ∧ Conc c (L.nx ≤ ·) O1 ρ (L.sh.mk' d) a w) (vc_ok hC hcs hm x _ _ _ _ _ _ O1 ρ a w ?_ h0 hc) hrd
        intro e S' nx' O1' ρ' a' w' h1 h2
        cases e with
        | normal => exact toHead h1 h2
        | _ => exact hQ _ _ _ _ _ _ _ h1 h2
    · exact hv.elim
  | .exit id, n, G, S, nx, K, Q, O1, ρ, a, w, hQ, hv, hc => wp_exit (hQ _ _ _ _ _ _ _ hc hv)
  | .ret, n, G, S, nx, K, Q, O1, ρ, a, w, hQ, hv, hc => wp_ret (hQ _ _ _ _ _ _ _ hc hv)
  | .rangeFunc .., _, _, _, _, _, _, _, _, _, _, _, hv, _ => by simp [vc] at hv
  | .scope _, _, _, _, _, _, _, _, _, _, _, _, hv, _ => by simp [vc] at hv
  | .label _, _, _, _, _, _, _, _, _, _, _, _, hv, _ => by simp [vc] at hv
  | .goto _, _, _, _, _, _, _, _, _, _, _, _, hv, _ => by simp [vc] at hv
  | .refuse _, _, _, _, _, _, _, _, _, _, _, _, hv, _ => by simp [vc] at hv
end Go.Proofs.Ytgbfcjnkohhfoaa

namespace Go.Proofs.Ytgbfcjnkohhfoaa
open Go.RowKit

def frzOf (en : List (Nat × Ent)) : OT → List A1 → List Nat
  | .v _, l => ownRefs en l
  | .own _ _, _ => []
  | .bx _, l => (match l with | [.ref k] => (match look k en with | some (.box m) => ownRefs en m | _ => []) | _ => [])
  | .mp _ _ _, _ => []
  | .bo x, l => (match l with | [.ref k] => (match look k en with | some (.box m) => frzOf en x m | _ => []) | _ => [])
  | .pr x y, l => frzOf en x (l.take x.n) ++ frzOf en y (l.drop x.n)
  | .tw x y, l => frzOf en x (l.take x.n) ++ frzOf en y (l.drop x.n)
def frzAll (en : List (Nat × Ent)) : List (Bool × OT) → List (List A1) → List Nat
  | t :: ts, l :: ls => frzOf en t.2 l ++ frzAll en ts ls
  | _, _ => []

def clsO (en : List (Nat × Ent)) : (t : OT) → List A1 → Option (t.D × List Nat)
  | .v t, l => match cls en t l with | some (x, true) => some (x, []) | _ => none
  | .own e t, l => match l with
    | [.con (.slice none n m)] => (bif nb n 0 && nb m 0 then some ([], []) else none)
    | [.ref k] => (match look k en with
      | some (.own e' t' xs true) => (match teq t' t with | some ⟨h⟩ => (bif nb e' e then some (castD h xs, [k]) else none) | none => none)
      | _ => none)
    | _ => none
  | .bx t, l => match l with
    | [.ref k] => (match look k en with
      | some (.box m) => (match cls en t m with | some (x, true) => some (x, [k]) | _ => none)
      | _ => none)
    | _ => none
  | .mp g tk tv, l => match l with
    | [.ref k] => (match look k en with
      | some (.mp g' tk' tv' m) => (match teq tk' tk, teq tv' tv with
        | some ⟨h⟩, some ⟨h'⟩ => (bif eqb g' g && (nb tk.nsl 0 && nb tv.nsl 0) then some (castM h h' m, [k]) else none)
        | _, _ => none)
      | _ => none)
    | _ => none
  | .bo x, l => match l with
    | [.ref k] => (match look k en with
      | some (.box m) => (match clsO en x m with | some y => some (y.1, k :: y.2) | none => none)
      | _ => none)
    | _ => none
  | .pr x y, l => match clsO en x (l.take x.n), clsO en y (l.drop x.n) with
    | some a, some b => some ((a.1, b.1), a.2 ++ b.2)
    | _, _ => none
  | .tw x y, l => match clsO en x (l.take x.n), clsO en y (l.drop x.n) with
    | some a, some b => (bif twB en (l.take x.n) (l.drop x.n) then some ((a.1, b.1), a.2 ++ b.2) else none)
    | _, _ => none
def clsR (en : List (Nat × Ent)) : (l : List (Bool × OT)) → List (List A1) → Option (HO l × List Nat)
  | [], ls => match ls with | [] => some ((), []) | _ => none
  | t :: ts, ls => match ls with
    | l :: ls => (match clsO en t.2 l, clsR en ts ls with | some a, some b => some ((a.1, b.1), a.2 ++ b.2) | _, _ => none)
    | [] => none

theorem notM {C : Ctx} {c : Cx} (hC : ∀ b, c.M b → ∃ p v, p ∈ C.mpins ∧ c.pin p = some v ∧ blkOf v = some b) {N O1 : Nat → Prop} {ρ : Env} {S : St} {a : Act} {w : World} (h : Conc c N O1 ρ S a w) {l : List Nat} (hp : pinsOk C.mpins S.en l = true) {k : Nat} {e : Ent} (hk : k ∈ l) (he : look k S.en = some e) (ho : isOwn e = true)
    {v : Value} (hv : ρ k = some v) {b : Nat} (hb : blkOf v = some b) : ¬ c.M b := by
  intro hm
  obtain ⟨p, u, hpm, hpu, hpb⟩ := hC b hm
  simp only [pinsOk, List.all_eq_true, Bool.and_eq_true, Bool.not_eq_true'] at hp
  obtain ⟨h1, h2⟩ := hp p hpm
  split at h2
  · next e0 he0 =>
    have hne : p ≠ k := by rintro rfl; rw [memb_iff.2 hk] at h1; cases h1
    exact h.ap p k e0 e u v b hne he0 he h2 ho (h.pin p u hpu) hv hpb hb
  · cases h2

/-- from which block on the results' own memory lies -/
def BaseOk (C : Ctx) (c : Cx) (base : Nat) : Prop := base = 0 ∨ (base = c.w0.heap.size ∧ ∀ b, c.M b → ∃ p v, p ∈ C.mpins ∧ c.pin p = some v ∧ blkOf v = some b)
theorem BaseOk.le {C : Ctx} {c : Cx} {base : Nat} (hB : BaseOk C c base) {N O1 : Nat → Prop} {ρ : Env} {S : St} {a : Act} {w : World} (h : Conc c N O1 ρ S a w) {l : List Nat} (hp : pinsOk C.mpins S.en l = true) {k : Nat} {e : Ent} (hk : k ∈ l) (he : look k S.en = some e) (ho : isOwn e = true)
    {v : Value} (hv : ρ k = some v) {b : Nat} (hb : blkOf v = some b) (hO : O1 b) : base ≤ b := by
  rcases hB with rfl | ⟨rfl, hm⟩
  · exact Nat.zero_le _
  · exact (h.olt b hO).2.resolve_right (notM hm h hp hk he ho hv hb)

section
variable {C : Ctx} {c : Cx} {base : Nat} (hC : BaseOk C c base) {N O1 : Nat → Prop} {ρ : Env} {S : St} {a : Act} {w : World} (h : Conc c N O1 ρ S a w) {kk : List Nat} (hp : pinsOk C.mpins S.en kk = true)
include hC h hp
theorem clsO_ok : ∀ (t : OT) (l : List A1) (vs : List Value) (x : t.D) (ks : List Nat), DenL ρ l vs → clsO S.en t l = some (x, ks) → nodB ks = true → (∀ k, k ∈ ks → k ∈ kk) →
    RepO (zs c true) (offs c O1 true) base w t vs x (bsOf ρ ks) ∧ ∀ k, k ∈ ks → ∃ e, look k S.en = some e ∧ isOwn e = true
  | .v t, l, vs, x, ks, hd, hc, _, _ => by
    simp only [clsO] at hc
    split at hc
    · next y hy =>
      simp only [Option.some.injEq, Prod.mk.injEq] at hc
      obtain ⟨rfl, rfl⟩ := hc
      exact ⟨⟨rfl, cls_ok (fun k e he => h.en k e he) _ _ _ _ _ hd hy⟩, by simp⟩
    · cases hc
  | .own e t, l, vs, x, ks, hd, hc, _, hkk => by
    simp only [clsO] at hc
    split at hc
    · next n m =>
      cases hn : nb n 0 && nb m 0 with
      | false => rw [hn] at hc; cases hc
      | true =>
        rw [hn] at hc
        simp only [cond_true, Option.some.injEq, Prod.mk.injEq] at hc
        obtain ⟨rfl, rfl⟩ := hc
        simp only [Bool.and_eq_true] at hn
        have e1 := eq_of_nb hn.1
        have e2 := eq_of_nb hn.2
        subst e1; subst e2
        obtain ⟨v, us, rfl, h1, rfl⟩ := hd
        simp [den1] at h1; subst h1
        exact ⟨⟨_, [], rfl, World.ownsRow_nil w _ e t.n, by simp, by simp [blkOf], by simp [bsOf], by simp⟩, by simp⟩
    · next k =>
      obtain ⟨v, us, rfl, h1, rfl⟩ := hd
      simp only [den1] at h1
      split at hc
      · next e' t' xs hl =>
        split at hc
        · next g _ =>
          subst g
          cases hb : nb e' e with
          | false => rw [hb] at hc; cases hc
          | true =>
            rw [hb] at hc
            simp only [castD, cast_eq, cond_true, Option.some.injEq, Prod.mk.injEq] at hc
            obtain ⟨rfl, rfl⟩ := hc
            have := eq_of_nb hb
            subst this
            obtain ⟨v', cs, e1, e2, e3, e4, e5⟩ := h.en k _ hl
            rw [h1] at e1; cases e1
            refine ⟨⟨_, cs, rfl, ⟨e2.1, e2.2.imp id ?_⟩, e3, fun b hb => ?_, fun b hb => ?_, e5⟩, fun k' hk' => by simp at hk'; subst hk'; exact ⟨_, hl, rfl⟩⟩
            · rintro ⟨g, cap, cur, rfl, _, r⟩
              exact ⟨g, cap, cur, rfl, hC.le h hp (hkk k (by simp)) hl rfl h1 rfl (e4 g rfl), r⟩
            · simp [bsOf, h1, hb]
            · obtain ⟨k', hk', v', hv', hb'⟩ := bsOf_mem hb
              simp at hk'; subst hk'
              rw [h1] at hv'; cases hv'
              exact hb'
        · cases hc
      · cases hc
    · cases hc
  | .bx t, l, vs, x, ks, hd, hc, _, hkk => by
    simp only [clsO] at hc
    split at hc
    · next k =>
      obtain ⟨v, us, rfl, h1, rfl⟩ := hd
      simp only [den1] at h1
      split at hc
      · next m hl =>
        split at hc
        · next y hy =>
          simp only [Option.some.injEq, Prod.mk.injEq] at hc
          obtain ⟨rfl, rfl⟩ := hc
          obtain ⟨b, e, us, e1, e2, e3, e4, e5⟩ := h.en k _ hl
          rw [h1] at e1; cases e1
          exact ⟨⟨b, e, us, rfl, by simp [bsOf, h1, blkOf], hC.le h hp (hkk k (by simp)) hl rfl h1 rfl e2, e5, e4, cls_ok (fun k e he => h.en k e he) _ _ _ _ _ e3 hy⟩,
            fun k' hk' => by simp at hk'; subst hk'; exact ⟨_, hl, rfl⟩⟩
        · cases hc
      · cases hc
    · cases hc
  | .mp g tk tv, l, vs, x, ks, hd, hc, _, hkk => by
    simp only [clsO] at hc
    split at hc
    · next k =>
      obtain ⟨v, us, rfl, h1, rfl⟩ := hd
      simp only [den1] at h1
      split at hc
      · next g' tk' tv' m hl =>
        split at hc
        · next e1 e2 _ _ =>
          subst e1; subst e2
          cases hb : eqb g' g && (nb tk'.nsl 0 && nb tv'.nsl 0) with
          | false => rw [hb] at hc; cases hc
          | true =>
            rw [hb] at hc
            simp only [castM, cast_eq, cond_true, Option.some.injEq, Prod.mk.injEq] at hc
            obtain ⟨rfl, rfl⟩ := hc
            simp only [Bool.and_eq_true] at hb
            have := eqb_eq hb.1
            subst this
            obtain ⟨b, es, cl, q1, q2, q3, q4⟩ := h.en k _ hl
            rw [h1] at q1; cases q1
            exact ⟨⟨b, es, cl, rfl, by simp [bsOf, h1, blkOf], hC.le h hp (hkk k (by simp)) hl rfl h1 rfl q2, q3, ⟨eq_of_nb hb.2.1, eq_of_nb hb.2.2⟩, q4.flat (eq_of_nb hb.2.1) (eq_of_nb hb.2.2)⟩,
              fun k' hk' => by simp at hk'; subst hk'; exact ⟨_, hl, rfl⟩⟩
        · cases hc
      · cases hc
    · cases hc
  | .bo t, l, vs, x, ks, hd, hc, hn, hkk => by
    simp only [clsO] at hc
    split at hc
    · next k =>
      obtain ⟨v, us, rfl, h1, rfl⟩ := hd
      simp only [den1] at h1
      split at hc
      · next m hl =>
        split at hc
        · next y hy =>
          simp only [Option.some.injEq, Prod.mk.injEq] at hc
          obtain ⟨rfl, rfl⟩ := hc
          obtain ⟨b, e, us, e1, e2, e3, e4, e5⟩ := h.en k _ hl
          rw [h1] at e1; cases e1
          simp only [nodB, Bool.and_eq_true, Bool.not_eq_true'] at hn
          obtain ⟨a1, a3⟩ := clsO_ok t m us y.1 y.2 e3 hy hn.2 (fun k' hk' => hkk k' (List.mem_cons_of_mem _ hk'))
          refine ⟨⟨b, e, us, bsOf ρ y.2, rfl, by simp [bsOf, h1, blkOf], fun hb => ?_, hC.le h hp (hkk k (by simp)) hl rfl h1 rfl e2, e5, e4, a1⟩, fun k' hk' => ?_⟩
          · obtain ⟨k', hk', u, hu, hub⟩ := bsOf_mem hb
            obtain ⟨e', he', ho'⟩ := a3 k' hk'
            have hne : k ≠ k' := by rintro rfl; rw [memb_iff.2 hk'] at hn; simp at hn
            exact h.ap k k' _ e' _ u b hne hl he' rfl ho' h1 hu rfl hub
          · rcases List.mem_cons.1 hk' with rfl | hk'
            · exact ⟨_, hl, rfl⟩
            · exact a3 k' hk'
        · cases hc
      · cases hc
    · cases hc
  | .pr t u, l, vs, x, ks, hd, hc, hn, hkk => by
    simp only [clsO] at hc
    split at hc
    · next p q hp hq =>
      simp only [Option.some.injEq, Prod.mk.injEq] at hc
      obtain ⟨rfl, rfl⟩ := hc
      obtain ⟨n1, n2, n3⟩ := nodB_app hn
      obtain ⟨r1, o1⟩ := clsO_ok t _ _ p.1 p.2 (hd.take t.n) hp n1 (fun k hk => hkk k (List.mem_append_left _ hk))
      obtain ⟨r2, o2⟩ := clsO_ok u _ _ q.1 q.2 (hd.drop t.n) hq n2 (fun k hk => hkk k (List.mem_append_right _ hk))
      refine ⟨⟨_, _, bsOf ρ p.2, bsOf ρ q.2, (List.take_append_drop t.n vs).symm, by simp [bsOf], fun b h1 h2 => ?_, r1, r2⟩, fun k hk => (List.mem_append.1 hk).elim (o1 k) (o2 k)⟩
      obtain ⟨k1, hk1, v1, hv1, hb1⟩ := bsOf_mem h1
      obtain ⟨k2, hk2, v2, hv2, hb2⟩ := bsOf_mem h2
      obtain ⟨e1, he1, ho1⟩ := o1 k1 hk1
      obtain ⟨e2, he2, ho2⟩ := o2 k2 hk2
      exact h.ap k1 k2 e1 e2 v1 v2 b (fun e => n3 k1 hk1 (e ▸ hk2)) he1 he2 ho1 ho2 hv1 hv2 hb1 hb2
    · cases hc
  | .tw t u, l, vs, x, ks, hd, hc, hn, hkk => by
    simp only [clsO] at hc
    split at hc
    · next p q hp hq =>
      cases htw : twB S.en (l.take t.n) (l.drop t.n) with
      | false => rw [htw] at hc; cases hc
      | true =>
      rw [htw] at hc
      simp only [cond_true, Option.some.injEq, Prod.mk.injEq] at hc
      obtain ⟨rfl, rfl⟩ := hc
      obtain ⟨n1, n2, n3⟩ := nodB_app hn
      obtain ⟨r1, o1⟩ := clsO_ok t _ _ p.1 p.2 (hd.take t.n) hp n1 (fun k hk => hkk k (List.mem_append_left _ hk))
      obtain ⟨r2, o2⟩ := clsO_ok u _ _ q.1 q.2 (hd.drop t.n) hq n2 (fun k hk => hkk k (List.mem_append_right _ hk))
      refine ⟨⟨_, _, bsOf ρ p.2, bsOf ρ q.2, (List.take_append_drop t.n vs).symm, by simp [bsOf], fun b h1 h2 => ?_, r1, r2, fun k => twB_ok (fun k e he => h.en k e he) (hd.take t.n) (hd.drop t.n) htw k.2⟩, fun k hk => (List.mem_append.1 hk).elim (o1 k) (o2 k)⟩
      obtain ⟨k1, hk1, v1, hv1, hb1⟩ := bsOf_mem h1
      obtain ⟨k2, hk2, v2, hv2, hb2⟩ := bsOf_mem h2
      obtain ⟨e1, he1, ho1⟩ := o1 k1 hk1
      obtain ⟨e2, he2, ho2⟩ := o2 k2 hk2
      exact h.ap k1 k2 e1 e2 v1 v2 b (fun e => n3 k1 hk1 (e ▸ hk2)) he1 he2 ho1 ho2 hv1 hv2 hb1 hb2
    · cases hc
end
/-- values of the cells ls, with the flags of ts -/
def ValsR (ρ : Env) : List (Bool × OT) → List (List A1) → List Value → Prop
  | [], ls, vs => ls = [] ∧ vs = []
  | t :: ts, ls, vs => ∃ l ls' v vs', ls = l :: ls' ∧ vs = v :: vs' ∧ (∃ us, DenL ρ l us ∧ ValC t.1 us v) ∧ ValsR ρ ts ls' vs'
section
variable {C : Ctx} {c : Cx} {base : Nat} (hC : BaseOk C c base) {N O1 : Nat → Prop} {ρ : Env} {S : St} {a : Act} {w : World} (h : Conc c N O1 ρ S a w) {kk : List Nat} (hp : pinsOk C.mpins S.en kk = true)
include hC h hp
theorem clsR_ok : ∀ (ts : List (Bool × OT)) (ls : List (List A1)) (vs : List Value) (x : HO ts) (ks : List Nat), ValsR ρ ts ls vs → clsR S.en ts ls = some (x, ks) → nodB ks = true → (∀ k, k ∈ ks → k ∈ kk) →
    RepR (zs c true) (offs c O1 true) base w ts vs x (bsOf ρ ks) ∧ ∀ k, k ∈ ks → ∃ e, look k S.en = some e ∧ isOwn e = true
  | [], ls, vs, x, ks, hv, hc, _, _ => by
    obtain ⟨rfl, rfl⟩ := hv
    simp only [clsR, Option.some.injEq, Prod.mk.injEq] at hc
    obtain ⟨_, rfl⟩ := hc
    exact ⟨⟨rfl, rfl⟩, by simp⟩
  | t :: ts, ls, vs, x, ks, hv, hc, hn, hkk => by
    obtain ⟨l, ls', v, vs', rfl, rfl, ⟨us, hd, hvc⟩, hr⟩ := hv
    simp only [clsR] at hc
    split at hc
    · next p q hq1 hq =>
      simp only [Option.some.injEq, Prod.mk.injEq] at hc
      obtain ⟨rfl, rfl⟩ := hc
      obtain ⟨n1, n2, n3⟩ := nodB_app hn
      obtain ⟨r1, o1⟩ := clsO_ok hC h hp t.2 _ _ p.1 p.2 hd hq1 n1 (fun k hk => hkk k (List.mem_append_left _ hk))
      obtain ⟨r2, o2⟩ := clsR_ok ts ls' vs' q.1 q.2 hr hq n2 (fun k hk => hkk k (List.mem_append_right _ hk))
      refine ⟨⟨v, vs', bsOf ρ p.2, bsOf ρ q.2, rfl, by simp [bsOf], fun b h1 h2 => ?_, ⟨us, hvc, r1⟩, r2⟩, fun k hk => (List.mem_append.1 hk).elim (o1 k) (o2 k)⟩
      obtain ⟨k1, hk1, v1, hv1, hb1⟩ := bsOf_mem h1
      obtain ⟨k2, hk2, v2, hv2, hb2⟩ := bsOf_mem h2
      obtain ⟨e1, he1, ho1⟩ := o1 k1 hk1
      obtain ⟨e2, he2, ho2⟩ := o2 k2 hk2
      exact h.ap k1 k2 e1 e2 v1 v2 b (fun e => n3 k1 hk1 (e ▸ hk2)) he1 he2 ho1 ho2 hv1 hv2 hb1 hb2
    · cases hc
end

/-- the cells of the results -/
def retCells (C : Ctx) (S : St) : List ResultVar → List (Bool × OT) → Option (List (List A1))
  | [], ts => match ts with | [] => some [] | _ => none
  | r :: rs, ts => match ts with
    | t :: ts => (match (match r with
        | .tmp s => (look s S.tm).bind (argC t.1)
        | .cell s ty => (match look s S.tm with
          | some (.one (.ref k)) => (match look k S.en, look ty C.ty with
            | some (.box l), some ti => (bif nb l.length ti.z.length && eqb t.1 (isSt ti) then (match t.1, l with | true, l => some l | false, [x] => some [x] | _, _ => none) else none)
            | _, _ => none)
          | _ => none)), retCells C S rs ts with
      | some l, some ls => some (l :: ls)
      | _, _ => none)
    | [] => none
def resM (tmps : Array Value) : ResultVar → Sem Value
  | .tmp t => pure (tmps.getD t undef)
  | .cell a t => do loadVar t (← asAddr (tmps.getD a undef))
theorem retCells_ok [B : Base] {C : Ctx} {c : Cx} (hC : CtxOk C c) {N O1 : Nat → Prop} {ρ : Env} {S : St} {a : Act} {w : World} (h : Conc c N O1 ρ S a w) : ∀ (rs : List ResultVar) (ts : List (Bool × OT)) (ls : List (List A1)), retCells C S rs ts = some ls →
    ∃ vs, (rs.mapM (resM a.tmps)).run c.P w = .ok vs w ∧ ValsR ρ ts ls vs
  | [], ts, ls, hr => by
    simp only [retCells] at hr
    split at hr
    · cases hr; exact ⟨[], rfl, rfl, rfl⟩
    · cases hr
  | r :: rs, ts, ls, hr => by
    simp only [retCells] at hr
    split at hr
    · next t ts' =>
      split at hr
      · next l ls' h1 h2 =>
        cases hr
        obtain ⟨vs, hvs, hvr⟩ := retCells_ok hC h rs ts' ls' h2
        obtain ⟨v, hv, us, hd, hvc⟩ : ∃ v, (resM a.tmps r).run c.P w = .ok v w ∧ ∃ us, DenL ρ l us ∧ ValC t.1 us v := by
          split at h1
          · next s =>
            obtain ⟨y, hy, hyl⟩ := Option.bind_eq_some_iff.1 h1
            obtain ⟨v, hv, ht⟩ := h.tm s y hy
            exact ⟨v, by simp [resM, ht], argC_ok hyl hv⟩
          · next s ty =>
            split at h1
            · next k hk =>
              split at h1
              · next l0 ti hl0 hti =>
                cases hb : nb l0.length ti.z.length && eqb t.1 (isSt ti) with
                | false => rw [hb] at h1; cases h1
                | true =>
                  rw [hb] at h1
                  simp only [cond_true] at h1
                  simp only [Bool.and_eq_true] at hb
                  have hlen := eq_of_nb hb.1
                  have hst := eqb_eq hb.2
                  obtain ⟨u, hu, ht⟩ := h.tm s _ hk
                  obtain ⟨b, e, vs0, e1, e2, e3, e4, e5⟩ := h.en k _ hl0
                  simp only [Den, den1, e1, Option.some.injEq] at hu
                  subst hu
                  have hP := hC.ty ty ti hti
                  rw [← hC.P] at hP
                  have hcell : ∀ (j : Nat) (v : Value), vs0[j]? = some v → w.cell? ⟨b, 0 + j, none⟩ = some v := fun j v hj => by
                    rw [cell_of_row w b (0 + j) vs0.toArray e (0, 0) e5]; simpa using hj
                  have hl : l = l0 ∧ (t.1 = false → ∃ x, l0 = [x]) := by
                    split at h1
                    · simp only [Option.some.injEq] at h1; exact ⟨h1.symm, by simp_all⟩
                    · simp only [Option.some.injEq] at h1; exact ⟨h1.symm, fun _ => ⟨_, rfl⟩⟩
                    · cases h1
                  obtain ⟨rfl, hsing⟩ := hl
                  cases hg : t.1 with
                  | true =>
                    rw [hg] at hst
                    obtain ⟨v, hv1, hv2⟩ := run_load hP (w := w) (b := b) (o := 0) (us := vs0) (by rw [e3.len, hlen]) hcell e3 (y := .agg l) (by simp [mkv, ← hst])
                    obtain ⟨us, hd, rfl⟩ := hv1
                    refine ⟨_, ?_, us, hd, .inl ⟨rfl, rfl⟩⟩
                    simpa [resM, ht, asAddr, Instr.loadAt, Instr.sureAddr] using hv2
                  | false =>
                    rw [hg] at hst
                    obtain ⟨x, rfl⟩ := hsing hg
                    obtain ⟨v, hv1, hv2⟩ := run_load hP (w := w) (b := b) (o := 0) (us := vs0) (by rw [e3.len, hlen]) hcell e3 (y := .one x) (by simp [mkv, ← hst])
                    refine ⟨v, ?_, [v], ⟨v, [], rfl, hv1, rfl⟩, .inr ⟨rfl, rfl⟩⟩
                    simpa [resM, ht, asAddr, Instr.loadAt, Instr.sureAddr] using hv2
              · cases h1
            · cases h1
        exact ⟨v :: vs, by simp [List.mapM_cons, hv, hvs], l, ls', v, vs, rfl, rfl, ⟨us, hd, hvc⟩, hvr⟩
      · cases hr
    · cases hr

/-- the lengths of data's slices -/
def lens : (t : TC) → t.D → Prop
  | .sl t, (xs : List t.D) => xs.length ≤ 9223372036854775807 ∧ ∀ x, x ∈ xs → lens t x
  | .pr t u, x => lens t x.1 ∧ lens u x.2
  | .tw t u, x => lens t x.1 ∧ lens u x.2
  | .i _, _ => True
  | .b, _ => True
  | .s, _ => True
theorem Rep.lens {z : Prop} {O : Nat → Prop} {w : World} : ∀ {t : TC} {vs : List Value} {x : t.D}, Rep z O w t vs x → Go.Proofs.Ytgbfcjnkohhfoaa.lens t x
  | .i _, _, _, _ => trivial
  | .b, _, _, _ => trivial
  | .s, _, _, _ => trivial
  | .sl t, _, xs, h => by
    obtain ⟨a, cap, _, _, h1, _, _, h2⟩ := h
    refine ⟨h1, fun x hx => ?_⟩
    rcases h2 with rfl | ⟨b, off, _, _, hc⟩
    · simp at hx
    · obtain ⟨i, hi⟩ := List.getElem?_of_mem hx
      obtain ⟨us, _, _, hr⟩ := hc i x hi
      exact hr.lens
  | .pr t u, _, _, h => by
    obtain ⟨us, ws, _, h1, h2⟩ := h
    exact ⟨h1.lens, h2.lens⟩
  | .tw t u, _, _, h => by
    obtain ⟨us, ws, _, h1, h2, _⟩ := h
    exact ⟨h1.lens, h2.lens⟩
end Go.Proofs.Ytgbfcjnkohhfoaa
