/-
  The abstract machine: how functions are entered, and the rule for a function.
-/
import Derived.Test.YtgbfcjnkohhfoaaAb16
namespace Go.Proofs.Ytgbfcjnkohhfoaa
open Go.RowKit

/-- the cells of a parameter -/
def opnP (sh : Bool) : (t : IT) → t.D → Nat → List A1 × List (Nat × Ent)
  | .v t, x, id => opn t x sh id
  | .own e t, x, id => ([.ref id], [(id, .own e t x (nb t.nsl 0 || sh))])
  | .bx t, x, id => ([.ref id], (id, .box (opn t x sh (id + 1)).1) :: (opn t x sh (id + 1)).2)
  | .mp g tk tv, x, id => ([.ref id], [(id, .mp g tk tv x)])
  | .bo t, x, id => ([.ref id], (id, .box (opnP sh t x (id + 1)).1) :: (opnP sh t x (id + 1)).2)
  | .k f, _, _ => ([.con (fnV f)], [])
  | .pr t u, x, id => ((opnP sh t x.1 id).1 ++ (opnP sh u x.2 (id + t.nsl)).1, (opnP sh t x.1 id).2 ++ (opnP sh u x.2 (id + t.nsl)).2)
/-- the numbers from id on, n of them -/
def upTo (id : Nat) : Nat → List Nat
  | 0 => []
  | n + 1 => id :: upTo (id + 1) n
theorem upTo_mem {k : Nat} : ∀ {n id : Nat}, k ∈ upTo id n ↔ id ≤ k ∧ k < id + n
  | 0, id => by simp only [upTo, List.not_mem_nil, false_iff]; omega
  | n + 1, id => by
    simp only [upTo, List.mem_cons, upTo_mem]
    omega
def pinP (all : Bool) : IT → Nat → List Nat
  | .own _ _, id => [id]
  | .bx t, id => bif all then upTo id (1 + t.nsl) else [id]
  | .mp _ _ _, id => [id]
  | .bo t, id => id :: pinP all t (id + 1)
  | .pr t u, id => pinP all t id ++ pinP all u (id + t.nsl)
  | _, _ => []
def pinA (all : Bool) : List (Bool × IT) → Nat → List Nat
  | [], _ => []
  | t :: l, id => pinP all t.2 id ++ pinA all l (id + t.2.nsl)
def nslI : List (Bool × IT) → Nat
  | [] => 0
  | t :: l => t.2.nsl + nslI l
def opnI (sh : Bool) : (l : List (Bool × IT)) → HI l → Nat → Nat → Option (List (Nat × AV) × List (Nat × Ent))
  | [], _, _, _ => some ([], [])
  | t :: l, x, s, id => match comp (t.1, (opnP sh t.2 x.1 id).1), opnI sh l x.2 (s + 1) (id + t.2.nsl) with
    | some y, some r => some ((s, y) :: r.1, (opnP sh t.2 x.1 id).2 ++ r.2)
    | _, _ => none
def allI : (t : IT) → (t.D → Prop) → Prop
  | .v t, P => allT t P
  | .own _ t, P => ∀ x : List t.D, P x
  | .bx t, P => allT t P
  | .mp _ tk tv, P => ∀ x : List (tk.D × tv.D), P x
  | .bo t, P => allI t P
  | .k _, P => P ()
  | .pr t u, P => allI t fun x => allI u fun y => P (x, y)
theorem allI_ok : ∀ {t : IT} {P : t.D → Prop}, allI t P → ∀ d, P d
  | .v t, _, h => allT_ok (t := t) h
  | .own _ _, _, h => h
  | .bx t, _, h => allT_ok (t := t) h
  | .mp _ _ _, _, h => h
  | .bo t, _, h => allI_ok (t := t) h
  | .k _, _, h => fun _ => h
  | .pr t u, _, h => fun d => allI_ok (t := u) (allI_ok (t := t) h d.1) d.2
def allHI : (l : List (Bool × IT)) → (HI l → Prop) → Prop
  | [], P => P ()
  | t :: l, P => allI t.2 fun x => allHI l fun y => P (x, y)
theorem allHI_ok : ∀ {l : List (Bool × IT)} {P : HI l → Prop}, allHI l P → ∀ d, P d
  | [], _, h => fun _ => h
  | _ :: _, _, h => fun d => allHI_ok (allI_ok h d.1) d.2

/-- what is known of a parameter at the entry -/
def InitP (sh : Bool) (w : World) (ρ : Env) : (t : IT) → List Value → t.D → Nat → Prop
  | .v _, _, _, _ => True
  | .k _, _, _, _ => True
  | .own _ _, vs, _, id => ∃ v, vs = [v] ∧ ρ id = some v
  | .bx t, vs, x, id => ∃ b e us, vs = [.pointer (some ⟨b, 0, none⟩)] ∧ ρ id = some (.pointer (some ⟨b, 0, none⟩)) ∧ w.heap[b]? = some (.cells us.toArray e (0, 0)) ∧ DenL ρ (opn t x sh (id + 1)).1 us
  | .mp _ _ _, vs, _, id => ∃ v, vs = [v] ∧ ρ id = some v
  | .bo t, vs, x, id => ∃ b e us, vs = [.pointer (some ⟨b, 0, none⟩)] ∧ ρ id = some (.pointer (some ⟨b, 0, none⟩)) ∧ w.heap[b]? = some (.cells us.toArray e (0, 0)) ∧ us.length = t.n ∧ DenL ρ (opnP sh t x (id + 1)).1 us ∧ InitP sh w ρ t us x (id + 1)
  | .pr t u, vs, x, id => ∃ us ws, vs = us ++ ws ∧ us.length = t.n ∧ InitP sh w ρ t us x.1 id ∧ InitP sh w ρ u ws x.2 (id + t.nsl)
theorem InitP.ext {sh : Bool} {w : World} {ρ ρ' : Env} (hE : Ext ρ ρ') : ∀ {t : IT} {vs : List Value} {x : t.D} {id : Nat}, InitP sh w ρ t vs x id → InitP sh w ρ' t vs x id
  | .v _, _, _, _, h => h
  | .k _, _, _, _, h => h
  | .own _ _, _, _, _, h => by obtain ⟨v, h1, h2⟩ := h; exact ⟨v, h1, hE _ _ h2⟩
  | .bx _, _, _, _, h => by obtain ⟨b, e, us, h1, h2, h3, h4⟩ := h; exact ⟨b, e, us, h1, hE _ _ h2, h3, h4.ext hE⟩
  | .mp _ _ _, _, _, _, h => by obtain ⟨v, h1, h2⟩ := h; exact ⟨v, h1, hE _ _ h2⟩
  | .bo _, _, _, _, h => by obtain ⟨b, e, us, h1, h2, h3, h4, h5, h6⟩ := h; exact ⟨b, e, us, h1, hE _ _ h2, h3, h4, h5.ext hE, h6.ext hE⟩
  | .pr _ _, _, _, _, h => by obtain ⟨us, ws, h1, h2, h3, h4⟩ := h; exact ⟨us, ws, h1, h2, h3.ext hE, h4.ext hE⟩
theorem RepI.len {z : Prop} {O : Nat → Prop} {w : World} : ∀ {t : IT} {vs : List Value} {x : t.D} {bs : List Nat}, RepI z O w t vs x bs → vs.length = t.n
  | .v _, _, _, _, h => h.2.len
  | .own _ _, _, _, _, h => by obtain ⟨v, cs, rfl, _⟩ := h; rfl
  | .bx _, _, _, _, h => by obtain ⟨b, e, us, rfl, _⟩ := h; rfl
  | .mp _ _ _, _, _, _, h => by obtain ⟨b, es, cl, rfl, _⟩ := h; rfl
  | .bo _, _, _, _, h => by obtain ⟨b, e, us, bs', rfl, _⟩ := h; rfl
  | .k _, _, _, _, h => by obtain ⟨rfl, _⟩ := h; rfl
  | .pr _ _, _, _, _, h => by obtain ⟨us, ws, b1, b2, rfl, _, _, h1, h2⟩ := h; simp [IT.n, h1.len, h2.len]

theorem opnP_ok {c : Cx} {O1 A : Nat → Prop} {zA : Prop} {w : World} {sh : Bool} (hz : zs c sh → zA) (hA : ∀ b, b < w.heap.size → ¬ A b → ¬ offs c O1 sh b) : ∀ (t : IT) (vs : List Value) (x : t.D) (bs : List Nat) (id : Nat) (ρ : Env), RepI zA A w t vs x bs → (∀ b, b ∈ bs → O1 b) → (∀ k, id ≤ k → ρ k = none) →
    ∃ ρ', DenL ρ' (opnP sh t x id).1 vs ∧ Opened c O1 w 0 id t.nsl bs (opnP sh t x id).2 ρ ρ' ∧ InitP sh w ρ' t vs x id ∧ (∀ k, k ∈ pinP true t id → ∃ v, ρ' k = some v) ∧ (∀ b, b ∈ bs → ∃ k v, k ∈ pinP false t id ∧ ρ' k = some v ∧ blkOf v = some b)
  | .v t, vs, x, bs, id, ρ, h, _, hf => by
    obtain ⟨rfl, h⟩ := h
    obtain ⟨ρ', e1, i1, o1, d1, n1⟩ := opn_ok (c := c) (O1 := O1) t vs x id ρ (h.move hz fun b hb hn => ⟨hA b hb hn, rfl⟩) (fun k h1 _ => hf k h1)
    have no : ∀ k e, (k, e) ∈ (opn t x sh id).2 → isOwn e = true → False := fun k e he ho => by rw [(n1 k e he).1] at ho; cases ho
    exact ⟨ρ', d1, ⟨e1, i1, o1, fun k e he => (n1 k e he).2, fun k e v b he ho => (no k e he ho).elim, by simp, fun k k' e e' v v' b _ he _ ho => (no k e he ho).elim⟩, trivial, by simp [pinP], by simp⟩
  | .k f, vs, x, bs, id, ρ, h, _, hf => by
    obtain ⟨rfl, rfl⟩ := h
    exact ⟨ρ, ⟨_, [], rfl, rfl, rfl⟩, ⟨Ext.refl _, fun _ _ => rfl, fun k v hv => .inl hv, by simp [opnP], by simp [opnP], by simp, by simp [opnP]⟩, trivial, by simp [pinP], by simp⟩
  | .own e t, vs, x, bs, id, ρ, h, hO, hf => by
    obtain ⟨v, cs, rfl, h2, h3, h4, h5, h6⟩ := h
    have hn : ρ id = none := hf id (Nat.le_refl _)
    obtain ⟨ob, hv1, hlt⟩ := own_blk h2
    refine ⟨fun k => if k = id then some v else ρ k, ⟨v, [], rfl, by simp [den1], rfl⟩, ⟨env_ext hn, ?_, ?_, ?_, ?_, ?_, ?_⟩, ⟨v, rfl, by simp⟩, fun k hk => ?_, fun b hb => ⟨id, v, by simp [pinP], by simp, h5 b hb⟩⟩
    · intro k hk
      have : k ≠ id := by simp [IT.nsl] at hk; omega
      simp [this]
    · intro k u hk
      by_cases e0 : k = id
      · simp [e0] at hk; subst hk; exact .inr hv1
      · simp [e0] at hk; exact .inl hk
    · intro k e' he
      simp [opnP] at he
      obtain ⟨rfl, rfl⟩ := he
      refine ⟨Nat.le_refl _, by simp [IT.nsl], v, cs, by simp, h2, h3, fun b hb => hO b (h4 b hb), fun i y hy => ?_⟩
      cases hfl : nb t.nsl 0 with
      | true => exact (h6 i y hy).flat (eq_of_nb hfl)
      | false => exact (h6 i y hy).move hz fun b hb hn => ⟨hA b hb hn, rfl⟩
    · intro k e' u b he _ hu hb
      simp [opnP] at he
      obtain ⟨rfl, rfl⟩ := he
      simp at hu; subst hu
      exact h4 b hb
    · intro b hb
      exact ⟨Nat.zero_le _, hlt b (h5 b hb)⟩
    · intro k k' e1 e2 v1 v2 b hne he he'
      simp [opnP] at he he'
      exact absurd (he.1.trans he'.1.symm) hne
    · simp [pinP] at hk; subst hk; exact ⟨v, by simp⟩
  | .bx t, vs, x, bs, id, ρ, h, hO, hf => by
    obtain ⟨b, e, us, rfl, rfl, h4, h5, h6⟩ := h
    have hn : ρ id = none := hf id (Nat.le_refl _)
    obtain ⟨ρ1, e1, i1, o1, d1, n1, p1⟩ := opn_ok2 (c := c) (O1 := O1) t us x (id + 1) ρ (h6.move hz fun b hb hn => ⟨hA b hb hn, rfl⟩) (fun k h1 _ => hf k (by omega))
    have hn1 : ρ1 id = none := by rw [i1 id (.inl (by omega))]; exact hn
    have no : ∀ k e, (k, e) ∈ (opn t x sh (id + 1)).2 → isOwn e = true → False := fun k e he ho => by rw [(n1 k e he).1] at ho; cases ho
    have hE := env_ext (v := .pointer (some ⟨b, 0, none⟩)) hn1
    refine ⟨fun k => if k = id then some (.pointer (some ⟨b, 0, none⟩)) else ρ1 k, ⟨_, [], rfl, by simp [den1], rfl⟩, ⟨fun k v hk => hE k v (e1 k v hk), ?_, ?_, ?_, ?_, ?_, ?_⟩, ⟨b, e, us, rfl, by simp, h4, d1.ext hE⟩, fun k hk => ?_, fun b' hb' => ⟨id, _, by simp [pinP], by simp; rfl, by simp at hb'; simp [blkOf, hb']⟩⟩
    · intro k hk
      have : k ≠ id := by simp [IT.nsl] at hk; omega
      simp only [this, if_false]
      exact i1 k (by simp [IT.nsl] at hk; omega)
    · intro k u hk
      by_cases e0 : k = id
      · simp [e0] at hk; subst hk; exact .inr rfl
      · simp [e0] at hk; exact o1 k u hk
    · intro k e' he
      simp only [opnP, List.mem_cons, Prod.mk.injEq] at he
      rcases he with ⟨rfl, rfl⟩ | he
      · exact ⟨Nat.le_refl _, by simp [IT.nsl]; omega, b, e, us, by simp, hO b (by simp), d1.ext hE, h5, h4⟩
      · obtain ⟨_, a1, a2, a3⟩ := n1 k e' he
        exact ⟨by omega, by simp [IT.nsl]; omega, a3.ext hE⟩
    · intro k e' u b' he ho hu hb
      simp only [opnP, List.mem_cons, Prod.mk.injEq] at he
      rcases he with ⟨rfl, rfl⟩ | he
      · simp at hu; subst hu; simp [blkOf] at hb; simp [hb]
      · exact (no _ _ he ho).elim
    · intro b' hb
      simp at hb; subst hb
      exact ⟨Nat.zero_le _, (Array.getElem?_eq_some_iff.1 h4).1⟩
    · intro k k' e1 e2 v1 v2 b hne he he' ho ho'
      simp only [opnP, List.mem_cons, Prod.mk.injEq] at he he'
      rcases he with he | he
      · rcases he' with he' | he'
        · exact absurd (he.1.trans he'.1.symm) hne
        · exact (no _ _ he' ho').elim
      · exact (no _ _ he ho).elim
    · simp only [pinP, cond_true, upTo_mem] at hk
      by_cases e0 : k = id
      · exact ⟨_, by simp [e0]; rfl⟩
      · obtain ⟨v, hv⟩ := p1 k (by omega) (by omega)
        exact ⟨v, by simp [e0, hv]⟩
  | .mp g tk tv, vs, x, bs, id, ρ, h, hO, hf => by
    obtain ⟨b, es, cl, rfl, rfl, h4, h5, h6⟩ := h
    have hn : ρ id = none := hf id (Nat.le_refl _)
    refine ⟨fun k => if k = id then some (.map (some b)) else ρ k, ⟨_, [], rfl, by simp [den1], rfl⟩, ⟨env_ext hn, ?_, ?_, ?_, ?_, ?_, ?_⟩, ⟨_, rfl, by simp⟩, fun k hk => ?_, fun b' hb' => ⟨id, _, by simp [pinP], by simp; rfl, by simp at hb'; simp [blkOf, hb']⟩⟩
    · intro k hk
      have : k ≠ id := by simp [IT.nsl] at hk; omega
      simp [this]
    · intro k u hk
      by_cases e0 : k = id
      · simp [e0] at hk; subst hk; exact .inr rfl
      · simp [e0] at hk; exact .inl hk
    · intro k e' he
      simp [opnP] at he
      obtain ⟨rfl, rfl⟩ := he
      exact ⟨Nat.le_refl _, by simp [IT.nsl], b, es, cl, by simp, hO b (by simp), h4, h6.flat h5.1 h5.2⟩
    · intro k e' u b' he _ hu hb
      simp [opnP] at he
      obtain ⟨rfl, rfl⟩ := he
      simp at hu; subst hu
      simp [blkOf] at hb; simp [hb]
    · intro b' hb
      simp at hb; subst hb
      exact ⟨Nat.zero_le _, (Array.getElem?_eq_some_iff.1 h4).1⟩
    · intro k k' e1 e2 v1 v2 b hne he he'
      simp [opnP] at he he'
      exact absurd (he.1.trans he'.1.symm) hne
    · simp [pinP] at hk; subst hk; exact ⟨_, by simp; rfl⟩
  | .bo t, vs, x, bs, id, ρ, h, hO, hf => by
    obtain ⟨b, e, us, bs', rfl, rfl, hbb, h4, h5, h6⟩ := h
    have hn : ρ id = none := hf id (Nat.le_refl _)
    obtain ⟨ρ1, d1, n1, g1, p1, q1⟩ := opnP_ok hz hA t us x bs' (id + 1) ρ h6 (fun b hb => hO b (List.mem_cons_of_mem _ hb)) (fun k hk => hf k (by omega))
    have hn1 : ρ1 id = none := by rw [n1.ids id (.inl (by omega))]; exact hn
    have hE := env_ext (v := .pointer (some ⟨b, 0, none⟩)) hn1
    refine ⟨fun k => if k = id then some (.pointer (some ⟨b, 0, none⟩)) else ρ1 k, ⟨_, [], rfl, by simp [den1], rfl⟩, ⟨fun k v hk => hE k v (n1.ext k v hk), ?_, ?_, ?_, ?_, ?_, ?_⟩, ⟨b, e, us, rfl, by simp, h4, h6.len, d1.ext hE, g1.ext hE⟩, fun k hk => ?_, fun b' hb' => ?_⟩
    · intro k hk
      have : k ≠ id := by simp [IT.nsl] at hk; omega
      simp only [this, if_false]
      exact n1.ids k (by simp [IT.nsl] at hk; omega)
    · intro k u hk
      by_cases e0 : k = id
      · simp [e0] at hk; subst hk; exact .inr rfl
      · simp [e0] at hk; exact n1.one k u hk
    · intro k e' he
      simp only [opnP, List.mem_cons, Prod.mk.injEq] at he
      rcases he with ⟨rfl, rfl⟩ | he
      · exact ⟨Nat.le_refl _, by simp [IT.nsl]; omega, b, e, us, by simp, hO b (by simp), d1.ext hE, h5, h4⟩
      · obtain ⟨a1, a2, a3⟩ := n1.ent k e' he
        exact ⟨by omega, by simp [IT.nsl]; omega, a3.ext hE⟩
    · intro k e' u b' he ho hu hb
      simp only [opnP, List.mem_cons, Prod.mk.injEq] at he
      rcases he with ⟨rfl, rfl⟩ | he
      · simp at hu; subst hu; simp [blkOf] at hb; simp [hb]
      · have hk : k ≠ id := by have := n1.ent k e' he; omega
        simp only [hk, if_false] at hu
        exact List.mem_cons_of_mem _ (n1.blk k e' u b' he ho hu hb)
    · intro b' hb
      rcases List.mem_cons.1 hb with rfl | hb
      · exact ⟨Nat.zero_le _, (Array.getElem?_eq_some_iff.1 h4).1⟩
      · exact n1.big b' hb
    · intro k k' e1 e2 v1 v2 b0 hne he he' ho ho' hv hv' hbk hbk'
      simp only [opnP, List.mem_cons, Prod.mk.injEq] at he he'
      rcases he with ⟨rfl, rfl⟩ | he
      · rcases he' with he' | he'
        · exact absurd he'.1.symm hne
        · have hk : k' ≠ k := fun e => hne e.symm
          simp only [hk, if_false] at hv'
          simp at hv; subst hv
          simp [blkOf] at hbk; subst hbk
          exact hbb (n1.blk k' e2 v2 b he' ho' hv' hbk')
      · rcases he' with ⟨rfl, rfl⟩ | he'
        · simp only [hne, if_false] at hv
          simp at hv'; subst hv'
          simp [blkOf] at hbk'; subst hbk'
          exact hbb (n1.blk k e1 v1 b he ho hv hbk)
        · have hk : k ≠ id := by have := n1.ent k e1 he; omega
          have hk' : k' ≠ id := by have := n1.ent k' e2 he'; omega
          simp only [hk, if_false] at hv
          simp only [hk', if_false] at hv'
          exact n1.ap k k' e1 e2 v1 v2 b0 hne he he' ho ho' hv hv' hbk hbk'
    · simp only [pinP, List.mem_cons] at hk
      by_cases e0 : k = id
      · exact ⟨_, by simp [e0]; rfl⟩
      · obtain ⟨v, hv⟩ := p1 k (hk.resolve_left e0)
        exact ⟨v, by simp [e0, hv]⟩
    · rcases List.mem_cons.1 hb' with rfl | hb'
      · exact ⟨id, _, by simp [pinP], by simp; rfl, by simp [blkOf]⟩
      · obtain ⟨k, v, hk, hv, hbv⟩ := q1 b' hb'
        have hne : k ≠ id := by rintro rfl; rw [hn1] at hv; cases hv
        exact ⟨k, v, by simp only [pinP, List.mem_cons]; exact .inr hk, by simp [hne, hv], hbv⟩
  | .pr t u, vs, x, bs, id, ρ, h, hO, hf => by
    obtain ⟨us, ws, b1, b2, rfl, rfl, hb, h1, h2⟩ := h
    obtain ⟨ρ1, d1, n1, g1, p1, q1⟩ := opnP_ok hz hA t us x.1 b1 id ρ h1 (fun b hb => hO b (List.mem_append_left _ hb)) hf
    obtain ⟨ρ2, d2, n2, g2, p2, q2⟩ := opnP_ok hz hA u ws x.2 b2 (id + t.nsl) ρ1 h2 (fun b hb => hO b (List.mem_append_right _ hb)) (fun k hk => by
      rw [n1.ids k (.inr hk)]; exact hf k (by omega))
    refine ⟨ρ2, (d1.ext n2.ext).append d2, n1.join n2 hb, ⟨us, ws, rfl, h1.len, g1.ext n2.ext, g2⟩, fun k hk => ?_, fun b hb => ?_⟩
    · rcases List.mem_append.1 hk with hk | hk
      · obtain ⟨v, hv⟩ := p1 k hk; exact ⟨v, n2.ext _ _ hv⟩
      · exact p2 k hk
    · rcases List.mem_append.1 hb with hb | hb
      · obtain ⟨k, v, hk, hv, hbv⟩ := q1 b hb; exact ⟨k, v, List.mem_append_left _ hk, n2.ext _ _ hv, hbv⟩
      · obtain ⟨k, v, hk, hv, hbv⟩ := q2 b hb; exact ⟨k, v, List.mem_append_right _ hk, hv, hbv⟩

/-- the same of all parameters -/
def InitA (sh : Bool) (w : World) (ρ : Env) : (l : List (Bool × IT)) → List Value → HI l → Nat → Prop
  | [], _, _, _ => True
  | t :: l, vs, x, id => ∃ v vs', vs = v :: vs' ∧ (∃ us, ValC t.1 us v ∧ us.length = t.2.n ∧ InitP sh w ρ t.2 us x.1 id) ∧ InitA sh w ρ l vs' x.2 (id + t.2.nsl)
theorem opnI_ok {c : Cx} {O1 A : Nat → Prop} {zA : Prop} {w : World} {sh : Bool} (hz : zs c sh → zA) (hA : ∀ b, b < w.heap.size → ¬ A b → ¬ offs c O1 sh b) : ∀ (l : List (Bool × IT)) (vs : List Value) (x : HI l) (bs : List Nat) (s id : Nat) (ρ : Env) (r : List (Nat × AV) × List (Nat × Ent)), RepA zA A w l vs x bs → (∀ b, b ∈ bs → O1 b) → (∀ k, id ≤ k → ρ k = none) → opnI sh l x s id = some r →
    ∃ ρ', Opened c O1 w 0 id (nslI l) bs r.2 ρ ρ' ∧ vs.length = l.length ∧ (∀ t y, look t r.1 = some y → s ≤ t ∧ ∃ v, Den ρ' y v ∧ vs[t - s]? = some v) ∧ InitA sh w ρ' l vs x id ∧ (∀ k, k ∈ pinA true l id → ∃ v, ρ' k = some v) ∧ (∀ b, b ∈ bs → ∃ k v, k ∈ pinA false l id ∧ ρ' k = some v ∧ blkOf v = some b)
  | [], vs, x, bs, s, id, ρ, r, h, _, hf, ho => by
    simp only [opnI, Option.some.injEq] at ho
    subst ho
    obtain ⟨rfl, rfl⟩ := h
    exact ⟨ρ, ⟨Ext.refl _, fun _ _ => rfl, fun k v hv => .inl hv, by simp, by simp, by simp, by simp⟩, rfl, by simp [look], trivial, by simp [pinA], by simp⟩
  | t :: l, vs, x, bs, s, id, ρ, r, h, hO, hf, ho => by
    simp only [opnI] at ho
    split at ho
    · next y r' hy hr' =>
      cases ho
      obtain ⟨v, vs', b1, b2, rfl, rfl, hb, ⟨us, hv, h1⟩, h2⟩ := h
      obtain ⟨ρ1, d1, n1, g1, p1, q1⟩ := opnP_ok hz hA t.2 us x.1 b1 id ρ h1 (fun b hb => hO b (List.mem_append_left _ hb)) hf
      obtain ⟨ρ2, n2, l2, t2, g2, p2, q2⟩ := opnI_ok hz hA l vs' x.2 b2 (s + 1) (id + t.2.nsl) ρ1 r' h2 (fun b hb => hO b (List.mem_append_right _ hb)) (fun k hk => by rw [n1.ids k (.inr hk)]; exact hf k (by omega)) hr'
      have iext : ∀ (l : List (Bool × IT)) {vs : List Value} {x : HI l} {id : Nat} {ρ ρ' : Env}, Ext ρ ρ' → InitA sh w ρ l vs x id → InitA sh w ρ' l vs x id := by
        intro l
        induction l with
        | nil => intro vs x id ρ ρ' _ h; exact h
        | cons t l ih =>
          intro vs x id ρ ρ' hE h
          obtain ⟨v, vs', h1, ⟨us, h2, h3, h4⟩, h5⟩ := h
          exact ⟨v, vs', h1, ⟨us, h2, h3, h4.ext hE⟩, ih hE h5⟩
      refine ⟨ρ2, n1.join n2 hb, by simp [l2], ?_, ⟨v, vs', rfl, ⟨us, hv, h1.len, g1.ext n2.ext⟩, g2⟩, fun k hk => ?_, fun b hb => ?_⟩
      · intro q z hz
        by_cases hq : s = q
        · subst hq
          rw [look_cons_eq] at hz; cases hz
          exact ⟨Nat.le_refl _, v, (comp_ok hy ⟨us, d1, hv⟩).ext n2.ext, by simp⟩
        · rw [look_cons_ne hq] at hz
          obtain ⟨h3, u, h4, h5⟩ := t2 q z hz
          refine ⟨by omega, u, h4, ?_⟩
          rw [show q - s = (q - (s + 1)) + 1 by omega]
          simpa using h5
      · rcases List.mem_append.1 hk with hk | hk
        · obtain ⟨v, hv⟩ := p1 k hk; exact ⟨v, n2.ext _ _ hv⟩
        · exact p2 k hk
      · rcases List.mem_append.1 hb with hb | hb
        · obtain ⟨k, v, hk, hv, hbv⟩ := q1 b hb; exact ⟨k, v, List.mem_append_left _ hk, n2.ext _ _ hv, hbv⟩
        · obtain ⟨k, v, hk, hv, hbv⟩ := q2 b hb; exact ⟨k, v, List.mem_append_right _ hk, hv, hbv⟩
    · cases ho

/-- what has become of a box's cells -/
def updC : (t : TC) → t.D → List A1 → List A1 → Option t.D
  | .i k, _, l0, l => match l0, l with | [_], [.con (.int k' n)] => (bif kb k' k then some n else none) | _, _ => none
  | .b, _, l0, l => match l0, l with | [_], [.con (.bool n)] => some n | _, _ => none
  | .s, _, l0, l => match l0, l with | [_], [.con (.string n)] => some n | _, _ => none
  | .sl _, x, l0, l => match l0, l with | [.ref a], [.ref b] => (bif nb a b then some x else none) | _, _ => none
  | .pr t u, x, l0, l => match updC t x.1 (l0.take t.n) (l.take t.n), updC u x.2 (l0.drop t.n) (l.drop t.n) with
    | some a, some b => some (a, b)
    | _, _ => none
  | .tw t u, x, l0, l => match updC t x.1 (l0.take t.n) (l.take t.n), updC u x.2 (l0.drop t.n) (l.drop t.n) with
    | some a, some b => some (a, b)
    | _, _ => none
theorem opnP_len {sh : Bool} : ∀ (t : IT) (x : t.D) (id : Nat), (opnP sh t x id).1.length = t.n
  | .v t, x, id => opn_len t x sh id
  | .own _ _, _, _ => rfl
  | .bx _, _, _ => rfl
  | .mp _ _ _, _, _ => rfl
  | .bo _, _, _ => rfl
  | .k _, _, _ => rfl
  | .pr t u, x, id => by simp only [opnP, List.length_append, IT.n, opnP_len t, opnP_len u]
/-- what has become of the parameters; fnB: of a box's cells (l0: as they were, l: as they are) and its parts -/
def fnO (en : List (Nat × Ent)) (sh : Bool) (e : Nat) (t : TC) (id : Nat) : Option (List t.D) := match look id en with
  | some (.own e' t' xs fr) => (match teq t' t with | some ⟨h⟩ => (bif nb e' e && (fr || !sh) then some (castD h xs) else none) | none => none)
  | _ => none
def fnM (en : List (Nat × Ent)) (g : Bool) (tk tv : TC) (id : Nat) : Option (List (tk.D × tv.D)) := match look id en with
  | some (.mp g' tk' tv' m) => (match teq tk' tk, teq tv' tv with
    | some ⟨h⟩, some ⟨h'⟩ => (bif eqb g' g && (nb tk.nsl 0 && nb tv.nsl 0) then some (castM h h' m) else none)
    | _, _ => none)
  | _ => none
def sameR (l0 l : List A1) : Bool := match l0, l with | [.ref a], [.ref b] => nb a b | _, _ => false
def fnB (en : List (Nat × Ent)) (sh : Bool) : (t : IT) → t.D → Nat → List A1 → List A1 → Option t.D
  | .v t, x, _, l0, l => bif nb t.nsl 0 then updC t x l0 l else none
  | .own e t, _, id, l0, l => bif sameR l0 l then fnO en sh e t id else none
  | .mp g tk tv, _, id, l0, l => bif sameR l0 l then fnM en g tk tv id else none
  | .pr t u, x, id, l0, l => match fnB en sh t x.1 id (l0.take t.n) (l.take t.n), fnB en sh u x.2 (id + t.nsl) (l0.drop t.n) (l.drop t.n) with
    | some a, some b => some (a, b)
    | _, _ => none
  | .bx _, _, _, _, _ => none
  | .bo _, _, _, _, _ => none
  | .k _, _, _, _, _ => none
def fnU (en : List (Nat × Ent)) (sh : Bool) : (t : IT) → t.D → Nat → Option t.D
  | .v _, x, _ => some x
  | .k _, x, _ => some x
  | .own e t, _, id => fnO en sh e t id
  | .bx t, x, id => match look id en with
    | some (.box l) => updC t x (opn t x sh (id + 1)).1 l
    | _ => none
  | .mp g tk tv, _, id => fnM en g tk tv id
  | .bo t, x, id => match look id en with
    | some (.box l) => fnB en sh t x (id + 1) (opnP sh t x (id + 1)).1 l
    | _ => none
  | .pr t u, x, id => match fnU en sh t x.1 id, fnU en sh u x.2 (id + t.nsl) with
    | some a, some b => some (a, b)
    | _, _ => none
def fnUA (en : List (Nat × Ent)) (sh : Bool) : (l : List (Bool × IT)) → HI l → Nat → Option (HI l)
  | [], _, _ => some ()
  | t :: l, x, id => match fnU en sh t.2 x.1 id, fnUA en sh l x.2 (id + t.2.nsl) with
    | some a, some b => some (a, b)
    | _, _ => none

theorem updC_ok {ρ0 ρ : Env} : ∀ {t : TC} {x : t.D} {id : Nat} {sh : Bool} {l : List A1} {us us' : List Value} {y : t.D}, (∀ k v, id ≤ k → k < id + t.nsl → ρ0 k = some v → ρ k = some v) → DenL ρ0 (opn t x sh id).1 us → DenL ρ l us' → updC t x (opn t x sh id).1 l = some y → Upd t us us' y
  | .i k, x, id, sh, l, us, us', y, _, h0, h, hu => by
    simp only [updC, opn] at hu
    split at hu
    · next k' n _ =>
      cases hk : kb k' k with
      | false => rw [hk] at hu; cases hu
      | true =>
        rw [hk] at hu; cases kb_eq hk; cases hu
        obtain ⟨v, ws, rfl, h1, rfl⟩ := h
        cases h1
        exact ⟨h0.len, rfl⟩
    · cases hu
  | .b, x, id, sh, l, us, us', y, _, h0, h, hu => by
    simp only [updC, opn] at hu
    split at hu
    · cases hu
      obtain ⟨v, ws, rfl, h1, rfl⟩ := h
      cases h1
      exact ⟨h0.len, rfl⟩
    · cases hu
  | .s, x, id, sh, l, us, us', y, _, h0, h, hu => by
    simp only [updC, opn] at hu
    split at hu
    · cases hu
      obtain ⟨v, ws, rfl, h1, rfl⟩ := h
      cases h1
      exact ⟨h0.len, rfl⟩
    · cases hu
  | .sl t, x, id, sh, l, us, us', y, hρ, h0, h, hu => by
    simp only [updC, opn] at hu
    split at hu
    · next a b e1 =>
      simp only [List.cons.injEq, A1.ref.injEq, and_true] at e1
      subst e1
      cases hk : nb id b with
      | false => rw [hk] at hu; cases hu
      | true =>
        have := eq_of_nb hk
        subst this
        obtain ⟨v0, ws0, rfl, h1, rfl⟩ := h0
        obtain ⟨v, ws, rfl, h2, rfl⟩ := h
        simp only [den1] at h1 h2
        rw [hρ id v0 (Nat.le_refl _) (by simp [TC.nsl]) h1] at h2
        cases h2
        exact ⟨rfl, rfl⟩
    · cases hu
  | .pr t u, x, id, sh, l, us, us', y, hρ, h0, h, hu => by
    simp only [updC, opn] at hu
    split at hu
    · next a b ha hb =>
      cases hu
      have hl := opn_len t x.1 sh id
      rw [List.take_left' hl] at ha
      rw [List.drop_left' hl] at hb
      simp only [opn] at h0
      have d1 := h0.take t.n
      have d2 := h0.drop t.n
      rw [List.take_left' hl] at d1
      rw [List.drop_left' hl] at d2
      refine ⟨us.take t.n, us.drop t.n, us'.take t.n, us'.drop t.n, (List.take_append_drop _ _).symm, (List.take_append_drop _ _).symm, ?_, ?_⟩
      · exact updC_ok (fun k v h1 h2 => hρ k v h1 (by simp [TC.nsl]; omega)) d1 (h.take _) ha
      · exact updC_ok (fun k v h1 h2 => hρ k v (by omega) (by simp [TC.nsl]; omega)) d2 (h.drop _) hb
    · cases hu
  | .tw t u, x, id, sh, l, us, us', y, hρ, h0, h, hu => by
    simp only [updC, opn] at hu
    split at hu
    · next a b ha hb =>
      cases hu
      have hl := opn_len t x.1 sh id
      rw [List.take_left' hl] at ha
      rw [List.drop_left' hl] at hb
      simp only [opn] at h0
      have d1 := h0.take t.n
      have d2 := h0.drop t.n
      rw [List.take_left' hl] at d1
      rw [List.drop_left' hl] at d2
      refine ⟨us.take t.n, us.drop t.n, us'.take t.n, us'.drop t.n, (List.take_append_drop _ _).symm, (List.take_append_drop _ _).symm, ?_, ?_⟩
      · exact updC_ok (fun k v h1 h2 => hρ k v h1 (by simp [TC.nsl]; omega)) d1 (h.take _) ha
      · exact updC_ok (fun k v h1 h2 => hρ k v (by omega) (by simp [TC.nsl]; omega)) d2 (h.drop _) hb
    · cases hu
section
variable {C : Ctx} {c : Cx} {N O1 : Nat → Prop} {ρ ρ0 : Env} {S : St} {a : Act} {w0 w : World} {sh : Bool} {A : Nat → Prop} {zA : Prop} (hzA : zA → sh = true ∧ c.z0) (h : Conc c N O1 ρ S a w) (hA : ∀ b fr, (sh = true → fr = true) → ¬ offs c O1 fr b → ¬ A b)
include hzA h hA
theorem fnO_ok {e id : Nat} {t : TC} {v : Value} {y : List t.D} (hv : ρ id = some v) (hu : fnO S.en sh e t id = some y) : RepU zA A w0 w (.own e t) [v] y := by
  unfold fnO at hu
  split at hu
  · next e' t' xs fr hl =>
    split at hu
    · next g _ =>
      subst g
      cases hb : nb e' e && (fr || !sh) with
      | false => rw [hb] at hu; cases hu
      | true =>
        rw [hb] at hu
        simp only [castD, cast_eq, cond_true, Option.some.injEq] at hu
        subst hu
        simp only [Bool.and_eq_true] at hb
        have := eq_of_nb hb.1
        subst this
        obtain ⟨v', cs, e1, e2, e3, e4, e5⟩ := h.en id _ hl
        rw [hv] at e1
        cases e1
        refine ⟨v, cs, rfl, e2, fun i z hz => (e5 i z hz).move (fun k => ⟨by have hs := (hzA k).1; rw [hs] at hb; simpa using hb.2, (hzA k).2⟩) fun b _ hn => ⟨hA b fr (fun hs => ?_) hn, rfl⟩⟩
        rw [hs] at hb; simpa using hb.2
    · cases hu
  · cases hu
omit hzA hA in
theorem fnM_ok {g : Bool} {tk tv : TC} {id : Nat} {v : Value} {y : List (tk.D × tv.D)} (hv : ρ id = some v) (hu : fnM S.en g tk tv id = some y) : RepU zA A w0 w (.mp g tk tv) [v] y := by
  unfold fnM at hu
  split at hu
  · next g' tk' tv' m hl =>
    split at hu
    · next e1 e2 _ _ =>
      subst e1; subst e2
      cases hb : eqb g' g && (nb tk'.nsl 0 && nb tv'.nsl 0) with
      | false => rw [hb] at hu; cases hu
      | true =>
        rw [hb] at hu
        simp only [castM, cast_eq, cond_true, Option.some.injEq] at hu
        subst hu
        simp only [Bool.and_eq_true] at hb
        have := eqb_eq hb.1
        subst this
        obtain ⟨b, es, cl, q1, q2, q3, q4⟩ := h.en id _ hl
        rw [hv] at q1; cases q1
        exact ⟨b, es, cl, rfl, q3, q4.flat (eq_of_nb hb.2.1) (eq_of_nb hb.2.2)⟩
    · cases hu
  · cases hu
omit hzA h hA in
theorem sameR_ok {l0 l : List A1} {us us' : List Value} (hk : sameR l0 l = true) (hρ : ∀ a v, l0 = [.ref a] → ρ0 a = some v → ρ a = some v) (h0 : DenL ρ0 l0 us) (h1 : DenL ρ l us') : us.length = 1 ∧ us' = us := by
  unfold sameR at hk
  split at hk
  · next a b =>
    have := eq_of_nb hk
    subst this
    obtain ⟨v0, ws0, rfl, q1, rfl⟩ := h0
    obtain ⟨v, ws, rfl, q2, rfl⟩ := h1
    simp only [den1] at q1 q2
    rw [hρ a v0 rfl q1] at q2
    cases q2
    exact ⟨rfl, rfl⟩
  · cases hk
theorem fnB_ok : ∀ (t : IT) (vs vs' : List Value) (x y : t.D) (id : Nat) (l : List A1), (∀ k v, k ∈ pinP true t id → ρ0 k = some v → ρ k = some v) → vs.length = t.n → DenL ρ0 (opnP sh t x id).1 vs → DenL ρ l vs' → InitP sh w0 ρ0 t vs x id → fnB S.en sh t x id (opnP sh t x id).1 l = some y → UpdI t vs vs' y ∧ RepU zA A w0 w t vs y
  | .v t, vs, vs', x, y, id, l, hρ, hl, h0, h1, hi, hu => by
    simp only [fnB] at hu
    cases hb : nb t.nsl 0 with
    | false => rw [hb] at hu; cases hu
    | true =>
      rw [hb] at hu
      have hz := eq_of_nb hb
      exact ⟨updC_ok (fun k v q1 q2 => by omega) h0 h1 hu, trivial⟩
  | .own e t, vs, vs', x, y, id, l, hρ, hl, h0, h1, hi, hu => by
    simp only [fnB] at hu
    cases hb : sameR (opnP sh (.own e t) x id).1 l with
    | false => rw [hb] at hu; cases hu
    | true =>
      rw [hb] at hu
      obtain ⟨v, rfl, hv⟩ := hi
      have hv' := hρ id v (by simp [pinP]) hv
      exact ⟨sameR_ok hb (fun a u e1 hu => hρ a u (by simp [opnP] at e1; simp [pinP, e1]) hu) h0 h1, fnO_ok hzA h hA hv' hu⟩
  | .mp g tk tv, vs, vs', x, y, id, l, hρ, hl, h0, h1, hi, hu => by
    simp only [fnB] at hu
    cases hb : sameR (opnP sh (.mp g tk tv) x id).1 l with
    | false => rw [hb] at hu; cases hu
    | true =>
      rw [hb] at hu
      obtain ⟨v, rfl, hv⟩ := hi
      have hv' := hρ id v (by simp [pinP]) hv
      exact ⟨sameR_ok hb (fun a u e1 hu => hρ a u (by simp [opnP] at e1; simp [pinP, e1]) hu) h0 h1, fnM_ok h hv' hu⟩
  | .pr t u, vs, vs', x, y, id, l, hρ, hl, h0, h1, hi, hu => by
    simp only [fnB] at hu
    split at hu
    · next p q hp hq =>
      cases hu
      obtain ⟨us, ws, rfl, hul, i1, i2⟩ := hi
      have hlen : (opnP sh t x.1 id).1.length = t.n := opnP_len t x.1 id
      simp only [opnP] at h0 hp hq
      rw [List.take_left' hlen] at hp
      rw [List.drop_left' hlen] at hq
      have d1 := h0.take t.n
      have d2 := h0.drop t.n
      rw [List.take_left' hlen, List.take_left' hul] at d1
      rw [List.drop_left' hlen, List.drop_left' hul] at d2
      obtain ⟨a1, a2⟩ := fnB_ok t us (vs'.take t.n) x.1 p id (l.take t.n) (fun k v hk => hρ k v (List.mem_append_left _ hk)) hul d1 (h1.take _) i1 hp
      obtain ⟨b1, b2⟩ := fnB_ok u ws (vs'.drop t.n) x.2 q _ (l.drop t.n) (fun k v hk => hρ k v (List.mem_append_right _ hk)) (by simp [IT.n] at hl; omega) d2 (h1.drop _) i2 hq
      exact ⟨⟨us, ws, _, _, rfl, (List.take_append_drop _ _).symm, hul, a1, b1⟩, us, ws, rfl, hul, a2, b2⟩
    · cases hu
  | .bx _, _, _, _, _, _, _, _, _, _, _, _, hu => by simp [fnB] at hu
  | .bo _, _, _, _, _, _, _, _, _, _, _, _, hu => by simp [fnB] at hu
  | .k _, _, _, _, _, _, _, _, _, _, _, _, hu => by simp [fnB] at hu
theorem fnU_ok : ∀ (t : IT) (vs : List Value) (x y : t.D) (id : Nat), (∀ k v, k ∈ pinP true t id → ρ0 k = some v → ρ k = some v) → InitP sh w0 ρ0 t vs x id → fnU S.en sh t x id = some y → RepU zA A w0 w t vs y
  | .v _, _, _, _, _, _, _, _ => trivial
  | .k _, _, _, _, _, _, _, _ => trivial
  | .own e t, vs, x, y, id, hρ, hi, hu => by
    obtain ⟨v, rfl, hv⟩ := hi
    exact fnO_ok hzA h hA (hρ id v (by simp [pinP]) hv) hu
  | .mp g tk tv, vs, x, y, id, hρ, hi, hu => by
    obtain ⟨v, rfl, hv⟩ := hi
    exact fnM_ok h (hρ id v (by simp [pinP]) hv) hu
  | .bo t, vs, x, y, id, hρ, hi, hu => by
    obtain ⟨b, e, us, rfl, hv, hh, hl, hd, hi⟩ := hi
    simp only [fnU] at hu
    split at hu
    · next l hlk =>
      obtain ⟨b', e', us', e1, e2, e3, e4, e5⟩ := h.en id _ hlk
      rw [hρ id _ (by simp [pinP]) hv] at e1
      simp only [Option.some.injEq, Value.pointer.injEq, Addr.mk.injEq, and_true] at e1
      subst e1
      obtain ⟨a1, a2⟩ := fnB_ok hzA h hA t us us' x y (id + 1) l (fun k v hk => hρ k v (by simp only [pinP, List.mem_cons]; exact .inr hk)) hl hd e3 hi hu
      exact ⟨b, e, e', us, us', rfl, hh, e5, e4, hl, a1, a2⟩
    · cases hu
  | .bx t, vs, x, y, id, hρ, hi, hu => by
    obtain ⟨b, e, us, rfl, hv, hh, hd⟩ := hi
    simp only [fnU] at hu
    split at hu
    · next l hl =>
      obtain ⟨b', e', us', e1, e2, e3, e4, e5⟩ := h.en id _ hl
      rw [hρ id _ (by simp [pinP, upTo_mem]; omega) hv] at e1
      simp only [Option.some.injEq, Value.pointer.injEq, Addr.mk.injEq, and_true] at e1
      subst e1
      refine ⟨b, e, e', us, us', rfl, hh, e5, e4, updC_ok (fun k v h1 h2 hk => hρ k v ?_ hk) hd e3 hu⟩
      simp only [pinP, cond_true, upTo_mem]
      omega
    · cases hu
  | .pr t u, vs, x, y, id, hρ, hi, hu => by
    obtain ⟨us, ws, rfl, hl, h1, h2⟩ := hi
    simp only [fnU] at hu
    split at hu
    · next p q hp hq =>
      cases hu
      exact ⟨us, ws, rfl, hl, fnU_ok t us x.1 p id (fun k v hk => hρ k v (List.mem_append_left _ hk)) h1 hp, fnU_ok u ws x.2 q _ (fun k v hk => hρ k v (List.mem_append_right _ hk)) h2 hq⟩
    · cases hu
theorem fnUA_ok : ∀ (l : List (Bool × IT)) (vs : List Value) (x y : HI l) (id : Nat), (∀ k v, k ∈ pinA true l id → ρ0 k = some v → ρ k = some v) → InitA sh w0 ρ0 l vs x id → fnUA S.en sh l x id = some y → RepV zA A w0 w l vs y
  | [], _, _, _, _, _, _, _ => trivial
  | t :: l, vs, x, y, id, hρ, hi, hu => by
    obtain ⟨v, vs', rfl, ⟨us, h1, h2, h3⟩, h4⟩ := hi
    simp only [fnUA] at hu
    split at hu
    · next p q hp hq =>
      cases hu
      exact ⟨v, vs', rfl, ⟨us, h1, h2, fnU_ok hzA h hA t.2 us x.1 p id (fun k v hk => hρ k v (List.mem_append_left _ hk)) h3 hp⟩, fnUA_ok l vs' x.2 q _ (fun k v hk => hρ k v (List.mem_append_right _ hk)) h4 hq⟩
    · cases hu
end
end Go.Proofs.Ytgbfcjnkohhfoaa
