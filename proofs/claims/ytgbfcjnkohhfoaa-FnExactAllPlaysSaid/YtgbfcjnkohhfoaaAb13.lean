/-
  The abstract machine, part 13: regions in the order of the text, loops, code.
  The abstract machine, part 14: regions that draw their order: one walk in the order of the text, each operation seeing only what comes before it in every order.
  The abstract machine, part 15: the walk over a region that draws its order.
-/
import Derived.Test.YtgbfcjnkohhfoaaAbO
namespace Go.Proofs.Ytgbfcjnkohhfoaa
open Go.RowKit

theorem Conc.monoN {c : Cx} {N N' O1 : Nat → Prop} {ρ : Env} {S : St} {a : Act} {w : World} (h : Conc c N O1 ρ S a w) (hN : ∀ k, N' k → N k) : Conc c N' O1 ρ S a w :=
  { h with nx := fun k hk => h.nx k (hN k hk) }
theorem Conc.putSame {c : Cx} {N O1 : Nat → Prop} {ρ : Env} {S : St} {a : Act} {w : World} (h : Conc c N O1 ρ S a w) {t : Nat} {x : AV} {v : Value} (ht : a.tmps[t]? = some v) (hx : Den ρ x v) : Conc c N O1 ρ { S with tm := (t, x) :: S.tm } a w := by
  refine { h with tm := fun t' y hy => ?_ }
  by_cases e : t = t'
  · subst e
    simp only [look_cons_eq, Option.some.injEq] at hy
    subst hy
    exact ⟨v, hx, ht⟩
  · simp only [look_cons_ne e] at hy
    exact h.tm t' y hy
theorem Conc.drew {c : Cx} {N O1 : Nat → Prop} {ρ : Env} {S : St} {a : Act} {w : World} (h : Conc c N O1 ρ S a w) : Conc c N O1 ρ S a { w with drawn := w.drawn + 1 } := by
  refine { h with en := fun k e he => (h.en k e he).move (Ext.refl _) (fun b _ hn => ⟨hn, rfl⟩) (fun ho v b hv hb => ?_), eff := ⟨h.eff.os, h.eff.tape, h.eff.output, h.eff.size, h.eff.block⟩ }
  obtain ⟨v', hv', h'⟩ := (h.en k e he).val ho
  rw [hv] at hv'; cases hv'
  exact ⟨(h' b hb).1, rfl⟩

def nth {α : Type} : List α → Nat → Option α
  | [], _ => none
  | x :: l, i => match i with | 0 => some x | i + 1 => nth l i
theorem nth_eq {α : Type} : ∀ (l : List α) (i : Nat), nth l i = l[i]?
  | [], _ => by simp [nth]
  | x :: l, 0 => by simp [nth]
  | x :: l, i + 1 => by simp [nth, nth_eq l i]

def bt (b : Bool) : AV := .one (.con (.bool b))
/-- whether an operation is wanted: the two ways -/
def vguard (ops : List Oper) (o : Oper) (S : St) (yes no : St → Prop) : Prop :=
  match o.guard with
  | none => yes S
  | some (g, want) => match (nth ops g).bind (·.dst) with
    | some t => (match look t S.tm with
      | some (.one (.con v)) => (match v with
        | .bool b => bsp b (bif want then yes { S with tm := (t, bt true) :: S.tm } else no { S with tm := (t, bt true) :: S.tm }) (bif want then no { S with tm := (t, bt false) :: S.tm } else yes { S with tm := (t, bt false) :: S.tm })
        | _ => no S)
      | _ => False)
    | none => False
def okDst (C : Ctx) (d : Option Nat) : Bool := match d with | none => true | some d => nlt d C.n
def vops (C : Ctx) (cs : List (Nat × Con)) (ops : List Oper) : List Oper → St → Nat → (St → Nat → Prop) → Prop
  | [], S, nx, K => K S nx
  | o :: l, S, nx, K => bif okDst C o.dst then
      vguard ops o S (fun S' => aopF C cs S' nx o.op fun δ => vops C cs ops l (S'.add o.dst δ) (nx + 16) K) (fun S' => vops C cs ops l (S'.add o.dst ⟨.one (.con undef), []⟩) nx K)
    else False

theorem vguard_ok {c : Cx} {N O1 : Nat → Prop} {ρ : Env} {S : St} {a : Act} {w : World} (h : Conc c N O1 ρ S a w) {ops : Array Oper} {o : Oper} {yes no : St → Prop} (hv : vguard ops.toList o S yes no) :
    ∃ S', Conc c N O1 ρ S' a w ∧ ((Region.wanted o (yielded ops a.tmps) = true ∧ yes S') ∨ (Region.wanted o (yielded ops a.tmps) = false ∧ no S')) := by
  unfold vguard at hv
  split at hv
  · next hg => exact ⟨S, h, .inl ⟨by simp [Region.wanted, hg], hv⟩⟩
  · next g want hg =>
    split at hv
    · next t ht =>
      have ht' : (ops[g]?).bind (·.dst) = some t := by rw [nth_eq] at ht; simpa using ht
      split at hv
      · next v hl =>
        obtain ⟨u, hu, hut⟩ := h.tm t _ hl
        simp only [Den, den1, Option.some.injEq] at hu
        subst hu
        have hw : Region.wanted o (yielded ops a.tmps) = (yielded ops a.tmps g == some want) := by simp [Region.wanted, hg]
        split at hv
        · next b =>
          have hy : yielded ops a.tmps g = some b := by simp [yielded, ht', hut]
          rw [hw, hy]
          cases b with
          | true =>
            simp only [bsp_t] at hv
            refine ⟨_, h.putSame hut (x := bt true) rfl, ?_⟩
            cases want with
            | true => exact .inl ⟨rfl, hv⟩
            | false => exact .inr ⟨rfl, hv⟩
          | false =>
            simp only [bsp_f] at hv
            refine ⟨_, h.putSame hut (x := bt false) rfl, ?_⟩
            cases want with
            | true => exact .inr ⟨rfl, hv⟩
            | false => exact .inl ⟨rfl, hv⟩
        · next hnb =>
          have hy : yielded ops a.tmps g = none := by
            simp only [yielded, ht', Option.bind_some, hut]
            cases v <;> first | rfl | exact (hnb _ rfl).elim
          refine ⟨S, h, .inr ⟨?_, hv⟩⟩
          rw [hw, hy]; rfl
      · exact hv.elim
    · exact hv.elim

theorem okDst_ok [B : Base] {C : Ctx} {c : Cx} (hC : CtxOk C c) {d : Option Nat} (h : okDst C d = true) : ∀ t, d = some t → t < c.n := by
  rintro t rfl
  simp only [okDst] at h
  rw [hC.n]
  exact lt_of_nlt h

theorem conc_op {c : Cx} {N O1 O1' : Nat → Prop} {ρ ρ' : Env} {S : St} {a : Act} {w w' : World} {i0 : Nat} {o : Oper} {δ : Dl} {v : Value} (h : Conc c N O1 ρ S a w) (hN : ∀ k, i0 ≤ k → k < i0 + 16 → N k) (hd : ∀ d, o.dst = some d → d < c.n)
    (hup : ∀ k e, (k, e) ∈ δ.en → (i0 ≤ k ∧ k < i0 + 16) ∨ ∃ e0, look k S.en = some e0 ∧ isOwn e0 = true) (hv : Den ρ' δ.val v) (hs : StepTo c i0 δ.en O1 ρ w O1' ρ' w') :
    Conc c (fun k => N k ∧ (k < i0 ∨ i0 + 16 ≤ k)) O1' ρ' (S.add o.dst δ) (a.put o.dst v) w' :=
  conc_step h hs hv hd fun k e v' he hk => (hup k e he).elim (fun hr => by rw [h.nx k (hN k hr.1 hr.2)] at hk; cases hk) id

theorem vops_ok [B : Base] {C : Ctx} {c : Cx} {cs : List (Nat × Con)} (hC : CtxOk C c) (hcs : CsOk C cs) {ops : Array Oper} {K : St → Nat → Prop} {Q : Exit → Act → World → Prop}
    (hQ : ∀ S' nx' O1' ρ' a' w', Conc c (nx' ≤ ·) O1' ρ' S' a' w' → K S' nx' → Q .normal a' w') :
    ∀ (l : List Oper) (i : Nat) (S : St) (nx : Nat) (O1 : Nat → Prop) (ρ : Env) (a : Act) (w : World), (∀ j o, l[j]? = some o → ops[i + j]? = some o) → vops C cs ops.toList l S nx K → Conc c (nx ≤ ·) O1 ρ S a w →
      wpOps c.P ops Q (List.range' i l.length) a w
  | [], i, S, nx, O1, ρ, a, w, _, hv, hc => by
    simp only [List.length_nil, List.range'_zero, wpOps]
    exact hQ S nx O1 ρ a w hc hv
  | o :: l, i, S, nx, O1, ρ, a, w, hi, hv, hc => by
    have ho : ops[i]? = some o := by simpa using hi 0 o rfl
    have hl : ∀ j o', l[j]? = some o' → ops[i + 1 + j]? = some o' := fun j o' hj => by rw [show i + 1 + j = i + (j + 1) by omega]; exact hi (j + 1) o' (by simpa using hj)
    simp only [vops] at hv
    cases hd : okDst C o.dst with
    | false => rw [hd] at hv; exact hv.elim
    | true =>
      rw [hd] at hv
      simp only [cond_true] at hv
      simp only [List.length_cons, List.range'_succ, wpOps, ho]
      obtain ⟨S', hc', hy | hn⟩ := vguard_ok hc hv
      · obtain ⟨hw, hy⟩ := hy
        rw [if_pos hw]
        refine .inl ?_
        obtain ⟨δ, hok, hK⟩ := aopF_ok hC hcs hy
        refine hok.2 _ O1 ρ a w hc' (fun k h1 h2 => hc'.nx k h1) _ _ ?_
        intro O1' ρ' v w' hv' hst
        have := conc_op hc' (fun k h1 _ => h1) (okDst_ok hC hd) hok.1 hv' hst
        exact vops_ok hC hcs hQ l (i + 1) _ _ O1' ρ' _ w' hl hK (this.monoN fun k (hk : nx + 16 ≤ k) => ⟨by omega, by omega⟩)
      · obtain ⟨hw, hn⟩ := hn
        rw [if_neg (by simp [hw])]
        have h1 := conc_step (δ := ⟨.one (.con undef), []⟩) (dst := o.dst) (v := undef) hc' (StepTo.refl hc' nx) rfl (okDst_ok hC hd) (by simp)
        have h2 := vops_ok hC hcs hQ l (i + 1) _ nx O1 ρ _ w hl hn { h1 with nx := hc'.nx }
        exact h2
end Go.Proofs.Ytgbfcjnkohhfoaa

namespace Go.Proofs.Ytgbfcjnkohhfoaa
open Go.RowKit

/-- of each operation of a region: those that come before it in every order; those that are not ordered with it; entries that it must not see -/
structure DA where
  bf : List (List Nat)
  un : List (List Nat)
  hd : List (List Nat)

def at2 (l : List (List Nat)) (i : Nat) : List Nat := match nth l i with | some x => x | none => []

abbrev Dd := Option Nat × Dl
def addD (p : Nat → Bool) : Nat → List Dd → St → St
  | _, [], S => S
  | j, x :: ds, S => addD p (j + 1) ds (bif p j then S.add x.1 x.2 else S)
def keys : List (Nat × Ent) → List Nat
  | [] => []
  | x :: l => x.1 :: keys l
def hide (l : List Nat) (S : St) : St := match l with | [] => S | _ :: _ => { S with en := S.en.filter fun p => !memb p.1 l }
def Rst (A : DA) (S : St) (ds : List Dd) (i : Nat) : St := hide (at2 A.hd i) (addD (fun j => memb j (at2 A.bf i)) 0 ds S)

theorem look_keys {k : Nat} {e : Ent} : ∀ {l : List (Nat × Ent)}, look k l = some e → k ∈ keys l
  | [], h => by simp [look] at h
  | (k', e') :: l, h => by
    by_cases hk : k' = k
    · subst hk; simp [keys]
    · rw [look_cons_ne hk] at h; simp [keys, look_keys h]
theorem look_nokeys {k : Nat} : ∀ {l : List (Nat × Ent)}, k ∉ keys l → look k l = none
  | [], _ => rfl
  | (k', e') :: l, h => by
    simp only [keys, List.mem_cons, not_or] at h
    rw [look_cons_ne (fun e => h.1 e.symm)]
    exact look_nokeys h.2
theorem keys_look {k : Nat} : ∀ {l : List (Nat × Ent)}, k ∈ keys l → ∃ e, look k l = some e
  | (k', e') :: l, h => by
    by_cases hk : k' = k
    · subst hk; exact ⟨e', look_cons_eq⟩
    · rw [look_cons_ne hk]
      simp only [keys, List.mem_cons] at h
      exact keys_look (h.resolve_left fun e => hk e.symm)
theorem mem_keys {k : Nat} {e : Ent} : ∀ {l : List (Nat × Ent)}, (k, e) ∈ l → k ∈ keys l
  | (k', e') :: l, h => by
    simp only [List.mem_cons, Prod.mk.injEq] at h
    simp only [keys, List.mem_cons]
    exact h.imp (·.1) mem_keys

theorem add_tm {S : St} {x : Dd} {t : Nat} (h : x.1 ≠ some t) : look t (S.add x.1 x.2).tm = look t S.tm := by
  cases hx : x.1 with
  | none => rfl
  | some d => exact look_cons_ne (by rintro rfl; exact h hx)
theorem add_en {S : St} {x : Dd} {u : Nat} (h : u ∉ keys x.2.en) : look u (S.add x.1 x.2).en = look u S.en := by
  simp [St.add, look_append, look_nokeys h]
theorem add_en_in {S : St} {x : Dd} {u : Nat} (h : u ∈ keys x.2.en) : look u (S.add x.1 x.2).en = look u x.2.en := by
  obtain ⟨e, he⟩ := keys_look h
  simp [St.add, look_append, he]

theorem addD_tm_same {p q : Nat → Bool} {t : Nat} : ∀ (ds : List Dd) (j : Nat) (S S' : St), look t S.tm = look t S'.tm → (∀ i x, ds[i]? = some x → p (j + i) ≠ q (j + i) → x.1 ≠ some t) →
    look t (addD p j ds S).tm = look t (addD q j ds S').tm
  | [], _, _, _, h, _ => h
  | x :: ds, j, S, S', h, hd => by
    simp only [addD]
    refine addD_tm_same ds (j + 1) _ _ ?_ (fun i y hy => by have := hd (i + 1) y (by simpa using hy); rwa [show j + (i + 1) = j + 1 + i by omega] at this)
    have h0 := hd 0 x rfl
    simp only [Nat.add_zero] at h0
    have e : ∀ S1 S2 : St, look t S1.tm = look t S2.tm → look t (S1.add x.1 x.2).tm = look t (S2.add x.1 x.2).tm := by
      intro S1 S2 h12
      cases hx : x.1 with
      | none => exact h12
      | some d =>
        by_cases hdt : d = t
        · subst hdt; simp [St.add, look_cons_eq]
        · simp [St.add, look_cons_ne hdt, h12]
    cases hp : p j <;> cases hq : q j <;> simp only [cond_true, cond_false]
    · exact h
    · rw [add_tm (h0 (by simp [hp, hq]))]; exact h
    · rw [add_tm (h0 (by simp [hp, hq]))]; exact h
    · exact e _ _ h
theorem addD_en_same {p q : Nat → Bool} {u : Nat} : ∀ (ds : List Dd) (j : Nat) (S S' : St), look u S.en = look u S'.en → (∀ i x, ds[i]? = some x → p (j + i) ≠ q (j + i) → u ∉ keys x.2.en) →
    look u (addD p j ds S).en = look u (addD q j ds S').en
  | [], _, _, _, h, _ => h
  | x :: ds, j, S, S', h, hd => by
    simp only [addD]
    refine addD_en_same ds (j + 1) _ _ ?_ (fun i y hy => by have := hd (i + 1) y (by simpa using hy); rwa [show j + (i + 1) = j + 1 + i by omega] at this)
    have h0 := hd 0 x rfl
    simp only [Nat.add_zero] at h0
    cases hp : p j <;> cases hq : q j <;> simp only [cond_true, cond_false]
    · exact h
    · rw [add_en (h0 (by simp [hp, hq]))]; exact h
    · rw [add_en (h0 (by simp [hp, hq]))]; exact h
    · by_cases hu : u ∈ keys x.2.en
      · rw [add_en_in hu, add_en_in hu]
      · rw [add_en hu, add_en hu]; exact h
theorem addD_append (p : Nat → Bool) : ∀ (ds es : List Dd) (j : Nat) (S : St), addD p j (ds ++ es) S = addD p (j + ds.length) es (addD p j ds S)
  | [], _, _, _ => rfl
  | x :: ds, es, j, S => by
    simp only [List.cons_append, addD, addD_append p ds es, List.length_cons]
    congr 1; omega
theorem addD_tm_src {p : Nat → Bool} {t : Nat} {y : AV} : ∀ (ds : List Dd) (j : Nat) (S : St), look t (addD p j ds S).tm = some y → look t S.tm = some y ∨ ∃ i x, ds[i]? = some x ∧ p (j + i) = true ∧ x.1 = some t
  | [], _, _, h => .inl h
  | x :: ds, j, S, h => by
    simp only [addD] at h
    rcases addD_tm_src ds (j + 1) _ h with h | ⟨i, z, h1, h2, h3⟩
    · cases hp : p j with
      | false => rw [hp] at h; exact .inl h
      | true =>
        rw [hp] at h
        by_cases hx : x.1 = some t
        · exact .inr ⟨0, x, rfl, by simpa using hp, hx⟩
        · simp only [cond_true] at h
          rw [add_tm hx] at h
          exact .inl h
    · exact .inr ⟨i + 1, z, by simpa using h1, by rw [show j + (i + 1) = j + 1 + i by omega]; exact h2, h3⟩

theorem Conc.weaken {c : Cx} {N O1 : Nat → Prop} {ρ : Env} {S S' : St} {a : Act} {w : World} (h : Conc c N O1 ρ S a w) (ht : ∀ t x, look t S'.tm = some x → look t S.tm = some x) (he : ∀ k e, look k S'.en = some e → look k S.en = some e) : Conc c N O1 ρ S' a w :=
  { h with tm := fun t x hx => h.tm t x (ht t x hx), en := fun k e hk => h.en k e (he k e hk),
           ap := fun k k' e e' v v' b hne h1 h2 => h.ap k k' e e' v v' b hne (he k e h1) (he k' e' h2) }

/-- an operation in a state -/
def GoodOp (c : Cx) (ops : Array Oper) (R : St) (i0 i : Nat) (x : Dd) : Prop :=
  ((ops[i]?).map (·.dst) = some x.1 ∧ ∀ d, x.1 = some d → d < c.n) ∧ (∀ k e, (k, e) ∈ x.2.en → (i0 ≤ k ∧ k < i0 + 16) ∨ ∃ e0, look k R.en = some e0 ∧ isOwn e0 = true) ∧
  ∀ N O1 ρ a w, Conc c N O1 ρ R a w → (∀ k, i0 ≤ k → k < i0 + 16 → ρ k = none) → ∀ (Q : Exit → Act → World → Prop) (K : Act → World → Prop),
    (∀ O1' ρ' v w', Den ρ' x.2.val v → StepTo c i0 x.2.en O1 ρ w O1' ρ' w' → K (a.put x.1 v) w') → wpOp c.P ops Q i K a w

theorem look_filter {k : Nat} {e : Ent} (f : Nat → Bool) : ∀ m : List (Nat × Ent), look k (m.filter fun p => f p.1) = some e → look k m = some e
  | [], h => by simp [look] at h
  | (k', e') :: m, h => by
    simp only [List.filter_cons] at h
    by_cases hk : k' = k
    · subst hk
      rw [look_cons_eq]
      split at h
      · rw [look_cons_eq] at h; exact h
      · next hf =>
        exfalso
        have hm := look_mem h
        rw [List.mem_filter] at hm
        exact hf hm.2
    · rw [look_cons_ne hk]
      split at h
      · rw [look_cons_ne hk] at h; exact look_filter f m h
      · exact look_filter f m h
theorem hide_en {l : List Nat} {S : St} {k : Nat} {e : Ent} (h : look k (hide l S).en = some e) : look k S.en = some e := by
  unfold hide at h
  split at h
  · exact h
  · exact look_filter (fun k => !memb k _) S.en h
theorem hide_tm {l : List Nat} {S : St} : (hide l S).tm = S.tm := by unfold hide; split <;> rfl

/-- what the walk in the order of the text has shown -/
structure Fam (c : Cx) (ops : Array Oper) (A : DA) (S : St) (nx : Nat) (ds : List Dd) : Prop where
  len : ds.length = ops.size
  good : ∀ (i : Nat) (x : Dd), ds[i]? = some x → GoodOp c ops (Rst A S ds i) (nx + 16 * i) i x
  bfo : ∀ i j, j ∈ at2 A.bf i → j < i ∧ ∀ o, ops[i]? = some o → ∃ e ∈ o.after, Region.binds .any e = true ∧ (e.on = j ∨ j ∈ at2 A.bf e.on)
  aft : ∀ i o, ops[i]? = some o → ∀ e ∈ o.after, Region.binds .any e = true → e.on < i
  un : ∀ i k, i < ops.size → k < ops.size → i ≠ k → k ∉ at2 A.bf i → i ∉ at2 A.bf k → k ∈ at2 A.un i
  nod : ∀ (i k : Nat) (x y : Dd) (t : Nat), ds[i]? = some x → ds[k]? = some y → x.1 = some t → y.1 = some t → i = k
  fresh : ∀ (i : Nat) (x : Dd) (t : Nat), ds[i]? = some x → at2 A.un i ≠ [] → x.1 = some t → look t S.tm = none
  clash : ∀ (i k : Nat) (x : Dd), ds[k]? = some x → i < ops.size → i ≠ k → k ∈ at2 A.un i → i ∈ at2 A.un k → ∀ u, u ∈ keys x.2.en → look u (Rst A S ds i).en = none

def done (listed : Array Bool) (i : Nat) : Bool := listed.getD i false
def ranges (nx : Nat) (listed : Array Bool) (k : Nat) : Prop := nx ≤ k ∧ ∀ j, done listed j = true → (k < nx + 16 * j ∨ nx + 16 * j + 16 ≤ k)

theorem drawn_ok {c : Cx} {ops : Array Oper} {A : DA} {S : St} {nx : Nat} {ds : List Dd} {Q : Exit → Act → World → Prop} (F : Fam c ops A S nx ds)
    (hQ : ∀ O1 ρ a w, Conc c (nx + 16 * ops.size ≤ ·) O1 ρ (addD (fun _ => true) 0 ds S) a w → Q .normal a w) :
    ∀ (fuel : Nat) (listed : Array Bool) (O1 : Nat → Prop) (ρ : Env) (a : Act) (w : World), listed.size = ops.size → (∀ i, done listed i = true → ∀ j, j ∈ at2 A.bf i → done listed j = true) →
      (fuel = 0 → ∀ i, i < ops.size → done listed i = true) → (List.countP (fun b => !b) listed.toList ≤ fuel) → Conc c (ranges nx listed) O1 ρ (addD (done listed) 0 ds S) a w → wpAny c.P .any ops Q fuel listed a w := by
  -- all done: the whole
  have fin : ∀ (listed : Array Bool) O1 ρ a w, listed.size = ops.size → (∀ i, i < ops.size → done listed i = true) → Conc c (ranges nx listed) O1 ρ (addD (done listed) 0 ds S) a w → Q .normal a w := by
    intro listed O1 ρ a w hs hall hc
    have e : ∀ i x, ds[i]? = some x → ¬ (done listed (0 + i) ≠ (fun _ => true) (0 + i)) := by
      intro i x hx hne
      have : i < ds.length := (List.getElem?_eq_some_iff.1 hx).1
      rw [F.len] at this
      exact hne (by rw [Nat.zero_add]; exact hall i this)
    refine hQ O1 ρ a w ((hc.weaken (S' := addD (fun _ => true) 0 ds S) ?_ ?_).monoN ?_)
    · intro t x hx
      rw [addD_tm_same (q := fun _ => true) ds 0 S S rfl (fun i x hx hne => (e i x hx hne).elim)]; exact hx
    · intro k e' hk
      rw [addD_en_same (q := fun _ => true) ds 0 S S rfl (fun i x hx hne => (e i x hx hne).elim)]; exact hk
    · intro k hk
      refine ⟨by omega, fun j hj => .inr ?_⟩
      have : j < ops.size := by
        rcases Nat.lt_or_ge j ops.size with h | h
        · exact h
        · simp [done, hs, h] at hj
      omega
  -- not all done: something is ready
  have rdy : ∀ listed : Array Bool, listed.size = ops.size → Region.ready .any ops listed = [] → ∀ i, i < ops.size → done listed i = true := by
    intro listed hs hr i
    induction i using Nat.strongRecOn with
    | _ i ih =>
      intro hi
      cases hd : done listed i with
      | true => rfl
      | false =>
        exfalso
        have hmem : i ∈ Region.ready .any ops listed := by
          refine mem_ready.2 ⟨?_, ops[i], by simp [hi], fun e he hb => ?_⟩
          · have : i < listed.size := by omega
            simpa [done, this] using hd
          · have hlt := F.aft i ops[i] (by simp [hi]) e he hb
            exact ih e.on hlt (by omega)
        rw [hr] at hmem; simp at hmem
  intro fuel
  induction fuel with
  | zero =>
    intro listed O1 ρ a w hs hcl h0 _ hc
    refine ⟨?_, fin listed O1 ρ a w hs (h0 rfl) hc⟩
    cases hr : Region.ready .any ops listed with
    | nil => rfl
    | cons i l =>
      exfalso
      have : i ∈ Region.ready .any ops listed := by rw [hr]; simp
      obtain ⟨h1, o, h2, _⟩ := mem_ready.1 this
      have hi : i < ops.size := (Array.getElem?_eq_some_iff.1 h2).1
      have := h0 rfl i hi
      have hi' : i < listed.size := by omega
      simp [done, hi'] at this h1
      rw [this] at h1; cases h1
  | succ fuel ih =>
    intro listed O1 ρ a w hs hcl _ hcnt hc
    refine ⟨fun hr => fin listed O1 ρ a w hs (rdy listed hs hr) hc, fun i hi => ?_⟩
    obtain ⟨hopen, o, ho, hafter⟩ := mem_ready.1 hi
    have hin : i < ops.size := (Array.getElem?_eq_some_iff.1 ho).1
    have hil : i < listed.size := by omega
    have hnd : done listed i = false := by simpa [done, hil] using hopen
    obtain ⟨x, hx⟩ : ∃ x, ds[i]? = some x := ⟨ds[i]'(by rw [F.len]; exact hin), by simp [F.len, hin]⟩
    -- what comes before it is done
    have hbf : ∀ j, j ∈ at2 A.bf i → done listed j = true := by
      intro j hj
      obtain ⟨_, hb⟩ := F.bfo i j hj
      obtain ⟨e, he, hbi, hor⟩ := hb o ho
      have hde : done listed e.on = true := hafter e he hbi
      rcases hor with rfl | hj2
      · exact hde
      · exact hcl e.on hde j hj2
    -- what is done and does not come before it is not ordered with it
    have hun : ∀ k, done listed k = true → k ∉ at2 A.bf i → k ∈ at2 A.un i ∧ i ∈ at2 A.un k := by
      intro k hk hkb
      have hkl : k < ops.size := by
        rcases Nat.lt_or_ge k ops.size with h | h
        · exact h
        · simp [done, hs, h] at hk
      have hne : i ≠ k := by rintro rfl; rw [hnd] at hk; cases hk
      have hki : i ∉ at2 A.bf k := fun h => by have := hcl k hk i h; rw [hnd] at this; cases this
      exact ⟨F.un i k hin hkl hne hkb hki, F.un k i hkl hin (Ne.symm hne) hki hkb⟩
    obtain ⟨⟨hdst, hdn⟩, hup, hgood⟩ := F.good i x hx
    have hle : ∀ t y, look t (Rst A S ds i).tm = some y → look t (addD (done listed) 0 ds S).tm = some y := by
      intro t y hy
      simp only [Rst, hide_tm] at hy
      rw [← hy]
      symm
      refine addD_tm_same ds 0 S S rfl fun q z hz hne hzt => ?_
      simp only [Nat.zero_add] at hne
      have hq : memb q (at2 A.bf i) = false := by
        cases hm : memb q (at2 A.bf i) with
        | false => rfl
        | true => exact (hne (by rw [hm, hbf q (memb_iff.1 hm)])).elim
      have hdq : done listed q = true := by rw [hq] at hne; cases hd : done listed q <;> simp_all
      have huq := hun q hdq (fun h => by rw [memb_iff.2 h] at hq; cases hq)
      have hfr := F.fresh q z t hz (by intro h0; rw [h0] at huq; simp at huq) hzt
      rcases addD_tm_src ds 0 S hy with h | ⟨q', z', h1, h2, h3⟩
      · rw [hfr] at h; cases h
      · have := F.nod q' q z' z t h1 hz h3 hzt
        subst this
        simp only [Nat.zero_add] at h2
        rw [h2] at hq; cases hq
    have hle2 : ∀ u e, look u (Rst A S ds i).en = some e → look u (addD (done listed) 0 ds S).en = some e := by
      intro u e he
      have he' : look u (addD (fun j => memb j (at2 A.bf i)) 0 ds S).en = some e := hide_en he
      rw [← he']
      symm
      refine addD_en_same ds 0 S S rfl fun q z hz hne hzu => ?_
      simp only [Nat.zero_add] at hne
      have hq : memb q (at2 A.bf i) = false := by
        cases hm : memb q (at2 A.bf i) with
        | false => rfl
        | true => exact (hne (by rw [hm, hbf q (memb_iff.1 hm)])).elim
      have hdq : done listed q = true := by rw [hq] at hne; cases hd : done listed q <;> simp_all
      have huq := hun q hdq (fun h => by rw [memb_iff.2 h] at hq; cases hq)
      have := F.clash i q z hz hin (by rintro rfl; rw [hnd] at hdq; cases hdq) huq.1 huq.2 u hzu
      rw [this] at he; cases he
    have hcR := hc.weaken hle hle2
    have hNi : ∀ k, nx + 16 * i ≤ k → k < nx + 16 * i + 16 → ranges nx listed k := by
      intro k h1 h2
      refine ⟨by omega, fun j hj => ?_⟩
      have hne : j ≠ i := by rintro rfl; rw [hnd] at hj; cases hj
      rcases Nat.lt_or_gt_of_ne hne with h | h
      · right; omega
      · left; omega
    refine hgood _ O1 ρ a w hcR (fun k h1 h2 => hc.nx k (hNi k h1 h2)) Q _ ?_
    intro O1' ρ' v w' hv hst
    have hstep := conc_step (dst := x.1) hc hst hv hdn (fun k e v' he hk => by
      rcases hup k e he with h | ⟨e0, h1, h2⟩
      · rw [hc.nx k (hNi k h.1 h.2)] at hk; cases hk
      · exact ⟨e0, hle2 k e0 h1, h2⟩)
    have hd2 : ∀ j, done (listed.setIfInBounds i true) j = if i = j then true else done listed j := by
      intro j
      by_cases h : i = j
      · subst h; simp [done, hil]
      · simp [done, h, Array.getElem?_setIfInBounds_ne h]
    have hsplit : ds = ds.take i ++ x :: ds.drop (i + 1) := by
      have hil2 : i < ds.length := by rw [F.len]; exact hin
      have : ds[i] = x := by simpa [List.getElem?_eq_getElem hil2] using hx
      rw [← this, List.getElem_cons_drop, List.take_append_drop]
    have hlen : (ds.take i).length = i := by simp [F.len]; omega
    have hcset : List.countP (fun b => !b) (listed.setIfInBounds i true).toList + 1 = List.countP (fun b => !b) listed.toList := by
      have hlt : i < listed.toList.length := by simpa using hil
      have hg : listed.toList[i] = false := by simpa [done, hil] using hnd
      have e1 := List.countP_set (p := fun b => !b) (l := listed.toList) (i := i) (a := true) hlt
      have hpos : 0 < List.countP (fun b => !b) listed.toList := List.countP_pos_iff.2 ⟨false, by rw [← hg]; exact List.getElem_mem hlt, rfl⟩
      rw [hg] at e1
      rw [Array.toList_setIfInBounds, e1]
      simp only [Bool.not_false, Bool.not_true, if_true, Bool.false_eq_true, if_false]
      omega
    refine ih _ O1' ρ' _ w' (by simpa using hs) ?_ ?_ ?_ ((hstep.weaken (S' := addD (done (listed.setIfInBounds i true)) 0 ds S) ?_ ?_).monoN ?_)
    · intro k hk j hj
      rw [hd2] at hk ⊢
      split
      · rfl
      · split at hk
        · next e => subst e; exact hbf j hj
        · exact hcl k hk j hj
    · intro h0
      subst h0
      intro k hk
      have hcnt2 : List.countP (fun b => !b) (listed.setIfInBounds i true).toList = 0 := by omega
      have hz := List.countP_eq_zero.1 hcnt2
      have hks : k < (listed.setIfInBounds i true).size := by rw [Array.size_setIfInBounds]; omega
      have hm : (listed.setIfInBounds i true)[k] ∈ (listed.setIfInBounds i true).toList := Array.getElem_mem_toList hks
      have h1 := hz _ hm
      have h2 : done (listed.setIfInBounds i true) k = (listed.setIfInBounds i true)[k] := by
        simp [done, Array.getD_eq_getD_getElem?, Array.getElem?_eq_getElem hks]
      rw [h2]
      simpa using h1
    · omega
    · intro t y hy
      by_cases hxt : x.1 = some t
      · rw [hsplit, addD_append] at hy
        simp only [addD, hlen, Nat.zero_add] at hy
        rw [hd2, if_pos rfl] at hy
        simp only [cond_true] at hy
        have hpost : look t (addD (done (listed.setIfInBounds i true)) (i + 1) (ds.drop (i + 1)) ((addD (done (listed.setIfInBounds i true)) 0 (ds.take i) S).add x.1 x.2)).tm = look t (((addD (done (listed.setIfInBounds i true)) 0 (ds.take i) S).add x.1 x.2)).tm := by
          have := addD_tm_same (p := done (listed.setIfInBounds i true)) (q := fun _ => false) (t := t) (ds.drop (i + 1)) (i + 1) ((addD (done (listed.setIfInBounds i true)) 0 (ds.take i) S).add x.1 x.2) _ rfl (fun q z hz _ hzt => by
            have := F.nod (i + 1 + q) i z x t (by rw [List.getElem?_drop] at hz; exact hz) hx hzt hxt
            omega)
          rw [this]
          have none : ∀ (l : List Dd) (j : Nat) (S : St), addD (fun _ => false) j l S = S := by
            intro l
            induction l with
            | nil => intros; rfl
            | cons z l ih => intro j S; simp [addD, ih]
          rw [none]
        rw [hpost] at hy
        simp only [St.add, hxt, look_cons_eq] at hy ⊢
        exact hy
      · rw [add_tm (x := x) hxt]
        rw [← hy]
        refine addD_tm_same ds 0 S S rfl fun q z hz hne hzt => ?_
        simp only [Nat.zero_add, hd2] at hne
        split at hne
        · next e => subst e; rw [hx] at hz; cases hz; exact hxt hzt
        · exact hne rfl
    · intro u e hu
      by_cases hxu : u ∈ keys x.2.en
      · have hno : ∀ q z, ds[q]? = some z → done listed q = true → i < q → u ∉ keys z.2.en := by
          intro q z hz hdq hlt hzu
          have hqb : q ∉ at2 A.bf i := fun h => by have := (F.bfo i q h).1; omega
          obtain ⟨hu1, hu2⟩ := hun q hdq hqb
          have c1 := F.clash i q z hz hin (by omega) hu1 hu2 u hzu
          have hql : q < ops.size := by have := (List.getElem?_eq_some_iff.1 hz).1; rw [F.len] at this; exact this
          have c2 := F.clash q i x hx hql (by omega) hu2 hu1 u hxu
          obtain ⟨ex, hex⟩ := keys_look hxu
          obtain ⟨ez, hez⟩ := keys_look hzu
          obtain ⟨_, hupq, _⟩ := F.good q z hz
          rcases hup u ex (look_mem hex) with h1 | ⟨e0, h1, _⟩
          · rcases hupq u ez (look_mem hez) with h2 | ⟨e0, h2, _⟩
            · omega
            · rw [c2] at h2; cases h2
          · rw [c1] at h1; cases h1
        rw [hsplit, addD_append] at hu
        simp only [addD, hlen, Nat.zero_add] at hu
        rw [hd2, if_pos rfl] at hu
        simp only [cond_true] at hu
        have hpost : look u (addD (done (listed.setIfInBounds i true)) (i + 1) (ds.drop (i + 1)) ((addD (done (listed.setIfInBounds i true)) 0 (ds.take i) S).add x.1 x.2)).en = look u (((addD (done (listed.setIfInBounds i true)) 0 (ds.take i) S).add x.1 x.2)).en := by
          have := addD_en_same (p := done (listed.setIfInBounds i true)) (q := fun _ => false) (u := u) (ds.drop (i + 1)) (i + 1) ((addD (done (listed.setIfInBounds i true)) 0 (ds.take i) S).add x.1 x.2) _ rfl (fun q z hz hne hzu => by
            simp only [hd2] at hne
            rw [if_neg (by omega)] at hne
            rw [List.getElem?_drop] at hz
            exact hno _ z hz (by cases hd : done listed (i + 1 + q) with | true => rfl | false => exact (hne hd).elim) (by omega) hzu)
          rw [this]
          have none : ∀ (l : List Dd) (j : Nat) (S : St), addD (fun _ => false) j l S = S := by
            intro l
            induction l with
            | nil => intros; rfl
            | cons z l ih => intro j S; simp [addD, ih]
          rw [none]
        rw [hpost, add_en_in (x := x) hxu] at hu
        rw [add_en_in (x := x) hxu]
        exact hu
      · rw [add_en (x := x) hxu]
        rw [← hu]
        refine addD_en_same ds 0 S S rfl fun q z hz hne hzu => ?_
        simp only [Nat.zero_add, hd2] at hne
        split at hne
        · next e => subst e; rw [hx] at hz; cases hz; exact hxu hzu
        · exact hne rfl
    · intro k hk
      obtain ⟨h1, h2⟩ := hk
      have := h2 i (by rw [hd2, if_pos rfl])
      refine ⟨⟨h1, fun j hj => h2 j ?_⟩, this⟩
      rw [hd2]; split
      · rfl
      · exact hj
end Go.Proofs.Ytgbfcjnkohhfoaa

namespace Go.Proofs.Ytgbfcjnkohhfoaa
open Go.RowKit

theorem blt_iff {a b : Nat} : nlt a b = true ↔ a < b := ⟨lt_of_nlt, nlt_of⟩
theorem vguard_case {ops : Array Oper} {o : Oper} {S : St} {yes no : St → Prop} (hv : vguard ops.toList o S yes no) :
    (∃ S', S'.en = S.en ∧ yes S' ∧ ∀ {c : Cx} {N O1 : Nat → Prop} {ρ : Env} {a : Act} {w : World}, Conc c N O1 ρ S a w → Conc c N O1 ρ S' a w ∧ Region.wanted o (yielded ops a.tmps) = true) ∨
    (∃ S', no S' ∧ ∀ {c : Cx} {N O1 : Nat → Prop} {ρ : Env} {a : Act} {w : World}, Conc c N O1 ρ S a w → Region.wanted o (yielded ops a.tmps) = false) := by
  unfold vguard at hv
  split at hv
  · next hg => exact .inl ⟨S, rfl, hv, fun h => ⟨h, by simp [Region.wanted, hg]⟩⟩
  · next g want hg =>
    split at hv
    · next t ht =>
      have ht' : (ops[g]?).bind (·.dst) = some t := by rw [nth_eq] at ht; simpa using ht
      have hw : ∀ a : Act, Region.wanted o (yielded ops a.tmps) = (yielded ops a.tmps g == some want) := fun a => by simp [Region.wanted, hg]
      split at hv
      · next v hl =>
        have hval : ∀ {c : Cx} {N O1 : Nat → Prop} {ρ : Env} {a : Act} {w : World}, Conc c N O1 ρ S a w → a.tmps[t]? = some v := by
          intro c N O1 ρ a w h
          obtain ⟨u, hu, hut⟩ := h.tm t _ hl
          simp only [Den, den1, Option.some.injEq] at hu
          rw [hu]; exact hut
        split at hv
        · next b =>
          have hy : ∀ {c : Cx} {N O1 : Nat → Prop} {ρ : Env} {a : Act} {w : World}, Conc c N O1 ρ S a w → yielded ops a.tmps g = some b := fun h => by simp [yielded, ht', hval h]
          cases b with
          | true =>
            simp only [bsp_t] at hv
            cases want with
            | true => exact .inl ⟨{ S with tm := (t, bt true) :: S.tm }, rfl, hv, fun h => ⟨h.putSame (hval h) (x := bt true) rfl, by rw [hw, hy h]; rfl⟩⟩
            | false => exact .inr ⟨_, hv, fun h => by rw [hw, hy h]; rfl⟩
          | false =>
            simp only [bsp_f] at hv
            cases want with
            | true => exact .inr ⟨_, hv, fun h => by rw [hw, hy h]; rfl⟩
            | false => exact .inl ⟨{ S with tm := (t, bt false) :: S.tm }, rfl, hv, fun h => ⟨h.putSame (hval h) (x := bt false) rfl, by rw [hw, hy h]; rfl⟩⟩
        · next hnb =>
          refine .inr ⟨S, hv, fun h => ?_⟩
          rw [hw]
          simp only [yielded, ht', Option.bind_some, hval h]
          cases v <;> first | rfl | exact (hnb _ rfl).elim
      · exact hv.elim
    · exact hv.elim

def noK : List Nat → List (Nat × Ent) → Bool
  | [], _ => true
  | k :: l, en => (match look k en with | none => noK l en | some _ => false)
theorem noK_ok : ∀ {l : List Nat} {en : List (Nat × Ent)}, noK l en = true → ∀ u, u ∈ l → look u en = none
  | [], _, _, u, hu => by simp at hu
  | k :: l, en, h, u, hu => by
    simp only [noK] at h
    split at h
    · next hk =>
      rcases List.mem_cons.1 hu with rfl | hu
      · exact hk
      · exact noK_ok h u hu
    · cases h
def clashes (A : DA) (S : St) (ds : List Dd) (i : Nat) (x : Dd) : List Nat → Bool
  | [] => true
  | k :: un => (bif nlt k i then noK (keys x.2.en) (Rst A S ds k).en && (match nth ds k with | some y => noK (keys y.2.en) (Rst A S ds i).en | none => false) else true) && clashes A S ds i x un
theorem clashes_ok {A : DA} {S : St} {ds : List Dd} {i : Nat} {x : Dd} : ∀ {un : List Nat}, clashes A S ds i x un = true → ∀ k, k ∈ un → k < i → (∀ u, u ∈ keys x.2.en → look u (Rst A S ds k).en = none) ∧ ∃ y, ds[k]? = some y ∧ ∀ u, u ∈ keys y.2.en → look u (Rst A S ds i).en = none
  | [], _, k, hk, _ => by simp at hk
  | k' :: un, h, k, hk, hki => by
    simp only [clashes, Bool.and_eq_true] at h
    rcases List.mem_cons.1 hk with rfl | hk
    · have hb : nlt k i = true := blt_iff.2 hki
      rw [hb] at h
      simp only [cond_true, Bool.and_eq_true] at h
      refine ⟨noK_ok h.1.1, ?_⟩
      have h2 := h.1.2
      split at h2
      · next y hy => exact ⟨y, by rw [← nth_eq]; exact hy, noK_ok h2⟩
      · cases h2
    · exact clashes_ok h.2 k hk hki
def dstsOf : List Dd → List Nat
  | [] => []
  | (some d, _) :: l => d :: dstsOf l
  | (none, _) :: l => dstsOf l
theorem dstsOf_mem : ∀ {ds : List Dd} {i : Nat} {x : Dd} {t : Nat}, ds[i]? = some x → x.1 = some t → t ∈ dstsOf ds
  | [], _, _, _, h, _ => by simp at h
  | (some d, δ) :: l, 0, x, t, h, ht => by simp at h; subst h; simp at ht; simp [dstsOf, ht]
  | (none, δ) :: l, 0, x, t, h, ht => by simp at h; subst h; simp at ht
  | (some d, δ) :: l, i + 1, x, t, h, ht => by simp only [dstsOf, List.mem_cons]; exact .inr (dstsOf_mem (by simpa using h) ht)
  | (none, δ) :: l, i + 1, x, t, h, ht => by simp only [dstsOf]; exact dstsOf_mem (by simpa using h) ht
def dstNew (A : DA) (S : St) (ds : List Dd) (i : Nat) (d : Option Nat) : Bool :=
  match d with
  | none => true
  | some t => (match at2 A.un i with | [] => true | _ => (match look t S.tm with | none => true | some _ => false)) && !memb t (dstsOf ds)

/-- a guard that has been decided -/
def setD (g : Nat) (b : Bool) : List Dd → List Dd
  | [] => []
  | x :: l => match g with | 0 => (x.1, ⟨bt b, x.2.en⟩) :: l | g + 1 => x :: setD g b l
theorem setD_same {b : Bool} : ∀ {ds : List Dd} {g : Nat} {x : Dd}, nth ds g = some x → x.2.val = bt b → setD g b ds = ds
  | [], g, x, h, _ => by simp [nth] at h
  | y :: l, 0, x, h, hv => by
    simp only [nth, Option.some.injEq] at h
    subst h
    simp only [setD, ← hv]
  | y :: l, g + 1, x, h, hv => by
    simp only [setD]
    rw [setD_same (by simpa [nth] using h) hv]
def presplit (o : Oper) (ds : List Dd) (F : List Dd → Prop) : Prop :=
  match o.guard with
  | none => F ds
  | some (g, _) => match nth ds g with
    | some (_, ⟨.one (.con (.bool b)), _⟩) => bsp b (F (setD g true ds)) (F (setD g false ds))
    | _ => F ds
theorem presplit_ok {o : Oper} {ds : List Dd} {F : List Dd → Prop} (h : presplit o ds F) : F ds := by
  unfold presplit at h
  split at h
  · exact h
  · next g want hg =>
    split at h
    · next d b en hn =>
      cases b with
      | true => rw [bsp_t, setD_same hn rfl] at h; exact h
      | false => rw [bsp_f, setD_same hn rfl] at h; exact h
    · exact h
def vdraw (C : Ctx) (cs : List (Nat × Con)) (ops : List Oper) (A : DA) (S : St) (nx : Nat) : List Oper → Nat → List Dd → (St → Nat → Prop) → Prop
  | [], i, ds, K => K (addD (fun _ => true) 0 ds S) (nx + 16 * i)
  | o :: l, i, ds, K => bif okDst C o.dst && dstNew A S ds i o.dst then
      presplit o ds fun ds => vguard ops o (Rst A S ds i)
        (fun R => aopF C cs R (nx + 16 * i) o.op fun δ => bif clashes A S ds i (o.dst, δ) (at2 A.un i) then vdraw C cs ops A S nx l (i + 1) (ds ++ [(o.dst, δ)]) K else False)
        (fun _ => bif clashes A S ds i (o.dst, ⟨.one (.con undef), []⟩) (at2 A.un i) then vdraw C cs ops A S nx l (i + 1) (ds ++ [(o.dst, ⟨.one (.con undef), []⟩)]) K else False)
    else False

def chkB (ops : List Oper) (A : DA) : Bool :=
  nle A.bf.length ops.length &&
  (List.range ops.length).all fun i => match nth ops i with
    | some o => (at2 A.bf i).all (fun j => nlt j i && o.after.toList.any fun e => Region.binds .any e && (nb e.on j || memb j (at2 A.bf e.on))) &&
        (o.after.toList.all (fun e => !Region.binds .any e || nlt e.on i) &&
        (List.range ops.length).all fun k => nb i k || (memb k (at2 A.bf i) || (memb i (at2 A.bf k) || memb k (at2 A.un i))))
    | none => false

theorem chkB_ok {ops : Array Oper} {A : DA} (h : chkB ops.toList A = true) :
    (∀ i j, j ∈ at2 A.bf i → j < i ∧ ∀ o, ops[i]? = some o → ∃ e ∈ o.after, Region.binds .any e = true ∧ (e.on = j ∨ j ∈ at2 A.bf e.on)) ∧
    (∀ i o, ops[i]? = some o → ∀ e ∈ o.after, Region.binds .any e = true → e.on < i) ∧
    (∀ i k, i < ops.size → k < ops.size → i ≠ k → k ∉ at2 A.bf i → i ∉ at2 A.bf k → k ∈ at2 A.un i) := by
  simp only [chkB, Bool.and_eq_true, List.all_eq_true, List.mem_range] at h
  obtain ⟨hlen, h⟩ := h
  have hlen := le_of_nle hlen
  simp only [Array.length_toList] at hlen h
  have get : ∀ i, i < ops.size → ∃ o, ops[i]? = some o ∧ nth ops.toList i = some o := fun i hi => ⟨ops[i], by simp [hi], by rw [nth_eq]; simp [hi]⟩
  refine ⟨fun i j hj => ?_, fun i o ho e he hb => ?_, fun i k hi hk hne h1 h2 => ?_⟩
  · rcases Nat.lt_or_ge i ops.size with hi | hi
    · obtain ⟨o, ho, hn⟩ := get i hi
      have := h i hi
      rw [hn] at this
      simp only [Bool.and_eq_true, List.all_eq_true] at this
      have := this.1 j hj
      simp only [List.any_eq_true, Bool.and_eq_true, Bool.or_eq_true] at this
      refine ⟨blt_iff.1 this.1, fun o' ho' => ?_⟩
      rw [ho] at ho'; cases ho'
      obtain ⟨e, he, hb, hor⟩ := this.2
      exact ⟨e, Array.mem_toList_iff.1 he, hb, hor.imp eq_of_nb memb_iff.1⟩
    · exfalso
      have : at2 A.bf i = [] := by
        unfold at2
        rw [nth_eq, List.getElem?_eq_none (by omega)]
      rw [this] at hj; simp at hj
  · have hi : i < ops.size := (Array.getElem?_eq_some_iff.1 ho).1
    obtain ⟨o', ho', hn⟩ := get i hi
    rw [ho] at ho'; cases ho'
    have := h i hi
    rw [hn] at this
    simp only [Bool.and_eq_true, List.all_eq_true, Bool.or_eq_true] at this
    have := this.2.1 e (Array.mem_toList_iff.2 he)
    rw [hb] at this
    exact blt_iff.1 (this.resolve_left (by simp))
  · obtain ⟨o, ho, hn⟩ := get i hi
    have := h i hi
    rw [hn] at this
    simp only [Bool.and_eq_true, List.all_eq_true, List.mem_range, Bool.or_eq_true] at this
    rcases this.2.2 k hk with h' | h' | h' | h'
    · exact absurd (eq_of_nb h') hne
    · exact absurd (memb_iff.1 h') h1
    · exact absurd (memb_iff.1 h') h2
    · exact memb_iff.1 h'

theorem Rst_append {A : DA} {S : St} {ds es : List Dd} {i : Nat} (h : ∀ j, j ∈ at2 A.bf i → j < ds.length) : Rst A S (ds ++ es) i = Rst A S ds i := by
  unfold Rst
  rw [addD_append]
  have : ∀ (l : List Dd) (j : Nat) (T : St), ds.length ≤ j → addD (fun j => memb j (at2 A.bf i)) j l T = T := by
    intro l
    induction l with
    | nil => intros; rfl
    | cons x l ih =>
      intro j T hj
      have hm : memb j (at2 A.bf i) = false := by
        cases hm : memb j (at2 A.bf i) with
        | false => rfl
        | true => have := h j (memb_iff.1 hm); omega
      simp only [addD, hm, cond_false]
      exact ih (j + 1) T (by omega)
  rw [this es _ _ (by omega)]

/-- what the walk has shown of the operations so far -/
structure Part (c : Cx) (ops : Array Oper) (A : DA) (S : St) (nx : Nat) (ds : List Dd) : Prop where
  good : ∀ (i : Nat) (x : Dd), ds[i]? = some x → GoodOp c ops (Rst A S ds i) (nx + 16 * i) i x
  nod : ∀ (i k : Nat) (x y : Dd) (t : Nat), ds[i]? = some x → ds[k]? = some y → x.1 = some t → y.1 = some t → i = k
  fresh : ∀ (i : Nat) (x : Dd) (t : Nat), ds[i]? = some x → at2 A.un i ≠ [] → x.1 = some t → look t S.tm = none
  clash : ∀ (i k : Nat) (x y : Dd), ds[i]? = some y → ds[k]? = some x → k ∈ at2 A.un i → i ∈ at2 A.un k → i ≠ k → ∀ u, u ∈ keys x.2.en → look u (Rst A S ds i).en = none

theorem Part.snoc [B : Base] {C : Ctx} {c : Cx} {cs : List (Nat × Con)} {ops : Array Oper} {A : DA} {S : St} {nx : Nat} {ds : List Dd} {o : Oper} {δ : Dl} (hC : CtxOk C c) (p : Part c ops A S nx ds) (hbf : ∀ i j, j ∈ at2 A.bf i → j < i)
    (hd : okDst C o.dst = true) (hn : dstNew A S ds ds.length o.dst = true) (ho : ops[ds.length]? = some o) (hg : GoodOp c ops (Rst A S ds ds.length) (nx + 16 * ds.length) ds.length (o.dst, δ)) (hcl : clashes A S ds ds.length (o.dst, δ) (at2 A.un ds.length) = true) :
    Part c ops A S nx (ds ++ [(o.dst, δ)]) := by
  have _ := hC; have _ := cs; have _ := hd; have _ := ho
  have hR : ∀ i, i ≤ ds.length → Rst A S (ds ++ [(o.dst, δ)]) i = Rst A S ds i := fun i hi => Rst_append fun j hj => by have := hbf i j hj; omega
  have hget : ∀ (i : Nat) (x : Dd), (ds ++ [(o.dst, δ)])[i]? = some x → (i < ds.length ∧ ds[i]? = some x) ∨ (i = ds.length ∧ x = (o.dst, δ)) := by
    intro i x hx
    by_cases hi : i < ds.length
    · rw [List.getElem?_append_left hi] at hx; exact .inl ⟨hi, hx⟩
    · rw [List.getElem?_append_right (by omega)] at hx
      have : i - ds.length = 0 := by
        have := (List.getElem?_eq_some_iff.1 hx).1
        simp at this; omega
      rw [this] at hx
      simp at hx
      exact .inr ⟨by omega, hx.symm⟩
  have hnew : ∀ t, o.dst = some t → (at2 A.un ds.length ≠ [] → look t S.tm = none) ∧ t ∉ dstsOf ds := by
    rintro t ht
    rw [ht] at hn
    simp only [dstNew, Bool.and_eq_true, Bool.not_eq_true'] at hn
    refine ⟨fun hne => ?_, fun hm => ?_⟩
    · have h1 := hn.1
      split at h1
      · next h0 => exact absurd h0 hne
      · split at h1
        · next hl => exact hl
        · cases h1
    · rw [memb_iff.2 hm] at hn; simp at hn
  refine ⟨fun i x hx => ?_, fun i k x y t hx hy h1 h2 => ?_, fun i x t hx hne ht => ?_, fun i k x y hy hx hk hi hne u hu => ?_⟩
  · rcases hget i x hx with ⟨hi, hx⟩ | ⟨rfl, rfl⟩
    · rw [hR i (by omega)]; exact p.good i x hx
    · rw [hR _ (Nat.le_refl _)]; exact hg
  · rcases hget i x hx with ⟨hi, hx⟩ | ⟨rfl, rfl⟩ <;> rcases hget k y hy with ⟨hk, hy⟩ | ⟨rfl, rfl⟩
    · exact p.nod i k x y t hx hy h1 h2
    · exact absurd (dstsOf_mem hx h1) (hnew t h2).2
    · exact absurd (dstsOf_mem hy h2) (hnew t h1).2
    · rfl
  · rcases hget i x hx with ⟨hi, hx⟩ | ⟨rfl, rfl⟩
    · exact p.fresh i x t hx hne ht
    · exact (hnew t ht).1 hne
  · rcases hget i y hy with ⟨hi', hy⟩ | ⟨rfl, rfl⟩ <;> rcases hget k x hx with ⟨hk', hx⟩ | ⟨rfl, rfl⟩
    · rw [hR i (by omega)]; exact p.clash i k x y hy hx hk hi hne u hu
    · rw [hR i (by omega)]
      exact (clashes_ok hcl i hi hi').1 u hu
    · rw [hR _ (Nat.le_refl _)]
      obtain ⟨y', hy', hc⟩ := (clashes_ok hcl k hk hk').2
      rw [hx] at hy'; cases hy'
      exact hc u hu
    · exact absurd rfl hne

theorem vdraw_fam [B : Base] {C : Ctx} {c : Cx} {cs : List (Nat × Con)} (hC : CtxOk C c) (hcs : CsOk C cs) {ops : Array Oper} {A : DA} {S : St} {nx : Nat} {K : St → Nat → Prop} (hA : chkB ops.toList A = true) :
    ∀ (l : List Oper) (ds : List Dd), (∀ j o, l[j]? = some o → ops[ds.length + j]? = some o) → ds.length + l.length = ops.size → Part c ops A S nx ds → vdraw C cs ops.toList A S nx l ds.length ds K →
      ∃ ds', Fam c ops A S nx ds' ∧ K (addD (fun _ => true) 0 ds' S) (nx + 16 * ops.size) := by
  obtain ⟨h1, h2, h3⟩ := chkB_ok hA
  intro l
  induction l with
  | nil =>
    intro ds _ hsz p hv
    simp only [List.length_nil, Nat.add_zero] at hsz
    simp only [vdraw] at hv
    rw [hsz] at hv
    refine ⟨ds, ⟨hsz, p.good, h1, h2, h3, p.nod, p.fresh, fun i k x hx hi hne hk hk' u hu => ?_⟩, hv⟩
    obtain ⟨y, hy⟩ : ∃ y, ds[i]? = some y := ⟨ds[i]'(by omega), by simp⟩
    exact p.clash i k x y hy hx hk hk' hne u hu
  | cons o l ih =>
    intro ds hops hsz p hv
    have ho : ops[ds.length]? = some o := by simpa using hops 0 o rfl
    have hops' : ∀ (x : Dd) (j : Nat) (o' : Oper), l[j]? = some o' → ops[(ds ++ [x]).length + j]? = some o' := fun x j o' hj => by
      rw [List.length_append, List.length_singleton, show ds.length + 1 + j = ds.length + (j + 1) by omega]
      exact hops (j + 1) o' (by simpa using hj)
    simp only [List.length_cons] at hsz
    simp only [vdraw] at hv
    cases hb : okDst C o.dst && dstNew A S ds ds.length o.dst with
    | false => rw [hb] at hv; exact hv.elim
    | true =>
      rw [hb] at hv
      simp only [cond_true] at hv
      simp only [Bool.and_eq_true] at hb
      have hv := presplit_ok hv
      rcases vguard_case hv with ⟨R, hRe, hy, hR⟩ | ⟨R, hn, hR⟩
      · obtain ⟨δ, hok, hK⟩ := aopF_ok hC hcs hy
        cases hcl : clashes A S ds ds.length (o.dst, δ) (at2 A.un ds.length) with
        | false => rw [hcl] at hK; exact hK.elim
        | true =>
          rw [hcl] at hK
          have hg : GoodOp c ops (Rst A S ds ds.length) (nx + 16 * ds.length) ds.length (o.dst, δ) := by
            refine ⟨⟨by simp [ho], okDst_ok hC hb.1⟩, fun k e he => ?_, fun N O1 ρ a w hc hf Q K' hn => ?_⟩
            · rw [← hRe]; exact hok.1 k e he
            · obtain ⟨hc', hw⟩ := hR hc
              unfold wpOp
              simp only [ho, hw, if_true]
              exact .inl (hok.2 N O1 ρ a w hc' hf _ _ hn)
          have := ih (ds ++ [(o.dst, δ)]) (hops' _) (by simp; omega) (p.snoc (cs := cs) hC (fun i j hj => (h1 i j hj).1) hb.1 hb.2 ho hg hcl)
          simp only [List.length_append, List.length_singleton] at this
          exact this hK
      · cases hcl : clashes A S ds ds.length (o.dst, ⟨.one (.con undef), []⟩) (at2 A.un ds.length) with
        | false => rw [hcl] at hn; exact hn.elim
        | true =>
          rw [hcl] at hn
          have hg : GoodOp c ops (Rst A S ds ds.length) (nx + 16 * ds.length) ds.length (o.dst, ⟨.one (.con undef), []⟩) := by
            refine ⟨⟨by simp [ho], okDst_ok hC hb.1⟩, fun k e he => by simp at he, fun N O1 ρ a w hc hf Q K' hn => ?_⟩
            have hw := hR hc
            unfold wpOp
            simp only [ho, hw, Bool.false_eq_true, if_false]
            exact hn O1 ρ undef w rfl (StepTo.refl hc _)
          have := ih (ds ++ [(o.dst, ⟨.one (.con undef), []⟩)]) (hops' _) (by simp; omega) (p.snoc (cs := cs) hC (fun i j hj => (h1 i j hj).1) hb.1 hb.2 ho hg hcl)
          simp only [List.length_append, List.length_singleton] at this
          exact this hn

/-- a region that draws its order -/
theorem vdraw_ok [B : Base] {C : Ctx} {c : Cx} {cs : List (Nat × Con)} (hC : CtxOk C c) (hcs : CsOk C cs) {ops : Array Oper} {A : DA} {S : St} {nx : Nat} {K : St → Nat → Prop} {Q : Exit → Act → World → Prop} (hA : chkB ops.toList A = true)
    (hv : vdraw C cs ops.toList A S nx ops.toList 0 [] K) (hQ : ∀ S' nx' O1' ρ' a' w', Conc c (nx' ≤ ·) O1' ρ' S' a' w' → K S' nx' → Q .normal a' w') {O1 : Nat → Prop} {ρ : Env} {a : Act} {w : World} (hc : Conc c (nx ≤ ·) O1 ρ S a w) :
    wpAny c.P .any ops Q ops.size (Array.replicate ops.size false) a w := by
  obtain ⟨ds, F, hK⟩ := vdraw_fam hC hcs hA ops.toList [] (fun j o hj => by simpa using hj) (by simp) ⟨by simp, by simp, by simp, by simp⟩ hv
  have hnd : ∀ i, done (Array.replicate ops.size false) i = false := by
    intro i
    unfold done
    by_cases h : i < ops.size <;> simp [Array.getD_eq_getD_getElem?, h]
  have hadd : ∀ (l : List Dd) (j : Nat), addD (done (Array.replicate ops.size false)) j l S = S := by
    intro l
    induction l with
    | nil => intros; rfl
    | cons x l ih => intro j; simp only [addD, hnd, cond_false]; exact ih (j + 1)
  refine drawn_ok F (fun O1' ρ' a' w' hc' => hQ _ _ O1' ρ' a' w' hc' hK) ops.size _ O1 ρ a w (by simp) (fun i hi => by rw [hnd] at hi; cases hi) (fun h0 i hi => by omega) ?_ ?_
  · rw [Array.toList_replicate]
    exact Nat.le_trans List.countP_le_length (by simp)
  · rw [hadd]
    exact hc.monoN fun k hk => hk.1

/-- slots that the unordered operations of a drawn region set: what they held before is forgotten -/
def unDsts (A : DA) : List Oper → Nat → List Nat
  | [], _ => []
  | o :: l, i => match at2 A.un i, o.dst with
    | _ :: _, some d => d :: unDsts A l (i + 1)
    | _, _ => unDsts A l (i + 1)
def dropT (l : List Nat) : List (Nat × AV) → List (Nat × AV)
  | [] => []
  | (t, y) :: m => bif memb t l then dropT l m else (t, y) :: dropT l m
theorem look_dropT {l : List Nat} {t : Nat} {x : AV} : ∀ {m : List (Nat × AV)}, look t (dropT l m) = some x → look t m = some x
  | [], h => h
  | (t', y) :: m, h => by
    simp only [dropT] at h
    cases hm : memb t' l with
    | true =>
      rw [hm] at h
      simp only [cond_true] at h
      have hne : t' ≠ t := by
        rintro rfl
        have no : ∀ m : List (Nat × AV), look t' (dropT l m) = none := by
          intro m
          induction m with
          | nil => rfl
          | cons p m ih =>
            obtain ⟨q, z⟩ := p
            simp only [dropT]
            cases hq : memb q l with
            | true => exact ih
            | false =>
              have : q ≠ t' := by rintro rfl; rw [hm] at hq; cases hq
              simp only [cond_false]
              rw [look_cons_ne this]; exact ih
        rw [no] at h; cases h
      rw [look_cons_ne hne]; exact look_dropT h
    | false =>
      rw [hm] at h
      simp only [cond_false] at h
      by_cases e : t' = t
      · subst e; rw [look_cons_eq] at h ⊢; exact h
      · rw [look_cons_ne e] at h ⊢; exact look_dropT h
def forgetS (A : DA) (ops : List Oper) (S : St) : St := { tm := dropT (unDsts A ops 0) S.tm, en := S.en }
theorem Conc.forget {c : Cx} {N O1 : Nat → Prop} {ρ : Env} {S : St} {a : Act} {w : World} (h : Conc c N O1 ρ S a w) (A : DA) (ops : List Oper) : Conc c N O1 ρ (forgetS A ops S) a w :=
  h.weaken (fun _ _ hx => look_dropT hx) fun _ _ hk => hk
end Go.Proofs.Ytgbfcjnkohhfoaa
