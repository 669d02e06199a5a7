/-
  The abstract machine, part 13: regions in the order of the text, loops, code.
-/
import Derived.Test.YtghfpidpefdndaaAbO
namespace Go.Proofs.Ytghfpidpefdndaa
open Go.RowKit

theorem Conc.monoN {c : Cx} {N N' O1 : Nat → Prop} {ρ : Env} {S : St} {a : Act} {w : World} (h : Conc c N O1 ρ S a w) (hN : ∀ k, N' k → N k) : Conc c N' O1 ρ S a w :=
  { h with nx := fun k hk => h.nx k (hN k hk) }
theorem Conc.putSame {c : Cx} {N O1 : Nat → Prop} {ρ : Env} {S : St} {a : Act} {w : World} (h : Conc c N O1 ρ S a w) {t : Nat} {x : AV} {v : Value} (ht : a.tmps[t]? = some v) (hx : Den ρ x v) : Conc c N O1 ρ { S with tm := (t, x) :: S.tm } a w := by
  refine { h with tm := fun t' y hy => ?_ }
  by_cases e : t = t'
  · subst e
    simp only [look_cons_eq, Option.some.injEq] at hy
    subst hy
    exact ⟨v, hx, ht⟩
  · simp only [look_cons_ne e] at hy
    exact h.tm t' y hy
theorem Conc.drew {c : Cx} {N O1 : Nat → Prop} {ρ : Env} {S : St} {a : Act} {w : World} (h : Conc c N O1 ρ S a w) : Conc c N O1 ρ S a { w with drawn := w.drawn + 1 } := by
  refine { h with en := fun k e he => (h.en k e he).move (Ext.refl _) (fun b _ hn => ⟨hn, rfl⟩) (fun ho v b hv hb => ?_), eff := ⟨h.eff.os, h.eff.tape, h.eff.output, h.eff.size, h.eff.block⟩ }
  obtain ⟨v', hv', h'⟩ := (h.en k e he).val ho
  rw [hv] at hv'; cases hv'
  exact ⟨(h' b hb).1, rfl⟩

def nth {α : Type} : List α → Nat → Option α
  | [], _ => none
  | x :: l, i => match i with | 0 => some x | i + 1 => nth l i
theorem nth_eq {α : Type} : ∀ (l : List α) (i : Nat), nth l i = l[i]?
  | [], _ => by simp [nth]
  | x :: l, 0 => by simp [nth]
  | x :: l, i + 1 => by simp [nth, nth_eq l i]

def bt (b : Bool) : AV := .one (.con (.bool b))
/-- whether an operation is wanted: the two ways -/
def vguard (ops : List Oper) (o : Oper) (S : St) (yes no : St → Prop) : Prop :=
  match o.guard with
  | none => yes S
  | some (g, want) => match (nth ops g).bind (·.dst) with
    | some t => (match look t S.tm with
      | some (.one (.con v)) => (match v with
        | .bool b => bsp b (bif want then yes { S with tm := (t, bt true) :: S.tm } else no { S with tm := (t, bt true) :: S.tm }) (bif want then no { S with tm := (t, bt false) :: S.tm } else yes { S with tm := (t, bt false) :: S.tm })
        | _ => no S)
      | _ => False)
    | none => False
def okDst (C : Ctx) (d : Option Nat) : Bool := match d with | none => true | some d => nlt d C.n
def vops (C : Ctx) (cs : List (Nat × Con)) (ops : List Oper) : List Oper → St → Nat → (St → Nat → Prop) → Prop
  | [], S, nx, K => K S nx
  | o :: l, S, nx, K => bif okDst C o.dst then
      vguard ops o S (fun S' => aopF C cs S' nx o.op fun δ => vops C cs ops l (S'.add o.dst δ) (nx + 16) K) (fun S' => vops C cs ops l (S'.add o.dst ⟨.one (.con undef), []⟩) nx K)
    else False

theorem vguard_ok {c : Cx} {N O1 : Nat → Prop} {ρ : Env} {S : St} {a : Act} {w : World} (h : Conc c N O1 ρ S a w) {ops : Array Oper} {o : Oper} {yes no : St → Prop} (hv : vguard ops.toList o S yes no) :
    ∃ S', Conc c N O1 ρ S' a w ∧ ((Region.wanted o (yielded ops a.tmps) = true ∧ yes S') ∨ (Region.wanted o (yielded ops a.tmps) = false ∧ no S')) := by
  unfold vguard at hv
  split at hv
  · next hg => exact ⟨S, h, .inl ⟨by simp [Region.wanted, hg], hv⟩⟩
  · next g want hg =>
    split at hv
    · next t ht =>
      have ht' : (ops[g]?).bind (·.dst) = some t := by rw [nth_eq] at ht; simpa using ht
      split at hv
      · next v hl =>
        obtain ⟨u, hu, hut⟩ := h.tm t _ hl
        simp only [Den, den1, Option.some.injEq] at hu
        subst hu
        have hw : Region.wanted o (yielded ops a.tmps) = (yielded ops a.tmps g == some want) := by simp [Region.wanted, hg]
        split at hv
        · next b =>
          have hy : yielded ops a.tmps g = some b := by simp [yielded, ht', hut]
          rw [hw, hy]
          cases b with
          | true =>
            simp only [bsp_t] at hv
            refine ⟨_, h.putSame hut (x := bt true) rfl, ?_⟩
            cases want with
            | true => exact .inl ⟨rfl, hv⟩
            | false => exact .inr ⟨rfl, hv⟩
          | false =>
            simp only [bsp_f] at hv
            refine ⟨_, h.putSame hut (x := bt false) rfl, ?_⟩
            cases want with
            | true => exact .inr ⟨rfl, hv⟩
            | false => exact .inl ⟨rfl, hv⟩
        · next hnb =>
          have hy : yielded ops a.tmps g = none := by
            simp only [yielded, ht', Option.bind_some, hut]
            cases v <;> first | rfl | exact (hnb _ rfl).elim
          refine ⟨S, h, .inr ⟨?_, hv⟩⟩
          rw [hw, hy]; rfl
      · exact hv.elim
    · exact hv.elim

theorem okDst_ok {C : Ctx} {c : Cx} (hC : CtxOk C c) {d : Option Nat} (h : okDst C d = true) : ∀ t, d = some t → t < c.n := by
  rintro t rfl
  simp only [okDst] at h
  rw [hC.n]
  exact lt_of_nlt h

theorem conc_op {c : Cx} {N O1 O1' : Nat → Prop} {ρ ρ' : Env} {S : St} {a : Act} {w w' : World} {i0 : Nat} {o : Oper} {δ : Dl} {v : Value} (h : Conc c N O1 ρ S a w) (hN : ∀ k, i0 ≤ k → k < i0 + 16 → N k) (hd : ∀ d, o.dst = some d → d < c.n)
    (hup : ∀ k e, (k, e) ∈ δ.en → (i0 ≤ k ∧ k < i0 + 16) ∨ ∃ e0, look k S.en = some e0 ∧ isOwn e0 = true) (hv : Den ρ' δ.val v) (hs : StepTo c i0 δ.en O1 ρ w O1' ρ' w') :
    Conc c (fun k => N k ∧ (k < i0 ∨ i0 + 16 ≤ k)) O1' ρ' (S.add o.dst δ) (a.put o.dst v) w' :=
  conc_step h hs hv hd fun k e v' he hk => (hup k e he).elim (fun hr => by rw [h.nx k (hN k hr.1 hr.2)] at hk; cases hk) id

theorem vops_ok {C : Ctx} {c : Cx} {cs : List (Nat × Con)} (hC : CtxOk C c) (hcs : CsOk C cs) {ops : Array Oper} {K : St → Nat → Prop} {Q : Exit → Act → World → Prop}
    (hQ : ∀ S' nx' O1' ρ' a' w', Conc c (nx' ≤ ·) O1' ρ' S' a' w' → K S' nx' → Q .normal a' w') :
    ∀ (l : List Oper) (i : Nat) (S : St) (nx : Nat) (O1 : Nat → Prop) (ρ : Env) (a : Act) (w : World), (∀ j o, l[j]? = some o → ops[i + j]? = some o) → vops C cs ops.toList l S nx K → Conc c (nx ≤ ·) O1 ρ S a w →
      wpOps c.P ops Q (List.range' i l.length) a w
  | [], i, S, nx, O1, ρ, a, w, _, hv, hc => by
    simp only [List.length_nil, List.range'_zero, wpOps]
    exact hQ S nx O1 ρ a w hc hv
  | o :: l, i, S, nx, O1, ρ, a, w, hi, hv, hc => by
    have ho : ops[i]? = some o := by simpa using hi 0 o rfl
    have hl : ∀ j o', l[j]? = some o' → ops[i + 1 + j]? = some o' := fun j o' hj => by rw [show i + 1 + j = i + (j + 1) by omega]; exact hi (j + 1) o' (by simpa using hj)
    simp only [vops] at hv
    cases hd : okDst C o.dst with
    | false => rw [hd] at hv; exact hv.elim
    | true =>
      rw [hd] at hv
      simp only [cond_true] at hv
      simp only [List.length_cons, List.range'_succ, wpOps, ho]
      obtain ⟨S', hc', hy | hn⟩ := vguard_ok hc hv
      · obtain ⟨hw, hy⟩ := hy
        rw [if_pos hw]
        refine .inl ?_
        obtain ⟨δ, hok, hK⟩ := aopF_ok hC hcs hy
        refine hok.2 _ O1 ρ a w hc' (fun k h1 h2 => hc'.nx k h1) _ _ ?_
        intro O1' ρ' v w' hv' hst
        have := conc_op hc' (fun k h1 _ => h1) (okDst_ok hC hd) hok.1 hv' hst
        exact vops_ok hC hcs hQ l (i + 1) _ _ O1' ρ' _ w' hl hK (this.monoN fun k (hk : nx + 16 ≤ k) => ⟨by omega, by omega⟩)
      · obtain ⟨hw, hn⟩ := hn
        rw [if_neg (by simp [hw])]
        have h1 := conc_step (δ := ⟨.one (.con undef), []⟩) (dst := o.dst) (v := undef) hc' (StepTo.refl hc' nx) rfl (okDst_ok hC hd) (by simp)
        have h2 := vops_ok hC hcs hQ l (i + 1) _ nx O1 ρ _ w hl hn { h1 with nx := hc'.nx }
        exact h2
end Go.Proofs.Ytghfpidpefdndaa
