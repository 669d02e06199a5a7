/-
  The abstract machine: a function walked in pieces; between two pieces the context may be changed.
-/
import Derived.Test.YtgbfcjnkohhfoaaAbT
namespace Go.Proofs.Ytgbfcjnkohhfoaa
open Go.RowKit

/-- what is left of a chain of code before a region -/
def restAt (stop : Nat) : Code → Code
  | .seq _ b => match firstReg b with
    | some id => bif nb id stop then b else restAt stop b
    | none => .skip
  | c => c
/-- the conditions of a chain of code up to a region -/
def vcTo (C : Ctx) (cs : List (Nat × Con)) (A : Ann) (stop : Nat) (Kst : St → Prop) (K : Exit → St → Nat → Prop) : Code → St → Nat → Prop
  | .seq a b, S, nx => match firstReg b with
    | some id => vc C cs A a 0 [] S nx (KN (fun S' nx' => bif nb id stop then Kst S' else vcTo C cs A stop Kst K b S' nx') K)
    | none => False
  | _, _, _ => False
theorem vcTo_ok [B : Base] {C : Ctx} {c : Cx} {cs : List (Nat × Con)} {A : Ann} (hC : CtxOk C c) (hcs : CsOk C cs) (hm : C.P.follows .mixedOrders = true) {stop : Nat} {Kst : St → Prop} {K : Exit → St → Nat → Prop} {Q : Exit → Act → World → Prop}
    (hK : ∀ e S' nx' O1' ρ' a' w', Conc c (nx' ≤ ·) O1' ρ' S' a' w' → K e S' nx' → Q e a' w') :
    ∀ (code : Code) (S : St) (nx : Nat) (O1 : Nat → Prop) (ρ : Env) (a : Act) (w : World),
      (∀ S' nx' O1' ρ' a' w', Conc c (nx' ≤ ·) O1' ρ' S' a' w' → Kst S' → (restAt stop code).wp c.P Q a' w') → vcTo C cs A stop Kst K code S nx → Conc c (nx ≤ ·) O1 ρ S a w → code.wp c.P Q a w
  | .seq x y, S, nx, O1, ρ, a, w, hrest, hv, hc => by
    simp only [vcTo] at hv
    simp only [restAt] at hrest
    split at hv
    · next id hid =>
      rw [hid] at hrest
      simp only at hrest
      refine wp_seq (vc_ok hC hcs hm x 0 [] S nx _ _ O1 ρ a w ?_ hv hc)
      intro e S' nx' O1' ρ' a' w' h1 h2
      cases e with
      | normal =>
        simp only [KN] at h2
        cases hb : nb id stop with
        | true => rw [hb] at h2 hrest; exact hrest S' nx' O1' ρ' a' w' h1 h2
        | false => rw [hb] at h2 hrest; exact vcTo_ok hC hcs hm hK y S' nx' O1' ρ' a' w' hrest h2 h1
      | ret => exact hK _ _ _ _ _ _ _ h1 h2
      | exit id => exact hK _ _ _ _ _ _ _ h1 h2
      | goto l => exact hK _ _ _ _ _ _ _ h1 h2
      | panic ch => exact hK _ _ _ _ _ _ _ h1 h2
      | outgrown => exact hK _ _ _ _ _ _ _ h1 h2
    · exact hv.elim
  | .skip, _, _, _, _, _, _, _, hv, _ => hv.elim
  | .region .., _, _, _, _, _, _, _, hv, _ => hv.elim
  | .cond .., _, _, _, _, _, _, _, hv, _ => hv.elim
  | .block .., _, _, _, _, _, _, _, hv, _ => hv.elim
  | .loop .., _, _, _, _, _, _, _, hv, _ => hv.elim
  | .exit .., _, _, _, _, _, _, _, hv, _ => hv.elim
  | .ret, _, _, _, _, _, _, _, hv, _ => hv.elim
  | .rangeFunc .., _, _, _, _, _, _, _, hv, _ => hv.elim
  | .scope .., _, _, _, _, _, _, _, hv, _ => hv.elim
  | .label .., _, _, _, _, _, _, _, hv, _ => hv.elim
  | .goto .., _, _, _, _, _, _, _, hv, _ => hv.elim
  | .refuse .., _, _, _, _, _, _, _, hv, _ => hv.elim

/-- a function leaves with the answer true in slot t -/
def retT (t : Nat) (e : Exit) (S : St) (_ : Nat) : Prop :=
  match e with
  | .normal => (match look t S.tm with | some (.one (.con (.bool b))) => b = true | _ => False)
  | .ret => (match look t S.tm with | some (.one (.con (.bool b))) => b = true | _ => False)
  | _ => False
/-- what then holds -/
def RetT (t : Nat) (W : World) (e : Exit) (a : Act) (w : World) : Prop := (e = .normal ∨ e = .ret) ∧ a.defers = [] ∧ a.tmps[t]? = some (.bool true) ∧ BelowM (fun _ => False) W w
theorem retT_ok {c : Cx} {N O1 : Nat → Prop} {ρ : Env} {S : St} {a : Act} {w W : World} (h : Conc c N O1 ρ S a w) {t nx : Nat} {e : Exit} (hr : retT t e S nx) (hB : BelowM (fun _ => False) W w) : RetT t W e a w := by
  have key : (match look t S.tm with | some (.one (.con (.bool b))) => b = true | _ => False) → a.tmps[t]? = some (.bool true) := fun hm => by
    split at hm
    · next b hl =>
      subst hm
      obtain ⟨v, hv, ht⟩ := h.tm t _ hl
      simp only [Den, den1, Option.some.injEq] at hv
      rw [ht, ← hv]
    · exact hm.elim
  cases e with
  | normal => exact ⟨.inl rfl, h.nodef, key hr, hB⟩
  | ret => exact ⟨.inr rfl, h.nodef, key hr, hB⟩
  | exit id => exact hr.elim
  | goto l => exact hr.elim
  | panic ch => exact hr.elim
  | outgrown => exact hr.elim

/-- the first state of a function whose parameters are all read -/
theorem entry_ok {C : Ctx} {ins : List (Bool × IT)} {O : Nat → Prop} {w : World} {args : List Value} {x : HI ins} (hO : ∀ b, O b → b < w.heap.size) (hA : RepA (false = true ∧ True) (fun b => b ∈ ([] : List Nat)) w ins args x []) (hlen : ins.length ≤ C.n) {r : List (Nat × AV) × List (Nat × Ent)} (hr : opnI false ins x 0 0 = some r) {n : Nat} (hn : n = C.n) :
    ∃ ρ, Conc ⟨C.P, C.n, w, fun _ => False, O, fun _ => none, True⟩ (nslI ins ≤ ·) (fun b => b ∈ ([] : List Nat)) ρ ⟨r.1, r.2⟩ { tmps := args.toArray ++ Array.replicate (n - args.toArray.size) undef, defers := [] } w := by
  subst hn
  let c0 : Cx := ⟨C.P, C.n, w, fun _ => False, O, fun _ => none, True⟩
  obtain ⟨ρ, hop, l1, t1, hinit, hpv, hpb⟩ := opnI_ok (c := c0) (O1 := fun b => b ∈ ([] : List Nat)) (sh := false) (A := fun b => b ∈ ([] : List Nat)) (zA := false = true ∧ True) (fun h => h) (fun b hb hn => by
      simp only [offs, not_or, not_and, c0]
      exact ⟨hn, fun h => by cases h⟩) ins args x [] 0 0 (fun _ => none) r hA (fun b hb => hb) (fun _ _ => rfl) hr
  have hsz : (args.toArray ++ Array.replicate (C.n - args.toArray.size) undef).size = C.n := by
    simp; omega
  refine ⟨ρ, hsz, rfl, fun t y hy => ?_, fun k' e he => (hop.ent k' e (look_mem he)).2.2, ?_, fun k' hk => by rw [hop.ids k' (.inr (by omega))], fun k' v hv => ?_, fun b hb => by simp at hb, hO, BelowM.refl _ _, fun p v hp => nomatch hp⟩
  · obtain ⟨_, v, hv, hg⟩ := t1 t y hy
    refine ⟨v, hv, ?_⟩
    simp only [Nat.sub_zero] at hg
    have hlt : t < args.length := (List.getElem?_eq_some_iff.1 hg).1
    rw [Array.getElem?_append_left (by simpa using hlt)]
    simpa using hg
  · intro k1 k2 e1' e2 v1 v2 b hne he1 he2
    exact hop.ap k1 k2 e1' e2 v1 v2 b hne (look_mem he1) (look_mem he2)
  · rcases hop.one k' v hv with h | h
    · cases h
    · exact h
theorem entry_ctx [B : Base] {C : Ctx} {O : Nat → Prop} {w : World} (hty : ∀ t ti, look t C.ty = some ti → TIOk C.P t ti) (heq : ∀ t ks, look t C.eqs = some ks → EqTOk C.P t ks) (hold : OldOk w) : CtxOk C ⟨C.P, C.n, w, fun _ => False, O, fun _ => none, True⟩ :=
  ⟨rfl, rfl, hty, heq, fun _ _ h => (nomatch h), fun _ h => False.elim h, hold, fun _ h => False.elim h⟩

def oldE : Ent → Bool
  | .imm _ _ fr => !fr
  | .tw _ _ => false
  | .own _ t _ fr => !fr || nb t.nsl 0
  | _ => true
/-- the context is laid anew: all that is there counts as old -/
theorem rebase {c : Cx} {N O1 : Nat → Prop} {ρ : Env} {S : St} {a : Act} {w : World} (h : Conc c N O1 ρ S a w) (ho : ∀ k e, look k S.en = some e → oldE e = true) {pin : Nat → Option Value} (hp : ∀ p v, pin p = some v → ρ p = some v) :
    Conc ⟨c.P, c.n, w, O1, fun b => b < w.heap.size ∧ ¬ O1 b, pin, True⟩ N O1 ρ S a w := by
  have hmv : ∀ b, b < w.heap.size → ¬ offs c O1 false b → ¬ offs (⟨c.P, c.n, w, O1, fun b => b < w.heap.size ∧ ¬ O1 b, pin, True⟩ : Cx) O1 false b ∧ w.heap[b]? = w.heap[b]? := fun b _ hn =>
    ⟨fun hx => hx.elim (fun h => hn (.inl h)) (fun h => nomatch h.1), rfl⟩
  refine ⟨h.size, h.nodef, h.tm, fun k e he => ?_, h.ap, h.nx, h.one, fun b hb => ⟨(h.olt b hb).1, .inr hb⟩, fun b hb => hb.1, BelowM.refl _ _, hp⟩
  have hen := h.en k e he
  have hoe := ho k e he
  cases e with
  | box l => exact hen
  | own e t xs fr =>
    obtain ⟨v, cs, h1, h2, h3, h4, h5⟩ := hen
    refine ⟨v, cs, h1, h2, h3, h4, fun i x hx => ?_⟩
    simp only [oldE, Bool.or_eq_true, Bool.not_eq_true'] at hoe
    rcases hoe with rfl | hf
    · exact (h5 i x hx).move (fun h => nomatch h.1) hmv
    · exact (h5 i x hx).flat (eq_of_nb hf)
  | imm t xs fr =>
    obtain ⟨v, h1, h2⟩ := hen
    simp only [oldE, Bool.not_eq_true'] at hoe
    subst hoe
    exact ⟨v, h1, h2.move (fun h => nomatch h.1) hmv⟩
  | mp g tk tv m =>
    obtain ⟨b, es, cl, h1, h2, h3, h4⟩ := hen
    exact ⟨b, es, cl, h1, h2, h3, h4.move hmv⟩
  | gone => trivial
  | tw l m => cases hoe
theorem rebase_ctx [B : Base] {C C' : Ctx} {c : Cx} (hC : CtxOk C c) (hP : C'.P = C.P) (hn : C'.n = C.n) (hty : C'.ty = C.ty) (heq : C'.eqs = C.eqs) {N O1 : Nat → Prop} {ρ : Env} {S : St} {a : Act} {w : World} (h : Conc c N O1 ρ S a w) {pin : Nat → Option Value} (hp : ∀ p v, pin p = some v → p ∈ C'.pins) :
    CtxOk C' ⟨c.P, c.n, w, O1, fun b => b < w.heap.size ∧ ¬ O1 b, pin, True⟩ :=
  ⟨by rw [hP]; exact hC.P, by rw [hn]; exact hC.n, by rw [hty, hP]; exact hC.ty, by rw [heq, hP]; exact hC.eqs, hp, fun b hb => .inr fun h => h.2 hb, hC.oldNow h, fun b hb => hC.ownNew h hb⟩
end Go.Proofs.Ytgbfcjnkohhfoaa
