/-
  The abstract machine, part 12: a call by its contract; one operation.
-/
import Derived.Test.YtgbfcjnkohhfoaaAb10
namespace Go.Proofs.Ytgbfcjnkohhfoaa
open Go.RowKit

theorem callFunc_enter {P : Program} {f : FuncId} {fn : Func} {c : Code} (hf : P.funcs[f]? = some fn) (hname : (fn.name == "runtime.NumGoroutine") = false) (hb : fn.body = some c) (args : Array Value) (w : World) :
    (callFunc f args).run P w = .ok (.enter f args) w := by
  have h1 : fn.name ≠ "runtime.NumGoroutine" := by simpa using hname
  simp [callFunc, hf, h1, hb]

theorem RepO.weak {z z' : Prop} {O O' : Nat → Prop} {base : Nat} {w : World} (hz : z' → z) (hO : ∀ b, b < w.heap.size → ¬ O b → ¬ O' b) : ∀ {t : OT} {vs : List Value} {x : t.D} {bs : List Nat}, RepO z O base w t vs x bs → RepO z' O' base w t vs x bs
  | .v _, _, _, _, h => ⟨h.1, h.2.move hz fun b hb hn => ⟨hO b hb hn, rfl⟩⟩
  | .own _ _, _, _, _, h => by
    obtain ⟨v, cs, h1, h2, h3, h4, h5, h6⟩ := h
    exact ⟨v, cs, h1, h2, h3, h4, h5, fun i x hx => (h6 i x hx).move hz fun b hb hn => ⟨hO b hb hn, rfl⟩⟩
  | .bx _, _, _, _, h => by
    obtain ⟨b, e, us, h1, h2, h3, h4, h5, h6⟩ := h
    exact ⟨b, e, us, h1, h2, h3, h4, h5, h6.move hz fun b hb hn => ⟨hO b hb hn, rfl⟩⟩
  | .mp _ _ _, _, _, _, h => by
    obtain ⟨b, es, cl, h1, h2, h3, h4, h5, h6⟩ := h
    exact ⟨b, es, cl, h1, h2, h3, h4, h5, h6.flat h5.1 h5.2⟩
  | .bo _, _, _, _, h => by
    obtain ⟨b, e, us, bs', h1, h2, h3, h4, h5, h6, h7⟩ := h
    exact ⟨b, e, us, bs', h1, h2, h3, h4, h5, h6, h7.weak hz hO⟩
  | .pr _ _, _, _, _, h => by
    obtain ⟨us, ws, b1, b2, h1, h2, h3, h4, h5⟩ := h
    exact ⟨us, ws, b1, b2, h1, h2, h3, h4.weak hz hO, h5.weak hz hO⟩
  | .tw _ _, _, _, _, h => by
    obtain ⟨us, ws, b1, b2, h1, h2, h3, h4, h5, h6⟩ := h
    exact ⟨us, ws, b1, b2, h1, h2, h3, h4.weak hz hO, h5.weak hz hO, fun k => (h6 (hz k)).move fun b hb hn => ⟨hO b hb hn, rfl⟩⟩
theorem RepR.weak {z z' : Prop} {O O' : Nat → Prop} {base : Nat} {w : World} (hz : z' → z) (hO : ∀ b, b < w.heap.size → ¬ O b → ¬ O' b) : ∀ {l : List (Bool × OT)} {vs : List Value} {x : HO l} {bs : List Nat}, RepR z O base w l vs x bs → RepR z' O' base w l vs x bs
  | [], _, _, _, h => h
  | _ :: _, _, _, _, h => by
    obtain ⟨v, vs', b1, b2, h1, h2, h3, ⟨us, h4, h5⟩, h6⟩ := h
    exact ⟨v, vs', b1, b2, h1, h2, h3, ⟨us, h4, h5.weak hz hO⟩, h6.weak hz hO⟩

/-- what opened results bring -/
structure Opened (c : Cx) (O1 : Nat → Prop) (w : World) (base id n : Nat) (bs : List Nat) (L : List (Nat × Ent)) (ρ ρ' : Env) : Prop where
  ext : Ext ρ ρ'
  ids : ∀ k, (k < id ∨ id + n ≤ k) → ρ' k = ρ k
  one : ∀ k v, ρ' k = some v → ρ k = some v ∨ v.oneCell' = true
  ent : ∀ k e, (k, e) ∈ L → id ≤ k ∧ k < id + n ∧ EntOk c O1 ρ' w k e
  blk : ∀ k e v b, (k, e) ∈ L → isOwn e = true → ρ' k = some v → blkOf v = some b → b ∈ bs
  big : ∀ b, b ∈ bs → base ≤ b ∧ b < w.heap.size
  ap : ∀ k k' e e' v v' b, k ≠ k' → (k, e) ∈ L → (k', e') ∈ L → isOwn e = true → isOwn e' = true → ρ' k = some v → ρ' k' = some v' → blkOf v = some b → blkOf v' ≠ some b

theorem Opened.join {c : Cx} {O1 : Nat → Prop} {w : World} {base id n m : Nat} {b1 b2 : List Nat} {L1 L2 : List (Nat × Ent)} {ρ ρ1 ρ2 : Env} (h1 : Opened c O1 w base id n b1 L1 ρ ρ1) (h2 : Opened c O1 w base (id + n) m b2 L2 ρ1 ρ2)
    (hb : ∀ b, b ∈ b1 → b ∉ b2) : Opened c O1 w base id (n + m) (b1 ++ b2) (L1 ++ L2) ρ ρ2 where
  ext := fun k v hk => h2.ext k v (h1.ext k v hk)
  ids := fun k hk => by rw [h2.ids k (by omega), h1.ids k (by omega)]
  one := fun k v hk => (h2.one k v hk).elim (h1.one k v) .inr
  ent := fun k e he => by
    rcases List.mem_append.1 he with he | he
    · obtain ⟨a, b, d⟩ := h1.ent k e he; exact ⟨a, by omega, d.ext h2.ext⟩
    · obtain ⟨a, b, d⟩ := h2.ent k e he; exact ⟨by omega, by omega, d⟩
  blk := fun k e v b he ho hv hbk => by
    rcases List.mem_append.1 he with he | he
    · have hk := h1.ent k e he
      rw [h2.ids k (by omega)] at hv
      exact List.mem_append_left _ (h1.blk k e v b he ho hv hbk)
    · exact List.mem_append_right _ (h2.blk k e v b he ho hv hbk)
  big := fun b hb => (List.mem_append.1 hb).elim (h1.big b) (h2.big b)
  ap := fun k k' e e' v v' b hne he he' ho ho' hv hv' hbk hbk' => by
    rcases List.mem_append.1 he with he | he <;> rcases List.mem_append.1 he' with he' | he'
    · have hk := h1.ent k e he
      have hk' := h1.ent k' e' he'
      rw [h2.ids k (by omega)] at hv
      rw [h2.ids k' (by omega)] at hv'
      exact h1.ap k k' e e' v v' b hne he he' ho ho' hv hv' hbk hbk'
    · have hk := h1.ent k e he
      rw [h2.ids k (by omega)] at hv
      exact hb b (h1.blk k e v b he ho hv hbk) (h2.blk k' e' v' b he' ho' hv' hbk')
    · have hk' := h1.ent k' e' he'
      rw [h2.ids k' (by omega)] at hv'
      exact hb b (h1.blk k' e' v' b he' ho' hv' hbk') (h2.blk k e v b he ho hv hbk)
    · exact h2.ap k k' e e' v v' b hne he he' ho ho' hv hv' hbk hbk'

theorem opnO_ok {c : Cx} {O1 : Nat → Prop} {w : World} {base : Nat} {gr : Bool} : ∀ (t : OT) (vs : List Value) (x : t.D) (bs : List Nat) (id : Nat) (ρ : Env), RepO (zs c gr) (offs c O1 gr) base w t vs x bs → (∀ b, b ∈ bs → O1 b) → (∀ k, id ≤ k → k < id + t.nsl → ρ k = none) →
    ∃ ρ', DenL ρ' (opnO gr t x id).1 vs ∧ Opened c O1 w base id t.nsl bs (opnO gr t x id).2 ρ ρ'
  | .v t, vs, x, bs, id, ρ, h, _, hf => by
    obtain ⟨rfl, h⟩ := h
    obtain ⟨ρ', e1, i1, o1, d1, n1⟩ := opn_ok t vs x id ρ h hf
    have no : ∀ k e, (k, e) ∈ (opn t x gr id).2 → isOwn e = true → False := fun k e he ho => by rw [(n1 k e he).1] at ho; cases ho
    exact ⟨ρ', d1, e1, i1, o1, fun k e he => (n1 k e he).2, fun k e v b he ho => (no k e he ho).elim, by simp, fun k k' e e' v v' b _ he _ ho => (no k e he ho).elim⟩
  | .own e t, vs, x, bs, id, ρ, h, hO, hf => by
    obtain ⟨v, cs, rfl, h2, h3, h4, h5, h6⟩ := h
    have hn : ρ id = none := hf id (Nat.le_refl _) (by simp [OT.nsl])
    obtain ⟨ob, hv1, hlt⟩ := own_blk h2
    refine ⟨fun k => if k = id then some v else ρ k, ⟨v, [], rfl, by simp [den1], rfl⟩, env_ext hn, ?_, ?_, ?_, ?_, ?_, ?_⟩
    · intro k hk
      have : k ≠ id := by simp [OT.nsl] at hk; omega
      simp [this]
    · intro k u hk
      by_cases e0 : k = id
      · simp [e0] at hk; subst hk; exact .inr hv1
      · simp [e0] at hk; exact .inl hk
    · intro k e' he
      simp [opnO] at he
      obtain ⟨rfl, rfl⟩ := he
      refine ⟨Nat.le_refl _, by simp [OT.nsl], v, cs, by simp, ⟨h2.1, h2.2.imp id ?_⟩, h3, fun b hb => hO b (h4 b hb), h6⟩
      rintro ⟨g, cap, cur, a1, _, a3⟩
      exact ⟨g, cap, cur, a1, Nat.zero_le _, a3⟩
    · intro k e' u b he _ hu hb
      simp [opnO] at he
      obtain ⟨rfl, rfl⟩ := he
      simp at hu; subst hu
      exact h4 b hb
    · intro b hb
      have := h5 b hb
      exact ⟨(h2.lt b (by rw [ob]; exact this)).1, hlt b this⟩
    · intro k k' e1 e2 v1 v2 b hne he he'
      simp [opnO] at he he'
      exact absurd (he.1.trans he'.1.symm) hne
  | .bx t, vs, x, bs, id, ρ, h, hO, hf => by
    obtain ⟨b, e, us, rfl, rfl, h3, h4, h5, h6⟩ := h
    have hn : ρ id = none := hf id (Nat.le_refl _) (by simp [OT.nsl]; omega)
    obtain ⟨ρ1, e1, i1, o1, d1, n1⟩ := opn_ok t us x (id + 1) ρ h6 (fun k h1 h2 => hf k (by omega) (by simp [OT.nsl]; omega))
    have hn1 : ρ1 id = none := by rw [i1 id (.inl (by omega))]; exact hn
    have no : ∀ k e, (k, e) ∈ (opn t x gr (id + 1)).2 → isOwn e = true → False := fun k e he ho => by rw [(n1 k e he).1] at ho; cases ho
    refine ⟨fun k => if k = id then some (.pointer (some ⟨b, 0, none⟩)) else ρ1 k, ⟨_, [], rfl, by simp [den1], rfl⟩, fun k v hk => env_ext hn1 k v (e1 k v hk), ?_, ?_, ?_, ?_, ?_, ?_⟩
    · intro k hk
      have : k ≠ id := by simp [OT.nsl] at hk; omega
      simp only [this, if_false]
      exact i1 k (by simp [OT.nsl] at hk; omega)
    · intro k u hk
      by_cases e0 : k = id
      · simp [e0] at hk; subst hk; exact .inr rfl
      · simp [e0] at hk; exact o1 k u hk
    · intro k e' he
      simp only [opnO, List.mem_cons, Prod.mk.injEq] at he
      rcases he with ⟨rfl, rfl⟩ | he
      · exact ⟨Nat.le_refl _, by simp [OT.nsl]; omega, b, e, us, by simp, hO b (by simp), d1.ext (env_ext hn1), h5, h4⟩
      · obtain ⟨_, a1, a2, a3⟩ := n1 k e' he
        exact ⟨by omega, by simp [OT.nsl]; omega, a3.ext (env_ext hn1)⟩
    · intro k e' u b' he ho hu hb
      simp only [opnO, List.mem_cons, Prod.mk.injEq] at he
      rcases he with ⟨rfl, rfl⟩ | he
      · simp at hu; subst hu; simp [blkOf] at hb; simp [hb]
      · exact (no _ _ he ho).elim
    · intro b' hb
      simp at hb; subst hb
      exact ⟨h3, (Array.getElem?_eq_some_iff.1 h4).1⟩
    · intro k k' e1 e2 v1 v2 b hne he he' ho ho'
      simp only [opnO, List.mem_cons, Prod.mk.injEq] at he he'
      rcases he with he | he
      · rcases he' with he' | he'
        · exact absurd (he.1.trans he'.1.symm) hne
        · exact (no _ _ he' ho').elim
      · exact (no _ _ he ho).elim
  | .mp g tk tv, vs, x, bs, id, ρ, h, hO, hf => by
    obtain ⟨b, es, cl, rfl, rfl, h3, h4, h5, h6⟩ := h
    have hn : ρ id = none := hf id (Nat.le_refl _) (by simp [OT.nsl])
    refine ⟨fun k => if k = id then some (.map (some b)) else ρ k, ⟨_, [], rfl, by simp [den1], rfl⟩, env_ext hn, ?_, ?_, ?_, ?_, ?_, ?_⟩
    · intro k hk
      have : k ≠ id := by simp [OT.nsl] at hk; omega
      simp [this]
    · intro k u hk
      by_cases e0 : k = id
      · simp [e0] at hk; subst hk; exact .inr rfl
      · simp [e0] at hk; exact .inl hk
    · intro k e' he
      simp [opnO] at he
      obtain ⟨rfl, rfl⟩ := he
      exact ⟨Nat.le_refl _, by simp [OT.nsl], b, es, cl, by simp, hO b (by simp), h4, h6.flat h5.1 h5.2⟩
    · intro k e' u b' he _ hu hb
      simp [opnO] at he
      obtain ⟨rfl, rfl⟩ := he
      simp at hu; subst hu
      simp [blkOf] at hb; simp [hb]
    · intro b' hb
      simp at hb; subst hb
      exact ⟨h3, (Array.getElem?_eq_some_iff.1 h4).1⟩
    · intro k k' e1 e2 v1 v2 b hne he he'
      simp [opnO] at he he'
      exact absurd (he.1.trans he'.1.symm) hne
  | .bo t, vs, x, bs, id, ρ, h, hO, hf => by
    obtain ⟨b, e, us, bs', rfl, rfl, hbb, h3, h4, h5, h6⟩ := h
    have hn : ρ id = none := hf id (Nat.le_refl _) (by simp [OT.nsl]; omega)
    obtain ⟨ρ1, d1, n1⟩ := opnO_ok t us x bs' (id + 1) ρ h6 (fun b hb => hO b (List.mem_cons_of_mem _ hb)) (fun k h1 h2 => hf k (by omega) (by simp [OT.nsl]; omega))
    have hn1 : ρ1 id = none := by rw [n1.ids id (.inl (by omega))]; exact hn
    refine ⟨fun k => if k = id then some (.pointer (some ⟨b, 0, none⟩)) else ρ1 k, ⟨_, [], rfl, by simp [den1], rfl⟩, fun k v hk => env_ext hn1 k v (n1.ext k v hk), ?_, ?_, ?_, ?_, ?_, ?_⟩
    · intro k hk
      have : k ≠ id := by simp [OT.nsl] at hk; omega
      simp only [this, if_false]
      exact n1.ids k (by simp [OT.nsl] at hk; omega)
    · intro k u hk
      by_cases e0 : k = id
      · simp [e0] at hk; subst hk; exact .inr rfl
      · simp [e0] at hk; exact n1.one k u hk
    · intro k e' he
      simp only [opnO, List.mem_cons, Prod.mk.injEq] at he
      rcases he with ⟨rfl, rfl⟩ | he
      · exact ⟨Nat.le_refl _, by simp [OT.nsl]; omega, b, e, us, by simp, hO b (by simp), d1.ext (env_ext hn1), h5, h4⟩
      · obtain ⟨a1, a2, a3⟩ := n1.ent k e' he
        exact ⟨by omega, by simp [OT.nsl]; omega, a3.ext (env_ext hn1)⟩
    · intro k e' u b' he ho hu hb
      simp only [opnO, List.mem_cons, Prod.mk.injEq] at he
      rcases he with ⟨rfl, rfl⟩ | he
      · simp at hu; subst hu; simp [blkOf] at hb; simp [hb]
      · have hk : k ≠ id := by have := n1.ent k e' he; omega
        simp only [hk, if_false] at hu
        exact List.mem_cons_of_mem _ (n1.blk k e' u b' he ho hu hb)
    · intro b' hb
      rcases List.mem_cons.1 hb with rfl | hb
      · exact ⟨h3, (Array.getElem?_eq_some_iff.1 h4).1⟩
      · exact n1.big b' hb
    · intro k k' e1 e2 v1 v2 b0 hne he he' ho ho' hv hv' hbk hbk'
      simp only [opnO, List.mem_cons, Prod.mk.injEq] at he he'
      rcases he with ⟨rfl, rfl⟩ | he
      · rcases he' with he' | he'
        · exact absurd he'.1.symm hne
        · have hk : k' ≠ k := fun e => hne e.symm
          simp only [hk, if_false] at hv'
          simp at hv; subst hv
          simp [blkOf] at hbk; subst hbk
          exact hbb (n1.blk k' e2 v2 b he' ho' hv' hbk')
      · rcases he' with ⟨rfl, rfl⟩ | he'
        · simp only [hne, if_false] at hv
          simp at hv'; subst hv'
          simp [blkOf] at hbk'; subst hbk'
          exact hbb (n1.blk k e1 v1 b he ho hv hbk)
        · have hk : k ≠ id := by have := n1.ent k e1 he; omega
          have hk' : k' ≠ id := by have := n1.ent k' e2 he'; omega
          simp only [hk, if_false] at hv
          simp only [hk', if_false] at hv'
          exact n1.ap k k' e1 e2 v1 v2 b0 hne he he' ho ho' hv hv' hbk hbk'
  | .pr t u, vs, x, bs, id, ρ, h, hO, hf => by
    obtain ⟨us, ws, b1, b2, rfl, rfl, hb, h1, h2⟩ := h
    obtain ⟨ρ1, d1, n1⟩ := opnO_ok t us x.1 b1 id ρ h1 (fun b hb => hO b (List.mem_append_left _ hb)) (fun k h1 h2 => hf k h1 (by simp [OT.nsl]; omega))
    obtain ⟨ρ2, d2, n2⟩ := opnO_ok u ws x.2 b2 (id + t.nsl) ρ1 h2 (fun b hb => hO b (List.mem_append_right _ hb)) (fun k h1 h2 => by
      rw [n1.ids k (.inr h1)]; exact hf k (by omega) (by simp [OT.nsl]; omega))
    exact ⟨ρ2, (d1.ext n2.ext).append d2, n1.join n2 hb⟩
  | .tw t u, vs, x, bs, id, ρ, h, hO, hf => by
    obtain ⟨us, ws, b1, b2, rfl, rfl, hb, h1, h2, h3⟩ := h
    obtain ⟨ρ1, d1, n1⟩ := opnO_ok t us x.1 b1 id ρ h1 (fun b hb => hO b (List.mem_append_left _ hb)) (fun k h1 h2 => hf k h1 (by simp [OT.nsl]; omega))
    obtain ⟨ρ2, d2, n2⟩ := opnO_ok u ws x.2 b2 (id + t.nsl) ρ1 h2 (fun b hb => hO b (List.mem_append_right _ hb)) (fun k h1 h2 => by
      rw [n1.ids k (.inr h1)]; exact hf k (by omega) (by simp [OT.nsl]; omega))
    refine ⟨ρ2, (d1.ext n2.ext).append d2, ?_⟩
    have hE : isOwn (bif gr then .tw (opnO gr t x.1 id).1 (opnO gr u x.2 (id + t.nsl)).1 else .gone) = false ∧ EntOk c O1 ρ2 w (id + t.nsl + u.nsl) (bif gr then .tw (opnO gr t x.1 id).1 (opnO gr u x.2 (id + t.nsl)).1 else .gone) := by
      cases gr with
      | false => exact ⟨rfl, trivial⟩
      | true => exact ⟨rfl, us, ws, d1.ext n2.ext, d2, fun hz => h3 ⟨rfl, hz⟩⟩
    have n3 : Opened c O1 w base (id + t.nsl) (u.nsl + 1) b2 ((opnO gr u x.2 (id + t.nsl)).2 ++ [(id + t.nsl + u.nsl, bif gr then .tw (opnO gr t x.1 id).1 (opnO gr u x.2 (id + t.nsl)).1 else .gone)]) ρ1 ρ2 := by
      refine ⟨n2.ext, fun k hk => n2.ids k (by omega), n2.one, ?_, ?_, n2.big, ?_⟩
      · intro k e he
        rcases List.mem_append.1 he with he | he
        · obtain ⟨a, b, d⟩ := n2.ent k e he; exact ⟨a, by omega, d⟩
        · simp only [List.mem_singleton, Prod.mk.injEq] at he
          obtain ⟨rfl, rfl⟩ := he
          exact ⟨by omega, by omega, hE.2⟩
      · intro k e v b he ho hv hbk
        rcases List.mem_append.1 he with he | he
        · exact n2.blk k e v b he ho hv hbk
        · simp only [List.mem_singleton, Prod.mk.injEq] at he
          obtain ⟨rfl, rfl⟩ := he
          rw [hE.1] at ho; cases ho
      · intro k k' e e' v v' b hne he he' ho ho'
        rcases List.mem_append.1 he with he | he
        · rcases List.mem_append.1 he' with he' | he'
          · exact n2.ap k k' e e' v v' b hne he he' ho ho'
          · simp only [List.mem_singleton, Prod.mk.injEq] at he'
            obtain ⟨rfl, rfl⟩ := he'
            rw [hE.1] at ho'; cases ho'
        · simp only [List.mem_singleton, Prod.mk.injEq] at he
          obtain ⟨rfl, rfl⟩ := he
          rw [hE.1] at ho; cases ho
    simp only [OT.nsl, opnO]
    rw [Nat.add_assoc]
    exact n1.join n3 hb

theorem opnR_ok {c : Cx} {O1 : Nat → Prop} {w : World} {base : Nat} {gr : Bool} : ∀ (l : List (Bool × OT)) (vs : List Value) (x : HO l) (bs : List Nat) (id : Nat) (ρ : Env), RepR (zs c gr) (offs c O1 gr) base w l vs x bs → (∀ b, b ∈ bs → O1 b) → (∀ k, id ≤ k → k < id + nslR l → ρ k = none) →
    ∃ ρ', DenT ρ' (opnR gr l x id).1 vs ∧ Opened c O1 w base id (nslR l) bs (opnR gr l x id).2 ρ ρ'
  | [], vs, x, bs, id, ρ, h, _, _ => by
    obtain ⟨rfl, rfl⟩ := h
    exact ⟨ρ, rfl, Ext.refl _, fun _ _ => rfl, fun k v hv => .inl hv, by simp [opnR], by simp [opnR], by simp, by simp [opnR]⟩
  | t :: l, vs, x, bs, id, ρ, h, hO, hf => by
    obtain ⟨v, vs', b1, b2, rfl, rfl, hb, ⟨us, hv, h1⟩, h2⟩ := h
    obtain ⟨ρ1, d1, n1⟩ := opnO_ok t.2 us x.1 b1 id ρ h1 (fun b hb => hO b (List.mem_append_left _ hb)) (fun k h1 h2 => hf k h1 (by simp [nslR]; omega))
    obtain ⟨ρ2, d2, n2⟩ := opnR_ok l vs' x.2 b2 (id + t.2.nsl) ρ1 h2 (fun b hb => hO b (List.mem_append_right _ hb)) (fun k h1 h2 => by
      rw [n1.ids k (.inr h1)]; exact hf k (by omega) (by simp [nslR]; omega))
    exact ⟨ρ2, ⟨v, vs', rfl, ⟨us, d1.ext n2.ext, hv⟩, d2⟩, n1.join n2 hb⟩

theorem retA_ok {ρ : Env} {l : List (Bool × List A1)} {y : AV} (h : retA l = some y) {vs : List Value} (hd : DenT ρ l vs) : Den ρ y (retV vs) := by
  match l with
  | [] => cases hd; cases h; exact ⟨[], rfl, rfl⟩
  | [x] =>
    obtain ⟨v, us, rfl, h1, h2⟩ := hd
    cases h2
    exact comp_ok h h1
  | x :: z :: l =>
    cases h
    have hd' := hd
    obtain ⟨v, us, rfl, h1, v2, us2, rfl, h2⟩ := hd
    exact ⟨_, hd', rfl⟩

theorem own_rep2 {c : Cx} {O1 O : Nat → Prop} {ρ : Env} {w : World} {k e : Nat} {t : TC} {xs : List t.D} {fr : Bool} (h : EntOk c O1 ρ w k (.own e t xs fr)) {v : Value} (hv : ρ k = some v) (hO : ∀ b, ¬ offs c O1 fr b → ¬ O b) {z : Prop} (hz : z → zs c fr ∧ okE e t = true) (hb : ∀ b, blkOf v = some b → ¬ O b) : Rep z O w (.sl t) [v] xs := by
  have hrow := fun i (hi : i < xs.length) => row_own h hi
  obtain ⟨v', cs, h1, h2, h3, _⟩ := h
  rw [hv] at h1; cases h1
  rcases h2.2 with ⟨rfl, h0⟩ | ⟨g, cap, cur, rfl, _, hg, hnc, hcm, hcs, _⟩
  · have : xs = [] := List.eq_nil_of_length_eq_zero h0
    subst this
    exact ⟨none, 0, rfl, by simp, by simp, fun _ => rfl, fun _ _ => .inl rfl, .inl rfl⟩
  · refine ⟨_, cap, rfl, hnc, h3, by simp, fun k _ => .inr ⟨g, rfl, hb g rfl, hcm, cur, e, hg, hcs, (fun hi => by have := (hz k).2; unfold okE at this; rw [hi] at this; exact eq_of_nb this), (fun hi he => by have := (hz k).2; unfold okE at this; rw [hi, he, nb_refl] at this; cases this), (fun hi => by
      have := (hz k).2
      unfold okE at this
      cases h64 : isI64 t with
      | true => cases t <;> simp_all [isI64, isStep]
      | false => rw [h64, hi] at this; simp only [cond_false, cond_true, Bool.and_eq_true] at this; exact eq_of_nb this.2), fun hi he => by
      have := (hz k).2
      unfold okE at this
      cases h64 : isI64 t with
      | true => rw [h64] at this; have h2 := eq_of_nb this; rw [he] at h2; exact absurd h2 (by decide)
      | false => rw [h64, hi, he, nb_refl] at this; simp at this⟩, .inr ⟨g, 0, rfl, hb g rfl, fun i x hx => ?_⟩⟩
    have hi : i < xs.length := (List.getElem?_eq_some_iff.1 hx).1
    obtain ⟨g', p, n, cap', us, r1, r2, r3, r4⟩ := hrow i hi
    rw [hv] at r1
    simp only [Option.some.injEq, Value.slice.injEq, Addr.mk.injEq, and_true] at r1
    obtain ⟨⟨rfl, rfl⟩, _⟩ := r1
    refine ⟨us, r2, r3, ?_⟩
    have : xs.getD i t.z = x := by simp [List.getD, hx]
    rw [this] at r4
    exact r4.move (fun h => (hz h).1) fun b _ hn => ⟨hO b hn, rfl⟩

def nodB : List Nat → Bool
  | [] => true
  | x :: l => !memb x l && nodB l
theorem nodB_app : ∀ {l m : List Nat}, nodB (l ++ m) = true → nodB l = true ∧ nodB m = true ∧ ∀ x, x ∈ l → x ∉ m
  | [], m, h => ⟨rfl, h, by simp⟩
  | x :: l, m, h => by
    simp only [List.cons_append, nodB, Bool.and_eq_true, Bool.not_eq_true'] at h ⊢
    obtain ⟨h1, h2, h3⟩ := nodB_app h.2
    have hx : x ∉ l ++ m := fun hm => by rw [memb_iff.2 hm] at h; simp at h
    simp only [List.mem_append, not_or] at hx
    refine ⟨⟨?_, h1⟩, h2, ?_⟩
    · cases hm : memb x l with
      | false => rfl
      | true => exact absurd (memb_iff.1 hm) hx.1
    · intro y hy
      rcases List.mem_cons.1 hy with rfl | hy
      · exact hx.2
      · exact h3 y hy
theorem disj_ok {l m : List Nat} (h : disj l m = true) : ∀ k, k ∈ l → k ∉ m := fun k hk hm => by
  simp only [disj, List.all_eq_true, Bool.not_eq_true'] at h
  have := h k hk
  rw [memb_iff.2 hm] at this; cases this

def bsOf (ρ : Env) (ks : List Nat) : List Nat := ks.filterMap fun k => (ρ k).bind blkOf
theorem bsOf_mem {ρ : Env} {ks : List Nat} {b : Nat} (h : b ∈ bsOf ρ ks) : ∃ k, k ∈ ks ∧ ∃ v, ρ k = some v ∧ blkOf v = some b := by
  obtain ⟨k, hk, hb⟩ := List.mem_filterMap.1 h
  obtain ⟨v, hv, hb⟩ := Option.bind_eq_some_iff.1 hb
  exact ⟨k, hk, v, hv, hb⟩
theorem mem_bsOf {ρ : Env} {ks : List Nat} {b k : Nat} {v : Value} (hk : k ∈ ks) (hv : ρ k = some v) (hb : blkOf v = some b) : b ∈ bsOf ρ ks :=
  List.mem_filterMap.2 ⟨k, hk, by simp [hv, hb]⟩

/-- memory that a call's arguments avoid -/
structure Avoid (c : Cx) (O1 : Nat → Prop) (ρ : Env) (sh gt : Bool) (io : List Nat) (A : Nat → Prop) (zA : Prop) : Prop where
  z : zA → sh = true ∧ zs c gt
  t : sh = true → ∀ b, A b → offs c O1 gt b
  f : sh = false → ∀ b, A b → ∃ k, k ∈ io ∧ ∃ v, ρ k = some v ∧ blkOf v = some b

section
variable {c : Cx} {N O1 : Nat → Prop} {ρ : Env} {S : St} {a : Act} {w : World} (h : Conc c N O1 ρ S a w) {sh gt : Bool} {io : List Nat} {A : Nat → Prop} {zA : Prop} (hA : Avoid c O1 ρ sh gt io A zA) (hio : ∀ k, k ∈ io → ∃ e, look k S.en = some e ∧ isOwn e = true)
include h hA hio
theorem avoid_own {fr : Bool} (hg : gt = true → fr = true) : ∀ b, ¬ offs c O1 fr b → ¬ A b := by
  intro b hn hb
  simp only [offs, not_or, not_and] at hn
  cases hs : sh with
  | true =>
    rcases hA.t hs b hb with h1 | h1
    · exact hn.1 h1
    · exact hn.2 (hg h1.1) h1.2
  | false =>
    obtain ⟨k, hk, v, hv, hbv⟩ := hA.f hs b hb
    obtain ⟨e, he, ho⟩ := hio k hk
    obtain ⟨u, hu, hub⟩ := (h.en k e he).val ho
    rw [hv] at hu; cases hu
    exact hn.1 (hub b hbv).1
omit hio in
theorem rdr_avoid (hio : ∀ k, k ∈ io → ∃ e, look k S.en = some e ∧ isOwn e = true) (hsh : sh = false) : ∀ (t : TC) (l : List A1) (vs : List Value) (x : t.D), DenL ρ l vs → rdr S.en t l = some x → (∀ k, k ∈ ownRefs S.en l → k ∉ io) → Rep False A w t vs x
  | .i k, l, vs, x, hd, hr, _ => by simpa only [Rep] using rdr_ok (fun k e he => h.en k e he) _ _ _ _ hd hr
  | .b, l, vs, x, hd, hr, _ => by simpa only [Rep] using rdr_ok (fun k e he => h.en k e he) _ _ _ _ hd hr
  | .s, l, vs, x, hd, hr, _ => by simpa only [Rep] using rdr_ok (fun k e he => h.en k e he) _ _ _ _ hd hr
  | .sl t, l, vs, x, hd, hr, hn => by
    simp only [rdr] at hr
    split at hr
    · next n cap =>
      obtain ⟨v, us, rfl, h1, rfl⟩ := hd
      simp [den1] at h1; subst h1
      cases hn : nb n 0 && nb cap 0 with
      | false => rw [hn] at hr; cases hr
      | true =>
        rw [hn] at hr; cases hr
        simp only [Bool.and_eq_true] at hn
        have := eq_of_nb hn.1
        subst this
        have := eq_of_nb hn.2
        subst this
        exact ⟨none, 0, rfl, Nat.zero_le _, Nat.zero_le _, fun _ => rfl, fun _ _ => .inl rfl, .inl rfl⟩
    · next k =>
      obtain ⟨v, us, rfl, h1, rfl⟩ := hd
      simp only [den1] at h1
      split at hr
      · next t' xs fr' hl =>
        split at hr
        · next g _ =>
          subst g
          simp only [castD, cast_eq, Option.some.injEq] at hr
          subst hr
          obtain ⟨v', hv', hr⟩ := h.en k _ hl
          rw [h1] at hv'
          cases hv'
          refine hr.move (fun h => h.elim) fun b _ hb => ⟨fun hAb => hb (.inl ?_), rfl⟩
          obtain ⟨k', hk', u, hu, hub⟩ := hA.f hsh b hAb
          obtain ⟨e, he, ho⟩ := hio k' hk'
          obtain ⟨u', hu', hub'⟩ := (h.en k' e he).val ho
          rw [hu] at hu'; cases hu'
          exact (hub' b hub).1
        · cases hr
      · next e t' xs fr' hl =>
        split at hr
        · next g _ =>
          subst g
          simp only [castD, cast_eq, Option.some.injEq] at hr
          subst hr
          have hk : k ∉ io := hn k (ownRefs_mem hl (by simp))
          refine own_rep2 (h.en k _ hl) h1 (fun b hb hAb => hb (.inl ?_)) (fun h => h.elim) ?_
          · obtain ⟨k', hk', u, hu, hub⟩ := hA.f hsh b hAb
            obtain ⟨e', he', ho'⟩ := hio k' hk'
            obtain ⟨u', hu', hub'⟩ := (h.en k' e' he').val ho'
            rw [hu] at hu'; cases hu'
            exact (hub' b hub).1
          · intro b hb hAb
            obtain ⟨k', hk', u, hu, hub⟩ := hA.f hsh b hAb
            obtain ⟨e', he', ho'⟩ := hio k' hk'
            exact h.ap k k' _ e' v u b (fun e => hk (e ▸ hk')) hl he' rfl ho' h1 hu hb hub
        · cases hr
      · cases hr
    · cases hr
  | .pr t u, l, vs, x, hd, hr, hn => by
    simp only [rdr] at hr
    split at hr
    · next x1 x2 h1 h2 =>
      cases hr
      have sub : ∀ (m : List A1) k, (∀ y, y ∈ m → y ∈ l) → k ∈ ownRefs S.en m → k ∈ ownRefs S.en l := by
        intro m k hm hk
        have : ∀ m : List A1, k ∈ ownRefs S.en m → ∃ e t xs fr, look k S.en = some (.own e t xs fr) ∧ .ref k ∈ m := by
          intro m
          induction m with
          | nil => intro hk; simp [ownRefs] at hk
          | cons y m ih =>
            intro hk
            cases y with
            | ref k' =>
              simp only [ownRefs] at hk
              split at hk
              · next e t xs fr hl =>
                rcases List.mem_cons.1 hk with rfl | hk
                · exact ⟨e, t, xs, fr, hl, by simp⟩
                · obtain ⟨e, t, xs, fr, h1, h2⟩ := ih hk
                  exact ⟨e, t, xs, fr, h1, List.mem_cons_of_mem _ h2⟩
              · obtain ⟨e, t, xs, fr, h1, h2⟩ := ih hk
                exact ⟨e, t, xs, fr, h1, List.mem_cons_of_mem _ h2⟩
            | con v =>
              obtain ⟨e, t, xs, fr, h1, h2⟩ := ih hk
              exact ⟨e, t, xs, fr, h1, List.mem_cons_of_mem _ h2⟩
            | ptr k1 i n j =>
              obtain ⟨e, t, xs, fr, h1, h2⟩ := ih hk
              exact ⟨e, t, xs, fr, h1, List.mem_cons_of_mem _ h2⟩
        obtain ⟨e, t, xs, fr, h1, h2⟩ := this m hk
        exact ownRefs_mem h1 (hm _ h2)
      exact ⟨_, _, (List.take_append_drop t.n vs).symm, rdr_avoid hio hsh t _ _ x1 (hd.take t.n) h1 (fun k hk => hn k (sub _ k (fun y hy => List.mem_of_mem_take hy) hk)),
        rdr_avoid hio hsh u _ _ x2 (hd.drop t.n) h2 (fun k hk => hn k (sub _ k (fun y hy => List.mem_of_mem_drop hy) hk))⟩
    · cases hr
  | .tw t u, l, vs, x, hd, hr, hn => by
    simp only [rdr] at hr
    split at hr
    · next x1 x2 h1 h2 =>
      cases hr
      have sub : ∀ (m : List A1) k, (∀ y, y ∈ m → y ∈ l) → k ∈ ownRefs S.en m → k ∈ ownRefs S.en l := by
        intro m k hm hk
        have : ∀ m : List A1, k ∈ ownRefs S.en m → ∃ e t xs fr, look k S.en = some (.own e t xs fr) ∧ .ref k ∈ m := by
          intro m
          induction m with
          | nil => intro hk; simp [ownRefs] at hk
          | cons y m ih =>
            intro hk
            cases y with
            | ref k' =>
              simp only [ownRefs] at hk
              split at hk
              · next e t xs fr hl =>
                rcases List.mem_cons.1 hk with rfl | hk
                · exact ⟨e, t, xs, fr, hl, by simp⟩
                · obtain ⟨e, t, xs, fr, h1, h2⟩ := ih hk
                  exact ⟨e, t, xs, fr, h1, List.mem_cons_of_mem _ h2⟩
              · obtain ⟨e, t, xs, fr, h1, h2⟩ := ih hk
                exact ⟨e, t, xs, fr, h1, List.mem_cons_of_mem _ h2⟩
            | con v =>
              obtain ⟨e, t, xs, fr, h1, h2⟩ := ih hk
              exact ⟨e, t, xs, fr, h1, List.mem_cons_of_mem _ h2⟩
            | ptr k1 i n j =>
              obtain ⟨e, t, xs, fr, h1, h2⟩ := ih hk
              exact ⟨e, t, xs, fr, h1, List.mem_cons_of_mem _ h2⟩
        obtain ⟨e, t, xs, fr, h1, h2⟩ := this m hk
        exact ownRefs_mem h1 (hm _ h2)
      exact ⟨_, _, (List.take_append_drop t.n vs).symm, rdr_avoid hio hsh t _ _ x1 (hd.take t.n) h1 (fun k hk => hn k (sub _ k (fun y hy => List.mem_of_mem_take hy) hk)),
        rdr_avoid hio hsh u _ _ x2 (hd.drop t.n) h2 (fun k hk => hn k (sub _ k (fun y hy => List.mem_of_mem_drop hy) hk)), fun k => k.elim⟩
    · cases hr
theorem argV_ok {t : TC} {l : List A1} {vs : List Value} {r : RA t.D} (hd : DenL ρ l vs) (hr : argV S.en sh t l = some r) (hrd : ∀ k, k ∈ r.rd → k ∉ io) (hg : gt = true → r.g = true) : Rep zA A w t vs r.x ∧ r.io = [] := by
  unfold argV at hr
  split at hr
  · split at hr
    · next y hy =>
      cases hr
      exact ⟨(cls_ok (fun k e he => h.en k e he) _ _ _ y.1 y.2 hd hy).move (fun hz => zs_mono hg (hA.z hz).2) fun b _ hb => ⟨avoid_own h hA hio hg b hb, rfl⟩, rfl⟩
    · cases hr
  · split at hr
    · next y hy =>
      cases hr
      exact ⟨(rdr_avoid h hA hio rfl _ _ _ _ hd hy hrd).move (fun hz => nomatch (hA.z hz).1) fun b _ hn => ⟨hn, rfl⟩, rfl⟩
    · cases hr
theorem argI_ok : ∀ (t : IT) (l : List A1) (vs : List Value) (r : RA t.D), DenL ρ l vs → argI S.en sh t l = some r → (∀ k, k ∈ r.rd → k ∉ io) → (gt = true → r.g = true) → nodB r.io = true →
    RepI zA A w t vs r.x (bsOf ρ r.io) ∧ vs.length = t.n ∧ ∀ k, k ∈ r.io → ∃ e, look k S.en = some e ∧ isOwn e = true
  | .v t, l, vs, r, hd, hr, h1, h2, _ => by
    obtain ⟨a1, a2⟩ := argV_ok h hA hio hd hr h1 h2
    refine ⟨⟨by rw [a2]; rfl, a1⟩, a1.len, fun k hk => by rw [a2] at hk; simp at hk⟩
  | .own e t, l, vs, r, hd, hr, h1, h2, _ => by
    simp only [argI] at hr
    split at hr
    · next k =>
      obtain ⟨v, us, rfl, hv, rfl⟩ := hd
      simp only [den1] at hv
      split at hr
      · next e' t' xs fr hl =>
        split at hr
        · next g _ =>
          subst g
          cases hb : nb e' e with
          | false => rw [hb] at hr; cases hr
          | true =>
            rw [hb] at hr
            simp only [castD, cast_eq, cond_true, Option.some.injEq] at hr
            subst hr
            have := eq_of_nb hb
            subst this
            obtain ⟨v', cs, e1, e2, e3, e4, e5⟩ := h.en k _ hl
            rw [hv] at e1; cases e1
            refine ⟨⟨v, cs, rfl, e2, e3, fun b hb => mem_bsOf (List.mem_singleton.2 rfl) hv hb, fun b hb => ?_, fun i x hx => (e5 i x hx).move (fun hz => zs_mono h2 (hA.z hz).2) fun b _ hb => ⟨avoid_own h hA hio h2 b hb, rfl⟩⟩, rfl, fun k' hk' => by simp at hk'; subst hk'; exact ⟨_, hl, rfl⟩⟩
            obtain ⟨k', hk', u, hu, hub⟩ := bsOf_mem hb
            simp at hk'; subst hk'
            rw [hv] at hu; cases hu
            exact hub
        · cases hr
      · cases hr
    · next n m =>
      cases hn : nb n 0 && nb m 0 with
      | false => rw [hn] at hr; cases hr
      | true =>
        rw [hn] at hr
        simp only [cond_true, Option.some.injEq] at hr
        subst hr
        simp only [Bool.and_eq_true] at hn
        have e1 := eq_of_nb hn.1
        have e2 := eq_of_nb hn.2
        subst e1; subst e2
        obtain ⟨v, us, rfl, hv, rfl⟩ := hd
        simp [den1] at hv; subst hv
        exact ⟨⟨_, [], rfl, World.ownsRow_nil w _ e t.n, by simp, by simp [blkOf], by simp [bsOf], by simp⟩, rfl, by simp⟩
    · cases hr
  | .bx t, l, vs, r, hd, hr, h1, h2, _ => by
    simp only [argI] at hr
    split at hr
    · next k =>
      obtain ⟨v, us, rfl, hv, rfl⟩ := hd
      simp only [den1] at hv
      split at hr
      · next m hl =>
        split at hr
        · next r' hr' =>
          simp only [Option.some.injEq] at hr
          subst hr
          obtain ⟨b, e, us, e1, e2, e3, e4, e5⟩ := h.en k _ hl
          rw [hv] at e1; cases e1
          obtain ⟨a1, _⟩ := argV_ok h hA hio e3 hr' h1 h2
          refine ⟨⟨b, e, us, rfl, by simp [bsOf, hv, blkOf], e5, e4, a1⟩, rfl, fun k' hk' => by simp at hk'; subst hk'; exact ⟨_, hl, rfl⟩⟩
        · cases hr
      · cases hr
    · cases hr
  | .mp g tk tv, l, vs, r, hd, hr, h1, h2, _ => by
    simp only [argI] at hr
    split at hr
    · next k =>
      obtain ⟨v, us, rfl, hv, rfl⟩ := hd
      simp only [den1] at hv
      split at hr
      · next g' tk' tv' m hl =>
        split at hr
        · next e1 e2 _ _ =>
          subst e1; subst e2
          cases hb : eqb g' g && (nb tk'.nsl 0 && nb tv'.nsl 0) with
          | false => rw [hb] at hr; cases hr
          | true =>
            rw [hb] at hr
            simp only [castM, cast_eq, cond_true, Option.some.injEq] at hr
            subst hr
            simp only [Bool.and_eq_true] at hb
            have := eqb_eq hb.1
            subst this
            obtain ⟨b, es, cl, q1, q2, q3, q4⟩ := h.en k _ hl
            rw [hv] at q1; cases q1
            exact ⟨⟨b, es, cl, rfl, by simp [bsOf, hv, blkOf], q3, ⟨eq_of_nb hb.2.1, eq_of_nb hb.2.2⟩, q4.flat (eq_of_nb hb.2.1) (eq_of_nb hb.2.2)⟩, rfl, fun k' hk' => by simp at hk'; subst hk'; exact ⟨_, hl, rfl⟩⟩
        · cases hr
      · cases hr
    · cases hr
  | .bo t, l, vs, r, hd, hr, h1, h2, h3 => by
    simp only [argI] at hr
    split at hr
    · next k =>
      obtain ⟨v, us, rfl, hv, rfl⟩ := hd
      simp only [den1] at hv
      split at hr
      · next m hl =>
        split at hr
        · next r' hr' =>
          simp only [Option.some.injEq] at hr
          subst hr
          obtain ⟨b, e, us, e1, e2, e3, e4, e5⟩ := h.en k _ hl
          rw [hv] at e1; cases e1
          simp only [nodB, Bool.and_eq_true, Bool.not_eq_true'] at h3
          obtain ⟨a1, a2, a3⟩ := argI_ok t m us r' e3 hr' h1 h2 h3.2
          refine ⟨⟨b, e, us, bsOf ρ r'.io, rfl, by simp [bsOf, hv, blkOf], fun hb => ?_, e5, e4, a1⟩, rfl, fun k' hk' => ?_⟩
          · obtain ⟨k', hk', u, hu, hub⟩ := bsOf_mem hb
            obtain ⟨e', he', ho'⟩ := a3 k' hk'
            have hne : k ≠ k' := by rintro rfl; rw [memb_iff.2 hk'] at h3; simp at h3
            exact h.ap k k' _ e' _ u b hne hl he' rfl ho' hv hu rfl hub
          · rcases List.mem_cons.1 hk' with rfl | hk'
            · exact ⟨_, hl, rfl⟩
            · exact a3 k' hk'
        · cases hr
      · cases hr
    · cases hr
  | .k f, l, vs, r, hd, hr, _, _, _ => by
    simp only [argI] at hr
    split at hr
    · next f' =>
      cases hb : nb f' f with
      | false => rw [hb] at hr; cases hr
      | true =>
        rw [hb] at hr
        simp only [cond_true, Option.some.injEq] at hr
        subst hr
        have := eq_of_nb hb
        subst this
        obtain ⟨v, us, rfl, hv, rfl⟩ := hd
        simp only [den1, Option.some.injEq] at hv; subst hv
        exact ⟨⟨rfl, rfl⟩, rfl, by simp⟩
    · cases hr
  | .pr t u, l, vs, r, hd, hr, h1, h2, h3 => by
    simp only [argI] at hr
    split at hr
    · next p q hp hq =>
      simp only [Option.some.injEq] at hr
      subst hr
      simp only [Bool.and_eq_true, List.mem_append] at h1 h2 h3
      obtain ⟨n1, n2, n3⟩ := nodB_app h3
      obtain ⟨a1, a2, a3⟩ := argI_ok t _ _ p (hd.take t.n) hp (fun k hk => h1 k (.inl hk)) (fun g => (h2 g).1) n1
      obtain ⟨b1, b2, b3⟩ := argI_ok u _ _ q (hd.drop t.n) hq (fun k hk => h1 k (.inr hk)) (fun g => (h2 g).2) n2
      refine ⟨⟨_, _, bsOf ρ p.io, bsOf ρ q.io, (List.take_append_drop t.n vs).symm, by simp [bsOf], fun b g1 g2 => ?_, a1, b1⟩, ?_, fun k hk => (List.mem_append.1 hk).elim (a3 k) (b3 k)⟩
      · obtain ⟨k1, hk1, v1, hv1, hb1⟩ := bsOf_mem g1
        obtain ⟨k2, hk2, v2, hv2, hb2⟩ := bsOf_mem g2
        obtain ⟨e1, he1, ho1⟩ := a3 k1 hk1
        obtain ⟨e2, he2, ho2⟩ := b3 k2 hk2
        exact h.ap k1 k2 e1 e2 v1 v2 b (fun e => n3 k1 hk1 (e ▸ hk2)) he1 he2 ho1 ho2 hv1 hv2 hb1 hb2
      · simp only [IT.n]
        rw [← a2, ← b2, ← List.length_append, List.take_append_drop]
    · cases hr
theorem argA_ok : ∀ (l : List (Bool × IT)) (xs : List Operand) (r : RA (HI l)), argA S sh l xs = some r → (∀ k, k ∈ r.rd → k ∉ io) → (gt = true → r.g = true) → nodB r.io = true →
    RepA zA A w l (xs.map a.eval) r.x (bsOf ρ r.io) ∧ ∀ k, k ∈ r.io → ∃ e, look k S.en = some e ∧ isOwn e = true
  | [], xs, r, hr, _, _, _ => by
    simp only [argA] at hr
    split at hr
    · simp only [Option.some.injEq] at hr; subst hr; exact ⟨⟨rfl, rfl⟩, by simp⟩
    · cases hr
  | t :: l, xs, r, hr, h1, h2, h3 => by
    simp only [argA] at hr
    split at hr
    · next y ys =>
      split at hr
      · next p q hp hq =>
        simp only [Option.some.injEq] at hr
        subst hr
        simp only [Bool.and_eq_true, List.mem_append] at h1 h2 h3
        obtain ⟨n1, n2, n3⟩ := nodB_app h3
        obtain ⟨m, hm, hr⟩ := Option.bind_eq_some_iff.1 hp
        obtain ⟨z, hz, hg⟩ := Option.bind_eq_some_iff.1 hm
        obtain ⟨us, hd, hv⟩ := argC_ok hg (av_ok h hz)
        obtain ⟨a1, _, a3⟩ := argI_ok h hA hio t.2 _ _ p hd hr (fun k hk => h1 k (.inl hk)) (fun g => (h2 g).1) n1
        obtain ⟨b1, b3⟩ := argA_ok l ys q hq (fun k hk => h1 k (.inr hk)) (fun g => (h2 g).2) n2
        refine ⟨⟨_, _, bsOf ρ p.io, bsOf ρ q.io, rfl, by simp [bsOf], fun b g1 g2 => ?_, ⟨us, hv, a1⟩, b1⟩, fun k hk => (List.mem_append.1 hk).elim (a3 k) (b3 k)⟩
        obtain ⟨k1, hk1, v1, hv1, hb1⟩ := bsOf_mem g1
        obtain ⟨k2, hk2, v2, hv2, hb2⟩ := bsOf_mem g2
        obtain ⟨e1, he1, ho1⟩ := a3 k1 hk1
        obtain ⟨e2, he2, ho2⟩ := b3 k2 hk2
        exact h.ap k1 k2 e1 e2 v1 v2 b (fun e => n3 k1 hk1 (e ▸ hk2)) he1 he2 ho1 ho2 hv1 hv2 hb1 hb2
      · cases hr
    · cases hr
end

theorem Upd.len : ∀ {t : TC} {us us' : List Value} {x : t.D}, Upd t us us' x → us.length = t.n ∧ us'.length = t.n
  | .i _, _, _, _, h => by obtain ⟨h1, rfl⟩ := h; exact ⟨h1, rfl⟩
  | .b, _, _, _, h => by obtain ⟨h1, rfl⟩ := h; exact ⟨h1, rfl⟩
  | .s, _, _, _, h => by obtain ⟨h1, rfl⟩ := h; exact ⟨h1, rfl⟩
  | .sl _, _, _, _, h => by obtain ⟨h1, rfl⟩ := h; exact ⟨h1, h1⟩
  | .pr t u, _, _, _, h => by
    obtain ⟨a, b, a', b', rfl, rfl, h1, h2⟩ := h
    obtain ⟨l1, l2⟩ := h1.len
    obtain ⟨m1, m2⟩ := h2.len
    simp [TC.n, l1, l2, m1, m2]
  | .tw t u, _, _, _, h => by
    obtain ⟨a, b, a', b', rfl, rfl, h1, h2⟩ := h
    obtain ⟨l1, l2⟩ := h1.len
    obtain ⟨m1, m2⟩ := h2.len
    simp [TC.n, l1, l2, m1, m2]
theorem updB_ok {ρ : Env} : ∀ {t : TC} {l : List A1} {us us' : List Value} {x : t.D}, DenL ρ l us → Upd t us us' x → DenL ρ (updB t l x) us'
  | .i _, _, _, _, _, _, h => by obtain ⟨h1, rfl⟩ := h; exact ⟨_, [], rfl, rfl, rfl⟩
  | .b, _, _, _, _, _, h => by obtain ⟨h1, rfl⟩ := h; exact ⟨_, [], rfl, rfl, rfl⟩
  | .s, _, _, _, _, _, h => by obtain ⟨h1, rfl⟩ := h; exact ⟨_, [], rfl, rfl, rfl⟩
  | .sl _, _, _, _, _, hd, h => by obtain ⟨h1, rfl⟩ := h; exact hd
  | .pr t u, l, _, _, x, hd, h => by
    obtain ⟨a, b, a', b', rfl, rfl, h1, h2⟩ := h
    have l1 := h1.len.1
    have d1 := hd.take t.n
    have d2 := hd.drop t.n
    rw [List.take_left' l1] at d1
    rw [List.drop_left' l1] at d2
    exact (updB_ok d1 h1).append (updB_ok d2 h2)
  | .tw t u, l, _, _, x, hd, h => by
    obtain ⟨a, b, a', b', rfl, rfl, h1, h2⟩ := h
    have l1 := h1.len.1
    have d1 := hd.take t.n
    have d2 := hd.drop t.n
    rw [List.take_left' l1] at d1
    rw [List.drop_left' l1] at d2
    exact (updB_ok d1 h1).append (updB_ok d2 h2)

theorem updBI_ok {ρ : Env} : ∀ {t : IT} {l : List A1} {us us' : List Value} {x : t.D}, DenL ρ l us → UpdI t us us' x → DenL ρ (updBI t l x) us'
  | .v _, _, _, _, _, hd, h => updB_ok hd h
  | .own _ _, _, _, _, _, hd, h => by obtain ⟨h1, rfl⟩ := h; exact hd
  | .bx _, _, _, _, _, hd, h => by obtain ⟨h1, rfl⟩ := h; exact hd
  | .mp _ _ _, _, _, _, _, hd, h => by obtain ⟨h1, rfl⟩ := h; exact hd
  | .bo _, _, _, _, _, hd, h => by obtain ⟨h1, rfl⟩ := h; exact hd
  | .k _, _, _, _, _, hd, h => by obtain ⟨h1, rfl⟩ := h; exact hd
  | .pr t u, l, _, _, x, hd, h => by
    obtain ⟨a, b, a', b', rfl, rfl, hl, h1, h2⟩ := h
    have d1 := hd.take t.n
    have d2 := hd.drop t.n
    rw [List.take_left' hl] at d1
    rw [List.drop_left' hl] at d2
    exact (updBI_ok d1 h1).append (updBI_ok d2 h2)

theorem argI_own {en : List (Nat × Ent)} {sh : Bool} : ∀ (t : IT) (l : List A1) (r : RA t.D), argI en sh t l = some r → ∀ j, j ∈ r.io → ∃ e, look j en = some e ∧ isOwn e = true := by
  intro t
  induction t with
  | v t =>
    intro l r hr j hj
    simp only [argI, argV] at hr
    split at hr <;> split at hr <;> first | (cases hr; simp at hj) | cases hr
  | own e t =>
    intro l r hr j hj
    simp only [argI] at hr
    split at hr
    · split at hr
      · next e' t' xs fr hl =>
        split at hr
        · cases hb : nb e' e with
          | false => rw [hb] at hr; cases hr
          | true => rw [hb] at hr; cases hr; simp at hj; subst hj; exact ⟨_, hl, rfl⟩
        · cases hr
      · cases hr
    · next n m =>
      cases hb : nb n 0 && nb m 0 with
      | false => rw [hb] at hr; cases hr
      | true => rw [hb] at hr; cases hr; simp at hj
    · cases hr
  | bx t =>
    intro l r hr j hj
    simp only [argI] at hr
    split at hr
    · split at hr
      · next hl =>
        split at hr
        · cases hr; simp at hj; subst hj; exact ⟨_, hl, rfl⟩
        · cases hr
      · cases hr
    · cases hr
  | mp g tk tv =>
    intro l r hr j hj
    simp only [argI] at hr
    split at hr
    · split at hr
      · next g' tk' tv' m hl =>
        split at hr
        · cases hb : eqb g' g && (nb tk.nsl 0 && nb tv.nsl 0) with
          | false => rw [hb] at hr; cases hr
          | true => rw [hb] at hr; cases hr; simp at hj; subst hj; exact ⟨_, hl, rfl⟩
        · cases hr
      · cases hr
    · cases hr
  | bo t ih =>
    intro l r hr j hj
    simp only [argI] at hr
    split at hr
    · split at hr
      · next hl =>
        split at hr
        · next r' hr' =>
          cases hr
          rcases List.mem_cons.1 hj with rfl | hj
          · exact ⟨_, hl, rfl⟩
          · exact ih _ r' hr' j hj
        · cases hr
      · cases hr
    · cases hr
  | k f =>
    intro l r hr j hj
    simp only [argI] at hr
    split at hr
    · next f' =>
      cases hb : nb f' f with
      | false => rw [hb] at hr; cases hr
      | true => rw [hb] at hr; cases hr; simp at hj
    · cases hr
  | pr t u iht ihu =>
    intro l r hr j hj
    simp only [argI] at hr
    split at hr
    · next p q hp hq =>
      cases hr
      rcases List.mem_append.1 hj with hj | hj
      · exact iht _ p hp j hj
      · exact ihu _ q hq j hj
    · cases hr
theorem argA_own {S : St} {sh : Bool} : ∀ (l : List (Bool × IT)) (xs : List Operand) (r : RA (HI l)), argA S sh l xs = some r → ∀ j, j ∈ r.io → ∃ e, look j S.en = some e ∧ isOwn e = true
  | [], xs, r, hr, j, hj => by
    simp only [argA] at hr
    split at hr
    · cases hr; simp at hj
    · cases hr
  | t :: l, xs, r, hr, j, hj => by
    simp only [argA] at hr
    split at hr
    · split at hr
      · next p q hp hq =>
        cases hr
        obtain ⟨m, _, hm⟩ := Option.bind_eq_some_iff.1 hp
        rcases List.mem_append.1 hj with hj | hj
        · exact argI_own _ _ p hm j hj
        · exact argA_own _ _ q hq j hj
      · cases hr
    · cases hr
theorem updI_io {en : List (Nat × Ent)} {sh g : Bool} : ∀ (t : IT) (l : List A1) (r : RA t.D) (x : t.D), argI en sh t l = some r → ∀ j e, (j, e) ∈ updI en sh g t l x → j ∈ r.io := by
  intro t
  induction t with
  | v t => intro l r x _ j e he; simp [updI] at he
  | k f => intro l r x _ j e he; simp [updI] at he
  | own e t =>
    intro l r x hr j e1 he
    simp only [argI] at hr
    split at hr
    · next k =>
      split at hr
      · next e' t' xs fr hl =>
        split at hr
        · next g hg =>
          cases hb : nb e' e with
          | false => rw [hb] at hr; cases hr
          | true =>
            rw [hb] at hr; cases hr
            simp only [updI, hl, hg, List.mem_singleton, Prod.mk.injEq] at he
            simp [he.1]
        · cases hr
      · cases hr
    · simp [updI] at he
    · cases hr
  | bx t =>
    intro l r x hr j e1 he
    simp only [argI] at hr
    split at hr
    · next k =>
      split at hr
      · next m hl =>
        split at hr
        · cases hr
          simp only [updI, hl, List.mem_singleton, Prod.mk.injEq] at he
          simp [he.1]
        · cases hr
      · cases hr
    · cases hr
  | mp g tk tv =>
    intro l r x hr j e1 he
    simp only [argI] at hr
    split at hr
    · next k =>
      split at hr
      · next g' tk' tv' m hl =>
        split at hr
        · cases hb : eqb g' g && (nb tk.nsl 0 && nb tv.nsl 0) with
          | false => rw [hb] at hr; cases hr
          | true =>
            rw [hb] at hr; cases hr
            simp only [updI, List.mem_singleton, Prod.mk.injEq] at he
            simp [he.1]
        · cases hr
      · cases hr
    · cases hr
  | bo t ih =>
    intro l r x hr j e1 he
    simp only [argI] at hr
    split at hr
    · next k =>
      split at hr
      · next m hl =>
        split at hr
        · next r' hr' =>
          cases hr
          simp only [updI, hl, List.mem_cons, Prod.mk.injEq] at he
          rcases he with he | he
          · simp [he.1]
          · exact List.mem_cons_of_mem _ (ih _ r' _ hr' j e1 he)
        · cases hr
      · cases hr
    · cases hr
  | pr t u iht ihu =>
    intro l r x hr j e he
    simp only [argI] at hr
    split at hr
    · next p q hp hq =>
      cases hr
      simp only [updI, List.mem_append] at he ⊢
      exact he.imp (iht _ p _ hp j e) (ihu _ q _ hq j e)
    · cases hr
theorem updA_io {S : St} {sh g : Bool} : ∀ (l : List (Bool × IT)) (xs : List Operand) (r : RA (HI l)) (x : HI l), argA S sh l xs = some r → ∀ j e, (j, e) ∈ updA S sh g l xs x → j ∈ r.io
  | [], xs, r, x, _, j, e, he => by simp [updA] at he
  | t :: l, xs, r, x, hr, j, e, he => by
    simp only [argA] at hr
    split at hr
    · split at hr
      · next p q hp hq =>
        cases hr
        obtain ⟨m, h0, hm⟩ := Option.bind_eq_some_iff.1 hp
        simp only [updA, h0, List.mem_append] at he ⊢
        exact he.imp (updI_io _ _ p _ hm j e) (updA_io _ _ q _ hq j e)
      · cases hr
    · cases hr

/-- what is needed of the memory after a call -/
structure After (c : Cx) (O1 O1' : Nat → Prop) (w' : World) (sh gt : Bool) (A' : Nat → Prop) (zA : Prop) : Prop where
  z : sh = true → zs c gt → zA
  sub : ∀ b, O1 b → O1' b
  t : sh = true → ∀ b, b < w'.heap.size → ¬ A' b → ¬ offs c O1' gt b

section
variable {c : Cx} {N O1 O1' : Nat → Prop} {ρ ρ' : Env} {S : St} {a : Act} {w w' : World} (h : Conc c N O1 ρ S a w) (hE : Ext ρ ρ') {sh gt : Bool} {A' : Nat → Prop} {zA : Prop} (hA : After c O1 O1' w' sh gt A' zA)
include h hE hA
theorem updI_ok : ∀ (t : IT) (l : List A1) (vs : List Value) (r : RA t.D) (x : t.D), DenL ρ l vs → vs.length = t.n → argI S.en sh t l = some r → (sh = true ∨ flatI t = true) → RepU zA A' w w' t vs x →
    (∀ k e, (k, e) ∈ updI S.en sh gt t l x → k ∈ r.io ∧ isOwn e = true ∧ EntOk c O1' ρ' w' k e) ∧ ∀ k, k ∈ r.io → ∃ e, (k, e) ∈ updI S.en sh gt t l x
  | .v t, l, vs, r, x, hd, _, hr, _, _ => by
    have : r.io = [] := by
      simp only [argI, argV] at hr
      split at hr <;> split at hr <;> first | (cases hr; rfl) | cases hr
    exact ⟨by simp [updI], by simp [this]⟩
  | .k f, l, vs, r, x, hd, _, hr, _, _ => by
    have : r.io = [] := by
      simp only [argI] at hr
      split at hr
      · next f' =>
        cases hb : nb f' f with
        | false => rw [hb] at hr; cases hr
        | true => rw [hb] at hr; cases hr; rfl
      · cases hr
    exact ⟨by simp [updI], by simp [this]⟩
  | .own e t, l, vs, r, x, hd, _, hr, hf, hu => by
    simp only [argI] at hr
    split at hr
    · next k =>
      obtain ⟨v, us, rfl, hv, rfl⟩ := hd
      simp only [den1] at hv
      split at hr
      · next e' t' xs fr hl =>
        split at hr
        · next g hg =>
          have hg0 := hg
          subst g
          cases hb : nb e' e with
          | false => rw [hb] at hr; cases hr
          | true =>
            rw [hb] at hr
            simp only [castD, cast_eq, cond_true, Option.some.injEq] at hr
            subst hr
            have := eq_of_nb hb
            subst this
            have hup : updI S.en sh gt (.own e' t') [.ref k] x = [(k, .own e' t' x (bif sh then gt else fr))] := by
              simp [updI, hl, hg0, castD]
            rw [hup]
            refine ⟨fun k' e1 he => ?_, fun k' hk' => by simp at hk'; subst hk'; exact ⟨_, List.mem_singleton.2 rfl⟩⟩
            simp only [List.mem_singleton, Prod.mk.injEq] at he
            obtain ⟨rfl, rfl⟩ := he
            obtain ⟨v', cs, e1, e2, e3, e4, e5⟩ := h.en _ _ hl
            rw [hv] at e1; cases e1
            obtain ⟨v2, cs', hv2, f2, f5⟩ := hu
            simp only [List.cons.injEq, and_true] at hv2
            subst hv2
            have hlen : x.length ≤ LB := by
              rcases e2.2 with ⟨rfl, _⟩ | ⟨g, cap, cur, rfl, _⟩
              · rcases f2.2 with ⟨_, h0⟩ | ⟨g', cap', cur', hh, _⟩
                · rw [h0]; exact Nat.zero_le _
                · cases hh
              · rcases f2.2 with ⟨hh, _⟩ | ⟨g', cap', cur', hh, _⟩
                · cases hh
                · simp only [Value.slice.injEq] at hh
                  omega
            refine ⟨by simp, rfl, v, cs', hE _ _ hv, f2, hlen, fun b hb => hA.sub b (e4 b hb), fun i y hy => ?_⟩
            cases sh with
            | true => exact (f5 i y hy).move (fun hz => hA.z rfl hz) fun b hb hn => ⟨hA.t rfl b hb hn, rfl⟩
            | false => exact (f5 i y hy).flat (by
                have := hf.resolve_left (by simp)
                exact eq_of_nb this)
        · cases hr
      · cases hr
    · next n m =>
      cases hn : nb n 0 && nb m 0 with
      | false => rw [hn] at hr; cases hr
      | true =>
        rw [hn] at hr
        simp only [cond_true, Option.some.injEq] at hr
        subst hr
        exact ⟨by simp [updI], by simp⟩
    · cases hr
  | .bx t, l, vs, r, x, hd, _, hr, _, hu => by
    simp only [argI] at hr
    split at hr
    · next k =>
      obtain ⟨v, us, rfl, hv, rfl⟩ := hd
      simp only [den1] at hv
      split at hr
      · next m hl =>
        split at hr
        · next r' hr' =>
          simp only [Option.some.injEq] at hr
          subst hr
          have hup : updI S.en sh gt (.bx t) [.ref k] x = [(k, .box (updB t m x))] := by simp [updI, hl]
          rw [hup]
          refine ⟨fun k' e1 he => ?_, fun k' hk' => by simp at hk'; subst hk'; exact ⟨_, List.mem_singleton.2 rfl⟩⟩
          simp only [List.mem_singleton, Prod.mk.injEq] at he
          obtain ⟨rfl, rfl⟩ := he
          obtain ⟨b, e, us, e1, e2, e3, e4, e5⟩ := h.en _ _ hl
          rw [hv] at e1; cases e1
          obtain ⟨b', e', e2', us1, us2, hv2, f1, f2, f3, f4⟩ := hu
          simp only [List.cons.injEq, and_true, Value.pointer.injEq, Option.some.injEq, Addr.mk.injEq] at hv2
          subst hv2
          rw [e5] at f1
          simp only [Option.some.injEq, Obj.cells.injEq, and_true] at f1
          obtain ⟨f1, rfl⟩ := f1
          have : us = us1 := by simpa using congrArg Array.toList f1
          subst this
          exact ⟨by simp, rfl, b, e2', us2, hE _ _ hv, hA.sub b e2, (updB_ok e3 f4).ext hE, f3, f2⟩
        · cases hr
      · cases hr
    · cases hr
  | .mp g tk tv, l, vs, r, x, hd, _, hr, _, hu => by
    simp only [argI] at hr
    split at hr
    · next k =>
      obtain ⟨v, us, rfl, hv, rfl⟩ := hd
      simp only [den1] at hv
      split at hr
      · next g' tk' tv' m hl =>
        split at hr
        · next e1 e2 _ _ =>
          subst e1; subst e2
          cases hb : eqb g' g && (nb tk'.nsl 0 && nb tv'.nsl 0) with
          | false => rw [hb] at hr; cases hr
          | true =>
            rw [hb] at hr
            simp only [castM, cast_eq, cond_true, Option.some.injEq] at hr
            subst hr
            simp only [Bool.and_eq_true] at hb
            refine ⟨fun k' e1 he => ?_, fun k' hk' => by simp at hk'; subst hk'; exact ⟨_, by simp [updI]; rfl⟩⟩
            simp only [updI, List.mem_singleton, Prod.mk.injEq] at he
            obtain ⟨rfl, rfl⟩ := he
            obtain ⟨b, es, cl, q1, q2, q3, q4⟩ := h.en _ _ hl
            rw [hv] at q1; cases q1
            obtain ⟨b', es', cl', f1, f2, f3⟩ := hu
            simp only [List.cons.injEq, and_true, Value.map.injEq, Option.some.injEq] at f1
            subst f1
            exact ⟨by simp, rfl, b, es', cl', hE _ _ hv, hA.sub b q2, f2, f3.flat (eq_of_nb hb.2.1) (eq_of_nb hb.2.2)⟩
        · cases hr
      · cases hr
    · cases hr
  | .bo t, l, vs, r, x, hd, _, hr, hf, hu => by
    simp only [argI] at hr
    split at hr
    · next k =>
      obtain ⟨v, us, rfl, hv, rfl⟩ := hd
      simp only [den1] at hv
      split at hr
      · next m hl =>
        split at hr
        · next r' hr' =>
          simp only [Option.some.injEq] at hr
          subst hr
          have hup : updI S.en sh gt (.bo t) [.ref k] x = (k, .box (updBI t m x)) :: updI S.en sh gt t m x := by simp [updI, hl]
          rw [hup]
          obtain ⟨b, e, us, e1, e2, e3, e4, e5⟩ := h.en _ _ hl
          rw [hv] at e1; cases e1
          obtain ⟨b', e', e2', us1, us2, hv2, f1, f2, f3, f4, f5, f6⟩ := hu
          simp only [List.cons.injEq, and_true, Value.pointer.injEq, Option.some.injEq, Addr.mk.injEq] at hv2
          subst hv2
          rw [e5] at f1
          simp only [Option.some.injEq, Obj.cells.injEq, and_true] at f1
          obtain ⟨f1, rfl⟩ := f1
          have : us = us1 := by simpa using congrArg Array.toList f1
          subst this
          obtain ⟨a1, a2⟩ := updI_ok t m us r' x e3 f4 hr' hf f6
          refine ⟨fun k' e1 he => ?_, fun k' hk' => ?_⟩
          · rcases List.mem_cons.1 he with he | he
            · simp only [Prod.mk.injEq] at he
              obtain ⟨rfl, rfl⟩ := he
              exact ⟨by simp, rfl, b, e2', us2, hE _ _ hv, hA.sub b e2, (updBI_ok e3 f5).ext hE, f3, f2⟩
            · have := a1 k' e1 he
              exact ⟨List.mem_cons_of_mem _ this.1, this.2⟩
          · rcases List.mem_cons.1 hk' with rfl | hk'
            · exact ⟨_, List.mem_cons_self ..⟩
            · obtain ⟨e, he⟩ := a2 k' hk'
              exact ⟨e, List.mem_cons_of_mem _ he⟩
        · cases hr
      · cases hr
    · cases hr
  | .pr t u, l, vs, r, x, hd, hl, hr, hf, hu => by
    simp only [argI] at hr
    split at hr
    · next p q hp hq =>
      simp only [Option.some.injEq] at hr
      subst hr
      simp only [flatI, Bool.and_eq_true] at hf
      obtain ⟨us, ws, rfl, hul, u1, u2⟩ := hu
      have d1 := hd.take t.n
      have d2 := hd.drop t.n
      rw [List.take_left' hul] at d1
      rw [List.drop_left' hul] at d2
      obtain ⟨a1, a2⟩ := updI_ok t _ us p x.1 d1 hul hp (hf.imp id (·.1)) u1
      obtain ⟨b1, b2⟩ := updI_ok u _ ws q x.2 d2 (by simp [IT.n] at hl; omega) hq (hf.imp id (·.2)) u2
      simp only [updI, List.mem_append]
      refine ⟨fun k e he => ?_, fun k hk => ?_⟩
      · rcases he with he | he
        · have := a1 k e he; exact ⟨.inl this.1, this.2⟩
        · have := b1 k e he; exact ⟨.inr this.1, this.2⟩
      · rcases hk with hk | hk
        · obtain ⟨e, he⟩ := a2 k hk; exact ⟨e, .inl he⟩
        · obtain ⟨e, he⟩ := b2 k hk; exact ⟨e, .inr he⟩
    · cases hr
theorem updA_ok : ∀ (l : List (Bool × IT)) (xs : List Operand) (r : RA (HI l)) (x : HI l), argA S sh l xs = some r → (sh = true ∨ flatA l = true) → RepV zA A' w w' l (xs.map a.eval) x →
    (∀ k e, (k, e) ∈ updA S sh gt l xs x → k ∈ r.io ∧ isOwn e = true ∧ EntOk c O1' ρ' w' k e) ∧ ∀ k, k ∈ r.io → ∃ e, (k, e) ∈ updA S sh gt l xs x
  | [], xs, r, x, hr, _, _ => by
    simp only [argA] at hr
    split at hr
    · simp only [Option.some.injEq] at hr; subst hr; exact ⟨by simp [updA], by simp⟩
    · cases hr
  | t :: l, xs, r, x, hr, hf, hu => by
    simp only [argA] at hr
    split at hr
    · next y ys =>
      split at hr
      · next p q hp hq =>
        simp only [Option.some.injEq] at hr
        subst hr
        simp only [flatA, Bool.and_eq_true] at hf
        obtain ⟨m, hm, hr⟩ := Option.bind_eq_some_iff.1 hp
        obtain ⟨z, hz, hg⟩ := Option.bind_eq_some_iff.1 hm
        obtain ⟨us, hd, hv⟩ := argC_ok hg (av_ok h hz)
        obtain ⟨v, vs', hvv, ⟨us2, hv2, hl2, u1⟩, u2⟩ := hu
        simp only [List.map_cons, List.cons.injEq] at hvv
        obtain ⟨rfl, rfl⟩ := hvv
        have : us = us2 := by
          rcases hv with ⟨g1, g2⟩ | ⟨g1, g2⟩ <;> rcases hv2 with ⟨k1, k2⟩ | ⟨k1, k2⟩
          · rw [g2] at k2; simpa using k2
          · rw [g1] at k1; cases k1
          · rw [g1] at k1; cases k1
          · rw [g2, k2]
        subst this
        obtain ⟨a1, a2⟩ := updI_ok h hE hA t.2 _ us p x.1 hd hl2 hr (hf.imp id (·.1)) u1
        obtain ⟨b1, b2⟩ := updA_ok l ys q x.2 hq (hf.imp id (·.2)) u2
        simp only [updA, hm, List.mem_append]
        refine ⟨fun k e he => ?_, fun k hk => ?_⟩
        · rcases he with he | he
          · have := a1 k e he; exact ⟨.inl this.1, this.2⟩
          · have := b1 k e he; exact ⟨.inr this.1, this.2⟩
        · rcases hk with hk | hk
          · obtain ⟨e, he⟩ := a2 k hk; exact ⟨e, .inl he⟩
          · obtain ⟨e, he⟩ := b2 k hk; exact ⟨e, .inr he⟩
      · cases hr
    · cases hr
end

def CsOk [B : Base] (C : Ctx) (cs : List (Nat × Con)) : Prop := ∀ f k, look f cs = some k → ConOk C.P f k
/-- that the parameters that may be written are still one's own, and none of them is in l -/
def pinsOk (pins : List Nat) (en : List (Nat × Ent)) (l : List Nat) : Bool :=
  pins.all fun p => !memb p l && (match look p en with | some e => isOwn e | none => false)
def aCall0 (k : Con) (S : St) (i0 : Nat) (args : List Operand) (K : Dl → Prop) : Prop :=
  match argA S k.sh k.ins args with
  | some r => (bif nle (nslR k.outs) 16 && (nodB r.io && (disj r.rd r.io && (k.sh || flatA k.ins))) then k.pre r.x ∧ (match retA (opnR (bif k.sh then r.g else true) k.outs (k.out r.x) i0).1 with
    | some y => K ⟨y, (opnR (bif k.sh then r.g else true) k.outs (k.out r.x) i0).2 ++ (match r.io with | [] => [] | _ :: _ => updA S k.sh r.g k.ins args (k.upd r.x))⟩
    | none => False) else False)
  | none => False
def goneL : List Nat → List (Nat × Ent)
  | [] => []
  | k :: l => (k, .gone) :: goneL l
def aCallE (mp : List Nat) (k : Con) (S : St) (i0 : Nat) (args : List Operand) (K : Dl → Prop) : Prop :=
  match argA S k.sh k.ins args with
  | some r => (bif nle (nslR k.outs) 16 && (nodB r.io && (disj r.rd r.io && pinsOk mp S.en r.io)) then k.pre r.x ∧ (match retA (opnR (bif k.sh then r.g else true) k.outs (k.out r.x) i0).1 with
    | some y => K ⟨y, (opnR (bif k.sh then r.g else true) k.outs (k.out r.x) i0).2 ++ goneL r.io⟩
    | none => False) else False)
  | none => False
def aCall (mp : List Nat) (cs : List (Nat × Con)) (S : St) (i0 : Nat) (f : Nat) (args : List Operand) (K : Dl → Prop) : Prop :=
  match look f cs with
  | some k => (match k.eat with | false => aCall0 k S i0 args K | true => aCallE mp k S i0 args K)
  | none => False

theorem opn_ids (g : Bool) : ∀ (t : TC) (x : t.D) (id : Nat) (k : Nat) (e : Ent), (k, e) ∈ (opn t x g id).2 → id ≤ k ∧ k < id + t.nsl := by
  intro t
  induction t with
  | i k => intro x id k e he; simp [opn] at he
  | b => intro x id k e he; simp [opn] at he
  | s => intro x id k e he; simp [opn] at he
  | sl t _ => intro x id k e he; simp [opn] at he; simp [TC.nsl]; omega
  | pr t u iht ihu =>
    intro x id k e he
    simp only [opn, List.mem_append] at he
    simp only [TC.nsl]
    rcases he with he | he
    · have := iht _ _ _ _ he; omega
    · have := ihu _ _ _ _ he; omega
  | tw t u iht ihu =>
    intro x id k e he
    simp only [opn, List.mem_append, List.mem_singleton, Prod.mk.injEq] at he
    simp only [TC.nsl]
    rcases he with he | he | he
    · have := iht _ _ _ _ he; omega
    · have := ihu _ _ _ _ he; omega
    · omega
theorem opnO_ids (g : Bool) : ∀ (t : OT) (x : t.D) (id : Nat) (k' : Nat) (e' : Ent), (k', e') ∈ (opnO g t x id).2 → id ≤ k' ∧ k' < id + t.nsl := by
  intro t
  induction t with
  | v t => intro x id k' e' he; exact opn_ids g _ _ _ _ _ he
  | own e t => intro x id k' e' he; simp [opnO] at he; simp [OT.nsl]; omega
  | bx t =>
    intro x id k' e' he
    simp only [opnO, List.mem_cons, Prod.mk.injEq] at he
    simp only [OT.nsl]
    rcases he with he | he
    · omega
    · have := opn_ids g _ _ _ _ _ he; omega
  | mp g tk tv => intro x id k' e' he; simp [opnO] at he; simp [OT.nsl]; omega
  | bo t ih =>
    intro x id k' e' he
    simp only [opnO, List.mem_cons, Prod.mk.injEq] at he
    simp only [OT.nsl]
    rcases he with he | he
    · omega
    · have := ih _ _ _ _ he; omega
  | pr t u iht ihu =>
    intro x id k e he
    simp only [opnO, List.mem_append] at he
    simp only [OT.nsl]
    rcases he with he | he
    · have := iht _ _ _ _ he; omega
    · have := ihu _ _ _ _ he; omega
  | tw t u iht ihu =>
    intro x id k e he
    simp only [opnO, List.mem_append, List.mem_singleton, Prod.mk.injEq] at he
    simp only [OT.nsl]
    rcases he with he | he | he
    · have := iht _ _ _ _ he; omega
    · have := ihu _ _ _ _ he; omega
    · omega
theorem opnR_ids (g : Bool) : ∀ (l : List (Bool × OT)) (x : HO l) (id : Nat) (k' : Nat) (e' : Ent), (k', e') ∈ (opnR g l x id).2 → id ≤ k' ∧ k' < id + nslR l := by
  intro l
  induction l with
  | nil => intro x id k' e' he; simp [opnR] at he
  | cons t l ih =>
    intro x id k' e' he
    simp only [opnR, List.mem_append] at he
    simp only [nslR]
    rcases he with he | he
    · have := opnO_ids _ _ _ _ _ _ he; omega
    · have := ih _ _ _ _ he; omega

theorem aCall0_ok [B : Base] {C : Ctx} {c : Cx} {cs : List (Nat × Con)} (hC : CtxOk C c) (hcs : CsOk C cs) {S : St} {i0 : Nat} {o : Oper} {f : Nat} {args : Array Operand} {ts : Array TypeId} {K : Dl → Prop} {k : Con} (hk : look f cs = some k) (hE : k.eat = false)
    (ho : o.op = .call { callee := .value (.func f), args := args, argTypes := ts }) (h : aCall0 k S i0 args.toList K) : ∃ δ, OpOk c S i0 o δ ∧ K δ := by
  unfold aCall0 at h
  · split at h
    · next r hr =>
      cases hbb : nle (nslR k.outs) 16 && (nodB r.io && (disj r.rd r.io && (k.sh || flatA k.ins))) with
      | false => rw [hbb] at h; exact h.elim
      | true =>
        rw [hbb] at h
        simp only [Bool.and_eq_true, Bool.or_eq_true] at hbb
        obtain ⟨h16, hnod, hdis, hflat⟩ := hbb
        have hn16 := le_of_nle h16
        simp only [cond_true] at h
        obtain ⟨hpre, h⟩ := h
        split at h
        · next y hy =>
          have hkk := hcs f k hk
          rw [← hC.P] at hkk
          obtain ⟨⟨fn, cd, hf1, hf2, hf3⟩, hcon⟩ := hkk
          generalize hU : (match r.io with | [] => [] | _ :: _ => updA S k.sh r.g k.ins args.toList (k.upd r.x)) = U at h
          generalize hG : (bif k.sh then r.g else true) = G at h hy
          have hown := argA_own _ _ _ hr
          have key : ∀ N O1 ρ a w, Conc c N O1 ρ S a w → (∀ k, i0 ≤ k → k < i0 + 16 → ρ k = none) → ∀ next Q,
              (∀ O1' ρ' v w', Den ρ' y v → (∀ j e, (j, e) ∈ U → ∃ e0, look j S.en = some e0 ∧ isOwn e0 = true) → StepTo c i0 ((opnR G k.outs (k.out r.x) i0).2 ++ U) O1 ρ w O1' ρ' w' → next (a.put o.dst v) w') → o.wp c.P a w next Q := by
            intro N O1 ρ a w hc hf next Q hnx
            have hio := hown
            have hbs : ∀ b, b ∈ bsOf ρ r.io → O1 b ∧ b < w.heap.size := fun b hb => by
              obtain ⟨j, hj, v, hv, hbv⟩ := bsOf_mem hb
              obtain ⟨e, he, ho⟩ := hio j hj
              obtain ⟨u, hu, hub⟩ := (hc.en j e he).val ho
              rw [hv] at hu; cases hu
              exact hub b hbv
            have hAA : ∃ O : Nat → Prop, (∀ b, O b → b < w.heap.size) ∧ (k.sh = false → ∀ b, b < w.heap.size → O b) ∧ (∀ b, b ∈ bsOf ρ r.io → O b) ∧ RepA (k.sh = true ∧ zs c G) (if k.sh then O else fun b => b ∈ bsOf ρ r.io) w k.ins (args.toList.map a.eval) r.x (bsOf ρ r.io) ∧
                ∀ bs : List Nat, ∀ b, ¬ (O b ∨ b ∈ bs) → ¬ offs c (fun b => O1 b ∨ b ∈ bs) G b := by
              cases hsh : k.sh with
              | false =>
                rw [hsh] at hG; simp only [cond_false] at hG; subst hG
                refine ⟨fun b => b < w.heap.size, fun b hb => hb, fun _ b hb => hb, fun b hb => (hbs b hb).2, ?_, fun bs b hn => ?_⟩
                · rw [hsh] at hr
                  simp only [Bool.false_eq_true, if_false]
                  exact (argA_ok (sh := false) (gt := false) (A := fun b => b ∈ bsOf ρ r.io) hc ⟨fun hz => (nomatch hz.1), by simp, fun _ b hb => bsOf_mem hb⟩ hio _ _ r hr (disj_ok hdis) (by simp) hnod).1
                · simp only [not_or, offs] at hn ⊢
                  refine ⟨⟨fun h1 => hn.1 (hc.olt b h1).1, hn.2⟩, fun h0 => hn.1 ?_⟩
                  exact Nat.lt_of_lt_of_le (hc.o0 b h0.2) hc.eff.size
              | true =>
                rw [hsh] at hG; simp only [cond_true] at hG; subst hG
                refine ⟨offs c O1 r.g, fun b hb => ?_, by simp, fun b hb => .inl (hbs b hb).1, ?_, fun bs b hn => ?_⟩
                · rcases hb with hb | hb
                  · exact (hc.olt b hb).1
                  · exact Nat.lt_of_lt_of_le (hc.o0 b hb.2) hc.eff.size
                · rw [hsh] at hr
                  simp only [if_true]
                  exact (argA_ok (sh := true) (gt := r.g) (A := offs c O1 r.g) hc ⟨fun hz => ⟨rfl, hz.2⟩, fun _ b hb => hb, by simp⟩ hio _ _ r hr (disj_ok hdis) (fun h => h) hnod).1
                · simp only [not_or, offs] at hn ⊢
                  exact ⟨⟨hn.1.1, hn.2⟩, hn.1.2⟩
            obtain ⟨O, hO1, hO2, hO4, hRA, hO3⟩ := hAA
            have hcall := hcon (zs c G) O w (args.toList.map a.eval) r.x (bsOf ρ r.io) (hC.oldNow hc) (fun b hb => hC.ownNew hc (hbs b hb).1) hO1 hO2 hO4 hRA hpre
            have hen : (execOp a.eval o).run c.P w = .ok (.enter f (args.toList.map a.eval).toArray) w := by
              have := callFunc_enter (P := c.P) hf1 hf2 hf3 (args.map a.eval) w
              have e1 : (args.toList.map a.eval).toArray = args.map a.eval := by rw [← Array.toList_map]
              rw [e1]
              simp [execOp, ho, resolve, Act.eval, Deferred.ofValue, invoke]
              exact this
            unfold Oper.wp
            rw [hen, Oper.upon_enter]
            refine hcall.mono ?_
            intro e w' hpost
            rw [hE] at hpost
            obtain ⟨vs, bs, rfl, hR, hV, hB⟩ := hpost
            have hR' : RepR (zs c G) (offs c (fun b => O1 b ∨ b ∈ bs) G) w.heap.size w' k.outs vs (k.out r.x) bs := hR.weak id fun b _ hn => hO3 bs b hn
            obtain ⟨ρ', hd, hop⟩ := opnR_ok (c := c) k.outs vs (k.out r.x) bs i0 ρ hR' (fun b hb => .inr hb) (fun k' h1 h2 => hf k' h1 (by omega))
            have hAf : After c O1 (fun b => O1 b ∨ b ∈ bs) w' k.sh r.g (fun b => (if k.sh then O b else b ∈ bsOf ρ r.io) ∨ b ∈ bs) (k.sh = true ∧ zs c G) := by
              refine ⟨fun hs hz => ⟨hs, by rw [hs] at hG; simp only [cond_true] at hG; rw [← hG]; exact hz⟩, fun b hb => .inl hb, fun hsh b _ hn => ?_⟩
              rw [hsh] at hG; simp only [cond_true] at hG
              simp only [hsh, if_true] at hn
              rw [hG]; exact hO3 bs b hn
            have hupd := updA_ok hc hop.ext hAf k.ins args.toList r (k.upd r.x) hr hflat hV
            have hU1 : ∀ j e, (j, e) ∈ U → j ∈ r.io ∧ isOwn e = true ∧ EntOk c (fun b => O1 b ∨ b ∈ bs) ρ' w' j e := by
              intro j e he
              subst hU
              split at he
              · simp at he
              · exact hupd.1 j e he
            have hU2 : ∀ j, j ∈ r.io → ∃ e, (j, e) ∈ U := by
              intro j hj
              subst hU
              split
              · next h0 => rw [h0] at hj; simp at hj
              · exact hupd.2 j hj
            have oldU : ∀ j e v (_b : Nat), (j, e) ∈ U → ρ' j = some v → ρ j = some v ∧ ∃ e0, look j S.en = some e0 ∧ isOwn e0 = true := by
              intro j e v b he hv
              obtain ⟨e0, he0, ho0⟩ := hio j (hU1 j e he).1
              obtain ⟨u, hu, _⟩ := (hc.en j e0 he0).val ho0
              have := hop.ext _ _ hu
              rw [hv] at this; cases this
              exact ⟨hu, e0, he0, ho0⟩
            have mem : ∀ j e, look j ((opnR G k.outs (k.out r.x) i0).2 ++ U) = some e → (j, e) ∈ (opnR G k.outs (k.out r.x) i0).2 ∨ (j, e) ∈ U := fun j e he => List.mem_append.1 (look_mem he)
            refine hnx (fun b => O1 b ∨ b ∈ bs) ρ' (retV vs) w' (retA_ok hy hd) (fun j e he => hio j (hU1 j e he).1) ⟨hop.ext, fun k' hk' => hop.ids k' (by omega), fun k' v hv => ?_, ?_, fun k' e he => ?_, ?_, fun b hb => .inl (.inl hb), ?_, ?_⟩
            · rcases hop.one k' v hv with hv | hv
              · exact hc.one k' v hv
              · exact hv
            · refine ⟨hB.os, hB.tape, hB.output, hB.size, fun b hb hn => hB.block b hb fun hbb => hn ⟨(hbs b hbb).1, ?_⟩⟩
              obtain ⟨j, hj, v, hv, hbv⟩ := bsOf_mem hbb
              obtain ⟨e, he⟩ := hU2 j hj
              exact ⟨j, e, v, List.mem_append_right _ he, hv, hbv⟩
            · rcases mem k' e he with he | he
              · exact (hop.ent k' e he).2.2
              · exact (hU1 k' e he).2.2
            · intro b hb
              exact hb.imp id (hop.big b)
            · intro k' e v b he ho' hv hb
              rcases mem k' e he with he | he
              · exact .inl (hop.big b (hop.blk k' e v b he ho' hv hb)).1
              · exact .inr ⟨k', e, v, List.mem_append_right _ he, (oldU k' e v b he hv).1, hb⟩
            · intro k1 k2 e1 e2 v1 v2 b hne he1 he2 ho1 ho2 hv1 hv2 hb1 hb2
              rcases mem k1 e1 he1 with he1 | he1 <;> rcases mem k2 e2 he2 with he2 | he2
              · exact hop.ap k1 k2 e1 e2 v1 v2 b hne he1 he2 ho1 ho2 hv1 hv2 hb1 hb2
              · obtain ⟨g1, e0, he0, ho0⟩ := oldU k2 e2 v2 b he2 hv2
                obtain ⟨u, hu, hub⟩ := (hc.en k2 e0 he0).val ho0
                rw [g1] at hu; cases hu
                have := (hub b hb2).2
                have := (hop.big b (hop.blk k1 e1 v1 b he1 ho1 hv1 hb1)).1
                omega
              · obtain ⟨g1, e0, he0, ho0⟩ := oldU k1 e1 v1 b he1 hv1
                obtain ⟨u, hu, hub⟩ := (hc.en k1 e0 he0).val ho0
                rw [g1] at hu; cases hu
                have := (hub b hb1).2
                have := (hop.big b (hop.blk k2 e2 v2 b he2 ho2 hv2 hb2)).1
                omega
              · obtain ⟨g1, e01, he01, ho01⟩ := oldU k1 e1 v1 b he1 hv1
                obtain ⟨g2, e02, he02, ho02⟩ := oldU k2 e2 v2 b he2 hv2
                exact hc.ap k1 k2 e01 e02 v1 v2 b hne he01 he02 ho01 ho02 g1 g2 hb1 hb2
          refine ⟨_, ⟨fun k' e' he => ?_, fun N O1 ρ a w hc hf next Q hnx => key N O1 ρ a w hc hf next Q fun O1' ρ' v w' hv _ hs => hnx O1' ρ' v w' hv hs⟩, h⟩
          simp only at he
          rcases List.mem_append.1 he with he | he
          · have := opnR_ids _ _ _ _ _ _ he
            exact .inl (by omega)
          · right
            refine hown k' ?_
            subst hU
            split at he
            · simp at he
            · exact updA_io _ _ _ _ hr _ _ he
        · exact h.elim
    · exact h.elim

theorem goneL_mem {j : Nat} {e : Ent} : ∀ {l : List Nat}, (j, e) ∈ goneL l → j ∈ l ∧ e = .gone
  | [], h => by simp [goneL] at h
  | k :: l, h => by
    simp only [goneL, List.mem_cons, Prod.mk.injEq] at h
    rcases h with ⟨rfl, rfl⟩ | h
    · exact ⟨List.mem_cons_self .., rfl⟩
    · exact ⟨List.mem_cons_of_mem _ (goneL_mem h).1, (goneL_mem h).2⟩
theorem mem_goneL {j : Nat} : ∀ {l : List Nat}, j ∈ l → (j, Ent.gone) ∈ goneL l
  | [], h => by simp at h
  | k :: l, h => by
    rcases List.mem_cons.1 h with rfl | h
    · exact List.mem_cons_self ..
    · exact List.mem_cons_of_mem _ (mem_goneL h)
theorem aCallE_ok [B : Base] {C : Ctx} {c : Cx} {cs : List (Nat × Con)} (hC : CtxOk C c) (hcs : CsOk C cs) {S : St} {i0 : Nat} {o : Oper} {f : Nat} {args : Array Operand} {ts : Array TypeId} {K : Dl → Prop} {k : Con} (hk : look f cs = some k) (hE : k.eat = true)
    (ho : o.op = .call { callee := .value (.func f), args := args, argTypes := ts }) (h : aCallE C.mpins k S i0 args.toList K) : ∃ δ, OpOk c S i0 o δ ∧ K δ := by
  unfold aCallE at h
  split at h
  · next r hr =>
    cases hbb : nle (nslR k.outs) 16 && (nodB r.io && (disj r.rd r.io && pinsOk C.mpins S.en r.io)) with
    | false => rw [hbb] at h; exact h.elim
    | true =>
      rw [hbb] at h
      simp only [Bool.and_eq_true] at hbb
      obtain ⟨h16, hnod, hdis, hpins⟩ := hbb
      have hn16 := le_of_nle h16
      simp only [cond_true] at h
      obtain ⟨hpre, h⟩ := h
      split at h
      · next y hy =>
        have hkk := hcs f k hk
        rw [← hC.P] at hkk
        obtain ⟨⟨fn, cd, hf1, hf2, hf3⟩, hcon⟩ := hkk
        generalize hG : (bif k.sh then r.g else true) = G at h hy
        have hown := argA_own _ _ _ hr
        have key : ∀ N O1 ρ a w, Conc c N O1 ρ S a w → (∀ k, i0 ≤ k → k < i0 + 16 → ρ k = none) → ∀ next Q,
            (∀ O1' ρ' v w', Den ρ' y v → StepTo c i0 ((opnR G k.outs (k.out r.x) i0).2 ++ goneL r.io) O1 ρ w O1' ρ' w' → next (a.put o.dst v) w') → o.wp c.P a w next Q := by
          intro N O1 ρ a w hc hf next Q hnx
          have hio := hown
          have hbs : ∀ b, b ∈ bsOf ρ r.io → O1 b ∧ b < w.heap.size := fun b hb => by
            obtain ⟨j, hj, v, hv, hbv⟩ := bsOf_mem hb
            obtain ⟨e, he, ho⟩ := hio j hj
            obtain ⟨u, hu, hub⟩ := (hc.en j e he).val ho
            rw [hv] at hu; cases hu
            exact hub b hbv
          have hno : ∀ b, b ∈ bsOf ρ r.io → ¬ c.O0 b := fun b hb h0 => by
            obtain ⟨j, hj, v, hv, hbv⟩ := bsOf_mem hb
            obtain ⟨e, he, ho⟩ := hio j hj
            rcases (hc.olt b (hbs b hb).1).2 with h1 | h1
            · have := hc.o0 b h0; omega
            · rcases hC.pm b h1 with ⟨p, u, hp, hpu, hub⟩ | hn
              · simp only [pinsOk, List.all_eq_true, Bool.and_eq_true, Bool.not_eq_true'] at hpins
                obtain ⟨g1, g2⟩ := hpins p hp
                split at g2
                · next e' he' =>
                  have hpj : p ≠ j := fun e => by rw [e, memb_iff.2 hj] at g1; cases g1
                  exact hc.ap p j e' e u v b hpj he' he g2 ho (hc.pin p u hpu) hv hub hbv
                · cases g2
              · exact hn h0
          have hAA : ∃ O : Nat → Prop, (∀ b, O b → b < w.heap.size) ∧ (k.sh = false → ∀ b, b < w.heap.size → O b) ∧ (∀ b, b ∈ bsOf ρ r.io → O b) ∧ RepA (k.sh = true ∧ zs c G) (if k.sh then O else fun b => b ∈ bsOf ρ r.io) w k.ins (args.toList.map a.eval) r.x (bsOf ρ r.io) ∧
              ∀ bs : List Nat, ∀ b, ¬ ((O b ∧ b ∉ bsOf ρ r.io) ∨ b ∈ bs) → ¬ offs c (fun b => (O1 b ∧ b ∉ bsOf ρ r.io) ∨ b ∈ bs) G b := by
            cases hsh : k.sh with
            | false =>
              rw [hsh] at hG; simp only [cond_false] at hG; subst hG
              refine ⟨fun b => b < w.heap.size, fun b hb => hb, fun _ b hb => hb, fun b hb => (hbs b hb).2, ?_, fun bs b hn hx => ?_⟩
              · rw [hsh] at hr
                simp only [Bool.false_eq_true, if_false]
                exact (argA_ok (sh := false) (gt := false) (A := fun b => b ∈ bsOf ρ r.io) hc ⟨fun hz => (nomatch hz.1), by simp, fun _ b hb => bsOf_mem hb⟩ hio _ _ r hr (disj_ok hdis) (by simp) hnod).1
              · rcases hx with (⟨h1, h2⟩ | h1) | h1
                · exact hn (.inl ⟨(hc.olt b h1).1, h2⟩)
                · exact hn (.inr h1)
                · exact hn (.inl ⟨Nat.lt_of_lt_of_le (hc.o0 b h1.2) hc.eff.size, fun hm => hno b hm h1.2⟩)
            | true =>
              rw [hsh] at hG; simp only [cond_true] at hG; subst hG
              refine ⟨offs c O1 r.g, fun b hb => ?_, by simp, fun b hb => .inl (hbs b hb).1, ?_, fun bs b hn hx => ?_⟩
              · rcases hb with hb | hb
                · exact (hc.olt b hb).1
                · exact Nat.lt_of_lt_of_le (hc.o0 b hb.2) hc.eff.size
              · rw [hsh] at hr
                simp only [if_true]
                exact (argA_ok (sh := true) (gt := r.g) (A := offs c O1 r.g) hc ⟨fun hz => ⟨rfl, hz.2⟩, fun _ b hb => hb, by simp⟩ hio _ _ r hr (disj_ok hdis) (fun h => h) hnod).1
              · rcases hx with (⟨h1, h2⟩ | h1) | h1
                · exact hn (.inl ⟨.inl h1, h2⟩)
                · exact hn (.inr h1)
                · exact hn (.inl ⟨.inr h1, fun hm => hno b hm h1.2⟩)
          obtain ⟨O, hO1, hO2, hO4, hRA, hO3⟩ := hAA
          have hcall := hcon (zs c G) O w (args.toList.map a.eval) r.x (bsOf ρ r.io) (hC.oldNow hc) (fun b hb => hC.ownNew hc (hbs b hb).1) hO1 hO2 hO4 hRA hpre
          have hen : (execOp a.eval o).run c.P w = .ok (.enter f (args.toList.map a.eval).toArray) w := by
            have := callFunc_enter (P := c.P) hf1 hf2 hf3 (args.map a.eval) w
            have e1 : (args.toList.map a.eval).toArray = args.map a.eval := by rw [← Array.toList_map]
            rw [e1]
            simp [execOp, ho, resolve, Act.eval, Deferred.ofValue, invoke]
            exact this
          unfold Oper.wp
          rw [hen, Oper.upon_enter]
          refine hcall.mono ?_
          intro e w' hpost
          rw [hE] at hpost
          obtain ⟨vs, bs, rfl, hR, hN, hB⟩ := hpost
          have hR' : RepR (zs c G) (offs c (fun b => (O1 b ∧ b ∉ bsOf ρ r.io) ∨ b ∈ bs) G) 0 w' k.outs vs (k.out r.x) bs := hR.weak id fun b _ hn => hO3 bs b hn
          obtain ⟨ρ', hd, hop⟩ := opnR_ok (c := c) k.outs vs (k.out r.x) bs i0 ρ hR' (fun b hb => .inr hb) (fun k' h1 h2 => hf k' h1 (by omega))
          have named : ∀ b, b ∈ bsOf ρ r.io → ∃ k' e v, (k', e) ∈ (opnR G k.outs (k.out r.x) i0).2 ++ goneL r.io ∧ ρ k' = some v ∧ blkOf v = some b := fun b hb => by
            obtain ⟨j, hj, v, hv, hbv⟩ := bsOf_mem hb
            exact ⟨j, .gone, v, List.mem_append_right _ (mem_goneL hj), hv, hbv⟩
          have mem : ∀ j e, look j ((opnR G k.outs (k.out r.x) i0).2 ++ goneL r.io) = some e → (j, e) ∈ (opnR G k.outs (k.out r.x) i0).2 ∨ e = .gone := fun j e he => (List.mem_append.1 (look_mem he)).imp id fun h => (goneL_mem h).2
          refine hnx (fun b => (O1 b ∧ b ∉ bsOf ρ r.io) ∨ b ∈ bs) ρ' (retV vs) w' (retA_ok hy hd) ⟨hop.ext, fun k' hk' => hop.ids k' (by omega), fun k' v hv => ?_, ?_, fun k' e he => ?_, fun b hb => ?_, fun b hb => ?_, ?_, ?_⟩
          · rcases hop.one k' v hv with hv | hv
            · exact hc.one k' v hv
            · exact hv
          · exact ⟨hB.os, hB.tape, hB.output, hB.size, fun b hb hn => hB.block b hb fun hbb => hn ⟨(hbs b hbb).1, named b hbb⟩⟩
          · rcases mem k' e he with he | rfl
            · exact (hop.ent k' e he).2.2
            · trivial
          · rcases hb with ⟨h1, _⟩ | hb
            · exact .inl h1
            · rcases hN b hb with h1 | h1
              · exact .inr ⟨h1, (hop.big b hb).2⟩
              · exact .inl (hbs b h1).1
          · by_cases hm : b ∈ bsOf ρ r.io
            · exact .inr (named b hm)
            · exact .inl (.inl ⟨hb, hm⟩)
          · intro k' e v b he ho' hv hb
            rcases mem k' e he with he | rfl
            · rcases hN b (hop.blk k' e v b he ho' hv hb) with h1 | h1
              · exact .inl h1
              · exact .inr (named b h1)
            · simp [isOwn] at ho'
          · intro k1 k2 e1 e2 v1 v2 b hne he1 he2 ho1 ho2 hv1 hv2 hb1 hb2
            rcases mem k1 e1 he1 with he1 | rfl
            · rcases mem k2 e2 he2 with he2 | rfl
              · exact hop.ap k1 k2 e1 e2 v1 v2 b hne he1 he2 ho1 ho2 hv1 hv2 hb1 hb2
              · simp [isOwn] at ho2
            · simp [isOwn] at ho1
        refine ⟨_, ⟨fun k' e' he => ?_, fun N O1 ρ a w hc hf next Q hnx => key N O1 ρ a w hc hf next Q fun O1' ρ' v w' hv hs => hnx O1' ρ' v w' hv hs⟩, h⟩
        simp only at he
        rcases List.mem_append.1 he with he | he
        · have := opnR_ids _ _ _ _ _ _ he
          exact .inl (by omega)
        · exact .inr (hown k' (goneL_mem he).1)
      · exact h.elim
  · exact h.elim
theorem aCall_ok [B : Base] {C : Ctx} {c : Cx} {cs : List (Nat × Con)} (hC : CtxOk C c) (hcs : CsOk C cs) {S : St} {i0 : Nat} {o : Oper} {f : Nat} {args : Array Operand} {ts : Array TypeId} {K : Dl → Prop}
    (ho : o.op = .call { callee := .value (.func f), args := args, argTypes := ts }) (h : aCall C.mpins cs S i0 f args.toList K) : ∃ δ, OpOk c S i0 o δ ∧ K δ := by
  unfold aCall at h
  split at h
  · next k hk =>
    split at h
    · next hE => exact aCall0_ok hC hcs hk hE ho h
    · next hE => exact aCallE_ok hC hcs hk hE ho h
  · exact h.elim
end Go.Proofs.Ytgbfcjnkohhfoaa
