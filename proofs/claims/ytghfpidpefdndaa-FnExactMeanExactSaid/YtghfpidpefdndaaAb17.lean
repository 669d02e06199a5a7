/-
  The abstract machine, part 17: functions: how they are entered, what they return.
-/
import Derived.Test.YtghfpidpefdndaaAb16
namespace Go.Proofs.Ytghfpidpefdndaa
open Go.RowKit

def frzOf (en : List (Nat × Ent)) : OT → List A1 → List Nat
  | .v _, l => ownRefs en l
  | .own _ _, _ => []
  | .bx _, l => (match l with | [.ref k] => (match look k en with | some (.box m) => ownRefs en m | _ => []) | _ => [])
  | .pr x y, l => frzOf en x (l.take x.n) ++ frzOf en y (l.drop x.n)
def frzAll (en : List (Nat × Ent)) : List (Bool × OT) → List (List A1) → List Nat
  | t :: ts, l :: ls => frzOf en t.2 l ++ frzAll en ts ls
  | _, _ => []

def clsO (en : List (Nat × Ent)) : (t : OT) → List A1 → Option (t.D × List Nat)
  | .v t, l => match cls en t l with | some (x, true) => some (x, []) | _ => none
  | .own e t, l => match l with
    | [.con (.slice none n m)] => (bif nb n 0 && nb m 0 then some ([], []) else none)
    | [.ref k] => (match look k en with
      | some (.own e' t' xs true) => (match teq t' t with | some ⟨h⟩ => (bif nb e' e then some (castD h xs, [k]) else none) | none => none)
      | _ => none)
    | _ => none
  | .bx t, l => match l with
    | [.ref k] => (match look k en with
      | some (.box m) => (match cls en t m with | some (x, true) => some (x, [k]) | _ => none)
      | _ => none)
    | _ => none
  | .pr x y, l => match clsO en x (l.take x.n), clsO en y (l.drop x.n) with
    | some a, some b => some ((a.1, b.1), a.2 ++ b.2)
    | _, _ => none
def clsR (en : List (Nat × Ent)) : (l : List (Bool × OT)) → List (List A1) → Option (HO l × List Nat)
  | [], ls => match ls with | [] => some ((), []) | _ => none
  | t :: ts, ls => match ls with
    | l :: ls => (match clsO en t.2 l, clsR en ts ls with | some a, some b => some ((a.1, b.1), a.2 ++ b.2) | _, _ => none)
    | [] => none

theorem notM {C : Ctx} {c : Cx} (hC : CtxOk C c) {N O1 : Nat → Prop} {ρ : Env} {S : St} {a : Act} {w : World} (h : Conc c N O1 ρ S a w) {l : List Nat} (hp : pinsOk C.mpins S.en l = true) {k : Nat} {e : Ent} (hk : k ∈ l) (he : look k S.en = some e) (ho : isOwn e = true)
    {v : Value} (hv : ρ k = some v) {b : Nat} (hb : blkOf v = some b) : ¬ c.M b := by
  intro hm
  obtain ⟨p, u, hpm, hpu, hpb⟩ := hC.pm b hm
  simp only [pinsOk, List.all_eq_true, Bool.and_eq_true, Bool.not_eq_true'] at hp
  obtain ⟨h1, h2⟩ := hp p hpm
  split at h2
  · next e0 he0 =>
    have hne : p ≠ k := by rintro rfl; rw [memb_iff.2 hk] at h1; cases h1
    exact h.ap p k e0 e u v b hne he0 he h2 ho (h.pin p u hpu) hv hpb hb
  · cases h2

section
variable {C : Ctx} {c : Cx} (hC : CtxOk C c) {N O1 : Nat → Prop} {ρ : Env} {S : St} {a : Act} {w : World} (h : Conc c N O1 ρ S a w) {kk : List Nat} (hp : pinsOk C.mpins S.en kk = true)
include hC h hp
theorem clsO_ok : ∀ (t : OT) (l : List A1) (vs : List Value) (x : t.D) (ks : List Nat), DenL ρ l vs → clsO S.en t l = some (x, ks) → nodB ks = true → (∀ k, k ∈ ks → k ∈ kk) →
    RepO (offs c O1 true) c.w0.heap.size w t vs x (bsOf ρ ks) ∧ ∀ k, k ∈ ks → ∃ e, look k S.en = some e ∧ isOwn e = true
  | .v t, l, vs, x, ks, hd, hc, _, _ => by
    simp only [clsO] at hc
    split at hc
    · next y hy =>
      simp only [Option.some.injEq, Prod.mk.injEq] at hc
      obtain ⟨rfl, rfl⟩ := hc
      exact ⟨⟨rfl, cls_ok (fun k e he => h.en k e he) _ _ _ _ _ hd hy⟩, by simp⟩
    · cases hc
  | .own e t, l, vs, x, ks, hd, hc, _, hkk => by
    simp only [clsO] at hc
    split at hc
    · next n m =>
      cases hn : nb n 0 && nb m 0 with
      | false => rw [hn] at hc; cases hc
      | true =>
        rw [hn] at hc
        simp only [cond_true, Option.some.injEq, Prod.mk.injEq] at hc
        obtain ⟨rfl, rfl⟩ := hc
        simp only [Bool.and_eq_true] at hn
        have e1 := eq_of_nb hn.1
        have e2 := eq_of_nb hn.2
        subst e1; subst e2
        obtain ⟨v, us, rfl, h1, rfl⟩ := hd
        simp [den1] at h1; subst h1
        exact ⟨⟨_, [], rfl, World.ownsRow_nil w _ e t.n, by simp, by simp [blkOf], by simp [bsOf], by simp⟩, by simp⟩
    · next k =>
      obtain ⟨v, us, rfl, h1, rfl⟩ := hd
      simp only [den1] at h1
      split at hc
      · next e' t' xs hl =>
        split at hc
        · next g _ =>
          subst g
          cases hb : nb e' e with
          | false => rw [hb] at hc; cases hc
          | true =>
            rw [hb] at hc
            simp only [castD, cast_eq, cond_true, Option.some.injEq, Prod.mk.injEq] at hc
            obtain ⟨rfl, rfl⟩ := hc
            have := eq_of_nb hb
            subst this
            obtain ⟨v', cs, e1, e2, e3, e4, e5⟩ := h.en k _ hl
            rw [h1] at e1; cases e1
            refine ⟨⟨_, cs, rfl, ⟨e2.1, e2.2.imp id ?_⟩, e3, fun b hb => ?_, fun b hb => ?_, e5⟩, fun k' hk' => by simp at hk'; subst hk'; exact ⟨_, hl, rfl⟩⟩
            · rintro ⟨g, cap, cur, rfl, _, r⟩
              exact ⟨g, cap, cur, rfl, (h.olt g (e4 g rfl)).2.resolve_right (notM hC h hp (hkk k (by simp)) hl rfl h1 rfl), r⟩
            · simp [bsOf, h1, hb]
            · obtain ⟨k', hk', v', hv', hb'⟩ := bsOf_mem hb
              simp at hk'; subst hk'
              rw [h1] at hv'; cases hv'
              exact hb'
        · cases hc
      · cases hc
    · cases hc
  | .bx t, l, vs, x, ks, hd, hc, _, hkk => by
    simp only [clsO] at hc
    split at hc
    · next k =>
      obtain ⟨v, us, rfl, h1, rfl⟩ := hd
      simp only [den1] at h1
      split at hc
      · next m hl =>
        split at hc
        · next y hy =>
          simp only [Option.some.injEq, Prod.mk.injEq] at hc
          obtain ⟨rfl, rfl⟩ := hc
          obtain ⟨b, e, us, e1, e2, e3, e4, e5⟩ := h.en k _ hl
          rw [h1] at e1; cases e1
          exact ⟨⟨b, e, us, rfl, by simp [bsOf, h1, blkOf], (h.olt b e2).2.resolve_right (notM hC h hp (hkk k (by simp)) hl rfl h1 rfl), e5, e4, cls_ok (fun k e he => h.en k e he) _ _ _ _ _ e3 hy⟩,
            fun k' hk' => by simp at hk'; subst hk'; exact ⟨_, hl, rfl⟩⟩
        · cases hc
      · cases hc
    · cases hc
  | .pr t u, l, vs, x, ks, hd, hc, hn, hkk => by
    simp only [clsO] at hc
    split at hc
    · next p q hp hq =>
      simp only [Option.some.injEq, Prod.mk.injEq] at hc
      obtain ⟨rfl, rfl⟩ := hc
      obtain ⟨n1, n2, n3⟩ := nodB_app hn
      obtain ⟨r1, o1⟩ := clsO_ok t _ _ p.1 p.2 (hd.take t.n) hp n1 (fun k hk => hkk k (List.mem_append_left _ hk))
      obtain ⟨r2, o2⟩ := clsO_ok u _ _ q.1 q.2 (hd.drop t.n) hq n2 (fun k hk => hkk k (List.mem_append_right _ hk))
      refine ⟨⟨_, _, bsOf ρ p.2, bsOf ρ q.2, (List.take_append_drop t.n vs).symm, by simp [bsOf], fun b h1 h2 => ?_, r1, r2⟩, fun k hk => (List.mem_append.1 hk).elim (o1 k) (o2 k)⟩
      obtain ⟨k1, hk1, v1, hv1, hb1⟩ := bsOf_mem h1
      obtain ⟨k2, hk2, v2, hv2, hb2⟩ := bsOf_mem h2
      obtain ⟨e1, he1, ho1⟩ := o1 k1 hk1
      obtain ⟨e2, he2, ho2⟩ := o2 k2 hk2
      exact h.ap k1 k2 e1 e2 v1 v2 b (fun e => n3 k1 hk1 (e ▸ hk2)) he1 he2 ho1 ho2 hv1 hv2 hb1 hb2
    · cases hc
end
/-- values of the cells ls, with the flags of ts -/
def ValsR (ρ : Env) : List (Bool × OT) → List (List A1) → List Value → Prop
  | [], ls, vs => ls = [] ∧ vs = []
  | t :: ts, ls, vs => ∃ l ls' v vs', ls = l :: ls' ∧ vs = v :: vs' ∧ (∃ us, DenL ρ l us ∧ ValC t.1 us v) ∧ ValsR ρ ts ls' vs'
section
variable {C : Ctx} {c : Cx} (hC : CtxOk C c) {N O1 : Nat → Prop} {ρ : Env} {S : St} {a : Act} {w : World} (h : Conc c N O1 ρ S a w) {kk : List Nat} (hp : pinsOk C.mpins S.en kk = true)
include hC h hp
theorem clsR_ok : ∀ (ts : List (Bool × OT)) (ls : List (List A1)) (vs : List Value) (x : HO ts) (ks : List Nat), ValsR ρ ts ls vs → clsR S.en ts ls = some (x, ks) → nodB ks = true → (∀ k, k ∈ ks → k ∈ kk) →
    RepR (offs c O1 true) c.w0.heap.size w ts vs x (bsOf ρ ks) ∧ ∀ k, k ∈ ks → ∃ e, look k S.en = some e ∧ isOwn e = true
  | [], ls, vs, x, ks, hv, hc, _, _ => by
    obtain ⟨rfl, rfl⟩ := hv
    simp only [clsR, Option.some.injEq, Prod.mk.injEq] at hc
    obtain ⟨_, rfl⟩ := hc
    exact ⟨⟨rfl, rfl⟩, by simp⟩
  | t :: ts, ls, vs, x, ks, hv, hc, hn, hkk => by
    obtain ⟨l, ls', v, vs', rfl, rfl, ⟨us, hd, hvc⟩, hr⟩ := hv
    simp only [clsR] at hc
    split at hc
    · next p q hq1 hq =>
      simp only [Option.some.injEq, Prod.mk.injEq] at hc
      obtain ⟨rfl, rfl⟩ := hc
      obtain ⟨n1, n2, n3⟩ := nodB_app hn
      obtain ⟨r1, o1⟩ := clsO_ok hC h hp t.2 _ _ p.1 p.2 hd hq1 n1 (fun k hk => hkk k (List.mem_append_left _ hk))
      obtain ⟨r2, o2⟩ := clsR_ok ts ls' vs' q.1 q.2 hr hq n2 (fun k hk => hkk k (List.mem_append_right _ hk))
      refine ⟨⟨v, vs', bsOf ρ p.2, bsOf ρ q.2, rfl, by simp [bsOf], fun b h1 h2 => ?_, ⟨us, hvc, r1⟩, r2⟩, fun k hk => (List.mem_append.1 hk).elim (o1 k) (o2 k)⟩
      obtain ⟨k1, hk1, v1, hv1, hb1⟩ := bsOf_mem h1
      obtain ⟨k2, hk2, v2, hv2, hb2⟩ := bsOf_mem h2
      obtain ⟨e1, he1, ho1⟩ := o1 k1 hk1
      obtain ⟨e2, he2, ho2⟩ := o2 k2 hk2
      exact h.ap k1 k2 e1 e2 v1 v2 b (fun e => n3 k1 hk1 (e ▸ hk2)) he1 he2 ho1 ho2 hv1 hv2 hb1 hb2
    · cases hc
end

/-- the cells of the results -/
def retCells (C : Ctx) (S : St) : List ResultVar → List (Bool × OT) → Option (List (List A1))
  | [], ts => match ts with | [] => some [] | _ => none
  | r :: rs, ts => match ts with
    | t :: ts => (match (match r with
        | .tmp s => (look s S.tm).bind (argC t.1)
        | .cell s ty => (match look s S.tm with
          | some (.one (.ref k)) => (match look k S.en, look ty C.ty with
            | some (.box l), some ti => (bif nb l.length ti.z.length && eqb t.1 (isSt ti) then (match t.1, l with | true, l => some l | false, [x] => some [x] | _, _ => none) else none)
            | _, _ => none)
          | _ => none)), retCells C S rs ts with
      | some l, some ls => some (l :: ls)
      | _, _ => none)
    | [] => none
def resM (tmps : Array Value) : ResultVar → Sem Value
  | .tmp t => pure (tmps.getD t undef)
  | .cell a t => do loadVar t (← asAddr (tmps.getD a undef))
theorem retCells_ok {C : Ctx} {c : Cx} (hC : CtxOk C c) {N O1 : Nat → Prop} {ρ : Env} {S : St} {a : Act} {w : World} (h : Conc c N O1 ρ S a w) : ∀ (rs : List ResultVar) (ts : List (Bool × OT)) (ls : List (List A1)), retCells C S rs ts = some ls →
    ∃ vs, (rs.mapM (resM a.tmps)).run c.P w = .ok vs w ∧ ValsR ρ ts ls vs
  | [], ts, ls, hr => by
    simp only [retCells] at hr
    split at hr
    · cases hr; exact ⟨[], rfl, rfl, rfl⟩
    · cases hr
  | r :: rs, ts, ls, hr => by
    simp only [retCells] at hr
    split at hr
    · next t ts' =>
      split at hr
      · next l ls' h1 h2 =>
        cases hr
        obtain ⟨vs, hvs, hvr⟩ := retCells_ok hC h rs ts' ls' h2
        obtain ⟨v, hv, us, hd, hvc⟩ : ∃ v, (resM a.tmps r).run c.P w = .ok v w ∧ ∃ us, DenL ρ l us ∧ ValC t.1 us v := by
          split at h1
          · next s =>
            obtain ⟨y, hy, hyl⟩ := Option.bind_eq_some_iff.1 h1
            obtain ⟨v, hv, ht⟩ := h.tm s y hy
            exact ⟨v, by simp [resM, ht], argC_ok hyl hv⟩
          · next s ty =>
            split at h1
            · next k hk =>
              split at h1
              · next l0 ti hl0 hti =>
                cases hb : nb l0.length ti.z.length && eqb t.1 (isSt ti) with
                | false => rw [hb] at h1; cases h1
                | true =>
                  rw [hb] at h1
                  simp only [cond_true] at h1
                  simp only [Bool.and_eq_true] at hb
                  have hlen := eq_of_nb hb.1
                  have hst := eqb_eq hb.2
                  obtain ⟨u, hu, ht⟩ := h.tm s _ hk
                  obtain ⟨b, e, vs0, e1, e2, e3, e4, e5⟩ := h.en k _ hl0
                  simp only [Den, den1, e1, Option.some.injEq] at hu
                  subst hu
                  have hP := hC.ty ty ti hti
                  rw [← hC.P] at hP
                  have hcell : ∀ (j : Nat) (v : Value), vs0[j]? = some v → w.cell? ⟨b, 0 + j, none⟩ = some v := fun j v hj => by
                    rw [cell_of_row w b (0 + j) vs0.toArray e (0, 0) e5]; simpa using hj
                  have hl : l = l0 ∧ (t.1 = false → ∃ x, l0 = [x]) := by
                    split at h1
                    · simp only [Option.some.injEq] at h1; exact ⟨h1.symm, by simp_all⟩
                    · simp only [Option.some.injEq] at h1; exact ⟨h1.symm, fun _ => ⟨_, rfl⟩⟩
                    · cases h1
                  obtain ⟨rfl, hsing⟩ := hl
                  cases hg : t.1 with
                  | true =>
                    rw [hg] at hst
                    obtain ⟨v, hv1, hv2⟩ := run_load hP (w := w) (b := b) (o := 0) (us := vs0) (by rw [e3.len, hlen]) hcell e3 (y := .agg l) (by simp [mkv, ← hst])
                    obtain ⟨us, hd, rfl⟩ := hv1
                    refine ⟨_, ?_, us, hd, .inl ⟨rfl, rfl⟩⟩
                    simpa [resM, ht, asAddr, Instr.loadAt, Instr.sureAddr] using hv2
                  | false =>
                    rw [hg] at hst
                    obtain ⟨x, rfl⟩ := hsing hg
                    obtain ⟨v, hv1, hv2⟩ := run_load hP (w := w) (b := b) (o := 0) (us := vs0) (by rw [e3.len, hlen]) hcell e3 (y := .one x) (by simp [mkv, ← hst])
                    refine ⟨v, ?_, [v], ⟨v, [], rfl, hv1, rfl⟩, .inr ⟨rfl, rfl⟩⟩
                    simpa [resM, ht, asAddr, Instr.loadAt, Instr.sureAddr] using hv2
              · cases h1
            · cases h1
        exact ⟨v :: vs, by simp [List.mapM_cons, hv, hvs], l, ls', v, vs, rfl, rfl, ⟨us, hd, hvc⟩, hvr⟩
      · cases hr
    · cases hr

/-- the lengths of data's slices -/
def lens : (t : TC) → t.D → Prop
  | .sl t, (xs : List t.D) => xs.length ≤ 9223372036854775807 ∧ ∀ x, x ∈ xs → lens t x
  | .pr t u, x => lens t x.1 ∧ lens u x.2
  | .i _, _ => True
  | .b, _ => True
  | .s, _ => True
theorem Rep.lens {O : Nat → Prop} {w : World} : ∀ {t : TC} {vs : List Value} {x : t.D}, Rep O w t vs x → Go.Proofs.Ytghfpidpefdndaa.lens t x
  | .i _, _, _, _ => trivial
  | .b, _, _, _ => trivial
  | .s, _, _, _ => trivial
  | .sl t, _, xs, h => by
    obtain ⟨a, cap, _, _, h1, _, h2⟩ := h
    refine ⟨h1, fun x hx => ?_⟩
    rcases h2 with rfl | ⟨b, off, _, _, hc⟩
    · simp at hx
    · obtain ⟨i, hi⟩ := List.getElem?_of_mem hx
      obtain ⟨us, _, _, hr⟩ := hc i x hi
      exact hr.lens
  | .pr t u, _, _, h => by
    obtain ⟨us, ws, _, h1, h2⟩ := h
    exact ⟨h1.lens, h2.lens⟩
end Go.Proofs.Ytghfpidpefdndaa
