/-
  The abstract machine, part 4: addresses, loads, stores.
-/
import Derived.Test.YtghfpidpefdndaaAb3
import Derived.Laws.CopyRow
namespace Go.Proofs.Ytghfpidpefdndaa
open Go.RowKit

/-- a step that brings data's slices -/
theorem step_opn {c : Cx} {N O1 : Nat → Prop} {ρ : Env} {S : St} {a : Act} {w : World} (h : Conc c N O1 ρ S a w) {i0 : Nat} (hf : ∀ k, i0 ≤ k → k < i0 + 16 → ρ k = none)
    {fr : Bool} {t : TC} {vs : List Value} {x : t.D} (hr : Rep (offs c O1 fr) w t vs x) (hn : t.nsl ≤ 16) : ∃ ρ', DenL ρ' (opn t x fr i0).1 vs ∧ StepTo c i0 (opn t x fr i0).2 O1 ρ w O1 ρ' w := by
  obtain ⟨ρ', e1, i1, o1, d1, n1⟩ := opn_ok t vs x i0 ρ hr (fun k h1 h2 => hf k h1 (by omega))
  refine ⟨ρ', d1, e1, fun k hk => i1 k (by omega), fun k v hk => ?_, BelowM.refl _ _, fun k e he => (n1 k e (look_mem he)).2.2.2, fun b hb => .inl hb, fun b hb => .inl hb, ?_, ?_⟩
  · rcases o1 k v hk with hk | hk
    · exact h.one k v hk
    · exact hk
  · intro k e v b he ho
    have := (n1 k e (look_mem he)).1
    rw [ho] at this; cases this
  · intro k k' e e' v v' b _ he _ ho
    have := (n1 k e (look_mem he)).1
    rw [ho] at this; cases this

def fin (ti : TI) (l : List A1) (en : List (Nat × Ent)) (K : Dl → Prop) : Prop :=
  bif nb l.length ti.z.length then (match mkv ti l with | some y => K ⟨y, en⟩ | none => False) else False
theorem fin_ok {ti : TI} {l : List A1} {en : List (Nat × Ent)} {K : Dl → Prop} (h : fin ti l en K) : l.length = ti.z.length ∧ ∃ y, mkv ti l = some y ∧ K ⟨y, en⟩ := by
  unfold fin at h
  cases hb : nb l.length ti.z.length with
  | false => rw [hb] at h; exact h.elim
  | true =>
    rw [hb] at h
    simp only [cond_true] at h
    refine ⟨eq_of_nb hb, ?_⟩
    split at h
    · next y hy => exact ⟨y, hy, h⟩
    · exact h.elim

/-- the cells of element i of an entry's data in memory -/
theorem row_own {c : Cx} {O1 : Nat → Prop} {ρ : Env} {w : World} {k e : Nat} {t : TC} {xs : List t.D} {fr : Bool} (h : EntOk c O1 ρ w k (.own e t xs fr)) {i : Nat} (hi : i < xs.length) :
    ∃ g p n cap us, ρ k = some (.slice (some ⟨g, p, none⟩) n cap) ∧ us.length = t.n ∧ (∀ (j : Nat) (v : Value), us[j]? = some v → w.cell? ⟨g, p + i * t.n + j, none⟩ = some v) ∧ Rep (offs c O1 fr) w t us (xs.getD i t.z) := by
  obtain ⟨v, cs, h1, h2, h3, h4, h5⟩ := h
  have h2' := h2
  rcases h2.2 with ⟨_, h0⟩ | ⟨g, cap, cur, rfl, hb, hg, r⟩
  · omega
  · have hx : xs[i]? = some (xs.getD i t.z) := by simp [List.getD, hi]
    have hr := h5 i _ hx
    refine ⟨g, 0, xs.length, cap, _, h1, hr.len, fun j v hj => ?_, hr⟩
    simp only [List.getElem?_take, List.getElem?_drop] at hj
    split at hj
    · next hjn =>
      rw [show 0 + i * t.n + j = i * t.n + j by omega, h2'.cellAt (i * t.n + j) ?_]
      · exact hj
      · have := Nat.mul_le_mul_right t.n (show i + 1 ≤ xs.length by omega)
        rw [Nat.add_mul] at this
        omega
    · cases hj
theorem row_imm {c : Cx} {O1 : Nat → Prop} {ρ : Env} {w : World} {k : Nat} {t : TC} {xs : List t.D} {fr : Bool} (h : EntOk c O1 ρ w k (.imm t xs fr)) {i : Nat} (hi : i < xs.length) :
    ∃ g p n cap us, ρ k = some (.slice (some ⟨g, p, none⟩) n cap) ∧ us.length = t.n ∧ (∀ (j : Nat) (v : Value), us[j]? = some v → w.cell? ⟨g, p + i * t.n + j, none⟩ = some v) ∧ Rep (offs c O1 fr) w t us (xs.getD i t.z) := by
  obtain ⟨v, h1, a, cap, hv, h2, h3, _, h4⟩ := h
  simp only [List.cons.injEq, and_true] at hv
  subst hv
  obtain ⟨b, off, rfl, hb, hc⟩ := h4.resolve_left (by rintro rfl; simp at hi)
  have hx : xs[i]? = some (xs.getD i t.z) := by simp [List.getD, hi]
  obtain ⟨us, hl, hcell, hr⟩ := hc i _ hx
  exact ⟨b, off, _, cap, us, h1, hl, hcell, hr⟩

def loadRow (ti : TI) (t : TC) (xs : List t.D) (fr : Bool) (i0 i n j : Nat) (K : Dl → Prop) : Prop :=
  bif nb n t.n && nle t.nsl 16 then i < xs.length ∧ fin ti (((opn t (xs.getD i t.z) fr i0).1.drop j).take ti.z.length) (opn t (xs.getD i t.z) fr i0).2 K else False
def loadAtom (S : St) (i0 : Nat) (ti : TI) (k i n j : Nat) (K : Dl → Prop) : Prop :=
  match look k S.en with
  | some (.box l) => (bif nb i 0 then fin ti ((l.drop j).take ti.z.length) [] K else False)
  | some (.own _ t xs fr) => loadRow ti t xs fr i0 i n j K
  | some (.imm t xs fr) => loadRow ti t xs fr i0 i n j K
  | _ => False
def aLoad (C : Ctx) (S : St) (i0 : Nat) (t : TypeId) (x : Operand) (K : Dl → Prop) : Prop :=
  match look t C.ty, av S x with
  | some ti, some (.one (.ref k)) => (match look k S.en with | some (.box l) => fin ti (l.take ti.z.length) [] K | _ => False)
  | some ti, some (.one (.ptr k i n j)) => loadAtom S i0 ti k i n j K
  | _, _ => False

theorem loadRow_ok {C : Ctx} {c : Cx} (hC : CtxOk C c) {S : St} {i0 : Nat} {o : Oper} {t : TypeId} {x : Operand} {K : Dl → Prop} (ho : o.op = .load t x) {ti : TI} (hti : look t C.ty = some ti)
    {k i n j : Nat} (hx : av S x = some (.one (.ptr k i n j))) {tt : TC} {xs : List tt.D} {fr : Bool}
    (hrow : ∀ {O1 : Nat → Prop} {ρ : Env} {w : World}, (∀ e, look k S.en = some e → EntOk c O1 ρ w k e) → i < xs.length → ∃ g p n cap us, ρ k = some (.slice (some ⟨g, p, none⟩) n cap) ∧ us.length = tt.n ∧ (∀ (j : Nat) (v : Value), us[j]? = some v → w.cell? ⟨g, p + i * tt.n + j, none⟩ = some v) ∧ Rep (offs c O1 fr) w tt us (xs.getD i tt.z))
    (h : loadRow ti tt xs fr i0 i n j K) : ∃ δ, OpOk c S i0 o δ ∧ K δ := by
  unfold loadRow at h
  cases hb : nb n tt.n && nle tt.nsl 16 with
  | false => rw [hb] at h; exact h.elim
  | true =>
    rw [hb] at h
    simp only [cond_true] at h
    simp only [Bool.and_eq_true] at hb
    have hn := eq_of_nb hb.1
    have h16 := le_of_nle hb.2
    subst hn
    obtain ⟨hi, h⟩ := h
    obtain ⟨hl, y, hy, hk⟩ := fin_ok h
    refine ⟨_, ⟨fun k e he => .inl ?_, fun N O1 ρ a w hc hf next Q hn => ?_⟩, hk⟩
    · simp only at he
      have aux : ∀ (t : TC) (x : t.D) (id : Nat) (k : Nat) (e : Ent), (k, e) ∈ (opn t x fr id).2 → id ≤ k ∧ k < id + t.nsl := by
        intro t
        induction t with
        | i k => intro x id k e he; simp [opn] at he
        | b => intro x id k e he; simp [opn] at he
        | s => intro x id k e he; simp [opn] at he
        | sl t _ => intro x id k e he; simp [opn] at he; simp [TC.nsl]; omega
        | pr t u iht ihu =>
          intro x id k e he
          simp only [opn, List.mem_append] at he
          simp only [TC.nsl]
          rcases he with he | he
          · have := iht _ _ _ _ he; omega
          · have := ihu _ _ _ _ he; omega
      have := aux _ _ _ _ _ he
      omega
    · obtain ⟨g, p, n, cap, us, hv, hlen, hcell, hr⟩ := hrow (fun e he => hc.en k e he) hi
      obtain ⟨ρ', hd, hst⟩ := step_opn hc hf hr h16
      have hP := hC.ty t ti hti
      rw [← hC.P] at hP
      have hd' := (hd.drop j).take ti.z.length
      have hlen' := hd'.len
      have ht := av_ok hc hx
      simp only [Den, den1, hv, Option.bind_some, padd_row, Option.some.injEq] at ht
      obtain ⟨v, hv1, hv2⟩ := run_load hP (w := w) (b := g) (o := p + (i * tt.n + j)) (us := (us.drop j).take ti.z.length) (by rw [hlen', hl]) (fun q v hq => by
        simp only [List.getElem?_take, List.getElem?_drop] at hq
        split at hq
        · have := hcell (j + q) v hq
          rw [show p + (i * tt.n + j) + q = p + i * tt.n + (j + q) by omega]
          exact this
        · cases hq) hd' hy
      unfold Oper.wp
      have : (execOp a.eval o).run c.P w = .ok (.value v) w := by simp [execOp, ho, ← ht, hv2]
      rw [this, Oper.upon_value]
      exact hn O1 ρ' v w hv1 hst

theorem loadBox_ok {C : Ctx} {c : Cx} (hC : CtxOk C c) {S : St} {i0 : Nat} {o : Oper} {t : TypeId} {x : Operand} {K : Dl → Prop} (ho : o.op = .load t x) {ti : TI} (hti : look t C.ty = some ti)
    {k j : Nat} {l : List A1} (hl : look k S.en = some (.box l)) (hx : ∀ {N O1 : Nat → Prop} {ρ : Env} {a : Act} {w : World} {b : Nat}, Conc c N O1 ρ S a w → ρ k = some (.pointer (some ⟨b, 0, none⟩)) → a.eval x = .pointer (some ⟨b, j, none⟩))
    (h : fin ti ((l.drop j).take ti.z.length) [] K) : ∃ δ, OpOk c S i0 o δ ∧ K δ := by
  obtain ⟨hlen, y, hy, hk⟩ := fin_ok h
  refine ⟨_, ok_pure fun N O1 ρ a w hc => ?_, hk⟩
  obtain ⟨b, e, vs, h1, h2, h3, h4, h5⟩ := hc.en k _ hl
  have hP := hC.ty t ti hti
  rw [← hC.P] at hP
  have hd := (h3.drop j).take ti.z.length
  obtain ⟨v, hv1, hv2⟩ := run_load hP (w := w) (b := b) (o := j) (by rw [hd.len, hlen]) (fun q v hq => by
    simp only [List.getElem?_take, List.getElem?_drop] at hq
    split at hq
    · rw [cell_of_row w b (j + q) vs.toArray e (0, 0) h5]; simpa using hq
    · cases hq) hd hy
  exact ⟨v, hv1, by simp [execOp, ho, hx hc h1, hv2]⟩

theorem aLoad_ok {C : Ctx} {c : Cx} (hC : CtxOk C c) {S : St} {i0 : Nat} {o : Oper} {t : TypeId} {x : Operand} {K : Dl → Prop} (ho : o.op = .load t x) (h : aLoad C S i0 t x K) : ∃ δ, OpOk c S i0 o δ ∧ K δ := by
  unfold aLoad at h
  split at h
  · next ti k hti hx =>
    split at h
    · next l hl =>
      refine loadBox_ok hC ho hti (j := 0) hl (fun hc hb => ?_) (by simpa using h)
      have := av_ok hc hx
      simp only [Den, den1, hb, Option.some.injEq] at this
      exact this.symm
    · exact h.elim
  · next ti k i n j hti hx =>
    unfold loadAtom at h
    split at h
    · next l hl =>
      cases hi : nb i 0 with
      | false => rw [hi] at h; exact h.elim
      | true =>
        rw [hi] at h
        have := eq_of_nb hi
        subst this
        refine loadBox_ok hC ho hti (j := j) hl (fun hc hb => ?_) h
        have := av_ok hc hx
        simp only [Den, den1, hb, Option.bind_some, padd_box, Option.some.injEq] at this
        rw [← this]; simp
    · next e tt xs fr hl =>
      exact loadRow_ok hC ho hti hx (fun hen hi => row_own (hen _ hl) hi) h
    · next tt xs fr hl =>
      exact loadRow_ok hC ho hti hx (fun hen hi => row_imm (hen _ hl) hi) h
    · exact h.elim
  · exact h.elim
end Go.Proofs.Ytghfpidpefdndaa
