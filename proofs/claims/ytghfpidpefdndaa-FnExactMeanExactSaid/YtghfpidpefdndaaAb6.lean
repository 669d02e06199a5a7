/-
  The abstract machine, part 6: new variables, addresses of fields and elements, structs built by value.
-/
import Derived.Test.YtghfpidpefdndaaAb5
namespace Go.Proofs.Ytghfpidpefdndaa
open Go.RowKit

theorem mapM_get {α β : Type} {f : α → Option β} : ∀ {l : List α} {m : List β}, l.mapM f = some m → ∀ {i : Nat} {y : β}, m[i]? = some y → ∃ x, l[i]? = some x ∧ f x = some y
  | [], m, h, i, y, hy => by simp at h; subst h; simp at hy
  | x :: l, m, h, i, y, hy => by
    simp only [List.mapM_cons, Option.bind_eq_bind, Option.pure_def] at h
    obtain ⟨z, hz, h⟩ := Option.bind_eq_some_iff.1 h
    obtain ⟨m', hm, h⟩ := Option.bind_eq_some_iff.1 h
    cases h
    cases i with
    | zero => simp at hy; subst hy; exact ⟨x, rfl, hz⟩
    | succ i => simpa using mapM_get hm (by simpa using hy)
theorem run_trips {P : Program} (w : World) : ∀ {gs : List Field} {fs : List (Nat × Nat × Bool)}, gs.mapM (trip P) = some fs → (gs.mapM fun f => Prod.mk f.offset <$> sizeOf f.type).run P w = .ok (fs.map fun p => (p.1, p.2.1)) w
  | [], fs, h => by simp at h; subst h; rfl
  | g :: gs, fs, h => by
    simp only [List.mapM_cons, Option.bind_eq_bind, Option.pure_def] at h
    obtain ⟨z, hz, h⟩ := Option.bind_eq_some_iff.1 h
    obtain ⟨m', hm, h⟩ := Option.bind_eq_some_iff.1 h
    cases h
    unfold trip at hz
    obtain ⟨i, hi, rfl⟩ := Option.map_eq_some_iff.1 hz
    have hs : (sizeOf g.type).run P w = .ok i.size w := by simp [sizeOf, typeInfo, hi]
    simp [List.mapM_cons, hs, run_trips w hm]
theorem TIOk.st {P : Program} {t : TypeId} {ti : TI} (h : TIOk P t ti) {fs : List (Nat × Nat × Bool)} (hk : ti.kind = .st fs) : ∃ gs, P.underlying t = some (.struct gs) ∧ gs.toList.mapM (trip P) = some fs := by
  have hf := h.fits
  rw [hk] at hf
  obtain ⟨d, hd, hm⟩ := Option.bind_eq_some_iff.1 hf
  cases d <;> simp at hm
  exact ⟨_, hd, hm⟩

/-- a step that makes a block with one own entry -/
theorem step_alloc {c : Cx} {N O1 : Nat → Prop} {ρ : Env} {S : St} {a : Act} {w : World} (h : Conc c N O1 ρ S a w) {i0 : Nat} (hf : ∀ k, i0 ≤ k → k < i0 + 16 → ρ k = none) {e : Ent} {v : Value} {o : Obj}
    (hv : v.oneCell' = true) (hb : ∀ b, blkOf v = some b → b = w.heap.size) (hen : EntOk c (fun b => O1 b ∨ b = w.heap.size) (fun k => if k = i0 then some v else ρ k) (w.alloc o) i0 e) :
    StepTo c i0 [(i0, e)] O1 ρ w (fun b => O1 b ∨ b = w.heap.size) (fun k => if k = i0 then some v else ρ k) (w.alloc o) := by
  have hn : ρ i0 = none := hf i0 (Nat.le_refl _) (by omega)
  have hsz : (w.alloc o).heap.size = w.heap.size + 1 := by simp
  refine ⟨?_, ?_, ?_, ⟨rfl, rfl, rfl, by omega, fun b hb _ => Below.heap_alloc w o b hb⟩, ?_, ?_, fun b hb => .inl (.inl hb), ?_, ?_⟩
  · intro k u hk
    have : k ≠ i0 := by rintro rfl; rw [hn] at hk; cases hk
    simp [this, hk]
  · intro k hk
    have : k ≠ i0 := by omega
    simp [this]
  · intro k u hk
    by_cases e : k = i0
    · simp [e] at hk; subst hk; exact hv
    · simp [e] at hk; exact h.one k u hk
  · intro k e' he
    have := look_mem he
    simp at this
    obtain ⟨rfl, rfl⟩ := this
    exact hen
  · intro b hb
    rcases hb with hb | rfl
    · exact .inl hb
    · exact .inr ⟨Nat.le_refl _, by omega⟩
  · intro k e' v' b he _ hv' hb'
    have := look_mem he
    simp at this
    obtain ⟨rfl, rfl⟩ := this
    simp at hv'
    subst hv'
    exact .inl (by rw [hb b hb']; exact Nat.le_refl _)
  · intro k1 k2 e1 e2 v1 v2 b hne he1 he2
    have h1 := look_mem he1
    have h2 := look_mem he2
    simp at h1 h2
    exact absurd (h1.1.trans h2.1.symm) hne

theorem ok_alloc {c : Cx} {S : St} {i0 : Nat} {o : Oper} {e : Ent}
    (h : ∀ N O1 ρ a w, Conc c N O1 ρ S a w → (∀ k, i0 ≤ k → k < i0 + 16 → ρ k = none) → ∃ v ob, v.oneCell' = true ∧ (∀ b, blkOf v = some b → b = w.heap.size) ∧ (execOp a.eval o).run c.P w = .ok (.value v) (w.alloc ob) ∧
      EntOk c (fun b => O1 b ∨ b = w.heap.size) (fun k => if k = i0 then some v else ρ k) (w.alloc ob) i0 e) : OpOk c S i0 o ⟨.one (.ref i0), [(i0, e)]⟩ := by
  refine ⟨fun k e' he => by simp at he; exact .inl (by omega), fun N O1 ρ a w hc hf next Q hn => ?_⟩
  obtain ⟨v, ob, h1, h2, h3, h4⟩ := h N O1 ρ a w hc hf
  unfold Oper.wp
  rw [h3, Oper.upon_value]
  exact hn _ _ v _ (by simp [Den, den1]) (step_alloc hc hf h1 h2 h4)

theorem box_new {c : Cx} {O1 : Nat → Prop} {ρ' : Env} {w : World} {i0 : Nat} {l : List A1} {vs : List Value} {t : TypeId} (hd : DenL ρ' l vs) (h1 : ∀ v ∈ vs, v.oneCell' = true) (hv : ρ' i0 = some (.pointer (some ⟨w.heap.size, 0, none⟩))) :
    EntOk c (fun b => O1 b ∨ b = w.heap.size) ρ' (w.alloc (.cells vs.toArray t)) i0 (.box l) :=
  ⟨w.heap.size, t, vs, hv, .inr rfl, hd, h1, heap_alloc_new w _⟩

theorem conl_den (ρ : Env) : ∀ l : List Value, DenL ρ (l.map A1.con) l
  | [] => rfl
  | v :: l => ⟨v, l, rfl, rfl, conl_den ρ l⟩

def TI.okz (ti : TI) : Bool := ti.z.all Value.oneCell' && (isSt ti || nb ti.z.length 1)
theorem okz_cells {ti : TI} (h : ti.okz = true) : ti.zv.cells = ti.z.toArray ∧ ∀ v ∈ ti.z, v.oneCell' = true := by
  unfold TI.okz at h
  simp only [Bool.and_eq_true, List.all_eq_true, Bool.or_eq_true] at h
  obtain ⟨h1, h2⟩ := h
  refine ⟨?_, h1⟩
  cases hs : isSt ti with
  | true =>
    unfold isSt at hs
    unfold TI.zv
    split at hs
    · next fs hk => rw [hk]; rfl
    · cases hs
  | false =>
    have hl := eq_of_nb (h2.resolve_left (by simp [hs]))
    obtain ⟨z, hz⟩ : ∃ z, ti.z = [z] := List.length_eq_one_iff.1 hl
    have hz1 := h1 z (by simp [hz])
    unfold isSt at hs
    have e : ti.zv = z := by
      unfold TI.zv
      rw [hz]
      cases hk' : ti.kind <;> simp [hk'] at hs <;> rfl
    rw [e, hz]
    cases z <;> first | rfl | simp [Value.oneCell'] at hz1

def aAlloc (C : Ctx) (i0 : Nat) (t : TypeId) (K : Dl → Prop) : Prop :=
  match look t C.ty with
  | some ti => (bif ti.okz then K ⟨.one (.ref i0), [(i0, .box (ti.z.map A1.con))]⟩ else False)
  | none => False
theorem aAlloc_ok {C : Ctx} {c : Cx} (hC : CtxOk C c) {S : St} {i0 : Nat} {o : Oper} {t : TypeId} {K : Dl → Prop} (ho : o.op = .alloc t) (h : aAlloc C i0 t K) : ∃ δ, OpOk c S i0 o δ ∧ K δ := by
  unfold aAlloc at h
  split at h
  · next ti hti =>
    cases hz : ti.okz with
    | false => rw [hz] at h; exact h.elim
    | true =>
      rw [hz] at h
      have hP := hC.ty t ti hti
      rw [← hC.P] at hP
      obtain ⟨h1, h2⟩ := okz_cells hz
      refine ⟨_, ok_alloc fun N O1 ρ a w hc hf => ⟨.pointer (some ⟨w.heap.size, 0, none⟩), .cells ti.z.toArray t, rfl, by simp [blkOf], ?_, box_new (conl_den _ _) h2 (by simp)⟩, h⟩
      simp [execOp, ho, Instr.alloc, hP.zero, newVar, newRow, h1]
  · exact h.elim

def aBox (S : St) (i0 : Nat) (x : Operand) (K : Dl → Prop) : Prop :=
  match (av S x).bind avc with
  | some l => (bif l.all ok1 then K ⟨.one (.ref i0), [(i0, .box l)]⟩ else False)
  | none => False
theorem env_ext {ρ : Env} {i0 : Nat} {v : Value} (hn : ρ i0 = none) : Ext ρ (fun k => if k = i0 then some v else ρ k) := by
  intro k u hk
  have : k ≠ i0 := by rintro rfl; rw [hn] at hk; cases hk
  simp [this, hk]
theorem aBox_ok {c : Cx} {S : St} {i0 : Nat} {o : Oper} {t : TypeId} {x : Operand} {K : Dl → Prop} (ho : o.op = .box t x) (h : aBox S i0 x K) : ∃ δ, OpOk c S i0 o δ ∧ K δ := by
  unfold aBox at h
  split at h
  · next l hl =>
    obtain ⟨y, hy, hyl⟩ := Option.bind_eq_some_iff.1 hl
    cases h1 : l.all ok1 with
    | false => rw [h1] at h; exact h.elim
    | true =>
      rw [h1] at h
      refine ⟨_, ok_alloc fun N O1 ρ a w hc hf => ?_, h⟩
      obtain ⟨us, hd, hus, hu1⟩ := avc_ok hc.one hyl h1 (av_ok hc hy)
      refine ⟨.pointer (some ⟨w.heap.size, 0, none⟩), .cells us.toArray t, rfl, by simp [blkOf], ?_, box_new (hd.ext (env_ext (hf i0 (Nat.le_refl _) (by omega)))) hu1 (by simp)⟩
      have : (a.eval x).cells = us.toArray := by rw [← hus]
      simp [execOp, ho, Instr.box, newVar, newRow, this]
  · exact h.elim

/-- the address of a field -/
def fieldOf (ti : TI) (f : Nat) : Option (Nat × Nat × Bool) := match ti.kind with | .st fs => fs[f]? | _ => none
def aFA (C : Ctx) (S : St) (t : TypeId) (x : Operand) (f : Nat) (K : Dl → Prop) : Prop :=
  match (look t C.ty).bind (fieldOf · f), av S x with
  | some (off, size, _), some (.one (.ref k)) => (match look k S.en with | some (.box _) => (bif nlt 0 size then K ⟨.one (.ptr k 0 0 off), []⟩ else False) | _ => False)
  | some (off, size, _), some (.one (.ptr k i n j)) => (bif nlt 0 size then K ⟨.one (.ptr k i n (j + off)), []⟩ else False)
  | _, _ => False
theorem fieldAt_run {C : Ctx} {c : Cx} (hC : CtxOk C c) {t : TypeId} {f off size : Nat} {g : Bool} (h : (look t C.ty).bind (fieldOf · f) = some (off, size, g)) (hs : nlt 0 size = true) (b p : Nat) (w : World) :
    (Instr.fieldAt t (.pointer (some ⟨b, p, none⟩)) f).run c.P w = .ok (.pointer (some ⟨b, p + off, none⟩)) w := by
  obtain ⟨ti, hti, hf⟩ := Option.bind_eq_some_iff.1 h
  have hP := hC.ty t ti hti
  rw [← hC.P] at hP
  unfold fieldOf at hf
  split at hf
  · next fs hk =>
    obtain ⟨gs, hu, hm⟩ := hP.st hk
    obtain ⟨fd, hfd, htr⟩ := mapM_get hm hf
    unfold trip at htr
    obtain ⟨i, hi, he⟩ := Option.map_eq_some_iff.1 htr
    simp only [Prod.mk.injEq] at he
    have hfd' : gs[f]? = some fd := by simpa using hfd
    have hpos : i.size ≠ 0 := by
      have : 1 ≤ size := lt_of_nlt hs
      omega
    have hsz : (sizeOf fd.type).run c.P w = .ok i.size w := by simp [sizeOf, typeInfo, hi]
    have ea : ∀ j, (⟨b, p, none⟩ : Addr).add j = ⟨b, p + j, none⟩ := fun j => by unfold Addr.add; split <;> simp_all
    simp [Instr.fieldAt, run_underlying hu, hfd', Instr.sureAddr, fieldPlace, hsz, hpos, ea, he.1]
  · cases hf
theorem aFA_ok {C : Ctx} {c : Cx} (hC : CtxOk C c) {S : St} {i0 : Nat} {o : Oper} {t : TypeId} {x : Operand} {f : Nat} {K : Dl → Prop} (ho : o.op = .fieldAddr t x f) (h : aFA C S t x f K) : ∃ δ, OpOk c S i0 o δ ∧ K δ := by
  unfold aFA at h
  split at h
  · next off size g k hf hx =>
    split at h
    · next l hl =>
      cases hs : nlt 0 size with
      | false => rw [hs] at h; exact h.elim
      | true =>
        rw [hs] at h
        refine ⟨_, ok_pure fun N O1 ρ a w hc => ?_, h⟩
        obtain ⟨b, e, vs, e1, _⟩ := hc.en k _ hl
        have := av_ok hc hx
        simp only [Den, den1, e1, Option.some.injEq] at this
        refine ⟨.pointer (some ⟨b, 0 + off, none⟩), by simp [Den, den1, e1, padd], ?_⟩
        simp [execOp, ho, ← this, fieldAt_run hC hf hs]
    · exact h.elim
  · next off size g k i n j hf hx =>
    cases hs : nlt 0 size with
    | false => rw [hs] at h; exact h.elim
    | true =>
      rw [hs] at h
      refine ⟨_, ok_pure fun N O1 ρ a w hc => ?_, h⟩
      have := av_ok hc hx
      simp only [Den, den1] at this
      obtain ⟨v, hv, hp⟩ := Option.bind_eq_some_iff.1 this
      clear this
      generalize hxe : a.eval x = u at hp ⊢
      obtain ⟨b, p, hp2, hp3⟩ : ∃ b p, u = .pointer (some ⟨b, p + (i * n + j), none⟩) ∧ padd v (i * n + (j + off)) = some (.pointer (some ⟨b, p + (i * n + j) + off, none⟩)) := by
        unfold padd at hp ⊢
        split at hp
        · next b p => cases hp; exact ⟨b, p, rfl, by simp only [Nat.add_assoc]⟩
        · next b p _ _ => cases hp; exact ⟨b, p, rfl, by simp only [Nat.add_assoc]⟩
        · cases hp
      refine ⟨.pointer (some ⟨b, p + (i * n + j) + off, none⟩), by simp only [Den, den1, hv, Option.bind_some]; exact hp3, ?_⟩
      subst hp2
      simp [execOp, ho, hxe, fieldAt_run hC hf hs]
  · exact h.elim

/-- the address of an element of a slice -/
def lenOf (S : St) (k : Nat) : Option (TC × Nat) :=
  match look k S.en with
  | some (.own _ t xs _) => some (t, xs.length)
  | some (.imm t xs _) => some (t, xs.length)
  | _ => none
theorem lenOf_ok {c : Cx} {N O1 : Nat → Prop} {ρ : Env} {S : St} {a : Act} {w : World} (h : Conc c N O1 ρ S a w) {k : Nat} {t : TC} {n : Nat} (hl : lenOf S k = some (t, n)) :
    ∃ ad cap, ρ k = some (.slice ad n cap) ∧ n ≤ cap ∧ n ≤ LB ∧ (0 < n → ∃ b p, ad = some ⟨b, p, none⟩) ∧ (ad = none → cap = 0) := by
  unfold lenOf at hl
  split at hl
  · next e t' xs fr he =>
    cases hl
    obtain ⟨v, cs, h1, h2, h3, _⟩ := h.en k _ he
    rcases h2.2 with ⟨rfl, h0⟩ | ⟨g, cap, cur, rfl, _, _, hnc, _⟩
    · exact ⟨none, 0, by rw [h1, h0], by omega, by omega, by omega, fun _ => rfl⟩
    · exact ⟨_, cap, h1, hnc, h3, fun _ => ⟨g, 0, rfl⟩, by simp⟩
  · next t' xs fr he =>
    cases hl
    obtain ⟨v, h1, ad, cap, hv, h2, h3, h3', h4⟩ := h.en k _ he
    simp only [List.cons.injEq, and_true] at hv
    subst hv
    refine ⟨ad, cap, h1, h2, h3, fun hp => ?_, h3'⟩
    obtain ⟨b, off, rfl, _⟩ := h4.resolve_left (by rintro rfl; simp at hp)
    exact ⟨b, off, rfl⟩
  · cases hl
def elemOk (C : Ctx) (t : TypeId) (n : Nat) : Bool :=
  match look t C.ty with
  | some ⟨.sl e, _, _⟩ => (match look e C.ty with | some ti => nb ti.z.length n | none => false)
  | _ => false
theorem elemOk_ok {C : Ctx} {c : Cx} (hC : CtxOk C c) {t : TypeId} {n : Nat} (h : elemOk C t n = true) : ∃ e, c.P.underlying t = some (.slice e) ∧ ∀ w, (sizeOf e).run c.P w = .ok n w := by
  unfold elemOk at h
  split at h
  · next e z tc ht =>
    have hP := (hC.ty t _ ht).fits
    rw [← hC.P] at hP
    split at h
    · next ti he =>
      have hE := hC.ty e _ he
      rw [← hC.P] at hE
      refine ⟨e, hP, fun w => ?_⟩
      rw [hE.size, eq_of_nb h]
    · cases h
  · cases h
def aIA (C : Ctx) (S : St) (t : TypeId) (x y : Operand) (K : Dl → Prop) : Prop :=
  match av S x, cv S y with
  | some (.one (.ref k)), some (.int _ z) => (match lenOf S k with
    | some (tc, n) => (bif elemOk C t tc.n then (0 ≤ z ∧ z < n) ∧ K ⟨.one (.ptr k z.toNat tc.n 0), []⟩ else False)
    | none => False)
  | _, _ => False
theorem aIA_ok {C : Ctx} {c : Cx} (hC : CtxOk C c) {S : St} {i0 : Nat} {o : Oper} {t : TypeId} {x y : Operand} {K : Dl → Prop} (ho : o.op = .indexAddr t x y) (h : aIA C S t x y K) : ∃ δ, OpOk c S i0 o δ ∧ K δ := by
  unfold aIA at h
  split at h
  · next k kk z hx hy =>
    split at h
    · next tc n hl =>
      cases he : elemOk C t tc.n with
      | false => rw [he] at h; exact h.elim
      | true =>
        rw [he] at h
        obtain ⟨⟨h0, h1⟩, hK⟩ := h
        refine ⟨_, ok_pure fun N O1 ρ a w hc => ?_, hK⟩
        obtain ⟨ad, cap, hv, _, _, hne, _⟩ := lenOf_ok hc hl
        obtain ⟨b, p, rfl⟩ := hne (by omega)
        obtain ⟨e, hu, hs⟩ := elemOk_ok hC he
        have := av_ok hc hx
        simp only [Den, den1, hv, Option.some.injEq] at this
        have hyv := cv_ok hc hy
        refine ⟨.pointer (some ⟨b, p + (z.toNat * tc.n + 0), none⟩), by simp [Den, den1, hv, padd], ?_⟩
        have ea : ∀ j, (⟨b, p, none⟩ : Addr).add j = ⟨b, p + j, none⟩ := fun j => by unfold Addr.add; split <;> simp_all
        simp [execOp, ho, ← this, hyv, Instr.indexAt, asIntOf, run_underlying hu, hs, h0, h1, ea]
    · exact h.elim
  · exact h.elim
end Go.Proofs.Ytghfpidpefdndaa
