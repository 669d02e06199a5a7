/-
  The abstract machine, part 3: data opened into abstract cells and closed again; loads.
-/
import Derived.Test.YtghfpidpefdndaaAb2
namespace Go.Proofs.Ytghfpidpefdndaa
open Go.RowKit

def TC.nsl : TC → Nat
  | .sl _ => 1
  | .pr t u => t.nsl + u.nsl
  | _ => 0
/-- the cells of data; its slices get the numbers from id on -/
def opn : (t : TC) → t.D → Bool → Nat → List A1 × List (Nat × Ent)
  | .i k, x, _, _ => ([.con (.int k x)], [])
  | .b, x, _, _ => ([.con (.bool x)], [])
  | .s, x, _, _ => ([.con (.string x)], [])
  | .sl t, x, fr, id => ([.ref id], [(id, .imm t x fr)])
  | .pr t u, x, fr, id => ((opn t x.1 fr id).1 ++ (opn u x.2 fr (id + t.nsl)).1, (opn t x.1 fr id).2 ++ (opn u x.2 fr (id + t.nsl)).2)

theorem EntOk.ext {c : Cx} {O1 : Nat → Prop} {ρ ρ' : Env} {w : World} {k : Nat} {e : Ent} (h : EntOk c O1 ρ w k e) (hE : Ext ρ ρ') : EntOk c O1 ρ' w k e := by
  cases e with
  | box l => obtain ⟨b, e, vs, h1, h2, h3, h4, h5⟩ := h; exact ⟨b, e, vs, hE _ _ h1, h2, h3.ext hE, h4, h5⟩
  | own e t xs fr => obtain ⟨v, cs, h1, h2⟩ := h; exact ⟨v, cs, hE _ _ h1, h2⟩
  | imm t xs fr => obtain ⟨v, h1, h2⟩ := h; exact ⟨v, hE _ _ h1, h2⟩
  | mp g tk tv m => obtain ⟨b, es, cl, h1, h2⟩ := h; exact ⟨b, es, cl, hE _ _ h1, h2⟩
  | gone => trivial

theorem opn_len : ∀ (t : TC) (x : t.D) (fr : Bool) (id : Nat), (opn t x fr id).1.length = t.n
  | .i _, _, _, _ => rfl
  | .b, _, _, _ => rfl
  | .s, _, _, _ => rfl
  | .sl _, _, _, _ => rfl
  | .pr t u, x, fr, id => by simp [opn, TC.n, opn_len]

theorem opn_ok {c : Cx} {O1 : Nat → Prop} {w : World} {fr : Bool} : ∀ (t : TC) (vs : List Value) (x : t.D) (id : Nat) (ρ : Env), Rep (offs c O1 fr) w t vs x → (∀ k, id ≤ k → k < id + t.nsl → ρ k = none) →
    ∃ ρ', Ext ρ ρ' ∧ (∀ k, (k < id ∨ id + t.nsl ≤ k) → ρ' k = ρ k) ∧ (∀ k v, ρ' k = some v → ρ k = some v ∨ v.oneCell' = true) ∧ DenL ρ' (opn t x fr id).1 vs ∧
      ∀ k e, (k, e) ∈ (opn t x fr id).2 → isOwn e = false ∧ id ≤ k ∧ k < id + t.nsl ∧ EntOk c O1 ρ' w k e
  | .i _, _, _, _, ρ, h, _ => by
    simp only [Rep] at h; subst h
    exact ⟨ρ, Ext.refl _, fun _ _ => rfl, fun _ _ h => .inl h, ⟨_, [], rfl, rfl, rfl⟩, fun k e he => by simp [opn] at he⟩
  | .b, _, _, _, ρ, h, _ => by
    simp only [Rep] at h; subst h
    exact ⟨ρ, Ext.refl _, fun _ _ => rfl, fun _ _ h => .inl h, ⟨_, [], rfl, rfl, rfl⟩, fun k e he => by simp [opn] at he⟩
  | .s, _, _, _, ρ, h, _ => by
    simp only [Rep] at h; subst h
    exact ⟨ρ, Ext.refl _, fun _ _ => rfl, fun _ _ h => .inl h, ⟨_, [], rfl, rfl, rfl⟩, fun k e he => by simp [opn] at he⟩
  | .sl t, vs, x, id, ρ, h, hf => by
    have hn : ρ id = none := hf id (Nat.le_refl _) (by simp [TC.nsl])
    have h0 := h
    simp only [Rep] at h
    obtain ⟨a, cap, rfl, _⟩ := h
    have hE : Ext ρ (fun k => if k = id then some (.slice a x.length cap) else ρ k) := by
      intro k v hk
      have : k ≠ id := by rintro rfl; rw [hn] at hk; cases hk
      simp [this, hk]
    refine ⟨fun k => if k = id then some (.slice a x.length cap) else ρ k, hE, ?_, ?_, ?_, ?_⟩
    · intro k hk
      have : k ≠ id := by simp [TC.nsl] at hk; omega
      simp [this]
    · intro k v hk
      by_cases e : k = id
      · simp [e] at hk; subst hk; exact .inr rfl
      · simp [e] at hk; exact .inl hk
    · exact ⟨_, [], rfl, by simp [den1], rfl⟩
    · intro k e he
      simp [opn] at he
      obtain ⟨rfl, rfl⟩ := he
      exact ⟨rfl, Nat.le_refl _, by simp [TC.nsl], ⟨_, by simp, h0⟩⟩
  | .pr t u, vs, x, id, ρ, h, hf => by
    simp only [Rep] at h
    obtain ⟨us, ws, rfl, h1, h2⟩ := h
    obtain ⟨ρ1, e1, i1, o1, d1, n1⟩ := opn_ok t us x.1 id ρ h1 (fun k hk hk' => hf k hk (by simp [TC.nsl]; omega))
    obtain ⟨ρ2, e2, i2, o2, d2, n2⟩ := opn_ok u ws x.2 (id + t.nsl) ρ1 h2 (fun k hk hk' => by
      rw [i1 k (.inr hk)]; exact hf k (by omega) (by simp [TC.nsl]; omega))
    refine ⟨ρ2, fun k v hk => e2 k v (e1 k v hk), ?_, ?_, ?_, ?_⟩
    · intro k hk
      simp only [TC.nsl] at hk
      rw [i2 k (by omega), i1 k (by omega)]
    · intro k v hk
      rcases o2 k v hk with hk | hk
      · exact o1 k v hk
      · exact .inr hk
    · exact (d1.ext e2).append d2
    · intro k e he
      simp only [opn, List.mem_append] at he
      simp only [TC.nsl]
      rcases he with he | he
      · obtain ⟨a, b, d, f⟩ := n1 k e he
        exact ⟨a, b, by omega, f.ext e2⟩
      · obtain ⟨a, b, d, f⟩ := n2 k e he
        exact ⟨a, by omega, by omega, f⟩

theorem Rep.flat {O O' : Nat → Prop} {w w' : World} : ∀ {t : TC} {vs : List Value} {x : t.D}, t.nsl = 0 → Rep O w t vs x → Rep O' w' t vs x
  | .i _, _, _, _, h => h
  | .b, _, _, _, h => h
  | .s, _, _, _, h => h
  | .sl _, _, _, hn, _ => by simp [TC.nsl] at hn
  | .pr t u, _, _, hn, h => by
    simp only [TC.nsl] at hn
    obtain ⟨us, ws, h0, h1, h2⟩ := h
    exact ⟨us, ws, h0, h1.flat (by omega), h2.flat (by omega)⟩
/-- equality of codes, with its proof -/
def keq (a b : IntKind) : Option (PLift (a = b)) :=
  match a, b with
  | .i8, .i8 => some ⟨rfl⟩ | .i16, .i16 => some ⟨rfl⟩ | .i32, .i32 => some ⟨rfl⟩ | .i64, .i64 => some ⟨rfl⟩
  | .u8, .u8 => some ⟨rfl⟩ | .u16, .u16 => some ⟨rfl⟩ | .u32, .u32 => some ⟨rfl⟩ | .u64, .u64 => some ⟨rfl⟩
  | _, _ => none
def teq : (t u : TC) → Option (PLift (t = u))
  | .i k, u => match u with
    | .i k' => (match keq k k' with | some ⟨h⟩ => some ⟨by rw [h]⟩ | none => none)
    | _ => none
  | .b, u => match u with | .b => some ⟨rfl⟩ | _ => none
  | .s, u => match u with | .s => some ⟨rfl⟩ | _ => none
  | .sl t, u => match u with
    | .sl t' => (match teq t t' with | some ⟨h⟩ => some ⟨by rw [h]⟩ | none => none)
    | _ => none
  | .pr t1 t2, u => match u with
    | .pr u1 u2 => (match teq t1 u1, teq t2 u2 with | some ⟨h⟩, some ⟨g⟩ => some ⟨by rw [h, g]⟩ | _, _ => none)
    | _ => none
def castD {t u : TC} (h : t = u) (xs : List t.D) : List u.D := cast (congrArg (fun t => List (TC.D t)) h) xs

/-- abstract cells closed into data (its slices are such as nobody writes); whether the data's memory is new -/
def cls (en : List (Nat × Ent)) : (t : TC) → List A1 → Option (t.D × Bool)
  | .i k, l => match l with | [.con (.int k' x)] => (bif kb k' k then some (x, true) else none) | _ => none
  | .b, l => match l with | [.con (.bool x)] => some (x, true) | _ => none
  | .s, l => match l with | [.con (.string x)] => some (x, true) | _ => none
  | .sl t, l => match l with
    | [.con (.slice none n m)] => (bif nb n 0 && nb m 0 then some ([], true) else none)
    | [.ref k] => (match look k en with
      | some (.imm t' xs fr) => (match teq t' t with | some ⟨h⟩ => some (castD h xs, fr) | none => none)
      | _ => none)
    | _ => none
  | .pr t u, l => match cls en t (l.take t.n), cls en u (l.drop t.n) with
    | some x, some y => some ((x.1, y.1), x.2 && y.2)
    | _, _ => none

theorem cls_ok {c : Cx} {O1 : Nat → Prop} {ρ : Env} {w : World} {en : List (Nat × Ent)} (hen : ∀ k e, look k en = some e → EntOk c O1 ρ w k e) :
    ∀ (t : TC) (l : List A1) (vs : List Value) (x : t.D) (fr : Bool), DenL ρ l vs → cls en t l = some (x, fr) → Rep (offs c O1 fr) w t vs x
  | .i k, l, vs, x, fr, hd, h => by
    simp only [cls] at h
    split at h
    · next k' y =>
      obtain ⟨v, us, rfl, h1, rfl⟩ := hd
      simp [den1] at h1; subst h1
      cases hk : kb k' k with
      | false => rw [hk] at h; cases h
      | true => rw [hk] at h; cases kb_eq hk; cases h; simp [Rep]
    · cases h
  | .b, l, vs, x, fr, hd, h => by
    simp only [cls] at h
    split at h
    · obtain ⟨v, us, rfl, h1, rfl⟩ := hd
      simp [den1] at h1; subst h1
      cases h; simp [Rep]
    · cases h
  | .s, l, vs, x, fr, hd, h => by
    simp only [cls] at h
    split at h
    · obtain ⟨v, us, rfl, h1, rfl⟩ := hd
      simp [den1] at h1; subst h1
      cases h; simp [Rep]
    · cases h
  | .sl t, l, vs, x, fr, hd, h => by
    simp only [cls] at h
    split at h
    · next n cap =>
      obtain ⟨v, us, rfl, h1, rfl⟩ := hd
      simp [den1] at h1; subst h1
      cases hn : nb n 0 && nb cap 0 with
      | false => rw [hn] at h; cases h
      | true =>
        rw [hn] at h; cases h
        simp only [Bool.and_eq_true] at hn
        have := eq_of_nb hn.1
        subst this
        have := eq_of_nb hn.2
        subst this
        exact ⟨none, 0, rfl, Nat.zero_le _, Nat.zero_le _, fun _ => rfl, .inl rfl⟩
    · next k =>
      obtain ⟨v, us, rfl, h1, rfl⟩ := hd
      simp only [den1] at h1
      split at h
      · next t' xs fr' hl =>
        split at h
        · next g _ =>
          subst g
          simp only [castD, cast_eq, Option.some.injEq, Prod.mk.injEq] at h
          obtain ⟨rfl, rfl⟩ := h
          obtain ⟨v', hv', hr⟩ := hen k _ hl
          rw [h1] at hv'
          cases hv'
          exact hr
        · cases h
      · cases h
    · cases h
  | .pr t u, l, vs, x, fr, hd, h => by
    simp only [cls] at h
    split at h
    · next x1 x2 h1 h2 =>
      cases h
      have m : ∀ (f : Bool), (f = (x1.2 && x2.2)) → ∀ (g : Bool), (g = x1.2 ∨ g = x2.2) → ∀ b, b < w.heap.size → ¬ offs c O1 g b → ¬ offs c O1 f b ∧ w.heap[b]? = w.heap[b]? := by
        intro f hf g hg b _ hn
        refine ⟨?_, rfl⟩
        simp only [offs, not_or, not_and] at hn ⊢
        refine ⟨hn.1, fun hf' => hn.2 ?_⟩
        rw [hf'] at hf
        have := hf.symm
        simp at this
        rcases hg with rfl | rfl
        · exact this.1
        · exact this.2
      have r1 := cls_ok hen t _ _ x1.1 x1.2 (hd.take t.n) h1
      have r2 := cls_ok hen u _ _ x2.1 x2.2 (hd.drop t.n) h2
      exact ⟨_, _, (List.take_append_drop t.n vs).symm, r1.move (m _ rfl _ (.inl rfl)), r2.move (m _ rfl _ (.inr rfl))⟩
    · cases h

theorem padd_box (b o : Nat) : padd (.pointer (some ⟨b, 0, none⟩)) o = some (.pointer (some ⟨b, o, none⟩)) := by simp [padd]
theorem padd_row (b p n cap o : Nat) : padd (.slice (some ⟨b, p, none⟩) n cap) o = some (.pointer (some ⟨b, p + o, none⟩)) := rfl

def isSt (ti : TI) : Bool := match ti.kind with | .st _ => true | _ => false
section
variable {P : Program} {t : TypeId} {ti : TI}
theorem TIOk.parts (h : TIOk P t ti) : ∃ i, P.info? t = some i ∧ i.zero = some ti.zv ∧ i.size = ti.z.length ∧ i.bytes ≤ 128 := by
  have h1 := h.info
  have h2 := h.bytes
  cases hi : P.info? t with
  | none => rw [hi] at h1; simp at h1
  | some i => rw [hi] at h1 h2; simp at h1 h2; exact ⟨i, rfl, h1.1, h1.2, h2⟩
theorem TIOk.size (h : TIOk P t ti) (w : World) : (sizeOf t).run P w = .ok ti.z.length w := by
  obtain ⟨i, hi, _, hs, _⟩ := h.parts
  simp [sizeOf, typeInfo, hi, hs]
theorem TIOk.zero (h : TIOk P t ti) (w : World) : (zeroValue t).run P w = .ok ti.zv w := by
  obtain ⟨i, hi, hz, _⟩ := h.parts
  simp [zeroValue, typeInfo, hi, hz]
theorem TIOk.agg (h : TIOk P t ti) (w : World) : (isAgg t).run P w = .ok (isSt ti) w := by
  have hf := h.fits
  unfold isSt
  cases hk : ti.kind <;> rw [hk] at hf <;> simp only [TK.fits] at hf
  case st fs =>
    obtain ⟨d, hd, hm⟩ := Option.bind_eq_some_iff.1 hf
    cases d <;> simp at hm
    simp [isAgg, run_underlying hd]
  all_goals simp [isAgg, run_underlying hf]

/-- the value of a type's cells -/
def mkv (ti : TI) (l : List A1) : Option AV :=
  bif isSt ti then some (.agg l) else match l with | [x] => some (.one x) | _ => none
theorem run_load (h : TIOk P t ti) {w : World} {b o : Nat} {us : List Value} (hl : us.length = ti.z.length) (hc : ∀ (j : Nat) (v : Value), us[j]? = some v → w.cell? ⟨b, o + j, none⟩ = some v)
    {ρ : Env} {l : List A1} {y : AV} (hd : DenL ρ l us) (hy : mkv ti l = some y) : ∃ v, Den ρ y v ∧ (Instr.loadAt t (.pointer (some ⟨b, o, none⟩))).run P w = .ok v w := by
  have ea : ∀ j, (⟨b, o, none⟩ : Addr).add j = ⟨b, o + j, none⟩ := fun j => by unfold Addr.add; split <;> simp_all
  unfold mkv at hy
  cases hs : isSt ti with
  | true =>
    rw [hs] at hy; cases hy
    refine ⟨_, ⟨us, hd, rfl⟩, ?_⟩
    have := run_loadCells_list (P := P) w ⟨b, o, none⟩ us (fun j v hj => by rw [ea]; exact hc j v hj)
    rw [hl] at this
    simp [Instr.loadAt, Instr.sureAddr, loadVar, h.agg, hs, h.size, this]
  | false =>
    rw [hs] at hy
    simp only [cond_false] at hy
    split at hy
    · next x =>
      cases hy
      obtain ⟨v, us', rfl, h1, rfl⟩ := hd
      have := hc 0 v rfl
      refine ⟨v, h1, ?_⟩
      simp [Instr.loadAt, Instr.sureAddr, loadVar, h.agg, hs, load]
      simp [Sem.run]
      rw [show (⟨b, o, none⟩ : Addr) = ⟨b, o + 0, none⟩ from rfl, this]
    · cases hy
end
end Go.Proofs.Ytghfpidpefdndaa
