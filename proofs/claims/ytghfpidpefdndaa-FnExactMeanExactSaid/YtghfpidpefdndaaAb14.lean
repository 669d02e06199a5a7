/-
  The abstract machine, part 14: regions that draw their order: one walk in the order of the text, each operation seeing only what comes before it in every order.
-/
import Derived.Test.YtghfpidpefdndaaAb13
namespace Go.Proofs.Ytghfpidpefdndaa
open Go.RowKit

/-- of each operation of a region: those that come before it in every order; those that are not ordered with it; entries that it must not see -/
structure DA where
  bf : List (List Nat)
  un : List (List Nat)
  hd : List (List Nat)

def at2 (l : List (List Nat)) (i : Nat) : List Nat := match nth l i with | some x => x | none => []

abbrev Dd := Option Nat × Dl
def addD (p : Nat → Bool) : Nat → List Dd → St → St
  | _, [], S => S
  | j, x :: ds, S => addD p (j + 1) ds (bif p j then S.add x.1 x.2 else S)
def keys : List (Nat × Ent) → List Nat
  | [] => []
  | x :: l => x.1 :: keys l
def hide (l : List Nat) (S : St) : St := match l with | [] => S | _ :: _ => { S with en := S.en.filter fun p => !memb p.1 l }
def Rst (A : DA) (S : St) (ds : List Dd) (i : Nat) : St := hide (at2 A.hd i) (addD (fun j => memb j (at2 A.bf i)) 0 ds S)

theorem look_keys {k : Nat} {e : Ent} : ∀ {l : List (Nat × Ent)}, look k l = some e → k ∈ keys l
  | [], h => by simp [look] at h
  | (k', e') :: l, h => by
    by_cases hk : k' = k
    · subst hk; simp [keys]
    · rw [look_cons_ne hk] at h; simp [keys, look_keys h]
theorem look_nokeys {k : Nat} : ∀ {l : List (Nat × Ent)}, k ∉ keys l → look k l = none
  | [], _ => rfl
  | (k', e') :: l, h => by
    simp only [keys, List.mem_cons, not_or] at h
    rw [look_cons_ne (fun e => h.1 e.symm)]
    exact look_nokeys h.2
theorem keys_look {k : Nat} : ∀ {l : List (Nat × Ent)}, k ∈ keys l → ∃ e, look k l = some e
  | (k', e') :: l, h => by
    by_cases hk : k' = k
    · subst hk; exact ⟨e', look_cons_eq⟩
    · rw [look_cons_ne hk]
      simp only [keys, List.mem_cons] at h
      exact keys_look (h.resolve_left fun e => hk e.symm)
theorem mem_keys {k : Nat} {e : Ent} : ∀ {l : List (Nat × Ent)}, (k, e) ∈ l → k ∈ keys l
  | (k', e') :: l, h => by
    simp only [List.mem_cons, Prod.mk.injEq] at h
    simp only [keys, List.mem_cons]
    exact h.imp (·.1) mem_keys

theorem add_tm {S : St} {x : Dd} {t : Nat} (h : x.1 ≠ some t) : look t (S.add x.1 x.2).tm = look t S.tm := by
  cases hx : x.1 with
  | none => rfl
  | some d => exact look_cons_ne (by rintro rfl; exact h hx)
theorem add_en {S : St} {x : Dd} {u : Nat} (h : u ∉ keys x.2.en) : look u (S.add x.1 x.2).en = look u S.en := by
  simp [St.add, look_append, look_nokeys h]
theorem add_en_in {S : St} {x : Dd} {u : Nat} (h : u ∈ keys x.2.en) : look u (S.add x.1 x.2).en = look u x.2.en := by
  obtain ⟨e, he⟩ := keys_look h
  simp [St.add, look_append, he]

theorem addD_tm_same {p q : Nat → Bool} {t : Nat} : ∀ (ds : List Dd) (j : Nat) (S S' : St), look t S.tm = look t S'.tm → (∀ i x, ds[i]? = some x → p (j + i) ≠ q (j + i) → x.1 ≠ some t) →
    look t (addD p j ds S).tm = look t (addD q j ds S').tm
  | [], _, _, _, h, _ => h
  | x :: ds, j, S, S', h, hd => by
    simp only [addD]
    refine addD_tm_same ds (j + 1) _ _ ?_ (fun i y hy => by have := hd (i + 1) y (by simpa using hy); rwa [show j + (i + 1) = j + 1 + i by omega] at this)
    have h0 := hd 0 x rfl
    simp only [Nat.add_zero] at h0
    have e : ∀ S1 S2 : St, look t S1.tm = look t S2.tm → look t (S1.add x.1 x.2).tm = look t (S2.add x.1 x.2).tm := by
      intro S1 S2 h12
      cases hx : x.1 with
      | none => exact h12
      | some d =>
        by_cases hdt : d = t
        · subst hdt; simp [St.add, look_cons_eq]
        · simp [St.add, look_cons_ne hdt, h12]
    cases hp : p j <;> cases hq : q j <;> simp only [cond_true, cond_false]
    · exact h
    · rw [add_tm (h0 (by simp [hp, hq]))]; exact h
    · rw [add_tm (h0 (by simp [hp, hq]))]; exact h
    · exact e _ _ h
theorem addD_en_same {p q : Nat → Bool} {u : Nat} : ∀ (ds : List Dd) (j : Nat) (S S' : St), look u S.en = look u S'.en → (∀ i x, ds[i]? = some x → p (j + i) ≠ q (j + i) → u ∉ keys x.2.en) →
    look u (addD p j ds S).en = look u (addD q j ds S').en
  | [], _, _, _, h, _ => h
  | x :: ds, j, S, S', h, hd => by
    simp only [addD]
    refine addD_en_same ds (j + 1) _ _ ?_ (fun i y hy => by have := hd (i + 1) y (by simpa using hy); rwa [show j + (i + 1) = j + 1 + i by omega] at this)
    have h0 := hd 0 x rfl
    simp only [Nat.add_zero] at h0
    cases hp : p j <;> cases hq : q j <;> simp only [cond_true, cond_false]
    · exact h
    · rw [add_en (h0 (by simp [hp, hq]))]; exact h
    · rw [add_en (h0 (by simp [hp, hq]))]; exact h
    · by_cases hu : u ∈ keys x.2.en
      · rw [add_en_in hu, add_en_in hu]
      · rw [add_en hu, add_en hu]; exact h
theorem addD_append (p : Nat → Bool) : ∀ (ds es : List Dd) (j : Nat) (S : St), addD p j (ds ++ es) S = addD p (j + ds.length) es (addD p j ds S)
  | [], _, _, _ => rfl
  | x :: ds, es, j, S => by
    simp only [List.cons_append, addD, addD_append p ds es, List.length_cons]
    congr 1; omega
theorem addD_tm_src {p : Nat → Bool} {t : Nat} {y : AV} : ∀ (ds : List Dd) (j : Nat) (S : St), look t (addD p j ds S).tm = some y → look t S.tm = some y ∨ ∃ i x, ds[i]? = some x ∧ p (j + i) = true ∧ x.1 = some t
  | [], _, _, h => .inl h
  | x :: ds, j, S, h => by
    simp only [addD] at h
    rcases addD_tm_src ds (j + 1) _ h with h | ⟨i, z, h1, h2, h3⟩
    · cases hp : p j with
      | false => rw [hp] at h; exact .inl h
      | true =>
        rw [hp] at h
        by_cases hx : x.1 = some t
        · exact .inr ⟨0, x, rfl, by simpa using hp, hx⟩
        · simp only [cond_true] at h
          rw [add_tm hx] at h
          exact .inl h
    · exact .inr ⟨i + 1, z, by simpa using h1, by rw [show j + (i + 1) = j + 1 + i by omega]; exact h2, h3⟩

theorem Conc.weaken {c : Cx} {N O1 : Nat → Prop} {ρ : Env} {S S' : St} {a : Act} {w : World} (h : Conc c N O1 ρ S a w) (ht : ∀ t x, look t S'.tm = some x → look t S.tm = some x) (he : ∀ k e, look k S'.en = some e → look k S.en = some e) : Conc c N O1 ρ S' a w :=
  { h with tm := fun t x hx => h.tm t x (ht t x hx), en := fun k e hk => h.en k e (he k e hk),
           ap := fun k k' e e' v v' b hne h1 h2 => h.ap k k' e e' v v' b hne (he k e h1) (he k' e' h2) }

/-- an operation in a state -/
def GoodOp (c : Cx) (ops : Array Oper) (R : St) (i0 i : Nat) (x : Dd) : Prop :=
  ((ops[i]?).map (·.dst) = some x.1 ∧ ∀ d, x.1 = some d → d < c.n) ∧ (∀ k e, (k, e) ∈ x.2.en → (i0 ≤ k ∧ k < i0 + 16) ∨ ∃ e0, look k R.en = some e0 ∧ isOwn e0 = true) ∧
  ∀ N O1 ρ a w, Conc c N O1 ρ R a w → (∀ k, i0 ≤ k → k < i0 + 16 → ρ k = none) → ∀ (Q : Exit → Act → World → Prop) (K : Act → World → Prop),
    (∀ O1' ρ' v w', Den ρ' x.2.val v → StepTo c i0 x.2.en O1 ρ w O1' ρ' w' → K (a.put x.1 v) w') → wpOp c.P ops Q i K a w

theorem look_filter {k : Nat} {e : Ent} (f : Nat → Bool) : ∀ m : List (Nat × Ent), look k (m.filter fun p => f p.1) = some e → look k m = some e
  | [], h => by simp [look] at h
  | (k', e') :: m, h => by
    simp only [List.filter_cons] at h
    by_cases hk : k' = k
    · subst hk
      rw [look_cons_eq]
      split at h
      · rw [look_cons_eq] at h; exact h
      · next hf =>
        exfalso
        have hm := look_mem h
        rw [List.mem_filter] at hm
        exact hf hm.2
    · rw [look_cons_ne hk]
      split at h
      · rw [look_cons_ne hk] at h; exact look_filter f m h
      · exact look_filter f m h
theorem hide_en {l : List Nat} {S : St} {k : Nat} {e : Ent} (h : look k (hide l S).en = some e) : look k S.en = some e := by
  unfold hide at h
  split at h
  · exact h
  · exact look_filter (fun k => !memb k _) S.en h
theorem hide_tm {l : List Nat} {S : St} : (hide l S).tm = S.tm := by unfold hide; split <;> rfl

/-- what the walk in the order of the text has shown -/
structure Fam (c : Cx) (ops : Array Oper) (A : DA) (S : St) (nx : Nat) (ds : List Dd) : Prop where
  len : ds.length = ops.size
  good : ∀ (i : Nat) (x : Dd), ds[i]? = some x → GoodOp c ops (Rst A S ds i) (nx + 16 * i) i x
  bfo : ∀ i j, j ∈ at2 A.bf i → j < i ∧ ∀ o, ops[i]? = some o → ∃ e ∈ o.after, Region.binds .any e = true ∧ (e.on = j ∨ j ∈ at2 A.bf e.on)
  aft : ∀ i o, ops[i]? = some o → ∀ e ∈ o.after, Region.binds .any e = true → e.on < i
  un : ∀ i k, i < ops.size → k < ops.size → i ≠ k → k ∉ at2 A.bf i → i ∉ at2 A.bf k → k ∈ at2 A.un i
  nod : ∀ (i k : Nat) (x y : Dd) (t : Nat), ds[i]? = some x → ds[k]? = some y → x.1 = some t → y.1 = some t → i = k
  fresh : ∀ (i : Nat) (x : Dd) (t : Nat), ds[i]? = some x → at2 A.un i ≠ [] → x.1 = some t → look t S.tm = none
  clash : ∀ (i k : Nat) (x : Dd), ds[k]? = some x → i < ops.size → i ≠ k → k ∈ at2 A.un i → i ∈ at2 A.un k → ∀ u, u ∈ keys x.2.en → look u (Rst A S ds i).en = none

def done (listed : Array Bool) (i : Nat) : Bool := listed.getD i false
def ranges (nx : Nat) (listed : Array Bool) (k : Nat) : Prop := nx ≤ k ∧ ∀ j, done listed j = true → (k < nx + 16 * j ∨ nx + 16 * j + 16 ≤ k)

theorem drawn_ok {c : Cx} {ops : Array Oper} {A : DA} {S : St} {nx : Nat} {ds : List Dd} {Q : Exit → Act → World → Prop} (F : Fam c ops A S nx ds)
    (hQ : ∀ O1 ρ a w, Conc c (nx + 16 * ops.size ≤ ·) O1 ρ (addD (fun _ => true) 0 ds S) a w → Q .normal a w) :
    ∀ (fuel : Nat) (listed : Array Bool) (O1 : Nat → Prop) (ρ : Env) (a : Act) (w : World), listed.size = ops.size → (∀ i, done listed i = true → ∀ j, j ∈ at2 A.bf i → done listed j = true) →
      (fuel = 0 → ∀ i, i < ops.size → done listed i = true) → (List.countP (fun b => !b) listed.toList ≤ fuel) → Conc c (ranges nx listed) O1 ρ (addD (done listed) 0 ds S) a w → wpAny c.P .any ops Q fuel listed a w := by
  -- all done: the whole
  have fin : ∀ (listed : Array Bool) O1 ρ a w, listed.size = ops.size → (∀ i, i < ops.size → done listed i = true) → Conc c (ranges nx listed) O1 ρ (addD (done listed) 0 ds S) a w → Q .normal a w := by
    intro listed O1 ρ a w hs hall hc
    have e : ∀ i x, ds[i]? = some x → ¬ (done listed (0 + i) ≠ (fun _ => true) (0 + i)) := by
      intro i x hx hne
      have : i < ds.length := (List.getElem?_eq_some_iff.1 hx).1
      rw [F.len] at this
      exact hne (by rw [Nat.zero_add]; exact hall i this)
    refine hQ O1 ρ a w ((hc.weaken (S' := addD (fun _ => true) 0 ds S) ?_ ?_).monoN ?_)
    · intro t x hx
      rw [addD_tm_same (q := fun _ => true) ds 0 S S rfl (fun i x hx hne => (e i x hx hne).elim)]; exact hx
    · intro k e' hk
      rw [addD_en_same (q := fun _ => true) ds 0 S S rfl (fun i x hx hne => (e i x hx hne).elim)]; exact hk
    · intro k hk
      refine ⟨by omega, fun j hj => .inr ?_⟩
      have : j < ops.size := by
        rcases Nat.lt_or_ge j ops.size with h | h
        · exact h
        · simp [done, hs, h] at hj
      omega
  -- not all done: something is ready
  have rdy : ∀ listed : Array Bool, listed.size = ops.size → Region.ready .any ops listed = [] → ∀ i, i < ops.size → done listed i = true := by
    intro listed hs hr i
    induction i using Nat.strongRecOn with
    | _ i ih =>
      intro hi
      cases hd : done listed i with
      | true => rfl
      | false =>
        exfalso
        have hmem : i ∈ Region.ready .any ops listed := by
          refine mem_ready.2 ⟨?_, ops[i], by simp [hi], fun e he hb => ?_⟩
          · have : i < listed.size := by omega
            simpa [done, this] using hd
          · have hlt := F.aft i ops[i] (by simp [hi]) e he hb
            exact ih e.on hlt (by omega)
        rw [hr] at hmem; simp at hmem
  intro fuel
  induction fuel with
  | zero =>
    intro listed O1 ρ a w hs hcl h0 _ hc
    refine ⟨?_, fin listed O1 ρ a w hs (h0 rfl) hc⟩
    cases hr : Region.ready .any ops listed with
    | nil => rfl
    | cons i l =>
      exfalso
      have : i ∈ Region.ready .any ops listed := by rw [hr]; simp
      obtain ⟨h1, o, h2, _⟩ := mem_ready.1 this
      have hi : i < ops.size := (Array.getElem?_eq_some_iff.1 h2).1
      have := h0 rfl i hi
      have hi' : i < listed.size := by omega
      simp [done, hi'] at this h1
      rw [this] at h1; cases h1
  | succ fuel ih =>
    intro listed O1 ρ a w hs hcl _ hcnt hc
    refine ⟨fun hr => fin listed O1 ρ a w hs (rdy listed hs hr) hc, fun i hi => ?_⟩
    obtain ⟨hopen, o, ho, hafter⟩ := mem_ready.1 hi
    have hin : i < ops.size := (Array.getElem?_eq_some_iff.1 ho).1
    have hil : i < listed.size := by omega
    have hnd : done listed i = false := by simpa [done, hil] using hopen
    obtain ⟨x, hx⟩ : ∃ x, ds[i]? = some x := ⟨ds[i]'(by rw [F.len]; exact hin), by simp [F.len, hin]⟩
    -- what comes before it is done
    have hbf : ∀ j, j ∈ at2 A.bf i → done listed j = true := by
      intro j hj
      obtain ⟨_, hb⟩ := F.bfo i j hj
      obtain ⟨e, he, hbi, hor⟩ := hb o ho
      have hde : done listed e.on = true := hafter e he hbi
      rcases hor with rfl | hj2
      · exact hde
      · exact hcl e.on hde j hj2
    -- what is done and does not come before it is not ordered with it
    have hun : ∀ k, done listed k = true → k ∉ at2 A.bf i → k ∈ at2 A.un i ∧ i ∈ at2 A.un k := by
      intro k hk hkb
      have hkl : k < ops.size := by
        rcases Nat.lt_or_ge k ops.size with h | h
        · exact h
        · simp [done, hs, h] at hk
      have hne : i ≠ k := by rintro rfl; rw [hnd] at hk; cases hk
      have hki : i ∉ at2 A.bf k := fun h => by have := hcl k hk i h; rw [hnd] at this; cases this
      exact ⟨F.un i k hin hkl hne hkb hki, F.un k i hkl hin (Ne.symm hne) hki hkb⟩
    obtain ⟨⟨hdst, hdn⟩, hup, hgood⟩ := F.good i x hx
    have hle : ∀ t y, look t (Rst A S ds i).tm = some y → look t (addD (done listed) 0 ds S).tm = some y := by
      intro t y hy
      simp only [Rst, hide_tm] at hy
      rw [← hy]
      symm
      refine addD_tm_same ds 0 S S rfl fun q z hz hne hzt => ?_
      simp only [Nat.zero_add] at hne
      have hq : memb q (at2 A.bf i) = false := by
        cases hm : memb q (at2 A.bf i) with
        | false => rfl
        | true => exact (hne (by rw [hm, hbf q (memb_iff.1 hm)])).elim
      have hdq : done listed q = true := by rw [hq] at hne; cases hd : done listed q <;> simp_all
      have huq := hun q hdq (fun h => by rw [memb_iff.2 h] at hq; cases hq)
      have hfr := F.fresh q z t hz (by intro h0; rw [h0] at huq; simp at huq) hzt
      rcases addD_tm_src ds 0 S hy with h | ⟨q', z', h1, h2, h3⟩
      · rw [hfr] at h; cases h
      · have := F.nod q' q z' z t h1 hz h3 hzt
        subst this
        simp only [Nat.zero_add] at h2
        rw [h2] at hq; cases hq
    have hle2 : ∀ u e, look u (Rst A S ds i).en = some e → look u (addD (done listed) 0 ds S).en = some e := by
      intro u e he
      have he' : look u (addD (fun j => memb j (at2 A.bf i)) 0 ds S).en = some e := hide_en he
      rw [← he']
      symm
      refine addD_en_same ds 0 S S rfl fun q z hz hne hzu => ?_
      simp only [Nat.zero_add] at hne
      have hq : memb q (at2 A.bf i) = false := by
        cases hm : memb q (at2 A.bf i) with
        | false => rfl
        | true => exact (hne (by rw [hm, hbf q (memb_iff.1 hm)])).elim
      have hdq : done listed q = true := by rw [hq] at hne; cases hd : done listed q <;> simp_all
      have huq := hun q hdq (fun h => by rw [memb_iff.2 h] at hq; cases hq)
      have := F.clash i q z hz hin (by rintro rfl; rw [hnd] at hdq; cases hdq) huq.1 huq.2 u hzu
      rw [this] at he; cases he
    have hcR := hc.weaken hle hle2
    have hNi : ∀ k, nx + 16 * i ≤ k → k < nx + 16 * i + 16 → ranges nx listed k := by
      intro k h1 h2
      refine ⟨by omega, fun j hj => ?_⟩
      have hne : j ≠ i := by rintro rfl; rw [hnd] at hj; cases hj
      rcases Nat.lt_or_gt_of_ne hne with h | h
      · right; omega
      · left; omega
    refine hgood _ O1 ρ a w hcR (fun k h1 h2 => hc.nx k (hNi k h1 h2)) Q _ ?_
    intro O1' ρ' v w' hv hst
    have hstep := conc_step (dst := x.1) hc hst hv hdn (fun k e v' he hk => by
      rcases hup k e he with h | ⟨e0, h1, h2⟩
      · rw [hc.nx k (hNi k h.1 h.2)] at hk; cases hk
      · exact ⟨e0, hle2 k e0 h1, h2⟩)
    have hd2 : ∀ j, done (listed.setIfInBounds i true) j = if i = j then true else done listed j := by
      intro j
      by_cases h : i = j
      · subst h; simp [done, hil]
      · simp [done, h, Array.getElem?_setIfInBounds_ne h]
    have hsplit : ds = ds.take i ++ x :: ds.drop (i + 1) := by
      have hil2 : i < ds.length := by rw [F.len]; exact hin
      have : ds[i] = x := by simpa [List.getElem?_eq_getElem hil2] using hx
      rw [← this, List.getElem_cons_drop, List.take_append_drop]
    have hlen : (ds.take i).length = i := by simp [F.len]; omega
    have hcset : List.countP (fun b => !b) (listed.setIfInBounds i true).toList + 1 = List.countP (fun b => !b) listed.toList := by
      have hlt : i < listed.toList.length := by simpa using hil
      have hg : listed.toList[i] = false := by simpa [done, hil] using hnd
      have e1 := List.countP_set (p := fun b => !b) (l := listed.toList) (i := i) (a := true) hlt
      have hpos : 0 < List.countP (fun b => !b) listed.toList := List.countP_pos_iff.2 ⟨false, by rw [← hg]; exact List.getElem_mem hlt, rfl⟩
      rw [hg] at e1
      rw [Array.toList_setIfInBounds, e1]
      simp only [Bool.not_false, Bool.not_true, if_true, Bool.false_eq_true, if_false]
      omega
    refine ih _ O1' ρ' _ w' (by simpa using hs) ?_ ?_ ?_ ((hstep.weaken (S' := addD (done (listed.setIfInBounds i true)) 0 ds S) ?_ ?_).monoN ?_)
    · intro k hk j hj
      rw [hd2] at hk ⊢
      split
      · rfl
      · split at hk
        · next e => subst e; exact hbf j hj
        · exact hcl k hk j hj
    · intro h0
      subst h0
      intro k hk
      have hcnt2 : List.countP (fun b => !b) (listed.setIfInBounds i true).toList = 0 := by omega
      have hz := List.countP_eq_zero.1 hcnt2
      have hks : k < (listed.setIfInBounds i true).size := by rw [Array.size_setIfInBounds]; omega
      have hm : (listed.setIfInBounds i true)[k] ∈ (listed.setIfInBounds i true).toList := Array.getElem_mem_toList hks
      have h1 := hz _ hm
      have h2 : done (listed.setIfInBounds i true) k = (listed.setIfInBounds i true)[k] := by
        simp [done, Array.getD_eq_getD_getElem?, Array.getElem?_eq_getElem hks]
      rw [h2]
      simpa using h1
    · omega
    · intro t y hy
      by_cases hxt : x.1 = some t
      · rw [hsplit, addD_append] at hy
        simp only [addD, hlen, Nat.zero_add] at hy
        rw [hd2, if_pos rfl] at hy
        simp only [cond_true] at hy
        have hpost : look t (addD (done (listed.setIfInBounds i true)) (i + 1) (ds.drop (i + 1)) ((addD (done (listed.setIfInBounds i true)) 0 (ds.take i) S).add x.1 x.2)).tm = look t (((addD (done (listed.setIfInBounds i true)) 0 (ds.take i) S).add x.1 x.2)).tm := by
          have := addD_tm_same (p := done (listed.setIfInBounds i true)) (q := fun _ => false) (t := t) (ds.drop (i + 1)) (i + 1) ((addD (done (listed.setIfInBounds i true)) 0 (ds.take i) S).add x.1 x.2) _ rfl (fun q z hz _ hzt => by
            have := F.nod (i + 1 + q) i z x t (by rw [List.getElem?_drop] at hz; exact hz) hx hzt hxt
            omega)
          rw [this]
          have none : ∀ (l : List Dd) (j : Nat) (S : St), addD (fun _ => false) j l S = S := by
            intro l
            induction l with
            | nil => intros; rfl
            | cons z l ih => intro j S; simp [addD, ih]
          rw [none]
        rw [hpost] at hy
        simp only [St.add, hxt, look_cons_eq] at hy ⊢
        exact hy
      · rw [add_tm (x := x) hxt]
        rw [← hy]
        refine addD_tm_same ds 0 S S rfl fun q z hz hne hzt => ?_
        simp only [Nat.zero_add, hd2] at hne
        split at hne
        · next e => subst e; rw [hx] at hz; cases hz; exact hxt hzt
        · exact hne rfl
    · intro u e hu
      by_cases hxu : u ∈ keys x.2.en
      · have hno : ∀ q z, ds[q]? = some z → done listed q = true → i < q → u ∉ keys z.2.en := by
          intro q z hz hdq hlt hzu
          have hqb : q ∉ at2 A.bf i := fun h => by have := (F.bfo i q h).1; omega
          obtain ⟨hu1, hu2⟩ := hun q hdq hqb
          have c1 := F.clash i q z hz hin (by omega) hu1 hu2 u hzu
          have hql : q < ops.size := by have := (List.getElem?_eq_some_iff.1 hz).1; rw [F.len] at this; exact this
          have c2 := F.clash q i x hx hql (by omega) hu2 hu1 u hxu
          obtain ⟨ex, hex⟩ := keys_look hxu
          obtain ⟨ez, hez⟩ := keys_look hzu
          obtain ⟨_, hupq, _⟩ := F.good q z hz
          rcases hup u ex (look_mem hex) with h1 | ⟨e0, h1, _⟩
          · rcases hupq u ez (look_mem hez) with h2 | ⟨e0, h2, _⟩
            · omega
            · rw [c2] at h2; cases h2
          · rw [c1] at h1; cases h1
        rw [hsplit, addD_append] at hu
        simp only [addD, hlen, Nat.zero_add] at hu
        rw [hd2, if_pos rfl] at hu
        simp only [cond_true] at hu
        have hpost : look u (addD (done (listed.setIfInBounds i true)) (i + 1) (ds.drop (i + 1)) ((addD (done (listed.setIfInBounds i true)) 0 (ds.take i) S).add x.1 x.2)).en = look u (((addD (done (listed.setIfInBounds i true)) 0 (ds.take i) S).add x.1 x.2)).en := by
          have := addD_en_same (p := done (listed.setIfInBounds i true)) (q := fun _ => false) (u := u) (ds.drop (i + 1)) (i + 1) ((addD (done (listed.setIfInBounds i true)) 0 (ds.take i) S).add x.1 x.2) _ rfl (fun q z hz hne hzu => by
            simp only [hd2] at hne
            rw [if_neg (by omega)] at hne
            rw [List.getElem?_drop] at hz
            exact hno _ z hz (by cases hd : done listed (i + 1 + q) with | true => rfl | false => exact (hne hd).elim) (by omega) hzu)
          rw [this]
          have none : ∀ (l : List Dd) (j : Nat) (S : St), addD (fun _ => false) j l S = S := by
            intro l
            induction l with
            | nil => intros; rfl
            | cons z l ih => intro j S; simp [addD, ih]
          rw [none]
        rw [hpost, add_en_in (x := x) hxu] at hu
        rw [add_en_in (x := x) hxu]
        exact hu
      · rw [add_en (x := x) hxu]
        rw [← hu]
        refine addD_en_same ds 0 S S rfl fun q z hz hne hzu => ?_
        simp only [Nat.zero_add, hd2] at hne
        split at hne
        · next e => subst e; rw [hx] at hz; cases hz; exact hxu hzu
        · exact hne rfl
    · intro k hk
      obtain ⟨h1, h2⟩ := hk
      have := h2 i (by rw [hd2, if_pos rfl])
      refine ⟨⟨h1, fun j hj => h2 j ?_⟩, this⟩
      rw [hd2]; split
      · rfl
      · exact hj
end Go.Proofs.Ytghfpidpefdndaa
