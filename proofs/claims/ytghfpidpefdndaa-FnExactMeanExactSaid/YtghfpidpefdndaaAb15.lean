/-
  The abstract machine, part 15: the walk over a region that draws its order.
-/
import Derived.Test.YtghfpidpefdndaaAb14
namespace Go.Proofs.Ytghfpidpefdndaa
open Go.RowKit

theorem blt_iff {a b : Nat} : nlt a b = true ↔ a < b := ⟨lt_of_nlt, nlt_of⟩
theorem vguard_case {ops : Array Oper} {o : Oper} {S : St} {yes no : St → Prop} (hv : vguard ops.toList o S yes no) :
    (∃ S', S'.en = S.en ∧ yes S' ∧ ∀ {c : Cx} {N O1 : Nat → Prop} {ρ : Env} {a : Act} {w : World}, Conc c N O1 ρ S a w → Conc c N O1 ρ S' a w ∧ Region.wanted o (yielded ops a.tmps) = true) ∨
    (∃ S', no S' ∧ ∀ {c : Cx} {N O1 : Nat → Prop} {ρ : Env} {a : Act} {w : World}, Conc c N O1 ρ S a w → Region.wanted o (yielded ops a.tmps) = false) := by
  unfold vguard at hv
  split at hv
  · next hg => exact .inl ⟨S, rfl, hv, fun h => ⟨h, by simp [Region.wanted, hg]⟩⟩
  · next g want hg =>
    split at hv
    · next t ht =>
      have ht' : (ops[g]?).bind (·.dst) = some t := by rw [nth_eq] at ht; simpa using ht
      have hw : ∀ a : Act, Region.wanted o (yielded ops a.tmps) = (yielded ops a.tmps g == some want) := fun a => by simp [Region.wanted, hg]
      split at hv
      · next v hl =>
        have hval : ∀ {c : Cx} {N O1 : Nat → Prop} {ρ : Env} {a : Act} {w : World}, Conc c N O1 ρ S a w → a.tmps[t]? = some v := by
          intro c N O1 ρ a w h
          obtain ⟨u, hu, hut⟩ := h.tm t _ hl
          simp only [Den, den1, Option.some.injEq] at hu
          rw [hu]; exact hut
        split at hv
        · next b =>
          have hy : ∀ {c : Cx} {N O1 : Nat → Prop} {ρ : Env} {a : Act} {w : World}, Conc c N O1 ρ S a w → yielded ops a.tmps g = some b := fun h => by simp [yielded, ht', hval h]
          cases b with
          | true =>
            simp only [bsp_t] at hv
            cases want with
            | true => exact .inl ⟨{ S with tm := (t, bt true) :: S.tm }, rfl, hv, fun h => ⟨h.putSame (hval h) (x := bt true) rfl, by rw [hw, hy h]; rfl⟩⟩
            | false => exact .inr ⟨_, hv, fun h => by rw [hw, hy h]; rfl⟩
          | false =>
            simp only [bsp_f] at hv
            cases want with
            | true => exact .inr ⟨_, hv, fun h => by rw [hw, hy h]; rfl⟩
            | false => exact .inl ⟨{ S with tm := (t, bt false) :: S.tm }, rfl, hv, fun h => ⟨h.putSame (hval h) (x := bt false) rfl, by rw [hw, hy h]; rfl⟩⟩
        · next hnb =>
          refine .inr ⟨S, hv, fun h => ?_⟩
          rw [hw]
          simp only [yielded, ht', Option.bind_some, hval h]
          cases v <;> first | rfl | exact (hnb _ rfl).elim
      · exact hv.elim
    · exact hv.elim

def noK : List Nat → List (Nat × Ent) → Bool
  | [], _ => true
  | k :: l, en => (match look k en with | none => noK l en | some _ => false)
theorem noK_ok : ∀ {l : List Nat} {en : List (Nat × Ent)}, noK l en = true → ∀ u, u ∈ l → look u en = none
  | [], _, _, u, hu => by simp at hu
  | k :: l, en, h, u, hu => by
    simp only [noK] at h
    split at h
    · next hk =>
      rcases List.mem_cons.1 hu with rfl | hu
      · exact hk
      · exact noK_ok h u hu
    · cases h
def clashes (A : DA) (S : St) (ds : List Dd) (i : Nat) (x : Dd) : List Nat → Bool
  | [] => true
  | k :: un => (bif nlt k i then noK (keys x.2.en) (Rst A S ds k).en && (match nth ds k with | some y => noK (keys y.2.en) (Rst A S ds i).en | none => false) else true) && clashes A S ds i x un
theorem clashes_ok {A : DA} {S : St} {ds : List Dd} {i : Nat} {x : Dd} : ∀ {un : List Nat}, clashes A S ds i x un = true → ∀ k, k ∈ un → k < i → (∀ u, u ∈ keys x.2.en → look u (Rst A S ds k).en = none) ∧ ∃ y, ds[k]? = some y ∧ ∀ u, u ∈ keys y.2.en → look u (Rst A S ds i).en = none
  | [], _, k, hk, _ => by simp at hk
  | k' :: un, h, k, hk, hki => by
    simp only [clashes, Bool.and_eq_true] at h
    rcases List.mem_cons.1 hk with rfl | hk
    · have hb : nlt k i = true := blt_iff.2 hki
      rw [hb] at h
      simp only [cond_true, Bool.and_eq_true] at h
      refine ⟨noK_ok h.1.1, ?_⟩
      have h2 := h.1.2
      split at h2
      · next y hy => exact ⟨y, by rw [← nth_eq]; exact hy, noK_ok h2⟩
      · cases h2
    · exact clashes_ok h.2 k hk hki
def dstsOf : List Dd → List Nat
  | [] => []
  | (some d, _) :: l => d :: dstsOf l
  | (none, _) :: l => dstsOf l
theorem dstsOf_mem : ∀ {ds : List Dd} {i : Nat} {x : Dd} {t : Nat}, ds[i]? = some x → x.1 = some t → t ∈ dstsOf ds
  | [], _, _, _, h, _ => by simp at h
  | (some d, δ) :: l, 0, x, t, h, ht => by simp at h; subst h; simp at ht; simp [dstsOf, ht]
  | (none, δ) :: l, 0, x, t, h, ht => by simp at h; subst h; simp at ht
  | (some d, δ) :: l, i + 1, x, t, h, ht => by simp only [dstsOf, List.mem_cons]; exact .inr (dstsOf_mem (by simpa using h) ht)
  | (none, δ) :: l, i + 1, x, t, h, ht => by simp only [dstsOf]; exact dstsOf_mem (by simpa using h) ht
def dstNew (A : DA) (S : St) (ds : List Dd) (i : Nat) (d : Option Nat) : Bool :=
  match d with
  | none => true
  | some t => (match at2 A.un i with | [] => true | _ => (match look t S.tm with | none => true | some _ => false)) && !memb t (dstsOf ds)

/-- a guard that has been decided -/
def setD (g : Nat) (b : Bool) : List Dd → List Dd
  | [] => []
  | x :: l => match g with | 0 => (x.1, ⟨bt b, x.2.en⟩) :: l | g + 1 => x :: setD g b l
theorem setD_same {b : Bool} : ∀ {ds : List Dd} {g : Nat} {x : Dd}, nth ds g = some x → x.2.val = bt b → setD g b ds = ds
  | [], g, x, h, _ => by simp [nth] at h
  | y :: l, 0, x, h, hv => by
    simp only [nth, Option.some.injEq] at h
    subst h
    simp only [setD, ← hv]
  | y :: l, g + 1, x, h, hv => by
    simp only [setD]
    rw [setD_same (by simpa [nth] using h) hv]
def presplit (o : Oper) (ds : List Dd) (F : List Dd → Prop) : Prop :=
  match o.guard with
  | none => F ds
  | some (g, _) => match nth ds g with
    | some (_, ⟨.one (.con (.bool b)), _⟩) => bsp b (F (setD g true ds)) (F (setD g false ds))
    | _ => F ds
theorem presplit_ok {o : Oper} {ds : List Dd} {F : List Dd → Prop} (h : presplit o ds F) : F ds := by
  unfold presplit at h
  split at h
  · exact h
  · next g want hg =>
    split at h
    · next d b en hn =>
      cases b with
      | true => rw [bsp_t, setD_same hn rfl] at h; exact h
      | false => rw [bsp_f, setD_same hn rfl] at h; exact h
    · exact h
def vdraw (C : Ctx) (cs : List (Nat × Con)) (ops : List Oper) (A : DA) (S : St) (nx : Nat) : List Oper → Nat → List Dd → (St → Nat → Prop) → Prop
  | [], i, ds, K => K (addD (fun _ => true) 0 ds S) (nx + 16 * i)
  | o :: l, i, ds, K => bif okDst C o.dst && dstNew A S ds i o.dst then
      presplit o ds fun ds => vguard ops o (Rst A S ds i)
        (fun R => aopF C cs R (nx + 16 * i) o.op fun δ => bif clashes A S ds i (o.dst, δ) (at2 A.un i) then vdraw C cs ops A S nx l (i + 1) (ds ++ [(o.dst, δ)]) K else False)
        (fun _ => bif clashes A S ds i (o.dst, ⟨.one (.con undef), []⟩) (at2 A.un i) then vdraw C cs ops A S nx l (i + 1) (ds ++ [(o.dst, ⟨.one (.con undef), []⟩)]) K else False)
    else False

def chkB (ops : List Oper) (A : DA) : Bool :=
  nle A.bf.length ops.length &&
  (List.range ops.length).all fun i => match nth ops i with
    | some o => (at2 A.bf i).all (fun j => nlt j i && o.after.toList.any fun e => Region.binds .any e && (nb e.on j || memb j (at2 A.bf e.on))) &&
        (o.after.toList.all (fun e => !Region.binds .any e || nlt e.on i) &&
        (List.range ops.length).all fun k => nb i k || (memb k (at2 A.bf i) || (memb i (at2 A.bf k) || memb k (at2 A.un i))))
    | none => false

theorem chkB_ok {ops : Array Oper} {A : DA} (h : chkB ops.toList A = true) :
    (∀ i j, j ∈ at2 A.bf i → j < i ∧ ∀ o, ops[i]? = some o → ∃ e ∈ o.after, Region.binds .any e = true ∧ (e.on = j ∨ j ∈ at2 A.bf e.on)) ∧
    (∀ i o, ops[i]? = some o → ∀ e ∈ o.after, Region.binds .any e = true → e.on < i) ∧
    (∀ i k, i < ops.size → k < ops.size → i ≠ k → k ∉ at2 A.bf i → i ∉ at2 A.bf k → k ∈ at2 A.un i) := by
  simp only [chkB, Bool.and_eq_true, List.all_eq_true, List.mem_range] at h
  obtain ⟨hlen, h⟩ := h
  have hlen := le_of_nle hlen
  simp only [Array.length_toList] at hlen h
  have get : ∀ i, i < ops.size → ∃ o, ops[i]? = some o ∧ nth ops.toList i = some o := fun i hi => ⟨ops[i], by simp [hi], by rw [nth_eq]; simp [hi]⟩
  refine ⟨fun i j hj => ?_, fun i o ho e he hb => ?_, fun i k hi hk hne h1 h2 => ?_⟩
  · rcases Nat.lt_or_ge i ops.size with hi | hi
    · obtain ⟨o, ho, hn⟩ := get i hi
      have := h i hi
      rw [hn] at this
      simp only [Bool.and_eq_true, List.all_eq_true] at this
      have := this.1 j hj
      simp only [List.any_eq_true, Bool.and_eq_true, Bool.or_eq_true] at this
      refine ⟨blt_iff.1 this.1, fun o' ho' => ?_⟩
      rw [ho] at ho'; cases ho'
      obtain ⟨e, he, hb, hor⟩ := this.2
      exact ⟨e, Array.mem_toList_iff.1 he, hb, hor.imp eq_of_nb memb_iff.1⟩
    · exfalso
      have : at2 A.bf i = [] := by
        unfold at2
        rw [nth_eq, List.getElem?_eq_none (by omega)]
      rw [this] at hj; simp at hj
  · have hi : i < ops.size := (Array.getElem?_eq_some_iff.1 ho).1
    obtain ⟨o', ho', hn⟩ := get i hi
    rw [ho] at ho'; cases ho'
    have := h i hi
    rw [hn] at this
    simp only [Bool.and_eq_true, List.all_eq_true, Bool.or_eq_true] at this
    have := this.2.1 e (Array.mem_toList_iff.2 he)
    rw [hb] at this
    exact blt_iff.1 (this.resolve_left (by simp))
  · obtain ⟨o, ho, hn⟩ := get i hi
    have := h i hi
    rw [hn] at this
    simp only [Bool.and_eq_true, List.all_eq_true, List.mem_range, Bool.or_eq_true] at this
    rcases this.2.2 k hk with h' | h' | h' | h'
    · exact absurd (eq_of_nb h') hne
    · exact absurd (memb_iff.1 h') h1
    · exact absurd (memb_iff.1 h') h2
    · exact memb_iff.1 h'

theorem Rst_append {A : DA} {S : St} {ds es : List Dd} {i : Nat} (h : ∀ j, j ∈ at2 A.bf i → j < ds.length) : Rst A S (ds ++ es) i = Rst A S ds i := by
  unfold Rst
  rw [addD_append]
  have : ∀ (l : List Dd) (j : Nat) (T : St), ds.length ≤ j → addD (fun j => memb j (at2 A.bf i)) j l T = T := by
    intro l
    induction l with
    | nil => intros; rfl
    | cons x l ih =>
      intro j T hj
      have hm : memb j (at2 A.bf i) = false := by
        cases hm : memb j (at2 A.bf i) with
        | false => rfl
        | true => have := h j (memb_iff.1 hm); omega
      simp only [addD, hm, cond_false]
      exact ih (j + 1) T (by omega)
  rw [this es _ _ (by omega)]

/-- what the walk has shown of the operations so far -/
structure Part (c : Cx) (ops : Array Oper) (A : DA) (S : St) (nx : Nat) (ds : List Dd) : Prop where
  good : ∀ (i : Nat) (x : Dd), ds[i]? = some x → GoodOp c ops (Rst A S ds i) (nx + 16 * i) i x
  nod : ∀ (i k : Nat) (x y : Dd) (t : Nat), ds[i]? = some x → ds[k]? = some y → x.1 = some t → y.1 = some t → i = k
  fresh : ∀ (i : Nat) (x : Dd) (t : Nat), ds[i]? = some x → at2 A.un i ≠ [] → x.1 = some t → look t S.tm = none
  clash : ∀ (i k : Nat) (x y : Dd), ds[i]? = some y → ds[k]? = some x → k ∈ at2 A.un i → i ∈ at2 A.un k → i ≠ k → ∀ u, u ∈ keys x.2.en → look u (Rst A S ds i).en = none

theorem Part.snoc {C : Ctx} {c : Cx} {cs : List (Nat × Con)} {ops : Array Oper} {A : DA} {S : St} {nx : Nat} {ds : List Dd} {o : Oper} {δ : Dl} (hC : CtxOk C c) (p : Part c ops A S nx ds) (hbf : ∀ i j, j ∈ at2 A.bf i → j < i)
    (hd : okDst C o.dst = true) (hn : dstNew A S ds ds.length o.dst = true) (ho : ops[ds.length]? = some o) (hg : GoodOp c ops (Rst A S ds ds.length) (nx + 16 * ds.length) ds.length (o.dst, δ)) (hcl : clashes A S ds ds.length (o.dst, δ) (at2 A.un ds.length) = true) :
    Part c ops A S nx (ds ++ [(o.dst, δ)]) := by
  have _ := hC; have _ := cs; have _ := hd; have _ := ho
  have hR : ∀ i, i ≤ ds.length → Rst A S (ds ++ [(o.dst, δ)]) i = Rst A S ds i := fun i hi => Rst_append fun j hj => by have := hbf i j hj; omega
  have hget : ∀ (i : Nat) (x : Dd), (ds ++ [(o.dst, δ)])[i]? = some x → (i < ds.length ∧ ds[i]? = some x) ∨ (i = ds.length ∧ x = (o.dst, δ)) := by
    intro i x hx
    by_cases hi : i < ds.length
    · rw [List.getElem?_append_left hi] at hx; exact .inl ⟨hi, hx⟩
    · rw [List.getElem?_append_right (by omega)] at hx
      have : i - ds.length = 0 := by
        have := (List.getElem?_eq_some_iff.1 hx).1
        simp at this; omega
      rw [this] at hx
      simp at hx
      exact .inr ⟨by omega, hx.symm⟩
  have hnew : ∀ t, o.dst = some t → (at2 A.un ds.length ≠ [] → look t S.tm = none) ∧ t ∉ dstsOf ds := by
    rintro t ht
    rw [ht] at hn
    simp only [dstNew, Bool.and_eq_true, Bool.not_eq_true'] at hn
    refine ⟨fun hne => ?_, fun hm => ?_⟩
    · have h1 := hn.1
      split at h1
      · next h0 => exact absurd h0 hne
      · split at h1
        · next hl => exact hl
        · cases h1
    · rw [memb_iff.2 hm] at hn; simp at hn
  refine ⟨fun i x hx => ?_, fun i k x y t hx hy h1 h2 => ?_, fun i x t hx hne ht => ?_, fun i k x y hy hx hk hi hne u hu => ?_⟩
  · rcases hget i x hx with ⟨hi, hx⟩ | ⟨rfl, rfl⟩
    · rw [hR i (by omega)]; exact p.good i x hx
    · rw [hR _ (Nat.le_refl _)]; exact hg
  · rcases hget i x hx with ⟨hi, hx⟩ | ⟨rfl, rfl⟩ <;> rcases hget k y hy with ⟨hk, hy⟩ | ⟨rfl, rfl⟩
    · exact p.nod i k x y t hx hy h1 h2
    · exact absurd (dstsOf_mem hx h1) (hnew t h2).2
    · exact absurd (dstsOf_mem hy h2) (hnew t h1).2
    · rfl
  · rcases hget i x hx with ⟨hi, hx⟩ | ⟨rfl, rfl⟩
    · exact p.fresh i x t hx hne ht
    · exact (hnew t ht).1 hne
  · rcases hget i y hy with ⟨hi', hy⟩ | ⟨rfl, rfl⟩ <;> rcases hget k x hx with ⟨hk', hx⟩ | ⟨rfl, rfl⟩
    · rw [hR i (by omega)]; exact p.clash i k x y hy hx hk hi hne u hu
    · rw [hR i (by omega)]
      exact (clashes_ok hcl i hi hi').1 u hu
    · rw [hR _ (Nat.le_refl _)]
      obtain ⟨y', hy', hc⟩ := (clashes_ok hcl k hk hk').2
      rw [hx] at hy'; cases hy'
      exact hc u hu
    · exact absurd rfl hne

theorem vdraw_fam {C : Ctx} {c : Cx} {cs : List (Nat × Con)} (hC : CtxOk C c) (hcs : CsOk C cs) {ops : Array Oper} {A : DA} {S : St} {nx : Nat} {K : St → Nat → Prop} (hA : chkB ops.toList A = true) :
    ∀ (l : List Oper) (ds : List Dd), (∀ j o, l[j]? = some o → ops[ds.length + j]? = some o) → ds.length + l.length = ops.size → Part c ops A S nx ds → vdraw C cs ops.toList A S nx l ds.length ds K →
      ∃ ds', Fam c ops A S nx ds' ∧ K (addD (fun _ => true) 0 ds' S) (nx + 16 * ops.size) := by
  obtain ⟨h1, h2, h3⟩ := chkB_ok hA
  intro l
  induction l with
  | nil =>
    intro ds _ hsz p hv
    simp only [List.length_nil, Nat.add_zero] at hsz
    simp only [vdraw] at hv
    rw [hsz] at hv
    refine ⟨ds, ⟨hsz, p.good, h1, h2, h3, p.nod, p.fresh, fun i k x hx hi hne hk hk' u hu => ?_⟩, hv⟩
    obtain ⟨y, hy⟩ : ∃ y, ds[i]? = some y := ⟨ds[i]'(by omega), by simp⟩
    exact p.clash i k x y hy hx hk hk' hne u hu
  | cons o l ih =>
    intro ds hops hsz p hv
    have ho : ops[ds.length]? = some o := by simpa using hops 0 o rfl
    have hops' : ∀ (x : Dd) (j : Nat) (o' : Oper), l[j]? = some o' → ops[(ds ++ [x]).length + j]? = some o' := fun x j o' hj => by
      rw [List.length_append, List.length_singleton, show ds.length + 1 + j = ds.length + (j + 1) by omega]
      exact hops (j + 1) o' (by simpa using hj)
    simp only [List.length_cons] at hsz
    simp only [vdraw] at hv
    cases hb : okDst C o.dst && dstNew A S ds ds.length o.dst with
    | false => rw [hb] at hv; exact hv.elim
    | true =>
      rw [hb] at hv
      simp only [cond_true] at hv
      simp only [Bool.and_eq_true] at hb
      have hv := presplit_ok hv
      rcases vguard_case hv with ⟨R, hRe, hy, hR⟩ | ⟨R, hn, hR⟩
      · obtain ⟨δ, hok, hK⟩ := aopF_ok hC hcs hy
        cases hcl : clashes A S ds ds.length (o.dst, δ) (at2 A.un ds.length) with
        | false => rw [hcl] at hK; exact hK.elim
        | true =>
          rw [hcl] at hK
          have hg : GoodOp c ops (Rst A S ds ds.length) (nx + 16 * ds.length) ds.length (o.dst, δ) := by
            refine ⟨⟨by simp [ho], okDst_ok hC hb.1⟩, fun k e he => ?_, fun N O1 ρ a w hc hf Q K' hn => ?_⟩
            · rw [← hRe]; exact hok.1 k e he
            · obtain ⟨hc', hw⟩ := hR hc
              unfold wpOp
              simp only [ho, hw, if_true]
              exact .inl (hok.2 N O1 ρ a w hc' hf _ _ hn)
          have := ih (ds ++ [(o.dst, δ)]) (hops' _) (by simp; omega) (p.snoc (cs := cs) hC (fun i j hj => (h1 i j hj).1) hb.1 hb.2 ho hg hcl)
          simp only [List.length_append, List.length_singleton] at this
          exact this hK
      · cases hcl : clashes A S ds ds.length (o.dst, ⟨.one (.con undef), []⟩) (at2 A.un ds.length) with
        | false => rw [hcl] at hn; exact hn.elim
        | true =>
          rw [hcl] at hn
          have hg : GoodOp c ops (Rst A S ds ds.length) (nx + 16 * ds.length) ds.length (o.dst, ⟨.one (.con undef), []⟩) := by
            refine ⟨⟨by simp [ho], okDst_ok hC hb.1⟩, fun k e he => by simp at he, fun N O1 ρ a w hc hf Q K' hn => ?_⟩
            have hw := hR hc
            unfold wpOp
            simp only [ho, hw, Bool.false_eq_true, if_false]
            exact hn O1 ρ undef w rfl (StepTo.refl hc _)
          have := ih (ds ++ [(o.dst, ⟨.one (.con undef), []⟩)]) (hops' _) (by simp; omega) (p.snoc (cs := cs) hC (fun i j hj => (h1 i j hj).1) hb.1 hb.2 ho hg hcl)
          simp only [List.length_append, List.length_singleton] at this
          exact this hn

/-- a region that draws its order -/
theorem vdraw_ok {C : Ctx} {c : Cx} {cs : List (Nat × Con)} (hC : CtxOk C c) (hcs : CsOk C cs) {ops : Array Oper} {A : DA} {S : St} {nx : Nat} {K : St → Nat → Prop} {Q : Exit → Act → World → Prop} (hA : chkB ops.toList A = true)
    (hv : vdraw C cs ops.toList A S nx ops.toList 0 [] K) (hQ : ∀ S' nx' O1' ρ' a' w', Conc c (nx' ≤ ·) O1' ρ' S' a' w' → K S' nx' → Q .normal a' w') {O1 : Nat → Prop} {ρ : Env} {a : Act} {w : World} (hc : Conc c (nx ≤ ·) O1 ρ S a w) :
    wpAny c.P .any ops Q ops.size (Array.replicate ops.size false) a w := by
  obtain ⟨ds, F, hK⟩ := vdraw_fam hC hcs hA ops.toList [] (fun j o hj => by simpa using hj) (by simp) ⟨by simp, by simp, by simp, by simp⟩ hv
  have hnd : ∀ i, done (Array.replicate ops.size false) i = false := by
    intro i
    unfold done
    by_cases h : i < ops.size <;> simp [Array.getD_eq_getD_getElem?, h]
  have hadd : ∀ (l : List Dd) (j : Nat), addD (done (Array.replicate ops.size false)) j l S = S := by
    intro l
    induction l with
    | nil => intros; rfl
    | cons x l ih => intro j; simp only [addD, hnd, cond_false]; exact ih (j + 1)
  refine drawn_ok F (fun O1' ρ' a' w' hc' => hQ _ _ O1' ρ' a' w' hc' hK) ops.size _ O1 ρ a w (by simp) (fun i hi => by rw [hnd] at hi; cases hi) (fun h0 i hi => by omega) ?_ ?_
  · rw [Array.toList_replicate]
    exact Nat.le_trans List.countP_le_length (by simp)
  · rw [hadd]
    exact hc.monoN fun k hk => hk.1
end Go.Proofs.Ytghfpidpefdndaa
