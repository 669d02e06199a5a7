/-
  The abstract machine, part 9: slice literals, make, parts of slices and strings, the builtin functions len, min, max.
-/
import Derived.Test.YtghfpidpefdndaaAb8
namespace Go.Proofs.Ytghfpidpefdndaa
open Go.RowKit

/-- a row of n elements closed into data -/
def clsN (en : List (Nat × Ent)) (t : TC) : Nat → List A1 → Option (List t.D × Bool)
  | 0, _ => some ([], true)
  | n + 1, l => match cls en t (l.take t.n), clsN en t n (l.drop t.n) with
    | some x, some y => some (x.1 :: y.1, x.2 && y.2)
    | _, _ => none
theorem clsN_ok {c : Cx} {O1 : Nat → Prop} {ρ : Env} {w : World} {en : List (Nat × Ent)} (hen : ∀ k e, look k en = some e → EntOk c O1 ρ w k e) {t : TC} :
    ∀ (n : Nat) (l : List A1) (vs : List Value) (xs : List t.D) (fr : Bool), DenL ρ l vs → clsN en t n l = some (xs, fr) → xs.length = n ∧ ∀ (i : Nat) (x : t.D), xs[i]? = some x → Rep (offs c O1 fr) w t ((vs.drop (i * t.n)).take t.n) x
  | 0, l, vs, xs, fr, hd, h => by simp only [clsN, Option.some.injEq, Prod.mk.injEq] at h; obtain ⟨rfl, rfl⟩ := h; simp
  | n + 1, l, vs, xs, fr, hd, h => by
    simp only [clsN] at h
    split at h
    · next x y h1 h2 =>
      simp only [Option.some.injEq, Prod.mk.injEq] at h
      obtain ⟨rfl, rfl⟩ := h
      have r1 := cls_ok hen t _ _ x.1 x.2 (hd.take t.n) h1
      obtain ⟨r2, r3⟩ := clsN_ok hen n _ _ y.1 y.2 (hd.drop t.n) h2
      refine ⟨by simp [r2], fun i z hz => ?_⟩
      cases i with
      | zero =>
        simp at hz; subst hz
        rw [Nat.zero_mul, List.drop_zero]
        exact r1.move fun b hb hn => ⟨fr_weak (by simp; intro h1 _; exact h1) hn, rfl⟩
      | succ i =>
        have := r3 i z (by simpa using hz)
        rw [List.drop_drop] at this
        rw [show (i + 1) * t.n = t.n + i * t.n by rw [Nat.add_mul]; omega]
        exact this.move fun b hb hn => ⟨fr_weak (by simp) hn, rfl⟩
    · cases h

theorem own_new {c : Cx} {O1 : Nat → Prop} {ρ : Env} {w : World} {i0 e : Nat} {t : TC} {xs : List t.D} {fr : Bool} {cap : Nat} {cur : Array Value} (hlen : xs.length ≤ LB) (hcap : xs.length ≤ cap) (hm : cap ≤ maxLen) (hs : cur.size = cap * t.n) (hr : ∀ (i : Nat) (x : t.D), xs[i]? = some x → Rep (offs c O1 fr) w t ((cur.toList.drop (i * t.n)).take t.n) x) :
    EntOk c (fun b => O1 b ∨ b = w.heap.size) (fun k => if k = i0 then some (.slice (some ⟨w.heap.size, 0, none⟩) xs.length cap) else ρ k) (w.alloc (.cells cur e)) i0 (.own e t xs fr) := by
  have hmul := Nat.mul_le_mul_right t.n hcap
  refine ⟨_, cur.toList.take (xs.length * t.n), by simp, ⟨by simp; omega, .inr ⟨_, cap, cur, rfl, Nat.zero_le _, heap_alloc_new w _, hcap, hm, hs, rfl⟩⟩, hlen, ?_, ?_⟩
  · intro b hb; simp [blkOf] at hb; exact .inr hb.symm
  · intro i x hx
    have hi : i < xs.length := (List.getElem?_eq_some_iff.1 hx).1
    have hmul2 := Nat.mul_le_mul_right t.n (show i + 1 ≤ xs.length by omega)
    rw [Nat.add_mul] at hmul2
    have e1 : ((cur.toList.take (xs.length * t.n)).drop (i * t.n)).take t.n = (cur.toList.drop (i * t.n)).take t.n := by
      apply List.ext_getElem?
      intro q
      rw [List.getElem?_take, List.getElem?_take, List.getElem?_drop, List.getElem?_drop, List.getElem?_take]
      split
      · rw [if_pos (by omega)]
      · rfl
    rw [e1]
    refine (hr i x hx).move fun b hb hn => ⟨?_, Below.heap_alloc w _ b hb⟩
    simp only [offs, not_or] at hn ⊢
    exact ⟨⟨hn.1, by omega⟩, hn.2⟩

def repl (n : Nat) (l : List A1) : List A1 := match n with | 0 => [] | n + 1 => l ++ repl n l
theorem repl_den {ρ : Env} {l : List A1} {vs : List Value} (h : DenL ρ l vs) : ∀ n, DenL ρ (repl n l) (List.replicate n vs).flatten
  | 0 => rfl
  | n + 1 => by
    rw [List.replicate_succ, List.flatten_cons]
    exact h.append (repl_den h n)
theorem flat_get {vs : List Value} (hv : 0 < vs.length) : ∀ (n : Nat) (q : Nat), q < n * vs.length → (List.replicate n vs).flatten[q]? = vs[q % vs.length]?
  | 0, q, h => by simp at h
  | n + 1, q, h => by
    rw [List.replicate_succ, List.flatten_cons]
    by_cases hq : q < vs.length
    · rw [List.getElem?_append_left hq, Nat.mod_eq_of_lt hq]
    · have h' : q - vs.length < n * vs.length := by rw [Nat.add_mul] at h; omega
      rw [List.getElem?_append_right (by omega), flat_get hv n _ h']
      congr 1
      exact (Nat.mod_eq_sub_mod (by omega)).symm
theorem made_flat {vs : Array Value} (hv : 0 < vs.size) (n : Nat) : ((Array.range (n * vs.size)).map (vs[· % vs.size]!)).toList = (List.replicate n vs.toList).flatten := by
  apply List.ext_getElem?
  intro q
  by_cases hq : q < n * vs.size
  · rw [flat_get (by simpa using hv) n q (by simpa using hq)]
    have := Nat.mod_lt q hv
    simp [hq, this]
  · rw [List.getElem?_eq_none (by simp; omega), List.getElem?_eq_none (by simp; omega)]

def aBuildSlice1 (C : Ctx) (S : St) (i0 : Nat) (t : TypeId) (len : Nat) (parts : Array (Nat × Operand)) (K : Dl → Prop) : Prop :=
  match look t C.ty with
  | some ⟨.sl e, _, _⟩ => (match look e C.ty with
    | some ti => (bif nb ti.z.length ti.tc.n && (ti.okz && (nlt 0 len && nle (len * ti.z.length) 16777216)) then
        (match (afill S (fun i => some (i * ti.z.length, ti.z.length)) (repl len (ti.z.map A1.con)) parts.toList).bind (clsN S.en ti.tc len) with
        | some (xs, fr) => K ⟨.one (.ref i0), [(i0, .own e ti.tc xs fr)]⟩
        | none => False) else False)
    | none => False)
  | _ => False
theorem aBuildSlice1_ok {C : Ctx} {c : Cx} (hC : CtxOk C c) {S : St} {i0 : Nat} {o : Oper} {t : TypeId} {len : Nat} {parts : Array (Nat × Operand)} {K : Dl → Prop} (ho : o.op = .buildSlice t len parts) (h : aBuildSlice1 C S i0 t len parts K) : ∃ δ, OpOk c S i0 o δ ∧ K δ := by
  unfold aBuildSlice1 at h
  split at h
  · next e z' tc' ht =>
    split at h
    · next ti hte =>
      cases hb : nb ti.z.length ti.tc.n && (ti.okz && (nlt 0 len && nle (len * ti.z.length) 16777216)) with
      | false => rw [hb] at h; exact h.elim
      | true =>
        rw [hb] at h
        simp only [cond_true] at h
        simp only [Bool.and_eq_true] at hb
        obtain ⟨hb1, hb2, hb3, hb4⟩ := hb
        have hn := eq_of_nb hb1
        have h24 := le_of_nle hb4
        have hlen0 : 1 ≤ len := lt_of_nlt hb3
        split at h
        · next xs fr hxs =>
          obtain ⟨l, hl, hcl⟩ := Option.bind_eq_some_iff.1 hxs
          refine ⟨_, ok_alloc fun N O1 ρ a w hc hf => ?_, h⟩
          have hP := (hC.ty t _ ht).fits
          have hE := hC.ty e _ hte
          rw [← hC.P] at hP hE
          simp only [TK.fits] at hP
          obtain ⟨hzc, _⟩ := okz_cells hb2
          have hpos : 0 < ti.z.toArray.size := by have := TC.n_pos ti.tc; simp; omega
          have hmf := made_flat hpos len
          have hz : DenL ρ (repl len (ti.z.map A1.con)) ((Array.range (len * ti.z.toArray.size)).map (ti.z.toArray[· % ti.z.toArray.size]!)).toList := by
            rw [hmf]; exact repl_den (conl_den _ _) len
          obtain ⟨cells, h1, h2⟩ := afill_ok hc _ parts.toList _ l _ hz hl
          obtain ⟨hxl, hxr⟩ := clsN_ok (c := c) (O1 := O1) (w := w) (fun k e he => hc.en k e he) len l _ xs fr h2 hcl
          have hsz : cells.size = len * ti.tc.n := by
            have aux : ∀ (parts : List (Nat × Value)) (a b : Array Value), Instr.fill (fun i => some (i * ti.z.length, ti.z.length)) a parts = some b → b.size = a.size := by
              intro parts
              induction parts with
              | nil => intro a b h; simp [Instr.fill] at h; rw [h]
              | cons p ps ih =>
                intro a b h
                obtain ⟨i, v⟩ := p
                simp only [Instr.fill] at h
                split at h
                · cases h
                · next hnot =>
                  simp at hnot
                  rw [ih _ _ h]
                  have := foldl_upd (vs := v.cells) (cells := a) (off := i * ti.z.length) (by omega)
                  have e2 := congrArg List.length this
                  rw [upd_length (by simp; omega)] at e2
                  simpa using e2
            rw [aux _ _ _ h1]
            simp [hn]
          have hnz : ¬ (len * ti.z.length = 0) := by
            have := TC.n_pos ti.tc
            intro h0
            rcases Nat.mul_eq_zero.1 h0 with h0 | h0 <;> omega
          have hle : len ≤ 16777216 := by
            have := TC.n_pos ti.tc
            exact Nat.le_trans (Nat.le_mul_of_pos_right len (by omega)) h24
          refine ⟨.slice (some ⟨w.heap.size, 0, none⟩) xs.length len, .cells cells e, rfl, by simp [blkOf], ?_, own_new (by unfold LB; omega) (by omega) (by unfold maxLen; omega) hsz hxr⟩
          have hp2 : (Array.map (fun x : Nat × Operand => (x.1, a.eval x.2)) parts).toList = parts.toList.map (fun p => (p.1, a.eval p.2)) := by simp
          have hng : ¬ (16777216 < len * ti.z.length) := by omega
          simp at h1
          simp [execOp, ho, Instr.buildSlice, run_underlying hP, hE.size, hE.zero, hnz, hng, hzc, newRow, hxl, h1]
        · exact h.elim
    · exact h.elim
  · exact h.elim

/-- an empty slice -/
def aBuildSlice0 (C : Ctx) (i0 : Nat) (t : TypeId) (parts : Array (Nat × Operand)) (K : Dl → Prop) : Prop :=
  match look t C.ty, parts.toList with
  | some ⟨.sl e, _, _⟩, [] => (match look e C.ty with
    | some ti => K ⟨.one (.ref i0), [(i0, .own e ti.tc [] true)]⟩
    | none => False)
  | _, _ => False
theorem aBuildSlice0_ok {C : Ctx} {c : Cx} (hC : CtxOk C c) {S : St} {i0 : Nat} {o : Oper} {t : TypeId} {parts : Array (Nat × Operand)} {K : Dl → Prop} (ho : o.op = .buildSlice t 0 parts) (h : aBuildSlice0 C i0 t parts K) : ∃ δ, OpOk c S i0 o δ ∧ K δ := by
  unfold aBuildSlice0 at h
  split at h
  · next e z' tc' ht hp =>
    split at h
    · next ti hte =>
      refine ⟨_, ok_alloc fun N O1 ρ a w hc hf => ?_, h⟩
      have hP := (hC.ty t _ ht).fits
      have hE := hC.ty e _ hte
      rw [← hC.P] at hP hE
      simp only [TK.fits] at hP
      have hpp : parts = #[] := by simpa using hp
      subst hpp
      have := own_new (c := c) (O1 := O1) (ρ := ρ) (w := w) (i0 := i0) (e := e) (t := ti.tc) (xs := []) (fr := true) (cap := 0) (cur := #[]) (by simp) (by simp) (by unfold maxLen; omega) (by simp) (by simp)
      refine ⟨.slice (some ⟨w.heap.size, 0, none⟩) 0 0, .cells #[] e, rfl, by simp [blkOf], ?_, this⟩
      simp [execOp, ho, Instr.buildSlice, run_underlying hP, hE.size, newRow, Instr.fill]
      rw [show Array.map (fun _ => (default : Value)) (Array.range 0) = #[] from Array.eq_empty_of_size_eq_zero (by simp)]
    · exact h.elim
  · exact h.elim
def aBuildSlice (C : Ctx) (S : St) (i0 : Nat) (t : TypeId) (len : Nat) (parts : Array (Nat × Operand)) (K : Dl → Prop) : Prop :=
  match len with
  | 0 => aBuildSlice0 C i0 t parts K
  | n + 1 => aBuildSlice1 C S i0 t (n + 1) parts K
theorem aBuildSlice_ok {C : Ctx} {c : Cx} (hC : CtxOk C c) {S : St} {i0 : Nat} {o : Oper} {t : TypeId} {len : Nat} {parts : Array (Nat × Operand)} {K : Dl → Prop} (ho : o.op = .buildSlice t len parts) (h : aBuildSlice C S i0 t len parts K) : ∃ δ, OpOk c S i0 o δ ∧ K δ := by
  unfold aBuildSlice at h
  split at h
  · exact aBuildSlice0_ok hC ho h
  · exact aBuildSlice1_ok hC ho h
def aMakeSlice (C : Ctx) (S : St) (i0 : Nat) (t : TypeId) (x y : Operand) (K : Dl → Prop) : Prop :=
  match look t C.ty, cv S x, cv S y with
  | some ⟨.sl e, _, _⟩, some (.int _ L), some (.int _ M) => (match look e C.ty with
    | some ti => (bif nb ti.z.length ti.tc.n && ti.okz then
        (match cls [] ti.tc (ti.z.map A1.con) with
        | some (x, _) => (0 ≤ L ∧ L ≤ M ∧ M ≤ 1099511627776) ∧ K ⟨.one (.ref i0), [(i0, .own e ti.tc (List.replicate L.toNat x) true)]⟩
        | none => False) else False)
    | none => False)
  | _, _, _ => False
theorem aMakeSlice_ok {C : Ctx} {c : Cx} (hC : CtxOk C c) {S : St} {i0 : Nat} {o : Oper} {t : TypeId} {x y : Operand} {K : Dl → Prop} (ho : o.op = .makeSlice t x y) (h : aMakeSlice C S i0 t x y K) : ∃ δ, OpOk c S i0 o δ ∧ K δ := by
  unfold aMakeSlice at h
  split at h
  · next e z' tc' k1 L k2 M ht hx hy =>
    split at h
    · next ti hte =>
      cases hb : nb ti.z.length ti.tc.n && ti.okz with
      | false => rw [hb] at h; exact h.elim
      | true =>
        rw [hb] at h
        simp only [cond_true] at h
        simp only [Bool.and_eq_true] at hb
        have hn := eq_of_nb hb.1
        split at h
        · next x0 fr0 hx0 =>
          obtain ⟨⟨h0, h1, h2⟩, hK⟩ := h
          refine ⟨_, ok_alloc fun N O1 ρ a w hc hf => ?_, hK⟩
          have hP := (hC.ty t _ ht).fits
          have hE := hC.ty e _ hte
          rw [← hC.P] at hP hE
          simp only [TK.fits] at hP
          obtain ⟨hzc, _⟩ := okz_cells hb.2
          obtain ⟨i, hi, hz, hs, hby⟩ := hE.parts
          have hb2 : (i.bytes : Int) * M ≤ 281474976710656 := by
            have h5 : (i.bytes : Int) * M ≤ 128 * M := Int.mul_le_mul_of_nonneg_right (by omega) (by omega)
            omega
          have hr := run_make (P := c.P) w t e i ti.zv hP hi hz k1 k2 L M h0 h1 hb2 (by omega)
          have hpos : 0 < ti.zv.cells.size := by have := TC.n_pos ti.tc; rw [hzc]; simp; omega
          have hcells : (madeCells ti.zv.cells (M.toNat * i.size)).toList = (List.replicate M.toNat ti.z).flatten := by
            have := made_flat hpos M.toNat
            rw [hzc] at this ⊢
            rw [hs]
            simpa [madeCells] using this
          have hx0r := cls_ok (c := c) (O1 := fun b => O1 b ∨ c.O0 b) (ρ := fun _ => none) (w := w) (en := []) (fun k e he => by simp [look] at he) ti.tc _ ti.z x0 fr0 (conl_den _ _) hx0
          refine ⟨.slice (some ⟨w.heap.size, 0, none⟩) (List.replicate L.toNat x0).length M.toNat, .cells (madeCells ti.zv.cells (M.toNat * i.size)) e, rfl, by simp [blkOf], ?_,
            own_new (by simp; unfold LB; omega) (by simp; omega) (by unfold maxLen; omega) ?_ ?_⟩
          · simp [execOp, ho, cv_ok hc hx, cv_ok hc hy, hr]
          · simp [madeCells, hs, hn]
          · intro q z hq
            have hql : q < L.toNat := by have := (List.getElem?_eq_some_iff.1 hq).1; simpa using this
            have hzx : z = x0 := by simp [hql] at hq; exact hq.symm
            subst hzx
            rw [hcells]
            have e1 : (((List.replicate M.toNat ti.z).flatten).drop (q * ti.tc.n)).take ti.tc.n = ti.z := by
              apply List.ext_getElem?
              intro j
              rw [List.getElem?_take, List.getElem?_drop]
              have hmul := Nat.mul_le_mul_right ti.tc.n (show q + 1 ≤ M.toNat by omega)
              rw [Nat.add_mul] at hmul
              split
              · next hj =>
                rw [← hn] at hj hmul ⊢
                rw [flat_get (by have := TC.n_pos ti.tc; omega) M.toNat _ (by omega)]
                congr 1
                rw [Nat.mul_comm, Nat.mul_add_mod, Nat.mod_eq_of_lt hj]
              · next hj => rw [List.getElem?_eq_none (by omega)]
            rw [e1]
            exact hx0r.move fun b hb hno => ⟨by simp only [offs, not_or] at hno ⊢; exact ⟨hno.1.1, by simp [hno.1.2]⟩, rfl⟩
        · exact h.elim
    · exact h.elim
  · exact h.elim
end Go.Proofs.Ytghfpidpefdndaa
