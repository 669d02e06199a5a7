/-
  The abstract machine, part 5: stores.
  The abstract machine, part 6: new variables, addresses of fields and elements, structs built by value.
  The abstract machine, part 7: structs by value, slices.
-/
import Derived.Test.YtgbfcjnkohhfoaaAb2
import Derived.Laws.Tables
import Derived.Laws.MakeOwn
import Derived.Maps.AppendAt
namespace Go.Proofs.Ytgbfcjnkohhfoaa
open Go.RowKit

def ok1 : A1 → Bool
  | .con v => v.oneCell'
  | _ => true
theorem ok1_ok {ρ : Env} (hρ : ∀ k v, ρ k = some v → v.oneCell' = true) {x : A1} {v : Value} (h : ok1 x = true) (hd : den1 ρ x = some v) : v.oneCell' = true := by
  cases x with
  | con u => simp [den1] at hd; subst hd; exact h
  | ref k => exact hρ k v hd
  | ptr k i n j =>
    simp only [den1, Option.bind_eq_some_iff] at hd
    obtain ⟨u, _, hu⟩ := hd
    unfold padd at hu
    split at hu
    · cases hu; rfl
    · cases hu; rfl
    · cases hu
theorem okl_ok {ρ : Env} (hρ : ∀ k v, ρ k = some v → v.oneCell' = true) : ∀ {l : List A1} {vs : List Value}, l.all ok1 = true → DenL ρ l vs → ∀ v ∈ vs, v.oneCell' = true
  | [], _, _, hd => by cases hd; simp
  | x :: l, _, h, hd => by
    obtain ⟨v, us, rfl, h1, h2⟩ := hd
    simp only [List.all_cons, Bool.and_eq_true] at h
    intro u hu
    rcases List.mem_cons.1 hu with rfl | hu
    · exact ok1_ok hρ h.1 h1
    · exact okl_ok hρ h.2 h2 u hu

/-- the cells of a value -/
def avc : AV → Option (List A1)
  | .one x => some [x]
  | .agg l => some l
  | .tup _ => none
theorem avc_ok {ρ : Env} (hρ : ∀ k v, ρ k = some v → v.oneCell' = true) {y : AV} {l : List A1} {v : Value} (h : avc y = some l) (h1 : l.all ok1 = true) (hd : Den ρ y v) : ∃ us, DenL ρ l us ∧ v.cells.toList = us ∧ ∀ u ∈ us, u.oneCell' = true := by
  cases y with
  | one x =>
    cases h
    have hd' : DenL ρ [x] [v] := ⟨v, [], rfl, hd, rfl⟩
    have := okl_ok hρ h1 hd'
    refine ⟨[v], hd', ?_, this⟩
    have hv := this v (by simp)
    cases v <;> first | rfl | simp [Value.oneCell'] at hv
  | agg l' =>
    cases h
    obtain ⟨vs, h2, rfl⟩ := hd
    exact ⟨vs, h2, by simp [Value.cells], okl_ok hρ h1 h2⟩
  | tup l => cases h

theorem setRow_other (w : World) (g : Nat) (cs : Array Value) (b : Nat) (h : b ≠ g) : (w.setRow g cs).heap[b]? = w.heap[b]? := by
  simp only [World.setRow, Array.getElem?_modify]
  rw [if_neg (fun e => h e.symm)]
theorem setRow_size (w : World) (g : Nat) (cs : Array Value) : (w.setRow g cs).heap.size = w.heap.size := by simp [World.setRow]

theorem run_storeAt {P : Program} {t : TypeId} {ti : TI} (h : TIOk P t ti) {w : World} {g o e : Nat} {cur : Array Value} (hg : w.heap[g]? = some (.cells cur e (0, 0))) {v : Value} (hl : v.cells.toList.length = ti.z.length)
    (h1 : ∀ u ∈ v.cells.toList, u.oneCell' = true) (hb : o + ti.z.length ≤ cur.size) :
    (Instr.storeAt t (.pointer (some ⟨g, o, none⟩)) v).run P w = .ok () (w.setRow g (cur.toList.take o ++ v.cells.toList ++ cur.toList.drop (o + v.cells.toList.length)).toArray) := by
  have hs : v.cells.size = ti.z.length := by simpa using hl
  have := run_storeCells_at P g o e v.cells.toList 0 cur w hg (by rw [hl]; omega) h1
  simp only [Nat.add_zero] at this
  simp [Instr.storeAt, Instr.sureAddr, storeVar, h.size, hs, this]

/-- a step that writes the block of one own entry -/
theorem step_write {c : Cx} {N O1 : Nat → Prop} {ρ : Env} {S : St} {a : Act} {w : World} (h : Conc c N O1 ρ S a w) {i0 k g : Nat} {e0 e : Ent} {v : Value} (h0 : look k S.en = some e0) (ho : isOwn e0 = true) (hv : ρ k = some v) (hb : blkOf v = some g)
    {cs : Array Value} (hen : EntOk c O1 ρ (w.setRow g cs) k e) : StepTo c i0 [(k, e)] O1 ρ w O1 ρ (w.setRow g cs) := by
  have hO := ((h.en k e0 h0).val ho)
  obtain ⟨v', hv', hb'⟩ := hO
  rw [hv] at hv'
  cases hv'
  refine ⟨Ext.refl _, fun _ _ => rfl, h.one, ⟨rfl, rfl, rfl, Nat.le_of_eq (setRow_size w g cs).symm, ?_⟩, ?_, fun b hb => .inl hb, fun b hb => .inl hb, ?_, ?_⟩
  · intro b hb1 hn
    refine setRow_other w g cs b fun eb => hn ?_
    subst eb
    exact ⟨(hb' b hb).1, k, e, v, List.mem_singleton.2 rfl, hv, hb⟩
  · intro k' e' he
    have := look_mem he
    simp at this
    obtain ⟨rfl, rfl⟩ := this
    exact hen
  · intro k' e' v' b he _ hv' hb'
    have := look_mem he
    simp at this
    obtain ⟨rfl, rfl⟩ := this
    exact .inr ⟨k', e', v', List.mem_singleton.2 rfl, hv', hb'⟩
  · intro k1 k2 e1 e2 v1 v2 b hne he1 he2
    have h1 := look_mem he1
    have h2 := look_mem he2
    simp at h1 h2
    exact absurd (h1.1.trans h2.1.symm) hne

def upd {α : Type} (l : List α) (j : Nat) (m : List α) : List α := l.take j ++ m ++ l.drop (j + m.length)

def storeRow (S : St) (k e : Nat) (t : TC) (xs : List t.D) (fr : Bool) (i0 i n j : Nat) (l : List A1) (K : Dl → Prop) : Prop :=
  bif nb n t.n && (nle t.nsl 16 && nle (j + l.length) t.n) then i < xs.length ∧ match cls S.en t (upd (opn t (xs.getD i t.z) fr i0).1 j l) with
    | some (x, fr') => K ⟨.one (.con undef), [(k, .own e t (xs.set i x) (fr && fr'))]⟩
    | none => False
  else False
def storeBox (k : Nat) (l0 : List A1) (j : Nat) (l : List A1) (K : Dl → Prop) : Prop :=
  bif nle (j + l.length) l0.length then K ⟨.one (.con undef), [(k, .box (upd l0 j l))]⟩ else False
def storeTo (S : St) (i0 : Nat) (l : List A1) (K : Dl → Prop) : A1 → Prop
  | .ref k => (match look k S.en with | some (.box l0) => storeBox k l0 0 l K | _ => False)
  | .ptr k i n j => (match look k S.en with
    | some (.box l0) => (bif nb i 0 then storeBox k l0 j l K else False)
    | some (.own e t xs fr) => storeRow S k e t xs fr i0 i n j l K
    | _ => False)
  | _ => False
def aStore (C : Ctx) (S : St) (i0 : Nat) (t : TypeId) (x y : Operand) (K : Dl → Prop) : Prop :=
  match look t C.ty, av S x, (av S y).bind avc with
  | some ti, some (.one p), some l => (bif nb l.length ti.z.length && l.all ok1 then storeTo S i0 l K p else False)
  | _, _, _ => False

theorem DenL.upd {ρ : Env} {l m : List A1} {vs us : List Value} (j : Nat) (h : DenL ρ l vs) (h' : DenL ρ m us) : DenL ρ (upd l j m) (Go.Proofs.Ytgbfcjnkohhfoaa.upd vs j us) := by
  unfold Go.Proofs.Ytgbfcjnkohhfoaa.upd
  rw [h'.len]
  exact ((h.take j).append h').append (h.drop _)
theorem upd_get {α : Type} {l m : List α} {j : Nat} (h : j + m.length ≤ l.length) (q : Nat) : (upd l j m)[q]? = if j ≤ q ∧ q < j + m.length then m[q - j]? else l[q]? := by
  unfold upd
  have hl : (l.take j).length = j := by simp; omega
  by_cases h1 : q < j
  · rw [if_neg (by omega), List.append_assoc, List.getElem?_append_left (by omega), List.getElem?_take, if_pos h1]
  · by_cases h2 : q < j + m.length
    · rw [if_pos (by omega), List.getElem?_append_left (by rw [List.length_append]; omega), List.getElem?_append_right (by omega), hl]
    · rw [if_neg (by omega), List.getElem?_append_right (by rw [List.length_append]; omega), List.getElem?_drop, List.length_append, hl]
      congr 1; omega
theorem upd_length {α : Type} {l m : List α} {j : Nat} (h : j + m.length ≤ l.length) : (upd l j m).length = l.length := by
  unfold upd; simp; omega

theorem store_ok [B : Base] {C : Ctx} {c : Cx} (hC : CtxOk C c) {S : St} {i0 : Nat} {o : Oper} {t : TypeId} {x y : Operand} (ho : o.op = .store t x y) {ti : TI} (hti : look t C.ty = some ti) {l : List A1} (hl : l.length = ti.z.length) (h1 : l.all ok1 = true)
    {z : AV} (hy : av S y = some z) (hz : avc z = some l) {k : Nat} {e0 e : Ent} (h0 : look k S.en = some e0) (hown : isOwn e0 = true)
    (hrun : ∀ {N O1 : Nat → Prop} {ρ : Env} {a : Act} {w : World} {us : List Value}, Conc c N O1 ρ S a w → (∀ k, i0 ≤ k → k < i0 + 16 → ρ k = none) → DenL ρ l us → (∀ u ∈ us, u.oneCell' = true) →
      ∃ v g q cur te, ρ k = some v ∧ blkOf v = some g ∧ a.eval x = .pointer (some ⟨g, q, none⟩) ∧ w.heap[g]? = some (.cells cur te (0, 0)) ∧ q + us.length ≤ cur.size ∧
        EntOk c O1 ρ (w.setRow g (upd cur.toList q us).toArray) k e) : OpOk c S i0 o ⟨.one (.con undef), [(k, e)]⟩ := by
  refine ⟨fun k' e' he => ?_, fun N O1 ρ a w hc hf next Q hn => ?_⟩
  · simp at he
    obtain ⟨rfl, rfl⟩ := he
    exact .inr ⟨_, h0, hown⟩
  · obtain ⟨us, hd, hus, hu1⟩ := avc_ok hc.one hz h1 (av_ok hc hy)
    obtain ⟨v, g, q, cur, te, hv, hb, hx, hg, hq, hen⟩ := hrun hc hf hd hu1
    have hP := hC.ty t ti hti
    rw [← hC.P] at hP
    have hr := run_storeAt hP hg (o := q) (v := a.eval y) (by rw [hus, hd.len, hl]) (by rw [hus]; exact hu1) (by rw [← hl, ← hd.len]; exact hq)
    rw [hus] at hr
    unfold Oper.wp
    have : (execOp a.eval o).run c.P w = .ok .skip (w.setRow g (upd cur.toList q us).toArray) := by simp [execOp, ho, hx, hr, upd]
    rw [this, Oper.upon_skip]
    exact hn O1 ρ undef _ rfl (step_write hc h0 hown hv hb hen)

theorem storeBox_ok [B : Base] {C : Ctx} {c : Cx} (hC : CtxOk C c) {S : St} {i0 : Nat} {o : Oper} {t : TypeId} {x y : Operand} (ho : o.op = .store t x y) {ti : TI} (hti : look t C.ty = some ti) {l : List A1} (hl : l.length = ti.z.length) (h1 : l.all ok1 = true)
    {z : AV} (hy : av S y = some z) (hz : avc z = some l) {k j : Nat} {l0 : List A1} {K : Dl → Prop} (h0 : look k S.en = some (.box l0))
    (hx : ∀ {N O1 : Nat → Prop} {ρ : Env} {a : Act} {w : World} {b : Nat}, Conc c N O1 ρ S a w → ρ k = some (.pointer (some ⟨b, 0, none⟩)) → a.eval x = .pointer (some ⟨b, j, none⟩))
    (h : storeBox k l0 j l K) : ∃ δ, OpOk c S i0 o δ ∧ K δ := by
  unfold storeBox at h
  cases hb : nle (j + l.length) l0.length with
  | false => rw [hb] at h; exact h.elim
  | true =>
    rw [hb] at h
    have hle := le_of_nle hb
    refine ⟨_, store_ok hC ho hti hl h1 hy hz h0 rfl ?_, h⟩
    intro N O1 ρ a w us hc hf hd hu1
    obtain ⟨b, e, vs, e1, e2, e3, e4, e5⟩ := hc.en k _ h0
    have hlen : j + us.length ≤ vs.length := by rw [hd.len, e3.len]; exact hle
    refine ⟨_, b, j, vs.toArray, e, e1, rfl, hx hc e1, e5, by simpa using hlen, b, e, upd vs j us, e1, e2, e3.upd j hd, ?_, ?_⟩
    · intro u hu
      unfold upd at hu
      simp only [List.mem_append] at hu
      rcases hu with (hu | hu) | hu
      · exact e4 u (List.mem_of_mem_take hu)
      · exact hu1 u hu
      · exact e4 u (List.mem_of_mem_drop hu)
    · exact setRow_heap w b _ _ e _ e5

theorem aStore_ok [B : Base] {C : Ctx} {c : Cx} (hC : CtxOk C c) {S : St} {i0 : Nat} {o : Oper} {t : TypeId} {x y : Operand} {K : Dl → Prop} (ho : o.op = .store t x y) (h : aStore C S i0 t x y K) : ∃ δ, OpOk c S i0 o δ ∧ K δ := by
  unfold aStore at h
  split at h
  · next ti p l hti hx hyz =>
    obtain ⟨z, hy, hz⟩ := Option.bind_eq_some_iff.1 hyz
    cases hb : nb l.length ti.z.length && l.all ok1 with
    | false => rw [hb] at h; exact h.elim
    | true =>
      rw [hb] at h
      simp only [Bool.and_eq_true] at hb
      have hl := eq_of_nb hb.1
      have h1 := hb.2
      simp only [cond_true] at h
      unfold storeTo at h
      split at h
      · next k =>
        split at h
        · next l0 h0 =>
          refine storeBox_ok hC ho hti hl h1 hy hz (j := 0) h0 (fun hc hb => ?_) h
          have := av_ok hc hx
          simp only [Den, den1, hb, Option.some.injEq] at this
          exact this.symm
        · exact h.elim
      · next k i n j =>
        split at h
        · next l0 h0 =>
          cases hi : nb i 0 with
          | false => rw [hi] at h; exact h.elim
          | true =>
            rw [hi] at h
            have := eq_of_nb hi
            subst this
            refine storeBox_ok hC ho hti hl h1 hy hz (j := j) h0 (fun hc hb => ?_) h
            have := av_ok hc hx
            simp only [Den, den1, hb, Option.bind_some, padd_box, Option.some.injEq] at this
            rw [← this]; simp
        · next e t' xs fr h0 =>
          unfold storeRow at h
          cases hb2 : nb n t'.n && (nle t'.nsl 16 && nle (j + l.length) t'.n) with
          | false => rw [hb2] at h; exact h.elim
          | true =>
            rw [hb2] at h
            simp only [Bool.and_eq_true] at hb2
            have hn := eq_of_nb hb2.1
            have h16 := le_of_nle hb2.2.1
            have hjl := le_of_nle hb2.2.2
            subst hn
            simp only [cond_true] at h
            obtain ⟨hi, h⟩ := h
            split at h
            · next x' fr' hcls =>
              refine ⟨_, store_ok hC ho hti hl h1 hy hz h0 rfl ?_, h⟩
              intro N O1 ρ a w us hc hf hd hu1
              obtain ⟨v, cs, e1, e2, e3, e4, e5⟩ := hc.en k _ h0
              have hxi : xs[i]? = some (xs.getD i t'.z) := by simp [List.getD, hi]
              have hri := e5 i _ hxi
              obtain ⟨ρ', hd', hst⟩ := step_opn hc hf hri h16
              have hdu := hd'.upd j (hd.ext hst.ext)
              have hrep := cls_ok (c := c) (O1 := O1) (ρ := ρ') (w := w) (fun k e he => (hc.en k e he).ext hst.ext) _ _ _ _ _ hdu hcls
              rcases e2.2 with ⟨_, h0'⟩ | ⟨g, cap, cur, rfl, hb, hg, hnc, hcm, hcs, htake⟩
              · omega
              · have hmul := Nat.mul_le_mul_right t'.n (show i + 1 ≤ xs.length by omega)
                rw [Nat.add_mul] at hmul
                have hmul2 := Nat.mul_le_mul_right t'.n hnc
                have hul := hd.len
                have hulen : i * t'.n + j + us.length ≤ cs.length := by rw [e2.1]; omega
                refine ⟨_, g, i * t'.n + j, cur, e, e1, rfl, ?_, hg, by omega, _, upd cs (i * t'.n + j) us, e1, ⟨by simp only [List.length_set]; rw [upd_length hulen]; exact e2.1, .inr ⟨g, cap, _, by simp, hb, setRow_heap w g _ _ e _ hg, by simpa using hnc, hcm, ?_, ?_⟩⟩, by simpa using e3, e4, ?_⟩
                · have := av_ok hc hx
                  simp only [Den, den1, e1, Option.bind_some, padd_row, Option.some.injEq, Nat.zero_add] at this
                  exact this.symm
                · have : i * t'.n + j + us.length ≤ cur.toList.length := by simp; omega
                  have := upd_length this
                  simp only [List.size_toArray]
                  rw [this]; simpa using hcs
                · apply List.ext_getElem?
                  intro q
                  simp only [List.length_set]
                  rw [upd_get hulen, List.getElem?_take, List.toList_toArray, upd_get (by simp; omega)]
                  have hlt : ¬ (i * t'.n + j ≤ q ∧ q < i * t'.n + j + us.length) → (if q < xs.length * t'.n then cur.toList[q]? else none) = cs[q]? := by
                    intro _; rw [← htake, List.getElem?_take]
                  by_cases hin : i * t'.n + j ≤ q ∧ q < i * t'.n + j + us.length
                  · rw [if_pos hin, if_pos hin, if_pos (by omega)]
                  · rw [if_neg hin, if_neg hin]; exact hlt hin
                · intro i' x hx'
                  have hA : ∀ b, b < w.heap.size → ¬ offs c O1 fr b → ¬ offs c O1 (fr && fr') b ∧ (w.setRow g (upd cur.toList (i * t'.n + j) us).toArray).heap[b]? = w.heap[b]? := by
                    intro b hb hn
                    simp only [offs, not_or, not_and] at hn ⊢
                    refine ⟨⟨hn.1, fun hf => hn.2 ?_⟩, setRow_other _ _ _ _ fun e => hn.1 ?_⟩
                    · simp at hf; exact hf.1
                    · rw [e]; exact e4 g rfl
                  have hA' : ∀ b, b < w.heap.size → ¬ offs c O1 fr' b → ¬ offs c O1 (fr && fr') b ∧ (w.setRow g (upd cur.toList (i * t'.n + j) us).toArray).heap[b]? = w.heap[b]? := by
                    intro b hb hn
                    simp only [offs, not_or, not_and] at hn ⊢
                    refine ⟨⟨hn.1, fun hf => hn.2 ?_⟩, setRow_other _ _ _ _ fun e => hn.1 ?_⟩
                    · simp at hf; exact hf.2
                    · rw [e]; exact e4 g rfl
                  by_cases hii : i' = i
                  · subst hii
                    simp [hi] at hx'
                    subst hx'
                    have hcells : ((upd cs (i' * t'.n + j) us).drop (i' * t'.n)).take t'.n = upd ((cs.drop (i' * t'.n)).take t'.n) j us := by
                      apply List.ext_getElem?
                      intro q
                      have hlen : ((cs.drop (i' * t'.n)).take t'.n).length = t'.n := by rw [List.length_take, List.length_drop, e2.1]; omega
                      rw [upd_get (by rw [hlen]; omega), List.getElem?_take, List.getElem?_drop, upd_get hulen, List.getElem?_take, List.getElem?_drop]
                      by_cases hin : j ≤ q ∧ q < j + us.length
                      · rw [if_pos hin, if_pos (by omega), if_pos (by omega)]
                        congr 1; omega
                      · rw [if_neg hin]
                        split
                        · rw [if_neg (by omega)]
                        · rfl
                    rw [hcells]
                    exact hrep.move zs_r hA'
                  · have hx2 : xs[i']? = some x := by rwa [List.getElem?_set_ne (fun e => hii e.symm)] at hx'
                    have hcells : ((upd cs (i * t'.n + j) us).drop (i' * t'.n)).take t'.n = (cs.drop (i' * t'.n)).take t'.n := by
                      apply List.ext_getElem?
                      intro q
                      rw [List.getElem?_take, List.getElem?_take, List.getElem?_drop, List.getElem?_drop, upd_get hulen]
                      split
                      · next hq =>
                        rw [if_neg]
                        rintro ⟨g1, g2⟩
                        rcases Nat.lt_or_gt_of_ne hii with hlt | hlt
                        · have := Nat.mul_le_mul_right t'.n (show i' + 1 ≤ i by omega)
                          rw [Nat.add_mul] at this
                          omega
                        · have := Nat.mul_le_mul_right t'.n (show i + 1 ≤ i' by omega)
                          rw [Nat.add_mul] at this
                          omega
                      · rfl
                    rw [hcells]
                    exact (e5 i' x hx2).move zs_l hA
            · exact h.elim
        · exact h.elim
      · exact h.elim
  · exact h.elim
end Go.Proofs.Ytgbfcjnkohhfoaa

namespace Go.Proofs.Ytgbfcjnkohhfoaa
open Go.RowKit

theorem mapM_get {α β : Type} {f : α → Option β} : ∀ {l : List α} {m : List β}, l.mapM f = some m → ∀ {i : Nat} {y : β}, m[i]? = some y → ∃ x, l[i]? = some x ∧ f x = some y
  | [], m, h, i, y, hy => by simp at h; subst h; simp at hy
  | x :: l, m, h, i, y, hy => by
    simp only [List.mapM_cons, Option.bind_eq_bind, Option.pure_def] at h
    obtain ⟨z, hz, h⟩ := Option.bind_eq_some_iff.1 h
    obtain ⟨m', hm, h⟩ := Option.bind_eq_some_iff.1 h
    cases h
    cases i with
    | zero => simp at hy; subst hy; exact ⟨x, rfl, hz⟩
    | succ i => simpa using mapM_get hm (by simpa using hy)
theorem run_trips {P : Program} (w : World) : ∀ {gs : List Field} {fs : List (Nat × Nat × Bool)}, gs.mapM (trip P) = some fs → (gs.mapM fun f => Prod.mk f.offset <$> sizeOf f.type).run P w = .ok (fs.map fun p => (p.1, p.2.1)) w
  | [], fs, h => by simp at h; subst h; rfl
  | g :: gs, fs, h => by
    simp only [List.mapM_cons, Option.bind_eq_bind, Option.pure_def] at h
    obtain ⟨z, hz, h⟩ := Option.bind_eq_some_iff.1 h
    obtain ⟨m', hm, h⟩ := Option.bind_eq_some_iff.1 h
    cases h
    unfold trip at hz
    obtain ⟨i, hi, rfl⟩ := Option.map_eq_some_iff.1 hz
    have hs : (sizeOf g.type).run P w = .ok i.size w := by simp [sizeOf, typeInfo, hi]
    simp [List.mapM_cons, hs, run_trips w hm]
theorem TIOk.st {P : Program} {t : TypeId} {ti : TI} (h : TIOk P t ti) {fs : List (Nat × Nat × Bool)} (hk : ti.kind = .st fs) : ∃ gs, P.underlying t = some (.struct gs) ∧ gs.toList.mapM (trip P) = some fs := by
  have hf := h.fits
  rw [hk] at hf
  obtain ⟨d, hd, hm⟩ := Option.bind_eq_some_iff.1 hf
  cases d <;> simp at hm
  exact ⟨_, hd, hm⟩

/-- a step that makes a block with one own entry -/
theorem step_alloc {c : Cx} {N O1 : Nat → Prop} {ρ : Env} {S : St} {a : Act} {w : World} (h : Conc c N O1 ρ S a w) {i0 : Nat} (hf : ∀ k, i0 ≤ k → k < i0 + 16 → ρ k = none) {e : Ent} {v : Value} {o : Obj}
    (hv : v.oneCell' = true) (hb : ∀ b, blkOf v = some b → b = w.heap.size) (hen : EntOk c (fun b => O1 b ∨ b = w.heap.size) (fun k => if k = i0 then some v else ρ k) (w.alloc o) i0 e) :
    StepTo c i0 [(i0, e)] O1 ρ w (fun b => O1 b ∨ b = w.heap.size) (fun k => if k = i0 then some v else ρ k) (w.alloc o) := by
  have hn : ρ i0 = none := hf i0 (Nat.le_refl _) (by omega)
  have hsz : (w.alloc o).heap.size = w.heap.size + 1 := by simp
  refine ⟨?_, ?_, ?_, ⟨rfl, rfl, rfl, by omega, fun b hb _ => Below.heap_alloc w o b hb⟩, ?_, ?_, fun b hb => .inl (.inl hb), ?_, ?_⟩
  · intro k u hk
    have : k ≠ i0 := by rintro rfl; rw [hn] at hk; cases hk
    simp [this, hk]
  · intro k hk
    have : k ≠ i0 := by omega
    simp [this]
  · intro k u hk
    by_cases e : k = i0
    · simp [e] at hk; subst hk; exact hv
    · simp [e] at hk; exact h.one k u hk
  · intro k e' he
    have := look_mem he
    simp at this
    obtain ⟨rfl, rfl⟩ := this
    exact hen
  · intro b hb
    rcases hb with hb | rfl
    · exact .inl hb
    · exact .inr ⟨Nat.le_refl _, by omega⟩
  · intro k e' v' b he _ hv' hb'
    have := look_mem he
    simp at this
    obtain ⟨rfl, rfl⟩ := this
    simp at hv'
    subst hv'
    exact .inl (by rw [hb b hb']; exact Nat.le_refl _)
  · intro k1 k2 e1 e2 v1 v2 b hne he1 he2
    have h1 := look_mem he1
    have h2 := look_mem he2
    simp at h1 h2
    exact absurd (h1.1.trans h2.1.symm) hne

theorem ok_alloc {c : Cx} {S : St} {i0 : Nat} {o : Oper} {e : Ent}
    (h : ∀ N O1 ρ a w, Conc c N O1 ρ S a w → (∀ k, i0 ≤ k → k < i0 + 16 → ρ k = none) → ∃ v ob, v.oneCell' = true ∧ (∀ b, blkOf v = some b → b = w.heap.size) ∧ (execOp a.eval o).run c.P w = .ok (.value v) (w.alloc ob) ∧
      EntOk c (fun b => O1 b ∨ b = w.heap.size) (fun k => if k = i0 then some v else ρ k) (w.alloc ob) i0 e) : OpOk c S i0 o ⟨.one (.ref i0), [(i0, e)]⟩ := by
  refine ⟨fun k e' he => by simp at he; exact .inl (by omega), fun N O1 ρ a w hc hf next Q hn => ?_⟩
  obtain ⟨v, ob, h1, h2, h3, h4⟩ := h N O1 ρ a w hc hf
  unfold Oper.wp
  rw [h3, Oper.upon_value]
  exact hn _ _ v _ (by simp [Den, den1]) (step_alloc hc hf h1 h2 h4)

theorem box_new {c : Cx} {O1 : Nat → Prop} {ρ' : Env} {w : World} {i0 : Nat} {l : List A1} {vs : List Value} {t : TypeId} (hd : DenL ρ' l vs) (h1 : ∀ v ∈ vs, v.oneCell' = true) (hv : ρ' i0 = some (.pointer (some ⟨w.heap.size, 0, none⟩))) :
    EntOk c (fun b => O1 b ∨ b = w.heap.size) ρ' (w.alloc (.cells vs.toArray t)) i0 (.box l) :=
  ⟨w.heap.size, t, vs, hv, .inr rfl, hd, h1, heap_alloc_new w _⟩

theorem conl_den (ρ : Env) : ∀ l : List Value, DenL ρ (l.map A1.con) l
  | [] => rfl
  | v :: l => ⟨v, l, rfl, rfl, conl_den ρ l⟩

def TI.okz (ti : TI) : Bool := ti.z.all Value.oneCell' && (isSt ti || nb ti.z.length 1)
theorem okz_cells {ti : TI} (h : ti.okz = true) : ti.zv.cells = ti.z.toArray ∧ ∀ v ∈ ti.z, v.oneCell' = true := by
  unfold TI.okz at h
  simp only [Bool.and_eq_true, List.all_eq_true, Bool.or_eq_true] at h
  obtain ⟨h1, h2⟩ := h
  refine ⟨?_, h1⟩
  cases hs : isSt ti with
  | true =>
    unfold isSt at hs
    unfold TI.zv
    split at hs
    · next fs hk => first | (rw [hk]; rfl) | rfl | (simp [Value.cells])
    · cases hs
  | false =>
    have hl := eq_of_nb (h2.resolve_left (by simp [hs]))
    obtain ⟨z, hz⟩ : ∃ z, ti.z = [z] := List.length_eq_one_iff.1 hl
    have hz1 := h1 z (by simp [hz])
    unfold isSt at hs
    have e : ti.zv = z := by
      unfold TI.zv
      rw [hz]
      cases hk' : ti.kind <;> simp [hk'] at hs <;> rfl
    rw [e, hz]
    cases z <;> first | rfl | simp [Value.oneCell'] at hz1

def aAlloc (C : Ctx) (i0 : Nat) (t : TypeId) (K : Dl → Prop) : Prop :=
  match look t C.ty with
  | some ti => (bif ti.okz then K ⟨.one (.ref i0), [(i0, .box (ti.z.map A1.con))]⟩ else False)
  | none => False
theorem aAlloc_ok [B : Base] {C : Ctx} {c : Cx} (hC : CtxOk C c) {S : St} {i0 : Nat} {o : Oper} {t : TypeId} {K : Dl → Prop} (ho : o.op = .alloc t) (h : aAlloc C i0 t K) : ∃ δ, OpOk c S i0 o δ ∧ K δ := by
  unfold aAlloc at h
  split at h
  · next ti hti =>
    cases hz : ti.okz with
    | false => rw [hz] at h; exact h.elim
    | true =>
      rw [hz] at h
      have hP := hC.ty t ti hti
      rw [← hC.P] at hP
      obtain ⟨h1, h2⟩ := okz_cells hz
      refine ⟨_, ok_alloc fun N O1 ρ a w hc hf => ⟨.pointer (some ⟨w.heap.size, 0, none⟩), .cells ti.z.toArray t, rfl, by simp [blkOf], ?_, box_new (conl_den _ _) h2 (by simp)⟩, h⟩
      simp [execOp, ho, Instr.alloc, hP.zero, newVar, newRow, h1]
  · exact h.elim

def aBox (S : St) (i0 : Nat) (x : Operand) (K : Dl → Prop) : Prop :=
  match (av S x).bind avc with
  | some l => (bif l.all ok1 then K ⟨.one (.ref i0), [(i0, .box l)]⟩ else False)
  | none => False
theorem env_ext {ρ : Env} {i0 : Nat} {v : Value} (hn : ρ i0 = none) : Ext ρ (fun k => if k = i0 then some v else ρ k) := by
  intro k u hk
  have : k ≠ i0 := by rintro rfl; rw [hn] at hk; cases hk
  simp [this, hk]
theorem aBox_ok {c : Cx} {S : St} {i0 : Nat} {o : Oper} {t : TypeId} {x : Operand} {K : Dl → Prop} (ho : o.op = .box t x) (h : aBox S i0 x K) : ∃ δ, OpOk c S i0 o δ ∧ K δ := by
  unfold aBox at h
  split at h
  · next l hl =>
    obtain ⟨y, hy, hyl⟩ := Option.bind_eq_some_iff.1 hl
    cases h1 : l.all ok1 with
    | false => rw [h1] at h; exact h.elim
    | true =>
      rw [h1] at h
      refine ⟨_, ok_alloc fun N O1 ρ a w hc hf => ?_, h⟩
      obtain ⟨us, hd, hus, hu1⟩ := avc_ok hc.one hyl h1 (av_ok hc hy)
      refine ⟨.pointer (some ⟨w.heap.size, 0, none⟩), .cells us.toArray t, rfl, by simp [blkOf], ?_, box_new (hd.ext (env_ext (hf i0 (Nat.le_refl _) (by omega)))) hu1 (by simp)⟩
      have : (a.eval x).cells = us.toArray := by rw [← hus]
      simp [execOp, ho, Instr.box, newVar, newRow, this]
  · exact h.elim

/-- the address of a field -/
def fieldOf (ti : TI) (f : Nat) : Option (Nat × Nat × Bool) := match ti.kind with | .st fs => fs[f]? | _ => none
def aFA (C : Ctx) (S : St) (t : TypeId) (x : Operand) (f : Nat) (K : Dl → Prop) : Prop :=
  match (look t C.ty).bind (fieldOf · f), av S x with
  | some (off, size, _), some (.one (.ref k)) => (match look k S.en with | some (.box _) => (bif nlt 0 size then K ⟨.one (.ptr k 0 0 off), []⟩ else False) | _ => False)
  | some (off, size, _), some (.one (.ptr k i n j)) => (bif nlt 0 size then K ⟨.one (.ptr k i n (j + off)), []⟩ else False)
  | _, _ => False
theorem fieldAt_run [B : Base] {C : Ctx} {c : Cx} (hC : CtxOk C c) {t : TypeId} {f off size : Nat} {g : Bool} (h : (look t C.ty).bind (fieldOf · f) = some (off, size, g)) (hs : nlt 0 size = true) (b p : Nat) (w : World) :
    (Instr.fieldAt t (.pointer (some ⟨b, p, none⟩)) f).run c.P w = .ok (.pointer (some ⟨b, p + off, none⟩)) w := by
  obtain ⟨ti, hti, hf⟩ := Option.bind_eq_some_iff.1 h
  have hP := hC.ty t ti hti
  rw [← hC.P] at hP
  unfold fieldOf at hf
  split at hf
  · next fs hk =>
    obtain ⟨gs, hu, hm⟩ := hP.st hk
    obtain ⟨fd, hfd, htr⟩ := mapM_get hm hf
    unfold trip at htr
    obtain ⟨i, hi, he⟩ := Option.map_eq_some_iff.1 htr
    simp only [Prod.mk.injEq] at he
    have hfd' : gs[f]? = some fd := by simpa using hfd
    have hpos : i.size ≠ 0 := by
      have : 1 ≤ size := lt_of_nlt hs
      omega
    have hsz : (sizeOf fd.type).run c.P w = .ok i.size w := by simp [sizeOf, typeInfo, hi]
    have ea : ∀ j, (⟨b, p, none⟩ : Addr).add j = ⟨b, p + j, none⟩ := fun j => by unfold Addr.add; split <;> simp_all
    simp [Instr.fieldAt, run_underlying hu, hfd', Instr.sureAddr, fieldPlace, hsz, hpos, ea, he.1]
  · cases hf
theorem aFA_ok [B : Base] {C : Ctx} {c : Cx} (hC : CtxOk C c) {S : St} {i0 : Nat} {o : Oper} {t : TypeId} {x : Operand} {f : Nat} {K : Dl → Prop} (ho : o.op = .fieldAddr t x f) (h : aFA C S t x f K) : ∃ δ, OpOk c S i0 o δ ∧ K δ := by
  unfold aFA at h
  split at h
  · next off size g k hf hx =>
    split at h
    · next l hl =>
      cases hs : nlt 0 size with
      | false => rw [hs] at h; exact h.elim
      | true =>
        rw [hs] at h
        refine ⟨_, ok_pure fun N O1 ρ a w hc => ?_, h⟩
        obtain ⟨b, e, vs, e1, _⟩ := hc.en k _ hl
        have := av_ok hc hx
        simp only [Den, den1, e1, Option.some.injEq] at this
        refine ⟨.pointer (some ⟨b, 0 + off, none⟩), by simp [Den, den1, e1, padd], ?_⟩
        simp [execOp, ho, ← this, fieldAt_run hC hf hs]
    · exact h.elim
  · next off size g k i n j hf hx =>
    cases hs : nlt 0 size with
    | false => rw [hs] at h; exact h.elim
    | true =>
      rw [hs] at h
      refine ⟨_, ok_pure fun N O1 ρ a w hc => ?_, h⟩
      have := av_ok hc hx
      simp only [Den, den1] at this
      obtain ⟨v, hv, hp⟩ := Option.bind_eq_some_iff.1 this
      clear this
      generalize hxe : a.eval x = u at hp ⊢
      obtain ⟨b, p, hp2, hp3⟩ : ∃ b p, u = .pointer (some ⟨b, p + (i * n + j), none⟩) ∧ padd v (i * n + (j + off)) = some (.pointer (some ⟨b, p + (i * n + j) + off, none⟩)) := by
        unfold padd at hp ⊢
        split at hp
        · next b p => cases hp; exact ⟨b, p, rfl, by simp only [Nat.add_assoc]⟩
        · next b p _ _ => cases hp; exact ⟨b, p, rfl, by simp only [Nat.add_assoc]⟩
        · cases hp
      refine ⟨.pointer (some ⟨b, p + (i * n + j) + off, none⟩), by simp only [Den, den1, hv, Option.bind_some]; exact hp3, ?_⟩
      subst hp2
      simp [execOp, ho, hxe, fieldAt_run hC hf hs]
  · exact h.elim

/-- the address of an element of a slice -/
def lenOf (S : St) (k : Nat) : Option (TC × Nat) :=
  match look k S.en with
  | some (.own _ t xs _) => some (t, xs.length)
  | some (.imm t xs _) => some (t, xs.length)
  | _ => none
theorem lenOf_ok {c : Cx} {N O1 : Nat → Prop} {ρ : Env} {S : St} {a : Act} {w : World} (h : Conc c N O1 ρ S a w) {k : Nat} {t : TC} {n : Nat} (hl : lenOf S k = some (t, n)) :
    ∃ ad cap, ρ k = some (.slice ad n cap) ∧ n ≤ cap ∧ n ≤ LB ∧ (0 < n → ∃ b p, ad = some ⟨b, p, none⟩) ∧ (ad = none → cap = 0) := by
  unfold lenOf at hl
  split at hl
  · next e t' xs fr he =>
    cases hl
    obtain ⟨v, cs, h1, h2, h3, _⟩ := h.en k _ he
    rcases h2.2 with ⟨rfl, h0⟩ | ⟨g, cap, cur, rfl, _, _, hnc, _⟩
    · exact ⟨none, 0, by rw [h1, h0], by omega, by omega, by omega, fun _ => rfl⟩
    · exact ⟨_, cap, h1, hnc, h3, fun _ => ⟨g, 0, rfl⟩, by simp⟩
  · next t' xs fr he =>
    cases hl
    obtain ⟨v, h1, ad, cap, hv, h2, h3, h3', _, h4⟩ := h.en k _ he
    simp only [List.cons.injEq, and_true] at hv
    subst hv
    refine ⟨ad, cap, h1, h2, h3, fun hp => ?_, h3'⟩
    obtain ⟨b, off, rfl, _⟩ := h4.resolve_left (by rintro rfl; simp at hp)
    exact ⟨b, off, rfl⟩
  · cases hl
def elemOk (C : Ctx) (t : TypeId) (n : Nat) : Bool :=
  match look t C.ty with
  | some ⟨.sl e, _, _⟩ => (match look e C.ty with | some ti => nb ti.z.length n | none => false)
  | _ => false
theorem elemOk_ok [B : Base] {C : Ctx} {c : Cx} (hC : CtxOk C c) {t : TypeId} {n : Nat} (h : elemOk C t n = true) : ∃ e, c.P.underlying t = some (.slice e) ∧ ∀ w, (sizeOf e).run c.P w = .ok n w := by
  unfold elemOk at h
  split at h
  · next e z tc ht =>
    have hP := (hC.ty t _ ht).fits
    rw [← hC.P] at hP
    split at h
    · next ti he =>
      have hE := hC.ty e _ he
      rw [← hC.P] at hE
      refine ⟨e, hP, fun w => ?_⟩
      rw [hE.size, eq_of_nb h]
    · cases h
  · cases h
def aIA (C : Ctx) (S : St) (t : TypeId) (x y : Operand) (K : Dl → Prop) : Prop :=
  match av S x, cv S y with
  | some (.one (.ref k)), some (.int _ z) => (match lenOf S k with
    | some (tc, n) => (bif elemOk C t tc.n then (0 ≤ z ∧ z < n) ∧ K ⟨.one (.ptr k z.toNat tc.n 0), []⟩ else False)
    | none => False)
  | _, _ => False
theorem aIA_ok [B : Base] {C : Ctx} {c : Cx} (hC : CtxOk C c) {S : St} {i0 : Nat} {o : Oper} {t : TypeId} {x y : Operand} {K : Dl → Prop} (ho : o.op = .indexAddr t x y) (h : aIA C S t x y K) : ∃ δ, OpOk c S i0 o δ ∧ K δ := by
  unfold aIA at h
  split at h
  · next k kk z hx hy =>
    split at h
    · next tc n hl =>
      cases he : elemOk C t tc.n with
      | false => rw [he] at h; exact h.elim
      | true =>
        rw [he] at h
        obtain ⟨⟨h0, h1⟩, hK⟩ := h
        refine ⟨_, ok_pure fun N O1 ρ a w hc => ?_, hK⟩
        obtain ⟨ad, cap, hv, _, _, hne, _⟩ := lenOf_ok hc hl
        obtain ⟨b, p, rfl⟩ := hne (by omega)
        obtain ⟨e, hu, hs⟩ := elemOk_ok hC he
        have := av_ok hc hx
        simp only [Den, den1, hv, Option.some.injEq] at this
        have hyv := cv_ok hc hy
        refine ⟨.pointer (some ⟨b, p + (z.toNat * tc.n + 0), none⟩), by simp [Den, den1, hv, padd], ?_⟩
        have ea : ∀ j, (⟨b, p, none⟩ : Addr).add j = ⟨b, p + j, none⟩ := fun j => by unfold Addr.add; split <;> simp_all
        simp [execOp, ho, ← this, hyv, Instr.indexAt, asIntOf, run_underlying hu, hs, h0, h1, ea]
    · exact h.elim
  · exact h.elim
end Go.Proofs.Ytgbfcjnkohhfoaa

namespace Go.Proofs.Ytgbfcjnkohhfoaa
open Go.RowKit

theorem foldl_set (off : Nat) : ∀ (vs : List Value) (s : Nat) (cells : Array Value), off + s + vs.length ≤ cells.size →
    ((vs.zipIdx s).foldl (fun cs (x : Value × Nat) => cs.setIfInBounds (off + x.2) x.1) cells).toList = upd cells.toList (off + s) vs
  | [], s, cells, _ => by simp [upd]
  | v :: vs, s, cells, h => by
    simp only [List.zipIdx_cons, List.foldl_cons]
    simp only [List.length_cons] at h
    rw [foldl_set off vs (s + 1) _ (by simp; omega)]
    apply List.ext_getElem?
    intro q
    rw [upd_get (by simp; omega), upd_get (by simp; omega)]
    simp only [Array.toList_setIfInBounds, List.length_cons]
    by_cases h1 : q = off + s
    · subst h1
      rw [if_neg (by omega), if_pos (by omega)]
      have : off + s < cells.size := by omega
      simp [this]
    · by_cases h2 : off + s ≤ q ∧ q < off + s + (vs.length + 1)
      · rw [if_pos (by omega), if_pos h2]
        obtain ⟨d, hd⟩ : ∃ d, q = off + s + 1 + d := ⟨q - (off + s + 1), by omega⟩
        subst hd
        rw [show off + s + 1 + d - (off + (s + 1)) = d by omega, show off + s + 1 + d - (off + s) = d + 1 by omega]
        rfl
      · rw [if_neg (by omega), if_neg h2, List.getElem?_set_ne (by omega)]
theorem foldl_upd {vs cells : Array Value} {off : Nat} (h : off + vs.size ≤ cells.size) : (vs.zipIdx.foldl (fun cs (x : Value × Nat) => cs.setIfInBounds (off + x.2) x.1) cells).toList = upd cells.toList off vs.toList := by
  have := foldl_set off vs.toList 0 cells (by simpa using h)
  rw [← Array.foldl_toList, Array.toList_zipIdx]
  simpa using this

/-- parts laid into cells -/
def afill (S : St) (place : Nat → Option (Nat × Nat)) (l : List A1) : List (Nat × Operand) → Option (List A1)
  | [] => some l
  | (i, x) :: rest => match place i, (av S x).bind avc with
    | some (off, size), some m => (bif nb m.length size && (nle (off + size) l.length && m.all ok1) then afill S place (upd l off m) rest else none)
    | _, _ => none
theorem afill_ok {c : Cx} {N O1 : Nat → Prop} {ρ : Env} {S : St} {a : Act} {w : World} (h : Conc c N O1 ρ S a w) (place : Nat → Option (Nat × Nat)) : ∀ (parts : List (Nat × Operand)) (l l' : List A1) (cells : Array Value),
    DenL ρ l cells.toList → afill S place l parts = some l' → ∃ cells', Instr.fill place cells (parts.map fun p => (p.1, a.eval p.2)) = some cells' ∧ DenL ρ l' cells'.toList
  | [], l, l', cells, hd, hf => by simp only [afill, Option.some.injEq] at hf; subst hf; exact ⟨cells, rfl, hd⟩
  | (i, x) :: rest, l, l', cells, hd, hf => by
    simp only [afill] at hf
    split at hf
    · next off size m hp hm =>
      cases hb : nb m.length size && (nle (off + size) l.length && m.all ok1) with
      | false => rw [hb] at hf; cases hf
      | true =>
        rw [hb] at hf
        simp only [cond_true] at hf
        simp only [Bool.and_eq_true] at hb
        have h1 := eq_of_nb hb.1
        have h2 := le_of_nle hb.2.1
        obtain ⟨y, hy, hym⟩ := Option.bind_eq_some_iff.1 hm
        obtain ⟨us, hdu, hus, _⟩ := avc_ok h.one hym hb.2.2 (av_ok h hy)
        have hsz : (a.eval x).cells.size = size := by
          have := hdu.len
          rw [← hus] at this
          simpa [h1] using this
        have hcl := hd.len
        have hle : ¬ (off + (a.eval x).cells.size > cells.size) := by
          have : cells.toList.length = cells.size := Array.length_toList
          omega
        have hfold := foldl_upd (vs := (a.eval x).cells) (cells := cells) (off := off) (by omega)
        rw [hus] at hfold
        have := afill_ok h place rest (upd l off m) l' _ (by rw [hfold]; exact hd.upd off hdu) hf
        obtain ⟨cells', hc1, hc2⟩ := this
        refine ⟨cells', ?_, hc2⟩
        simp only [List.map_cons, Instr.fill, hp]
        rw [if_neg (by simp [hsz]; omega)]
        exact hc1
    · cases hf

def placeOf (ti : TI) (i : Nat) : Option (Nat × Nat) := (fieldOf ti i).map fun p => (p.1, p.2.1)
def aBuild (C : Ctx) (S : St) (t : TypeId) (parts : Array (Nat × Operand)) (K : Dl → Prop) : Prop :=
  match look t C.ty with
  | some ti => (bif isSt ti then (match afill S (placeOf ti) (ti.z.map A1.con) parts.toList with | some l => K ⟨.agg l, []⟩ | none => False) else False)
  | none => False
theorem aBuild_ok [B : Base] {C : Ctx} {c : Cx} (hC : CtxOk C c) {S : St} {i0 : Nat} {o : Oper} {t : TypeId} {parts : Array (Nat × Operand)} {K : Dl → Prop} (ho : o.op = .build t parts) (h : aBuild C S t parts K) : ∃ δ, OpOk c S i0 o δ ∧ K δ := by
  unfold aBuild at h
  split at h
  · next ti hti =>
    cases hs : isSt ti with
    | false => rw [hs] at h; exact h.elim
    | true =>
      rw [hs] at h
      simp only [cond_true] at h
      split at h
      · next l hl =>
        have hP := hC.ty t ti hti
        rw [← hC.P] at hP
        refine ⟨_, ok_pure fun N O1 ρ a w hc => ?_, h⟩
        unfold isSt at hs
        split at hs
        · next fs hk =>
          obtain ⟨gs, hu, hm⟩ := hP.st hk
          have hz : ti.zv = .agg ti.z.toArray := by unfold TI.zv; rw [hk]
          obtain ⟨cells, h1, h2⟩ := afill_ok hc (placeOf ti) parts.toList (ti.z.map A1.con) l ti.z.toArray (conl_den _ _) hl
          refine ⟨.agg cells, ⟨cells.toList, h2, by simp⟩, ?_⟩
          have hpl : (fun i => (fs.map fun p => (p.1, p.2.1))[i]?) = placeOf ti := by
            funext i
            simp [placeOf, fieldOf, hk]
          have hrt := run_trips (P := c.P) w hm
          have hfill : Instr.fill (fun x => (fs.map fun p => (p.1, p.2.1))[x]?) ti.z.toArray (parts.toList.map fun p => (p.1, a.eval p.2)) = some cells := by rw [hpl]; exact h1
          simp [execOp, ho, Instr.build, hP.zero, hz, Value.cells, run_underlying hu, Array.mapM_eq_mapM_toList, hrt]
          simp only [List.getElem?_map] at hfill
          simp [hfill]
        · cases hs
      · exact h.elim
  · exact h.elim

def byteAt (s : ByteArray) (z : Int) : Int := ((s.data.toList.getD z.toNat 0).toNat : Int)
def aIdx (C : Ctx) (S : St) (t : TypeId) (x y : Operand) (K : Dl → Prop) : Prop :=
  match look t C.ty, cv S x, cv S y with
  | some ⟨.str, _, _⟩, some (.string s), some (.int _ z) => (0 ≤ z ∧ z < s.size) ∧ K1 K (.int .u8 (byteAt s z))
  | _, _, _ => False
theorem aIdx_ok [B : Base] {C : Ctx} {c : Cx} (hC : CtxOk C c) {S : St} {i0 : Nat} {o : Oper} {t : TypeId} {x y : Operand} {K : Dl → Prop} (ho : o.op = .index t x y) (h : aIdx C S t x y K) : ∃ δ, OpOk c S i0 o δ ∧ K δ := by
  unfold aIdx at h
  split at h
  · next zz tc s k z ht hx hy =>
    have hP := (hC.ty t _ ht).fits
    rw [← hC.P] at hP
    simp only [TK.fits] at hP
    refine ⟨_, ok_con fun N O1 ρ a w hc => ?_, h.2⟩
    have hz : 0 ≤ z ∧ z < s.size := h.1
    have e : byteAt s z = ((s[z.toNat]'(by omega)).toNat : Int) := by
      have hlt : z.toNat < s.data.toList.length := by
        have : s.data.toList.length = s.size := by rw [Array.length_toList]; rfl
        omega
      simp only [byteAt, List.getD, List.getElem?_eq_getElem hlt, Option.getD_some]
      rfl
    have hr := run_index_string (P := c.P) w t s k z hP
    rw [dif_pos hz] at hr
    rw [e]
    simp only [execOp, ho, cv_ok hc hx, cv_ok hc hy, Sem.run_bind, hr]
    rfl
  · exact h.elim
end Go.Proofs.Ytgbfcjnkohhfoaa
