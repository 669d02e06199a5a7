/-
  The abstract machine, part 5: stores.
-/
import Derived.Test.YtghfpidpefdndaaAb4
namespace Go.Proofs.Ytghfpidpefdndaa
open Go.RowKit

def ok1 : A1 → Bool
  | .con v => v.oneCell'
  | _ => true
theorem ok1_ok {ρ : Env} (hρ : ∀ k v, ρ k = some v → v.oneCell' = true) {x : A1} {v : Value} (h : ok1 x = true) (hd : den1 ρ x = some v) : v.oneCell' = true := by
  cases x with
  | con u => simp [den1] at hd; subst hd; exact h
  | ref k => exact hρ k v hd
  | ptr k i n j =>
    simp only [den1, Option.bind_eq_some_iff] at hd
    obtain ⟨u, _, hu⟩ := hd
    unfold padd at hu
    split at hu
    · cases hu; rfl
    · cases hu; rfl
    · cases hu
theorem okl_ok {ρ : Env} (hρ : ∀ k v, ρ k = some v → v.oneCell' = true) : ∀ {l : List A1} {vs : List Value}, l.all ok1 = true → DenL ρ l vs → ∀ v ∈ vs, v.oneCell' = true
  | [], _, _, hd => by cases hd; simp
  | x :: l, _, h, hd => by
    obtain ⟨v, us, rfl, h1, h2⟩ := hd
    simp only [List.all_cons, Bool.and_eq_true] at h
    intro u hu
    rcases List.mem_cons.1 hu with rfl | hu
    · exact ok1_ok hρ h.1 h1
    · exact okl_ok hρ h.2 h2 u hu

/-- the cells of a value -/
def avc : AV → Option (List A1)
  | .one x => some [x]
  | .agg l => some l
  | .tup _ => none
theorem avc_ok {ρ : Env} (hρ : ∀ k v, ρ k = some v → v.oneCell' = true) {y : AV} {l : List A1} {v : Value} (h : avc y = some l) (h1 : l.all ok1 = true) (hd : Den ρ y v) : ∃ us, DenL ρ l us ∧ v.cells.toList = us ∧ ∀ u ∈ us, u.oneCell' = true := by
  cases y with
  | one x =>
    cases h
    have hd' : DenL ρ [x] [v] := ⟨v, [], rfl, hd, rfl⟩
    have := okl_ok hρ h1 hd'
    refine ⟨[v], hd', ?_, this⟩
    have hv := this v (by simp)
    cases v <;> first | rfl | simp [Value.oneCell'] at hv
  | agg l' =>
    cases h
    obtain ⟨vs, h2, rfl⟩ := hd
    exact ⟨vs, h2, by simp [Value.cells], okl_ok hρ h1 h2⟩
  | tup l => cases h

theorem setRow_other (w : World) (g : Nat) (cs : Array Value) (b : Nat) (h : b ≠ g) : (w.setRow g cs).heap[b]? = w.heap[b]? := by
  simp only [World.setRow, Array.getElem?_modify]
  rw [if_neg (fun e => h e.symm)]
theorem setRow_size (w : World) (g : Nat) (cs : Array Value) : (w.setRow g cs).heap.size = w.heap.size := by simp [World.setRow]

theorem run_storeAt {P : Program} {t : TypeId} {ti : TI} (h : TIOk P t ti) {w : World} {g o e : Nat} {cur : Array Value} (hg : w.heap[g]? = some (.cells cur e (0, 0))) {v : Value} (hl : v.cells.toList.length = ti.z.length)
    (h1 : ∀ u ∈ v.cells.toList, u.oneCell' = true) (hb : o + ti.z.length ≤ cur.size) :
    (Instr.storeAt t (.pointer (some ⟨g, o, none⟩)) v).run P w = .ok () (w.setRow g (cur.toList.take o ++ v.cells.toList ++ cur.toList.drop (o + v.cells.toList.length)).toArray) := by
  have hs : v.cells.size = ti.z.length := by simpa using hl
  have := run_storeCells_at P g o e v.cells.toList 0 cur w hg (by rw [hl]; omega) h1
  simp only [Nat.add_zero] at this
  simp [Instr.storeAt, Instr.sureAddr, storeVar, h.size, hs, this]

/-- a step that writes the block of one own entry -/
theorem step_write {c : Cx} {N O1 : Nat → Prop} {ρ : Env} {S : St} {a : Act} {w : World} (h : Conc c N O1 ρ S a w) {i0 k g : Nat} {e0 e : Ent} {v : Value} (h0 : look k S.en = some e0) (ho : isOwn e0 = true) (hv : ρ k = some v) (hb : blkOf v = some g)
    {cs : Array Value} (hen : EntOk c O1 ρ (w.setRow g cs) k e) : StepTo c i0 [(k, e)] O1 ρ w O1 ρ (w.setRow g cs) := by
  have hO := ((h.en k e0 h0).val ho)
  obtain ⟨v', hv', hb'⟩ := hO
  rw [hv] at hv'
  cases hv'
  refine ⟨Ext.refl _, fun _ _ => rfl, h.one, ⟨rfl, rfl, rfl, Nat.le_of_eq (setRow_size w g cs).symm, ?_⟩, ?_, fun b hb => .inl hb, fun b hb => .inl hb, ?_, ?_⟩
  · intro b hb1 hn
    refine setRow_other w g cs b fun eb => hn ?_
    subst eb
    exact ⟨(hb' b hb).1, k, e, v, List.mem_singleton.2 rfl, hv, hb⟩
  · intro k' e' he
    have := look_mem he
    simp at this
    obtain ⟨rfl, rfl⟩ := this
    exact hen
  · intro k' e' v' b he _ hv' hb'
    have := look_mem he
    simp at this
    obtain ⟨rfl, rfl⟩ := this
    exact .inr ⟨k', e', v', List.mem_singleton.2 rfl, hv', hb'⟩
  · intro k1 k2 e1 e2 v1 v2 b hne he1 he2
    have h1 := look_mem he1
    have h2 := look_mem he2
    simp at h1 h2
    exact absurd (h1.1.trans h2.1.symm) hne

def upd {α : Type} (l : List α) (j : Nat) (m : List α) : List α := l.take j ++ m ++ l.drop (j + m.length)

def storeRow (S : St) (k e : Nat) (t : TC) (xs : List t.D) (fr : Bool) (i0 i n j : Nat) (l : List A1) (K : Dl → Prop) : Prop :=
  bif nb n t.n && (nle t.nsl 16 && nle (j + l.length) t.n) then i < xs.length ∧ match cls S.en t (upd (opn t (xs.getD i t.z) fr i0).1 j l) with
    | some (x, fr') => K ⟨.one (.con undef), [(k, .own e t (xs.set i x) (fr && fr'))]⟩
    | none => False
  else False
def storeBox (k : Nat) (l0 : List A1) (j : Nat) (l : List A1) (K : Dl → Prop) : Prop :=
  bif nle (j + l.length) l0.length then K ⟨.one (.con undef), [(k, .box (upd l0 j l))]⟩ else False
def storeTo (S : St) (i0 : Nat) (l : List A1) (K : Dl → Prop) : A1 → Prop
  | .ref k => (match look k S.en with | some (.box l0) => storeBox k l0 0 l K | _ => False)
  | .ptr k i n j => (match look k S.en with
    | some (.box l0) => (bif nb i 0 then storeBox k l0 j l K else False)
    | some (.own e t xs fr) => storeRow S k e t xs fr i0 i n j l K
    | _ => False)
  | _ => False
def aStore (C : Ctx) (S : St) (i0 : Nat) (t : TypeId) (x y : Operand) (K : Dl → Prop) : Prop :=
  match look t C.ty, av S x, (av S y).bind avc with
  | some ti, some (.one p), some l => (bif nb l.length ti.z.length && l.all ok1 then storeTo S i0 l K p else False)
  | _, _, _ => False

theorem DenL.upd {ρ : Env} {l m : List A1} {vs us : List Value} (j : Nat) (h : DenL ρ l vs) (h' : DenL ρ m us) : DenL ρ (upd l j m) (Go.Proofs.Ytghfpidpefdndaa.upd vs j us) := by
  unfold Go.Proofs.Ytghfpidpefdndaa.upd
  rw [h'.len]
  exact ((h.take j).append h').append (h.drop _)
theorem upd_get {α : Type} {l m : List α} {j : Nat} (h : j + m.length ≤ l.length) (q : Nat) : (upd l j m)[q]? = if j ≤ q ∧ q < j + m.length then m[q - j]? else l[q]? := by
  unfold upd
  have hl : (l.take j).length = j := by simp; omega
  by_cases h1 : q < j
  · rw [if_neg (by omega), List.append_assoc, List.getElem?_append_left (by omega), List.getElem?_take, if_pos h1]
  · by_cases h2 : q < j + m.length
    · rw [if_pos (by omega), List.getElem?_append_left (by rw [List.length_append]; omega), List.getElem?_append_right (by omega), hl]
    · rw [if_neg (by omega), List.getElem?_append_right (by rw [List.length_append]; omega), List.getElem?_drop, List.length_append, hl]
      congr 1; omega
theorem upd_length {α : Type} {l m : List α} {j : Nat} (h : j + m.length ≤ l.length) : (upd l j m).length = l.length := by
  unfold upd; simp; omega

theorem store_ok {C : Ctx} {c : Cx} (hC : CtxOk C c) {S : St} {i0 : Nat} {o : Oper} {t : TypeId} {x y : Operand} (ho : o.op = .store t x y) {ti : TI} (hti : look t C.ty = some ti) {l : List A1} (hl : l.length = ti.z.length) (h1 : l.all ok1 = true)
    {z : AV} (hy : av S y = some z) (hz : avc z = some l) {k : Nat} {e0 e : Ent} (h0 : look k S.en = some e0) (hown : isOwn e0 = true)
    (hrun : ∀ {N O1 : Nat → Prop} {ρ : Env} {a : Act} {w : World} {us : List Value}, Conc c N O1 ρ S a w → (∀ k, i0 ≤ k → k < i0 + 16 → ρ k = none) → DenL ρ l us → (∀ u ∈ us, u.oneCell' = true) →
      ∃ v g q cur te, ρ k = some v ∧ blkOf v = some g ∧ a.eval x = .pointer (some ⟨g, q, none⟩) ∧ w.heap[g]? = some (.cells cur te (0, 0)) ∧ q + us.length ≤ cur.size ∧
        EntOk c O1 ρ (w.setRow g (upd cur.toList q us).toArray) k e) : OpOk c S i0 o ⟨.one (.con undef), [(k, e)]⟩ := by
  refine ⟨fun k' e' he => ?_, fun N O1 ρ a w hc hf next Q hn => ?_⟩
  · simp at he
    obtain ⟨rfl, rfl⟩ := he
    exact .inr ⟨_, h0, hown⟩
  · obtain ⟨us, hd, hus, hu1⟩ := avc_ok hc.one hz h1 (av_ok hc hy)
    obtain ⟨v, g, q, cur, te, hv, hb, hx, hg, hq, hen⟩ := hrun hc hf hd hu1
    have hP := hC.ty t ti hti
    rw [← hC.P] at hP
    have hr := run_storeAt hP hg (o := q) (v := a.eval y) (by rw [hus, hd.len, hl]) (by rw [hus]; exact hu1) (by rw [← hl, ← hd.len]; exact hq)
    rw [hus] at hr
    unfold Oper.wp
    have : (execOp a.eval o).run c.P w = .ok .skip (w.setRow g (upd cur.toList q us).toArray) := by simp [execOp, ho, hx, hr, upd]
    rw [this, Oper.upon_skip]
    exact hn O1 ρ undef _ rfl (step_write hc h0 hown hv hb hen)

theorem storeBox_ok {C : Ctx} {c : Cx} (hC : CtxOk C c) {S : St} {i0 : Nat} {o : Oper} {t : TypeId} {x y : Operand} (ho : o.op = .store t x y) {ti : TI} (hti : look t C.ty = some ti) {l : List A1} (hl : l.length = ti.z.length) (h1 : l.all ok1 = true)
    {z : AV} (hy : av S y = some z) (hz : avc z = some l) {k j : Nat} {l0 : List A1} {K : Dl → Prop} (h0 : look k S.en = some (.box l0))
    (hx : ∀ {N O1 : Nat → Prop} {ρ : Env} {a : Act} {w : World} {b : Nat}, Conc c N O1 ρ S a w → ρ k = some (.pointer (some ⟨b, 0, none⟩)) → a.eval x = .pointer (some ⟨b, j, none⟩))
    (h : storeBox k l0 j l K) : ∃ δ, OpOk c S i0 o δ ∧ K δ := by
  unfold storeBox at h
  cases hb : nle (j + l.length) l0.length with
  | false => rw [hb] at h; exact h.elim
  | true =>
    rw [hb] at h
    have hle := le_of_nle hb
    refine ⟨_, store_ok hC ho hti hl h1 hy hz h0 rfl ?_, h⟩
    intro N O1 ρ a w us hc hf hd hu1
    obtain ⟨b, e, vs, e1, e2, e3, e4, e5⟩ := hc.en k _ h0
    have hlen : j + us.length ≤ vs.length := by rw [hd.len, e3.len]; exact hle
    refine ⟨_, b, j, vs.toArray, e, e1, rfl, hx hc e1, e5, by simpa using hlen, b, e, upd vs j us, e1, e2, e3.upd j hd, ?_, ?_⟩
    · intro u hu
      unfold upd at hu
      simp only [List.mem_append] at hu
      rcases hu with (hu | hu) | hu
      · exact e4 u (List.mem_of_mem_take hu)
      · exact hu1 u hu
      · exact e4 u (List.mem_of_mem_drop hu)
    · exact setRow_heap w b _ _ e _ e5

theorem aStore_ok {C : Ctx} {c : Cx} (hC : CtxOk C c) {S : St} {i0 : Nat} {o : Oper} {t : TypeId} {x y : Operand} {K : Dl → Prop} (ho : o.op = .store t x y) (h : aStore C S i0 t x y K) : ∃ δ, OpOk c S i0 o δ ∧ K δ := by
  unfold aStore at h
  split at h
  · next ti p l hti hx hyz =>
    obtain ⟨z, hy, hz⟩ := Option.bind_eq_some_iff.1 hyz
    cases hb : nb l.length ti.z.length && l.all ok1 with
    | false => rw [hb] at h; exact h.elim
    | true =>
      rw [hb] at h
      simp only [Bool.and_eq_true] at hb
      have hl := eq_of_nb hb.1
      have h1 := hb.2
      simp only [cond_true] at h
      unfold storeTo at h
      split at h
      · next k =>
        split at h
        · next l0 h0 =>
          refine storeBox_ok hC ho hti hl h1 hy hz (j := 0) h0 (fun hc hb => ?_) h
          have := av_ok hc hx
          simp only [Den, den1, hb, Option.some.injEq] at this
          exact this.symm
        · exact h.elim
      · next k i n j =>
        split at h
        · next l0 h0 =>
          cases hi : nb i 0 with
          | false => rw [hi] at h; exact h.elim
          | true =>
            rw [hi] at h
            have := eq_of_nb hi
            subst this
            refine storeBox_ok hC ho hti hl h1 hy hz (j := j) h0 (fun hc hb => ?_) h
            have := av_ok hc hx
            simp only [Den, den1, hb, Option.bind_some, padd_box, Option.some.injEq] at this
            rw [← this]; simp
        · next e t' xs fr h0 =>
          unfold storeRow at h
          cases hb2 : nb n t'.n && (nle t'.nsl 16 && nle (j + l.length) t'.n) with
          | false => rw [hb2] at h; exact h.elim
          | true =>
            rw [hb2] at h
            simp only [Bool.and_eq_true] at hb2
            have hn := eq_of_nb hb2.1
            have h16 := le_of_nle hb2.2.1
            have hjl := le_of_nle hb2.2.2
            subst hn
            simp only [cond_true] at h
            obtain ⟨hi, h⟩ := h
            split at h
            · next x' fr' hcls =>
              refine ⟨_, store_ok hC ho hti hl h1 hy hz h0 rfl ?_, h⟩
              intro N O1 ρ a w us hc hf hd hu1
              obtain ⟨v, cs, e1, e2, e3, e4, e5⟩ := hc.en k _ h0
              have hxi : xs[i]? = some (xs.getD i t'.z) := by simp [List.getD, hi]
              have hri := e5 i _ hxi
              obtain ⟨ρ', hd', hst⟩ := step_opn hc hf hri h16
              have hdu := hd'.upd j (hd.ext hst.ext)
              have hrep := cls_ok (c := c) (O1 := O1) (ρ := ρ') (w := w) (fun k e he => (hc.en k e he).ext hst.ext) _ _ _ _ _ hdu hcls
              rcases e2.2 with ⟨_, h0'⟩ | ⟨g, cap, cur, rfl, hb, hg, hnc, hcm, hcs, htake⟩
              · omega
              · have hmul := Nat.mul_le_mul_right t'.n (show i + 1 ≤ xs.length by omega)
                rw [Nat.add_mul] at hmul
                have hmul2 := Nat.mul_le_mul_right t'.n hnc
                have hul := hd.len
                have hulen : i * t'.n + j + us.length ≤ cs.length := by rw [e2.1]; omega
                refine ⟨_, g, i * t'.n + j, cur, e, e1, rfl, ?_, hg, by omega, _, upd cs (i * t'.n + j) us, e1, ⟨by simp only [List.length_set]; rw [upd_length hulen]; exact e2.1, .inr ⟨g, cap, _, by simp, hb, setRow_heap w g _ _ e _ hg, by simpa using hnc, hcm, ?_, ?_⟩⟩, by simpa using e3, e4, ?_⟩
                · have := av_ok hc hx
                  simp only [Den, den1, e1, Option.bind_some, padd_row, Option.some.injEq, Nat.zero_add] at this
                  exact this.symm
                · have : i * t'.n + j + us.length ≤ cur.toList.length := by simp; omega
                  have := upd_length this
                  simp only [List.size_toArray]
                  rw [this]; simpa using hcs
                · apply List.ext_getElem?
                  intro q
                  simp only [List.length_set]
                  rw [upd_get hulen, List.getElem?_take, List.toList_toArray, upd_get (by simp; omega)]
                  have hlt : ¬ (i * t'.n + j ≤ q ∧ q < i * t'.n + j + us.length) → (if q < xs.length * t'.n then cur.toList[q]? else none) = cs[q]? := by
                    intro _; rw [← htake, List.getElem?_take]
                  by_cases hin : i * t'.n + j ≤ q ∧ q < i * t'.n + j + us.length
                  · rw [if_pos hin, if_pos hin, if_pos (by omega)]
                  · rw [if_neg hin, if_neg hin]; exact hlt hin
                · intro i' x hx'
                  have hA : ∀ b, b < w.heap.size → ¬ offs c O1 fr b → ¬ offs c O1 (fr && fr') b ∧ (w.setRow g (upd cur.toList (i * t'.n + j) us).toArray).heap[b]? = w.heap[b]? := by
                    intro b hb hn
                    simp only [offs, not_or, not_and] at hn ⊢
                    refine ⟨⟨hn.1, fun hf => hn.2 ?_⟩, setRow_other _ _ _ _ fun e => hn.1 ?_⟩
                    · simp at hf; exact hf.1
                    · rw [e]; exact e4 g rfl
                  have hA' : ∀ b, b < w.heap.size → ¬ offs c O1 fr' b → ¬ offs c O1 (fr && fr') b ∧ (w.setRow g (upd cur.toList (i * t'.n + j) us).toArray).heap[b]? = w.heap[b]? := by
                    intro b hb hn
                    simp only [offs, not_or, not_and] at hn ⊢
                    refine ⟨⟨hn.1, fun hf => hn.2 ?_⟩, setRow_other _ _ _ _ fun e => hn.1 ?_⟩
                    · simp at hf; exact hf.2
                    · rw [e]; exact e4 g rfl
                  by_cases hii : i' = i
                  · subst hii
                    simp [hi] at hx'
                    subst hx'
                    have hcells : ((upd cs (i' * t'.n + j) us).drop (i' * t'.n)).take t'.n = upd ((cs.drop (i' * t'.n)).take t'.n) j us := by
                      apply List.ext_getElem?
                      intro q
                      have hlen : ((cs.drop (i' * t'.n)).take t'.n).length = t'.n := by rw [List.length_take, List.length_drop, e2.1]; omega
                      rw [upd_get (by rw [hlen]; omega), List.getElem?_take, List.getElem?_drop, upd_get hulen, List.getElem?_take, List.getElem?_drop]
                      by_cases hin : j ≤ q ∧ q < j + us.length
                      · rw [if_pos hin, if_pos (by omega), if_pos (by omega)]
                        congr 1; omega
                      · rw [if_neg hin]
                        split
                        · rw [if_neg (by omega)]
                        · rfl
                    rw [hcells]
                    exact hrep.move hA'
                  · have hx2 : xs[i']? = some x := by rwa [List.getElem?_set_ne (fun e => hii e.symm)] at hx'
                    have hcells : ((upd cs (i * t'.n + j) us).drop (i' * t'.n)).take t'.n = (cs.drop (i' * t'.n)).take t'.n := by
                      apply List.ext_getElem?
                      intro q
                      rw [List.getElem?_take, List.getElem?_take, List.getElem?_drop, List.getElem?_drop, upd_get hulen]
                      split
                      · next hq =>
                        rw [if_neg]
                        rintro ⟨g1, g2⟩
                        rcases Nat.lt_or_gt_of_ne hii with hlt | hlt
                        · have := Nat.mul_le_mul_right t'.n (show i' + 1 ≤ i by omega)
                          rw [Nat.add_mul] at this
                          omega
                        · have := Nat.mul_le_mul_right t'.n (show i + 1 ≤ i' by omega)
                          rw [Nat.add_mul] at this
                          omega
                      · rfl
                    rw [hcells]
                    exact (e5 i' x hx2).move hA
            · exact h.elim
        · exact h.elim
      · exact h.elim
  · exact h.elim
end Go.Proofs.Ytghfpidpefdndaa
