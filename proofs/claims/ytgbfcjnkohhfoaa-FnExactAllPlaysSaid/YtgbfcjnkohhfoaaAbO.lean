/-
  The abstract machine: one operation; slices of one's own that an operation closes into data.
-/
import Derived.Test.YtgbfcjnkohhfoaaAbQ
namespace Go.Proofs.Ytgbfcjnkohhfoaa
open Go.RowKit

def aNil (S : St) (x : Operand) (K : Dl → Prop) : Prop :=
  match av S x with
  | some (.one (.ref k)) => (match look k S.en with | some (.box _) => K ⟨.one (.ref k), []⟩ | _ => False)
  | _ => False
theorem aNil_ok {c : Cx} {S : St} {i0 : Nat} {o : Oper} {x : Operand} {K : Dl → Prop} (ho : o.op = .nilCheck x) (h : aNil S x K) : ∃ δ, OpOk c S i0 o δ ∧ K δ := by
  unfold aNil at h
  split at h
  · next k hx =>
    split at h
    · next l hl =>
      refine ⟨_, ok_pure fun N O1 ρ a w hc => ?_, h⟩
      obtain ⟨b, e, vs, e1, _⟩ := hc.en k _ hl
      have := av_ok hc hx
      refine ⟨_, this, ?_⟩
      simp only [Den, den1, e1, Option.some.injEq] at this
      simp [execOp, ho, ← this]
    · exact h.elim
  · exact h.elim

/-- one operation -/
def aop (C : Ctx) (cs : List (Nat × Con)) (S : St) (i0 : Nat) (o : Op) (K : Dl → Prop) : Prop :=
  match o with
  | .move x => aMove S x K
  | .assign x => aMove S x K
  | .pick b x y => aPick S b x y K
  | .binOp op t x y _ => aBin2 C S op t x y K
  | .unOp op _ x => aUn S op x K
  | .convert s d x => aConv2 C S s d x K
  | .makeMap t none => aMakeMap C i0 t K
  | .lookup t x y ok => aLook C S t x y ok K
  | .mapUpdate t x y v => aMapSet C S t x y v K
  | .extract x i => aExt S x i K
  | .load t x => aLoad C S i0 t x K
  | .store t x y => aStore C S i0 t x y K
  | .alloc t => aAlloc C i0 t K
  | .box _ x => aBox S i0 x K
  | .fieldAddr t x f => aFA C S t x f K
  | .nilCheck x => aNil S x K
  | .field t x f => aField C S t x f K
  | .indexAddr t x y => aIA C S t x y K
  | .build t ps => aBuild C S t ps K
  | .buildSlice t n ps => aBuildSlice C S i0 t n ps K
  | .makeSlice t x y => aMakeSlice C S i0 t x y K
  | .slice t x lo hi mx => aSlice C S i0 t x lo hi mx K
  | .index t x y => aIdx C S t x y K
  | .call ⟨.value (.func f), args, _⟩ => aCall C.mpins cs S i0 f args.toList K
  | .call ⟨.builtin .append, ⟨[x, y]⟩, ⟨[t, u]⟩⟩ => bif nb t u then aAppend C S i0 t x y K else False
  | .call ⟨.builtin .len, ⟨[x]⟩, ⟨[t]⟩⟩ => aLen C S t x K
  | .call ⟨.builtin .max, ⟨[x, y]⟩, _⟩ => aMM S true x y K
  | .call ⟨.builtin .min, ⟨[x, y]⟩, _⟩ => aMM S false x y K
  | _ => False
theorem aop_ok [B : Base] {C : Ctx} {c : Cx} {cs : List (Nat × Con)} (hC : CtxOk C c) (hcs : CsOk C cs) {S : St} {i0 : Nat} {o : Oper} {K : Dl → Prop} (h : aop C cs S i0 o.op K) : ∃ δ, OpOk c S i0 o δ ∧ K δ := by
  unfold aop at h
  split at h
  · next x ho => exact aMove_ok (.inl ho) h
  · next x ho => exact aMove_ok (.inr ho) h
  · next b x y ho => exact aPick_ok ho h
  · next op t x y u ho => exact aBin2_ok hC ho h
  · next op t x ho => exact aUn_ok ho h
  · next s d x ho => exact aConv2_ok hC ho h
  · next t ho => exact aMakeMap_ok hC ho h
  · next t x y ok ho => exact aLook_ok hC ho h
  · next t x y v ho => exact aMapSet_ok hC ho h
  · next x i ho => exact aExt_ok ho h
  · next t x ho => exact aLoad_ok hC ho h
  · next t x y ho => exact aStore_ok hC ho h
  · next t ho => exact aAlloc_ok hC ho h
  · next t x ho => exact aBox_ok ho h
  · next t x f ho => exact aFA_ok hC ho h
  · next x ho => exact aNil_ok ho h
  · next t x f ho => exact aField_ok hC ho h
  · next t x y ho => exact aIA_ok hC ho h
  · next t ps ho => exact aBuild_ok hC ho h
  · next t n ps ho => exact aBuildSlice_ok hC ho h
  · next t x y ho => exact aMakeSlice_ok hC ho h
  · next t x lo hi mx ho => exact aSlice_ok hC ho h
  · next t x y ho => exact aIdx_ok hC ho h
  · next f args ts ho => exact aCall_ok hC hcs ho h
  · next x y t u ho =>
    cases hb : nb t u with
    | false => rw [hb] at h; exact h.elim
    | true => rw [hb] at h; exact aAppend_ok hC ho (eq_of_nb hb) h
  · next x t ho => exact aLen_ok hC ho h
  · next x y ts ho => exact aMax_ok ho h
  · next x y ts ho => exact aMin_ok ho h
  · exact h.elim

/-- entries of one's own that are written no more -/
def frzE (en : List (Nat × Ent)) : List Nat → List (Nat × Ent)
  | [] => []
  | k :: l => match look k en with | some (.own e t xs fr) => (k, .imm t xs (fr && okE e t)) :: frzE en l | _ => frzE en l
theorem frzE_mem {en : List (Nat × Ent)} {k : Nat} {e' : Ent} : ∀ {l : List Nat}, (k, e') ∈ frzE en l → k ∈ l ∧ ∃ e t xs fr, look k en = some (.own e t xs fr) ∧ e' = .imm t xs (fr && okE e t)
  | [], h => by simp [frzE] at h
  | j :: l, h => by
    simp only [frzE] at h
    split at h
    · next e t xs fr hl =>
      rcases List.mem_cons.1 h with h | h
      · cases h; exact ⟨List.mem_cons_self .., e, t, xs, fr, hl, rfl⟩
      · obtain ⟨a, b⟩ := frzE_mem h; exact ⟨List.mem_cons_of_mem _ a, b⟩
    · obtain ⟨a, b⟩ := frzE_mem h; exact ⟨List.mem_cons_of_mem _ a, b⟩
theorem frz_ok [B : Base] {C : Ctx} {c : Cx} (hC : CtxOk C c) {N O1 : Nat → Prop} {ρ : Env} {S : St} {a : Act} {w : World} (h : Conc c N O1 ρ S a w) {l : List Nat} (hp : pinsOk C.mpins S.en l = true) :
    ∃ O1', Conc c N O1' ρ ⟨S.tm, frzE S.en l ++ S.en⟩ a w ∧ (∀ b, O1' b → O1 b) ∧ (∀ b, O1 b → O1' b ∨ ∃ k e v, (k, e) ∈ frzE S.en l ∧ ρ k = some v ∧ blkOf v = some b) := by
  have hpin : ∀ b, c.M b → c.O0 b → ∃ p e v, p ∉ l ∧ look p S.en = some e ∧ isOwn e = true ∧ ρ p = some v ∧ blkOf v = some b := by
    intro b hb h0
    obtain ⟨p, v, this, hv, hbv⟩ := (hC.pm b hb).resolve_right (fun h => h h0)
    simp only [pinsOk, List.all_eq_true, Bool.and_eq_true, Bool.not_eq_true'] at hp
    obtain ⟨h1, h2⟩ := hp p this
    split at h2
    · next e he =>
      refine ⟨p, e, v, fun hm => ?_, he, h2, h.pin p v hv, hbv⟩
      rw [memb_iff.2 hm] at h1; cases h1
    · cases h2
  refine ⟨fun b => O1 b ∧ ¬ ∃ k e v, (k, e) ∈ frzE S.en l ∧ ρ k = some v ∧ blkOf v = some b, ?_, fun b hb => hb.1, fun b hb => ?_⟩
  · have old : ∀ k e, look k (frzE S.en l ++ S.en) = some e → isOwn e = true → look k S.en = some e ∧ ∀ e', (k, e') ∉ frzE S.en l := by
      intro k e he ho
      rw [look_append] at he
      cases hl : look k (frzE S.en l) with
      | some e' =>
        rw [hl] at he
        simp only [Option.some_or, Option.some.injEq] at he
        subst he
        obtain ⟨_, _, t, xs, fr, _, rfl⟩ := frzE_mem (look_mem hl)
        simp [isOwn] at ho
      | none =>
        rw [hl] at he
        simp only [Option.none_or] at he
        refine ⟨he, fun e' hm => ?_⟩
        exact look_none_iff hl e' hm
    refine ⟨h.size, h.nodef, h.tm, ?_, ?_, h.nx, h.one, fun b hb => h.olt b hb.1, h.o0, h.eff, h.pin⟩
    · intro k e he
      rw [look_append] at he
      cases hl : look k (frzE S.en l) with
      | some e' =>
        rw [hl] at he
        simp only [Option.some_or, Option.some.injEq] at he
        subst he
        have hmem := look_mem hl
        obtain ⟨hkl, _, t, xs, fr, hlk, rfl⟩ := frzE_mem hmem
        have hen := h.en k _ hlk
        obtain ⟨v, hv, hb⟩ := hen.val rfl
        refine ⟨v, hv, own_rep2 hen hv (fun b hn => ?_) (fun hz => ⟨zs_l hz, (zs_r hz).1⟩) (fun b hbk => ?_)⟩
        · simp only [offs, not_or] at hn ⊢
          exact ⟨fun h => hn.1 h.1, fun h => hn.2 ⟨(Bool.and_eq_true _ _ ▸ h.1).1, h.2⟩⟩
        · simp only [offs, not_or, not_and]
          refine ⟨fun h => fun h2 => h2 ⟨k, _, v, hmem, hv, hbk⟩, fun _ h0 => ?_⟩
          rcases (h.olt b (hb b hbk).1).2 with h1 | h1
          · have h2 := h.o0 b h0
            omega
          · obtain ⟨p, e, u, hpl, hpe, hpo, hpv, hpb⟩ := hpin b h1 h0
            exact h.ap p k e _ u v b (fun e => hpl (e ▸ hkl)) hpe hlk hpo rfl hpv hv hpb hbk
      | none =>
        rw [hl] at he
        simp only [Option.none_or] at he
        refine (h.en k e he).move (Ext.refl _) (fun b _ hn => ⟨fun h => hn h.1, rfl⟩) fun ho v b hv hb => ?_
        obtain ⟨u, hu, hub⟩ := (h.en k e he).val ho
        rw [hv] at hu; cases hu
        refine ⟨⟨(hub b hb).1, ?_⟩, rfl⟩
        rintro ⟨k', e', v', hm, hv', hb'⟩
        obtain ⟨_, _, t, xs, fr, hlk, rfl⟩ := frzE_mem hm
        have hne : k ≠ k' := by rintro rfl; exact look_none_iff hl _ hm
        exact h.ap k k' e _ v v' b hne he hlk ho rfl hv hv' hb hb'
    · intro k k' e e' v v' b hne he he' ho ho' hv hv' hb
      exact h.ap k k' e e' v v' b hne (old k e he ho).1 (old k' e' he' ho').1 ho ho' hv hv' hb
  · by_cases hx : ∃ k e v, (k, e) ∈ frzE S.en l ∧ ρ k = some v ∧ blkOf v = some b
    · exact .inr hx
    · exact .inl ⟨hb, hx⟩

def partRefs (S : St) : List (Nat × Operand) → List Nat
  | [] => []
  | p :: l => (match (av S p.2).bind avc with | some m => ownRefs S.en m | none => []) ++ partRefs S l
def vRefs (en : List (Nat × Ent)) : IT → List A1 → List Nat
  | .v _, l => ownRefs en l
  | .pr t u, l => vRefs en t (l.take t.n) ++ vRefs en u (l.drop t.n)
  | _, _ => []
def argRefs (S : St) : List (Bool × IT) → List Operand → List Nat
  | [], _ => []
  | t :: l, xs => match xs with
    | x :: ys => (match (av S x).bind (argC t.1) with | some m => vRefs S.en t.2 m | none => []) ++ argRefs S l ys
    | [] => []
/-- what an operation closes -/
def frzKs (cs : List (Nat × Con)) (S : St) (o : Op) : List Nat :=
  match o with
  | .buildSlice _ _ parts => partRefs S parts.toList
  | .slice _ x _ _ _ => (match (av S x).bind avc with | some l => ownRefs S.en l | none => [])
  | .store _ x y => (match av S x with
    | some (.one (.ptr k _ _ _)) => (match look k S.en with | some (.own _ _ _ _) => (match (av S y).bind avc with | some l => ownRefs S.en l | none => []) | _ => [])
    | _ => [])
  | .call ⟨.value (.func f), args, _⟩ => (match look f cs with
    | some k => bif k.sh then argRefs S k.ins args.toList else []
    | none => [])
  | _ => []
/-- one operation, behind the closing of what it closes -/
def aopF (C : Ctx) (cs : List (Nat × Con)) (S : St) (i0 : Nat) (o : Op) (K : Dl → Prop) : Prop :=
  match frzKs cs S o with
  | [] => aop C cs S i0 o K
  | ks => bif pinsOk C.mpins S.en ks then aop C cs ⟨S.tm, frzE S.en ks ++ S.en⟩ i0 o (fun δ => K ⟨δ.val, δ.en ++ frzE S.en ks⟩) else False
theorem aopF_ok [B : Base] {C : Ctx} {c : Cx} {cs : List (Nat × Con)} (hC : CtxOk C c) (hcs : CsOk C cs) {S : St} {i0 : Nat} {o : Oper} {K : Dl → Prop} (h : aopF C cs S i0 o.op K) : ∃ δ, OpOk c S i0 o δ ∧ K δ := by
  unfold aopF at h
  generalize frzKs cs S o.op = ks at h
  split at h
  · exact aop_ok hC hcs h
  · cases hp : pinsOk C.mpins S.en ks with
    | false => rw [hp] at h; exact h.elim
    | true =>
      rw [hp] at h
      obtain ⟨δ, hok, hK⟩ := aop_ok hC hcs h
      refine ⟨_, ⟨fun k e he => ?_, fun N O1 ρ a w hc hf next Q hn => ?_⟩, hK⟩
      · simp only at he
        have own : ∀ e0, look k (frzE S.en ks ++ S.en) = some e0 → isOwn e0 = true → look k S.en = some e0 := by
          intro e0 he0 ho
          rw [look_append] at he0
          cases hl : look k (frzE S.en ks) with
          | some e' =>
            rw [hl] at he0
            simp only [Option.some_or, Option.some.injEq] at he0
            subst he0
            obtain ⟨_, _, t, xs, fr, _, rfl⟩ := frzE_mem (look_mem hl)
            simp [isOwn] at ho
          | none => rw [hl] at he0; simpa using he0
        rcases List.mem_append.1 he with he | he
        · rcases hok.1 k e he with h1 | ⟨e0, h1, h2⟩
          · exact .inl h1
          · exact .inr ⟨e0, own e0 h1 h2, h2⟩
        · obtain ⟨_, e0, t, xs, fr, h1, _⟩ := frzE_mem he
          exact .inr ⟨_, h1, rfl⟩
      · obtain ⟨O1', hc', s1, s2⟩ := frz_ok hC hc hp
        refine hok.2 N O1' ρ a w hc' hf next Q fun O2 ρ' v w' hv hs => hn O2 ρ' v w' hv ?_
        have fz : ∀ k e, (k, e) ∈ frzE S.en ks → isOwn e = false := fun k e he => by obtain ⟨_, _, _, _, _, _, rfl⟩ := frzE_mem he; rfl
        have L : ∀ k e, look k (δ.en ++ frzE S.en ks) = some e → look k δ.en = some e ∨ (look k δ.en = none ∧ (k, e) ∈ frzE S.en ks ∧ look k (frzE S.en ks) = some e) := by
          intro k e he
          rw [look_append] at he
          cases hl : look k δ.en with
          | some e' => rw [hl] at he; simp only [Option.some_or, Option.some.injEq] at he; subst he; exact .inl rfl
          | none => rw [hl] at he; simp only [Option.none_or] at he; exact .inr ⟨rfl, look_mem he, he⟩
        refine ⟨hs.ext, hs.ids, hs.one, ⟨hs.eff.os, hs.eff.tape, hs.eff.output, hs.eff.size, fun b hb hno => hs.eff.block b hb fun hx => hno ?_⟩, fun k e he => ?_, fun b hb => ?_, fun b hb => ?_, fun k e v b he ho hv hb => ?_, fun k k' e e' v v' b hne he he' ho ho' hv hv' hb => ?_⟩
        · obtain ⟨x1, k, e, v, hm, hv, hbv⟩ := hx
          exact ⟨s1 b x1, k, e, v, List.mem_append_left _ hm, hv, hbv⟩
        · rcases L k e he with he | ⟨hno, hm, hlk⟩
          · exact hs.en k e he
          · have hcur : look k (frzE S.en ks ++ S.en) = some e := by rw [look_append, hlk]; rfl
            have keep : ∀ b, b < w.heap.size → ¬ O1' b → ¬ O2 b ∧ w'.heap[b]? = w.heap[b]? := fun b hb hn =>
              ⟨fun h' => by rcases hs.o1 b h' with h' | h'; exact hn h'; omega, hs.eff.block b hb fun hx => hn hx.1⟩
            exact (hc'.en k e hcur).move hs.ext keep fun ho => by rw [fz k e hm] at ho; cases ho
        · exact (hs.o1 b hb).imp (s1 b) id
        · rcases s2 b hb with h1 | ⟨k, e, v, hm, hv, hbv⟩
          · rcases hs.o1' b h1 with h1 | ⟨k, e, v, hm, hv, hbv⟩
            · exact .inl h1
            · exact .inr ⟨k, e, v, List.mem_append_left _ hm, hv, hbv⟩
          · exact .inr ⟨k, e, v, List.mem_append_right _ hm, hv, hbv⟩
        · rcases L k e he with he | ⟨_, hm, _⟩
          · rcases hs.ap k e v b he ho hv hb with h1 | ⟨k', e', v', hm, hv', hb'⟩
            · exact .inl h1
            · exact .inr ⟨k', e', v', List.mem_append_left _ hm, hv', hb'⟩
          · rw [fz k e hm] at ho; cases ho
        · rcases L k e he with he | ⟨_, hm, _⟩
          · rcases L k' e' he' with he' | ⟨_, hm, _⟩
            · exact hs.ap2 k k' e e' v v' b hne he he' ho ho' hv hv' hb
            · rw [fz k' e' hm] at ho'; cases ho'
          · rw [fz k e hm] at ho; cases ho
end Go.Proofs.Ytgbfcjnkohhfoaa
