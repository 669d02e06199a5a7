/-
  The abstract machine: '==' on structs of numbers and bools, and of slices with nil.
-/
import Derived.Test.YtgbfcjnkohhfoaaAbM
import Derived.Laws.StructEq
import Derived.Lib.SliceRun
namespace Go.Proofs.Ytgbfcjnkohhfoaa
open Go.RowKit

def eqVals : List Value → List Value → Option Bool
  | [], ys => match ys with | [] => some true | _ => none
  | x :: xs, ys => match ys with
    | y :: ys => (match x, y with
      | .int k a, .int k' b => (bif kb k k' then (match eqVals xs ys with | some r => some (decide (a = b) && r) | none => none) else none)
      | .bool a, .bool b => (match eqVals xs ys with | some r => some ((a == b) && r) | none => none)
      | _, _ => none)
    | [] => none
/-- values of the kinds ks -/
def KsOk : List TC → List Value → Prop
  | [], vs => vs = []
  | t :: l, vs => ∃ v us, vs = v :: us ∧ ((∃ k n, t = .i k ∧ v = .int k n) ∨ (t = .b ∧ ∃ b, v = .bool b)) ∧ KsOk l us

theorem eqFields_ok {P : Program} {w : World} : ∀ (ks : List TC) (fs : List Field) (pre1 pre2 xs ys : List Value) (r : Bool), fs.map (fun f => (f.name != "_", P.underlying f.type, f.offset)) = flatFs ks pre1.length → pre1.length = pre2.length → KsOk ks xs → KsOk ks ys → eqVals xs ys = some r →
    (Op.eqFields 9999 (pre1 ++ xs).toArray (pre2 ++ ys).toArray fs).run P w = .ok r w
  | [], fs, pre1, pre2, xs, ys, r, hf, _, hx, hy, he => by
    have : fs = [] := by simpa [flatFs] using hf
    subst this
    simp only [KsOk] at hx hy
    subst hx; subst hy
    simp only [eqVals, Option.some.injEq] at he
    subst he
    simp [Op.eqFields]
  | t :: ks, fs, pre1, pre2, xs, ys, r, hf, hl, hx, hy, he => by
    obtain ⟨v, us, rfl, hv, hx⟩ := hx
    obtain ⟨u, zs, rfl, hu, hy⟩ := hy
    cases fs with
    | nil => simp [flatFs] at hf
    | cons f fs =>
      simp only [List.map_cons, flatFs, List.cons.injEq, Prod.mk.injEq] at hf
      obtain ⟨⟨h1, h2, h3⟩, hf⟩ := hf
      have h1' : f.name ≠ "_" := by simpa using h1
      have hagg : (isAgg f.type).run P w = .ok false w := by
        cases t <;> simp [isAgg, run_underlying h2, descOf]
      have p1 : (part f.type (pre1 ++ v :: us).toArray f.offset).run P w = .ok v w := by
        rw [h3]; simp [part, Sem.run_bind, hagg]
      have p2 : (part f.type (pre2 ++ u :: zs).toArray f.offset).run P w = .ok u w := by
        rw [h3, hl]; simp [part, Sem.run_bind, hagg]
      have ih := fun r' (hr : eqVals us zs = some r') => eqFields_ok (w := w) ks fs (pre1 ++ [v]) (pre2 ++ [u]) us zs r' (by simpa using hf) (by simp [hl]) hx hy hr
      simp only [List.append_assoc, List.singleton_append] at ih
      unfold Op.eqFields
      rw [if_pos h1']
      simp only [Sem.run_bind, p1, p2, Result.andThen_ok]
      rcases hv with ⟨k, n, rfl, rfl⟩ | ⟨rfl, b, rfl⟩
      · rcases hu with ⟨k', m, hk, rfl⟩ | ⟨hk, _⟩
        · cases hk
          simp only [eqVals] at he
          rw [show kb k k = true by cases k <;> rfl] at he
          simp only [cond_true] at he
          split at he
          · next r' hr =>
            cases he
            rw [run_equalIn_int w 9998 f.type k k n m h2]
            simp only [Result.andThen_ok]
            by_cases hnm : n = m
            · subst hnm; simpa using ih r' hr
            · simp [hnm]
          · cases he
        · cases hk
      · rcases hu with ⟨k', m, hk, _⟩ | ⟨_, b', rfl⟩
        · cases hk
        · simp only [eqVals] at he
          split at he
          · next r' hr =>
            cases he
            rw [run_equalIn_bool' w 9998 f.type b b' h2]
            simp only [Result.andThen_ok]
            cases hb : (b == b') with
            | true => simpa using ih r' hr
            | false => simp
          · cases he

theorem eqSt_ok {P : Program} {t : TypeId} {ks : List TC} (h : EqTOk P t ks) {xs ys : List Value} {r : Bool} (hx : KsOk ks xs) (hy : KsOk ks ys) (he : eqVals xs ys = some r) (w : World) (ox oy : Operand) :
    (do eqGuard .eql t ox oy (.agg xs.toArray) (.agg ys.toArray); binOp .eql t (.agg xs.toArray) (.agg ys.toArray) : Sem Value).run P w = .ok (.bool r) w ∧
    (do eqGuard .neq t ox oy (.agg xs.toArray) (.agg ys.toArray); binOp .neq t (.agg xs.toArray) (.agg ys.toArray) : Sem Value).run P w = .ok (.bool (!r)) w := by
  have e : (Op.equalIn 10000 t (.agg xs.toArray) (.agg ys.toArray)).run P w = .ok r w := by
    rw [show (10000 : Nat) = 9999 + 1 from rfl, run_equalIn_agg w 9999 t _ _ h.ht h.hp]
    simpa using eqFields_ok ks _ [] [] xs ys r (by simpa using h.hf) rfl hx hy he
  refine ⟨?_, ?_⟩
  · simp only [Sem.run_bind, run_eqGuard_agg w _ t ox oy _ _ h.hg, Result.andThen_ok, run_eql_struct, e]
  · simp only [Sem.run_bind, run_eqGuard_agg w _ t ox oy _ _ h.hg, Result.andThen_ok, run_neq_struct, e]

/-- types with their equality -/
def EqsOk (P : Program) : List (Nat × List TC) → Prop
  | [] => True
  | x :: l => EqTOk P x.1 x.2 ∧ EqsOk P l
theorem EqsOk.look {P : Program} : ∀ {l : List (Nat × List TC)}, EqsOk P l → ∀ t ks, Go.Proofs.Ytgbfcjnkohhfoaa.look t l = some ks → EqTOk P t ks
  | [], _, t, ks, h => by simp [Go.Proofs.Ytgbfcjnkohhfoaa.look] at h
  | (t', ks') :: l, h, t, ks, hl => by
    by_cases e : t' = t
    · subst e; rw [look_cons_eq] at hl; cases hl; exact h.1
    · rw [look_cons_ne e] at hl; exact EqsOk.look h.2 t ks hl
/-- single values of cells -/
def conL : List A1 → Option (List Value)
  | [] => some []
  | .con v :: l => (match conL l with | some us => some (v :: us) | none => none)
  | _ :: _ => none
theorem conL_ok {ρ : Env} : ∀ {l : List A1} {vs us : List Value}, conL l = some vs → DenL ρ l us → us = vs
  | [], vs, us, h, hd => by cases h; exact hd
  | .con v :: l, vs, us, h, hd => by
    simp only [conL] at h
    split at h
    · next ws hw =>
      cases h
      obtain ⟨u, us', rfl, h1, h2⟩ := hd
      cases h1
      rw [conL_ok hw h2]
    · cases h
  | .ref _ :: _, _, _, h, _ => by simp [conL] at h
  | .ptr _ _ _ _ :: _, _, _, h, _ => by simp [conL] at h
def ksB : List TC → List Value → Bool
  | [], vs => match vs with | [] => true | _ => false
  | t :: l, vs => match vs with
    | v :: us => (match t, v with | .i k, .int k' _ => kb k k' | .b, .bool _ => true | _, _ => false) && ksB l us
    | [] => false
theorem ksB_ok : ∀ {ks : List TC} {vs : List Value}, ksB ks vs = true → KsOk ks vs
  | [], vs, h => by
    simp only [ksB] at h
    split at h
    · rfl
    · cases h
  | t :: l, vs, h => by
    simp only [ksB] at h
    split at h
    · next v us =>
      simp only [Bool.and_eq_true] at h
      refine ⟨v, us, rfl, ?_, ksB_ok h.2⟩
      have h1 := h.1
      split at h1
      · next k k' n => cases kb_eq h1; exact .inl ⟨k, n, rfl, rfl⟩
      · next b => exact .inr ⟨rfl, b, rfl⟩
      · cases h1
    · cases h

def eqOp : Bool → BinOp
  | true => .neq
  | false => .eql
def aEqSt (C : Ctx) (S : St) (neg : Bool) (t : TypeId) (x y : Operand) (K : Dl → Prop) : Prop :=
  match look t C.eqs, av S x, av S y with
  | some ks, some (.agg l), some (.agg m) => (match conL l, conL m with
    | some xs, some ys => (bif ksB ks xs && ksB ks ys then (match eqVals xs ys with | some r => K1 K (.bool (match neg with | true => !r | false => r)) | none => False) else False)
    | _, _ => False)
  | _, _, _ => False
/-- a slice that is compared with nil is not empty -/
def aEqNil (C : Ctx) (S : St) (neg : Bool) (t : TypeId) (x y : Operand) (K : Dl → Prop) : Prop :=
  match look t C.ty, av S x, av S y with
  | some ⟨.sl _, _, _⟩, some (.one (.con (.slice none _ _))), some (.one (.con (.slice none _ _))) => K1 K (.bool (!neg))
  | some ⟨.sl _, _, _⟩, some (.one (.ref k)), some (.one (.con (.slice none _ _))) => (match lenOf S k with | some (_, n) => n ≠ 0 ∧ K1 K (.bool neg) | none => False)
  | _, _, _ => False
def aBin2 (C : Ctx) (S : St) (op : BinOp) (t : TypeId) (x y : Operand) (K : Dl → Prop) : Prop :=
  match op with
  | .eql => (match look t C.ty with | some ⟨.st _, _, _⟩ => aEqSt C S false t x y K | some ⟨.sl _, _, _⟩ => aEqNil C S false t x y K | _ => aBin C S .eql t x y K)
  | .neq => (match look t C.ty with | some ⟨.st _, _, _⟩ => aEqSt C S true t x y K | some ⟨.sl _, _, _⟩ => aEqNil C S true t x y K | _ => aBin C S .neq t x y K)
  | op => aBin C S op t x y K

theorem aEqSt_ok [B : Base] {C : Ctx} {c : Cx} (hC : CtxOk C c) {S : St} {i0 : Nat} {o : Oper} {neg : Bool} {t u : TypeId} {x y : Operand} {K : Dl → Prop} (ho : o.op = .binOp (eqOp neg) t x y u) (h : aEqSt C S neg t x y K) : ∃ δ, OpOk c S i0 o δ ∧ K δ := by
  unfold aEqSt at h
  split at h
  · next ks l m hk hx hy =>
    split at h
    · next xs ys hl hm =>
      cases hb : ksB ks xs && ksB ks ys with
      | false => rw [hb] at h; exact h.elim
      | true =>
        rw [hb] at h
        simp only [Bool.and_eq_true] at hb
        simp only [cond_true] at h
        split at h
        · next r hr =>
          have hE := hC.eqs t ks hk
          rw [← hC.P] at hE
          refine ⟨_, ok_con (fun N O1 ρ a w hc => ?_), h⟩
          obtain ⟨us, hd, hu⟩ := av_ok hc hx
          obtain ⟨us', hd', hu'⟩ := av_ok hc hy
          have e1 := conL_ok hl hd
          have e2 := conL_ok hm hd'
          subst e1; subst e2
          obtain ⟨g1, g2⟩ := eqSt_ok hE (ksB_ok hb.1) (ksB_ok hb.2) hr w x y
          cases neg with
          | false => simp only [eqOp] at ho; simp only [execOp, ho, hu, hu', Sem.run_bind] at g1 ⊢; rw [g1]; rfl
          | true => simp only [eqOp] at ho; simp only [execOp, ho, hu, hu', Sem.run_bind] at g2 ⊢; rw [g2]; rfl
        · exact h.elim
    · exact h.elim
  · exact h.elim
theorem aEqNil_ok [B : Base] {C : Ctx} {c : Cx} (hC : CtxOk C c) {S : St} {i0 : Nat} {o : Oper} {neg : Bool} {t u : TypeId} {x y : Operand} {K : Dl → Prop} (ho : o.op = .binOp (eqOp neg) t x y u) (h : aEqNil C S neg t x y K) : ∃ δ, OpOk c S i0 o δ ∧ K δ := by
  have run : ∀ (e : TypeId), c.P.underlying t = some (.slice e) → ∀ (w : World) (ad : Option Addr) (n m n' m' : Nat), (do eqGuard (eqOp neg) t x y (.slice ad n m) (.slice none n' m'); binOp (eqOp neg) t (.slice ad n m) (.slice none n' m') : Sem Value).run c.P w = .ok (.bool (match neg with | true => !ad.isNone | false => ad.isNone)) w := by
    intro e he w ad n m n' m'
    have g := eqGuard_run c.P w (eqOp neg) t x y (.slice ad n m) (.slice none n' m') (by simp) (by simp)
    simp only [Sem.run_bind, g, Result.andThen_ok]
    have hu := he
    cases neg with
    | false => exact Lib.run_eql_slice_nil w t e ad n m n' m' hu
    | true =>
      simp only [eqOp, binOp]
      simp [Op.equal, Op.maxDepth, Lib.run_equalIn_slice_nil w 9999 t e ad n m n' m' hu]
  unfold aEqNil at h
  split at h
  · next e z tc n m n' m' ht hx hy =>
    have hP := (hC.ty t _ ht).fits
    rw [← hC.P] at hP
    simp only [TK.fits] at hP
    refine ⟨_, ok_con (fun N O1 ρ a w hc => ?_), h⟩
    have e1 := av_ok hc hx
    have e2 := av_ok hc hy
    simp only [Den, den1, Option.some.injEq] at e1 e2
    have := run e hP w none n m n' m'
    simp only [execOp, ho, ← e1, ← e2, Sem.run_bind] at this ⊢
    rw [this]
    cases neg <;> rfl
  · next e z tc k n' m' ht hx hy =>
    split at h
    · next tt n hl =>
      obtain ⟨h0, h⟩ := h
      have hP := (hC.ty t _ ht).fits
      rw [← hC.P] at hP
      simp only [TK.fits] at hP
      refine ⟨_, ok_con (fun N O1 ρ a w hc => ?_), h⟩
      have e1 := av_ok hc hx
      have e2 := av_ok hc hy
      simp only [Den, den1, Option.some.injEq] at e1 e2
      obtain ⟨ad, cap, hv, _, _, hpos, _⟩ := lenOf_ok hc hl
      obtain ⟨b, p, rfl⟩ := hpos (by omega)
      simp only [hv, Option.some.injEq] at e1
      have := run e hP w (some ⟨b, p, none⟩) n cap n' m'
      simp only [execOp, ho, ← e1, ← e2, Sem.run_bind] at this ⊢
      rw [this]
      cases neg <;> rfl
    · exact h.elim
  · exact h.elim
theorem aBin2_ok [B : Base] {C : Ctx} {c : Cx} (hC : CtxOk C c) {S : St} {i0 : Nat} {o : Oper} {op : BinOp} {t u : TypeId} {x y : Operand} {K : Dl → Prop} (ho : o.op = .binOp op t x y u) (h : aBin2 C S op t x y K) : ∃ δ, OpOk c S i0 o δ ∧ K δ := by
  unfold aBin2 at h
  split at h
  · split at h
    · exact aEqSt_ok hC (neg := false) ho h
    · exact aEqNil_ok hC (neg := false) ho h
    · exact aBin_ok hC ho h
  · split at h
    · exact aEqSt_ok hC (neg := true) ho h
    · exact aEqNil_ok hC (neg := true) ho h
    · exact aBin_ok hC ho h
  · exact aBin_ok hC ho h
/-- a field of a struct's value -/
def aField (C : Ctx) (S : St) (t : TypeId) (x : Operand) (f : Nat) (K : Dl → Prop) : Prop :=
  match av S x with
  | some (.agg l) => (match C.P.underlying t with
    | some (.struct gs) => (match gs[f]? with
      | some fd => (match look fd.type C.ty with
        | some ti => (bif isSt ti then K ⟨.agg ((l.drop fd.offset).take ti.z.length), []⟩ else (match l[fd.offset]? with | some y => K ⟨.one y, []⟩ | none => False))
        | none => False)
      | none => False)
    | _ => False)
  | _ => False
theorem aField_ok [B : Base] {C : Ctx} {c : Cx} (hC : CtxOk C c) {S : St} {i0 : Nat} {o : Oper} {t : TypeId} {x : Operand} {f : Nat} {K : Dl → Prop} (ho : o.op = .field t x f) (h : aField C S t x f K) : ∃ δ, OpOk c S i0 o δ ∧ K δ := by
  unfold aField at h
  split at h
  · next l hx =>
    split at h
    · next gs hu =>
      split at h
      · next fd hf =>
        split at h
        · next ti hti =>
          have hP := hC.ty fd.type ti hti
          have hag := hP.agg
          have hsz := hP.size
          rw [← hC.P] at hu
          rw [← hC.P] at hag hsz
          cases hs : isSt ti with
          | true =>
            rw [hs] at h
            refine ⟨_, ok_pure fun N O1 ρ a w hc => ?_, h⟩
            obtain ⟨vs, hd, he⟩ := av_ok hc hx
            refine ⟨.agg ((vs.drop fd.offset).take ti.z.length).toArray, ⟨_, (hd.drop _).take _, rfl⟩, ?_⟩
            simp [execOp, ho, he, Instr.field, run_underlying hu, hf, part, hag, hs, hsz, asAgg]
          | false =>
            rw [hs] at h
            simp only [cond_false] at h
            split at h
            · next y hy =>
              refine ⟨_, ok_pure fun N O1 ρ a w hc => ?_, h⟩
              obtain ⟨vs, hd, he⟩ := av_ok hc hx
              obtain ⟨v, hv, hvs⟩ := hd.get hy
              refine ⟨v, hv, ?_⟩
              simp [execOp, ho, he, Instr.field, run_underlying hu, hf, part, hag, hs, asAgg, hvs]
            · exact h.elim
        · exact h.elim
      · exact h.elim
    · exact h.elim
  · exact h.elim
end Go.Proofs.Ytgbfcjnkohhfoaa
