/-
  The abstract machine, part 10: parts of slices and strings, len, min, max.
  The abstract machine, part 11: contracts of functions, and their calls.
-/
import Derived.Test.YtgbfcjnkohhfoaaAb8
namespace Go.Proofs.Ytgbfcjnkohhfoaa
open Go.RowKit

/-- the integer of an operand that may be left out -/
def oi (S : St) (d : Int) : Option Operand → Option Int
  | none => some d
  | some x => match cv S x with | some (.int _ z) => some z | _ => none
theorem bound_run {P : Program} {w : World} (k : IntKind) (i : Int) (y : Nat) (code : BoundsCode) (h0 : 0 ≤ i) (h1 : i ≤ y) : (Instr.sliceBound (.int k i) y code).run P w = .ok i.toNat w := by
  simp [Instr.sliceBound, asIntOf, h0, h1]
theorem bounds_run {c : Cx} {N O1 : Nat → Prop} {ρ : Env} {S : St} {a : Act} {w : World} (hc : Conc c N O1 ρ S a w) (b : Bool) (n cap : Nat) {lo hi mx : Option Operand} {l h m : Int} (hlo : oi S 0 lo = some l) (hhi : oi S n hi = some h)
    (hmx : oi S cap mx = some m) (hno : mx.isSome = true → hi.isSome = true) (h0 : 0 ≤ l) (h1 : l ≤ h) (h2 : h ≤ m) (h3 : m ≤ cap) :
    (Instr.sliceBounds b n cap (lo.map a.eval) (hi.map a.eval) (mx.map a.eval)).run c.P w = .ok (l.toNat, h.toNat, m.toNat) w := by
  have val : ∀ {x : Operand} {d z : Int}, oi S d (some x) = some z → ∃ k, a.eval x = .int k z := by
    intro x d z hx
    simp only [oi] at hx
    split at hx
    · next k z' hz => cases hx; exact ⟨k, cv_ok hc hz⟩
    · cases hx
  have em : (m.toNat : Int) = m := Int.toNat_of_nonneg (by omega)
  have eh : (h.toNat : Int) = h := Int.toNat_of_nonneg (by omega)
  cases mx with
  | none =>
    simp only [oi, Option.some.injEq] at hmx
    subst hmx
    cases hi with
    | none =>
      simp only [oi, Option.some.injEq] at hhi
      subst hhi
      cases lo with
      | none => simp only [oi, Option.some.injEq] at hlo; subst hlo; simp [Instr.sliceBounds]
      | some x => obtain ⟨k, hk⟩ := val hlo; simp [Instr.sliceBounds, hk, bound_run k l n _ h0 h1]
    | some y =>
      obtain ⟨k', hk'⟩ := val hhi
      cases lo with
      | none => simp only [oi, Option.some.injEq] at hlo; subst hlo; simp [Instr.sliceBounds, hk', bound_run k' h cap _ (by omega) h2]
      | some x => obtain ⟨k, hk⟩ := val hlo; simp [Instr.sliceBounds, hk, hk', bound_run k' h cap _ (by omega) h2, bound_run k l h.toNat _ h0 (by omega)]
  | some z =>
    obtain ⟨k2, hk2⟩ := val hmx
    cases hi with
    | none => simp at hno
    | some y =>
      obtain ⟨k', hk'⟩ := val hhi
      cases lo with
      | none => simp only [oi, Option.some.injEq] at hlo; subst hlo; simp [Instr.sliceBounds, hk', hk2, bound_run k2 m cap _ (by omega) h3, bound_run k' h m.toNat _ (by omega) (by omega)]
      | some x => obtain ⟨k, hk⟩ := val hlo; simp [Instr.sliceBounds, hk, hk', hk2, bound_run k2 m cap _ (by omega) h3, bound_run k' h m.toNat _ (by omega) (by omega), bound_run k l h.toNat _ h0 (by omega)]

/-- whether a part is all from the first on, with its room -/
def fullP (t : TC) (lo mx : Option Operand) : Bool := match lo, mx with | none, none => true | _, _ => !t.fl
def okMx (hi mx : Option Operand) : Bool := match mx with | none => true | some _ => hi.isSome
def aSlice (C : Ctx) (S : St) (i0 : Nat) (t : TypeId) (x : Operand) (lo hi mx : Option Operand) (K : Dl → Prop) : Prop :=
  match look t C.ty, av S x with
  | some ⟨.str, _, _⟩, some (.one (.con (.string s))) => (match oi S 0 lo, oi S s.size hi, mx with
    | some l, some h, none => (0 ≤ l ∧ l ≤ h ∧ h ≤ s.size) ∧ K1 K (.string (s.extract l.toNat h.toNat))
    | _, _, _ => False)
  | some ⟨.sl _, _, _⟩, some (.one (.ref k)) => (match look k S.en with
    | some (.imm tc xs fr) => (match oi S 0 lo, oi S xs.length hi, oi S xs.length mx with
      | some l, some h, some m => (bif elemOk C t tc.n && okMx hi mx then (0 ≤ l ∧ l ≤ h ∧ h ≤ m ∧ m ≤ xs.length) ∧ K ⟨.one (.ref i0), [(i0, .imm tc ((xs.take h.toNat).drop l.toNat) (fr && fullP tc lo mx))]⟩ else False)
      | _, _, _ => False)
    | _ => False)
  | _, _ => False

theorem aSlice_ok [B : Base] {C : Ctx} {c : Cx} (hC : CtxOk C c) {S : St} {i0 : Nat} {o : Oper} {t : TypeId} {x : Operand} {lo hi mx : Option Operand} {K : Dl → Prop} (ho : o.op = .slice t x lo hi mx) (h : aSlice C S i0 t x lo hi mx K) : ∃ δ, OpOk c S i0 o δ ∧ K δ := by
  unfold aSlice at h
  split at h
  · next z tc s ht hx =>
    split at h
    · next l h' hlo hhi =>
      have hP := (hC.ty t _ ht).fits
      rw [← hC.P] at hP
      simp only [TK.fits] at hP
      obtain ⟨⟨h0, h1, h2⟩, hK⟩ := h
      refine ⟨_, ok_con fun N O1 ρ a w hc => ?_, hK⟩
      have hxv := av_ok hc hx
      simp only [Den, den1, Option.some.injEq] at hxv
      have hb := bounds_run hc false s.size s.size hlo hhi (mx := none) (m := s.size) rfl (by simp) h0 h1 h2 (Int.le_refl _)
      simp only [Option.map_none] at hb
      simp [execOp, ho, ← hxv, Instr.sliceAt, Instr.slice, run_underlying hP, hb]
    · exact h.elim
  · next e z tc' k ht hx =>
    split at h
    · next tc xs fr hl =>
      split at h
      · next l h' m hlo hhi hmx =>
        cases hb : elemOk C t tc.n && okMx hi mx with
        | false => rw [hb] at h; exact h.elim
        | true =>
          rw [hb] at h
          simp only [Bool.and_eq_true] at hb
          obtain ⟨⟨h0, h1, h2, h3⟩, hK⟩ := h
          refine ⟨_, ⟨fun k e he => by simp at he; exact .inl (by omega), fun N O1 ρ a w hc hf next Q hn => ?_⟩, hK⟩
          obtain ⟨e', hu, hs⟩ := elemOk_ok hC hb.1
          obtain ⟨v, hv, ad, cap, hva, hl1, hl2, hl3, hl5, hl4⟩ := hc.en k _ hl
          simp only [List.cons.injEq, and_true] at hva
          subst hva
          have hxv := av_ok hc hx
          simp only [Den, den1, hv, Option.some.injEq] at hxv
          -- the bound that is left out is the capacity
          obtain ⟨m', hm1, hm2, hm3⟩ : ∃ m' : Int, oi S cap mx = some m' ∧ h' ≤ m' ∧ m' ≤ cap := by
            cases mx with
            | none => exact ⟨cap, rfl, by omega, Int.le_refl _⟩
            | some y => exact ⟨m, by simpa [oi] using hmx, h2, by omega⟩
          have hbr := bounds_run hc true xs.length cap hlo hhi hm1 (by intro hm; cases mx <;> simp_all [okMx]) h0 h1 hm2 hm3
          have hrun : (execOp a.eval o).run c.P w = .ok (.value (.slice (if m'.toNat = l.toNat then ad else ad.map (·.add (l.toNat * tc.n))) (h'.toNat - l.toNat) (m'.toNat - l.toNat))) w := by
            simp [execOp, ho, ← hxv, Instr.sliceAt, Instr.slice, run_underlying hu, hbr, hs]
          have hlen : ((xs.take h'.toNat).drop l.toNat).length = h'.toNat - l.toNat := by simp; omega
          have hrep : Rep (zs c (fr && fullP tc lo mx)) (offs c O1 (fr && fullP tc lo mx)) w (.sl tc) [.slice (if m'.toNat = l.toNat then ad else ad.map (·.add (l.toNat * tc.n))) (h'.toNat - l.toNat) (m'.toNat - l.toNat)] ((xs.take h'.toNat).drop l.toNat) := by
            have hwk : ∀ b, ¬ offs c O1 fr b → ¬ offs c O1 (fr && fullP tc lo mx) b := fun b hn => by
              simp only [offs, not_or, not_and, Bool.and_eq_true, and_imp] at hn ⊢
              exact ⟨hn.1, fun h _ => hn.2 h⟩
            refine ⟨_, _, by rw [hlen], by rw [hlen]; omega, by rw [hlen]; omega, ?_, fun hz hfl0 => ?_, ?_⟩
            · intro hn
              have : ad = none := by split at hn <;> simp_all
              have := hl3 this
              omega
            · have hfl : lo = none ∧ mx = none := by
                have := (zs_r hz).1
                unfold fullP at this
                split at this
                · exact ⟨rfl, rfl⟩
                · rw [hfl0] at this; cases this
              obtain ⟨rfl, rfl⟩ := hfl
              simp only [oi, Option.some.injEq] at hlo hm1
              subst hlo; subst hm1
              rcases hl5 (zs_l hz) hfl0 with rfl | ⟨b, rfl, q1, q2⟩
              · exact .inl (by simp)
              · refine .inr ⟨b, ?_, hwk b q1, by simpa using q2⟩
                split
                · rfl
                · simp [Addr.add]
            · by_cases hml : m'.toNat = l.toNat
              · exact .inl (List.eq_nil_of_length_eq_zero (by rw [hlen]; omega))
              · rcases hl4 with rfl | ⟨b, off, rfl, hb1, hb2⟩
                · exact .inl (by simp)
                · refine .inr ⟨b, off + l.toNat * tc.n, ?_, hwk b hb1, fun i x hx => ?_⟩
                  · rw [if_neg hml]
                    simp only [Option.map_some, Addr.add]
                    split
                    · next h0 => rw [h0]; rfl
                    · rfl
                  · have hx' : xs[l.toNat + i]? = some x := by
                      rw [List.getElem?_drop, List.getElem?_take] at hx
                      split at hx
                      · exact hx
                      · cases hx
                    obtain ⟨us, u1, u2, u3⟩ := hb2 _ x hx'
                    refine ⟨us, u1, fun j v hv => ?_, u3.move zs_l fun b _ hn => ⟨hwk b hn, rfl⟩⟩
                    rw [← u2 j v hv]
                    congr 2
                    rw [Nat.add_mul]; omega
          obtain ⟨ρ', hd, hst⟩ := step_opn (t := .sl tc) hc hf hrep (by simp [TC.nsl])
          obtain ⟨v', us, hvu, hd1, rfl⟩ := hd
          simp only [List.cons.injEq, and_true] at hvu
          unfold Oper.wp
          rw [hrun, Oper.upon_value]
          exact hn O1 ρ' _ w (by rw [hvu]; exact hd1) hst
      · exact h.elim
    · exact h.elim
  · exact h.elim

def aLen (C : Ctx) (S : St) (t : TypeId) (x : Operand) (K : Dl → Prop) : Prop :=
  match look t C.ty, av S x with
  | some ⟨.str, _, _⟩, some (.one (.con (.string s))) => K1 K (.int .i64 s.size)
  | some ⟨.sl _, _, _⟩, some (.one (.con (.slice none n _))) => K1 K (.int .i64 n)
  | some ⟨.sl _, _, _⟩, some (.one (.ref k)) => (match lenOf S k with | some (_, n) => K1 K (.int .i64 n) | none => False)
  | _, _ => False
theorem aLen_ok [B : Base] {C : Ctx} {c : Cx} (hC : CtxOk C c) {S : St} {i0 : Nat} {o : Oper} {t : TypeId} {x : Operand} {K : Dl → Prop} (ho : o.op = .call { callee := .builtin .len, args := #[x], argTypes := #[t] }) (h : aLen C S t x K) : ∃ δ, OpOk c S i0 o δ ∧ K δ := by
  unfold aLen at h
  split at h
  · next z tc s ht hx =>
    have hP := (hC.ty t _ ht).fits
    rw [← hC.P] at hP
    simp only [TK.fits] at hP
    refine ⟨_, ok_con fun N O1 ρ a w hc => ?_, h⟩
    have hxv := av_ok hc hx
    simp only [Den, den1, Option.some.injEq] at hxv
    simp [execOp, ho, resolve, invoke, builtin, ← hxv, Builtin.len_, run_underlying hP, goInt]
  · next e z tc n m ht hx =>
    have hP := (hC.ty t _ ht).fits
    rw [← hC.P] at hP
    simp only [TK.fits] at hP
    refine ⟨_, ok_con fun N O1 ρ a w hc => ?_, h⟩
    have hxv := av_ok hc hx
    simp only [Den, den1, Option.some.injEq] at hxv
    simp [execOp, ho, resolve, invoke, builtin, ← hxv, Builtin.len_, run_underlying hP, goInt]
  · next e z tc k ht hx =>
    split at h
    · next tc' n hl =>
      have hP := (hC.ty t _ ht).fits
      rw [← hC.P] at hP
      simp only [TK.fits] at hP
      refine ⟨_, ok_con fun N O1 ρ a w hc => ?_, h⟩
      obtain ⟨ad, cap, hv, _⟩ := lenOf_ok hc hl
      have hxv := av_ok hc hx
      simp only [Den, den1, hv, Option.some.injEq] at hxv
      simp [execOp, ho, resolve, invoke, builtin, ← hxv, Builtin.len_, run_underlying hP, goInt]
    · exact h.elim
  · exact h.elim

def aMM (S : St) (mx : Bool) (x y : Operand) (K : Dl → Prop) : Prop :=
  match cv S x, cv S y with
  | some (.int k a), some (.int _ b) => K1 K (.int k (if mx then max a b else min a b))
  | _, _ => False
theorem aMax_ok {c : Cx} {S : St} {i0 : Nat} {o : Oper} {ts : Array TypeId} {x y : Operand} {K : Dl → Prop} (ho : o.op = .call { callee := .builtin .max, args := #[x, y], argTypes := ts }) (h : aMM S true x y K) : ∃ δ, OpOk c S i0 o δ ∧ K δ := by
  unfold aMM at h
  split at h
  · next k a k' b hx hy =>
    refine ⟨_, ok_con fun N O1 ρ ac w hc => ?_, h⟩
    have e : (if b > a then b else a) = max a b := by rw [Int.max_def]; split <;> split <;> omega
    simp [execOp, ho, resolve, invoke, builtin, cv_ok hc hx, cv_ok hc hy, Builtin.max_, Builtin.max2]
    omega
  · exact h.elim
theorem aMin_ok {c : Cx} {S : St} {i0 : Nat} {o : Oper} {ts : Array TypeId} {x y : Operand} {K : Dl → Prop} (ho : o.op = .call { callee := .builtin .min, args := #[x, y], argTypes := ts }) (h : aMM S false x y K) : ∃ δ, OpOk c S i0 o δ ∧ K δ := by
  unfold aMM at h
  split at h
  · next k a k' b hx hy =>
    refine ⟨_, ok_con fun N O1 ρ ac w hc => ?_, h⟩
    simp [execOp, ho, resolve, invoke, builtin, cv_ok hc hx, cv_ok hc hy, Builtin.min_, Builtin.min2]
    omega
  · exact h.elim
end Go.Proofs.Ytgbfcjnkohhfoaa

namespace Go.Proofs.Ytgbfcjnkohhfoaa
open Go.RowKit

/-- a map's data in another spelling of their types -/
def castM {t t' u u' : TC} (h : t = t') (g : u = u') (m : List (t.D × u.D)) : List (t'.D × u'.D) := cast (by rw [h, g]) m
theorem MapOk.flat {O O' : Nat → Prop} {w w' : World} {g : Bool} {tk tv : TC} (hk : tk.nsl = 0) (hv : tv.nsl = 0) : ∀ {es : List MapEntry} {m : List (tk.D × tv.D)}, MapOk O w g tk tv es m → MapOk O' w' g tk tv es m
  | [], _, h => h
  | _ :: _, _, h => by
    obtain ⟨p, m', rfl, h1, ⟨us, h2, h3⟩, h4⟩ := h
    exact ⟨p, m', rfl, h1.flat hk, ⟨us, h2, h3.flat hv⟩, h4.flat hk hv⟩

/-- results: data; a slice of one's own (e: the type of its elements); a box of one's own; a map of one's own; a box whose cells lead to parts of one's own; several -/
inductive OT | v (t : TC) | own (e : Nat) (t : TC) | bx (t : TC) | mp (g : Bool) (tk tv : TC) | bo (x : OT) | pr (x y : OT) | tw (x y : OT)
@[reducible] def OT.D : OT → Type
  | .v t => t.D
  | .own _ t => List t.D
  | .bx t => t.D
  | .mp _ tk tv => List (tk.D × tv.D)
  | .bo x => x.D
  | .pr x y => x.D × y.D
  | .tw x y => x.D × y.D
def OT.n : OT → Nat
  | .v t => t.n
  | .own _ _ => 1
  | .bx _ => 1
  | .mp _ _ _ => 1
  | .bo _ => 1
  | .pr x y => x.n + y.n
  | .tw x y => x.n + y.n
def OT.nsl : OT → Nat
  | .v t => t.nsl
  | .own _ _ => 1
  | .bx t => 1 + t.nsl
  | .mp _ _ _ => 1
  | .bo x => 1 + x.nsl
  | .pr x y => x.nsl + y.nsl
  | .tw x y => x.nsl + y.nsl + 1
/-- parameters: data; a slice that may be written (it keeps its length); a box that may be written (its slices stay); a map that may be written; a box whose parts may be written; a function; several -/
inductive IT | v (t : TC) | own (e : Nat) (t : TC) | bx (t : TC) | mp (g : Bool) (tk tv : TC) | bo (x : IT) | k (f : Nat) | pr (x y : IT)
@[reducible] def IT.D : IT → Type
  | .v t => t.D
  | .own _ t => List t.D
  | .bx t => t.D
  | .mp _ tk tv => List (tk.D × tv.D)
  | .bo x => x.D
  | .k _ => Unit
  | .pr x y => x.D × y.D
def IT.n : IT → Nat
  | .v t => t.n
  | .own _ _ => 1
  | .bx _ => 1
  | .mp _ _ _ => 1
  | .bo _ => 1
  | .k _ => 1
  | .pr x y => x.n + y.n
def IT.nsl : IT → Nat
  | .v t => t.nsl
  | .own _ _ => 1
  | .bx t => 1 + t.nsl
  | .mp _ _ _ => 1
  | .bo x => 1 + x.nsl
  | .k _ => 0
  | .pr x y => x.nsl + y.nsl

/-- the cells vs are the results x; bs: the blocks of the slices of one's own, from base on; all other memory lies outside O -/
def RepO (z : Prop) (O : Nat → Prop) (base : Nat) (w : World) : (t : OT) → List Value → t.D → List Nat → Prop
  | .v t, vs, x, bs => bs = [] ∧ Rep z O w t vs x
  | .own e t, vs, (xs : List t.D), bs => ∃ v cs, vs = [v] ∧ w.ownsRow base e t.n v xs.length cs ∧ xs.length ≤ LB ∧ (∀ b, blkOf v = some b → b ∈ bs) ∧ (∀ b, b ∈ bs → blkOf v = some b) ∧
      ∀ (i : Nat) (x : t.D), xs[i]? = some x → Rep z O w t ((cs.drop (i * t.n)).take t.n) x
  | .bx t, vs, x, bs => ∃ b e us, vs = [.pointer (some ⟨b, 0, none⟩)] ∧ bs = [b] ∧ base ≤ b ∧ w.heap[b]? = some (.cells us.toArray e (0, 0)) ∧ (∀ u ∈ us, u.oneCell' = true) ∧ Rep z O w t us x
  | .mp g tk tv, vs, x, bs => ∃ b es clock, vs = [.map (some b)] ∧ bs = [b] ∧ base ≤ b ∧ w.heap[b]? = some (.map es clock) ∧ (tk.nsl = 0 ∧ tv.nsl = 0) ∧ MapOk O w g tk tv es.toList x
  | .bo t, vs, x, bs => ∃ b e us bs', vs = [.pointer (some ⟨b, 0, none⟩)] ∧ bs = b :: bs' ∧ b ∉ bs' ∧ base ≤ b ∧ w.heap[b]? = some (.cells us.toArray e (0, 0)) ∧ (∀ u ∈ us, u.oneCell' = true) ∧ RepO z O base w t us x bs'
  | .pr t u, vs, x, bs => ∃ us ws b1 b2, vs = us ++ ws ∧ bs = b1 ++ b2 ∧ (∀ b, b ∈ b1 → b ∉ b2) ∧ RepO z O base w t us x.1 b1 ∧ RepO z O base w u ws x.2 b2
  | .tw t u, vs, x, bs => ∃ us ws b1 b2, vs = us ++ ws ∧ bs = b1 ++ b2 ∧ (∀ b, b ∈ b1 → b ∉ b2) ∧ RepO z O base w t us x.1 b1 ∧ RepO z O base w u ws x.2 b2 ∧ (z → Twin O w us ws)
/-- the same of parameters -/
def fnV (f : Nat) : Value := .func (.func f) #[] #[]
def RepI (z : Prop) (O : Nat → Prop) (w : World) : (t : IT) → List Value → t.D → List Nat → Prop
  | .v t, vs, x, bs => bs = [] ∧ Rep z O w t vs x
  | .own e t, vs, (xs : List t.D), bs => ∃ v cs, vs = [v] ∧ w.ownsRow 0 e t.n v xs.length cs ∧ xs.length ≤ LB ∧ (∀ b, blkOf v = some b → b ∈ bs) ∧ (∀ b, b ∈ bs → blkOf v = some b) ∧
      ∀ (i : Nat) (x : t.D), xs[i]? = some x → Rep z O w t ((cs.drop (i * t.n)).take t.n) x
  | .bx t, vs, x, bs => ∃ b e us, vs = [.pointer (some ⟨b, 0, none⟩)] ∧ bs = [b] ∧ w.heap[b]? = some (.cells us.toArray e (0, 0)) ∧ (∀ u ∈ us, u.oneCell' = true) ∧ Rep z O w t us x
  | .mp g tk tv, vs, x, bs => ∃ b es clock, vs = [.map (some b)] ∧ bs = [b] ∧ w.heap[b]? = some (.map es clock) ∧ (tk.nsl = 0 ∧ tv.nsl = 0) ∧ MapOk O w g tk tv es.toList x
  | .bo t, vs, x, bs => ∃ b e us bs', vs = [.pointer (some ⟨b, 0, none⟩)] ∧ bs = b :: bs' ∧ b ∉ bs' ∧ w.heap[b]? = some (.cells us.toArray e (0, 0)) ∧ (∀ u ∈ us, u.oneCell' = true) ∧ RepI z O w t us x bs'
  | .k f, vs, _, bs => vs = [fnV f] ∧ bs = []
  | .pr t u, vs, x, bs => ∃ us ws b1 b2, vs = us ++ ws ∧ bs = b1 ++ b2 ∧ (∀ b, b ∈ b1 → b ∉ b2) ∧ RepI z O w t us x.1 b1 ∧ RepI z O w u ws x.2 b2
/-- the cells us have become us', the data x; slices are as they were -/
def Upd : (t : TC) → List Value → List Value → t.D → Prop
  | .i k, us, us', x => us.length = 1 ∧ us' = [.int k x]
  | .b, us, us', x => us.length = 1 ∧ us' = [.bool x]
  | .s, us, us', x => us.length = 1 ∧ us' = [.string x]
  | .sl _, us, us', _ => us.length = 1 ∧ us' = us
  | .pr t u, us, us', x => ∃ a b a' b', us = a ++ b ∧ us' = a' ++ b' ∧ Upd t a a' x.1 ∧ Upd u b b' x.2
  | .tw t u, us, us', x => ∃ a b a' b', us = a ++ b ∧ us' = a' ++ b' ∧ Upd t a a' x.1 ∧ Upd u b b' x.2
/-- the same of the cells of a box whose parts may be written: the parts' cells stay -/
def UpdI : (t : IT) → List Value → List Value → t.D → Prop
  | .v t, us, us', x => Upd t us us' x
  | .pr t u, us, us', x => ∃ a b a' b', us = a ++ b ∧ us' = a' ++ b' ∧ a.length = t.n ∧ UpdI t a a' x.1 ∧ UpdI u b b' x.2
  | .own _ _, us, us', _ => us.length = 1 ∧ us' = us
  | .bx _, us, us', _ => us.length = 1 ∧ us' = us
  | .mp _ _ _, us, us', _ => us.length = 1 ∧ us' = us
  | .bo _, us, us', _ => us.length = 1 ∧ us' = us
  | .k _, us, us', _ => us.length = 1 ∧ us' = us
/-- what the call has made of parameters that may be written (w: the world before) -/
def RepU (z : Prop) (O : Nat → Prop) (w w' : World) : (t : IT) → List Value → t.D → Prop
  | .v _, _, _ => True
  | .own e t, vs, (xs : List t.D) => ∃ v cs, vs = [v] ∧ w'.ownsRow 0 e t.n v xs.length cs ∧ ∀ (i : Nat) (x : t.D), xs[i]? = some x → Rep z O w' t ((cs.drop (i * t.n)).take t.n) x
  | .bx t, vs, x => ∃ b e e' us us', vs = [.pointer (some ⟨b, 0, none⟩)] ∧ w.heap[b]? = some (.cells us.toArray e (0, 0)) ∧ w'.heap[b]? = some (.cells us'.toArray e' (0, 0)) ∧ (∀ u ∈ us', u.oneCell' = true) ∧ Upd t us us' x
  | .mp g tk tv, vs, x => ∃ b es clock, vs = [.map (some b)] ∧ w'.heap[b]? = some (.map es clock) ∧ MapOk O w' g tk tv es.toList x
  | .bo t, vs, x => ∃ b e e' us us', vs = [.pointer (some ⟨b, 0, none⟩)] ∧ w.heap[b]? = some (.cells us.toArray e (0, 0)) ∧ w'.heap[b]? = some (.cells us'.toArray e' (0, 0)) ∧ (∀ u ∈ us', u.oneCell' = true) ∧ us.length = t.n ∧ UpdI t us us' x ∧ RepU z O w w' t us x
  | .k _, _, _ => True
  | .pr t u, vs, x => ∃ us ws, vs = us ++ ws ∧ us.length = t.n ∧ RepU z O w w' t us x.1 ∧ RepU z O w w' u ws x.2

/-- products of data -/
@[reducible] def HI : List (Bool × IT) → Type
  | [] => Unit
  | x :: l => x.2.D × HI l
@[reducible] def HO : List (Bool × OT) → Type
  | [] => Unit
  | x :: l => x.2.D × HO l

def RepA (z : Prop) (O : Nat → Prop) (w : World) : (l : List (Bool × IT)) → List Value → HI l → List Nat → Prop
  | [], vs, _, bs => vs = [] ∧ bs = []
  | t :: l, vs, x, bs => ∃ v vs' b1 b2, vs = v :: vs' ∧ bs = b1 ++ b2 ∧ (∀ b, b ∈ b1 → b ∉ b2) ∧ (∃ us, ValC t.1 us v ∧ RepI z O w t.2 us x.1 b1) ∧ RepA z O w l vs' x.2 b2
def RepV (z : Prop) (O : Nat → Prop) (w w' : World) : (l : List (Bool × IT)) → List Value → HI l → Prop
  | [], _, _ => True
  | t :: l, vs, x => ∃ v vs', vs = v :: vs' ∧ (∃ us, ValC t.1 us v ∧ us.length = t.2.n ∧ RepU z O w w' t.2 us x.1) ∧ RepV z O w w' l vs' x.2
def RepR (z : Prop) (O : Nat → Prop) (base : Nat) (w : World) : (l : List (Bool × OT)) → List Value → HO l → List Nat → Prop
  | [], vs, _, bs => vs = [] ∧ bs = []
  | t :: l, vs, x, bs => ∃ v vs' b1 b2, vs = v :: vs' ∧ bs = b1 ++ b2 ∧ (∀ b, b ∈ b1 → b ∉ b2) ∧ (∃ us, ValC t.1 us v ∧ RepO z O base w t.2 us x.1 b1) ∧ RepR z O base w l vs' x.2 b2
/-- the value that a function returns -/
def retV : List Value → Value
  | [v] => v
  | l => .tuple l.toArray

/-- a contract: parameters, results; sh: the results may share the parameters' memory; upd: what becomes of the parameters that may be written; eat: these are taken over by the callee, and the caller has them no more -/
structure Con where
  ins : List (Bool × IT)
  outs : List (Bool × OT)
  sh : Bool
  pre : HI ins → Prop
  out : HI ins → HO outs
  upd : HI ins → HI ins
  eat : Bool

/-- what holds behind a call that leaves the parameters to the caller -/
def PostC (k : Con) (z : Prop) (O : Nat → Prop) (w : World) (args : List Value) (x : HI k.ins) (bs : List Nat) (e : Ending) (w' : World) : Prop :=
  ∃ vs bs', e = .returned (retV vs) ∧ RepR z (fun b => O b ∨ b ∈ bs') w.heap.size w' k.outs vs (k.out x) bs' ∧
    RepV (k.sh = true ∧ z) (fun b => (if k.sh then O b else b ∈ bs) ∨ b ∈ bs') w w' k.ins args (k.upd x) ∧ BelowM (fun b => b ∈ bs) w w'
/-- what holds behind a call that takes them over -/
def PostE (k : Con) (z : Prop) (O : Nat → Prop) (w : World) (x : HI k.ins) (bs : List Nat) (e : Ending) (w' : World) : Prop :=
  ∃ vs bs', e = .returned (retV vs) ∧ RepR z (fun b => (O b ∧ b ∉ bs) ∨ b ∈ bs') 0 w' k.outs vs (k.out x) bs' ∧
    (∀ b, b ∈ bs' → w.heap.size ≤ b ∨ b ∈ bs) ∧ BelowM (fun b => b ∈ bs) w w'
def ConOk [B : Base] (P : Program) (f : Nat) (k : Con) : Prop :=
  (∃ fn c, P.funcs[f]? = some fn ∧ (fn.name == "runtime.NumGoroutine") = false ∧ fn.body = some c) ∧
  ∀ (z : Prop) (O : Nat → Prop) (w : World) (args : List Value) (x : HI k.ins) (bs : List Nat), OldOk w → (∀ b, b ∈ bs → B.W.heap.size ≤ b) → (∀ b, O b → b < w.heap.size) → (k.sh = false → ∀ b, b < w.heap.size → O b) → (∀ b, b ∈ bs → O b) → RepA (k.sh = true ∧ z) (if k.sh then O else fun b => b ∈ bs) w k.ins args x bs → k.pre x →
    Calls P f args.toArray w fun e w' => match k.eat with | false => PostC k z O w args x bs e w' | true => PostE k z O w x bs e w'

/-- data read off abstract cells: slices of one's own are let read as well -/
def rdr (en : List (Nat × Ent)) : (t : TC) → List A1 → Option t.D
  | .i k, l => match l with | [.con (.int k' x)] => (bif kb k' k then some x else none) | _ => none
  | .b, l => match l with | [.con (.bool x)] => some x | _ => none
  | .s, l => match l with | [.con (.string x)] => some x | _ => none
  | .sl t, l => match l with
    | [.con (.slice none n m)] => (bif nb n 0 && nb m 0 then some [] else none)
    | [.ref k] => (match look k en with
      | some (.imm t' xs _) => (match teq t' t with | some ⟨h⟩ => some (castD h xs) | none => none)
      | some (.own _ t' xs _) => (match teq t' t with | some ⟨h⟩ => some (castD h xs) | none => none)
      | _ => none)
    | _ => none
  | .pr t u, l => match rdr en t (l.take t.n), rdr en u (l.drop t.n) with
    | some x, some y => some (x, y)
    | _, _ => none
  | .tw t u, l => match rdr en t (l.take t.n), rdr en u (l.drop t.n) with
    | some x, some y => some (x, y)
    | _, _ => none

theorem own_rep {c : Cx} {O1 : Nat → Prop} {ρ : Env} {w : World} {k e : Nat} {t : TC} {xs : List t.D} {fr : Bool} (h : EntOk c O1 ρ w k (.own e t xs fr)) {v : Value} (hv : ρ k = some v) : Rep False (fun _ => False) w (.sl t) [v] xs := by
  have hrow := fun i (hi : i < xs.length) => row_own h hi
  obtain ⟨v', cs, h1, h2, h3, _⟩ := h
  rw [hv] at h1; cases h1
  rcases h2.2 with ⟨rfl, h0⟩ | ⟨g, cap, cur, rfl, _, _, hnc, _⟩
  · have : xs = [] := List.eq_nil_of_length_eq_zero h0
    subst this
    exact ⟨none, 0, rfl, by simp, by simp, fun _ => rfl, fun _ _ => .inl rfl, .inl rfl⟩
  · refine ⟨_, cap, rfl, hnc, h3, by simp, fun h => h.elim, .inr ⟨g, 0, rfl, by simp, fun i x hx => ?_⟩⟩
    have hi : i < xs.length := (List.getElem?_eq_some_iff.1 hx).1
    obtain ⟨g', p, n, cap', us, r1, r2, r3, r4⟩ := hrow i hi
    rw [hv] at r1
    simp only [Option.some.injEq, Value.slice.injEq, Addr.mk.injEq, and_true] at r1
    obtain ⟨⟨rfl, rfl⟩, _⟩ := r1
    refine ⟨us, r2, r3, ?_⟩
    have : xs.getD i t.z = x := by simp [List.getD, hx]
    rw [this] at r4
    exact r4.move (fun h => h.elim) fun b _ _ => ⟨fun h => h, rfl⟩

theorem rdr_ok {c : Cx} {O1 : Nat → Prop} {ρ : Env} {w : World} {en : List (Nat × Ent)} (hen : ∀ k e, look k en = some e → EntOk c O1 ρ w k e) :
    ∀ (t : TC) (l : List A1) (vs : List Value) (x : t.D), DenL ρ l vs → rdr en t l = some x → Rep False (fun _ => False) w t vs x
  | .i k, l, vs, x, hd, h => by
    simp only [rdr] at h
    split at h
    · next k' y =>
      obtain ⟨v, us, rfl, h1, rfl⟩ := hd
      simp [den1] at h1; subst h1
      cases hk : kb k' k with
      | false => rw [hk] at h; cases h
      | true => rw [hk] at h; cases kb_eq hk; cases h; simp [Rep]
    · cases h
  | .b, l, vs, x, hd, h => by
    simp only [rdr] at h
    split at h
    · obtain ⟨v, us, rfl, h1, rfl⟩ := hd
      simp [den1] at h1; subst h1
      cases h; simp [Rep]
    · cases h
  | .s, l, vs, x, hd, h => by
    simp only [rdr] at h
    split at h
    · obtain ⟨v, us, rfl, h1, rfl⟩ := hd
      simp [den1] at h1; subst h1
      cases h; simp [Rep]
    · cases h
  | .sl t, l, vs, x, hd, h => by
    simp only [rdr] at h
    split at h
    · next n cap =>
      obtain ⟨v, us, rfl, h1, rfl⟩ := hd
      simp [den1] at h1; subst h1
      cases hn : nb n 0 && nb cap 0 with
      | false => rw [hn] at h; cases h
      | true =>
        rw [hn] at h; cases h
        simp only [Bool.and_eq_true] at hn
        have := eq_of_nb hn.1
        subst this
        have := eq_of_nb hn.2
        subst this
        exact ⟨none, 0, rfl, Nat.zero_le _, Nat.zero_le _, fun _ => rfl, fun _ _ => .inl rfl, .inl rfl⟩
    · next k =>
      obtain ⟨v, us, rfl, h1, rfl⟩ := hd
      simp only [den1] at h1
      split at h
      · next t' xs fr' hl =>
        split at h
        · next g _ =>
          subst g
          simp only [castD, cast_eq, Option.some.injEq] at h
          subst h
          obtain ⟨v', hv', hr⟩ := hen k _ hl
          rw [h1] at hv'
          cases hv'
          exact hr.move (fun h => h.elim) fun b _ _ => ⟨fun h => h, rfl⟩
        · cases h
      · next e t' xs fr' hl =>
        split at h
        · next g _ =>
          subst g
          simp only [castD, cast_eq, Option.some.injEq] at h
          subst h
          exact own_rep (hen k _ hl) h1
        · cases h
      · cases h
    · cases h
  | .pr t u, l, vs, x, hd, h => by
    simp only [rdr] at h
    split at h
    · next x1 x2 h1 h2 =>
      cases h
      exact ⟨_, _, (List.take_append_drop t.n vs).symm, rdr_ok hen t _ _ x1 (hd.take t.n) h1, rdr_ok hen u _ _ x2 (hd.drop t.n) h2⟩
    · cases h
  | .tw t u, l, vs, x, hd, h => by
    simp only [rdr] at h
    split at h
    · next x1 x2 h1 h2 =>
      cases h
      exact ⟨_, _, (List.take_append_drop t.n vs).symm, rdr_ok hen t _ _ x1 (hd.take t.n) h1, rdr_ok hen u _ _ x2 (hd.drop t.n) h2, fun k => k.elim⟩
    · cases h

/-- the cells of an argument, as its flag says -/
def argC (g : Bool) (y : AV) : Option (List A1) :=
  match g, y with
  | true, .agg l => some l
  | false, .one x => some [x]
  | _, _ => none
theorem argC_ok {ρ : Env} {g : Bool} {y : AV} {l : List A1} (h : argC g y = some l) {v : Value} (hv : Den ρ y v) : ∃ us, DenL ρ l us ∧ ValC g us v := by
  unfold argC at h
  split at h
  · cases h; obtain ⟨vs, h1, h2⟩ := hv; exact ⟨vs, h1, .inl ⟨rfl, h2⟩⟩
  · cases h; exact ⟨[v], ⟨v, [], rfl, hv, rfl⟩, .inr ⟨rfl, rfl⟩⟩
  · cases h
/-- results opened into abstract cells -/
def opnO (g : Bool) : (t : OT) → t.D → Nat → List A1 × List (Nat × Ent)
  | .v t, x, id => opn t x g id
  | .own e t, x, id => ([.ref id], [(id, .own e t x g)])
  | .bx t, x, id => ([.ref id], (id, .box (opn t x g (id + 1)).1) :: (opn t x g (id + 1)).2)
  | .mp h tk tv, x, id => ([.ref id], [(id, .mp h tk tv x)])
  | .bo t, x, id => ([.ref id], (id, .box (opnO g t x (id + 1)).1) :: (opnO g t x (id + 1)).2)
  | .pr t u, x, id => ((opnO g t x.1 id).1 ++ (opnO g u x.2 (id + t.nsl)).1, (opnO g t x.1 id).2 ++ (opnO g u x.2 (id + t.nsl)).2)
  | .tw t u, x, id => ((opnO g t x.1 id).1 ++ (opnO g u x.2 (id + t.nsl)).1, (opnO g t x.1 id).2 ++ ((opnO g u x.2 (id + t.nsl)).2 ++ [(id + t.nsl + u.nsl, bif g then .tw (opnO g t x.1 id).1 (opnO g u x.2 (id + t.nsl)).1 else .gone)]))
def opnR (g : Bool) : (l : List (Bool × OT)) → HO l → Nat → List (Bool × List A1) × List (Nat × Ent)
  | [], _, _ => ([], [])
  | t :: l, x, id => ((t.1, (opnO g t.2 x.1 id).1) :: (opnR g l x.2 (id + t.2.nsl)).1, (opnO g t.2 x.1 id).2 ++ (opnR g l x.2 (id + t.2.nsl)).2)
def nslR : List (Bool × OT) → Nat
  | [] => 0
  | t :: l => t.2.nsl + nslR l
def retA : List (Bool × List A1) → Option AV
  | [x] => comp x
  | l => some (.tup l)

/-- the entries of one's own that cells lead to -/
def ownRefs (en : List (Nat × Ent)) : List A1 → List Nat
  | [] => []
  | .ref k :: l => (match look k en with | some (.own _ _ _ _) => k :: ownRefs en l | _ => ownRefs en l)
  | _ :: l => ownRefs en l
theorem ownRefs_mem {en : List (Nat × Ent)} {k e : Nat} {t : TC} {xs : List t.D} {fr : Bool} (hk : look k en = some (.own e t xs fr)) : ∀ {l : List A1}, .ref k ∈ l → k ∈ ownRefs en l
  | [], h => by simp at h
  | a :: l, h => by
    rcases List.mem_cons.1 h with h | h
    · subst h; simp [ownRefs, hk]
    · have := ownRefs_mem hk h
      cases a with
      | ref k' =>
        simp only [ownRefs]
        split
        · exact List.mem_cons_of_mem _ this
        · exact this
      | con v => exact this
      | ptr k i n j => exact this

/-- one argument: its data, whether its memory is new; the entries that the call may write; those of one's own that it reads -/
structure RA (D : Type) where
  x : D
  g : Bool
  io : List Nat
  rd : List Nat
def argV (en : List (Nat × Ent)) (sh : Bool) (t : TC) (l : List A1) : Option (RA t.D) :=
  match sh with
  | true => (match cls en t l with | some y => some ⟨y.1, y.2, [], []⟩ | none => none)
  | false => (match rdr en t l with | some y => some ⟨y, true, [], ownRefs en l⟩ | none => none)
def argI (en : List (Nat × Ent)) (sh : Bool) : (t : IT) → List A1 → Option (RA t.D)
  | .v t, l => argV en sh t l
  | .own e t, l => (match l with
    | [.ref k] => (match look k en with
      | some (.own e' t' xs fr) => (match teq t' t with | some ⟨h⟩ => (bif nb e' e then some ⟨castD h xs, fr, [k], []⟩ else none) | none => none)
      | _ => none)
    | [.con (.slice none n m)] => (bif nb n 0 && nb m 0 then some ⟨[], true, [], []⟩ else none)
    | _ => none)
  | .bx t, l => (match l with
    | [.ref k] => (match look k en with
      | some (.box m) => (match argV en sh t m with | some r => some ⟨r.x, r.g, [k], r.rd⟩ | none => none)
      | _ => none)
    | _ => none)
  | .mp g tk tv, l => (match l with
    | [.ref k] => (match look k en with
      | some (.mp g' tk' tv' m) => (match teq tk' tk, teq tv' tv with
        | some ⟨h⟩, some ⟨h'⟩ => (bif eqb g' g && (nb tk.nsl 0 && nb tv.nsl 0) then some ⟨castM h h' m, true, [k], []⟩ else none)
        | _, _ => none)
      | _ => none)
    | _ => none)
  | .bo t, l => (match l with
    | [.ref k] => (match look k en with
      | some (.box m) => (match argI en sh t m with | some r => some ⟨r.x, r.g, k :: r.io, r.rd⟩ | none => none)
      | _ => none)
    | _ => none)
  | .k f, l => (match l with
    | [.con (.func (.func f') ⟨[]⟩ ⟨[]⟩)] => (bif nb f' f then some ⟨(), true, [], []⟩ else none)
    | _ => none)
  | .pr t u, l => (match argI en sh t (l.take t.n), argI en sh u (l.drop t.n) with
    | some a, some b => some ⟨(a.x, b.x), a.g && b.g, a.io ++ b.io, a.rd ++ b.rd⟩
    | _, _ => none)
def argA (S : St) (sh : Bool) : (l : List (Bool × IT)) → List Operand → Option (RA (HI l))
  | [], xs => match xs with | [] => some ⟨(), true, [], []⟩ | _ => none
  | t :: l, xs => match xs with
    | x :: xs => (match ((av S x).bind (argC t.1)).bind (argI S.en sh t.2), argA S sh l xs with
      | some a, some b => some ⟨(a.x, b.x), a.g && b.g, a.io ++ b.io, a.rd ++ b.rd⟩
      | _, _ => none)
    | [] => none

/-- the cells l of a box that has become the data x -/
def updB : (t : TC) → List A1 → t.D → List A1
  | .i k, _, x => [.con (.int k x)]
  | .b, _, x => [.con (.bool x)]
  | .s, _, x => [.con (.string x)]
  | .sl _, l, _ => l
  | .pr t u, l, x => updB t (l.take t.n) x.1 ++ updB u (l.drop t.n) x.2
  | .tw t u, l, x => updB t (l.take t.n) x.1 ++ updB u (l.drop t.n) x.2
/-- the same of a box whose parts may be written -/
def updBI : (t : IT) → List A1 → t.D → List A1
  | .v t, l, x => updB t l x
  | .pr t u, l, x => updBI t (l.take t.n) x.1 ++ updBI u (l.drop t.n) x.2
  | .own _ _, l, _ => l
  | .bx _, l, _ => l
  | .mp _ _ _, l, _ => l
  | .bo _, l, _ => l
  | .k _, l, _ => l
/-- the entries that a call has written -/
def updI (en : List (Nat × Ent)) (sh g : Bool) : (t : IT) → List A1 → t.D → List (Nat × Ent)
  | .own _ t, l, x => (match l with
    | [.ref k] => (match look k en with
      | some (.own e' t' _ fr) => (match teq t' t with | some ⟨h⟩ => [(k, .own e' t' (castD h.symm x) (bif sh then g else fr))] | none => [])
      | _ => [])
    | _ => [])
  | .bx t, l, x => (match l with
    | [.ref k] => (match look k en with
      | some (.box m) => [(k, .box (updB t m x))]
      | _ => [])
    | _ => [])
  | .mp h tk tv, l, x => (match l with
    | [.ref k] => [(k, .mp h tk tv x)]
    | _ => [])
  | .bo t, l, x => (match l with
    | [.ref k] => (match look k en with
      | some (.box m) => (k, .box (updBI t m x)) :: updI en sh g t m x
      | _ => [])
    | _ => [])
  | .pr t u, l, x => updI en sh g t (l.take t.n) x.1 ++ updI en sh g u (l.drop t.n) x.2
  | _, _, _ => []
def updA (S : St) (sh g : Bool) : (l : List (Bool × IT)) → List Operand → HI l → List (Nat × Ent)
  | [], _, _ => []
  | t :: l, xs, x => match xs with
    | y :: ys => (match (av S y).bind (argC t.1) with | some m => updI S.en sh g t.2 m x.1 | none => []) ++ updA S sh g l ys x.2
    | [] => []
/-- whether data that may be written holds no slices, where the results must not share memory -/
def flatI : IT → Bool
  | .own _ t => nb t.nsl 0
  | .bo t => flatI t
  | .pr t u => flatI t && flatI u
  | _ => true
def flatA : List (Bool × IT) → Bool
  | [] => true
  | t :: l => flatI t.2 && flatA l
def disj (l m : List Nat) : Bool := l.all fun k => !memb k m
end Go.Proofs.Ytgbfcjnkohhfoaa
