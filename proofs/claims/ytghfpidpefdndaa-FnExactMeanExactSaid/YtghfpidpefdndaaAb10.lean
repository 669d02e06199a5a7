/-
  The abstract machine, part 10: parts of slices and strings, len, min, max.
-/
import Derived.Test.YtghfpidpefdndaaAb9
namespace Go.Proofs.Ytghfpidpefdndaa
open Go.RowKit

/-- the integer of an operand that may be left out -/
def oi (S : St) (d : Int) : Option Operand → Option Int
  | none => some d
  | some x => match cv S x with | some (.int _ z) => some z | _ => none
theorem bound_run {P : Program} {w : World} (k : IntKind) (i : Int) (y : Nat) (code : BoundsCode) (h0 : 0 ≤ i) (h1 : i ≤ y) : (Instr.sliceBound (.int k i) y code).run P w = .ok i.toNat w := by
  simp [Instr.sliceBound, asIntOf, h0, h1]
theorem bounds_run {c : Cx} {N O1 : Nat → Prop} {ρ : Env} {S : St} {a : Act} {w : World} (hc : Conc c N O1 ρ S a w) (b : Bool) (n cap : Nat) {lo hi mx : Option Operand} {l h m : Int} (hlo : oi S 0 lo = some l) (hhi : oi S n hi = some h)
    (hmx : oi S cap mx = some m) (hno : mx.isSome = true → hi.isSome = true) (h0 : 0 ≤ l) (h1 : l ≤ h) (h2 : h ≤ m) (h3 : m ≤ cap) :
    (Instr.sliceBounds b n cap (lo.map a.eval) (hi.map a.eval) (mx.map a.eval)).run c.P w = .ok (l.toNat, h.toNat, m.toNat) w := by
  have val : ∀ {x : Operand} {d z : Int}, oi S d (some x) = some z → ∃ k, a.eval x = .int k z := by
    intro x d z hx
    simp only [oi] at hx
    split at hx
    · next k z' hz => cases hx; exact ⟨k, cv_ok hc hz⟩
    · cases hx
  have em : (m.toNat : Int) = m := Int.toNat_of_nonneg (by omega)
  have eh : (h.toNat : Int) = h := Int.toNat_of_nonneg (by omega)
  cases mx with
  | none =>
    simp only [oi, Option.some.injEq] at hmx
    subst hmx
    cases hi with
    | none =>
      simp only [oi, Option.some.injEq] at hhi
      subst hhi
      cases lo with
      | none => simp only [oi, Option.some.injEq] at hlo; subst hlo; simp [Instr.sliceBounds]
      | some x => obtain ⟨k, hk⟩ := val hlo; simp [Instr.sliceBounds, hk, bound_run k l n _ h0 h1]
    | some y =>
      obtain ⟨k', hk'⟩ := val hhi
      cases lo with
      | none => simp only [oi, Option.some.injEq] at hlo; subst hlo; simp [Instr.sliceBounds, hk', bound_run k' h cap _ (by omega) h2]
      | some x => obtain ⟨k, hk⟩ := val hlo; simp [Instr.sliceBounds, hk, hk', bound_run k' h cap _ (by omega) h2, bound_run k l h.toNat _ h0 (by omega)]
  | some z =>
    obtain ⟨k2, hk2⟩ := val hmx
    cases hi with
    | none => simp at hno
    | some y =>
      obtain ⟨k', hk'⟩ := val hhi
      cases lo with
      | none => simp only [oi, Option.some.injEq] at hlo; subst hlo; simp [Instr.sliceBounds, hk', hk2, bound_run k2 m cap _ (by omega) h3, bound_run k' h m.toNat _ (by omega) (by omega)]
      | some x => obtain ⟨k, hk⟩ := val hlo; simp [Instr.sliceBounds, hk, hk', hk2, bound_run k2 m cap _ (by omega) h3, bound_run k' h m.toNat _ (by omega) (by omega), bound_run k l h.toNat _ h0 (by omega)]

def okMx (hi mx : Option Operand) : Bool := match mx with | none => true | some _ => hi.isSome
def aSlice (C : Ctx) (S : St) (i0 : Nat) (t : TypeId) (x : Operand) (lo hi mx : Option Operand) (K : Dl → Prop) : Prop :=
  match look t C.ty, av S x with
  | some ⟨.str, _, _⟩, some (.one (.con (.string s))) => (match oi S 0 lo, oi S s.size hi, mx with
    | some l, some h, none => (0 ≤ l ∧ l ≤ h ∧ h ≤ s.size) ∧ K1 K (.string (s.extract l.toNat h.toNat))
    | _, _, _ => False)
  | some ⟨.sl _, _, _⟩, some (.one (.ref k)) => (match look k S.en with
    | some (.imm tc xs fr) => (match oi S 0 lo, oi S xs.length hi, oi S xs.length mx with
      | some l, some h, some m => (bif elemOk C t tc.n && okMx hi mx then (0 ≤ l ∧ l ≤ h ∧ h ≤ m ∧ m ≤ xs.length) ∧ K ⟨.one (.ref i0), [(i0, .imm tc ((xs.take h.toNat).drop l.toNat) fr)]⟩ else False)
      | _, _, _ => False)
    | _ => False)
  | _, _ => False

theorem aSlice_ok {C : Ctx} {c : Cx} (hC : CtxOk C c) {S : St} {i0 : Nat} {o : Oper} {t : TypeId} {x : Operand} {lo hi mx : Option Operand} {K : Dl → Prop} (ho : o.op = .slice t x lo hi mx) (h : aSlice C S i0 t x lo hi mx K) : ∃ δ, OpOk c S i0 o δ ∧ K δ := by
  unfold aSlice at h
  split at h
  · next z tc s ht hx =>
    split at h
    · next l h' hlo hhi =>
      have hP := (hC.ty t _ ht).fits
      rw [← hC.P] at hP
      simp only [TK.fits] at hP
      obtain ⟨⟨h0, h1, h2⟩, hK⟩ := h
      refine ⟨_, ok_con fun N O1 ρ a w hc => ?_, hK⟩
      have hxv := av_ok hc hx
      simp only [Den, den1, Option.some.injEq] at hxv
      have hb := bounds_run hc false s.size s.size hlo hhi (mx := none) (m := s.size) rfl (by simp) h0 h1 h2 (Int.le_refl _)
      simp only [Option.map_none] at hb
      simp [execOp, ho, ← hxv, Instr.sliceAt, Instr.slice, run_underlying hP, hb]
    · exact h.elim
  · next e z tc' k ht hx =>
    split at h
    · next tc xs fr hl =>
      split at h
      · next l h' m hlo hhi hmx =>
        cases hb : elemOk C t tc.n && okMx hi mx with
        | false => rw [hb] at h; exact h.elim
        | true =>
          rw [hb] at h
          simp only [Bool.and_eq_true] at hb
          obtain ⟨⟨h0, h1, h2, h3⟩, hK⟩ := h
          refine ⟨_, ⟨fun k e he => by simp at he; exact .inl (by omega), fun N O1 ρ a w hc hf next Q hn => ?_⟩, hK⟩
          obtain ⟨e', hu, hs⟩ := elemOk_ok hC hb.1
          obtain ⟨v, hv, ad, cap, hva, hl1, hl2, hl3, hl4⟩ := hc.en k _ hl
          simp only [List.cons.injEq, and_true] at hva
          subst hva
          have hxv := av_ok hc hx
          simp only [Den, den1, hv, Option.some.injEq] at hxv
          -- the bound that is left out is the capacity
          obtain ⟨m', hm1, hm2, hm3⟩ : ∃ m' : Int, oi S cap mx = some m' ∧ h' ≤ m' ∧ m' ≤ cap := by
            cases mx with
            | none => exact ⟨cap, rfl, by omega, Int.le_refl _⟩
            | some y => exact ⟨m, by simpa [oi] using hmx, h2, by omega⟩
          have hbr := bounds_run hc true xs.length cap hlo hhi hm1 (by intro hm; cases mx <;> simp_all [okMx]) h0 h1 hm2 hm3
          have hrun : (execOp a.eval o).run c.P w = .ok (.value (.slice (if m'.toNat = l.toNat then ad else ad.map (·.add (l.toNat * tc.n))) (h'.toNat - l.toNat) (m'.toNat - l.toNat))) w := by
            simp [execOp, ho, ← hxv, Instr.sliceAt, Instr.slice, run_underlying hu, hbr, hs]
          have hlen : ((xs.take h'.toNat).drop l.toNat).length = h'.toNat - l.toNat := by simp; omega
          have hrep : Rep (offs c O1 fr) w (.sl tc) [.slice (if m'.toNat = l.toNat then ad else ad.map (·.add (l.toNat * tc.n))) (h'.toNat - l.toNat) (m'.toNat - l.toNat)] ((xs.take h'.toNat).drop l.toNat) := by
            refine ⟨_, _, by rw [hlen], by rw [hlen]; omega, by rw [hlen]; omega, ?_, ?_⟩
            · intro hn
              have : ad = none := by split at hn <;> simp_all
              have := hl3 this
              omega
            · by_cases hml : m'.toNat = l.toNat
              · exact .inl (List.eq_nil_of_length_eq_zero (by rw [hlen]; omega))
              · rcases hl4 with rfl | ⟨b, off, rfl, hb1, hb2⟩
                · exact .inl (by simp)
                · refine .inr ⟨b, off + l.toNat * tc.n, ?_, hb1, fun i x hx => ?_⟩
                  · rw [if_neg hml]
                    simp only [Option.map_some, Addr.add]
                    split
                    · next h0 => rw [h0]; rfl
                    · rfl
                  · have hx' : xs[l.toNat + i]? = some x := by
                      rw [List.getElem?_drop, List.getElem?_take] at hx
                      split at hx
                      · exact hx
                      · cases hx
                    obtain ⟨us, u1, u2, u3⟩ := hb2 _ x hx'
                    refine ⟨us, u1, fun j v hv => ?_, u3⟩
                    rw [← u2 j v hv]
                    congr 2
                    rw [Nat.add_mul]; omega
          obtain ⟨ρ', hd, hst⟩ := step_opn (t := .sl tc) hc hf hrep (by simp [TC.nsl])
          obtain ⟨v', us, hvu, hd1, rfl⟩ := hd
          simp only [List.cons.injEq, and_true] at hvu
          unfold Oper.wp
          rw [hrun, Oper.upon_value]
          exact hn O1 ρ' _ w (by rw [hvu]; exact hd1) hst
      · exact h.elim
    · exact h.elim
  · exact h.elim

def aLen (C : Ctx) (S : St) (t : TypeId) (x : Operand) (K : Dl → Prop) : Prop :=
  match look t C.ty, av S x with
  | some ⟨.str, _, _⟩, some (.one (.con (.string s))) => K1 K (.int .i64 s.size)
  | some ⟨.sl _, _, _⟩, some (.one (.con (.slice none n _))) => K1 K (.int .i64 n)
  | some ⟨.sl _, _, _⟩, some (.one (.ref k)) => (match lenOf S k with | some (_, n) => K1 K (.int .i64 n) | none => False)
  | _, _ => False
theorem aLen_ok {C : Ctx} {c : Cx} (hC : CtxOk C c) {S : St} {i0 : Nat} {o : Oper} {t : TypeId} {x : Operand} {K : Dl → Prop} (ho : o.op = .call { callee := .builtin .len, args := #[x], argTypes := #[t] }) (h : aLen C S t x K) : ∃ δ, OpOk c S i0 o δ ∧ K δ := by
  unfold aLen at h
  split at h
  · next z tc s ht hx =>
    have hP := (hC.ty t _ ht).fits
    rw [← hC.P] at hP
    simp only [TK.fits] at hP
    refine ⟨_, ok_con fun N O1 ρ a w hc => ?_, h⟩
    have hxv := av_ok hc hx
    simp only [Den, den1, Option.some.injEq] at hxv
    simp [execOp, ho, resolve, invoke, builtin, ← hxv, Builtin.len_, run_underlying hP, goInt]
  · next e z tc n m ht hx =>
    have hP := (hC.ty t _ ht).fits
    rw [← hC.P] at hP
    simp only [TK.fits] at hP
    refine ⟨_, ok_con fun N O1 ρ a w hc => ?_, h⟩
    have hxv := av_ok hc hx
    simp only [Den, den1, Option.some.injEq] at hxv
    simp [execOp, ho, resolve, invoke, builtin, ← hxv, Builtin.len_, run_underlying hP, goInt]
  · next e z tc k ht hx =>
    split at h
    · next tc' n hl =>
      have hP := (hC.ty t _ ht).fits
      rw [← hC.P] at hP
      simp only [TK.fits] at hP
      refine ⟨_, ok_con fun N O1 ρ a w hc => ?_, h⟩
      obtain ⟨ad, cap, hv, _⟩ := lenOf_ok hc hl
      have hxv := av_ok hc hx
      simp only [Den, den1, hv, Option.some.injEq] at hxv
      simp [execOp, ho, resolve, invoke, builtin, ← hxv, Builtin.len_, run_underlying hP, goInt]
    · exact h.elim
  · exact h.elim

def aMM (S : St) (mx : Bool) (x y : Operand) (K : Dl → Prop) : Prop :=
  match cv S x, cv S y with
  | some (.int k a), some (.int _ b) => K1 K (.int k (if mx then max a b else min a b))
  | _, _ => False
theorem aMax_ok {c : Cx} {S : St} {i0 : Nat} {o : Oper} {ts : Array TypeId} {x y : Operand} {K : Dl → Prop} (ho : o.op = .call { callee := .builtin .max, args := #[x, y], argTypes := ts }) (h : aMM S true x y K) : ∃ δ, OpOk c S i0 o δ ∧ K δ := by
  unfold aMM at h
  split at h
  · next k a k' b hx hy =>
    refine ⟨_, ok_con fun N O1 ρ ac w hc => ?_, h⟩
    have e : (if b > a then b else a) = max a b := by rw [Int.max_def]; split <;> split <;> omega
    simp [execOp, ho, resolve, invoke, builtin, cv_ok hc hx, cv_ok hc hy, Builtin.max_, Builtin.max2]
    omega
  · exact h.elim
theorem aMin_ok {c : Cx} {S : St} {i0 : Nat} {o : Oper} {ts : Array TypeId} {x y : Operand} {K : Dl → Prop} (ho : o.op = .call { callee := .builtin .min, args := #[x, y], argTypes := ts }) (h : aMM S false x y K) : ∃ δ, OpOk c S i0 o δ ∧ K δ := by
  unfold aMM at h
  split at h
  · next k a k' b hx hy =>
    refine ⟨_, ok_con fun N O1 ρ ac w hc => ?_, h⟩
    simp [execOp, ho, resolve, invoke, builtin, cv_ok hc hx, cv_ok hc hy, Builtin.min_, Builtin.min2]
    omega
  · exact h.elim
end Go.Proofs.Ytghfpidpefdndaa
