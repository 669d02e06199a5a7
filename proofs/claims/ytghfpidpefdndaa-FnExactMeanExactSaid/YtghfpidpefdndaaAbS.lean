/-
  The abstract machine: the text of a slice of bytes.
-/
import Derived.Test.YtghfpidpefdndaaAbM
import Derived.Laws.BytesArg
namespace Go.Proofs.Ytghfpidpefdndaa
open Go.RowKit

def aStr (C : Ctx) (S : St) (e : TypeId) (dst : TypeId) (x : Operand) (K : Dl → Prop) : Prop :=
  match look e C.ty, look dst C.ty, (av S x).bind (dataOf S (.i .u8)) with
  | some ⟨.int .u8, _, _⟩, some ⟨.str, _, _⟩, some (xs, _) => K1 K (.string (strOfNums xs))
  | _, _, _ => False
def aConv2 (C : Ctx) (S : St) (src dst : TypeId) (x : Operand) (K : Dl → Prop) : Prop :=
  match look src C.ty with
  | some ⟨.sl e, _, _⟩ => aStr C S e dst x K
  | _ => aConv C S src dst x K

theorem dataOf_row {c : Cx} {N O1 : Nat → Prop} {ρ : Env} {S : St} {a : Act} {w : World} (h : Conc c N O1 ρ S a w) {t : TC} {y : AV} {xs : List t.D} {fr : Bool} (hy : dataOf S t y = some (xs, fr)) {v : Value} (hv : Den ρ y v) :
    ∃ ad cap, v = .slice ad xs.length cap ∧ (xs = [] ∨ ∃ b p, ad = some ⟨b, p, none⟩ ∧ ∀ (i : Nat) (x : t.D), xs[i]? = some x → ∃ us : List Value, us.length = t.n ∧ (∀ (j : Nat) (u : Value), us[j]? = some u → w.cell? ⟨b, p + i * t.n + j, none⟩ = some u) ∧ Rep (fun _ => False) w t us x) := by
  have weak : ∀ {O : Nat → Prop} {us : List Value} {x : t.D}, Rep O w t us x → Rep (fun _ => False) w t us x := fun h => h.move fun b _ _ => ⟨fun h => h, rfl⟩
  unfold dataOf at hy
  split at hy
  · next n m =>
    cases hn : nb n 0 && nb m 0 with
    | false => rw [hn] at hy; cases hy
    | true =>
      rw [hn] at hy
      simp only [cond_true, Option.some.injEq, Prod.mk.injEq] at hy
      obtain ⟨rfl, _⟩ := hy
      simp only [Bool.and_eq_true] at hn
      have e1 := eq_of_nb hn.1
      have e2 := eq_of_nb hn.2
      subst e1; subst e2
      simp only [Den, den1, Option.some.injEq] at hv
      subst hv
      exact ⟨none, 0, rfl, .inl rfl⟩
  · next k =>
    simp only [Den, den1] at hv
    split at hy
    · next e t' xs' fr' hl =>
      split at hy
      · next g _ =>
        subst g
        simp only [castD, cast_eq, Option.some.injEq, Prod.mk.injEq] at hy
        obtain ⟨rfl, _⟩ := hy
        have hr := own_rep (h.en k _ hl) hv
        obtain ⟨ad, cap, h1, _, _, h2, h3⟩ := hr
        simp only [List.cons.injEq, and_true] at h1
        subst h1
        by_cases hx : xs' = []
        · exact ⟨ad, cap, rfl, .inl hx⟩
        · obtain ⟨b, off, rfl, _, hc⟩ := h3.resolve_left hx
          exact ⟨_, cap, rfl, .inr ⟨b, off, rfl, hc⟩⟩
      · cases hy
    · next t' xs' fr' hl =>
      split at hy
      · next g _ =>
        subst g
        simp only [castD, cast_eq, Option.some.injEq, Prod.mk.injEq] at hy
        obtain ⟨rfl, _⟩ := hy
        obtain ⟨v', g1, ad, cap, h1, _, _, h2, h3⟩ := h.en k _ hl
        rw [hv] at g1; cases g1
        simp only [List.cons.injEq, and_true] at h1
        subst h1
        by_cases hx : xs' = []
        · exact ⟨ad, cap, rfl, .inl hx⟩
        · obtain ⟨b, off, rfl, _, hc⟩ := h3.resolve_left hx
          exact ⟨_, cap, rfl, .inr ⟨b, off, rfl, fun i x hx => by obtain ⟨us, a1, a2, a3⟩ := hc i x hx; exact ⟨us, a1, a2, weak a3⟩⟩⟩
      · cases hy
    · cases hy
  · cases hy
theorem aStr_ok {C : Ctx} {c : Cx} (hC : CtxOk C c) {S : St} {i0 : Nat} {o : Oper} {src dst e : TypeId} {z : List Value} {tc : TC} (hs : look src C.ty = some ⟨.sl e, z, tc⟩) {x : Operand} {K : Dl → Prop} (ho : o.op = .convert src dst x) (h : aStr C S e dst x K) : ∃ δ, OpOk c S i0 o δ ∧ K δ := by
  unfold aStr at h
  split at h
  · next xs fr h1 h2 h3 =>
    have f0 := (hC.ty _ _ hs).fits
    have f1 := (hC.ty _ _ h1).fits
    have f2 := (hC.ty _ _ h2).fits
    rw [← hC.P] at f0 f1 f2
    simp only [TK.fits] at f0 f1 f2
    obtain ⟨y, hy, hd⟩ := Option.bind_eq_some_iff.1 h3
    refine ⟨_, ok_con (fun N O1 ρ a w hc => ?_), h⟩
    obtain ⟨ad, cap, hv, hr⟩ := dataOf_row hc hd (av_ok hc hy)
    have : (convert src dst (a.eval x)).run c.P w = .ok (.string (strOfNums xs)) w := by
      rw [hv]
      rcases hr with rfl | ⟨b, p, rfl, hr⟩
      · cases ad with
        | none => exact run_convert_bytes_nil w src e f0 f1 _ _ dst f2
        | some ad =>
          rw [run_convert_bytes_string w src dst e _ _ cap f0 f1 f2, run_bytesToString w ad _ cap [] (by simpa using run_loadCells_list (P := c.P) w ad [] (fun j v h => by simp at h))]
          rfl
      · refine run_convert_bytes_arg w src e f0 f1 b p xs.length cap xs rfl (fun i hi => ?_) dst f2
        obtain ⟨us, l1, l2, l3⟩ := hr i _ (List.getElem?_eq_getElem hi)
        simp only [Rep] at l3
        subst l3
        have := l2 0 _ rfl
        simp only [TC.n, Nat.mul_one, Nat.add_zero] at this
        rw [this]
        simp [List.getD, List.getElem?_eq_getElem hi]
    simp [execOp, ho, this]
  · exact h.elim
theorem aConv2_ok {C : Ctx} {c : Cx} (hC : CtxOk C c) {S : St} {i0 : Nat} {o : Oper} {src dst : TypeId} {x : Operand} {K : Dl → Prop} (ho : o.op = .convert src dst x) (h : aConv2 C S src dst x K) : ∃ δ, OpOk c S i0 o δ ∧ K δ := by
  unfold aConv2 at h
  split at h
  · next hs => exact aStr_ok hC hs ho h
  · exact aConv_ok hC ho h
end Go.Proofs.Ytghfpidpefdndaa
