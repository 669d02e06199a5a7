/-
  The abstract machine, part 8: slices: literals, make, parts, append; the builtin functions.
  The abstract machine, part 9: slice literals, make, parts of slices and strings, the builtin functions len, min, max.
-/
import Derived.Test.YtgbfcjnkohhfoaaAb5
namespace Go.Proofs.Ytgbfcjnkohhfoaa
open Go.RowKit

/-- the data of a slice operand whose elements have code t -/
def dataOf (S : St) (t : TC) : AV → Option (List t.D × Bool)
  | .one (.con (.slice none n m)) => bif nb n 0 && nb m 0 then some ([], true) else none
  | .one (.ref k) => (match look k S.en with
    | some (.own _ t' xs fr) => (match teq t' t with | some ⟨h⟩ => some (castD h xs, fr) | none => none)
    | some (.imm t' xs fr) => (match teq t' t with | some ⟨h⟩ => some (castD h xs, fr) | none => none)
    | _ => none)
  | _ => none

/-- a flat row of cells that are the data ys -/
def Flat (z : Prop) (O : Nat → Prop) (w : World) (t : TC) (b off : Nat) (ys : List t.D) (news : List Value) : Prop :=
  news.length = ys.length * t.n ∧ (∀ (j : Nat) (u : Value), news[j]? = some u → w.cell? ⟨b, off + j, none⟩ = some u) ∧ (∀ u ∈ news, u.oneCell' = true) ∧
    ∀ (i : Nat) (y : t.D), ys[i]? = some y → Rep z O w t ((news.drop (i * t.n)).take t.n) y
theorem flat_make {z : Prop} {O : Nat → Prop} {w : World} {t : TC} {b : Nat} : ∀ (ys : List t.D) (off : Nat),
    (∀ (i : Nat) (x : t.D), ys[i]? = some x → ∃ us : List Value, us.length = t.n ∧ (∀ (j : Nat) (v : Value), us[j]? = some v → w.cell? ⟨b, off + i * t.n + j, none⟩ = some v) ∧ Rep z O w t us x) →
    ∃ news, Flat z O w t b off ys news
  | [], off, _ => ⟨[], by simp, by simp, by simp, by simp⟩
  | y :: ys, off, h => by
    obtain ⟨us, hl, hc, hr⟩ := h 0 y rfl
    obtain ⟨news, h1, h2, h3, h4⟩ := flat_make ys (off + t.n) (fun i x hx => by
      obtain ⟨us, a, b, c⟩ := h (i + 1) x (by simpa using hx)
      refine ⟨us, a, fun j v hv => ?_, c⟩
      rw [← b j v hv]; congr 2; rw [Nat.add_mul]; omega)
    refine ⟨us ++ news, by simp [hl, h1, Nat.add_mul]; omega, fun j u hj => ?_, ?_, fun i y' hy => ?_⟩
    · by_cases hlt : j < us.length
      · rw [List.getElem?_append_left hlt] at hj
        have := hc j u hj
        simpa using this
      · rw [List.getElem?_append_right (by omega)] at hj
        have := h2 _ u hj
        rw [← this]; congr 2; omega
    · intro u hu
      rcases List.mem_append.1 hu with hu | hu
      · exact hr.one u hu
      · exact h3 u hu
    · cases i with
      | zero =>
        simp at hy; subst hy
        rw [Nat.zero_mul, List.drop_zero, ← hl, List.take_left' rfl]
        exact hr
      | succ i =>
        have := h4 i y' (by simpa using hy)
        have e : ((us ++ news).drop ((i + 1) * t.n)) = news.drop (i * t.n) := by
          rw [show (i + 1) * t.n = us.length + i * t.n by rw [hl, Nat.add_mul]; omega, List.drop_append]
          simp
        rw [e]; exact this

theorem dataOf_ok {c : Cx} {N O1 : Nat → Prop} {ρ : Env} {S : St} {a : Act} {w : World} (h : Conc c N O1 ρ S a w) {t : TC} {y : AV} {ys : List t.D} {fr : Bool} (hy : dataOf S t y = some (ys, fr)) {v : Value} (hv : Den ρ y v) :
    ∃ ad cap, v = .slice ad ys.length cap ∧ ys.length ≤ LB ∧ ys.length ≤ cap ∧ ((ad = none ∧ ys = [] ∧ cap = 0) ∨ ∃ a', ad = some a' ∧ (ys = [] ∨ ∃ b off news, a' = ⟨b, off, none⟩ ∧ Flat (zs c fr) (offs c O1 fr) w t b off ys news)) := by
  unfold dataOf at hy
  split at hy
  · next n m =>
    cases hn : nb n 0 && nb m 0 with
    | false => rw [hn] at hy; cases hy
    | true =>
      rw [hn] at hy; cases hy
      simp only [Bool.and_eq_true] at hn
      have e1 := eq_of_nb hn.1
      have e2 := eq_of_nb hn.2
      subst e1; subst e2
      simp only [Den, den1, Option.some.injEq] at hv
      exact ⟨none, 0, hv.symm, by simp, by simp, .inl ⟨rfl, rfl, rfl⟩⟩
  · next k =>
    simp only [Den, den1] at hv
    split at hy
    · next e t' xs fr' he =>
      split at hy
      · next g _ =>
        subst g
        simp only [castD, cast_eq, Option.some.injEq, Prod.mk.injEq] at hy
        obtain ⟨rfl, rfl⟩ := hy
        have hrow := fun i (hi : i < xs.length) => row_own (h.en k _ he) hi
        obtain ⟨v', cs, h1, h2, h3, _⟩ := h.en k _ he
        rw [hv] at h1; cases h1
        rcases h2.2 with ⟨rfl, h0⟩ | ⟨g, cap, cur, rfl, _, _, hnc, _⟩
        · have : xs = [] := List.eq_nil_of_length_eq_zero h0
          subst this
          exact ⟨none, 0, rfl, by simp, by simp, .inl ⟨rfl, rfl, rfl⟩⟩
        · refine ⟨_, cap, rfl, h3, hnc, .inr ⟨_, rfl, .inr ?_⟩⟩
          obtain ⟨news, hf⟩ := flat_make (O := offs c O1 fr') (w := w) (b := g) xs 0 (fun i x hx => by
            have hi : i < xs.length := (List.getElem?_eq_some_iff.1 hx).1
            obtain ⟨g', p, n, cap', us, r1, r2, r3, r4⟩ := hrow i hi
            rw [hv] at r1
            simp only [Option.some.injEq, Value.slice.injEq, Addr.mk.injEq, and_true] at r1
            obtain ⟨⟨rfl, rfl⟩, _⟩ := r1
            refine ⟨us, r2, r3, ?_⟩
            simpa [List.getD, hx] using r4)
          exact ⟨g, 0, news, rfl, hf⟩
      · cases hy
    · next t' xs fr' he =>
      split at hy
      · next g _ =>
        subst g
        simp only [castD, cast_eq, Option.some.injEq, Prod.mk.injEq] at hy
        obtain ⟨rfl, rfl⟩ := hy
        obtain ⟨v', h1, ad, cap, hv', h2, h3, h4, _, h5⟩ := h.en k _ he
        rw [hv] at h1; cases h1
        simp only [List.cons.injEq, and_true] at hv'
        subst hv'
        refine ⟨ad, cap, rfl, h3, h2, ?_⟩
        rcases h5 with rfl | ⟨b, off, rfl, _, hc⟩
        · cases ad with
          | none => exact .inl ⟨rfl, rfl, h4 rfl⟩
          | some a' => exact .inr ⟨a', rfl, .inl rfl⟩
        · obtain ⟨news, hf⟩ := flat_make xs off hc
          exact .inr ⟨_, rfl, .inr ⟨b, off, news, rfl, hf⟩⟩
      · cases hy
    · cases hy
  · cases hy

/-- the slice that is appended to -/
def baseOf (S : St) (e : Nat) (t : TC) : AV → Option (List t.D × Bool × List (Nat × Ent))
  | .one (.con (.slice none n m)) => bif nb n 0 && nb m 0 then some ([], true, []) else none
  | .one (.ref k) => (match look k S.en with
    | some (.own e' t' xs fr) => (match teq t' t with | some ⟨h⟩ => (bif nb e' e then some (castD h xs, fr, [(k, .gone)]) else none) | none => none)
    | _ => none)
  | _ => none
theorem baseOf_ok {c : Cx} {N O1 : Nat → Prop} {ρ : Env} {S : St} {a : Act} {w : World} (h : Conc c N O1 ρ S a w) {e : Nat} {t : TC} {y : AV} {xs : List t.D} {fr : Bool} {L : List (Nat × Ent)} (hy : baseOf S e t y = some (xs, fr, L)) {v : Value} (hv : Den ρ y v) :
    ∃ cs, w.ownsRow 0 e t.n v xs.length cs ∧ (∀ b, blkOf v = some b → O1 b) ∧ (∀ (i : Nat) (x : t.D), xs[i]? = some x → Rep (zs c fr) (offs c O1 fr) w t ((cs.drop (i * t.n)).take t.n) x) ∧
      ((L = [] ∧ blkOf v = none) ∨ ∃ k, L = [(k, .gone)] ∧ ρ k = some v ∧ ∃ e0, look k S.en = some e0 ∧ isOwn e0 = true) := by
  unfold baseOf at hy
  split at hy
  · next n m =>
    cases hn : nb n 0 && nb m 0 with
    | false => rw [hn] at hy; cases hy
    | true =>
      rw [hn] at hy; cases hy
      simp only [Bool.and_eq_true] at hn
      have e1 := eq_of_nb hn.1
      have e2 := eq_of_nb hn.2
      subst e1; subst e2
      simp only [Den, den1, Option.some.injEq] at hv
      subst hv
      exact ⟨[], World.ownsRow_nil w 0 e t.n, by simp [blkOf], by simp, .inl ⟨rfl, rfl⟩⟩
  · next k =>
    simp only [Den, den1] at hv
    split at hy
    · next e' t' xs' fr' he =>
      split at hy
      · next g _ =>
        subst g
        cases hb : nb e' e with
        | false => rw [hb] at hy; cases hy
        | true =>
          rw [hb] at hy
          simp only [castD, cast_eq, cond_true, Option.some.injEq, Prod.mk.injEq] at hy
          obtain ⟨rfl, rfl, rfl⟩ := hy
          have := eq_of_nb hb
          subst this
          obtain ⟨v', cs, h1, h2, h3, h4, h5⟩ := h.en k _ he
          rw [hv] at h1; cases h1
          exact ⟨cs, h2, h4, h5, .inr ⟨k, rfl, hv, _, he, rfl⟩⟩
      · cases hy
    · cases hy
  · cases hy

theorem baseOf_up {S : St} {e : Nat} {t : TC} {y : AV} {xs : List t.D} {fr : Bool} {L : List (Nat × Ent)} (hy : baseOf S e t y = some (xs, fr, L)) {k : Nat} {e' : Ent} (he : (k, e') ∈ L) : ∃ e0, look k S.en = some e0 ∧ isOwn e0 = true := by
  unfold baseOf at hy
  split at hy
  · next n m =>
    cases hn : nb n 0 && nb m 0 with
    | false => rw [hn] at hy; cases hy
    | true =>
      rw [hn] at hy
      simp only [cond_true, Option.some.injEq, Prod.mk.injEq] at hy
      rw [← hy.2.2] at he
      simp at he
  · next k' =>
    split at hy
    · next e1 t1 xs1 fr1 he1 =>
      split at hy
      · cases hbe : nb e1 e with
        | false => rw [hbe] at hy; cases hy
        | true =>
          rw [hbe] at hy
          simp only [cond_true, Option.some.injEq, Prod.mk.injEq] at hy
          rw [← hy.2.2] at he
          simp at he
          rw [he.1]
          exact ⟨_, he1, rfl⟩
      · cases hy
    · cases hy
  · cases hy
theorem own_blk {w : World} {base e size n : Nat} {v : Value} {xs : List Value} (h : w.ownsRow base e size v n xs) : v.ownBlock = blkOf v ∧ v.oneCell' = true ∧ ∀ b, blkOf v = some b → b < w.heap.size := by
  have hl := h.lt
  rcases h.2 with ⟨rfl, _⟩ | ⟨g, cap, cur, rfl, _⟩
  · exact ⟨rfl, rfl, by simp [blkOf]⟩
  · exact ⟨rfl, rfl, fun b hb => (hl b hb).2⟩

def aAppend (C : Ctx) (S : St) (i0 : Nat) (t : TypeId) (x y : Operand) (K : Dl → Prop) : Prop :=
  match look t C.ty with
  | some ⟨.sl e, _, _⟩ => (match look e C.ty with
    | some ti => (bif nb ti.z.length ti.tc.n && ti.okz then
        (match (av S x).bind (baseOf S e ti.tc), (av S y).bind (dataOf S ti.tc) with
        | some (xs, fr, L), some (ys, fr') => xs.length + ys.length ≤ AB ∧ K ⟨.one (.ref i0), (i0, .own e ti.tc (xs ++ ys) (bif nb ti.tc.nsl 0 then true else fr && fr')) :: L⟩
        | _, _ => False) else False)
    | none => False)
  | _ => False

theorem fr_weak {c : Cx} {O1 : Nat → Prop} {f g : Bool} (h : g = true → f = true) {b : Nat} (hn : ¬ offs c O1 f b) : ¬ offs c O1 g b := by
  simp only [offs, not_or, not_and] at hn ⊢
  exact ⟨hn.1, fun hg => hn.2 (h hg)⟩

theorem aAppend_ok [B : Base] {C : Ctx} {c : Cx} (hC : CtxOk C c) {S : St} {i0 : Nat} {o : Oper} {t u : TypeId} {x y : Operand} {K : Dl → Prop} (ho : o.op = .call { callee := .builtin .append, args := #[x, y], argTypes := #[t, u] }) (hu : t = u) (h : aAppend C S i0 t x y K) : ∃ δ, OpOk c S i0 o δ ∧ K δ := by
  subst hu
  unfold aAppend at h
  split at h
  · next e z' tc' ht =>
    split at h
    · next ti hte =>
      cases hb : nb ti.z.length ti.tc.n && ti.okz with
      | false => rw [hb] at h; exact h.elim
      | true =>
        rw [hb] at h
        simp only [cond_true] at h
        simp only [Bool.and_eq_true] at hb
        have hn := eq_of_nb hb.1
        split at h
        · next xs fr L ys fr' hx hy =>
          obtain ⟨hlen, hK⟩ := h
          have hlen0 := hlen
          have hlen : xs.length + ys.length ≤ LB := by unfold AB at hlen0; unfold LB; omega
          obtain ⟨yx, hyx, hxb⟩ := Option.bind_eq_some_iff.1 hx
          obtain ⟨yy, hyy, hyd⟩ := Option.bind_eq_some_iff.1 hy
          refine ⟨_, ⟨fun k e' he => ?_, fun N O1 ρ a w hc hf next Q hnx => ?_⟩, hK⟩
          · simp at he
            rcases he with ⟨rfl, _⟩ | he
            · exact .inl ⟨Nat.le_refl _, by omega⟩
            · exact .inr (baseOf_up hxb he)
          · have hP := (hC.ty t _ ht).fits
            have hE := hC.ty e _ hte
            rw [← hC.P] at hP hE
            simp only [TK.fits] at hP
            obtain ⟨i, hi, hz, hs, hby⟩ := hE.parts
            obtain ⟨hzc, _⟩ := okz_cells hb.2
            obtain ⟨cs, hown, hO, hrx, hL⟩ := baseOf_ok hc hxb (av_ok hc hyx)
            obtain ⟨ad, cap, hyv, hyl, hyc, had⟩ := dataOf_ok hc hyd (av_ok hc hyy)
            have hLB : LB ≤ maxLen := by unfold LB maxLen; omega
            have hbytes : (xs.length + ys.length) * i.bytes ≤ 140737488355328 := by
              have := Nat.mul_le_mul hlen0 hby
              unfold AB at this
              omega
            -- the row of what is appended
            obtain ⟨v', w', news, hrun, hown', hgrow, hwhere, hnews⟩ : ∃ v' w' news, (Builtin.append_ #[t, t] o.type #[a.eval x, a.eval y]).run c.P w = .ok v' w' ∧ w'.ownsRow 0 e ti.tc.n v' (xs.length + ys.length) (cs ++ news) ∧ w.grownBy w' (a.eval x).ownBlock ∧
                (v'.ownBlock = (a.eval x).ownBlock ∨ v'.ownBlock = some w.heap.size) ∧ (news.length = ys.length * ti.tc.n ∧ ∀ (i : Nat) (y : ti.tc.D), ys[i]? = some y → Rep (zs c fr') (offs c O1 fr') w ti.tc ((news.drop (i * ti.tc.n)).take ti.tc.n) y) := by
              rcases had with ⟨rfl, rfl, rfl⟩ | ⟨a', rfl, had⟩
              · have hr := run_append_owned_none (P := c.P) w 0 t o.type e i ti.tc.n hP hi (a.eval x) xs.length cs hown
                exact ⟨a.eval x, w, [], by rw [hyv]; exact hr, by simpa using hown, ⟨rfl, rfl, rfl, Nat.le_refl _, fun _ _ _ => rfl⟩, .inl rfl, by simp, by simp⟩
              · obtain ⟨news, h1, h2, h3, h4⟩ : ∃ news : List Value, news.length = ys.length * ti.tc.n ∧ (∀ j u, news[j]? = some u → w.cell? (a'.add j) = some u) ∧ (∀ u ∈ news, u.oneCell' = true) ∧
                    ∀ (i : Nat) (y : ti.tc.D), ys[i]? = some y → Rep (zs c fr') (offs c O1 fr') w ti.tc ((news.drop (i * ti.tc.n)).take ti.tc.n) y := by
                  rcases had with rfl | ⟨b, off, news, rfl, f1, f2, f3, f4⟩
                  · exact ⟨[], by simp, by simp, by simp, by simp⟩
                  · have ea : ∀ j, (⟨b, off, none⟩ : Addr).add j = ⟨b, off + j, none⟩ := fun j => by unfold Addr.add; split <;> simp_all
                    exact ⟨news, f1, fun j u hj => by rw [ea]; exact f2 j u hj, f3, f4⟩
                obtain ⟨v', w', hr, r1, r2, _, r3⟩ := run_append_own_at (P := c.P) w 0 t o.type e i ti.zv ti.tc.n i.bytes hP hi hz (by rw [hs, hn]) rfl (by rw [hzc]; simpa using hn) (TC.n_pos _) (a.eval x) xs.length cs hown a' ys.length cap news h1 h2 h3 (by omega) hbytes (Nat.zero_le _)
                exact ⟨v', w', news, by rw [hyv]; exact hr, r1, r2, r3, h1, h4⟩
            obtain ⟨ob, _, _⟩ := own_blk hown
            obtain ⟨ob', hv1, hlt'⟩ := own_blk hown'
            have hn0 : ρ i0 = none := hf i0 (Nat.le_refl _) (by omega)
            have hsame : ∀ b, b < w.heap.size → ¬ O1 b → w'.heap[b]? = w.heap[b]? := fun b hb hno =>
              hgrow.block b hb fun he => hno (hO b (by rw [← ob]; exact he.symm))
            have hmv : ∀ f : Bool, ((fr && fr') = true → f = true) → ∀ b, b < w.heap.size → ¬ offs c O1 f b → ¬ offs c (fun b => O1 b ∨ (w.heap.size ≤ b ∧ b < w'.heap.size)) (fr && fr') b ∧ w'.heap[b]? = w.heap[b]? := by
              intro f hff b hb hno
              have h1 := fr_weak hff hno
              simp only [offs, not_or] at h1 hno ⊢
              exact ⟨⟨⟨h1.1, by omega⟩, h1.2⟩, hsame b hb hno.1⟩
            have hL2 : ∀ b, blkOf (a.eval x) = some b → ∃ k' e' v', (k', e') ∈ (i0, Ent.own e ti.tc (xs ++ ys) (bif nb ti.tc.nsl 0 then true else fr && fr')) :: L ∧ ρ k' = some v' ∧ blkOf v' = some b := by
              intro b hb
              rcases hL with ⟨_, h0⟩ | ⟨k, rfl, hk, _⟩
              · rw [h0] at hb; cases hb
              · exact ⟨k, .gone, _, by simp, hk, hb⟩
            have hLg : ∀ k e', look k ((i0, Ent.own e ti.tc (xs ++ ys) (bif nb ti.tc.nsl 0 then true else fr && fr')) :: L) = some e' → (k = i0 ∧ e' = .own e ti.tc (xs ++ ys) (bif nb ti.tc.nsl 0 then true else fr && fr')) ∨ (k ≠ i0 ∧ e' = .gone) := by
              intro k e' he
              by_cases hk : i0 = k
              · subst hk; rw [look_cons_eq] at he; cases he; exact .inl ⟨rfl, rfl⟩
              · rw [look_cons_ne hk] at he
                rcases hL with ⟨rfl, _⟩ | ⟨k', rfl, _⟩
                · simp [look] at he
                · have := look_mem he
                  simp at this
                  exact .inr ⟨fun e => hk e.symm, this.2⟩
            have hrun' : (execOp a.eval o).run c.P w = .ok (.value v') w' := by
              simp [execOp, ho, resolve, invoke, builtin, hrun]
            unfold Oper.wp
            rw [hrun', Oper.upon_value]
            refine hnx (fun b => O1 b ∨ (w.heap.size ≤ b ∧ b < w'.heap.size)) (fun k => if k = i0 then some v' else ρ k) v' w' (by simp [Den, den1]) ⟨env_ext hn0, ?_, ?_, ⟨hgrow.os, hgrow.tape, hgrow.output, hgrow.size, ?_⟩, ?_, fun b hb => hb, fun b hb => .inl (.inl hb), ?_, ?_⟩
            · intro k hk
              have : k ≠ i0 := by omega
              simp [this]
            · intro k u hk
              by_cases e0 : k = i0
              · simp [e0] at hk; subst hk; exact hv1
              · simp [e0] at hk; exact hc.one k u hk
            · intro b hb hno
              refine hgrow.block b hb fun he => hno ?_
              have hb2 : blkOf (a.eval x) = some b := by rw [← ob]; exact he.symm
              exact ⟨hO b hb2, hL2 b hb2⟩
            · intro k e' he
              rcases hLg k e' he with ⟨rfl, rfl⟩ | ⟨_, rfl⟩
              · refine ⟨v', cs ++ news, by simp, by rw [List.length_append]; exact hown', by rw [List.length_append]; exact hlen, ?_, ?_⟩
                · intro b hb
                  rcases hwhere with hw | hw
                  · rw [ob', ob] at hw
                    exact .inl (hO b (by rw [← hw]; exact hb))
                  · rw [ob', hb] at hw
                    cases hw
                    exact .inr ⟨Nat.le_refl _, hlt' _ hb⟩
                · intro q z hz
                  have hcl := hown.1
                  by_cases hq : q < xs.length
                  · rw [List.getElem?_append_left hq] at hz
                    have hmul := Nat.mul_le_mul_right ti.tc.n (show q + 1 ≤ xs.length by omega)
                    rw [Nat.add_mul] at hmul
                    have e1 : ((cs ++ news).drop (q * ti.tc.n)).take ti.tc.n = (cs.drop (q * ti.tc.n)).take ti.tc.n := by
                      rw [List.drop_append_of_le_length (by omega), List.take_append_of_le_length (by rw [List.length_drop]; omega)]
                    rw [e1]
                    cases hflat : nb ti.tc.nsl 0 with
                    | true => exact (hrx q z hz).flat (eq_of_nb hflat)
                    | false => exact (hrx q z hz).move zs_l (hmv fr (by simp; intro h1 _; exact h1))
                  · rw [List.getElem?_append_right (by omega)] at hz
                    obtain ⟨d, rfl⟩ : ∃ d, q = xs.length + d := ⟨q - xs.length, by omega⟩
                    have e1 : (cs ++ news).drop ((xs.length + d) * ti.tc.n) = news.drop (d * ti.tc.n) := by
                      rw [Nat.add_mul, ← hcl, List.drop_append]
                      simp
                    rw [e1]
                    cases hflat : nb ti.tc.nsl 0 with
                    | true => exact (hnews.2 d z (by simpa using hz)).flat (eq_of_nb hflat)
                    | false => exact (hnews.2 d z (by simpa using hz)).move zs_r (hmv fr' (by simp))
              · trivial
            · intro k e' u b he hown2 hu hb
              rcases hLg k e' he with ⟨rfl, rfl⟩ | ⟨_, rfl⟩
              · simp at hu
                subst hu
                rcases hwhere with hw | hw
                · rw [ob', ob] at hw
                  exact .inr (hL2 b (by rw [← hw]; exact hb))
                · rw [ob', hb] at hw
                  cases hw
                  exact .inl (Nat.le_refl _)
              · simp [isOwn] at hown2
            · intro k k' e1 e2 v1 v2 b hne he1 he2 ho1 ho2
              rcases hLg k e1 he1 with ⟨rfl, rfl⟩ | ⟨_, rfl⟩
              · rcases hLg k' e2 he2 with ⟨rfl, _⟩ | ⟨_, rfl⟩
                · exact absurd rfl hne
                · simp [isOwn] at ho2
              · simp [isOwn] at ho1
        · exact h.elim
    · exact h.elim
  · exact h.elim
end Go.Proofs.Ytgbfcjnkohhfoaa

namespace Go.Proofs.Ytgbfcjnkohhfoaa
open Go.RowKit

/-- a row of n elements closed into data -/
def clsN (en : List (Nat × Ent)) (t : TC) : Nat → List A1 → Option (List t.D × Bool)
  | 0, _ => some ([], true)
  | n + 1, l => match cls en t (l.take t.n), clsN en t n (l.drop t.n) with
    | some x, some y => some (x.1 :: y.1, x.2 && y.2)
    | _, _ => none
theorem clsN_ok {c : Cx} {O1 : Nat → Prop} {ρ : Env} {w : World} {en : List (Nat × Ent)} (hen : ∀ k e, look k en = some e → EntOk c O1 ρ w k e) {t : TC} :
    ∀ (n : Nat) (l : List A1) (vs : List Value) (xs : List t.D) (fr : Bool), DenL ρ l vs → clsN en t n l = some (xs, fr) → xs.length = n ∧ ∀ (i : Nat) (x : t.D), xs[i]? = some x → Rep (zs c fr) (offs c O1 fr) w t ((vs.drop (i * t.n)).take t.n) x
  | 0, l, vs, xs, fr, hd, h => by simp only [clsN, Option.some.injEq, Prod.mk.injEq] at h; obtain ⟨rfl, rfl⟩ := h; simp
  | n + 1, l, vs, xs, fr, hd, h => by
    simp only [clsN] at h
    split at h
    · next x y h1 h2 =>
      simp only [Option.some.injEq, Prod.mk.injEq] at h
      obtain ⟨rfl, rfl⟩ := h
      have r1 := cls_ok hen t _ _ x.1 x.2 (hd.take t.n) h1
      obtain ⟨r2, r3⟩ := clsN_ok hen n _ _ y.1 y.2 (hd.drop t.n) h2
      refine ⟨by simp [r2], fun i z hz => ?_⟩
      cases i with
      | zero =>
        simp at hz; subst hz
        rw [Nat.zero_mul, List.drop_zero]
        exact r1.move zs_l fun b hb hn => ⟨fr_weak (by simp; intro h1 _; exact h1) hn, rfl⟩
      | succ i =>
        have := r3 i z (by simpa using hz)
        rw [List.drop_drop] at this
        rw [show (i + 1) * t.n = t.n + i * t.n by rw [Nat.add_mul]; omega]
        exact this.move zs_r fun b hb hn => ⟨fr_weak (by simp) hn, rfl⟩
    · cases h

theorem own_new {c : Cx} {O1 : Nat → Prop} {ρ : Env} {w : World} {i0 e : Nat} {t : TC} {xs : List t.D} {fr : Bool} {cap : Nat} {cur : Array Value} (hlen : xs.length ≤ LB) (hcap : xs.length ≤ cap) (hm : cap ≤ maxLen) (hs : cur.size = cap * t.n) (hr : ∀ (i : Nat) (x : t.D), xs[i]? = some x → Rep (zs c fr) (offs c O1 fr) w t ((cur.toList.drop (i * t.n)).take t.n) x) :
    EntOk c (fun b => O1 b ∨ b = w.heap.size) (fun k => if k = i0 then some (.slice (some ⟨w.heap.size, 0, none⟩) xs.length cap) else ρ k) (w.alloc (.cells cur e)) i0 (.own e t xs fr) := by
  have hmul := Nat.mul_le_mul_right t.n hcap
  refine ⟨_, cur.toList.take (xs.length * t.n), by simp, ⟨by simp; omega, .inr ⟨_, cap, cur, rfl, Nat.zero_le _, heap_alloc_new w _, hcap, hm, hs, rfl⟩⟩, hlen, ?_, ?_⟩
  · intro b hb; simp [blkOf] at hb; exact .inr hb.symm
  · intro i x hx
    have hi : i < xs.length := (List.getElem?_eq_some_iff.1 hx).1
    have hmul2 := Nat.mul_le_mul_right t.n (show i + 1 ≤ xs.length by omega)
    rw [Nat.add_mul] at hmul2
    have e1 : ((cur.toList.take (xs.length * t.n)).drop (i * t.n)).take t.n = (cur.toList.drop (i * t.n)).take t.n := by
      apply List.ext_getElem?
      intro q
      rw [List.getElem?_take, List.getElem?_take, List.getElem?_drop, List.getElem?_drop, List.getElem?_take]
      split
      · rw [if_pos (by omega)]
      · rfl
    rw [e1]
    refine (hr i x hx).move id fun b hb hn => ⟨?_, Below.heap_alloc w _ b hb⟩
    simp only [offs, not_or] at hn ⊢
    exact ⟨⟨hn.1, by omega⟩, hn.2⟩

def repl (n : Nat) (l : List A1) : List A1 := match n with | 0 => [] | n + 1 => l ++ repl n l
theorem repl_den {ρ : Env} {l : List A1} {vs : List Value} (h : DenL ρ l vs) : ∀ n, DenL ρ (repl n l) (List.replicate n vs).flatten
  | 0 => rfl
  | n + 1 => by
    rw [List.replicate_succ, List.flatten_cons]
    exact h.append (repl_den h n)
theorem flat_get {vs : List Value} (hv : 0 < vs.length) : ∀ (n : Nat) (q : Nat), q < n * vs.length → (List.replicate n vs).flatten[q]? = vs[q % vs.length]?
  | 0, q, h => by simp at h
  | n + 1, q, h => by
    rw [List.replicate_succ, List.flatten_cons]
    by_cases hq : q < vs.length
    · rw [List.getElem?_append_left hq, Nat.mod_eq_of_lt hq]
    · have h' : q - vs.length < n * vs.length := by rw [Nat.add_mul] at h; omega
      rw [List.getElem?_append_right (by omega), flat_get hv n _ h']
      congr 1
      exact (Nat.mod_eq_sub_mod (by omega)).symm
theorem made_flat {vs : Array Value} (hv : 0 < vs.size) (n : Nat) : ((Array.range (n * vs.size)).map (vs[· % vs.size]!)).toList = (List.replicate n vs.toList).flatten := by
  apply List.ext_getElem?
  intro q
  by_cases hq : q < n * vs.size
  · rw [flat_get (by simpa using hv) n q (by simpa using hq)]
    have := Nat.mod_lt q hv
    simp [hq, this]
  · rw [List.getElem?_eq_none (by simp; omega), List.getElem?_eq_none (by simp; omega)]

def aBuildSlice1 (C : Ctx) (S : St) (i0 : Nat) (t : TypeId) (len : Nat) (parts : Array (Nat × Operand)) (K : Dl → Prop) : Prop :=
  match look t C.ty with
  | some ⟨.sl e, _, _⟩ => (match look e C.ty with
    | some ti => (bif nb ti.z.length ti.tc.n && (ti.okz && (nlt 0 len && nle (len * ti.z.length) 16777216)) then
        (match (afill S (fun i => some (i * ti.z.length, ti.z.length)) (repl len (ti.z.map A1.con)) parts.toList).bind (clsN S.en ti.tc len) with
        | some (xs, fr) => K ⟨.one (.ref i0), [(i0, .own e ti.tc xs fr)]⟩
        | none => False) else False)
    | none => False)
  | _ => False
theorem aBuildSlice1_ok [B : Base] {C : Ctx} {c : Cx} (hC : CtxOk C c) {S : St} {i0 : Nat} {o : Oper} {t : TypeId} {len : Nat} {parts : Array (Nat × Operand)} {K : Dl → Prop} (ho : o.op = .buildSlice t len parts) (h : aBuildSlice1 C S i0 t len parts K) : ∃ δ, OpOk c S i0 o δ ∧ K δ := by
  unfold aBuildSlice1 at h
  split at h
  · next e z' tc' ht =>
    split at h
    · next ti hte =>
      cases hb : nb ti.z.length ti.tc.n && (ti.okz && (nlt 0 len && nle (len * ti.z.length) 16777216)) with
      | false => rw [hb] at h; exact h.elim
      | true =>
        rw [hb] at h
        simp only [cond_true] at h
        simp only [Bool.and_eq_true] at hb
        obtain ⟨hb1, hb2, hb3, hb4⟩ := hb
        have hn := eq_of_nb hb1
        have h24 := le_of_nle hb4
        have hlen0 : 1 ≤ len := lt_of_nlt hb3
        split at h
        · next xs fr hxs =>
          obtain ⟨l, hl, hcl⟩ := Option.bind_eq_some_iff.1 hxs
          refine ⟨_, ok_alloc fun N O1 ρ a w hc hf => ?_, h⟩
          have hP := (hC.ty t _ ht).fits
          have hE := hC.ty e _ hte
          rw [← hC.P] at hP hE
          simp only [TK.fits] at hP
          obtain ⟨hzc, _⟩ := okz_cells hb2
          have hpos : 0 < ti.z.toArray.size := by have := TC.n_pos ti.tc; simp; omega
          have hmf := made_flat hpos len
          have hz : DenL ρ (repl len (ti.z.map A1.con)) ((Array.range (len * ti.z.toArray.size)).map (ti.z.toArray[· % ti.z.toArray.size]!)).toList := by
            rw [hmf]; exact repl_den (conl_den _ _) len
          obtain ⟨cells, h1, h2⟩ := afill_ok hc _ parts.toList _ l _ hz hl
          obtain ⟨hxl, hxr⟩ := clsN_ok (c := c) (O1 := O1) (w := w) (fun k e he => hc.en k e he) len l _ xs fr h2 hcl
          have hsz : cells.size = len * ti.tc.n := by
            have aux : ∀ (parts : List (Nat × Value)) (a b : Array Value), Instr.fill (fun i => some (i * ti.z.length, ti.z.length)) a parts = some b → b.size = a.size := by
              intro parts
              induction parts with
              | nil => intro a b h; simp [Instr.fill] at h; rw [h]
              | cons p ps ih =>
                intro a b h
                obtain ⟨i, v⟩ := p
                simp only [Instr.fill] at h
                split at h
                · cases h
                · next hnot =>
                  simp at hnot
                  rw [ih _ _ h]
                  have := foldl_upd (vs := v.cells) (cells := a) (off := i * ti.z.length) (by omega)
                  have e2 := congrArg List.length this
                  rw [upd_length (by simp; omega)] at e2
                  simpa using e2
            rw [aux _ _ _ h1]
            simp [hn]
          have hnz : ¬ (len * ti.z.length = 0) := by
            have := TC.n_pos ti.tc
            intro h0
            rcases Nat.mul_eq_zero.1 h0 with h0 | h0 <;> omega
          have hle : len ≤ 16777216 := by
            have := TC.n_pos ti.tc
            exact Nat.le_trans (Nat.le_mul_of_pos_right len (by omega)) h24
          refine ⟨.slice (some ⟨w.heap.size, 0, none⟩) xs.length len, .cells cells e, rfl, by simp [blkOf], ?_, own_new (by unfold LB; omega) (by omega) (by unfold maxLen; omega) hsz hxr⟩
          have hp2 : (Array.map (fun x : Nat × Operand => (x.1, a.eval x.2)) parts).toList = parts.toList.map (fun p => (p.1, a.eval p.2)) := by simp
          have hng : ¬ (16777216 < len * ti.z.length) := by omega
          simp at h1
          simp [execOp, ho, Instr.buildSlice, run_underlying hP, hE.size, hE.zero, hnz, hng, hzc, newRow, hxl, h1]
        · exact h.elim
    · exact h.elim
  · exact h.elim

/-- an empty slice -/
def aBuildSlice0 (C : Ctx) (i0 : Nat) (t : TypeId) (parts : Array (Nat × Operand)) (K : Dl → Prop) : Prop :=
  match look t C.ty, parts.toList with
  | some ⟨.sl e, _, _⟩, [] => (match look e C.ty with
    | some ti => K ⟨.one (.ref i0), [(i0, .own e ti.tc [] true)]⟩
    | none => False)
  | _, _ => False
theorem aBuildSlice0_ok [B : Base] {C : Ctx} {c : Cx} (hC : CtxOk C c) {S : St} {i0 : Nat} {o : Oper} {t : TypeId} {parts : Array (Nat × Operand)} {K : Dl → Prop} (ho : o.op = .buildSlice t 0 parts) (h : aBuildSlice0 C i0 t parts K) : ∃ δ, OpOk c S i0 o δ ∧ K δ := by
  unfold aBuildSlice0 at h
  split at h
  · next e z' tc' ht hp =>
    split at h
    · next ti hte =>
      refine ⟨_, ok_alloc fun N O1 ρ a w hc hf => ?_, h⟩
      have hP := (hC.ty t _ ht).fits
      have hE := hC.ty e _ hte
      rw [← hC.P] at hP hE
      simp only [TK.fits] at hP
      have hpp : parts = #[] := by simpa using hp
      subst hpp
      have := own_new (c := c) (O1 := O1) (ρ := ρ) (w := w) (i0 := i0) (e := e) (t := ti.tc) (xs := []) (fr := true) (cap := 0) (cur := #[]) (by simp) (by simp) (by unfold maxLen; omega) (by simp) (by simp)
      refine ⟨.slice (some ⟨w.heap.size, 0, none⟩) 0 0, .cells #[] e, rfl, by simp [blkOf], ?_, this⟩
      simp [execOp, ho, Instr.buildSlice, run_underlying hP, hE.size, newRow, Instr.fill]
      rw [show Array.map (fun _ => (default : Value)) (Array.range 0) = #[] from Array.eq_empty_of_size_eq_zero (by simp)]
    · exact h.elim
  · exact h.elim
def aBuildSlice (C : Ctx) (S : St) (i0 : Nat) (t : TypeId) (len : Nat) (parts : Array (Nat × Operand)) (K : Dl → Prop) : Prop :=
  match len with
  | 0 => aBuildSlice0 C i0 t parts K
  | n + 1 => aBuildSlice1 C S i0 t (n + 1) parts K
theorem aBuildSlice_ok [B : Base] {C : Ctx} {c : Cx} (hC : CtxOk C c) {S : St} {i0 : Nat} {o : Oper} {t : TypeId} {len : Nat} {parts : Array (Nat × Operand)} {K : Dl → Prop} (ho : o.op = .buildSlice t len parts) (h : aBuildSlice C S i0 t len parts K) : ∃ δ, OpOk c S i0 o δ ∧ K δ := by
  unfold aBuildSlice at h
  split at h
  · exact aBuildSlice0_ok hC ho h
  · exact aBuildSlice1_ok hC ho h
def aMakeSlice (C : Ctx) (S : St) (i0 : Nat) (t : TypeId) (x y : Operand) (K : Dl → Prop) : Prop :=
  match look t C.ty, cv S x, cv S y with
  | some ⟨.sl e, _, _⟩, some (.int _ L), some (.int _ M) => (match look e C.ty with
    | some ti => (bif nb ti.z.length ti.tc.n && ti.okz then
        (match cls [] ti.tc (ti.z.map A1.con) with
        | some (x, _) => (0 ≤ L ∧ L ≤ M ∧ M ≤ 1099511627776) ∧ K ⟨.one (.ref i0), [(i0, .own e ti.tc (List.replicate L.toNat x) true)]⟩
        | none => False) else False)
    | none => False)
  | _, _, _ => False
theorem aMakeSlice_ok [B : Base] {C : Ctx} {c : Cx} (hC : CtxOk C c) {S : St} {i0 : Nat} {o : Oper} {t : TypeId} {x y : Operand} {K : Dl → Prop} (ho : o.op = .makeSlice t x y) (h : aMakeSlice C S i0 t x y K) : ∃ δ, OpOk c S i0 o δ ∧ K δ := by
  unfold aMakeSlice at h
  split at h
  · next e z' tc' k1 L k2 M ht hx hy =>
    split at h
    · next ti hte =>
      cases hb : nb ti.z.length ti.tc.n && ti.okz with
      | false => rw [hb] at h; exact h.elim
      | true =>
        rw [hb] at h
        simp only [cond_true] at h
        simp only [Bool.and_eq_true] at hb
        have hn := eq_of_nb hb.1
        split at h
        · next x0 fr0 hx0 =>
          obtain ⟨⟨h0, h1, h2⟩, hK⟩ := h
          refine ⟨_, ok_alloc fun N O1 ρ a w hc hf => ?_, hK⟩
          have hP := (hC.ty t _ ht).fits
          have hE := hC.ty e _ hte
          rw [← hC.P] at hP hE
          simp only [TK.fits] at hP
          obtain ⟨hzc, _⟩ := okz_cells hb.2
          obtain ⟨i, hi, hz, hs, hby⟩ := hE.parts
          have hb2 : (i.bytes : Int) * M ≤ 281474976710656 := by
            have h5 : (i.bytes : Int) * M ≤ 128 * M := Int.mul_le_mul_of_nonneg_right (by omega) (by omega)
            omega
          have hr := run_make (P := c.P) w t e i ti.zv hP hi hz k1 k2 L M h0 h1 hb2 (by omega)
          have hpos : 0 < ti.zv.cells.size := by have := TC.n_pos ti.tc; rw [hzc]; simp; omega
          have hcells : (madeCells ti.zv.cells (M.toNat * i.size)).toList = (List.replicate M.toNat ti.z).flatten := by
            have := made_flat hpos M.toNat
            rw [hzc] at this ⊢
            rw [hs]
            simpa [madeCells] using this
          have hx0r := cls_ok (c := c) (O1 := fun b => O1 b ∨ c.O0 b) (ρ := fun _ => none) (w := w) (en := []) (fun k e he => by simp [look] at he) ti.tc _ ti.z x0 fr0 (conl_den _ _) hx0
          refine ⟨.slice (some ⟨w.heap.size, 0, none⟩) (List.replicate L.toNat x0).length M.toNat, .cells (madeCells ti.zv.cells (M.toNat * i.size)) e, rfl, by simp [blkOf], ?_,
            own_new (by simp; unfold LB; omega) (by simp; omega) (by unfold maxLen; omega) ?_ ?_⟩
          · simp [execOp, ho, cv_ok hc hx, cv_ok hc hy, hr]
          · simp [madeCells, hs, hn]
          · intro q z hq
            have hql : q < L.toNat := by have := (List.getElem?_eq_some_iff.1 hq).1; simpa using this
            have hzx : z = x0 := by simp [hql] at hq; exact hq.symm
            subst hzx
            rw [hcells]
            have e1 : (((List.replicate M.toNat ti.z).flatten).drop (q * ti.tc.n)).take ti.tc.n = ti.z := by
              apply List.ext_getElem?
              intro j
              rw [List.getElem?_take, List.getElem?_drop]
              have hmul := Nat.mul_le_mul_right ti.tc.n (show q + 1 ≤ M.toNat by omega)
              rw [Nat.add_mul] at hmul
              split
              · next hj =>
                rw [← hn] at hj hmul ⊢
                rw [flat_get (by have := TC.n_pos ti.tc; omega) M.toNat _ (by omega)]
                congr 1
                rw [Nat.mul_comm, Nat.mul_add_mod, Nat.mod_eq_of_lt hj]
              · next hj => rw [List.getElem?_eq_none (by omega)]
            rw [e1]
            exact hx0r.move (zs_mono fun _ => cls_nil _ _ _ _ hx0) fun b hb hno => ⟨by simp only [offs, not_or] at hno ⊢; exact ⟨hno.1.1, by simp [hno.1.2]⟩, rfl⟩
        · exact h.elim
    · exact h.elim
  · exact h.elim
end Go.Proofs.Ytgbfcjnkohhfoaa
