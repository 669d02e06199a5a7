/-
  The abstract machine, part 8: slices: literals, make, parts, append; the builtin functions.
-/
import Derived.Test.YtghfpidpefdndaaAb7
namespace Go.Proofs.Ytghfpidpefdndaa
open Go.RowKit

/-- the data of a slice operand whose elements have code t -/
def dataOf (S : St) (t : TC) : AV → Option (List t.D × Bool)
  | .one (.con (.slice none n m)) => bif nb n 0 && nb m 0 then some ([], true) else none
  | .one (.ref k) => (match look k S.en with
    | some (.own _ t' xs fr) => (match teq t' t with | some ⟨h⟩ => some (castD h xs, fr) | none => none)
    | some (.imm t' xs fr) => (match teq t' t with | some ⟨h⟩ => some (castD h xs, fr) | none => none)
    | _ => none)
  | _ => none

/-- a flat row of cells that are the data ys -/
def Flat (O : Nat → Prop) (w : World) (t : TC) (b off : Nat) (ys : List t.D) (news : List Value) : Prop :=
  news.length = ys.length * t.n ∧ (∀ (j : Nat) (u : Value), news[j]? = some u → w.cell? ⟨b, off + j, none⟩ = some u) ∧ (∀ u ∈ news, u.oneCell' = true) ∧
    ∀ (i : Nat) (y : t.D), ys[i]? = some y → Rep O w t ((news.drop (i * t.n)).take t.n) y
theorem flat_make {O : Nat → Prop} {w : World} {t : TC} {b : Nat} : ∀ (ys : List t.D) (off : Nat),
    (∀ (i : Nat) (x : t.D), ys[i]? = some x → ∃ us : List Value, us.length = t.n ∧ (∀ (j : Nat) (v : Value), us[j]? = some v → w.cell? ⟨b, off + i * t.n + j, none⟩ = some v) ∧ Rep O w t us x) →
    ∃ news, Flat O w t b off ys news
  | [], off, _ => ⟨[], by simp, by simp, by simp, by simp⟩
  | y :: ys, off, h => by
    obtain ⟨us, hl, hc, hr⟩ := h 0 y rfl
    obtain ⟨news, h1, h2, h3, h4⟩ := flat_make ys (off + t.n) (fun i x hx => by
      obtain ⟨us, a, b, c⟩ := h (i + 1) x (by simpa using hx)
      refine ⟨us, a, fun j v hv => ?_, c⟩
      rw [← b j v hv]; congr 2; rw [Nat.add_mul]; omega)
    refine ⟨us ++ news, by simp [hl, h1, Nat.add_mul]; omega, fun j u hj => ?_, ?_, fun i y' hy => ?_⟩
    · by_cases hlt : j < us.length
      · rw [List.getElem?_append_left hlt] at hj
        have := hc j u hj
        simpa using this
      · rw [List.getElem?_append_right (by omega)] at hj
        have := h2 _ u hj
        rw [← this]; congr 2; omega
    · intro u hu
      rcases List.mem_append.1 hu with hu | hu
      · exact hr.one u hu
      · exact h3 u hu
    · cases i with
      | zero =>
        simp at hy; subst hy
        rw [Nat.zero_mul, List.drop_zero, ← hl, List.take_left' rfl]
        exact hr
      | succ i =>
        have := h4 i y' (by simpa using hy)
        have e : ((us ++ news).drop ((i + 1) * t.n)) = news.drop (i * t.n) := by
          rw [show (i + 1) * t.n = us.length + i * t.n by rw [hl, Nat.add_mul]; omega, List.drop_append]
          simp
        rw [e]; exact this

theorem dataOf_ok {c : Cx} {N O1 : Nat → Prop} {ρ : Env} {S : St} {a : Act} {w : World} (h : Conc c N O1 ρ S a w) {t : TC} {y : AV} {ys : List t.D} {fr : Bool} (hy : dataOf S t y = some (ys, fr)) {v : Value} (hv : Den ρ y v) :
    ∃ ad cap, v = .slice ad ys.length cap ∧ ys.length ≤ LB ∧ ys.length ≤ cap ∧ ((ad = none ∧ ys = [] ∧ cap = 0) ∨ ∃ a', ad = some a' ∧ (ys = [] ∨ ∃ b off news, a' = ⟨b, off, none⟩ ∧ Flat (offs c O1 fr) w t b off ys news)) := by
  unfold dataOf at hy
  split at hy
  · next n m =>
    cases hn : nb n 0 && nb m 0 with
    | false => rw [hn] at hy; cases hy
    | true =>
      rw [hn] at hy; cases hy
      simp only [Bool.and_eq_true] at hn
      have e1 := eq_of_nb hn.1
      have e2 := eq_of_nb hn.2
      subst e1; subst e2
      simp only [Den, den1, Option.some.injEq] at hv
      exact ⟨none, 0, hv.symm, by simp, by simp, .inl ⟨rfl, rfl, rfl⟩⟩
  · next k =>
    simp only [Den, den1] at hv
    split at hy
    · next e t' xs fr' he =>
      split at hy
      · next g _ =>
        subst g
        simp only [castD, cast_eq, Option.some.injEq, Prod.mk.injEq] at hy
        obtain ⟨rfl, rfl⟩ := hy
        have hrow := fun i (hi : i < xs.length) => row_own (h.en k _ he) hi
        obtain ⟨v', cs, h1, h2, h3, _⟩ := h.en k _ he
        rw [hv] at h1; cases h1
        rcases h2.2 with ⟨rfl, h0⟩ | ⟨g, cap, cur, rfl, _, _, hnc, _⟩
        · have : xs = [] := List.eq_nil_of_length_eq_zero h0
          subst this
          exact ⟨none, 0, rfl, by simp, by simp, .inl ⟨rfl, rfl, rfl⟩⟩
        · refine ⟨_, cap, rfl, h3, hnc, .inr ⟨_, rfl, .inr ?_⟩⟩
          obtain ⟨news, hf⟩ := flat_make (O := offs c O1 fr') (w := w) (b := g) xs 0 (fun i x hx => by
            have hi : i < xs.length := (List.getElem?_eq_some_iff.1 hx).1
            obtain ⟨g', p, n, cap', us, r1, r2, r3, r4⟩ := hrow i hi
            rw [hv] at r1
            simp only [Option.some.injEq, Value.slice.injEq, Addr.mk.injEq, and_true] at r1
            obtain ⟨⟨rfl, rfl⟩, _⟩ := r1
            refine ⟨us, r2, r3, ?_⟩
            simpa [List.getD, hx] using r4)
          exact ⟨g, 0, news, rfl, hf⟩
      · cases hy
    · next t' xs fr' he =>
      split at hy
      · next g _ =>
        subst g
        simp only [castD, cast_eq, Option.some.injEq, Prod.mk.injEq] at hy
        obtain ⟨rfl, rfl⟩ := hy
        obtain ⟨v', h1, ad, cap, hv', h2, h3, h4, h5⟩ := h.en k _ he
        rw [hv] at h1; cases h1
        simp only [List.cons.injEq, and_true] at hv'
        subst hv'
        refine ⟨ad, cap, rfl, h3, h2, ?_⟩
        rcases h5 with rfl | ⟨b, off, rfl, _, hc⟩
        · cases ad with
          | none => exact .inl ⟨rfl, rfl, h4 rfl⟩
          | some a' => exact .inr ⟨a', rfl, .inl rfl⟩
        · obtain ⟨news, hf⟩ := flat_make xs off hc
          exact .inr ⟨_, rfl, .inr ⟨b, off, news, rfl, hf⟩⟩
      · cases hy
    · cases hy
  · cases hy

/-- the slice that is appended to -/
def baseOf (S : St) (e : Nat) (t : TC) : AV → Option (List t.D × Bool × List (Nat × Ent))
  | .one (.con (.slice none n m)) => bif nb n 0 && nb m 0 then some ([], true, []) else none
  | .one (.ref k) => (match look k S.en with
    | some (.own e' t' xs fr) => (match teq t' t with | some ⟨h⟩ => (bif nb e' e then some (castD h xs, fr, [(k, .gone)]) else none) | none => none)
    | _ => none)
  | _ => none
theorem baseOf_ok {c : Cx} {N O1 : Nat → Prop} {ρ : Env} {S : St} {a : Act} {w : World} (h : Conc c N O1 ρ S a w) {e : Nat} {t : TC} {y : AV} {xs : List t.D} {fr : Bool} {L : List (Nat × Ent)} (hy : baseOf S e t y = some (xs, fr, L)) {v : Value} (hv : Den ρ y v) :
    ∃ cs, w.ownsRow 0 e t.n v xs.length cs ∧ (∀ b, blkOf v = some b → O1 b) ∧ (∀ (i : Nat) (x : t.D), xs[i]? = some x → Rep (offs c O1 fr) w t ((cs.drop (i * t.n)).take t.n) x) ∧
      ((L = [] ∧ blkOf v = none) ∨ ∃ k, L = [(k, .gone)] ∧ ρ k = some v ∧ ∃ e0, look k S.en = some e0 ∧ isOwn e0 = true) := by
  unfold baseOf at hy
  split at hy
  · next n m =>
    cases hn : nb n 0 && nb m 0 with
    | false => rw [hn] at hy; cases hy
    | true =>
      rw [hn] at hy; cases hy
      simp only [Bool.and_eq_true] at hn
      have e1 := eq_of_nb hn.1
      have e2 := eq_of_nb hn.2
      subst e1; subst e2
      simp only [Den, den1, Option.some.injEq] at hv
      subst hv
      exact ⟨[], World.ownsRow_nil w 0 e t.n, by simp [blkOf], by simp, .inl ⟨rfl, rfl⟩⟩
  · next k =>
    simp only [Den, den1] at hv
    split at hy
    · next e' t' xs' fr' he =>
      split at hy
      · next g _ =>
        subst g
        cases hb : nb e' e with
        | false => rw [hb] at hy; cases hy
        | true =>
          rw [hb] at hy
          simp only [castD, cast_eq, cond_true, Option.some.injEq, Prod.mk.injEq] at hy
          obtain ⟨rfl, rfl, rfl⟩ := hy
          have := eq_of_nb hb
          subst this
          obtain ⟨v', cs, h1, h2, h3, h4, h5⟩ := h.en k _ he
          rw [hv] at h1; cases h1
          exact ⟨cs, h2, h4, h5, .inr ⟨k, rfl, hv, _, he, rfl⟩⟩
      · cases hy
    · cases hy
  · cases hy

theorem baseOf_up {S : St} {e : Nat} {t : TC} {y : AV} {xs : List t.D} {fr : Bool} {L : List (Nat × Ent)} (hy : baseOf S e t y = some (xs, fr, L)) {k : Nat} {e' : Ent} (he : (k, e') ∈ L) : ∃ e0, look k S.en = some e0 ∧ isOwn e0 = true := by
  unfold baseOf at hy
  split at hy
  · next n m =>
    cases hn : nb n 0 && nb m 0 with
    | false => rw [hn] at hy; cases hy
    | true =>
      rw [hn] at hy
      simp only [cond_true, Option.some.injEq, Prod.mk.injEq] at hy
      rw [← hy.2.2] at he
      simp at he
  · next k' =>
    split at hy
    · next e1 t1 xs1 fr1 he1 =>
      split at hy
      · cases hbe : nb e1 e with
        | false => rw [hbe] at hy; cases hy
        | true =>
          rw [hbe] at hy
          simp only [cond_true, Option.some.injEq, Prod.mk.injEq] at hy
          rw [← hy.2.2] at he
          simp at he
          rw [he.1]
          exact ⟨_, he1, rfl⟩
      · cases hy
    · cases hy
  · cases hy
theorem own_blk {w : World} {base e size n : Nat} {v : Value} {xs : List Value} (h : w.ownsRow base e size v n xs) : v.ownBlock = blkOf v ∧ v.oneCell' = true ∧ ∀ b, blkOf v = some b → b < w.heap.size := by
  have hl := h.lt
  rcases h.2 with ⟨rfl, _⟩ | ⟨g, cap, cur, rfl, _⟩
  · exact ⟨rfl, rfl, by simp [blkOf]⟩
  · exact ⟨rfl, rfl, fun b hb => (hl b hb).2⟩

def aAppend (C : Ctx) (S : St) (i0 : Nat) (t : TypeId) (x y : Operand) (K : Dl → Prop) : Prop :=
  match look t C.ty with
  | some ⟨.sl e, _, _⟩ => (match look e C.ty with
    | some ti => (bif nb ti.z.length ti.tc.n && ti.okz then
        (match (av S x).bind (baseOf S e ti.tc), (av S y).bind (dataOf S ti.tc) with
        | some (xs, fr, L), some (ys, fr') => xs.length + ys.length ≤ AB ∧ K ⟨.one (.ref i0), (i0, .own e ti.tc (xs ++ ys) (bif nb ti.tc.nsl 0 then true else fr && fr')) :: L⟩
        | _, _ => False) else False)
    | none => False)
  | _ => False

theorem fr_weak {c : Cx} {O1 : Nat → Prop} {f g : Bool} (h : g = true → f = true) {b : Nat} (hn : ¬ offs c O1 f b) : ¬ offs c O1 g b := by
  simp only [offs, not_or, not_and] at hn ⊢
  exact ⟨hn.1, fun hg => hn.2 (h hg)⟩

theorem aAppend_ok {C : Ctx} {c : Cx} (hC : CtxOk C c) {S : St} {i0 : Nat} {o : Oper} {t u : TypeId} {x y : Operand} {K : Dl → Prop} (ho : o.op = .call { callee := .builtin .append, args := #[x, y], argTypes := #[t, u] }) (hu : t = u) (h : aAppend C S i0 t x y K) : ∃ δ, OpOk c S i0 o δ ∧ K δ := by
  subst hu
  unfold aAppend at h
  split at h
  · next e z' tc' ht =>
    split at h
    · next ti hte =>
      cases hb : nb ti.z.length ti.tc.n && ti.okz with
      | false => rw [hb] at h; exact h.elim
      | true =>
        rw [hb] at h
        simp only [cond_true] at h
        simp only [Bool.and_eq_true] at hb
        have hn := eq_of_nb hb.1
        split at h
        · next xs fr L ys fr' hx hy =>
          obtain ⟨hlen, hK⟩ := h
          have hlen0 := hlen
          have hlen : xs.length + ys.length ≤ LB := by unfold AB at hlen0; unfold LB; omega
          obtain ⟨yx, hyx, hxb⟩ := Option.bind_eq_some_iff.1 hx
          obtain ⟨yy, hyy, hyd⟩ := Option.bind_eq_some_iff.1 hy
          refine ⟨_, ⟨fun k e' he => ?_, fun N O1 ρ a w hc hf next Q hnx => ?_⟩, hK⟩
          · simp at he
            rcases he with ⟨rfl, _⟩ | he
            · exact .inl ⟨Nat.le_refl _, by omega⟩
            · exact .inr (baseOf_up hxb he)
          · have hP := (hC.ty t _ ht).fits
            have hE := hC.ty e _ hte
            rw [← hC.P] at hP hE
            simp only [TK.fits] at hP
            obtain ⟨i, hi, hz, hs, hby⟩ := hE.parts
            obtain ⟨hzc, _⟩ := okz_cells hb.2
            obtain ⟨cs, hown, hO, hrx, hL⟩ := baseOf_ok hc hxb (av_ok hc hyx)
            obtain ⟨ad, cap, hyv, hyl, hyc, had⟩ := dataOf_ok hc hyd (av_ok hc hyy)
            have hLB : LB ≤ maxLen := by unfold LB maxLen; omega
            have hbytes : (xs.length + ys.length) * i.bytes ≤ 140737488355328 := by
              have := Nat.mul_le_mul hlen0 hby
              unfold AB at this
              omega
            -- the row of what is appended
            obtain ⟨v', w', news, hrun, hown', hgrow, hwhere, hnews⟩ : ∃ v' w' news, (Builtin.append_ #[t, t] o.type #[a.eval x, a.eval y]).run c.P w = .ok v' w' ∧ w'.ownsRow 0 e ti.tc.n v' (xs.length + ys.length) (cs ++ news) ∧ w.grownBy w' (a.eval x).ownBlock ∧
                (v'.ownBlock = (a.eval x).ownBlock ∨ v'.ownBlock = some w.heap.size) ∧ (news.length = ys.length * ti.tc.n ∧ ∀ (i : Nat) (y : ti.tc.D), ys[i]? = some y → Rep (offs c O1 fr') w ti.tc ((news.drop (i * ti.tc.n)).take ti.tc.n) y) := by
              rcases had with ⟨rfl, rfl, rfl⟩ | ⟨a', rfl, had⟩
              · have hr := run_append_owned_none (P := c.P) w 0 t o.type e i ti.tc.n hP hi (a.eval x) xs.length cs hown
                exact ⟨a.eval x, w, [], by rw [hyv]; exact hr, by simpa using hown, ⟨rfl, rfl, rfl, Nat.le_refl _, fun _ _ _ => rfl⟩, .inl rfl, by simp, by simp⟩
              · obtain ⟨news, h1, h2, h3, h4⟩ : ∃ news : List Value, news.length = ys.length * ti.tc.n ∧ (∀ j u, news[j]? = some u → w.cell? (a'.add j) = some u) ∧ (∀ u ∈ news, u.oneCell' = true) ∧
                    ∀ (i : Nat) (y : ti.tc.D), ys[i]? = some y → Rep (offs c O1 fr') w ti.tc ((news.drop (i * ti.tc.n)).take ti.tc.n) y := by
                  rcases had with rfl | ⟨b, off, news, rfl, f1, f2, f3, f4⟩
                  · exact ⟨[], by simp, by simp, by simp, by simp⟩
                  · have ea : ∀ j, (⟨b, off, none⟩ : Addr).add j = ⟨b, off + j, none⟩ := fun j => by unfold Addr.add; split <;> simp_all
                    exact ⟨news, f1, fun j u hj => by rw [ea]; exact f2 j u hj, f3, f4⟩
                obtain ⟨v', w', hr, r1, r2, _, r3⟩ := run_append_own_at (P := c.P) w 0 t o.type e i ti.zv ti.tc.n i.bytes hP hi hz (by rw [hs, hn]) rfl (by rw [hzc]; simpa using hn) (TC.n_pos _) (a.eval x) xs.length cs hown a' ys.length cap news h1 h2 h3 (by omega) hbytes (Nat.zero_le _)
                exact ⟨v', w', news, by rw [hyv]; exact hr, r1, r2, r3, h1, h4⟩
            obtain ⟨ob, _, _⟩ := own_blk hown
            obtain ⟨ob', hv1, hlt'⟩ := own_blk hown'
            have hn0 : ρ i0 = none := hf i0 (Nat.le_refl _) (by omega)
            have hsame : ∀ b, b < w.heap.size → ¬ O1 b → w'.heap[b]? = w.heap[b]? := fun b hb hno =>
              hgrow.block b hb fun he => hno (hO b (by rw [← ob]; exact he.symm))
            have hmv : ∀ f : Bool, ((fr && fr') = true → f = true) → ∀ b, b < w.heap.size → ¬ offs c O1 f b → ¬ offs c (fun b => O1 b ∨ (w.heap.size ≤ b ∧ b < w'.heap.size)) (fr && fr') b ∧ w'.heap[b]? = w.heap[b]? := by
              intro f hff b hb hno
              have h1 := fr_weak hff hno
              simp only [offs, not_or] at h1 hno ⊢
              exact ⟨⟨⟨h1.1, by omega⟩, h1.2⟩, hsame b hb hno.1⟩
            have hL2 : ∀ b, blkOf (a.eval x) = some b → ∃ k' e' v', (k', e') ∈ (i0, Ent.own e ti.tc (xs ++ ys) (bif nb ti.tc.nsl 0 then true else fr && fr')) :: L ∧ ρ k' = some v' ∧ blkOf v' = some b := by
              intro b hb
              rcases hL with ⟨_, h0⟩ | ⟨k, rfl, hk, _⟩
              · rw [h0] at hb; cases hb
              · exact ⟨k, .gone, _, by simp, hk, hb⟩
            have hLg : ∀ k e', look k ((i0, Ent.own e ti.tc (xs ++ ys) (bif nb ti.tc.nsl 0 then true else fr && fr')) :: L) = some e' → (k = i0 ∧ e' = .own e ti.tc (xs ++ ys) (bif nb ti.tc.nsl 0 then true else fr && fr')) ∨ (k ≠ i0 ∧ e' = .gone) := by
              intro k e' he
              by_cases hk : i0 = k
              · subst hk; rw [look_cons_eq] at he; cases he; exact .inl ⟨rfl, rfl⟩
              · rw [look_cons_ne hk] at he
                rcases hL with ⟨rfl, _⟩ | ⟨k', rfl, _⟩
                · simp [look] at he
                · have := look_mem he
                  simp at this
                  exact .inr ⟨fun e => hk e.symm, this.2⟩
            have hrun' : (execOp a.eval o).run c.P w = .ok (.value v') w' := by
              simp [execOp, ho, resolve, invoke, builtin, hrun]
            unfold Oper.wp
            rw [hrun', Oper.upon_value]
            refine hnx (fun b => O1 b ∨ (w.heap.size ≤ b ∧ b < w'.heap.size)) (fun k => if k = i0 then some v' else ρ k) v' w' (by simp [Den, den1]) ⟨env_ext hn0, ?_, ?_, ⟨hgrow.os, hgrow.tape, hgrow.output, hgrow.size, ?_⟩, ?_, fun b hb => hb, fun b hb => .inl (.inl hb), ?_, ?_⟩
            · intro k hk
              have : k ≠ i0 := by omega
              simp [this]
            · intro k u hk
              by_cases e0 : k = i0
              · simp [e0] at hk; subst hk; exact hv1
              · simp [e0] at hk; exact hc.one k u hk
            · intro b hb hno
              refine hgrow.block b hb fun he => hno ?_
              have hb2 : blkOf (a.eval x) = some b := by rw [← ob]; exact he.symm
              exact ⟨hO b hb2, hL2 b hb2⟩
            · intro k e' he
              rcases hLg k e' he with ⟨rfl, rfl⟩ | ⟨_, rfl⟩
              · refine ⟨v', cs ++ news, by simp, by rw [List.length_append]; exact hown', by rw [List.length_append]; exact hlen, ?_, ?_⟩
                · intro b hb
                  rcases hwhere with hw | hw
                  · rw [ob', ob] at hw
                    exact .inl (hO b (by rw [← hw]; exact hb))
                  · rw [ob', hb] at hw
                    cases hw
                    exact .inr ⟨Nat.le_refl _, hlt' _ hb⟩
                · intro q z hz
                  have hcl := hown.1
                  by_cases hq : q < xs.length
                  · rw [List.getElem?_append_left hq] at hz
                    have hmul := Nat.mul_le_mul_right ti.tc.n (show q + 1 ≤ xs.length by omega)
                    rw [Nat.add_mul] at hmul
                    have e1 : ((cs ++ news).drop (q * ti.tc.n)).take ti.tc.n = (cs.drop (q * ti.tc.n)).take ti.tc.n := by
                      rw [List.drop_append_of_le_length (by omega), List.take_append_of_le_length (by rw [List.length_drop]; omega)]
                    rw [e1]
                    cases hflat : nb ti.tc.nsl 0 with
                    | true => exact (hrx q z hz).flat (eq_of_nb hflat)
                    | false => exact (hrx q z hz).move (hmv fr (by simp; intro h1 _; exact h1))
                  · rw [List.getElem?_append_right (by omega)] at hz
                    obtain ⟨d, rfl⟩ : ∃ d, q = xs.length + d := ⟨q - xs.length, by omega⟩
                    have e1 : (cs ++ news).drop ((xs.length + d) * ti.tc.n) = news.drop (d * ti.tc.n) := by
                      rw [Nat.add_mul, ← hcl, List.drop_append]
                      simp
                    rw [e1]
                    cases hflat : nb ti.tc.nsl 0 with
                    | true => exact (hnews.2 d z (by simpa using hz)).flat (eq_of_nb hflat)
                    | false => exact (hnews.2 d z (by simpa using hz)).move (hmv fr' (by simp))
              · trivial
            · intro k e' u b he hown2 hu hb
              rcases hLg k e' he with ⟨rfl, rfl⟩ | ⟨_, rfl⟩
              · simp at hu
                subst hu
                rcases hwhere with hw | hw
                · rw [ob', ob] at hw
                  exact .inr (hL2 b (by rw [← hw]; exact hb))
                · rw [ob', hb] at hw
                  cases hw
                  exact .inl (Nat.le_refl _)
              · simp [isOwn] at hown2
            · intro k k' e1 e2 v1 v2 b hne he1 he2 ho1 ho2
              rcases hLg k e1 he1 with ⟨rfl, rfl⟩ | ⟨_, rfl⟩
              · rcases hLg k' e2 he2 with ⟨rfl, _⟩ | ⟨_, rfl⟩
                · exact absurd rfl hne
                · simp [isOwn] at ho2
              · simp [isOwn] at ho1
        · exact h.elim
    · exact h.elim
  · exact h.elim
end Go.Proofs.Ytghfpidpefdndaa
