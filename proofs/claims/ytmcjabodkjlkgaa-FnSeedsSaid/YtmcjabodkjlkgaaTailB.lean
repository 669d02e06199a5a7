/-
  As TailA, for others of which each waits for the one before.
-/
import Derived.Test.YtmcjabodkjlkgaaTailA
namespace Go.Proofs.Ytmcjabodkjlkgaa
open Go.RowKit

section
variable {P : Program} {ops : Array Oper} {md : Region.Mode} {w : World} {C : World → Prop}

/-- each waits for the one before -/
def chained (md : Region.Mode) (ops : Array Oper) : List Nat → Prop
  | s :: t :: r => (∃ ot, ops[t]? = some ot ∧ ∃ e ∈ ot.after, Region.binds md e = true ∧ e.on = s) ∧ chained md ops (t :: r)
  | _ => True
theorem chained_tail {s : Nat} {r : List Nat} (h : chained md ops (s :: r)) : chained md ops r := by
  cases r with
  | nil => trivial
  | cons t r => exact h.2
theorem chained_prev (r : List Nat) : ∀ s, chained md ops (s :: r) → ∀ i ∈ r, ∃ s' ∈ s :: r, ∃ ot, ops[i]? = some ot ∧ ∃ e ∈ ot.after, Region.binds md e = true ∧ e.on = s' := by
  induction r with
  | nil => intro s _ i hi; cases hi
  | cons t r ih =>
    intro s h i hi
    rcases List.mem_cons.1 hi with rfl | hi
    · exact ⟨s, by simp, h.1⟩
    · obtain ⟨s', hs', k⟩ := ih t h.2 i hi
      exact ⟨s', List.mem_cons_of_mem _ hs', k⟩

/-- all orders -/
theorem wpAny_oth2 {Q : Exit → Act → World → Prop} {z : Act} {sp : List Nat} (nosel : ∀ (j : Nat) (o : Oper) cs b, ops[j]? = some o → o.op ≠ .select cs b)
    (hback : ∀ j oj, ops[j]? = some oj → ∀ e ∈ oj.after, Region.binds md e = true → e.on < j)
    (hfar : ∀ s, s ∈ sp → ∀ os, ops[s]? = some os → ∀ j oj, ops[j]? = some oj → j ∉ sp → (∀ d, os.dst = some d → d ∉ oj.looksAt ops) ∧ (∀ d, os.dst = some d → oj.dst ≠ some d) ∧ ((∃ e ∈ os.after, Region.binds md e = true ∧ e.on = j) ∨ ∀ d, oj.dst = some d → d ∉ os.looksAt ops)) (N : Nat) :
    ∀ (rest : List Nat) (f : Nat) (done : Array Bool) (a : Act) (T : Act → Act) (w' : World), N = f + rest.length → (∀ s ∈ rest, s ∈ sp ∧ done.getD s true = false) → (∀ j, j ∈ sp → done.getD j true = false → j ∈ rest) →
      chained md ops rest → rest.Nodup → done.size = ops.size →
      goodT ops sp T → Below w.heap.size w w' → wpOth P ops w Q rest (T z) w' → wpAnyR P md ops w (fun a' => a' = z) f (mark rest done) a → wpAny P md ops Q N done (T a) w' := by
  induction N with
  | zero =>
    intro rest f done a T w' hN _ _ _ _ _ _ _ ho h
    have hr : rest = [] := by cases rest with | nil => rfl | cons => simp at hN
    have hf : f = 0 := by omega
    subst hr hf
    rw [h.2]
    exact ⟨h.1, ho w' (Below.refl _ _)⟩
  | succ N ih =>
    intro rest f done a T w' hN hrest hall hpair hnd hsize hT hw ho h
    refine ⟨fun he => ?_, fun i hi => ?_⟩
    · have hr : rest = [] := by
        cases rest with
        | nil => rfl
        | cons s r => exact absurd he (ready_some hback hsize s (hrest s (by simp)).2)
      subst hr
      have ha : a = z := by
        cases f with
        | zero => exact h.2
        | succ f => exact h.1 he
      rw [ha]
      exact ho w' (Below.refl _ _)
    · obtain ⟨hopen, oi, hoi, hafter⟩ := mem_ready.1 hi
      by_cases hir : i ∈ rest
      · cases rest with
        | nil => cases hir
        | cons s rest =>
          have his : i = s := by
            rcases List.mem_cons.1 hir with h1 | h1
            · exact h1
            · obtain ⟨s', hs', ot, hot, e, hem, heb, hes⟩ := chained_prev rest s hpair i h1
              have : ot = oi := Option.some.inj (hot.symm.trans hoi)
              subst this
              have := hafter e hem heb
              rw [hes, getD_both (hrest s' hs').2] at this
              exact Bool.noConfusion this
          subst his
          have hsp := (hrest i (by simp)).1
          have hns : i ∉ rest := (List.nodup_cons.1 hnd).1
          have far := hfar i hsp oi hoi
          have open' : ∀ j oj, ops[j]? = some oj → (mark (i :: rest) done).getD j true = false → j ∉ sp ∧ ∀ d, oj.dst = some d → d ∉ oi.looksAt ops := fun j oj hj hd => by
            obtain ⟨h1, h2⟩ := mark_open (i :: rest) done j hd
            have hjs : j ∉ sp := fun hj' => h2 (hall j hj' h1)
            refine ⟨hjs, (far j oj hj hjs).2.2.resolve_left ?_⟩
            rintro ⟨e, hem, heb, hes⟩
            have := hafter e hem heb
            rw [hes, getD_both h1] at this
            exact Bool.noConfusion this
          obtain ⟨e1, e2⟩ := oth_same hT (fun cs b => nosel i oi cs b hoi) f _ a open' h
          have hstep := ho w' (Below.refl _ _)
          simp only [hoi] at hstep
          obtain ⟨hwant, hstep⟩ := hstep
          have cont : ∀ v w2, Below w.heap.size w w2 ∧ wpOth P ops w Q rest ((T z).put oi.dst v) w2 → wpAny P md ops Q N (done.setIfInBounds i true) ((T a).put oi.dst v) w2 := fun v w2 ⟨hb2, ho2⟩ => by
            refine ih rest f (done.setIfInBounds i true) a (fun a' => (T a').put oi.dst v) w2 (by simp only [List.length_cons] at hN; omega) (fun t ht => ?_) (fun j hj hd => ?_) (chained_tail hpair) (List.nodup_cons.1 hnd).2 (by simp [hsize]) (fun j oj hj hjs a' => ?_) hb2 ho2 h
            · have hne : i ≠ t := fun e => hns (e ▸ ht)
              refine ⟨(hrest t (by simp [ht])).1, ?_⟩
              rw [getD_set_ne true hne]
              exact (hrest t (by simp [ht])).2
            · rcases Nat.decEq i j with hne | he
              · rw [getD_set_ne true hne] at hd
                rcases List.mem_cons.1 (hall j hj hd) with h1 | h1
                · exact absurd h1.symm hne
                · exact h1
              · subst he; exact absurd hd (by simp)
            · obtain ⟨f1, f2, _⟩ := far j oj hj hjs
              obtain ⟨t1, t2, t3⟩ := hT j oj hj hjs a'
              refine ⟨?_, ?_, fun u => ?_⟩
              · exact (execOp_put oj (fun cs b => nosel j oj cs b hj) (T a') oi.dst v f1).trans t1
              · exact (wanted_put oj (T a') oi.dst v f1).trans t2
              · show ((T a').put oi.dst v).put oj.dst u = (T (a'.put oj.dst u)).put oi.dst v
                rw [Act.put_comm (T a') v u f2, t3 u]
          unfold wpOp
          rw [hoi]
          simp only [← e2, hwant, if_true]
          refine .inl ?_
          unfold othAt at hstep
          unfold Oper.wp
          rw [← e1]
          generalize (execOp (T z).eval oi).run P w' = r at hstep
          cases r with
          | ok nx w2 =>
            cases nx <;> simp only at hstep <;> simp only [Oper.upon]
            case value v => exact cont v w2 hstep
            case skip => exact cont undef w2 hstep
            case enter fn args => exact hstep.mono fun e w3 ⟨v, he, hk⟩ => by subst he; exact cont v w3 hk
          | halt x w2 => simp only at hstep
      · have hi' := mark_ready rest done i hir hi
        cases f with
        | zero => rw [h.1] at hi'; cases hi'
        | succ f =>
          have hr := h.2 i hi'
          have hisp : i ∉ sp := fun hs => hir (hall i hs hopen)
          obtain ⟨t1, t2, t3⟩ := hT i oi hoi hisp a
          obtain ⟨v, hy, hk⟩ := yieldsR_of_rOp hoi hr
          have hy' : YieldsR P ops w oi v (T a) := hy.of_same t1 t2
          have hr' : rOp P ops w i (fun a' => ∃ a0, a' = T a0 ∧ wpAnyR P md ops w (fun a' => a' = z) f ((mark rest done).setIfInBounds i true) a0) (T a) := hy'.rOp hoi ⟨_, t3 v, hk⟩
          refine wpOp_of_qOp (C := fun w'' => Below w'.heap.size w' w'') (Below.refl _ _) (fun a' w'' hw'' hk' => ?_) (rOp_q (fun w1 h1 => xThen hw h1) (fun w1 w2 h1 h2 => xThen h1 h2) hr')
          obtain ⟨a0, rfl, hk0⟩ := hk'
          rw [← mark_set rest done i hir] at hk0
          refine ih rest f (done.setIfInBounds i true) a0 T w'' (by omega) (fun t ht => ?_) (fun j hj hd => ?_) hpair hnd (by simp [hsize]) hT (xThen hw hw'') (wpOth_grow ho hw'') hk0
          · have hne : i ≠ t := fun e => hir (e ▸ ht)
            rw [getD_set_ne true hne]
            exact hrest t ht
          · rcases Nat.decEq i j with hne | he
            · rw [getD_set_ne true hne] at hd; exact hall j hj hd
            · subst he; exact absurd hd (by simp)
end

def chainedB (md : Region.Mode) (ops : Array Oper) : List Nat → Bool
  | s :: t :: r => (match ops[t]? with | some ot => waitsB md ot s | none => false) && chainedB md ops (t :: r)
  | _ => true
theorem chainedB_spec {md : Region.Mode} {ops : Array Oper} (r : List Nat) (h : chainedB md ops r = true) : chained md ops r := by
  induction r with
  | nil => trivial
  | cons s r ih =>
    cases r with
    | nil => trivial
    | cons t r =>
      simp only [chainedB, Bool.and_eq_true] at h
      refine ⟨?_, ih h.2⟩
      have := h.1
      cases hot : ops[t]? with
      | none => simp [hot] at this
      | some ot => simp only [hot] at this; exact ⟨ot, rfl, waitsB_spec this⟩
def nodupB : List Nat → Bool
  | [] => true
  | s :: r => !r.contains s && nodupB r
theorem nodupB_spec (r : List Nat) (h : nodupB r = true) : r.Nodup := by
  induction r with
  | nil => exact List.nodup_nil
  | cons s r ih =>
    simp only [nodupB, Bool.and_eq_true, Bool.not_eq_true'] at h
    exact List.nodup_cons.2 ⟨by simpa using h.1, ih h.2⟩

/-- what the checks of such a region ask: m is the mask of the quiet operations, sp the others in their order -/
def othB2 (md : Region.Mode) (l : List Oper) (m : List Bool) (sp : List Nat) : Bool :=
  Region.noSelect l.toArray && (chainedB md l.toArray sp && nodupB sp) && sp.all (fun s => decide (s < l.length)) && decide ((sift l m).length + sp.length = l.length) &&
    (List.range l.length).all (fun j => match l.toArray[j]? with
      | some oj => oj.after.all (fun e => !Region.binds md e || decide (e.on < j)) && (sp.contains j || sp.all fun s => match l.toArray[s]? with | some os => farB md l.toArray j os oj | none => true)
      | none => true) &&
    lexS md l.toArray l m 0 (mark sp (Array.replicate l.length false))

theorem wp_region_oth2 {P : Program} {id : Nat} {Q : Exit → Act → World → Prop} {a : Act} {w : World} {l : List Oper} (m : List Bool) (sp : List Nat) (hm : P.follows .mixedOrders = true) (hB : othB2 .any l m sp = true)
    (h : wpRel P l.toArray w (fun z => wpOth P l.toArray w Q sp z w) (sift l m) a) : (Code.region id l.toArray true).wp P Q a w := by
  simp only [othB2, Bool.and_eq_true, decide_eq_true_eq, List.all_eq_true] at hB
  obtain ⟨⟨⟨⟨⟨hsel, hpair, hnd0⟩, hlt⟩, hcnt⟩, hfar⟩, hlex⟩ := hB
  have hpw := chainedB_spec sp hpair
  have hnd := nodupB_spec sp hnd0
  have nosel := Region.noSelect_spec hsel
  have inl : ∀ j oj, l.toArray[j]? = some oj → j ∈ List.range l.length := fun j oj hj => List.mem_range.2 (by simpa using (Array.getElem?_eq_some_iff.1 hj).1)
  refine wp_region_any hm ?_
  obtain ⟨z, hz, hr⟩ := wpRel_end _ _ h
  have H := wpAnyR_lex (md := .any) hsel l m 0 (mark sp (Array.replicate l.length false)) a (by simp) hlex hr
  have key := wpAny_oth2 (md := .any) (P := P) (w := w) (Q := Q) (z := z) (sp := sp) nosel (fun j oj hj e he hb => ?_) (fun s hs os hos j oj hj hjs => ?_) l.length sp (sift l m).length (Array.replicate l.length false) a (fun a => a)
    { w with drawn := w.drawn + 1 } hcnt.symm (fun s hs => ⟨hs, getD_in (by simpa using hlt s hs) (getD_replicate_false _ _)⟩) (fun j hj _ => hj) hpw hnd (by simp) (fun _ _ _ _ _ => ⟨rfl, rfl, fun _ => rfl⟩) (Below.refl _ _).drew
    (wpOth_grow hz (Below.refl _ _).drew) H
  · simpa using key
  · have := hfar j (inl j oj hj)
    simp only [hj, Bool.and_eq_true] at this
    have := Array.all_eq_true_iff_forall_mem.1 this.1 e he
    simp only [hb, Bool.not_true, Bool.false_or, decide_eq_true_eq] at this
    exact this
  · have := hfar j (inl j oj hj)
    simp only [hj, Bool.and_eq_true, Bool.or_eq_true, List.contains_iff_mem, List.all_eq_true] at this
    have := this.2.resolve_left hjs s hs
    simp only [hos, farB, Bool.and_eq_true, Bool.or_eq_true] at this
    obtain ⟨f1, f2⟩ := this
    refine ⟨fun d hd => ?_, fun d hd => ?_, f2.imp waitsB_spec fun f3 d hd => ?_⟩
    · simp only [hd, Bool.and_eq_true] at f1; simpa using f1.1
    · simp only [hd, Bool.and_eq_true] at f1; simpa using f1.2
    · simp only [hd] at f3; simpa using f3
end Go.Proofs.Ytmcjabodkjlkgaa
