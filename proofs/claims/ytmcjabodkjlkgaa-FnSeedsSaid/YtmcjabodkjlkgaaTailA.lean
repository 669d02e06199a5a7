/-
  A region that draws its order: most of its operations read, or call what lets old memory be; the others (a box made, a store into it) come in one forced order among themselves, at any time: one walk of the first in the order of the text, then one of the others, serves every order.
-/
import Derived.Test.YtmcjabodkjlkgaaTail
import Derived.Test.YtmcjabodkjlkgaaMark
namespace Go.Proofs.Ytmcjabodkjlkgaa
open Go.RowKit

section
variable {P : Program} {ops : Array Oper} {md : Region.Mode} {w : World} {C : World → Prop}

/-- one value in every world that has grown from w, and what such a world held stays -/
def relAt (P : Program) (o : Oper) (a : Act) (w : World) (next : Act → Prop) : Prop :=
  ∃ v, (∀ x : ExtW w, o.quietAt P a (fun w'' => Below x.u.heap.size x.u w'') x.u v) ∧ next (a.put o.dst v)

def wpRel (P : Program) (ops : Array Oper) (w : World) (F : Act → Prop) : List Oper → Act → Prop
  | [], a => F a
  | o :: l, a => if Region.wanted o (yielded ops a.tmps) then relAt P o a w (wpRel P ops w F l) else wpRel P ops w F l (a.put o.dst undef)

theorem wpRel_nil {F : Act → Prop} {a : Act} (h : F a) : wpRel P ops w F [] a := h
theorem wpRel_step {F : Act → Prop} {a : Act} {o : Oper} {l : List Oper}
    (h : ∀ K : Act → Prop, (∀ a, wpRel P ops w F l a → K a) → if Region.wanted o (yielded ops a.tmps) then relAt P o a w K else K (a.put o.dst undef)) : wpRel P ops w F (o :: l) a :=
  h _ (fun _ h => h)

/-- operation number i -/
def rOp (P : Program) (ops : Array Oper) (w : World) (i : Nat) (K : Act → Prop) (a : Act) : Prop :=
  match ops[i]? with
  | none => K a
  | some o => if Region.wanted o (yielded ops a.tmps) then relAt P o a w K else K (a.put o.dst undef)

def YieldsR (P : Program) (ops : Array Oper) (w : World) (o : Oper) (v : Value) (a : Act) : Prop :=
  (Region.wanted o (yielded ops a.tmps) = true ∧ ∀ x : ExtW w, o.quietAt P a (fun w'' => Below x.u.heap.size x.u w'') x.u v) ∨
  (Region.wanted o (yielded ops a.tmps) = false ∧ v = undef)

theorem YieldsR.rOp {i : Nat} {o : Oper} {v : Value} {a : Act} (hi : ops[i]? = some o) (hy : YieldsR P ops w o v a) {K : Act → Prop} (h : K (a.put o.dst v)) : rOp P ops w i K a := by
  unfold Go.Proofs.Ytmcjabodkjlkgaa.rOp
  simp only [hi]
  rcases hy with ⟨hw, hv⟩ | ⟨hw, rfl⟩
  · simp only [hw, if_true]; exact ⟨v, hv, h⟩
  · simp only [hw, Bool.false_eq_true, if_false]; exact h

theorem YieldsR.of_same {o : Oper} {v : Value} {a a' : Act} (hy : YieldsR P ops w o v a) (he : execOp a'.eval o = execOp a.eval o)
    (hw : Region.wanted o (yielded ops a'.tmps) = Region.wanted o (yielded ops a.tmps)) : YieldsR P ops w o v a' := by
  unfold YieldsR Oper.quietAt at *
  rw [he, hw]
  exact hy

theorem yieldsR_of_rOp {i : Nat} {o : Oper} {a : Act} {K : Act → Prop} (hi : ops[i]? = some o) (h : rOp P ops w i K a) : ∃ v, YieldsR P ops w o v a ∧ K (a.put o.dst v) := by
  unfold rOp at h
  simp only [hi] at h
  by_cases hw : Region.wanted o (yielded ops a.tmps) = true
  · simp only [hw, if_true] at h
    obtain ⟨v, h1, h2⟩ := h
    exact ⟨v, .inl ⟨hw, h1⟩, h2⟩
  · simp only [hw] at h
    exact ⟨undef, .inr ⟨by simpa using hw, rfl⟩, h⟩

theorem rOp_mono {i : Nat} {a : Act} {K K' : Act → Prop} (h : ∀ a, K a → K' a) (hh : rOp P ops w i K a) : rOp P ops w i K' a := by
  cases hi : ops[i]? with
  | none => unfold rOp at *; simp only [hi] at *; exact h _ hh
  | some o =>
    obtain ⟨v, hy, hk⟩ := yieldsR_of_rOp hi hh
    exact hy.rOp hi (h _ hk)

theorem rOp_put {j : Nat} {oi oj : Oper} {v : Value} (hj : ops[j]? = some oj) (hap : oi.apart ops oj = true)
    (hsi : ∀ cs b, oi.op ≠ .select cs b) (hsj : ∀ cs b, oj.op ≠ .select cs b) {K : Act → Prop} {a : Act}
    (hy : YieldsR P ops w oi v a) (h : rOp P ops w j K (a.put oi.dst v)) :
    rOp P ops w j (fun a' => YieldsR P ops w oi v a' ∧ K (a'.put oi.dst v)) a := by
  obtain ⟨h1, h2, h3⟩ := Oper.apart_spec hap
  have keep : ∀ u, YieldsR P ops w oi v (a.put oj.dst u) := fun u => hy.of_same (execOp_put oi hsi a oj.dst u h3) (wanted_put oi a oj.dst u h3)
  obtain ⟨u, hu, hk⟩ := yieldsR_of_rOp hj h
  have hu' : YieldsR P ops w oj u a := hu.of_same (execOp_put oj hsj a oi.dst v h1).symm (wanted_put oj a oi.dst v h1).symm
  refine hu'.rOp hj ⟨keep u, ?_⟩
  rw [← Act.put_comm a v u h2]
  exact hk

theorem quietAt_mono {o : Oper} {a : Act} {C C' : World → Prop} {w' : World} {v : Value} (h : ∀ w'', C w'' → C' w'') (hh : o.quietAt P a C w' v) : o.quietAt P a C' w' v := by
  unfold Oper.quietAt at *
  generalize (execOp a.eval o).run P w' = r at *
  cases r with
  | ok n w1 =>
    cases n <;> simp only [Oper.quietUpon] at hh ⊢ <;> first | exact hh | skip
    exact ⟨hh.1, hh.2.mono fun e w'' ⟨he, hc⟩ => ⟨he, h _ hc⟩⟩
  | halt x w1 => simp only [Oper.quietUpon] at hh

/-- in a class of worlds that have grown from w, which a step that lets old memory be does not leave -/
theorem rOp_q {i : Nat} {a : Act} {K : Act → Prop} (hC : ∀ w', C w' → Below w.heap.size w w') (step : ∀ w' w'', C w' → Below w'.heap.size w' w'' → C w'') (h : rOp P ops w i K a) : qOp P ops C i K a := by
  cases hi : ops[i]? with
  | none => unfold rOp at h; unfold qOp; simp only [hi] at *; exact h
  | some o =>
    obtain ⟨v, hy, hk⟩ := yieldsR_of_rOp hi h
    refine YieldsIn.qOp hi (v := v) ?_ hk
    rcases hy with ⟨hw, hv⟩ | hy
    · exact .inl ⟨hw, fun w' hw' => quietAt_mono (fun w'' hb => step w' w'' hw' hb) (hv ⟨w', hC w' hw'⟩)⟩
    · exact .inr hy

/-- whatever order is picked from here on -/
def wpAnyR (P : Program) (md : Region.Mode) (ops : Array Oper) (w : World) (F : Act → Prop) : Nat → Array Bool → Act → Prop
  | 0, done, a => Region.ready md ops done = [] ∧ F a
  | f + 1, done, a => (Region.ready md ops done = [] → F a) ∧ ∀ i ∈ Region.ready md ops done, rOp P ops w i (wpAnyR P md ops w F f (done.setIfInBounds i true)) a

theorem wpAnyR_front {F : Act → Prop} {i : Nat} {oi : Oper} {v : Value} (hoi : ops[i]? = some oi) (nosel : ∀ (j : Nat) (o : Oper) cs b, ops[j]? = some o → o.op ≠ .select cs b) (f : Nat) :
    ∀ done a, (∀ j oj, ops[j]? = some oj → j ≠ i → done.getD j true = false → (∀ e ∈ oj.after, Region.binds md e = true → e.on ≠ i) → oi.apart ops oj = true) →
      i ∈ Region.ready md ops done → YieldsR P ops w oi v a → wpAnyR P md ops w F f (done.setIfInBounds i true) (a.put oi.dst v) → wpAnyR P md ops w F (f + 1) done a := by
  induction f with
  | zero =>
    intro done a _ hready hy rest
    refine ⟨fun he => ?_, fun j hj => ?_⟩
    · rw [he] at hready; cases hready
    · rcases Nat.decEq j i with hji | hji
      · have := ready_mono hj hji
        rw [rest.1] at this
        cases this
      · subst hji; exact hy.rOp hoi rest
  | succ f ih =>
    intro done a hap hready hy rest
    have hopen := (mem_ready.1 hready).1
    refine ⟨fun he => ?_, fun j hj => ?_⟩
    · rw [he] at hready; cases hready
    · rcases Nat.decEq j i with hji | hji
      · obtain ⟨jopen, oj, hoj, jafter⟩ := mem_ready.1 hj
        have jnot : ∀ e ∈ oj.after, Region.binds md e = true → e.on ≠ i := by
          intro e he hb heq
          have := jafter e he hb
          rw [heq, getD_both hopen] at this
          exact Bool.noConfusion this
        have step := rest.2 j (ready_mono hj hji)
        refine rOp_mono (fun a' hk => ?_) (rOp_put hoj (hap j oj hoj hji jopen jnot) (fun cs b => nosel i oi cs b hoi) (fun cs b => nosel j oj cs b hoj) hy step)
        refine ih (done.setIfInBounds j true) a' (fun k ok hk hki kopen kno => ?_) (ready_mono hready (Ne.symm hji)) hk.1 ?_
        · rcases Nat.decEq j k with hjk | hjk
          · rw [getD_set_ne true hjk] at kopen; exact hap k ok hk hki kopen kno
          · subst hjk; exact hap _ ok hk hki jopen kno
        · rw [Array.setIfInBounds_comm _ _ hji]; exact hk.2
      · subst hji; exact hy.rOp hoi rest

/-- the operations of a mask -/
def sift : List Oper → List Bool → List Oper
  | o :: l, true :: m => o :: sift l m
  | _ :: l, false :: m => sift l m
  | _, _ => []
/-- the masked operations may come in the order of the text -/
def lexS (md : Region.Mode) (ops : Array Oper) : List Oper → List Bool → Nat → Array Bool → Bool
  | _ :: l, true :: m, k, done => (Region.ready md ops done).contains k && Region.free md ops done k && lexS md ops l m (k + 1) (done.setIfInBounds k true)
  | _ :: l, false :: m, k, done => lexS md ops l m (k + 1) done
  | [], _, _, done => (Region.ready md ops done).isEmpty
  | _ :: _, [], _, _ => false

theorem wpAnyR_lex {F : Act → Prop} (hsel : Region.noSelect ops = true) (l : List Oper) :
    ∀ m k done a, (∀ j, l[j]? = ops[k + j]?) → lexS md ops l m k done = true → wpRel P ops w F (sift l m) a → wpAnyR P md ops w F (sift l m).length done a := by
  induction l with
  | nil => intro m k done a _ hB h; simp only [sift] at *; exact ⟨by cases m <;> simpa [lexS] using hB, h⟩
  | cons o l ih =>
    intro m k done a hl hB h
    have hok : ops[k]? = some o := by have := hl 0; simpa using this.symm
    have next : ∀ j, l[j]? = ops[k + 1 + j]? := fun j => by
      have := hl (j + 1)
      rw [show k + 1 + j = k + (j + 1) by omega, ← this]
      simp
    cases m with
    | nil => simp [lexS] at hB
    | cons b m =>
      cases b with
      | false => simp only [lexS, sift] at *; exact ih m (k + 1) _ _ next hB h
      | true =>
        simp only [lexS, sift, wpRel, Bool.and_eq_true, List.length_cons] at *
        have hready : k ∈ Region.ready md ops done := by simpa using hB.1.1
        have hq : rOp P ops w k (wpRel P ops w F (sift l m)) a := by unfold rOp; rw [hok]; exact h
        obtain ⟨v, hy, hrest⟩ := yieldsR_of_rOp hok hq
        exact wpAnyR_front hok (Region.noSelect_spec hsel) _ done a (Region.free_spec hok hB.1.2) hready hy (ih m (k + 1) _ _ next hB.2 hrest)

/-- the frame at the end is one -/
theorem wpRel_end {F : Act → Prop} (l : List Oper) : ∀ a, wpRel P ops w F l a → ∃ z, F z ∧ wpRel P ops w (fun a' => a' = z) l a := by
  induction l with
  | nil => intro a h; exact ⟨a, h, rfl⟩
  | cons o l ih =>
    intro a h
    simp only [wpRel] at h ⊢
    split at h
    · rename_i hw
      obtain ⟨v, hv, hk⟩ := h
      obtain ⟨z, hz, hr⟩ := ih _ hk
      exact ⟨z, hz, by simp only [hw, if_true]; exact ⟨v, hv, hr⟩⟩
    · rename_i hw
      obtain ⟨z, hz, hr⟩ := ih _ h
      exact ⟨z, hz, by simp only [hw]; exact hr⟩

/-- one of the others, carried out -/
def othAt (P : Program) (o : Oper) (b : Act) (w1 : World) (K : Value → World → Prop) : Prop :=
  match (execOp b.eval o).run P w1 with
  | .ok (.value v) w2 => K v w2
  | .ok .skip w2 => K undef w2
  | .ok (.enter f args) w2 => Calls P f args w2 fun e w3 => ∃ v, e = .returned v ∧ K v w3
  | _ => False

/-- the others, in their one order; before each of them the world may grow -/
def wpOth (P : Program) (ops : Array Oper) (w : World) (Q : Exit → Act → World → Prop) : List Nat → Act → World → Prop
  | [], b, w' => ∀ w1, Below w'.heap.size w' w1 → Q .normal b w1
  | s :: rest, b, w' => ∀ w1, Below w'.heap.size w' w1 →
    match ops[s]? with
    | some o => Region.wanted o (yielded ops b.tmps) = true ∧ othAt P o b w1 fun v w2 => Below w.heap.size w w2 ∧ wpOth P ops w Q rest (b.put o.dst v) w2
    | none => False

theorem wpOth_grow {Q : Exit → Act → World → Prop} {rest : List Nat} {b : Act} {w' w'' : World} (h : wpOth P ops w Q rest b w') (hb : Below w'.heap.size w' w'') : wpOth P ops w Q rest b w'' := by
  cases rest with
  | nil => exact fun w1 h1 => h w1 (xThen hb h1)
  | cons s rest => exact fun w1 h1 => h w1 (xThen hb h1)

theorem wpOth_op {Q : Exit → Act → World → Prop} {s : Nat} {rest : List Nat} {o : Oper} {b : Act} {w' : World} (ho : ops[s]? = some o) (hw : Region.wanted o (yielded ops b.tmps) = true)
    (h : ∀ w1, Below w'.heap.size w' w1 → othAt P o b w1 fun v w2 => Below w.heap.size w w2 ∧ wpOth P ops w Q rest (b.put o.dst v) w2) : wpOth P ops w Q (s :: rest) b w' := by
  intro w1 h1
  simp only [ho]
  exact ⟨hw, h w1 h1⟩
theorem wpOth_alloc {Q : Exit → Act → World → Prop} {s : Nat} {rest : List Nat} {o : Oper} {b : Act} {w' : World} {cs : Array Value} {t : TypeId} (ho : ops[s]? = some o) (hg : o.guard = none) (hw' : Below w.heap.size w w')
    (hA : ∀ e w', (execOp e o).run P w' = .ok (.value (.pointer (some ⟨w'.heap.size, 0, none⟩))) (w'.alloc (.cells cs t (0, 0))))
    (h : ∀ g w1, Below w'.heap.size w' w1 → w'.heap.size ≤ g → w1.heap[g]? = some (.cells cs t (0, 0)) → wpOth P ops w Q rest (b.put o.dst (.pointer (some ⟨g, 0, none⟩))) w1) : wpOth P ops w Q (s :: rest) b w' := by
  refine wpOth_op ho (by unfold Region.wanted; rw [hg]) (fun w1 h1 => ?_)
  unfold othAt
  rw [hA]
  exact ⟨xAlloc (xThen hw' h1) _, h _ _ (xAlloc h1 _) h1.size (by show (w1.heap.push _)[w1.heap.size]? = _; simp)⟩

/-- the stores of a struct's fields -/
def stores (w : World) (g : Nat) : Nat → List Value → World
  | _, [] => w
  | k, v :: vs => stores (w.setCell ⟨g, k, none⟩ v) g (k + 1) vs
def storesA (cur : Array Value) : Nat → List Value → Array Value
  | _, [] => cur
  | k, v :: vs => storesA (cur.setIfInBounds k v) (k + 1) vs
theorem stores_at {g : Nat} {t : TypeId} (vs : List Value) : ∀ (k : Nat) (w : World) (cur : Array Value), w.heap[g]? = some (.cells cur t (0, 0)) → (stores w g k vs).heap[g]? = some (.cells (storesA cur k vs) t (0, 0)) := by
  induction vs with
  | nil => intro k w cur h; exact h
  | cons v vs ih => intro k w cur h; exact ih _ _ _ (heap_setCell_at h)
theorem stores_below {g B : Nat} {w : World} (hg : B ≤ g) (vs : List Value) : ∀ (k : Nat) (a : World), Below B w a → Below B w (stores a g k vs) := by
  induction vs with
  | nil => intro k a h; exact h
  | cons v vs ih => intro k a h; exact ih _ _ (Below.setCell h hg _)

/-- a world that has grown from w, with a box at block g that w did not have -/
structure Boxed (w : World) (cs : Array Value) (t : TypeId) (g : Nat) (w' : World) : Prop where
  b : Below w.heap.size w w'
  box : w'.heap[g]? = some (.cells cs t (0, 0))
  new : w.heap.size ≤ g

/-- a box is made, and a struct is laid into it -/
theorem wpOth_box {Q : Exit → Act → World → Prop} {iA iS : Nat} {oA oS : Oper} {b : Act} {cs cs' : Array Value} {t : TypeId} (hoA : ops[iA]? = some oA) (hgA : oA.guard = none)
    (hA : ∀ e w', (execOp e oA).run P w' = .ok (.value (.pointer (some ⟨w'.heap.size, 0, none⟩))) (w'.alloc (.cells cs t (0, 0)))) (hoS : ops[iS]? = some oS) (hgS : oS.guard = none) (hdS : oS.dst = none) (vs : List Value) (hcs : storesA cs 0 vs = cs')
    (hS : ∀ g w', w'.heap[g]? = some (.cells cs t (0, 0)) → (execOp (b.put oA.dst (.pointer (some ⟨g, 0, none⟩))).eval oS).run P w' = .ok .skip (stores w' g 0 vs))
    (h : ∀ g w', Boxed w cs' t g w' → Q .normal (b.put oA.dst (.pointer (some ⟨g, 0, none⟩))) w') : wpOth P ops w Q [iA, iS] b w := by
  refine wpOth_alloc hoA hgA (Below.refl _ _) hA (fun g w1 h1 hg hbox => ?_)
  refine wpOth_op hoS (by unfold Region.wanted; rw [hgS]) (fun w2 h2 => ?_)
  have hbox2 : w2.heap[g]? = some (.cells cs t (0, 0)) := (h2.block _ (Array.getElem?_eq_some_iff.1 hbox).1).trans hbox
  unfold othAt
  rw [hS g w2 hbox2]
  have hb3 := stores_below (w := w) hg vs 0 w2 (xThen h1 h2)
  refine ⟨hb3, fun w3 h3 => ?_⟩
  rw [hdS]
  have hbox3 := stores_at vs 0 w2 cs hbox2
  rw [hcs] at hbox3
  exact h g w3 ⟨xThen hb3 h3, (h3.block _ (Array.getElem?_eq_some_iff.1 hbox3).1).trans hbox3, hg⟩

/-- T puts values of the others: the operations of the mask don't see them -/
def goodT (ops : Array Oper) (sp : List Nat) (T : Act → Act) : Prop :=
  ∀ j oj, ops[j]? = some oj → j ∉ sp → ∀ a, execOp (T a).eval oj = execOp a.eval oj ∧ Region.wanted oj (yielded ops (T a).tmps) = Region.wanted oj (yielded ops a.tmps) ∧ ∀ u, (T a).put oj.dst u = T (a.put oj.dst u)

def mark : List Nat → Array Bool → Array Bool
  | [], done => done
  | s :: r, done => mark r (done.setIfInBounds s true)
theorem mark_set (r : List Nat) : ∀ (done : Array Bool) (i : Nat), i ∉ r → mark r (done.setIfInBounds i true) = (mark r done).setIfInBounds i true := by
  induction r with
  | nil => intro done i _; rfl
  | cons s r ih =>
    intro done i hi
    have h1 : i ≠ s := fun e => hi (by simp [e])
    have h2 : i ∉ r := fun e => hi (by simp [e])
    show mark r ((done.setIfInBounds i true).setIfInBounds s true) = (mark r (done.setIfInBounds s true)).setIfInBounds i true
    rw [Array.setIfInBounds_comm _ _ h1, ih _ i h2]
theorem mark_ready (r : List Nat) : ∀ (done : Array Bool) (i : Nat), i ∉ r → i ∈ Region.ready md ops done → i ∈ Region.ready md ops (mark r done) := by
  induction r with
  | nil => intro done i _ h; exact h
  | cons s r ih =>
    intro done i hi h
    exact ih _ i (fun e => hi (by simp [e])) (ready_mono h (fun e => hi (by simp [e])))
theorem mark_open (r : List Nat) : ∀ (done : Array Bool) (i : Nat), (mark r done).getD i true = false → done.getD i true = false ∧ i ∉ r := by
  induction r with
  | nil => intro done i h; exact ⟨h, by simp⟩
  | cons s r ih =>
    intro done i h
    obtain ⟨h1, h2⟩ := ih _ i h
    rcases Nat.decEq s i with hne | he
    · rw [getD_set_ne true hne] at h1
      exact ⟨h1, by simp [h2, Ne.symm hne]⟩
    · subst he
      exact absurd h1 (by simp)

/-- an open operation: one is ready -/
theorem ready_some {done : Array Bool} (hback : ∀ j oj, ops[j]? = some oj → ∀ e ∈ oj.after, Region.binds md e = true → e.on < j) (hs : done.size = ops.size) (j : Nat) : done.getD j true = false → Region.ready md ops done ≠ [] := by
  induction j using Nat.strongRecOn with
  | _ j ih =>
    intro hj he
    have hjs : j < ops.size := by
      rcases Nat.lt_or_ge j done.size with h | h
      · omega
      · simp [Array.getElem?_eq_none h] at hj
    have hoj : ops[j]? = some ops[j] := Array.getElem?_eq_getElem hjs
    have hnot : j ∉ Region.ready md ops done := by rw [he]; simp
    refine hnot (mem_ready.2 ⟨hj, _, hoj, fun e hm hb => ?_⟩)
    have hlt := hback j _ hoj e hm hb
    cases hd : done.getD e.on false with
    | true => rfl
    | false => exact absurd he (ih e.on hlt (getD_in (by omega) hd))

/-- what an operation reads of the frame at the end it reads now, if what is open does not put it -/
theorem oth_same {T : Act → Act} {z : Act} {sp : List Nat} {oS : Oper} (hT : goodT ops sp T) (hsel : ∀ cs b, oS.op ≠ .select cs b) (f : Nat) :
    ∀ done a, (∀ j oj, ops[j]? = some oj → done.getD j true = false → j ∉ sp ∧ ∀ d, oj.dst = some d → d ∉ oS.looksAt ops) → wpAnyR P md ops w (fun a' => a' = z) f done a →
      execOp (T z).eval oS = execOp (T a).eval oS ∧ Region.wanted oS (yielded ops (T z).tmps) = Region.wanted oS (yielded ops (T a).tmps) := by
  induction f with
  | zero => intro done a _ h; rw [h.2]; exact ⟨rfl, rfl⟩
  | succ f ih =>
    intro done a hap h
    cases hr : Region.ready md ops done with
    | nil => rw [h.1 hr]; exact ⟨rfl, rfl⟩
    | cons i r =>
      have hi : i ∈ Region.ready md ops done := by rw [hr]; simp
      obtain ⟨hopen, oi, hoi, _⟩ := mem_ready.1 hi
      obtain ⟨hns, hd⟩ := hap i oi hoi hopen
      obtain ⟨v, _, hk⟩ := yieldsR_of_rOp hoi (h.2 i hi)
      obtain ⟨e1, e2⟩ := ih _ _ (fun j oj hj ho => by
        rcases Nat.decEq i j with hne | he
        · rw [getD_set_ne true hne] at ho; exact hap j oj hj ho
        · subst he; exact absurd ho (by simp)) hk
      obtain ⟨_, _, hp⟩ := hT i oi hoi hns a
      rw [e1, e2, ← hp v]
      exact ⟨execOp_put oS hsel (T a) oi.dst v hd, wanted_put oS (T a) oi.dst v hd⟩

/-- all orders -/
theorem wpAny_oth {Q : Exit → Act → World → Prop} {z : Act} {sp : List Nat} (nosel : ∀ (j : Nat) (o : Oper) cs b, ops[j]? = some o → o.op ≠ .select cs b)
    (hback : ∀ j oj, ops[j]? = some oj → ∀ e ∈ oj.after, Region.binds md e = true → e.on < j)
    (hfar : ∀ s, s ∈ sp → ∀ os, ops[s]? = some os → ∀ j oj, ops[j]? = some oj → j ∉ sp → (∀ d, os.dst = some d → d ∉ oj.looksAt ops) ∧ (∀ d, os.dst = some d → oj.dst ≠ some d) ∧ ((∃ e ∈ os.after, Region.binds md e = true ∧ e.on = j) ∨ ∀ d, oj.dst = some d → d ∉ os.looksAt ops)) (N : Nat) :
    ∀ (rest : List Nat) (f : Nat) (done : Array Bool) (a : Act) (T : Act → Act) (w' : World), N = f + rest.length → (∀ s ∈ rest, s ∈ sp ∧ done.getD s true = false) → (∀ j, j ∈ sp → done.getD j true = false → j ∈ rest) →
      rest.Pairwise (fun s t => ∃ ot, ops[t]? = some ot ∧ ∃ e ∈ ot.after, Region.binds md e = true ∧ e.on = s) → rest.Nodup → done.size = ops.size →
      goodT ops sp T → Below w.heap.size w w' → wpOth P ops w Q rest (T z) w' → wpAnyR P md ops w (fun a' => a' = z) f (mark rest done) a → wpAny P md ops Q N done (T a) w' := by
  induction N with
  | zero =>
    intro rest f done a T w' hN _ _ _ _ _ _ _ ho h
    have hr : rest = [] := by cases rest with | nil => rfl | cons => simp at hN
    have hf : f = 0 := by omega
    subst hr hf
    rw [h.2]
    exact ⟨h.1, ho w' (Below.refl _ _)⟩
  | succ N ih =>
    intro rest f done a T w' hN hrest hall hpair hnd hsize hT hw ho h
    refine ⟨fun he => ?_, fun i hi => ?_⟩
    · have hr : rest = [] := by
        cases rest with
        | nil => rfl
        | cons s r => exact absurd he (ready_some hback hsize s (hrest s (by simp)).2)
      subst hr
      have ha : a = z := by
        cases f with
        | zero => exact h.2
        | succ f => exact h.1 he
      rw [ha]
      exact ho w' (Below.refl _ _)
    · obtain ⟨hopen, oi, hoi, hafter⟩ := mem_ready.1 hi
      by_cases hir : i ∈ rest
      · cases rest with
        | nil => cases hir
        | cons s rest =>
          have his : i = s := by
            rcases List.mem_cons.1 hir with h1 | h1
            · exact h1
            · obtain ⟨ot, hot, e, hem, heb, hes⟩ := (List.pairwise_cons.1 hpair).1 i h1
              have : ot = oi := Option.some.inj (hot.symm.trans hoi)
              subst this
              have := hafter e hem heb
              rw [hes, getD_both (hrest s (by simp)).2] at this
              exact Bool.noConfusion this
          subst his
          have hsp := (hrest i (by simp)).1
          have hns : i ∉ rest := (List.nodup_cons.1 hnd).1
          have far := hfar i hsp oi hoi
          have open' : ∀ j oj, ops[j]? = some oj → (mark (i :: rest) done).getD j true = false → j ∉ sp ∧ ∀ d, oj.dst = some d → d ∉ oi.looksAt ops := fun j oj hj hd => by
            obtain ⟨h1, h2⟩ := mark_open (i :: rest) done j hd
            have hjs : j ∉ sp := fun hj' => h2 (hall j hj' h1)
            refine ⟨hjs, (far j oj hj hjs).2.2.resolve_left ?_⟩
            rintro ⟨e, hem, heb, hes⟩
            have := hafter e hem heb
            rw [hes, getD_both h1] at this
            exact Bool.noConfusion this
          obtain ⟨e1, e2⟩ := oth_same hT (fun cs b => nosel i oi cs b hoi) f _ a open' h
          have hstep := ho w' (Below.refl _ _)
          simp only [hoi] at hstep
          obtain ⟨hwant, hstep⟩ := hstep
          have cont : ∀ v w2, Below w.heap.size w w2 ∧ wpOth P ops w Q rest ((T z).put oi.dst v) w2 → wpAny P md ops Q N (done.setIfInBounds i true) ((T a).put oi.dst v) w2 := fun v w2 ⟨hb2, ho2⟩ => by
            refine ih rest f (done.setIfInBounds i true) a (fun a' => (T a').put oi.dst v) w2 (by simp only [List.length_cons] at hN; omega) (fun t ht => ?_) (fun j hj hd => ?_) (List.pairwise_cons.1 hpair).2 (List.nodup_cons.1 hnd).2 (by simp [hsize]) (fun j oj hj hjs a' => ?_) hb2 ho2 h
            · have hne : i ≠ t := fun e => hns (e ▸ ht)
              refine ⟨(hrest t (by simp [ht])).1, ?_⟩
              rw [getD_set_ne true hne]
              exact (hrest t (by simp [ht])).2
            · rcases Nat.decEq i j with hne | he
              · rw [getD_set_ne true hne] at hd
                rcases List.mem_cons.1 (hall j hj hd) with h1 | h1
                · exact absurd h1.symm hne
                · exact h1
              · subst he; exact absurd hd (by simp)
            · obtain ⟨f1, f2, _⟩ := far j oj hj hjs
              obtain ⟨t1, t2, t3⟩ := hT j oj hj hjs a'
              refine ⟨?_, ?_, fun u => ?_⟩
              · exact (execOp_put oj (fun cs b => nosel j oj cs b hj) (T a') oi.dst v f1).trans t1
              · exact (wanted_put oj (T a') oi.dst v f1).trans t2
              · show ((T a').put oi.dst v).put oj.dst u = (T (a'.put oj.dst u)).put oi.dst v
                rw [Act.put_comm (T a') v u f2, t3 u]
          unfold wpOp
          rw [hoi]
          simp only [← e2, hwant, if_true]
          refine .inl ?_
          unfold othAt at hstep
          unfold Oper.wp
          rw [← e1]
          generalize (execOp (T z).eval oi).run P w' = r at hstep
          cases r with
          | ok nx w2 =>
            cases nx <;> simp only at hstep <;> simp only [Oper.upon]
            case value v => exact cont v w2 hstep
            case skip => exact cont undef w2 hstep
            case enter fn args => exact hstep.mono fun e w3 ⟨v, he, hk⟩ => by subst he; exact cont v w3 hk
          | halt x w2 => simp only at hstep
      · have hi' := mark_ready rest done i hir hi
        cases f with
        | zero => rw [h.1] at hi'; cases hi'
        | succ f =>
          have hr := h.2 i hi'
          have hisp : i ∉ sp := fun hs => hir (hall i hs hopen)
          obtain ⟨t1, t2, t3⟩ := hT i oi hoi hisp a
          obtain ⟨v, hy, hk⟩ := yieldsR_of_rOp hoi hr
          have hy' : YieldsR P ops w oi v (T a) := hy.of_same t1 t2
          have hr' : rOp P ops w i (fun a' => ∃ a0, a' = T a0 ∧ wpAnyR P md ops w (fun a' => a' = z) f ((mark rest done).setIfInBounds i true) a0) (T a) := hy'.rOp hoi ⟨_, t3 v, hk⟩
          refine wpOp_of_qOp (C := fun w'' => Below w'.heap.size w' w'') (Below.refl _ _) (fun a' w'' hw'' hk' => ?_) (rOp_q (fun w1 h1 => xThen hw h1) (fun w1 w2 h1 h2 => xThen h1 h2) hr')
          obtain ⟨a0, rfl, hk0⟩ := hk'
          rw [← mark_set rest done i hir] at hk0
          refine ih rest f (done.setIfInBounds i true) a0 T w'' (by omega) (fun t ht => ?_) (fun j hj hd => ?_) hpair hnd (by simp [hsize]) hT (xThen hw hw'') (wpOth_grow ho hw'') hk0
          · have hne : i ≠ t := fun e => hir (e ▸ ht)
            rw [getD_set_ne true hne]
            exact hrest t ht
          · rcases Nat.decEq i j with hne | he
            · rw [getD_set_ne true hne] at hd; exact hall j hj hd
            · subst he; exact absurd hd (by simp)
end

/-- the world gets a name -/
theorem wp_named {P : Program} {c : Code} {Q : Exit → Act → World → Prop} {a : Act} {W : World} (h : ∀ W', W = W' → c.wp P Q a W') : c.wp P Q a W := h _ rfl

def waitsB (md : Region.Mode) (o : Oper) (s : Nat) : Bool := o.after.any fun e => Region.binds md e && e.on == s
theorem waitsB_spec {md : Region.Mode} {o : Oper} {s : Nat} (h : waitsB md o s = true) : ∃ e ∈ o.after, Region.binds md e = true ∧ e.on = s := by
  obtain ⟨e, he, hb⟩ := Array.any_eq_true'.1 h
  simp only [Bool.and_eq_true, beq_iff_eq] at hb
  exact ⟨e, he, hb.1, hb.2⟩
def pairB (md : Region.Mode) (ops : Array Oper) : List Nat → Bool
  | [] => true
  | s :: r => r.all (fun t => match ops[t]? with | some ot => waitsB md ot s | none => false) && !r.contains s && pairB md ops r
theorem pairB_spec {md : Region.Mode} {ops : Array Oper} (r : List Nat) (h : pairB md ops r = true) : r.Pairwise (fun s t => ∃ ot, ops[t]? = some ot ∧ ∃ e ∈ ot.after, Region.binds md e = true ∧ e.on = s) ∧ r.Nodup := by
  induction r with
  | nil => exact ⟨List.Pairwise.nil, List.nodup_nil⟩
  | cons s r ih =>
    simp only [pairB, Bool.and_eq_true, Bool.not_eq_true', List.all_eq_true] at h
    obtain ⟨⟨h1, h2⟩, h3⟩ := h
    obtain ⟨i1, i2⟩ := ih h3
    refine ⟨List.pairwise_cons.2 ⟨fun t ht => ?_, i1⟩, List.nodup_cons.2 ⟨by simpa using h2, i2⟩⟩
    have := h1 t ht
    cases hot : ops[t]? with
    | none => simp [hot] at this
    | some ot => simp only [hot] at this; exact ⟨ot, rfl, waitsB_spec this⟩
def farB (md : Region.Mode) (ops : Array Oper) (j : Nat) (os oj : Oper) : Bool :=
  (match os.dst with | some d => !(oj.looksAt ops).contains d && oj.dst != some d | none => true) && (waitsB md os j || match oj.dst with | some d => !(os.looksAt ops).contains d | none => true)

/-- what the checks of such a region ask: m is the mask of the quiet operations, sp the others in their order -/
def othB (md : Region.Mode) (l : List Oper) (m : List Bool) (sp : List Nat) : Bool :=
  Region.noSelect l.toArray && pairB md l.toArray sp && sp.all (fun s => decide (s < l.length)) && decide ((sift l m).length + sp.length = l.length) &&
    (List.range l.length).all (fun j => match l.toArray[j]? with
      | some oj => oj.after.all (fun e => !Region.binds md e || decide (e.on < j)) && (sp.contains j || sp.all fun s => match l.toArray[s]? with | some os => farB md l.toArray j os oj | none => true)
      | none => true) &&
    lexS md l.toArray l m 0 (mark sp (Array.replicate l.length false))

theorem wp_region_oth {P : Program} {id : Nat} {Q : Exit → Act → World → Prop} {a : Act} {w : World} {l : List Oper} (m : List Bool) (sp : List Nat) (hm : P.follows .mixedOrders = true) (hB : othB .any l m sp = true)
    (h : wpRel P l.toArray w (fun z => wpOth P l.toArray w Q sp z w) (sift l m) a) : (Code.region id l.toArray true).wp P Q a w := by
  simp only [othB, Bool.and_eq_true, decide_eq_true_eq, List.all_eq_true] at hB
  obtain ⟨⟨⟨⟨⟨hsel, hpair⟩, hlt⟩, hcnt⟩, hfar⟩, hlex⟩ := hB
  obtain ⟨hpw, hnd⟩ := pairB_spec sp hpair
  have nosel := Region.noSelect_spec hsel
  have inl : ∀ j oj, l.toArray[j]? = some oj → j ∈ List.range l.length := fun j oj hj => List.mem_range.2 (by simpa using (Array.getElem?_eq_some_iff.1 hj).1)
  refine wp_region_any hm ?_
  obtain ⟨z, hz, hr⟩ := wpRel_end _ _ h
  have H := wpAnyR_lex (md := .any) hsel l m 0 (mark sp (Array.replicate l.length false)) a (by simp) hlex hr
  have key := wpAny_oth (md := .any) (P := P) (w := w) (Q := Q) (z := z) (sp := sp) nosel (fun j oj hj e he hb => ?_) (fun s hs os hos j oj hj hjs => ?_) l.length sp (sift l m).length (Array.replicate l.length false) a (fun a => a)
    { w with drawn := w.drawn + 1 } hcnt.symm (fun s hs => ⟨hs, getD_in (by simpa using hlt s hs) (getD_replicate_false _ _)⟩) (fun j hj _ => hj) hpw hnd (by simp) (fun _ _ _ _ _ => ⟨rfl, rfl, fun _ => rfl⟩) (Below.refl _ _).drew
    (wpOth_grow hz (Below.refl _ _).drew) H
  · simpa using key
  · have := hfar j (inl j oj hj)
    simp only [hj, Bool.and_eq_true] at this
    have := Array.all_eq_true_iff_forall_mem.1 this.1 e he
    simp only [hb, Bool.not_true, Bool.false_or, decide_eq_true_eq] at this
    exact this
  · have := hfar j (inl j oj hj)
    simp only [hj, Bool.and_eq_true, Bool.or_eq_true, List.contains_iff_mem, List.all_eq_true] at this
    have := this.2.resolve_left hjs s hs
    simp only [hos, farB, Bool.and_eq_true, Bool.or_eq_true] at this
    obtain ⟨f1, f2⟩ := this
    refine ⟨fun d hd => ?_, fun d hd => ?_, f2.imp waitsB_spec fun f3 d hd => ?_⟩
    · simp only [hd, Bool.and_eq_true] at f1; simpa using f1.1
    · simp only [hd, Bool.and_eq_true] at f1; simpa using f1.2
    · simp only [hd] at f3; simpa using f3
end Go.Proofs.Ytmcjabodkjlkgaa
