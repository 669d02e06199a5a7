/-
  A region that draws its order: its first n operations read, or call what lets old memory be; the others follow in one forced order: one walk in the order of the text serves every order.
-/
import Derived.Test.YtmcjabodkjlkgaaInts
import Derived.StillTail
namespace Go.Proofs.Ytmcjabodkjlkgaa
open Go.RowKit

section
variable {P : Program} {ops : Array Oper} {md : Region.Mode} {C : World → Prop}

/-- f operations of the head, in whatever order; then L -/
def headQ (P : Program) (md : Region.Mode) (ops : Array Oper) (C : World → Prop) (n : Nat) (L : Array Bool → Act → Prop) : Nat → Array Bool → Act → Prop
  | 0, done, a => L done a
  | f + 1, done, a => Region.ready md ops done ≠ [] ∧ ∀ i, i ∈ Region.ready md ops done → i < n ∧ qOp P ops C i (headQ P md ops C n L f (done.setIfInBounds i true)) a

theorem headQ_any {n g : Nat} {L : Array Bool → Act → Prop} {R : Exit → Act → World → Prop} (hL : ∀ done a w, C w → L done a → wpAny P md ops R g done a w) (f : Nat) :
    ∀ done a w, C w → headQ P md ops C n L f done a → wpAny P md ops R (f + g) done a w := by
  induction f with
  | zero => intro done a w hw h; rw [Nat.zero_add]; exact hL done a w hw h
  | succ f ih =>
    intro done a w hw h
    obtain ⟨hne, hall⟩ := h
    rw [Nat.succ_add]
    refine ⟨fun h0 => (hne h0).elim, fun i hi => ?_⟩
    exact wpOp_of_qOp hw (fun a' w' hw' hk => ih _ a' w' hw' hk) (hall i hi).2

/-- an operation of the head that may come first and does not touch the others: if the rest goes through behind it, all orders do -/
theorem headQ_front {n i : Nat} {oi : Oper} {v : Value} {L : Array Bool → Act → Prop} (hoi : ops[i]? = some oi) (nosel : ∀ (j : Nat) (o : Oper) cs b, ops[j]? = some o → o.op ≠ .select cs b)
    (sink : Region.sinkB md ops n = true) (chain : Region.chainB md ops n = true) (hn : n < ops.size) (hin : i < n) (late : ∀ done a, L done a → ∀ j ∈ Region.ready md ops done, n ≤ j) (f : Nat) :
    ∀ done a, HeadInv md ops n done →
      (∀ j oj, ops[j]? = some oj → j ≠ i → done.getD j true = false → (∀ e ∈ oj.after, Region.binds md e = true → e.on ≠ i) → oi.apart ops oj = true) →
      i ∈ Region.ready md ops done → YieldsIn P ops C oi v a → headQ P md ops C n L f (done.setIfInBounds i true) (a.put oi.dst v) → headQ P md ops C n L (f + 1) done a := by
  induction f with
  | zero =>
    intro done a inv _ hready hy rest
    have hopen := (mem_ready.1 hready).1
    have low : ∀ j ∈ Region.ready md ops done, j < n := fun j hj => Nat.lt_of_not_le fun hge => tail_waits sink chain hn inv _ i rfl hin hopen j hge hj
    refine ⟨fun he => ?_, fun j hj => ⟨low j hj, ?_⟩⟩
    · rw [he] at hready; exact absurd hready (by simp)
    · rcases Nat.decEq j i with hji | hji
      · exact absurd (late _ _ rest j (ready_mono hj hji)) (by have := low j hj; omega)
      · subst hji; exact hy.qOp hoi rest
  | succ f ih =>
    intro done a inv hap hready hy rest
    have hopen := (mem_ready.1 hready).1
    have low : ∀ j ∈ Region.ready md ops done, j < n := fun j hj => Nat.lt_of_not_le fun hge => tail_waits sink chain hn inv _ i rfl hin hopen j hge hj
    refine ⟨fun he => ?_, fun j hj => ⟨low j hj, ?_⟩⟩
    · rw [he] at hready; exact absurd hready (by simp)
    · rcases Nat.decEq j i with hji | hji
      · obtain ⟨jopen, oj, hoj, jafter⟩ := mem_ready.1 hj
        have jnot : ∀ e ∈ oj.after, Region.binds md e = true → e.on ≠ i := by
          intro e he hb heq
          have := jafter e he hb
          rw [heq, getD_both hopen] at this
          exact Bool.noConfusion this
        have step := (rest.2 j (ready_mono hj hji)).2
        refine qOp_mono (fun a' hk => ?_) (qOp_put hoj (hap j oj hoj hji jopen jnot) (fun cs b => nosel i oi cs b hoi) (fun cs b => nosel j oj cs b hoj) hy step)
        refine ih (done.setIfInBounds j true) a' (inv.set hj (low j hj)) (fun k ok hk hki kopen kno => ?_) (ready_mono hready (Ne.symm hji)) hk.1 ?_
        · rcases Nat.decEq j k with hjk | hjk
          · rw [getD_set_ne true hjk] at kopen; exact hap k ok hk hki kopen kno
          · subst hjk; exact hap _ ok hk hki jopen kno
        · rw [Array.setIfInBounds_comm _ _ hji]; exact hk.2
      · subst hji; exact hy.qOp hoi rest

theorem headQ_lex {n g : Nat} {F : Act → Prop} (hsel : Region.noSelect ops = true) (sink : Region.sinkB md ops n = true) (chain : Region.chainB md ops n = true) (hn : n < ops.size) (l : List Oper) :
    ∀ k done a, (∀ j, j < l.length → l[j]? = ops[k + j]?) → k + l.length = n → HeadInv md ops n done → Region.lexHead md ops g l.length k done = true → wpQuiet P ops C F l a →
      headQ P md ops C n (fun done' a' => Region.seqB md ops g n done' = true ∧ F a') l.length done a := by
  induction l with
  | nil =>
    intro k done a _ hk _ hB h
    obtain rfl : k = n := by simpa using hk
    exact ⟨by simpa [Region.lexHead] using hB, h⟩
  | cons o l ih =>
    intro k done a hl hk inv hB h
    have hok : ops[k]? = some o := by have := hl 0 (by simp); simpa using this.symm
    rw [List.length_cons] at hk hB
    simp only [Region.lexHead, Bool.and_eq_true] at hB
    have hready : k ∈ Region.ready md ops done := by simpa using hB.1.1
    have hq : qOp P ops C k (wpQuiet P ops C F l) a := by unfold qOp; rw [hok]; exact h
    obtain ⟨v, hy, hrest⟩ := yieldsIn_of_qOp hok hq
    refine headQ_front hok (Region.noSelect_spec hsel) sink chain hn (by omega) (fun d b hL => seqB_ready hL.1) l.length done a inv (Region.free_spec hok hB.1.2) hready hy ?_
    refine ih (k + 1) _ _ (fun j hj => ?_) (by omega) (inv.set hready (by omega)) hB.2 hrest
    have := hl (j + 1) (by simp; omega)
    rw [show k + 1 + j = k + (j + 1) by omega, ← this]
    simp
end

/-- the head: quiet in the class of the worlds that have grown from w; the tail: as it stands -/
theorem wp_region_ext_tail {P : Program} {id : Nat} {Q : Exit → Act → World → Prop} {a : Act} {w : World} {l : List Oper} (n : Nat) (hm : P.follows .mixedOrders = true) (hB : Region.lexTailB .any l.toArray n = true)
    (h : wpQuiet P l.toArray (fun w' => ∃ x : ExtW w, w' = x.u) (fun a' => ∀ w', (∃ x : ExtW w, w' = x.u) → wpList P l.toArray Q (l.drop n) a' w') (l.take n) a) : (Code.region id l.toArray true).wp P Q a w := by
  simp only [Region.lexTailB, Bool.and_eq_true, decide_eq_true_eq] at hB
  obtain ⟨⟨⟨⟨hsel, hn⟩, sink⟩, chain⟩, hlex⟩ := hB
  have hnl : n < l.length := by simpa using hn
  have e1 : (l.take n).length = n := by simp; omega
  have e2 : (l.drop n).length = l.toArray.size - n := by simp
  have start : HeadInv .any l.toArray n (Array.replicate l.toArray.size false) :=
    ⟨by simp, fun j oj _ hj => absurd hj (by rw [getD_replicate_false]; simp), fun t _ ht => getD_in (by simpa using ht) (getD_replicate_false _ _)⟩
  have H := headQ_lex (P := P) (C := fun w' => ∃ x : ExtW w, w' = x.u) (md := .any) (g := l.toArray.size - n) hsel sink chain hn (l.take n) 0 _ a
    (fun j hj => by rw [e1] at hj; simp [hj]) (by omega) start (by rw [e1]; exact hlex) h
  have C0 : ∃ x : ExtW w, ({ w with drawn := w.drawn + 1 } : World) = x.u := ⟨⟨w.drew, (Below.refl _ _).drew⟩, rfl⟩
  refine wp_region_any hm ?_
  have := headQ_any (R := Q) (g := l.toArray.size - n) (fun done a' w' hw' hL => by
    have := wpAny_of_seq (md := .any) (Q' := Q) (l.drop n) n done a' w' (fun j => by simp [List.getElem?_drop]) (by rw [e2]; exact hL.1) (hL.2 w' hw')
    rw [e2] at this
    exact this) _ _ _ _ C0 H
  rw [e1, show n + (l.toArray.size - n) = l.toArray.size by omega] at this
  exact this
end Go.Proofs.Ytmcjabodkjlkgaa
