/-
  As TailB, for the first n operations of a region; the operations behind them wait for all of these, and follow in one forced order.
-/
import Derived.Test.YtmcjabodkjlkgaaTailB
import Derived.Test.YtmcjabodkjlkgaaTail
namespace Go.Proofs.Ytmcjabodkjlkgaa
open Go.RowKit

section
variable {P : Program} {ops : Array Oper} {md : Region.Mode}

/-- how the head ends: the tail; or an exit of the region's own -/
def headEnd (Q : Exit → Act → World → Prop) (L : Act → World → Prop) : Exit → Act → World → Prop
  | .normal, a, w => L a w
  | ex, a, w => Q ex a w

theorem oper_turn {o : Oper} {a : Act} {w : World} {K : Act → World → Prop} {Q : Exit → Act → World → Prop} {L : Act → World → Prop} (h : o.wp P a w K (headEnd Q L)) : o.wp P a w K Q := by
  unfold Oper.wp at *
  generalize (execOp a.eval o).run P w = r at *
  cases r with
  | ok n w' => cases n <;> exact h
  | halt x w' => cases x <;> exact h

theorem wpAny_fuel {Q : Exit → Act → World → Prop} (f : Nat) : ∀ done a w, wpAny P md ops Q f done a w → wpAny P md ops Q (f + 1) done a w := by
  induction f with
  | zero => intro done a w h; exact ⟨fun _ => h.2, fun i hi => by rw [h.1] at hi; cases hi⟩
  | succ f ih => intro done a w h; exact ⟨h.1, fun i hi => wpOp_mono (fun a' w' hk => ih _ a' w' hk) (h.2 i hi)⟩
theorem wpAny_more {Q : Exit → Act → World → Prop} {f : Nat} (d : Nat) {done : Array Bool} {a : Act} {w : World} (h : wpAny P md ops Q f done a w) : wpAny P md ops Q (f + d) done a w := by
  induction d with
  | zero => exact h
  | succ d ih => exact wpAny_fuel _ _ _ _ ih

/-- the marks of the head -/
def cutD (n : Nat) (done : Array Bool) : Array Bool := done.extract 0 n
theorem cutD_get {n i : Nat} {done : Array Bool} (hs : n ≤ done.size) (h : i < n) (b : Bool) : (cutD n done).getD i b = done.getD i b := by
  have h1 : i < (cutD n done).size := by simp [cutD]; omega
  have h2 : i < done.size := by omega
  simp only [Array.getD_eq_getD_getElem?, Array.getElem?_eq_getElem h1, Array.getElem?_eq_getElem h2, Option.getD_some]
  simp [cutD]
theorem cutD_out {n i : Nat} {done : Array Bool} (h : n ≤ i) (b : Bool) : (cutD n done).getD i b = b := by
  have : (cutD n done).size ≤ i := by simp [cutD]; omega
  simp [Array.getElem?_eq_none this]
theorem cutD_set {n i : Nat} {done : Array Bool} (h : i < n) (hs : n ≤ done.size) : cutD n (done.setIfInBounds i true) = (cutD n done).setIfInBounds i true := by
  apply Array.ext_getElem?
  intro j
  simp only [cutD, Array.getElem?_extract, Array.getElem?_setIfInBounds, Array.size_extract]
  by_cases hj : j < n <;> by_cases hij : i = j <;> simp_all <;> omega

theorem head_get {n i : Nat} {l : List Oper} (h : i < n) : (l.take n).toArray[i]? = l.toArray[i]? := by simp [h]

theorem ready_cut {n : Nat} {l : List Oper} {done : Array Bool} (hn : n ≤ l.length) (hs : done.size = l.length) (hback : ∀ j oj, l.toArray[j]? = some oj → ∀ e ∈ oj.after, Region.binds md e = true → e.on < j) {i : Nat} (hi : i < n) :
    i ∈ Region.ready md l.toArray done ↔ i ∈ Region.ready md (l.take n).toArray (cutD n done) := by
  rw [mem_ready, mem_ready, head_get hi, cutD_get (by omega) hi]
  constructor
  · rintro ⟨h1, o, ho, h2⟩
    exact ⟨h1, o, ho, fun e he hb => by rw [cutD_get (by omega) (by have := hback i o ho e he hb; omega)]; exact h2 e he hb⟩
  · rintro ⟨h1, o, ho, h2⟩
    exact ⟨h1, o, ho, fun e he hb => by have := h2 e he hb; rwa [cutD_get (by omega) (by have := hback i o ho e he hb; omega)] at this⟩

theorem wpAny_prefix {Q : Exit → Act → World → Prop} {L : Act → World → Prop} {l : List Oper} {n g : Nat} (hn : n < l.length)
    (hback : ∀ j oj, l.toArray[j]? = some oj → ∀ e ∈ oj.after, Region.binds md e = true → e.on < j)
    (hgd : ∀ j oj, j < n → l.toArray[j]? = some oj → ∀ k b, oj.guard = some (k, b) → k < n)
    (sink : Region.sinkB md l.toArray n = true) (chain : Region.chainB md l.toArray n = true)
    (hL : ∀ done a w, HeadInv md l.toArray n done → (∀ i, i < n → done.getD i true = true) → L a w → wpAny P md l.toArray Q g done a w) (N : Nat) :
    ∀ done a w, HeadInv md l.toArray n done → wpAny P md (l.take n).toArray (headEnd Q L) N (cutD n done) a w → wpAny P md l.toArray Q (N + g) done a w := by
  have back' : ∀ j oj, (l.take n).toArray[j]? = some oj → ∀ e ∈ oj.after, Region.binds md e = true → e.on < j := fun j oj hj => by
    by_cases h : j < n
    · rw [head_get h] at hj; exact hback j oj hj
    · rw [List.getElem?_toArray, List.getElem?_eq_none (by simp; omega)] at hj; cases hj
  have alld : ∀ done : Array Bool, HeadInv md l.toArray n done → Region.ready md (l.take n).toArray (cutD n done) = [] → ∀ i, i < n → done.getD i true = true := fun done inv hr i hi => by
    cases hd : done.getD i true with
    | true => rfl
    | false =>
      have hsz : done.size = l.length := by simpa using inv.size
      refine absurd hr (ready_some back' (by simp [cutD]; omega) i ?_)
      rw [cutD_get (by omega) hi]; exact hd
  induction N with
  | zero =>
    intro done a w inv h
    rw [Nat.zero_add]
    exact hL done a w inv (alld done inv h.1) h.2
  | succ N ih =>
    intro done a w inv h
    have hsz : done.size = l.length := by simpa using inv.size
    cases hr : Region.ready md (l.take n).toArray (cutD n done) with
    | nil =>
      have := wpAny_more (P := P) (N + 1) (hL done a w inv (alld done inv hr) (h.1 hr))
      rwa [Nat.add_comm g] at this
    | cons i0 r0 =>
      have hi0 : i0 ∈ Region.ready md (l.take n).toArray (cutD n done) := by rw [hr]; simp
      have hlt0 : i0 < n := by
        obtain ⟨_, o, ho, _⟩ := mem_ready.1 hi0
        have := (Array.getElem?_eq_some_iff.1 ho).1
        simp at this
        omega
      have hi0' := (ready_cut (by omega) hsz hback hlt0).2 hi0
      have hopen := (mem_ready.1 hi0').1
      have low : ∀ j ∈ Region.ready md l.toArray done, j < n := fun j hj => Nat.lt_of_not_le fun hge => tail_waits sink chain (by simpa using hn) inv _ i0 rfl hlt0 hopen j hge hj
      rw [show N + 1 + g = (N + g) + 1 by omega]
      refine ⟨fun he => (by rw [he] at hi0'; cases hi0'), fun i hi => ?_⟩
      have hin := low i hi
      have hi2 := (ready_cut (by omega) hsz hback hin).1 hi
      have step := h.2 i hi2
      have next : ∀ a' w', wpAny P md (l.take n).toArray (headEnd Q L) N ((cutD n done).setIfInBounds i true) a' w' → wpAny P md l.toArray Q (N + g) (done.setIfInBounds i true) a' w' := fun a' w' hk => by
        rw [← cutD_set hin (by omega)] at hk
        exact ih _ a' w' (inv.set hi hin) hk
      have step2 := wpOp_mono next step
      obtain ⟨_, o, ho, _⟩ := mem_ready.1 hi
      unfold wpOp at step2 ⊢
      rw [head_get hin] at step2
      simp only [ho] at step2 ⊢
      have hy : Region.wanted o (yielded (l.take n).toArray a.tmps) = Region.wanted o (yielded l.toArray a.tmps) := by
        unfold Region.wanted
        cases hg : o.guard with
        | none => rfl
        | some kb =>
          obtain ⟨k, b⟩ := kb
          have hk := hgd i o hin ho k b hg
          simp only [yielded, head_get hk]
      rw [hy] at step2
      split
      · next hw =>
        rw [if_pos hw] at step2
        refine step2.imp oper_turn ?_
        rintro ⟨h1, a1, w1, h2⟩
        exact ⟨h1, a1, w1, h2⟩
      · next hw => rw [if_neg hw] at step2; exact step2
end

/-- the marks when the head is done -/
def headDone (n m : Nat) : Array Bool := (List.replicate n true ++ List.replicate (m - n) false).toArray
/-- what the checks of such a region ask -/
def othB3 (md : Region.Mode) (l : List Oper) (n : Nat) (m : List Bool) (sp : List Nat) : Bool :=
  othB2 md (l.take n) m sp && decide (n < l.length) && Region.sinkB md l.toArray n && Region.chainB md l.toArray n && Region.seqB md l.toArray (l.length - n) n (headDone n l.length) &&
    (List.range l.length).all (fun j => match l.toArray[j]? with
      | some oj => oj.after.all (fun e => !Region.binds md e || decide (e.on < j)) && (decide (n ≤ j) || match oj.guard with | some (k, _) => decide (k < n) | none => true)
      | none => true)

theorem wpAny_of_oth2 {P : Program} {Q : Exit → Act → World → Prop} {a : Act} {w : World} {l : List Oper} (m : List Bool) (sp : List Nat) (hB : othB2 .any l m sp = true)
    (h : wpRel P l.toArray w (fun z => wpOth P l.toArray w Q sp z w) (sift l m) a) : wpAny P .any l.toArray Q l.length (Array.replicate l.length false) a { w with drawn := w.drawn + 1 } := by
  simp only [othB2, Bool.and_eq_true, decide_eq_true_eq, List.all_eq_true] at hB
  obtain ⟨⟨⟨⟨⟨hsel, hpair, hnd0⟩, hlt⟩, hcnt⟩, hfar⟩, hlex⟩ := hB
  have hpw := chainedB_spec sp hpair
  have hnd := nodupB_spec sp hnd0
  have nosel := Region.noSelect_spec hsel
  have inl : ∀ j oj, l.toArray[j]? = some oj → j ∈ List.range l.length := fun j oj hj => List.mem_range.2 (by simpa using (Array.getElem?_eq_some_iff.1 hj).1)
  obtain ⟨z, hz, hr⟩ := wpRel_end _ _ h
  have H := wpAnyR_lex (md := .any) hsel l m 0 (mark sp (Array.replicate l.length false)) a (by simp) hlex hr
  refine wpAny_oth2 (md := .any) (P := P) (w := w) (Q := Q) (z := z) (sp := sp) nosel (fun j oj hj e he hb => ?_) (fun s hs os hos j oj hj hjs => ?_) l.length sp (sift l m).length (Array.replicate l.length false) a (fun a => a)
    { w with drawn := w.drawn + 1 } hcnt.symm (fun s hs => ⟨hs, getD_in (by simpa using hlt s hs) (getD_replicate_false _ _)⟩) (fun j hj _ => hj) hpw hnd (by simp) (fun _ _ _ _ _ => ⟨rfl, rfl, fun _ => rfl⟩) (Below.refl _ _).drew
    (wpOth_grow hz (Below.refl _ _).drew) H
  · have := hfar j (inl j oj hj)
    simp only [hj, Bool.and_eq_true] at this
    have := Array.all_eq_true_iff_forall_mem.1 this.1 e he
    simp only [hb, Bool.not_true, Bool.false_or, decide_eq_true_eq] at this
    exact this
  · have := hfar j (inl j oj hj)
    simp only [hj, Bool.and_eq_true, Bool.or_eq_true, List.contains_iff_mem, List.all_eq_true] at this
    have := this.2.resolve_left hjs s hs
    simp only [hos, farB, Bool.and_eq_true, Bool.or_eq_true] at this
    obtain ⟨f1, f2⟩ := this
    refine ⟨fun d hd => ?_, fun d hd => ?_, f2.imp waitsB_spec fun f3 d hd => ?_⟩
    · simp only [hd, Bool.and_eq_true] at f1; simpa using f1.1
    · simp only [hd, Bool.and_eq_true] at f1; simpa using f1.2
    · simp only [hd] at f3; simpa using f3

/-- a drawn region: of its first n operations those of the mask m are quiet, the others sp come in their order; the rest follows in its forced order -/
theorem wp_region_oth3 {P : Program} {id : Nat} {Q : Exit → Act → World → Prop} {a : Act} {w : World} {l : List Oper} (n : Nat) (m : List Bool) (sp : List Nat) (hm : P.follows .mixedOrders = true) (hB : othB3 .any l n m sp = true)
    (h : wpRel P (l.take n).toArray w (fun z => wpOth P (l.take n).toArray w (headEnd Q (wpList P l.toArray Q (l.drop n))) sp z w) (sift (l.take n) m) a) : (Code.region id l.toArray true).wp P Q a w := by
  simp only [othB3, Bool.and_eq_true, decide_eq_true_eq, List.all_eq_true] at hB
  obtain ⟨⟨⟨⟨⟨hB2, hn⟩, sink⟩, chain⟩, hseq⟩, hall⟩ := hB
  have inl : ∀ j oj, l.toArray[j]? = some oj → j ∈ List.range l.length := fun j oj hj => List.mem_range.2 (by simpa using (Array.getElem?_eq_some_iff.1 hj).1)
  have hback : ∀ j oj, l.toArray[j]? = some oj → ∀ e ∈ oj.after, Region.binds .any e = true → e.on < j := fun j oj hj e he hb => by
    have := hall j (inl j oj hj)
    simp only [hj, Bool.and_eq_true] at this
    have := Array.all_eq_true_iff_forall_mem.1 this.1 e he
    simp only [hb, Bool.not_true, Bool.false_or, decide_eq_true_eq] at this
    exact this
  have hgd : ∀ j oj, j < n → l.toArray[j]? = some oj → ∀ k b, oj.guard = some (k, b) → k < n := fun j oj hjn hj k b hg => by
    have := hall j (inl j oj hj)
    simp only [hj, Bool.and_eq_true, Bool.or_eq_true, decide_eq_true_eq, hg] at this
    exact this.2.resolve_left (by omega)
  refine wp_region_any hm ?_
  have e1 : (l.take n).length = n := by simp; omega
  have start : HeadInv .any l.toArray n (Array.replicate l.toArray.size false) :=
    ⟨by simp, fun j oj _ hj => absurd hj (by rw [getD_replicate_false]; simp), fun t _ ht => getD_in (by simpa using ht) (getD_replicate_false _ _)⟩
  have ecut : cutD n (Array.replicate l.toArray.size false) = Array.replicate n false := by
    apply Array.ext
    · simp [cutD]; omega
    · intro i h1 h2; simp [cutD]
  have key := wpAny_of_oth2 m sp hB2 h
  rw [e1] at key
  have := wpAny_prefix (P := P) (Q := Q) (L := wpList P l.toArray Q (l.drop n)) (md := .any) (g := l.length - n) hn hback hgd sink chain (fun done a' w' inv hd hk => by
    have hdone : done = headDone n l.length := by
      have hs : done.size = l.length := by simpa using inv.size
      apply Array.ext
      · simp [headDone, hs]; omega
      · intro i h1 h2
        by_cases hi : i < n
        · have := hd i hi
          simp [h1] at this
          simp [headDone, this, hi]
        · have := inv.tail i (by omega) (by simpa using (by omega : i < l.length))
          simp [h1] at this
          simp [headDone, this, List.getElem_append, hi]
    subst hdone
    have := wpAny_of_seq (md := .any) (Q' := Q) (l.drop n) n (headDone n l.length) a' w' (fun j => by simp [List.getElem?_drop]) (by rw [show (l.drop n).length = l.length - n by simp]; exact hseq) hk
    rwa [show (l.drop n).length = l.length - n by simp] at this) n _ a { w with drawn := w.drawn + 1 } start (by rw [ecut]; exact key)
  rwa [show n + (l.length - n) = l.toArray.size by simp; omega] at this
theorem wpOth_tail {P : Program} {ops : Array Oper} {w : World} {Q : Exit → Act → World → Prop} {L : Act → World → Prop} {b : Act} {w' : World} (h : ∀ w1, Below w'.heap.size w' w1 → L b w1) : wpOth P ops w (headEnd Q L) [] b w' := h

/-- operations that yield a value and call nothing -/
def plainOp : Op → Bool
  | .move _ | .assign _ | .pick .. | .load .. | .binOp .. | .unOp .. | .fieldAddr .. | .field .. | .indexAddr .. | .index .. | .extract .. | .build .. | .slice .. | .convert .. => true
  | _ => false
theorem plain_noEnter {P : Program} {e : Operand → Value} {o : Oper} {w w' : World} {f : FuncId} {args : Array Value} (h : plainOp o.op = true) : (execOp e o).run P w ≠ .ok (.enter f args) w' := by
  unfold execOp
  cases ho : o.op <;> rw [ho] at h <;> first | (simp [plainOp] at h; done) | skip
  all_goals
    simp only [Sem.run_bind, Sem.run_pure]
    first
      | (intro hc; injection hc with hc; cases hc; done)
      | (generalize Sem.run P _ w = r; cases r <;> simp [Result.andThen] <;> done)
      | (generalize Sem.run P _ w = r; cases r <;> simp [Result.andThen]; split <;> simp)
/-- such an operation, run in one walk in the worlds that have grown -/
theorem rel_of_quiet {P : Program} {o : Oper} {a : Act} {w : World} {K : Act → Prop} (hp : plainOp o.op = true) (h : o.quiet P a (fun w' => ∃ x : ExtW w, w' = x.u) K) : relAt P o a w K := by
  obtain ⟨v, hv, hk⟩ := h
  refine ⟨v, fun x => ?_, hk⟩
  have hx := hv x.u ⟨x, rfl⟩
  unfold Oper.quietAt at *
  cases hr : (execOp a.eval o).run P x.u with
  | ok n w1 =>
    rw [hr] at hx
    cases n <;> first | exact hx | exact absurd hr (plain_noEnter hp)
  | halt c w1 => rw [hr] at hx; exact hx
end Go.Proofs.Ytmcjabodkjlkgaa
