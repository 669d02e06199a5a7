/-
  Contracts: all plays of a roll.
-/
import Derived.Test.YteojdnkgjdffcaaVDance
namespace Go.Proofs.Yteojdnkgjdffcaa
open Go.RowKit
set_option linter.unusedSimpArgs false
set_option linter.unusedVariables false
def seqN (v : DVar) (b : DBoard) (o : List Int) : Int := ((seqD v (startP b) o).length : Int)
/-- the orders that count: those of the greatest length, the first alone if one die is used -/
def selD (v : DVar) (b : DBoard) (n : Int) (l : List (List Int)) : List (List Int) :=
  if n = 1 then (l.filter fun o => decide (seqN v b o = n)).take 1 else l.filter fun o => decide (seqN v b o = n)
def allD (v : DVar) (b : DBoard) (r : DRoll) : List DPlay := ((selD v b (usedD v b r) (ordersD r)).flatMap (longD v b)).foldl addP []
theorem selD_cons_no {v : DVar} {b : DBoard} {n : Int} {o : List Int} {l : List (List Int)} (h : seqN v b o ≠ n) : selD v b n (o :: l) = selD v b n l := by
  simp [selD, h]
theorem selD_cons_one {v : DVar} {b : DBoard} {o : List Int} {l : List (List Int)} (h : seqN v b o = 1) : selD v b 1 (o :: l) = [o] := by
  simp [selD, h]
theorem selD_cons_yes {v : DVar} {b : DBoard} {n : Int} {o : List Int} {l : List (List Int)} (h : seqN v b o = n) (hn : n ≠ 1) : selD v b n (o :: l) = o :: selD v b n l := by
  simp [selD, h, hn]
theorem selD_nil (v : DVar) (b : DBoard) (n : Int) : selD v b n [] = [] := by simp [selD]
theorem last_ok {v : DVar} : ∀ {o : List Int} {l : List DPlay} {k : Nat}, (∀ d, d ∈ o → 1 ≤ d ∧ d ≤ 6) → PsOk v k l → l.length ≤ 25 ^ k → PsOk v (k + o.length) (lastD l (seqD v l o)) ∧ (lastD l (seqD v l o)).length ≤ 25 ^ (k + o.length)
  | [], l, k, _, h1, h2 => ⟨h1, h2⟩
  | d :: ds, l, k, ho, h1, h2 => by
    simp only [seqD]
    split
    · exact ⟨h1.mono (by omega), Nat.le_trans h2 (Nat.pow_le_pow_right (by omega) (by omega))⟩
    · have hd := ho d (List.mem_cons_self ..)
      have hl := nextD_len (d := d) h1
      have := last_ok (o := ds) (k := k + 1) (fun e he => ho e (List.mem_cons_of_mem _ he)) (nextD_ok h1 hd.1) (by rw [Nat.pow_succ]; omega)
      simp only [lastD, List.length_cons]
      rw [show k + (ds.length + 1) = k + 1 + ds.length by omega]; exact this
theorem longD_ok {v : DVar} {b : DBoard} {o : List Int} (hb : okB v b) (ho : DiceOk o) : PsOk v 4 (longD v b o) ∧ (longD v b o).length ≤ 390625 := by
  have := last_ok (v := v) (o := o) (k := 0) ho.2 (startP_ok hb) (by simp [startP])
  have h4 := ho.1
  exact ⟨this.1.mono (by omega), Nat.le_trans this.2 (pow25 (by omega))⟩
theorem last_getD (l : List DPlay) : ∀ (rs : List (List DPlay)), (l :: rs).getD rs.length [] = lastD l rs
  | [] => rfl
  | x :: rs => by
    have := last_getD x rs
    simpa [lastD] using this
theorem rows_last (v : DVar) (b : DBoard) (o : List Int) : (rowsD v b o).getD (seqN v b o).toNat [] = longD v b o := by
  simp only [seqN, Int.toNat_natCast, rowsD, longD]; exact last_getD _ _
theorem seqN_le {v : DVar} {b : DBoard} {r : DRoll} {o : List Int} (h : o ∈ ordersD r) : seqN v b o ≤ usedD v b r := by
  have gen : ∀ (l : List (List (List DPlay))) (m : Int), m ≤ l.foldl (fun m r => max m ((r.length : Int) - 1)) m ∧ ∀ x, x ∈ l → (x.length : Int) - 1 ≤ l.foldl (fun m r => max m ((r.length : Int) - 1)) m := by
    intro l
    induction l with
    | nil => intro m; simp
    | cons r l ih =>
      intro m
      obtain ⟨h1, h2⟩ := ih (max m ((r.length : Int) - 1))
      refine ⟨by simp only [List.foldl_cons]; omega, fun x hx => ?_⟩
      rcases List.mem_cons.1 hx with rfl | hx
      · simp only [List.foldl_cons]; omega
      · exact h2 x hx
  have := (gen _ 0).2 _ (List.mem_map_of_mem (f := rowsD v b) h)
  simp only [rowsD, List.length_cons] at this
  simp only [usedD, usedL, seqN]; omega
theorem addP_ne (out : List DPlay) (p : DPlay) : addP out p ≠ [] := by
  unfold addP
  split
  · next h => intro e; rw [e] at h; simp at h
  · simp
theorem foldl_addP_ne : ∀ {l : List DPlay}, l ≠ [] → l.foldl addP [] ≠ []
  | [], h => absurd rfl h
  | p :: l, _ => fun e => by
    have := (len_foldl_addP l (addP [] p)).1
    rw [show (p :: l).foldl addP [] = l.foldl addP (addP [] p) from rfl] at e
    rw [e] at this
    have h2 := addP_ne [] p
    have : (addP [] p).length = 0 := by simpa using this
    exact h2 (List.length_eq_zero_iff.1 this)
theorem last_ne {v : DVar} : ∀ {o : List Int} {l : List DPlay}, l ≠ [] → lastD l (seqD v l o) ≠ []
  | [], _, h => h
  | d :: ds, l, h => by
    simp only [seqD]
    split
    · exact h
    · next hn => exact last_ne hn
theorem longD_ne (v : DVar) (b : DBoard) (o : List Int) : longD v b o ≠ [] := last_ne (by simp [startP])
theorem selD_sub {v : DVar} {b : DBoard} {n : Int} {l : List (List Int)} : (∀ o, o ∈ selD v b n l → o ∈ l) ∧ (selD v b n l).length ≤ l.length := by
  unfold selD
  split
  · exact ⟨fun o h => (List.mem_filter.1 (List.mem_of_mem_take h)).1, by have := List.length_filter_le (fun o => decide (seqN v b o = n)) l; rw [List.length_take]; omega⟩
  · exact ⟨fun o h => (List.mem_filter.1 h).1, List.length_filter_le _ _⟩
theorem flat_long_len {v : DVar} {b : DBoard} : ∀ {l : List (List Int)}, (∀ o, o ∈ l → (longD v b o).length ≤ 390625) → (l.flatMap (longD v b)).length ≤ 390625 * l.length
  | [], _ => by simp
  | o :: l, h => by
    have := flat_long_len (v := v) (b := b) (l := l) fun x hx => h x (List.mem_cons_of_mem _ hx)
    have := h o (List.mem_cons_self ..)
    rw [List.flatMap_cons, List.length_append, List.length_cons]; omega
theorem allD_len {v : DVar} {b : DBoard} {r : DRoll} (hb : okB v b) (hr : rollD v r = true) : (allD v b r).length ≤ 781250 := by
  have h1 := (len_foldl_addP ((selD v b (usedD v b r) (ordersD r)).flatMap (longD v b)) []).2
  have h2 := selD_sub (v := v) (b := b) (n := usedD v b r) (l := ordersD r)
  have h3 := flat_long_len (v := v) (b := b) (l := selD v b (usedD v b r) (ordersD r)) fun o ho => (longD_ok hb (ordersD_ok hr o (h2.1 o ho))).2
  have h4 := ordersD_len r
  rw [List.length_nil] at h1
  unfold allD; omega
/-- nothing is used: the one play is none -/
theorem allD_zero {v : DVar} {b : DBoard} {r : DRoll} (h : usedD v b r = 0) : allD v b r = [([], b)] := by
  have hz : ∀ o, o ∈ ordersD r → seqN v b o = 0 := fun o ho => by
    have := seqN_le (v := v) (b := b) ho
    have : 0 ≤ seqN v b o := by unfold seqN; omega
    omega
  have hl : ∀ o, o ∈ ordersD r → longD v b o = [([], b)] := fun o ho => by
    have h1 := hz o ho
    simp only [seqN] at h1
    have h2 : seqD v (startP b) o = [] := List.length_eq_zero_iff.1 (by omega)
    unfold longD; rw [h2]; rfl
  have hs : selD v b 0 (ordersD r) = ordersD r := by
    unfold selD
    rw [if_neg (by decide), List.filter_eq_self]
    intro o ho; simp [hz o ho]
  unfold allD
  rw [h, hs]
  unfold ordersD at hl ⊢
  split
  · next e =>
    rw [if_pos e] at hl
    simp [hl, addP]
  · next e =>
    rw [if_neg e] at hl
    simp [hl, addP]
def noP (l : List DPlay) : Prop := l = []
def restS (out : List DPlay) (n : Int) (rest : List DPlay) : List DPlay := if n = 1 ∧ out ≠ [] then [] else rest
def fitsR (v : DVar) (b : DBoard) (r : DRoll) : Bool := (ordersD r).all (fitsP v b)
theorem restS_no {out : List DPlay} {v : DVar} {b : DBoard} {r : DRoll} {k : Nat} (hk : k < (ordersD r).length) (h : seqN v b ((ordersD r).getD k []) ≠ usedD v b r) : restS out (usedD v b r) ((selD v b (usedD v b r) ((ordersD r).drop k)).flatMap (longD v b)) = restS out (usedD v b r) ((selD v b (usedD v b r) ((ordersD r).drop (k + 1))).flatMap (longD v b)) := by
  rw [drop_cons hk [], selD_cons_no h]
end Go.Proofs.Yteojdnkgjdffcaa
