/-
  The rows of a list of plays with twin boards lie apart.
-/
import Derived.Test.YtgbfcjnkohhfoaaTwLf
import Derived.Test.YtgbfcjnkohhfoaaVApL
namespace Go.Proofs.Ytgbfcjnkohhfoaa
open Go.RowKit
set_option linter.unusedVariables false
set_option linter.unusedSectionVars false

theorem noBlk_blk {v : Value} (h : noBlk v = true) : blkOf v = none := by
  cases v with
  | slice a l c => cases a <;> simp_all [noBlk, blkOf]
  | int k n => rfl
  | bool b => rfl
  | string s => rfl
  | _ => simp_all [noBlk]
theorem Twin.blk {O : Nat → Prop} {w : World} {a b : Value} (h : Twin O w [a] [b]) : (blkOf a = none ∧ blkOf b = none) ∨ ∃ n, blkOf a = some (n + 2) ∧ blkOf b = some (n + 4) ∧ ∃ cur e, w.heap[n]? = some (.cells cur e (0, 0)) ∧ e ≠ 2 := by
  rcases h with ⟨h1, h2⟩ | ⟨n, l, m, cap, cap', h1, h2, _, cur, e, h3, h4⟩
  · exact .inl ⟨noBlk_blk (h1 a (by simp)), noBlk_blk (h2 b (by simp))⟩
  · simp only [List.cons.injEq, and_true] at h1 h2
    subst h1; subst h2
    exact .inr ⟨n, rfl, rfl, cur, e, h3, h4⟩

/-- the rows of plays: g: the block of the list; F: each play's three rows -/
structure Leaves (O : Nat → Prop) (w : World) (xs : List DPlay) (g : Nat) (F : Nat → Value × Value × Value) : Prop where
  out : ∃ cur e, w.heap[g]? = some (.cells cur e (0, 0)) ∧ e ≠ 2 ∧ e ≠ stepTy
  og : ¬ O g
  cell : ∀ i, i < xs.length → w.cell? ⟨g, i * 3, none⟩ = some (F i).1 ∧ w.cell? ⟨g, i * 3 + 1, none⟩ = some (F i).2.1 ∧ w.cell? ⟨g, i * 3 + 2, none⟩ = some (F i).2.2
  rep : ∀ i p, xs[i]? = some p → Rep True O w (.sl tStep) [(F i).1] p.1 ∧ Rep True O w tSI [(F i).2.1] p.2.1 ∧ Rep True O w tSI [(F i).2.2] p.2.2 ∧ Twin O w [(F i).2.1] [(F i).2.2]
theorem leaves_of {O : Nat → Prop} {w : World} {v : Value} {xs : List DPlay} (h : Rep True O w (.sl tPlayB) [v] xs) (hne : xs ≠ []) : ∃ g cap F, v = .slice (some ⟨g, 0, none⟩) xs.length cap ∧ Leaves O w xs g F := by
  obtain ⟨a, cap, hv, h1, h2, h3, h4, h5⟩ := h
  simp only [List.cons.injEq, and_true] at hv
  subst hv
  obtain ⟨b, off, rfl, hb, hc⟩ := h5.resolve_left hne
  have h4 := h4 trivial rfl
  simp only [Option.some.injEq, Addr.mk.injEq, and_true, reduceCtorEq, false_or] at h4
  obtain ⟨b', ⟨rfl, rfl⟩, hb', hcm, cur, e, hg, hcs, _, e1, _, e2⟩ := h4
  have hF : ∀ i, ∃ F : Value × Value × Value, ∀ p, xs[i]? = some p → (w.cell? ⟨b, i * 3, none⟩ = some F.1 ∧ w.cell? ⟨b, i * 3 + 1, none⟩ = some F.2.1 ∧ w.cell? ⟨b, i * 3 + 2, none⟩ = some F.2.2) ∧
      Rep True O w (.sl tStep) [F.1] p.1 ∧ Rep True O w tSI [F.2.1] p.2.1 ∧ Rep True O w tSI [F.2.2] p.2.2 ∧ Twin O w [F.2.1] [F.2.2] := by
    intro i
    cases hx : xs[i]? with
    | none => exact ⟨(.bool true, .bool true, .bool true), fun p hp => by cases hp⟩
    | some p =>
      obtain ⟨us, hul, hcell, us1, us2, rfl, hr1, us3, us4, rfl, hr2, hr3, ht⟩ := hc i p hx
      obtain ⟨s, rfl⟩ : ∃ u, us1 = [u] := List.length_eq_one_iff.1 hr1.len
      obtain ⟨a, rfl⟩ : ∃ u, us3 = [u] := List.length_eq_one_iff.1 hr2.len
      obtain ⟨c, rfl⟩ : ∃ u, us4 = [u] := List.length_eq_one_iff.1 hr3.len
      refine ⟨(s, a, c), fun q hq => ?_⟩
      cases hq
      have n3 : (tPlayB : TC).n = 3 := rfl
      have k0 := hcell 0 s rfl
      have k1 := hcell 1 a rfl
      have k2 := hcell 2 c rfl
      rw [n3, Nat.zero_add] at k0 k1 k2
      exact ⟨⟨k0, k1, k2⟩, hr1, hr2, hr3, ht trivial⟩
  refine ⟨b, cap, fun i => (hF i).choose, rfl, ⟨⟨cur, e, hg, e1 rfl, e2 rfl⟩, hb, fun i hi => ((hF i).choose_spec _ (List.getElem?_eq_getElem hi)).1, fun i p hp => ((hF i).choose_spec p hp).2⟩⟩

/-- the rows in one line -/
def lf (F : Nat → Value × Value × Value) (q : Nat) : Value :=
  match q % 3 with
  | 0 => (F (q / 3)).1
  | 1 => (F (q / 3)).2.1
  | _ => (F (q / 3)).2.2
section
variable {O : Nat → Prop} {w : World} {xs : List DPlay} {g : Nat} {F : Nat → Value × Value × Value} (hL : Leaves O w xs g F) (hA : ApOk xs)
include hL
theorem Leaves.S {i : Nat} {p : DPlay} (hp : xs[i]? = some p) : LeafT tStep w (F i).1 p.1 ∧ ∀ b, blkOf (F i).1 = some b → ¬ O b := leafT_of (t := tStep) rfl (hL.rep i p hp).1
theorem Leaves.A {i : Nat} {p : DPlay} (hp : xs[i]? = some p) : LeafT tI w (F i).2.1 p.2.1 ∧ ∀ b, blkOf (F i).2.1 = some b → ¬ O b := leafT_of (t := tI) rfl (hL.rep i p hp).2.1
theorem Leaves.B {i : Nat} {p : DPlay} (hp : xs[i]? = some p) : LeafT tI w (F i).2.2 p.2.2 ∧ ∀ b, blkOf (F i).2.2 = some b → ¬ O b := leafT_of (t := tI) rfl (hL.rep i p hp).2.2.1
theorem Leaves.tyS {i : Nat} (hi : i < xs.length) {b : Nat} (hb : blkOf (F i).1 = some b) : ∃ cur, w.heap[b]? = some (.cells cur stepTy (0, 0)) := by
  obtain ⟨cur, e, cap, _, h, _, _, h1, _⟩ := (hL.S (List.getElem?_eq_getElem hi)).1.lt hb
  exact ⟨cur, by rw [h, h1 rfl]⟩
theorem Leaves.tyA {i : Nat} (hi : i < xs.length) {b : Nat} (hb : blkOf (F i).2.1 = some b) : ∃ cur, w.heap[b]? = some (.cells cur 2 (0, 0)) := by
  obtain ⟨cur, e, cap, _, h, h1, _⟩ := (hL.A (List.getElem?_eq_getElem hi)).1.lt hb
  exact ⟨cur, by rw [h, h1 rfl]⟩
theorem Leaves.tyB {i : Nat} (hi : i < xs.length) {b : Nat} (hb : blkOf (F i).2.2 = some b) : ∃ cur, w.heap[b]? = some (.cells cur 2 (0, 0)) := by
  obtain ⟨cur, e, cap, _, h, h1, _⟩ := (hL.B (List.getElem?_eq_getElem hi)).1.lt hb
  exact ⟨cur, by rw [h, h1 rfl]⟩
include hA
theorem Leaves.ne {i j : Nat} (hi : i < xs.length) (hj : j < xs.length) (hij : i ≠ j) : xs[i].2 ≠ xs[j].2 := by
  have hpw := List.pairwise_iff_getElem.1 hA.ds
  rcases Nat.lt_or_gt_of_ne hij with h | h
  · exact hpw i j hi hj h
  · exact fun e => hpw j i hj hi h e.symm
theorem Leaves.SS {i j : Nat} (hi : i < xs.length) (hj : j < xs.length) (hij : i ≠ j) {b : Nat} (h1 : blkOf (F i).1 = some b) (h2 : blkOf (F j).1 = some b) : False := by
  have he := hA.eq xs[i] (List.getElem_mem hi) xs[j] (List.getElem_mem hj)
  exact hL.ne hA hi hj hij (he.2.2.2.2 (leafT_same (t := tStep) rfl heSt (hL.S (List.getElem?_eq_getElem hi)).1 (hL.S (List.getElem?_eq_getElem hj)).1 he.1 h1 h2))
theorem Leaves.board {i j : Nat} (hi : i < xs.length) (hj : j < xs.length) (hij : i ≠ j) {b c : Nat} (h1 : blkOf (F i).2.1 = some b) (h2 : blkOf (F j).2.1 = some b) (h3 : blkOf (F i).2.2 = some c) (h4 : blkOf (F j).2.2 = some c) : False := by
  have he := hA.eq xs[i] (List.getElem_mem hi) xs[j] (List.getElem_mem hj)
  have e1 := leafT_same (t := tI) rfl he64 (hL.A (List.getElem?_eq_getElem hi)).1 (hL.A (List.getElem?_eq_getElem hj)).1 he.2.1 h1 h2
  have e2 := leafT_same (t := tI) rfl he64 (hL.B (List.getElem?_eq_getElem hi)).1 (hL.B (List.getElem?_eq_getElem hj)).1 he.2.2.1 h3 h4
  exact hL.ne hA hi hj hij (Prod.ext e1 e2)
omit hA in
theorem Leaves.tw {i : Nat} (hi : i < xs.length) : (blkOf (F i).2.1 = none ∧ blkOf (F i).2.2 = none) ∨ ∃ n, blkOf (F i).2.1 = some (n + 2) ∧ blkOf (F i).2.2 = some (n + 4) ∧ ∃ cur e, w.heap[n]? = some (.cells cur e (0, 0)) ∧ e ≠ 2 := (hL.rep i _ (List.getElem?_eq_getElem hi)).2.2.2.blk
theorem Leaves.AA {i j : Nat} (hi : i < xs.length) (hj : j < xs.length) (hij : i ≠ j) {b : Nat} (h1 : blkOf (F i).2.1 = some b) (h2 : blkOf (F j).2.1 = some b) : False := by
  rcases hL.tw hi with ⟨h, _⟩ | ⟨n, k1, k2, _⟩
  · rw [h] at h1; cases h1
  rcases hL.tw hj with ⟨h, _⟩ | ⟨m, k3, k4, _⟩
  · rw [h] at h2; cases h2
  rw [k1] at h1; rw [k3] at h2
  simp only [Option.some.injEq] at h1 h2
  have : n = m := by omega
  subst this
  exact hL.board hA hi hj hij k1 k3 k2 k4
theorem Leaves.BB {i j : Nat} (hi : i < xs.length) (hj : j < xs.length) (hij : i ≠ j) {b : Nat} (h1 : blkOf (F i).2.2 = some b) (h2 : blkOf (F j).2.2 = some b) : False := by
  rcases hL.tw hi with ⟨_, h⟩ | ⟨n, k1, k2, _⟩
  · rw [h] at h1; cases h1
  rcases hL.tw hj with ⟨_, h⟩ | ⟨m, k3, k4, _⟩
  · rw [h] at h2; cases h2
  rw [k2] at h1; rw [k4] at h2
  simp only [Option.some.injEq] at h1 h2
  have : n = m := by omega
  subst this
  exact hL.board hA hi hj hij k1 k3 k2 k4
omit hA in
theorem Leaves.AB {i j : Nat} (hi : i < xs.length) (hj : j < xs.length) {b : Nat} (h1 : blkOf (F i).2.1 = some b) (h2 : blkOf (F j).2.2 = some b) : False := by
  rcases hL.tw hi with ⟨h, _⟩ | ⟨n, k1, k2, cur, e, k5, k6⟩
  · rw [h] at h1; cases h1
  rcases hL.tw hj with ⟨_, h⟩ | ⟨m, k3, k4, _⟩
  · rw [h] at h2; cases h2
  obtain ⟨cur', hA'⟩ := hL.tyA hj k3
  rw [k1] at h1; rw [k4] at h2
  simp only [Option.some.injEq] at h1 h2
  have : n = m + 2 := by omega
  subst this
  rw [hA'] at k5
  simp only [Option.some.injEq, Obj.cells.injEq] at k5
  exact k6 k5.2.1.symm
omit hA in
theorem Leaves.SA {i j : Nat} (hi : i < xs.length) (hj : j < xs.length) {b : Nat} (h1 : blkOf (F i).1 = some b) (h2 : blkOf (F j).2.1 = some b) : False := by
  obtain ⟨c1, e1⟩ := hL.tyS hi h1
  obtain ⟨c2, e2⟩ := hL.tyA hj h2
  rw [e1] at e2
  simp only [Option.some.injEq, Obj.cells.injEq] at e2
  exact absurd e2.2.1 (by decide)
omit hA in
theorem Leaves.SB {i j : Nat} (hi : i < xs.length) (hj : j < xs.length) {b : Nat} (h1 : blkOf (F i).1 = some b) (h2 : blkOf (F j).2.2 = some b) : False := by
  obtain ⟨c1, e1⟩ := hL.tyS hi h1
  obtain ⟨c2, e2⟩ := hL.tyB hj h2
  rw [e1] at e2
  simp only [Option.some.injEq, Obj.cells.injEq] at e2
  exact absurd e2.2.1 (by decide)
theorem Leaves.apart {q r : Nat} (hq : q < 3 * xs.length) (hr : r < 3 * xs.length) (hqr : q ≠ r) {b : Nat} (h1 : blkOf (lf F q) = some b) : blkOf (lf F r) ≠ some b := by
  intro h2
  have hi : q / 3 < xs.length := by omega
  have hj : r / 3 < xs.length := by omega
  have hc : q % 3 = 0 ∨ q % 3 = 1 ∨ q % 3 = 2 := by omega
  have hd : r % 3 = 0 ∨ r % 3 = 1 ∨ r % 3 = 2 := by omega
  unfold lf at h1 h2
  rcases hc with c | c | c <;> rcases hd with d | d | d <;> rw [c] at h1 <;> rw [d] at h2 <;> simp only at h1 h2
  · exact hL.SS hA hi hj (by omega) h1 h2
  · exact hL.SA hi hj h1 h2
  · exact hL.SB hi hj h1 h2
  · exact hL.SA hj hi h2 h1
  · exact hL.AA hA hi hj (by omega) h1 h2
  · exact hL.AB hi hj h1 h2
  · exact hL.SB hj hi h2 h1
  · exact hL.AB hj hi h2 h1
  · exact hL.BB hA hi hj (by omega) h1 h2
omit hA in
/-- the rows lie neither in the list's block nor in memory of others -/
theorem Leaves.off {q : Nat} (hq : q < 3 * xs.length) {b : Nat} (h1 : blkOf (lf F q) = some b) : b ≠ g ∧ ¬ O b ∧ b < w.heap.size := by
  have hi : q / 3 < xs.length := by omega
  have hx := List.getElem?_eq_getElem hi
  obtain ⟨cur, e, h0, e1, e2⟩ := hL.out
  have hc : q % 3 = 0 ∨ q % 3 = 1 ∨ q % 3 = 2 := by omega
  unfold lf at h1
  rcases hc with c | c | c <;> rw [c] at h1 <;> simp only at h1
  · obtain ⟨c1, k⟩ := hL.tyS hi h1
    refine ⟨fun e => ?_, (hL.S hx).2 b h1, (Array.getElem?_eq_some_iff.1 k).1⟩
    subst e; rw [k] at h0; simp only [Option.some.injEq, Obj.cells.injEq] at h0; exact e2 h0.2.1.symm
  · obtain ⟨c1, k⟩ := hL.tyA hi h1
    refine ⟨fun e => ?_, (hL.A hx).2 b h1, (Array.getElem?_eq_some_iff.1 k).1⟩
    subst e; rw [k] at h0; simp only [Option.some.injEq, Obj.cells.injEq] at h0; exact e1 h0.2.1.symm
  · obtain ⟨c1, k⟩ := hL.tyB hi h1
    refine ⟨fun e => ?_, (hL.B hx).2 b h1, (Array.getElem?_eq_some_iff.1 k).1⟩
    subst e; rw [k] at h0; simp only [Option.some.injEq, Obj.cells.injEq] at h0; exact e1 h0.2.1.symm
end
end Go.Proofs.Ytgbfcjnkohhfoaa
