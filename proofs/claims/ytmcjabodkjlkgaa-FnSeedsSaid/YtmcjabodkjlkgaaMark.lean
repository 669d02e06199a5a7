/-
  Slices of int64 that a call has made: their cells are known whole; the laws' own marking of such a slice and the look whether the marks are held.
-/
import Derived.Test.YtmcjabodkjlkgaaInts
namespace Go.Proofs.Ytmcjabodkjlkgaa
open Go.RowKit

/-- w' is w but for block g (whose size has stayed) -/
structure Wrote (g : Nat) (w w' : World) : Prop where
  os : w'.os = w.os
  tape : w'.tape = w.tape
  output : w'.output = w.output
  size : w'.heap.size = w.heap.size
  block : ∀ k, k ≠ g → w'.heap[k]? = w.heap[k]?

theorem Wrote.refl (g : Nat) (w : World) : Wrote g w w := ⟨rfl, rfl, rfl, rfl, fun _ _ => rfl⟩
theorem Wrote.setCell {g : Nat} {a w : World} (h : Wrote g a w) (o : Nat) (u : Value) : Wrote g a (w.setCell ⟨g, o, none⟩ u) :=
  ⟨h.os, h.tape, h.output, by simp [World.setCell, h.size], fun k hk => (Below.heap_setCell w ⟨g, o, none⟩ u k hk).trans (h.block k hk)⟩
theorem Wrote.below {g B : Nat} {w w' : World} (h : Wrote g w w') (hB : B ≤ g) : Below B w w' :=
  ⟨h.os, h.tape, h.output, Nat.le_of_eq h.size.symm, fun k hk => h.block k (by omega)⟩
theorem Wrote.ints {g : Nat} {w w' : World} (h : Wrote g w w') {b o n c : Nat} {zs : List Int} (hI : IntsAt w (.slice (some ⟨b, o, none⟩) n c) zs) (hne : b ≠ g) : IntsAt w' (.slice (some ⟨b, o, none⟩) n c) zs := by
  obtain ⟨a, cap, hv, hm, hz⟩ := hI
  refine ⟨a, cap, hv, hm, hz.imp id ?_⟩
  rintro ⟨b', off, rfl, hc⟩
  obtain ⟨⟨rfl, rfl⟩, _⟩ : (b = b' ∧ o = off) ∧ True := by simp at hv; exact ⟨⟨hv.1.1, hv.1.2⟩, trivial⟩
  refine ⟨b, o, rfl, fun i hi => ?_⟩
  rw [← hc i hi]
  exact World.cell?_of_block (w := w) (h.block b hne)

theorem heap_setCell_at {w : World} {g o : Nat} {cur : Array Value} {t : TypeId} {u : Value} (h : w.heap[g]? = some (.cells cur t (0, 0))) :
    (w.setCell ⟨g, o, none⟩ u).heap[g]? = some (.cells (cur.setIfInBounds o u) t (0, 0)) := by
  simp only [World.setCell, Array.getElem?_modify, if_true, h]
  rfl
theorem cell_at {w : World} {g o : Nat} {cur : Array Value} {t : TypeId} (h : w.heap[g]? = some (.cells cur t (0, 0))) : w.cell? ⟨g, o, none⟩ = cur[o]? := by
  simp [World.cell?, h]
theorem frozen_at {w : World} {g o : Nat} {cur : Array Value} {t : TypeId} (h : w.heap[g]? = some (.cells cur t (0, 0))) : w.frozen? ⟨g, o, none⟩ = false := by
  simp [World.frozen?, h]

/-- a fresh slice of integers: nil, or at the head of a row of the call's own from block lo on -/
def FreshInts (w : World) (lo : Nat) (v : Value) (zs : List Int) : Prop :=
  zs.length ≤ 1048576 ∧ w.ownsRow lo 2 1 v zs.length (zs.map (Value.int .i64))

theorem FreshInts.nil (w : World) (lo : Nat) : FreshInts w lo (.slice none 0 0) [] := ⟨by decide, World.ownsRow_nil _ _ _ _⟩

theorem FreshInts.cases {w : World} {lo : Nat} {v : Value} {zs : List Int} (h : FreshInts w lo v zs) :
    (v = .slice none 0 0 ∧ zs = []) ∨ ∃ g cap cur, v = .slice (some ⟨g, 0, none⟩) zs.length cap ∧ lo ≤ g ∧ g < w.heap.size ∧ w.heap[g]? = some (.cells cur 2 (0, 0)) ∧ zs.length ≤ cur.size ∧ cur.size = cap ∧ cur.toList.take zs.length = zs.map (Value.int .i64) := by
  obtain ⟨hm, hn, h⟩ := h
  rcases h with ⟨rfl, h0⟩ | ⟨g, cap, cur, rfl, hg, hh, h1, h2, h3, h4⟩
  · exact .inl ⟨rfl, List.length_eq_zero_iff.1 h0⟩
  · exact .inr ⟨g, cap, cur, rfl, hg, (Array.getElem?_eq_some_iff.1 hh).1, hh, by omega, by omega, by simpa using h4⟩

theorem FreshInts.mk {w : World} {lo g : Nat} {zs : List Int} {cur : Array Value} (hm : zs.length ≤ 1048576) (hg : lo ≤ g) (hh : w.heap[g]? = some (.cells cur 2 (0, 0))) (h1 : zs.length ≤ cur.size) (hmax : cur.size ≤ maxLen)
    (h4 : cur.toList.take zs.length = zs.map (Value.int .i64)) : FreshInts w lo (.slice (some ⟨g, 0, none⟩) zs.length cur.size) zs :=
  ⟨hm, by simp, .inr ⟨g, cur.size, cur, rfl, hg, hh, h1, hmax, by omega, by simpa using h4⟩⟩

theorem ints_of_block {w : World} {g cap : Nat} {cur : Array Value} {t : TypeId} {zs : List Int} (hm : zs.length ≤ 1048576) (hh : w.heap[g]? = some (.cells cur t (0, 0))) (h1 : zs.length ≤ cur.size)
    (h4 : cur.toList.take zs.length = zs.map (Value.int .i64)) : IntsAt w (.slice (some ⟨g, 0, none⟩) zs.length cap) zs := by
  refine ⟨_, _, rfl, hm, .inr ⟨g, 0, rfl, fun i hi => ?_⟩⟩
  rw [Nat.zero_add, cell_at hh]
  have := congrArg (fun l => l[i]?) h4
  simp [hi] at this
  rw [Array.getElem?_eq_getElem (by omega)] at this ⊢
  simpa [hi] using this

theorem FreshInts.ints {w : World} {lo : Nat} {v : Value} {zs : List Int} (h : FreshInts w lo v zs) : IntsAt w v zs := by
  rcases h.cases with ⟨rfl, rfl⟩ | ⟨g, cap, cur, rfl, hg, hs, hh, h1, h2, h4⟩
  · exact IntsAt.nil _ _ _
  · exact ints_of_block h.1 hh h1 h4

theorem FreshInts.mono {w w1 : World} {lo : Nat} {v : Value} {zs : List Int} (h : FreshInts w lo v zs) (hb : Below w.heap.size w w1) : FreshInts w1 lo v zs := by
  obtain ⟨hm, hn, h⟩ := h
  refine ⟨hm, hn, h.imp id ?_⟩
  rintro ⟨g, cap, cur, hv, hg, hh, r⟩
  exact ⟨g, cap, cur, hv, hg, (hb.block g (Array.getElem?_eq_some_iff.1 hh).1).trans hh, r⟩
theorem FreshInts.low {w : World} {lo lo' : Nat} {v : Value} {zs : List Int} (h : FreshInts w lo v zs) (hl : lo' ≤ lo) : FreshInts w lo' v zs := by
  obtain ⟨hm, hn, h⟩ := h
  refine ⟨hm, hn, h.imp id ?_⟩
  rintro ⟨g, cap, cur, hv, hg, r⟩
  exact ⟨g, cap, cur, hv, by omega, r⟩

/-- the cells behind the marks of the first j elements -/
def marked (cur : Array Value) (k : Int) : Nat → Array Value
  | 0 => cur
  | j + 1 => (marked cur k j).setIfInBounds j (.int .i64 (k + j))
theorem marked_size (cur : Array Value) (k : Int) : ∀ j, (marked cur k j).size = cur.size
  | 0 => rfl
  | j + 1 => by simp [marked, marked_size cur k j]
def marks (k : Int) (n : Nat) : List Int := (List.range n).map fun (j : Nat) => k + (j : Int)
theorem marked_get (cur : Array Value) (k : Int) : ∀ j, j ≤ cur.size → ∀ i, i < j → (marked cur k j)[i]? = some (.int .i64 (k + i))
  | 0, _, i, h => by omega
  | j + 1, hj, i, h => by
    simp only [marked, Array.getElem?_setIfInBounds, marked_size]
    split
    · next e => subst e; simp; omega
    · exact marked_get cur k j (by omega) i (by omega)
theorem marked_take (cur : Array Value) (k : Int) (n : Nat) (h : n ≤ cur.size) : (marked cur k n).toList.take (marks k n).length = (marks k n).map (Value.int .i64) := by
  apply List.ext_getElem?
  intro i
  by_cases hi : i < n
  · have := marked_get cur k n h i hi
    simp [marks, hi]
    exact this
  · simp [marks, hi]
    omega

set_option maxHeartbeats 400000 in
theorem mark_any (g n cap : Nat) (k : Int) (cur : Array Value) (w : World) (hh : w.heap[g]? = some (.cells cur 2 (0, 0))) (hn : n ≤ cur.size) (hm : n ≤ 1048576) (k0 : 0 ≤ k) (k1 : k ≤ 1099511627776) :
    Calls Try.prog 119 #[.slice (some ⟨g, 0, none⟩) n cap, .int .i64 k] w fun e w' => e = .returned (.int .i64 (k + n)) ∧ Wrote g w w' ∧ w'.heap[g]? = some (.cells (marked cur k n) 2 (0, 0)) := by
  go_enter Try.func119, Try.ntmps119
  go_wp2
  go_loopw [1, 5] (fun q i wr => ∃ j : Nat, j ≤ n ∧ i = .int .i64 j ∧ q = .int .i64 (k + j) ∧ Wrote g w wr ∧ wr.heap[g]? = some (.cells (marked cur k j) 2 (0, 0))) (fun _ i _ => n - (intOf i).toNat)
  case atStart => exact ⟨0, by omega, rfl, by simp, Wrote.refl _ _, hh⟩
  case round =>
    obtain ⟨j, hj, rfl, rfl, hw, hb⟩ := hrel
    have HW := hid hw
    have HB := hid hb
    by_cases hlt : j < n
    · have hs : j < (marked cur k j).size := by rw [marked_size]; omega
      have hc : wr.cell? ⟨g, j, none⟩ = some ((marked cur k j)[j]) := by rw [cell_at hb, Array.getElem?_eq_getElem hs]
      have hf : wr.frozen? ⟨g, j, none⟩ = false := frozen_at hb
      generalize (marked cur k j)[j] = old at hc
      have HS := hid hs
      clear hw hb
      go_wp2
      go_roundw
      case rel => exact ⟨j + 1, by omega, by go_num, by go_num, HW.out.setCell _ _, by rw [heap_setCell_at HB.out]; rfl⟩
      case measure => simp [intOf]; omega
    · have : j = n := by omega
      subst this
      clear hw hb
      go_wp2
      go_ret
      exact ⟨rfl, HW.out, HB.out⟩

set_option maxHeartbeats 400000 in
theorem held_any (g n cap : Nat) (k : Int) (cur : Array Value) (w : World) (hh : w.heap[g]? = some (.cells (marked cur k n) 2 (0, 0))) (hn : n ≤ cur.size) (hm : n ≤ 1048576) (k0 : 0 ≤ k) (k1 : k ≤ 1099511627776) :
    Calls Try.prog 120 #[.slice (some ⟨g, 0, none⟩) n cap, .int .i64 k] w fun e w' => e = .returned (.int .i64 (k + n)) ∧ w = w' := by
  have HH := hid hh
  clear hh
  go_enter Try.func120, Try.ntmps120
  go_wp2
  go_loop [1, 5] (fun q i => ∃ j : Nat, j ≤ n ∧ i = .int .i64 j ∧ q = .int .i64 (k + j)) (fun _ i => n - (intOf i).toNat)
  case atStart => exact ⟨0, by omega, rfl, by simp⟩
  case round =>
    obtain ⟨j, hj, rfl, rfl⟩ := hrel
    by_cases hlt : j < n
    · have hc : w.cell? ⟨g, j, none⟩ = some (.int .i64 (k + j)) := by rw [cell_at HH.out]; exact marked_get cur k n hn j hlt
      go_wp2
      go_round
      case rel => exact ⟨j + 1, by omega, by go_num, by go_num⟩
      case measure => simp [intOf]; omega
    · have : j = n := by omega
      subst this
      go_wp2
      go_ret
      exact ⟨rfl, rfl⟩

theorem mark_nil (k : Int) (w : World) :
    Calls Try.prog 119 #[.slice none 0 0, .int .i64 k] w fun e w' => e = .returned (.int .i64 k) ∧ w = w' := by
  go_enter Try.func119, Try.ntmps119
  go_wp2
  go_rounds 1
  go_ret
  exact ⟨rfl, rfl⟩
theorem held_nil (k : Int) (w : World) :
    Calls Try.prog 120 #[.slice none 0 0, .int .i64 k] w fun e w' => e = .returned (.int .i64 k) ∧ w = w' := by
  go_enter Try.func120, Try.ntmps120
  go_wp2
  go_rounds 1
  go_ret
  exact ⟨rfl, rfl⟩

/-- the call has returned a fresh slice with the elements zs, and a code -/
def RetFresh (w : World) (zs : List Int) (code : Int) (e : Ending) (w' : World) : Prop :=
  ∃ v, e = .returned (.tuple #[v, .int .i64 code]) ∧ FreshInts w' w.heap.size v zs ∧ Below w.heap.size w w'
end Go.Proofs.Ytmcjabodkjlkgaa
