/-
  A fresh slice of integers, marked and found again; the copy of an argument slice.
-/
import Derived.Test.YtmcjabodkjlkgaaFresh
namespace Go.Proofs.Ytmcjabodkjlkgaa
open Go.RowKit

theorem FreshInts.wrote {g : Nat} {w w' : World} {lo : Nat} {v : Value} {zs : List Int} (h : FreshInts w lo v zs) (hw : Wrote g w w') (hg : g < lo) : FreshInts w' lo v zs := by
  obtain ⟨hm, hn, h⟩ := h
  refine ⟨hm, hn, h.imp id ?_⟩
  rintro ⟨g', cap, cur, hv, hg', hh, r⟩
  exact ⟨g', cap, cur, hv, hg', (hw.block g' (by omega)).trans hh, r⟩
/-- a slice whose n elements hold the marks from k on -/
def HeldAs (w : World) (v : Value) (k : Int) (n : Nat) : Prop :=
  (v = .slice none 0 0 ∧ n = 0) ∨ ∃ g cap cur, v = .slice (some ⟨g, 0, none⟩) n cap ∧ w.heap[g]? = some (.cells (marked cur k n) 2 (0, 0)) ∧ n ≤ cur.size
theorem HeldAs.mono {w w' : World} {v : Value} {k : Int} {n : Nat} (h : HeldAs w v k n) (hb : Below w.heap.size w w') : HeldAs w' v k n := by
  refine h.imp id ?_
  rintro ⟨g, cap, cur, hv, hh, hn⟩
  exact ⟨g, cap, cur, hv, (hb.block g (Array.getElem?_eq_some_iff.1 hh).1).trans hh, hn⟩

theorem markF_any (lo : Nat) (v : Value) (k : Int) (zs : List Int) (w : World) (h : FreshInts w lo v zs) (k0 : 0 ≤ k) (k1 : k ≤ 1099511627776) :
    Calls Try.prog 119 #[v, .int .i64 k] w fun e w' => e = .returned (.int .i64 (k + zs.length)) ∧ HeldAs w' v k zs.length ∧ Below lo w w' ∧ w'.heap.size = w.heap.size := by
  have hm := h.1
  rcases h.cases with ⟨rfl, rfl⟩ | ⟨g, cap, cur, rfl, hg, hs, hh, h1, h2, h4⟩
  · refine (mark_nil k w).mono ?_
    rintro e w' ⟨rfl, rfl⟩
    exact ⟨by simp, .inl ⟨rfl, rfl⟩, Below.refl _ _, rfl⟩
  · refine (mark_any g zs.length cap k cur w hh h1 hm k0 k1).mono ?_
    rintro e w' ⟨rfl, hw, hh'⟩
    exact ⟨rfl, .inr ⟨g, cap, cur, rfl, hh', h1⟩, hw.below hg, hw.size⟩
theorem heldF_any (v : Value) (k : Int) (n : Nat) (w : World) (h : HeldAs w v k n) (hm : n ≤ 1048576) (k0 : 0 ≤ k) (k1 : k ≤ 1099511627776) :
    Calls Try.prog 120 #[v, .int .i64 k] w fun e w' => e = .returned (.int .i64 (k + n)) ∧ w = w' := by
  rcases h with ⟨rfl, rfl⟩ | ⟨g, cap, cur, rfl, hh, h1⟩
  · simpa using held_nil k w
  · exact held_any g n cap k cur w hh h1 hm k0 k1

theorem toIntsB_any (v : Value) (zs : List Int) (w : World) (hI : IntsAt w v zs) :
    Calls Try.prog 60 #[v] w fun e w' => e = .returned (.slice (some ⟨w.heap.size, 0, none⟩) zs.length zs.length) ∧ FreshInts w' w.heap.size (.slice (some ⟨w.heap.size, 0, none⟩) zs.length zs.length) zs ∧ Below w.heap.size w w' ∧ w'.heap.size = w.heap.size + 1 := by
  have hm : zs.length ≤ 1048576 := by obtain ⟨_, _, _, h, _⟩ := hI; exact h
  refine (toInts_any v zs w hI).mono ?_
  rintro e w' ⟨rfl, rfl⟩
  refine ⟨rfl, ?_, xAlloc (Below.refl _ _) _, by simp⟩
  have := FreshInts.mk (w := w.alloc (.cells (zs.map (Value.int .i64)).toArray 2)) (lo := w.heap.size) (g := w.heap.size) (zs := zs) (cur := (zs.map (Value.int .i64)).toArray) hm (Nat.le_refl _)
    (by show (w.heap.push _)[w.heap.size]? = _; simp) (by simp) (by simp [maxLen]; omega) (by simp [List.take_of_length_le])
  simpa using this

theorem eqB_any (v1 v2 : Value) (xs : List Int) (w : World) (h1 : IntsAt w v1 xs) (h2 : IntsAt w v2 xs) :
    Calls Try.prog 64 #[v1, v2] w fun e w' => e = .returned (.bool true) ∧ Below w.heap.size w w' ∧ w'.heap.size = w.heap.size := by
  refine (eqInts_any v1 v2 xs xs w h1 h2).mono ?_
  rintro e w' ⟨rfl, n, rfl⟩
  exact ⟨by simp, xDrewN (Below.refl _ _) n, rfl⟩
theorem markX_any (g n : Nat) (k : Int) (zs : List Int) (lo : Nat) (w : World) (h : FreshInts w lo (.slice (some ⟨g, 0, none⟩) n n) zs) (k0 : 0 ≤ k) (k1 : k ≤ 1099511627776) :
    Calls Try.prog 119 #[.slice (some ⟨g, 0, none⟩) n n, .int .i64 k] w fun e w' => e = .returned (.int .i64 (k + zs.length)) ∧ Wrote g w w' := by
  obtain ⟨rfl, cur, _, hh, h1, _, _, _⟩ := h.row
  refine (mark_any g zs.length zs.length k cur w hh h1 h.1 k0 k1).mono ?_
  rintro e w' ⟨rfl, hw, _⟩
  exact ⟨rfl, hw⟩
end Go.Proofs.Ytmcjabodkjlkgaa
