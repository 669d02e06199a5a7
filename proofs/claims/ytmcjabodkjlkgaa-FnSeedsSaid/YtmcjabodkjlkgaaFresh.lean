/-
  Slices of integers that a call has made: their cells, a store into them, and a copy of a slice (slices.Clone).
-/
import Derived.Test.YtmcjabodkjlkgaaMark
import Derived.Lib.SliceRun
namespace Go.Proofs.Ytmcjabodkjlkgaa
open Go.RowKit

theorem FreshInts.addr {w : World} {lo : Nat} {v : Value} {zs : List Int} (h : FreshInts w lo v zs) (hz : zs ≠ []) : ∃ g cap, v = .slice (some ⟨g, 0, none⟩) zs.length cap ∧ lo ≤ g ∧ g < w.heap.size := by
  rcases h.cases with ⟨_, h0⟩ | ⟨g, cap, cur, hv, hg, hs, _⟩
  · exact absurd h0 hz
  · exact ⟨g, cap, hv, hg, hs⟩
theorem FreshInts.row {w : World} {lo g n cap : Nat} {zs : List Int} (h : FreshInts w lo (.slice (some ⟨g, 0, none⟩) n cap) zs) :
    n = zs.length ∧ ∃ cur, lo ≤ g ∧ w.heap[g]? = some (.cells cur 2 (0, 0)) ∧ zs.length ≤ cur.size ∧ cur.size = cap ∧ cap ≤ maxLen ∧ cur.toList.take zs.length = zs.map (Value.int .i64) := by
  obtain ⟨hm, hn, h⟩ := h
  rcases h with ⟨h0, _⟩ | ⟨g', cap', cur, hv, hg, hh, h1, h2, h3, h4⟩
  · cases h0
  · injection hv with e1 e2 e3
    injection e1 with e1
    injection e1 with e1
    subst e1 e3
    exact ⟨e2, cur, hg, hh, by omega, by omega, h2, by simpa using h4⟩
theorem FreshInts.cell {w : World} {lo g n cap : Nat} {zs : List Int} (h : FreshInts w lo (.slice (some ⟨g, 0, none⟩) n cap) zs) {i : Nat} (hi : i < zs.length) : w.cell? ⟨g, i, none⟩ = some (.int .i64 (zs.getD i 0)) := by
  obtain ⟨_, cur, _, hh, h1, _, _, h4⟩ := h.row
  rw [cell_at hh]
  have := congrArg (fun l => l[i]?) h4
  simp [hi] at this
  rw [Array.getElem?_eq_getElem (by omega)] at this ⊢
  simpa [hi] using this
theorem FreshInts.froz {w : World} {lo g n cap : Nat} {zs : List Int} (h : FreshInts w lo (.slice (some ⟨g, 0, none⟩) n cap) zs) (i : Nat) : w.frozen? ⟨g, i, none⟩ = false := by
  obtain ⟨_, cur, _, hh, _⟩ := h.row
  exact frozen_at hh
theorem FreshInts.set {w : World} {lo g n cap : Nat} {zs : List Int} (h : FreshInts w lo (.slice (some ⟨g, 0, none⟩) n cap) zs) (i : Nat) (x : Int) :
    FreshInts (w.setCell ⟨g, i, none⟩ (.int .i64 x)) lo (.slice (some ⟨g, 0, none⟩) n cap) (zs.set i x) := by
  obtain ⟨rfl, cur, hg, hh, h1, rfl, h3, h4⟩ := h.row
  have := FreshInts.mk (w := w.setCell ⟨g, i, none⟩ (.int .i64 x)) (zs := zs.set i x) (lo := lo) (by simpa using h.1) hg (heap_setCell_at hh) (by simpa using h1) (by simpa using h3) (by
    rw [Array.toList_setIfInBounds, List.length_set, List.take_set, h4, List.map_set])
  simpa using this

set_option maxHeartbeats 1000000 in
theorem clone_any (b off cap : Nat) (zs : List Int) (w : World) (hm : zs.length ≤ 1048576) (hc : ∀ i, i < zs.length → w.cell? ⟨b, off + i, none⟩ = some (.int .i64 (zs.getD i 0))) :
    Calls Try.prog 116 #[.slice (some ⟨b, off, none⟩) zs.length cap] w fun e w' => ∃ v', e = .returned v' ∧ FreshInts w' w.heap.size v' zs ∧ Below w.heap.size w w' := by
  obtain ⟨i0, hi, hz0, hz1, hz2⟩ := info_parts info_int64
  have HC := hid hc
  clear hc
  have qq : ∀ (w : World) (a : Option Addr) (n c n' c' : Nat), (binOp .eql 24 (.slice a n c) (.slice none n' c')).run Try.prog w = .ok (.bool a.isNone) w := fun w a n c n' c' => Lib.run_eql_slice_nil w _ _ a n c n' c' Try.underlying24
  go_enter Try.func116, Try.ntmps116
  go_wp2_with (at_builtin; refine wpList_append_own _ rfl _ _ 24 rfl w.heap.size 2 i0 (.int .i64 0) 1 8 Try.underlying24 hi hz0 hz1 hz2 rfl (by decide) _ _ _ rfl (World.ownsRow_made w #[] 0 (Nat.le_refl _) (Nat.zero_le _) rfl) ⟨b, off, none⟩ zs.length cap (zs.map (Value.int .i64)) rfl ?qc1 ?qc2 ?qc3 ?qc4 ?qc5 ?qc6 ?_)
  case qc1 => simp
  case qc2 =>
    intro j u hj
    have hjn : j < zs.length := by
      have := (List.getElem?_eq_some_iff.1 hj).1
      simpa using this
    rw [Addr.add_lit]
    refine Lib.cell?_alloc_some _ ?_
    rw [HC.out j hjn]
    have e : (zs.map (Value.int .i64))[j]? = some (Value.int .i64 (zs.getD j 0)) := by simp [List.getD, hjn]
    rw [e] at hj
    exact hj
  case qc3 => intro u hu; obtain ⟨x, _, rfl⟩ := List.mem_map.1 hu; rfl
  case qc4 => unfold maxLen; omega
  case qc5 => omega
  case qc6 => simp
  intro v' w1 hown hgrow hnil
  go_wp2
  go_ret
  refine ⟨v', rfl, ⟨hm, by simpa using hown⟩, ?_⟩
  exact ((Below.refl _ w).alloc (Nat.le_refl _) _).grown hgrow (by simp) (by intro k hk; simp [Value.ownBlock] at hk; omega)
end Go.Proofs.Ytmcjabodkjlkgaa
