/-
  Cells and blocks of a world that has grown.
-/
import Derived.Test.YtmcjabodkjlkgaaInts
namespace Go.Proofs.Ytmcjabodkjlkgaa
open Go.RowKit

/-- a cell that there was is there in a grown world -/
theorem xcell {W w1 : World} {a : Addr} {v : Value} (hb : Below W.heap.size W w1) (h : W.cell? a = some v) : w1.cell? a = some v := by
  have hs := World.cell?_spot h
  obtain ⟨b, o, sp⟩ := a
  subst hs
  exact (hb.cell (p := ⟨b, o, none⟩) (cell_block h)).trans h
theorem xfroz {W w1 : World} {b o : Nat} {v : Value} (hb : Below W.heap.size W w1) (h : W.cell? ⟨b, o, none⟩ = some v) (hf : W.frozen? ⟨b, o, none⟩ = false) : w1.frozen? ⟨b, o, none⟩ = false :=
  (hb.frozen (p := ⟨b, o, none⟩) (cell_block h)).trans hf
theorem blk_mono {W w1 : World} {k : Nat} {o : Obj} (hb : Below W.heap.size W w1) (h : W.heap[k]? = some o) : w1.heap[k]? = some o :=
  (hb.block k (Array.getElem?_eq_some_iff.1 h).1).trans h
theorem blk_lt {w : World} {k : Nat} {o : Obj} (h : w.heap[k]? = some o) : k < w.heap.size := (Array.getElem?_eq_some_iff.1 h).1
theorem blk_set {w : World} {k g o' : Nat} {u : Value} {o : Obj} (h : w.heap[k]? = some o) (hne : k ≠ g) : (w.setCell ⟨g, o', none⟩ u).heap[k]? = some o :=
  (Below.heap_setCell w ⟨g, o', none⟩ u k hne).trans h
theorem blk_new (w : World) (o : Obj) : (w.alloc o).heap[w.heap.size]? = some o := by
  show (w.heap.push o)[w.heap.size]? = some o
  simp
theorem blk_old {w : World} {k : Nat} {o o' : Obj} (h : w.heap[k]? = some o) : (w.alloc o').heap[k]? = some o := by
  have := blk_lt h
  show (w.heap.push o')[k]? = some o
  rw [Array.getElem?_push, if_neg (by omega)]
  exact h
theorem IntsAt.cells {w : World} {b off n cap : Nat} {zs : List Int} (h : IntsAt w (.slice (some ⟨b, off, none⟩) n cap) zs) : ∀ i, i < zs.length → w.cell? ⟨b, off + i, none⟩ = some (.int .i64 (zs.getD i 0)) := by
  obtain ⟨a, cap', hv, hm, h⟩ := h
  injection hv with e1 e2 e3
  subst e1
  intro i hi
  rcases h with rfl | ⟨b', off', hb, hcell⟩
  · simp at hi
  · injection hb with hb
    injection hb with h1 h2
    subst h1 h2
    exact hcell i hi
/-- the world at a call gets a name -/
theorem calls_named {P : Program} {f : FuncId} {args : Array Value} {W : World} {Q : Ending → World → Prop} (h : ∀ W', W = W' → Calls P f args W' Q) : Calls P f args W Q := h _ rfl
end Go.Proofs.Ytmcjabodkjlkgaa
