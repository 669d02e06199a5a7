/-
  The reference draws a variant, and a number for a variant: some integers. No condition on the source's bytes.
-/
import Derived.Test.YtmcjabodkjlkgaaDraw2
namespace Go.Proofs.Ytmcjabodkjlkgaa
open Go.RowKit

theorem SrcOk.below {m : Nat} {w w' : World} {g : Nat} (hs : SrcOk m w g) (hg : g < m) (hb : Below m w w') : SrcOk m w' g := by
  obtain ⟨a, len, cap, at_, seed, hh, h1, h2, h3, h4, h5, h6⟩ := hs
  refine ⟨a, len, cap, at_, seed, (hb.block g hg).trans hh, h1, h2, h3, h4, h5, h6.imp id ?_⟩
  rintro ⟨b, off, rfl, hbg, hbn, hz⟩
  refine ⟨b, off, rfl, hbg, hbn, fun i hi => ?_⟩
  obtain ⟨z, hz1, hz2⟩ := hz i hi
  exact ⟨z, hz1, (World.cell?_of_block (w := w) (a := ⟨b, off + i, none⟩) (hb.block b hbn)).trans hz2⟩

/-- from world w0: the source at g < m can be drawn from, other old memory is as it was -/
structure SrcAt (m g : Nat) (w0 w : World) : Prop where
  src : SrcOk m w g
  lt : g < m
  le : m ≤ w0.heap.size
  grown : w0.grownBy w (some g)

theorem SrcAt.alloc {m g : Nat} {w0 w : World} (h : SrcAt m g w0 w) (o : Obj) : SrcAt m g w0 (w.alloc o) :=
  ⟨h.src.below h.lt ((Below.refl _ _).alloc (Nat.le_trans h.le h.grown.size) o), h.lt, h.le, grown_below h.grown ((Below.refl _ _).alloc (Nat.le_refl _) o)⟩

theorem SrcAt.next {m g : Nat} {w0 w w' : World} (h : SrcAt m g w0 w) (hs : SrcOk m w' g) (hg : w.grownBy w' (some g)) : SrcAt m g w0 w' :=
  ⟨hs, h.lt, h.le, ⟨hg.os.trans h.grown.os, hg.tape.trans h.grown.tape, hg.output.trans h.grown.output, Nat.le_trans h.grown.size hg.size,
    fun k hk hne => (hg.block k (Nat.lt_of_lt_of_le hk h.grown.size) hne).trans (h.grown.block k hk hne)⟩⟩

theorem SrcAt.lift {m g : Nat} {w0 w w' : World} (h : SrcAt m g w0 w) (h' : SrcAt m g w w') : SrcAt m g w0 w' := h.next h'.src h'.grown

theorem SrcAt.set {m g : Nat} {w0 w : World} (h : SrcAt m g w0 w) (k o : Nat) (u : Value) (hk : w0.heap.size ≤ k) : SrcAt m g w0 (w.setCell ⟨k, o, none⟩ u) :=
  ⟨h.src.below h.lt (Below.setCell (Below.refl _ _) (Nat.le_trans h.le hk) _), h.lt, h.le, ⟨h.grown.os, h.grown.tape, h.grown.output, by simpa [World.setCell] using h.grown.size, fun j hj hne => (Below.heap_setCell w ⟨k, o, none⟩ u j (by simp; omega)).trans (h.grown.block j hj hne)⟩⟩

theorem SrcAt.below {m g : Nat} {w0 w w' : World} (h : SrcAt m g w0 w) (hb : Below w.heap.size w w') : SrcAt m g w0 w' :=
  ⟨h.src.below h.lt (hb.mono (Nat.le_trans h.le h.grown.size)), h.lt, h.le, grown_below h.grown hb⟩

theorem SrcAt.drewN {m g : Nat} {w0 w : World} (h : SrcAt m g w0 w) (n : Nat) : SrcAt m g w0 (w.drewN n) :=
  h.below ⟨rfl, rfl, rfl, Nat.le_refl _, fun _ _ => rfl⟩

theorem nextAt (m g : Nat) (n : Int) (hn : I64 n) (w0 w : World) (hs : SrcAt m g w0 w) :
    Calls Try.prog 68 #[.pointer (some ⟨g, 0, none⟩), .int .i64 n] w fun e w' => ∃ r : Int, e = .returned (.int .i64 r) ∧ 0 ≤ r ∧ (r < n ∨ r = 0) ∧ SrcAt m g w0 w' ∧ w.grownBy w' (some g) := by
  refine (next_any m g n hn w hs.src).mono ?_
  rintro e w' ⟨r, rfl, h0, h1, h2, h3⟩
  exact ⟨r, rfl, h0, h1, hs.next h2 h3, h3⟩

theorem nextAt1 (m g : Nat) (n : Int) (hn : 1 ≤ n ∧ n ≤ 1000000) (w0 w : World) (hs : SrcAt m g w0 w) :
    Calls Try.prog 68 #[.pointer (some ⟨g, 0, none⟩), .int .i64 n] w fun e w' => ∃ r : Int, e = .returned (.int .i64 r) ∧ 0 ≤ r ∧ r < n ∧ SrcAt m g w0 w' ∧ w.grownBy w' (some g) := by
  refine (nextAt m g n (by unfold I64; omega) w0 w hs).mono ?_
  rintro e w' ⟨r, rfl, h0, h1, h2, h3⟩
  exact ⟨r, rfl, h0, by omega, h2, h3⟩

theorem grown_bcell {u w1 : World} {g : Nat} (hg : u.grownBy w1 (some g)) : (∀ b o, b < u.heap.size → ¬ b = g → w1.cell? ⟨b, o, none⟩ = u.cell? ⟨b, o, none⟩) ∧ (∀ b o, b < u.heap.size → ¬ b = g → w1.frozen? ⟨b, o, none⟩ = u.frozen? ⟨b, o, none⟩) :=
  ⟨fun b o h hne => World.cell?_of_block (w := u) (a := ⟨b, o, none⟩) (hg.block b h (by simpa using hne)), fun b o h hne => World.frozen?_of_block (w := u) (a := ⟨b, o, none⟩) (hg.block b h (by simpa using hne))⟩

theorem of_allocD {w V : World} {o : Obj} (h : w.alloc o = V) : V.heap[w.heap.size]? = some o := h ▸ blk_new _ _
theorem old_alloc {w V : World} {o x : Obj} {k : Nat} (h : w.alloc o = V) (hk : w.heap[k]? = some x) : V.heap[k]? = some x := h ▸ blk_old hk
theorem carry {u w1 : World} {g k : Nat} {x : Obj} (hg : u.grownBy w1 (some g)) (hk : u.heap[k]? = some x) (hl : k < u.heap.size) (hne : ¬ k = g) : w1.heap[k]? = some x := (hg.block k hl (by simpa using hne)).trans hk

set_option maxHeartbeats 2000000 in
theorem drawV_any (m g : Nat) (w0 w : World) (hs0 : SrcAt m g w0 w) :
    Calls Try.prog 85 #[.pointer (some ⟨g, 0, none⟩)] w fun e w' => ∃ p c h s : Int, e = .returned (.agg #[.int .i64 p, .int .i64 c, .int .i64 h, .int .i64 s]) ∧ I64 p ∧ I64 c ∧ I64 h ∧ I64 s ∧ SrcAt m g w0 w' := by
  have hs : SrcAt m g w w := ⟨hs0.src, hs0.lt, Nat.le_trans hs0.le hs0.grown.size, grown_refl _ _⟩
  have hgl : g < w.heap.size := Nat.lt_of_lt_of_le hs.lt hs.le
  have hgw : ¬ w.heap.size = g := by omega
  obtain ⟨rb, hrb⟩ := named w.heap.size
  go_enter Try.func85, Try.ntmps85
  go_wp2_with (go_at_call 68; refine (nextAt1 m g _ (by decide) w _ (by first | (with_reducible exact hs) | (with_reducible exact hs.alloc _) | (with_reducible exact hs1))).mono ?_; rintro e w1 ⟨r, rfl, hr0, hr1, hs1, hg1⟩; have hsz := hg1.size; (try simp at hsz); (try have HRB := hid ((hg1.block _ (by simp) (by simpa using hgw)).trans (blk_new w (.cells #[.int .i64 0, .int .i64 0, .int .i64 0, .int .i64 0] 29 (0, 0)))); have hrl : w.heap.size < w1.heap.size := by omega); (try have HRB := hid ((hg1.block _ hrl (by simpa using hgw)).trans HRB.out)); (try have hrl := Nat.lt_of_lt_of_le hrl hg1.size))
  refine calls_named (fun V hV => ?_)
  have HBX := hid (of_allocD hV)
  have HRB := hid (old_alloc hV HRB.out)
  have hs1 : SrcAt m g w V := hV ▸ hs1.alloc _
  have hbl : w1.heap.size < V.heap.size := by rw [← hV]; simp
  have hrl : w.heap.size < V.heap.size := by omega
  have hbne : ¬ w1.heap.size = g := by omega
  have hrb' : ¬ w1.heap.size = w.heap.size := by omega
  have hbw : w.heap.size ≤ w1.heap.size := by omega
  clear hV hsz
  go_wp2_with (go_at_call 68; refine (nextAt1 m g _ (by decide) w _ hs1).mono ?_; rintro e w1 ⟨r, rfl, hr0, hr1, hs1, hg1⟩; have HBX := hid (carry hg1 HBX.out hbl hbne); have HRB := hid (carry hg1 HRB.out hrl hgw); have hbl := Nat.lt_of_lt_of_le hbl hg1.size; have hrl := Nat.lt_of_lt_of_le hrl hg1.size; have p0 := cell_at (o := 0) HBX.out; have p1 := cell_at (o := 1) HBX.out; have p2 := cell_at (o := 2) HBX.out; have p3 := cell_at (o := 3) HBX.out; have z0 := cell_at (o := 0) HRB.out; have z1 := cell_at (o := 1) HRB.out; have z2 := cell_at (o := 2) HRB.out; have z3 := cell_at (o := 3) HRB.out; simp at p0 p1 p2 p3 z0 z1 z2 z3; have f0 := frozen_at (o := 0) HBX.out; have f1 := frozen_at (o := 1) HBX.out; have f2 := frozen_at (o := 2) HBX.out; have f3 := frozen_at (o := 3) HBX.out; have e0 := frozen_at (o := 0) HRB.out; have e1 := frozen_at (o := 1) HRB.out; have e2 := frozen_at (o := 2) HRB.out; have e3 := frozen_at (o := 3) HRB.out)
  all_goals
    refine bodyPost_ret (v := ?_) ?_ rfl ?_
    rotate_left
    · simp only [results, Try.results85]
      go_simp
      exact rfl
    refine ⟨_, _, _, _, rfl, by unfold I64; omega, by unfold I64; omega, by unfold I64; omega, by unfold I64; omega, hs0.lift ?_⟩
    repeat' (first | (with_reducible exact hs1) | (with_reducible refine SrcAt.alloc ?_ _) | (with_reducible refine SrcAt.set ?_ _ _ _ (by first | (with_reducible exact hbw) | (with_reducible exact Nat.le_refl _))) | (with_reducible refine SrcAt.drewN ?_ _))
end Go.Proofs.Ytmcjabodkjlkgaa
