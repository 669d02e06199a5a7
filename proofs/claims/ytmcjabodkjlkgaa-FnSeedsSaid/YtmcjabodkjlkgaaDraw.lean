/-
  The source of the reference's draws: it hands out some number below the bound; no condition on the bytes.
-/
import Derived.Test.YtmcjabodkjlkgaaBlk
import Derived.Test.YtmcjabodkjlkgaaMark
import Derived.Test.YtmcjabodkjlkgaaTailA
namespace Go.Proofs.Ytmcjabodkjlkgaa
open Go.RowKit

/-- a source at block g: its fields are within bounds, its bytes can be read, and it does not lie among them -/
def SrcOk (m : Nat) (w : World) (g : Nat) : Prop :=
  ∃ (a : Option Addr) (len cap : Nat) (at_ seed : Int), w.heap[g]? = some (.cells #[.slice a len cap, .int .i64 at_, .int .i64 seed] 123 (0, 0)) ∧ 0 ≤ at_ ∧ at_ ≤ len ∧ 0 ≤ seed ∧ seed < 2147483647 ∧ len ≤ 4096 ∧
    (len = 0 ∨ ∃ b off, a = some ⟨b, off, none⟩ ∧ b ≠ g ∧ b < m ∧ ∀ i, i < len → ∃ z : Nat, z ≤ 255 ∧ w.cell? ⟨b, off + i, none⟩ = some (.int .u8 z))

theorem SrcOk.grow {m : Nat} {w w' : World} {g h : Nat} (hs : SrcOk m w g) (hg : w.grownBy w' (some h)) (hne : g ≠ h) (hb : ∀ b off a len cap at_ seed, w.heap[g]? = some (.cells #[.slice (some ⟨b, off, a⟩) len cap, .int .i64 at_, .int .i64 seed] 123 (0, 0)) → b ≠ h) : SrcOk m w' g := by
  obtain ⟨a, len, cap, at_, seed, hh, h1, h2, h3, h4, h5, h6⟩ := hs
  refine ⟨a, len, cap, at_, seed, (hg.block g (Array.getElem?_eq_some_iff.1 hh).1 (by simpa using hne)).trans hh, h1, h2, h3, h4, h5, h6.imp id ?_⟩
  rintro ⟨b, off, rfl, hbg, hbn, hz⟩
  refine ⟨b, off, rfl, hbg, hbn, fun i hi => ?_⟩
  obtain ⟨z, hz1, hz2⟩ := hz i hi
  exact ⟨z, hz1, (World.cell?_of_block (w := w) (a := ⟨b, off + i, none⟩) (hg.block b (cell_block hz2) (by simpa using hb _ _ _ _ _ _ _ hh))).trans hz2⟩

theorem grown_below {w a b : World} {g : Option Nat} (h : w.grownBy a g) (hb : Below a.heap.size a b) : w.grownBy b g :=
  ⟨hb.os.trans h.os, hb.tape.trans h.tape, hb.output.trans h.output, Nat.le_trans h.size hb.size, fun k hk hne => (hb.block k (Nat.lt_of_lt_of_le hk h.size)).trans (h.block k hk hne)⟩
theorem grown_set {w a : World} {g : Nat} (h : w.grownBy a (some g)) (o : Nat) (u : Value) : w.grownBy (a.setCell ⟨g, o, none⟩ u) (some g) :=
  ⟨h.os, h.tape, h.output, by simpa [World.setCell] using h.size, fun k hk hne => (Below.heap_setCell a ⟨g, o, none⟩ u k (by simpa using hne)).trans (h.block k hk hne)⟩
theorem grown_refl (w : World) (g : Option Nat) : w.grownBy w g := ⟨rfl, rfl, rfl, Nat.le_refl _, fun _ _ _ => rfl⟩
theorem grown_cell {w a : World} {g b o : Nat} {v : Value} (h : w.grownBy a (some g)) (hv : w.cell? ⟨b, o, none⟩ = some v) (hne : b ≠ g) : a.cell? ⟨b, o, none⟩ = some v :=
  (World.cell?_of_block (w := w) (a := ⟨b, o, none⟩) (h.block b (cell_block hv) (by simpa using hne))).trans hv


theorem src_of {w W : World} {m g len cap : Nat} {a : Option Addr} {at_ sd : Int} (G : w.grownBy W (some g)) (hh : W.heap[g]? = some (.cells #[.slice a len cap, .int .i64 at_, .int .i64 sd] 123 (0, 0)))
    (h1 : 0 ≤ at_) (h2 : at_ ≤ len) (sd0 : 0 ≤ sd ∧ sd < 2147483647) (h5 : len ≤ 4096)
    (hz : len = 0 ∨ ∃ b off, a = some ⟨b, off, none⟩ ∧ b ≠ g ∧ b < m ∧ ∀ i, i < len → ∃ z : Nat, z ≤ 255 ∧ w.cell? ⟨b, off + i, none⟩ = some (.int .u8 z)) : SrcOk m W g := by
  refine ⟨a, len, cap, at_, sd, hh, h1, h2, sd0.1, sd0.2, h5, hz.imp id ?_⟩
  rintro ⟨b, off, rfl, hbg, hbn, hz⟩
  refine ⟨b, off, rfl, hbg, hbn, fun i hi => ?_⟩
  obtain ⟨z, hz1, hz2⟩ := hz i hi
  exact ⟨z, hz1, grown_cell G hz2 hbg⟩

set_option maxHeartbeats 2000000 in
theorem next_any (m g : Nat) (n : Int) (hn : I64 n) (w : World) (hs : SrcOk m w g) :
    Calls Try.prog 68 #[.pointer (some ⟨g, 0, none⟩), .int .i64 n] w fun e w' => ∃ r : Int, e = .returned (.int .i64 r) ∧ 0 ≤ r ∧ (r < n ∨ r = 0) ∧ SrcOk m w' g ∧ w.grownBy w' (some g) := by
  have HN := hid hn
  obtain ⟨a, len, cap, at_, seed, hh, h1, h2, h3, h4, h5, h6⟩ := hs
  have HH := hid hh
  have hgl := blk_lt hh
  have c0 : w.cell? ⟨g, 0, none⟩ = some (.slice a len cap) := cell_at hh
  have c1 : w.cell? ⟨g, 1, none⟩ = some (.int .i64 at_) := cell_at hh
  have c2 : w.cell? ⟨g, 2, none⟩ = some (.int .i64 seed) := cell_at hh
  have f1 : w.frozen? ⟨g, 1, none⟩ = false := frozen_at hh
  have f2 : w.frozen? ⟨g, 2, none⟩ = false := frozen_at hh
  by_cases hn1 : n ≤ 1
  · go_enter Try.func68, Try.ntmps68
    go_wp2
    go_ret
    exact ⟨0, rfl, by omega, .inr rfl, ⟨a, len, cap, at_, seed, hh, h1, h2, h3, h4, h5, h6⟩, ⟨rfl, rfl, rfl, Nat.le_refl _, fun _ _ _ => rfl⟩⟩
  · clear hh
    have sd0 : 0 ≤ (seed * 48271 + 17) % 2147483647 ∧ (seed * 48271 + 17) % 2147483647 < 2147483647 := by omega
    obtain ⟨sd, HSD⟩ := named ((seed * 48271 + 17) % 2147483647)
    rw [← HSD.out] at sd0
    have ESD : (seed * 48271 + 17) % 2147483647 = sd := HSD.out.symm
    by_cases hat : at_ < len
    · obtain ⟨b, off, rfl, hbg, hbn, hz⟩ := h6.resolve_left (by omega)
      have HZ := hid hz
      obtain ⟨z, hz1, hz2⟩ := hz at_.toNat (by omega)
      have hn2 := HN.out.bd
      obtain ⟨j, rfl⟩ := Int.eq_ofNat_of_zero_le h1
      rw [Int.toNat_natCast] at hz2
      go_enter Try.func68, Try.ntmps68
      go_wp2
      refine wp_named (fun W hW0 => ?_)
      have G1 : w.grownBy W (some g) := by rw [← hW0]; exact grown_set (grown_refl _ _) _ _
      have HW1 := heap_setCell_at (o := 2) (u := .int .i64 sd) HH.out
      rw [hW0] at HW1
      have HW1 : W.heap[g]? = some (.cells #[.slice (some ⟨b, off, none⟩) len cap, .int .i64 j, .int .i64 sd] 123 (0, 0)) := HW1
      have kb := grown_cell G1 hz2 hbg
      have kq0 : W.cell? ⟨g, 0, none⟩ = some (.slice (some ⟨b,off,none⟩) len cap) := cell_at HW1
      have kq1 : W.cell? ⟨g, 1, none⟩ = some (.int .i64 (j:Int)) := cell_at HW1
      have kq2 : W.cell? ⟨g, 2, none⟩ = some (.int .i64 sd) := cell_at HW1
      clear hW0 c0 c1 c2 f1 f2 hz h6
      have hk0 : ∀ xe : ExtW W, xe.u.cell? ⟨g, 0, none⟩ = some (.slice (some ⟨b,off,none⟩) len cap) := fun xe => xe.cell (by go_simp)
      have hk1 : ∀ xe : ExtW W, xe.u.cell? ⟨g, 1, none⟩ = some (.int .i64 j) := fun xe => xe.cell (by go_simp)
      have hk2 : ∀ xe : ExtW W, xe.u.cell? ⟨g, 2, none⟩ = some (.int .i64 sd) := fun xe => xe.cell (by go_simp)
      have hk3 : ∀ xe : ExtW W, xe.u.cell? ⟨b, off+j, none⟩ = some (.int .u8 z) := fun xe => xe.cell (by go_simp)
      have hne : Nonempty (ExtW W) := ⟨⟨_, Below.refl _ _⟩⟩
      refine wp_region_ext (by kernel_rfl) (by kernel_rfl) ?_
      repeat (quiet_step ((first | fail)))
      refine wpQuiet_nil ?_
      rintro w1 ⟨⟨_, hb⟩, rfl⟩
      obtain ⟨hc, hf⟩ := bcell hb
      have hsz := hb.size
      (try simp at hsz)
      (try have hy0 : w.heap.size < w1.heap.size := by omega)
      (try have hy1 : w.heap.size + 1 < w1.heap.size := by omega)
      (try have hy2 : w.heap.size + 2 < w1.heap.size := by omega)
      (try have hyS : ws.heap.size < w1.heap.size := by omega)
      (try have hyG : wg.heap.size < w1.heap.size := by omega)
      go_wp2
      clear hk0 hk1 hk2 hk3 hne
      have HW2 := blk_mono hb HW1
      have kb1 := xcell hb kb
      have kp0 : w1.cell? ⟨g, 0, none⟩ = some (.slice (some ⟨b,off,none⟩) len cap) := cell_at HW2
      have kp1 : w1.cell? ⟨g, 1, none⟩ = some (.int .i64 (j:Int)) := cell_at HW2
      have kp2 : w1.cell? ⟨g, 2, none⟩ = some (.int .i64 sd) := cell_at HW2
      have HB1 := hid hb
      clear hc hf hb hsz kq0 kq1 kq2 kb
      have ew1 : IntKind.i64.wrap (z : Int) = z := IntWalk.i64_in _ (by omega)
      have ew2 : IntKind.i64.wrap (sd / 11 + z : Int) = sd / 11 + z := IntWalk.i64_in _ (by omega)
      have hk0 : ∀ xe : ExtW w1, xe.u.cell? ⟨g, 0, none⟩ = some (.slice (some ⟨b,off,none⟩) len cap) := fun xe => xe.cell (by go_simp)
      have hk1 : ∀ xe : ExtW w1, xe.u.cell? ⟨g, 1, none⟩ = some (.int .i64 j) := fun xe => xe.cell (by go_simp)
      have hk2 : ∀ xe : ExtW w1, xe.u.cell? ⟨b, off+j, none⟩ = some (.int .u8 z) := fun xe => xe.cell (by go_simp)
      have hne : Nonempty (ExtW w1) := ⟨⟨_, Below.refl _ _⟩⟩
      refine wp_region_ext (by kernel_rfl) (by kernel_rfl) ?_
      repeat (quiet_step ((first | fail)))
      refine wpQuiet_nil ?_
      rintro w1 ⟨⟨_, hb⟩, rfl⟩
      obtain ⟨hc, hf⟩ := bcell hb
      have hsz := hb.size
      (try simp at hsz)
      (try have hy0 : w.heap.size < w1.heap.size := by omega)
      (try have hy1 : w.heap.size + 1 < w1.heap.size := by omega)
      (try have hy2 : w.heap.size + 2 < w1.heap.size := by omega)
      (try have hyS : ws.heap.size < w1.heap.size := by omega)
      (try have hyG : wg.heap.size < w1.heap.size := by omega)
      clear hk0 hk1 hk2 hne ew1 ew2
      have HW3 := blk_mono hb HW2
      have kb2 := xcell hb kb1
      have kr0 : w1.cell? ⟨g, 0, none⟩ = some (.slice (some ⟨b,off,none⟩) len cap) := cell_at HW3
      have kr1 : w1.cell? ⟨g, 1, none⟩ = some (.int .i64 (j:Int)) := cell_at HW3
      have kr2 : w1.cell? ⟨g, 2, none⟩ = some (.int .i64 sd) := cell_at HW3
      have ff : w1.frozen? ⟨g, 1, none⟩ = false := frozen_at HW3
      have HB2 := hid hb
      clear hc hf hb hsz kp0 kp1 kp2 kb1
      go_wp2
      · refine wp_named (fun V hV0 => ?_)
        have G3 := grown_set (grown_below (grown_below G1 HB1.out) HB2.out) 1 (.int .i64 ((j : Int) + 1))
        have HV := heap_setCell_at (o := 1) (u := .int .i64 ((j : Int) + 1)) HW3
        rw [hV0] at HV G3
        have HV : V.heap[g]? = some (.cells #[.slice (some ⟨b, off, none⟩) len cap, .int .i64 ((j : Int) + 1), .int .i64 sd] 123 (0, 0)) := HV
        have kb3 := grown_cell G3 hz2 hbg
        have ks0 : V.cell? ⟨g, 0, none⟩ = some (.slice (some ⟨b,off,none⟩) len cap) := cell_at HV
        have ks1 : V.cell? ⟨g, 1, none⟩ = some (.int .i64 ((j:Int)+1)) := cell_at HV
        have ks2 : V.cell? ⟨g, 2, none⟩ = some (.int .i64 sd) := cell_at HV
        clear hV0 kr0 kr1 kr2 kb2 ff HW1 HW2 HW3 hz2
        have ew1 : IntKind.i64.wrap (z : Int) = z := IntWalk.i64_in _ (by omega)
        have ew3 : IntKind.i64.wrap (j : Int) = j := IntWalk.i64_in _ (by omega)
        have hk0 : ∀ xe : ExtW V, xe.u.cell? ⟨g, 0, none⟩ = some (.slice (some ⟨b,off,none⟩) len cap) := fun xe => xe.cell (by go_simp)
        have hk1 : ∀ xe : ExtW V, xe.u.cell? ⟨g, 1, none⟩ = some (.int .i64 (j+1)) := fun xe => xe.cell (by go_simp)
        have hk2 : ∀ xe : ExtW V, xe.u.cell? ⟨b, off+j, none⟩ = some (.int .u8 z) := fun xe => xe.cell (by go_simp)
        have hne : Nonempty (ExtW V) := ⟨⟨_, Below.refl _ _⟩⟩
        refine wp_region_ext (by kernel_rfl) (by kernel_rfl) ?_
        repeat (quiet_step ((first | fail)))
        refine wpQuiet_nil ?_
        rintro w1 ⟨⟨_, hb⟩, rfl⟩
        obtain ⟨hc, hf⟩ := bcell hb
        have hsz := hb.size
        (try simp at hsz)
        (try have hy0 : w.heap.size < w1.heap.size := by omega)
        (try have hy1 : w.heap.size + 1 < w1.heap.size := by omega)
        (try have hy2 : w.heap.size + 2 < w1.heap.size := by omega)
        (try have hyS : ws.heap.size < w1.heap.size := by omega)
        (try have hyG : wg.heap.size < w1.heap.size := by omega)
        clear hk0 hk1 hk2 hne ew1 ew3
        go_wp2
        go_ret
        have G4 := grown_below G3 hb
        exact ⟨_, rfl, Int.emod_nonneg _ (by omega), .inl (Int.emod_lt_of_pos _ (by omega)), src_of G4 (blk_mono hb HV) (by omega) (by omega) sd0 h5 (.inr ⟨b, off, rfl, hbg, hbn, HZ.out⟩), G4⟩
      · go_ret
        have G3 := grown_set (grown_below (grown_below G1 HB1.out) HB2.out) 1 (.int .i64 ((j : Int) + 1))
        exact ⟨_, rfl, Int.emod_nonneg _ (by omega), .inl (Int.emod_lt_of_pos _ (by omega)), src_of G3 (heap_setCell_at (o := 1) (u := .int .i64 ((j : Int) + 1)) HW3) (by omega) (by omega) sd0 h5 (.inr ⟨b, off, rfl, hbg, hbn, HZ.out⟩), G3⟩
      · go_ret
        have G3 := grown_set (grown_below (grown_below G1 HB1.out) HB2.out) 1 (.int .i64 ((j : Int) + 1))
        exact ⟨_, rfl, Int.emod_nonneg _ (by omega), .inl (Int.emod_lt_of_pos _ (by omega)), src_of G3 (heap_setCell_at (o := 1) (u := .int .i64 ((j : Int) + 1)) HW3) (by omega) (by omega) sd0 h5 (.inr ⟨b, off, rfl, hbg, hbn, HZ.out⟩), G3⟩
    · have H6 := hid h6
      clear h6
      have hn2 := HN.out.bd
      go_enter Try.func68, Try.ntmps68
      go_wp2
      refine wp_named (fun W hW0 => ?_)
      have G1 := grown_set (grown_refl w (some g)) 2 (.int .i64 sd)
      have HW1 := heap_setCell_at (o := 2) (u := .int .i64 sd) HH.out
      rw [hW0] at HW1 G1
      have HW1 : W.heap[g]? = some (.cells #[.slice a len cap, .int .i64 at_, .int .i64 sd] 123 (0, 0)) := HW1
      have kq0 : W.cell? ⟨g, 0, none⟩ = some (.slice a len cap) := cell_at HW1
      have kq1 : W.cell? ⟨g, 1, none⟩ = some (.int .i64 at_) := cell_at HW1
      have kq2 : W.cell? ⟨g, 2, none⟩ = some (.int .i64 sd) := cell_at HW1
      clear hW0 c0 c1 c2 f1 f2
      have hk0 : ∀ xe : ExtW W, xe.u.cell? ⟨g, 0, none⟩ = some (.slice a len cap) := fun xe => xe.cell (by go_simp)
      have hk1 : ∀ xe : ExtW W, xe.u.cell? ⟨g, 1, none⟩ = some (.int .i64 at_) := fun xe => xe.cell (by go_simp)
      have hk2 : ∀ xe : ExtW W, xe.u.cell? ⟨g, 2, none⟩ = some (.int .i64 sd) := fun xe => xe.cell (by go_simp)
      have hne : Nonempty (ExtW W) := ⟨⟨_, Below.refl _ _⟩⟩
      refine wp_region_ext (by kernel_rfl) (by kernel_rfl) ?_
      repeat (quiet_step ((first | fail)))
      refine wpQuiet_nil ?_
      rintro w1 ⟨⟨_, hb⟩, rfl⟩
      obtain ⟨hc, hf⟩ := bcell hb
      have hsz := hb.size
      (try simp at hsz)
      (try have hy0 : w.heap.size < w1.heap.size := by omega)
      (try have hy1 : w.heap.size + 1 < w1.heap.size := by omega)
      (try have hy2 : w.heap.size + 2 < w1.heap.size := by omega)
      (try have hyS : ws.heap.size < w1.heap.size := by omega)
      (try have hyG : wg.heap.size < w1.heap.size := by omega)
      go_wp2
      go_ret
      have G3 := grown_below G1 hb
      exact ⟨_, rfl, Int.emod_nonneg _ (by omega), .inl (Int.emod_lt_of_pos _ (by omega)), src_of G3 (blk_mono hb HW1) (by omega) (by omega) sd0 h5 H6.out, G3⟩
end Go.Proofs.Ytmcjabodkjlkgaa
