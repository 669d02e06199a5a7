/-
  A source is made of bytes. Only that the bytes can be read and are at most 4096.
-/
import Derived.Test.YtmcjabodkjlkgaaDraw
namespace Go.Proofs.Ytmcjabodkjlkgaa
open Go.RowKit

/-- a slice of bytes that can be read -/
def BytesAt (w : World) (a : Option Addr) (len : Nat) : Prop :=
  len = 0 ∨ ∃ b off, a = some ⟨b, off, none⟩ ∧ ∀ i, i < len → ∃ z : Nat, z ≤ 255 ∧ w.cell? ⟨b, off + i, none⟩ = some (.int .u8 z)

theorem isRow_bytes {w : World} {a : Option Addr} {len cap : Nat} {z : List Int} (h : IsRow .u8 w a len cap z) : BytesAt w a len := by
  rcases h with ⟨rfl, rfl, rfl, rfl⟩ | ⟨x, rfl, hlc, hm, hz, hcell, hwz⟩
  · exact .inl rfl
  · by_cases h0 : len = 0
    · exact .inl h0
    · obtain ⟨b, off, spot⟩ := x
      have hc := hcell 0 (by omega)
      have hspot : spot = none := by simpa [Addr.add] using World.cell?_spot hc
      subst hspot
      refine .inr ⟨b, off, rfl, fun i hi => ?_⟩
      have hc := hcell i (by omega)
      have hm : z.getD i 0 ∈ z := by
        rw [List.getD_eq_getElem?_getD, List.getElem?_eq_getElem (by omega)]; exact List.getElem_mem _
      have hw := hwz _ hm
      have hb : 0 ≤ z.getD i 0 ∧ z.getD i 0 ≤ 255 := by
        generalize z.getD i 0 = u at hw
        revert hw
        simp [Lit.wf, IntKind.min, IntKind.max, IntKind.signed, IntKind.bits]
        try omega
      have ea : (⟨b, off, none⟩ : Addr).add i = ⟨b, off + i, none⟩ := by
        unfold Addr.add
        split
        · next h => subst h; rfl
        · rfl
      rw [ea] at hc
      exact ⟨(z.getD i 0).toNat, by omega, by rw [Int.toNat_of_nonneg hb.1]; exact hc⟩

set_option maxHeartbeats 2000000 in
theorem from_any (a : Option Addr) (len cap : Nat) (w : World) (hb0 : BytesAt w a len) (hl : len ≤ 4096) :
    Calls Try.prog 65 #[.slice a len cap] w fun e w' => ∃ g, e = .returned (.pointer (some ⟨g, 0, none⟩)) ∧ w.heap.size ≤ g ∧ SrcOk (w.heap.size + 1) w' g ∧ Below w.heap.size w w' := by
  have HB0 := hid hb0
  clear hb0
  go_enter Try.func65, Try.ntmps65
  go_wp2
  have HA : (w.alloc (Obj.cells #[.slice a len cap, .int .i64 0, .int .i64 24157] 123 (0, 0))).heap[w.heap.size]? = some (.cells #[.slice a len cap, .int .i64 0, .int .i64 24157] 123 (0, 0)) := blk_new _ _
  go_loopw [4] (fun i wr => ∃ (k : Nat) (sd : Int), i = .int .i64 k ∧ k ≤ len ∧ 0 ≤ sd ∧ sd < 2147483647 ∧ wr.heap[w.heap.size]? = some (.cells #[.slice a len cap, .int .i64 0, .int .i64 sd] 123 (0, 0)) ∧ Below w.heap.size w wr) (fun i _ => len - (intOf i).toNat)
  case atStart => exact ⟨0, 24157, rfl, by omega, by omega, by omega, HA, by (repeat' (first | exact Below.refl _ _ | (with_reducible assumption) | (with_reducible refine xAlloc ?_ _) | (with_reducible refine Below.drew ?_) | (with_reducible refine xDrewN ?_ _) | (with_reducible refine xThen ?_ (by with_reducible assumption)) | (with_reducible refine Below.setCell ?_ (by first | omega | (simp; omega) | simp) _)))⟩
  case round =>
    obtain ⟨k, sd, rfl, hk, s0, s1, hh, hbw⟩ := hrel
    clear HA
    have HH := hid hh
    have HB := hid hbw
    by_cases hlt : k < len ∧ k < 64
    · obtain ⟨b, off, rfl, hz⟩ := HB0.out.resolve_left (by omega)
      obtain ⟨z, hz1, hz2⟩ := hz k hlt.1
      have kz : wr.cell? ⟨b, off + k, none⟩ = some (.int .u8 z) := (World.cell?_of_block (w := w) (a := ⟨b, off + k, none⟩) (hbw.block b (cell_block hz2))).trans hz2
      obtain ⟨g, hg⟩ := named w.heap.size
      have hh' : wr.heap[g]? = some (.cells #[.slice (some ⟨b, off, none⟩) len cap, .int .i64 0, .int .i64 sd] 123 (0, 0)) := by rw [hg.out]; exact hh
      rw [← hg.out]
      have kq0 : wr.cell? ⟨g, 0, none⟩ = some (.slice (some ⟨b,off,none⟩) len cap) := cell_at hh'
      have kq1 : wr.cell? ⟨g, 1, none⟩ = some (.int .i64 0) := cell_at hh'
      have kq2 : wr.cell? ⟨g, 2, none⟩ = some (.int .i64 sd) := cell_at hh'
      have kf : wr.frozen? ⟨g, 2, none⟩ = false := frozen_at hh'
      have sd0 : 0 ≤ (sd * 43 + z) % 2147483647 ∧ (sd * 43 + z) % 2147483647 < 2147483647 := by omega
      obtain ⟨sn, hsn⟩ := named ((sd * 43 + z) % 2147483647)
      rw [← hsn.out] at sd0
      have ew1 : IntKind.i64.wrap (z : Int) = z := IntWalk.i64_in _ (by omega)
      have ew2 : IntKind.i64.wrap (sd * 43) = sd * 43 := IntWalk.i64_in _ (by omega)
      have ew3 : IntKind.i64.wrap (sd * 43 + z) = sd * 43 + z := IntWalk.i64_in _ (by omega)
      have HH' := hid hh'
      clear hh hh' hbw hz hz2
      go_wp2
      have hk0 : ∀ xe : ExtW wr, xe.u.cell? ⟨g, 0, none⟩ = some (.slice (some ⟨b,off,none⟩) len cap) := fun xe => xe.cell (by go_simp)
      have hk1 : ∀ xe : ExtW wr, xe.u.cell? ⟨g, 1, none⟩ = some (.int .i64 0) := fun xe => xe.cell (by go_simp)
      have hk2 : ∀ xe : ExtW wr, xe.u.cell? ⟨g, 2, none⟩ = some (.int .i64 sd) := fun xe => xe.cell (by go_simp)
      have hk3 : ∀ xe : ExtW wr, xe.u.cell? ⟨b, off+k, none⟩ = some (.int .u8 z) := fun xe => xe.cell (by go_simp)
      have hne : Nonempty (ExtW wr) := ⟨⟨_, Below.refl _ _⟩⟩
      refine wp_region_ext_tail 13 (by kernel_rfl) (by kernel_rfl) ?_
      simp only [List.take_succ_cons, List.take_zero, List.drop_succ_cons, List.drop_zero]
      repeat (quiet_step ((first | fail)))
      refine wpQuiet_nil ?_
      rintro w1 ⟨⟨_, hb⟩, rfl⟩
      obtain ⟨hc, hf⟩ := bcell hb
      have hsz := hb.size
      (try simp at hsz)
      (try have hy0 : w.heap.size < w1.heap.size := by omega)
      (try have hy1 : w.heap.size + 1 < w1.heap.size := by omega)
      (try have hy2 : w.heap.size + 2 < w1.heap.size := by omega)
      (try have hyS : ws.heap.size < w1.heap.size := by omega)
      (try have hyG : wg.heap.size < w1.heap.size := by omega)
      have HW1 := blk_mono hb HH'.out
      have kf1 : w1.frozen? ⟨g, 2, none⟩ = false := frozen_at HW1
      have kp0 : w1.cell? ⟨g, 0, none⟩ = some (.slice (some ⟨b,off,none⟩) len cap) := cell_at HW1
      have kp1 : w1.cell? ⟨g, 1, none⟩ = some (.int .i64 0) := cell_at HW1
      have kp2 : w1.cell? ⟨g, 2, none⟩ = some (.int .i64 sd) := cell_at HW1
      have HB1 := hid hb
      have HW1' := hid HW1
      clear hc hf hb hk0 hk1 hk2 hk3 hne HW1
      go_wp2
      refine ⟨⟨k + 1, _, by go_num, hlt.1, sd0.1, sd0.2, ?_, ?_⟩, by simp [intOf]; omega⟩
      · rw [← hsn.out]
        exact heap_setCell_at (o := 2) (u := .int .i64 sn) HW1'.out
      · rw [hg.out]
        exact Below.setCell (xThen HB.out HB1.out) (by simp) _
    · clear hh hbw
      go_wp2
      all_goals
        go_ret
        refine ⟨_, rfl, Nat.le_refl _, ⟨a, len, cap, 0, sd, HH.out, by omega, by omega, s0, s1, hl, ?_⟩, HB.out⟩
        by_cases h0 : len = 0
        · exact .inl h0
        · refine .inr ?_
          obtain ⟨b, off, rfl, hz⟩ := HB0.out.resolve_left h0
          refine ⟨b, off, rfl, ?_, ?_, fun i hi => ?_⟩
          · obtain ⟨z, hz1, hz2⟩ := hz 0 (by omega)
            have : b < w.heap.size := cell_block hz2
            omega
          · obtain ⟨z, hz1, hz2⟩ := hz 0 (by omega)
            have : b < w.heap.size := cell_block hz2
            omega
          · obtain ⟨z, hz1, hz2⟩ := hz i hi
            exact ⟨z, hz1, (World.cell?_of_block (w := w) (a := ⟨b, off + i, none⟩) (HB.out.block b (cell_block hz2))).trans hz2⟩
end Go.Proofs.Ytmcjabodkjlkgaa
