/-
  The law over both AddExact functions: it returns true for every variant and two numbers; no condition.
-/
import Derived.Test.YtdifaojcjcnokaaAdd5
import Derived.Test.YtdifaojcjcnokaaTailA
namespace Go.Proofs.Ytdifaojcjcnokaa
open Go.RowKit

set_option maxHeartbeats 4000000 in
theorem lawAdd (p c h s : Int) (_ : (Lit.int .i64 p).wf = true) (_ : (Lit.int .i64 c).wf = true) (_ : (Lit.int .i64 h).wf = true) (_ : (Lit.int .i64 s).wf = true) (x dx : Int) (wx : (Lit.int .i64 x).wf = true) (wdx : (Lit.int .i64 dx).wf = true)
    (y dy : Int) (wy : (Lit.int .i64 y).wf = true) (wdy : (Lit.int .i64 dy).wf = true) (w : World) :
    Calls Try.prog 12 #[.agg #[.int .i64 p, .int .i64 c, .int .i64 h, .int .i64 s], .agg #[.int .i64 x, .int .i64 dx], .agg #[.int .i64 y, .int .i64 dy]] w fun e w' => e = .returned (.bool true) ∧ Below w.heap.size w w' := by
  have HX := hid (I64.of_wf wx)
  have HDX := hid (I64.of_wf wdx)
  have HY := hid (I64.of_wf wy)
  have HDY := hid (I64.of_wf wdy)
  clear wx wdx wy wdy
  go_enter Try.func12, Try.ntmps12
  go_wp2
  refine wp_named (fun W hW0 => ?_)
  have hW := hid hW0
  clear hW0
  have sW : W.heap.size = w.heap.size + 3 := by rw [← hW.out]; simp
  have bW : Below w.heap.size w W := by rw [← hW.out]; (repeat' (first | exact Below.refl _ _ | (with_reducible assumption) | (with_reducible refine xAlloc ?_ _) | (with_reducible refine Below.drew ?_) | (with_reducible refine xDrewN ?_ _) | (with_reducible refine xThen ?_ (by with_reducible assumption)) | (with_reducible refine Below.setCell ?_ (by first | omega | (simp; omega) | simp) _)))
  have lW0 : w.heap.size < W.heap.size := by omega
  have lW1 : w.heap.size + 1 < W.heap.size := by omega
  have lW2 : w.heap.size + 2 < W.heap.size := by omega
  have kW0 : W.cell? ⟨w.heap.size, 0, none⟩ = some (.int .i64 p) := by rw [← hW.out]; go_simp
  have kW1 : W.cell? ⟨w.heap.size, 1, none⟩ = some (.int .i64 c) := by rw [← hW.out]; go_simp
  have kW2 : W.cell? ⟨w.heap.size, 2, none⟩ = some (.int .i64 h) := by rw [← hW.out]; go_simp
  have kW3 : W.cell? ⟨w.heap.size, 3, none⟩ = some (.int .i64 s) := by rw [← hW.out]; go_simp
  have kW4 : W.cell? ⟨w.heap.size + 1, 0, none⟩ = some (.int .i64 x) := by rw [← hW.out]; go_simp
  have kW5 : W.cell? ⟨w.heap.size + 1, 1, none⟩ = some (.int .i64 dx) := by rw [← hW.out]; go_simp
  have kW6 : W.cell? ⟨w.heap.size + 2, 0, none⟩ = some (.int .i64 y) := by rw [← hW.out]; go_simp
  have kW7 : W.cell? ⟨w.heap.size + 2, 1, none⟩ = some (.int .i64 dy) := by rw [← hW.out]; go_simp
  clear hW sW
  have hk0 : ∀ xe : ExtW W, xe.u.cell? ⟨w.heap.size, 0, none⟩ = some (.int .i64 p) := fun xe => xe.cell (by go_simp)
  have hk1 : ∀ xe : ExtW W, xe.u.cell? ⟨w.heap.size, 1, none⟩ = some (.int .i64 c) := fun xe => xe.cell (by go_simp)
  have hk2 : ∀ xe : ExtW W, xe.u.cell? ⟨w.heap.size, 2, none⟩ = some (.int .i64 h) := fun xe => xe.cell (by go_simp)
  have hk3 : ∀ xe : ExtW W, xe.u.cell? ⟨w.heap.size, 3, none⟩ = some (.int .i64 s) := fun xe => xe.cell (by go_simp)
  have hk4 : ∀ xe : ExtW W, xe.u.cell? ⟨w.heap.size + 1, 0, none⟩ = some (.int .i64 x) := fun xe => xe.cell (by go_simp)
  have hk5 : ∀ xe : ExtW W, xe.u.cell? ⟨w.heap.size + 1, 1, none⟩ = some (.int .i64 dx) := fun xe => xe.cell (by go_simp)
  have hk6 : ∀ xe : ExtW W, xe.u.cell? ⟨w.heap.size + 2, 0, none⟩ = some (.int .i64 y) := fun xe => xe.cell (by go_simp)
  have hk7 : ∀ xe : ExtW W, xe.u.cell? ⟨w.heap.size + 2, 1, none⟩ = some (.int .i64 dy) := fun xe => xe.cell (by go_simp)
  have hne : Nonempty (ExtW W) := ⟨⟨_, Below.refl _ _⟩⟩
  refine wp_region_oth [true, true, true, true, true, true, true, true, true, true, false, false, true] [10, 11] (by kernel_rfl) (by kernel_rfl) ?_
  simp only [sift]
  repeat (refine wpRel_step (fun K hK => ?_); simp only [relAt]; go_simp; first | (refine hK _ ?_; clear hK K) | (apply Exists.intro; refine ⟨fun _ => ?_, hK _ ?_⟩; ((first | (go_at_call 16; exact toVariant_any _ _ _ _ _) | (go_at_call 23; exact toExact_any _ _ _) | (go_at_call 40; exact specAdd_any _ _ _ _ _ _ _ _ HX.out HDX.out HY.out HDY.out _))); clear hK K))
  refine wpRel_nil ?_
  clear hk0 hk1 hk2 hk3 hk4 hk5 hk6 hk7 hne
  refine wpOth_box rfl rfl (cs := #[.int .i64 0, .int .i64 0]) (t := 36) (fun _ _ => by go_simp) rfl rfl rfl [.int .i64 (addZN p c h s x dx y dy), .int .i64 (addZD p c h s x dx y dy)] (cs' := #[.int .i64 (addZN p c h s x dx y dy), .int .i64 (addZD p c h s x dx y dy)]) rfl (fun g wx hbx => ?_) ?_
  · have c0 : wx.cell? ⟨g, 0, none⟩ = some (.int .i64 0) := cell_at hbx; have f0 : wx.frozen? ⟨g, 0, none⟩ = false := frozen_at hbx; have c1 : wx.cell? ⟨g, 1, none⟩ = some (.int .i64 0) := cell_at hbx; have f1 : wx.frozen? ⟨g, 1, none⟩ = false := frozen_at hbx; clear hbx; go_simp; rfl
  rintro g1 w1 ⟨hb1, box1, new1⟩
  have kA0 := xcell hb1 kW0
  have kA1 := xcell hb1 kW1
  have kA2 := xcell hb1 kW2
  have kA3 := xcell hb1 kW3
  have kA4 := xcell hb1 kW4
  have kA5 := xcell hb1 kW5
  have kA6 := xcell hb1 kW6
  have kA7 := xcell hb1 kW7
  go_wp2
  have hk0 : ∀ xe : ExtW w1, xe.u.cell? ⟨w.heap.size, 0, none⟩ = some (.int .i64 p) := fun xe => xe.cell (by go_simp)
  have hk1 : ∀ xe : ExtW w1, xe.u.cell? ⟨w.heap.size, 1, none⟩ = some (.int .i64 c) := fun xe => xe.cell (by go_simp)
  have hk2 : ∀ xe : ExtW w1, xe.u.cell? ⟨w.heap.size, 2, none⟩ = some (.int .i64 h) := fun xe => xe.cell (by go_simp)
  have hk3 : ∀ xe : ExtW w1, xe.u.cell? ⟨w.heap.size, 3, none⟩ = some (.int .i64 s) := fun xe => xe.cell (by go_simp)
  have hk4 : ∀ xe : ExtW w1, xe.u.cell? ⟨w.heap.size + 1, 0, none⟩ = some (.int .i64 x) := fun xe => xe.cell (by go_simp)
  have hk5 : ∀ xe : ExtW w1, xe.u.cell? ⟨w.heap.size + 1, 1, none⟩ = some (.int .i64 dx) := fun xe => xe.cell (by go_simp)
  have hk6 : ∀ xe : ExtW w1, xe.u.cell? ⟨w.heap.size + 2, 0, none⟩ = some (.int .i64 y) := fun xe => xe.cell (by go_simp)
  have hk7 : ∀ xe : ExtW w1, xe.u.cell? ⟨w.heap.size + 2, 1, none⟩ = some (.int .i64 dy) := fun xe => xe.cell (by go_simp)
  have hne : Nonempty (ExtW w1) := ⟨⟨_, Below.refl _ _⟩⟩
  refine wp_region_oth [true, true, true, true, true, true, true, true, true, true, false, false, true] [10, 11] (by kernel_rfl) (by kernel_rfl) ?_
  simp only [sift]
  repeat (refine wpRel_step (fun K hK => ?_); simp only [relAt]; go_simp; first | (refine hK _ ?_; clear hK K) | (apply Exists.intro; refine ⟨fun _ => ?_, hK _ ?_⟩; ((first | (go_at_call 16; exact toVariant_any _ _ _ _ _) | (go_at_call 23; exact toExact_any _ _ _) | (go_at_call 41; exact implAdd_any _ _ _ _ _ _ _ _ HX.out HDX.out HY.out HDY.out _))); clear hK K))
  refine wpRel_nil ?_
  clear hk0 hk1 hk2 hk3 hk4 hk5 hk6 hk7 hne
  refine wpOth_box rfl rfl (cs := #[.int .i64 0, .int .i64 0]) (t := 36) (fun _ _ => by go_simp) rfl rfl rfl [.int .i64 (addZN p c h s x dx y dy), .int .i64 (addZD p c h s x dx y dy)] (cs' := #[.int .i64 (addZN p c h s x dx y dy), .int .i64 (addZD p c h s x dx y dy)]) rfl (fun g wx hbx => ?_) ?_
  · have c0 : wx.cell? ⟨g, 0, none⟩ = some (.int .i64 0) := cell_at hbx; have f0 : wx.frozen? ⟨g, 0, none⟩ = false := frozen_at hbx; have c1 : wx.cell? ⟨g, 1, none⟩ = some (.int .i64 0) := cell_at hbx; have f1 : wx.frozen? ⟨g, 1, none⟩ = false := frozen_at hbx; clear hbx; go_simp; rfl
  rintro g2 w2 ⟨hb2, box2, new2⟩
  have box1' := blk_mono hb2 box1
  have ca0 : w2.cell? ⟨g1, 0, none⟩ = some (.int .i64 (addZN p c h s x dx y dy)) := cell_at box1'
  have ca1 : w2.cell? ⟨g1, 1, none⟩ = some (.int .i64 (addZD p c h s x dx y dy)) := cell_at box1'
  have cb0 : w2.cell? ⟨g2, 0, none⟩ = some (.int .i64 (addZN p c h s x dx y dy)) := cell_at box2
  have cb1 : w2.cell? ⟨g2, 1, none⟩ = some (.int .i64 (addZD p c h s x dx y dy)) := cell_at box2
  go_wp2_with (go_at_call 33; refine (eqExact_same _ _ _).mono ?_; rintro e w1 ⟨rfl, hb⟩; obtain ⟨hc, hf⟩ := bcell hb; have hsz := hb.size; (try simp at hsz); (try have hy0 : w.heap.size < w1.heap.size := by omega); (try have hy1 : w.heap.size + 1 < w1.heap.size := by omega); (try have hy2 : w.heap.size + 2 < w1.heap.size := by omega); (try have hyS : ws.heap.size < w1.heap.size := by omega); (try have hyG : wg.heap.size < w1.heap.size := by omega))
  go_ret
  exact ⟨rfl, by (repeat' (first | exact Below.refl _ _ | (with_reducible assumption) | (with_reducible refine xAlloc ?_ _) | (with_reducible refine Below.drew ?_) | (with_reducible refine xDrewN ?_ _) | (with_reducible refine xThen ?_ (by with_reducible assumption)) | (with_reducible refine Below.setCell ?_ (by first | omega | (simp; omega) | simp) _)))⟩
end Go.Proofs.Ytdifaojcjcnokaa
