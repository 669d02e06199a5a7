/-
  The contract of the reference's IsBoard, one case of five.
-/
import Derived.Test.YtmcjabodkjlkgaaBoard
namespace Go.Proofs.Ytmcjabodkjlkgaa
open Go.RowKit

set_option maxHeartbeats 20000000 in
theorem specBoard_4 (p c h s : Int) (v1 v2 : Value) (zs ys : List Int) (w : World) (I1 : IntsAt w v1 zs) (I2 : IntsAt w v2 ys) (hv : varB p c h s = true) (h1 : sideB p c zs = true) (h2 : sideB p c ys = true) (hr : boardB p c h s zs ys = (!emptyB zs ys && !clash zs ys p.toNat p.toNat)) (he : emptyB zs ys = true) :
    Calls Try.prog 21 #[.agg #[.int .i64 p, .int .i64 c, .int .i64 h, .int .i64 s], .agg #[v1, v2]] w fun e w' => e = .returned (.bool (boardB p c h s zs ys)) ∧ Below w.heap.size w w' := by
  have H1 := hid I1
  have H2 := hid I2
  have HR := hid hr
  have hv' := varB_true hv
  have t1 := sideB_true (by omega) h1
  have t2 := sideB_true (by omega) h2
  have T1 := hid t1
  have T2 := hid t2
  have n1 : sumN zs zs.length ≤ 15 := by omega
  have n2 : sumN ys ys.length ≤ 15 := by omega
  clear hr t1 t2
  have he' := he
  simp [emptyB] at he'
  obtain ⟨e1, e2⟩ := he'
  go_enter Try.func21, Try.ntmps21
  go_wp2
  refine wp_named (fun W hW0 => ?_)
  have hW := hid hW0
  clear hW0
  have sW : W.heap.size = w.heap.size + 2 := by rw [← hW.out]; simp
  have bW : Below w.heap.size w W := by rw [← hW.out]; (repeat' (first | exact Below.refl _ _ | (with_reducible assumption) | (with_reducible refine xAlloc ?_ _) | (with_reducible refine Below.drew ?_) | (with_reducible refine xDrewN ?_ _) | (with_reducible refine xThen ?_ (by with_reducible assumption)) | (with_reducible refine Below.setCell ?_ (by first | omega | (simp; omega) | simp) _)))
  have lW0 : w.heap.size < W.heap.size := by omega
  have lW1 : w.heap.size + 1 < W.heap.size := by omega
  have kW0 : W.cell? ⟨w.heap.size, 0, none⟩ = some (.int .i64 p) := by rw [← hW.out]; go_simp
  have kW1 : W.cell? ⟨w.heap.size, 1, none⟩ = some (.int .i64 c) := by rw [← hW.out]; go_simp
  have kW2 : W.cell? ⟨w.heap.size, 2, none⟩ = some (.int .i64 h) := by rw [← hW.out]; go_simp
  have kW3 : W.cell? ⟨w.heap.size, 3, none⟩ = some (.int .i64 s) := by rw [← hW.out]; go_simp
  have kW4 : W.cell? ⟨w.heap.size + 1, 0, none⟩ = some (v1) := by rw [← hW.out]; go_simp
  have kW5 : W.cell? ⟨w.heap.size + 1, 1, none⟩ = some (v2) := by rw [← hW.out]; go_simp
  clear hW sW
  have J1 := H1.out.mono bW
  have J2 := H2.out.mono bW
  have hk0 : ∀ xe : ExtW W, xe.u.cell? ⟨w.heap.size, 0, none⟩ = some (.int .i64 p) := fun xe => xe.cell (by go_simp)
  have hk1 : ∀ xe : ExtW W, xe.u.cell? ⟨w.heap.size, 1, none⟩ = some (.int .i64 c) := fun xe => xe.cell (by go_simp)
  have hk2 : ∀ xe : ExtW W, xe.u.cell? ⟨w.heap.size, 2, none⟩ = some (.int .i64 h) := fun xe => xe.cell (by go_simp)
  have hk3 : ∀ xe : ExtW W, xe.u.cell? ⟨w.heap.size, 3, none⟩ = some (.int .i64 s) := fun xe => xe.cell (by go_simp)
  have hk4 : ∀ xe : ExtW W, xe.u.cell? ⟨w.heap.size + 1, 0, none⟩ = some (v1) := fun xe => xe.cell (by go_simp)
  have hk5 : ∀ xe : ExtW W, xe.u.cell? ⟨w.heap.size + 1, 1, none⟩ = some (v2) := fun xe => xe.cell (by go_simp)
  have hne : Nonempty (ExtW W) := ⟨⟨_, Below.refl _ _⟩⟩
  refine wp_region_ext (by kernel_rfl) (by kernel_rfl) ?_
  repeat (quiet_step ((first | (go_at_call 67; exact ext_call (specIsVariant_any _ _ _ _ _)) | (go_at_call_of 71 v1; exact ext_call (specSide_any _ _ _ _ v1 zs _ (by omega) (by omega) (by omega) (by omega) (J1.mono (ExtW.b _)))) | (go_at_call_of 71 v2; exact ext_call (specSide_any _ _ _ _ v2 ys _ (by omega) (by omega) (by omega) (by omega) (J2.mono (ExtW.b _)))) | (go_at_call_of 70 v1; exact ext_call0 (l02Sum_any v1 zs _ (J1.mono (ExtW.b _)) (fun i => by have := T1.out.2.2 i; omega))) | (go_at_call_of 70 v2; exact ext_call0 (l02Sum_any v2 ys _ (J2.mono (ExtW.b _)) (fun i => by have := T2.out.2.2 i; omega))))))
  refine wpQuiet_nil ?_
  rintro w1 ⟨⟨_, hb⟩, rfl⟩
  obtain ⟨hc, hf⟩ := bcell hb
  have hsz := hb.size
  (try simp at hsz)
  (try have hy0 : w.heap.size < w1.heap.size := by omega)
  (try have hy1 : w.heap.size + 1 < w1.heap.size := by omega)
  (try have hy2 : w.heap.size + 2 < w1.heap.size := by omega)
  (try have hyS : ws.heap.size < w1.heap.size := by omega)
  (try have hyG : wg.heap.size < w1.heap.size := by omega)
  go_wp2
  go_ret
  exact ⟨by rw [HR.out, he]; rfl, by (repeat' (first | exact Below.refl _ _ | (with_reducible assumption) | (with_reducible refine xAlloc ?_ _) | (with_reducible refine Below.drew ?_) | (with_reducible refine xDrewN ?_ _) | (with_reducible refine xThen ?_ (by with_reducible assumption)) | (with_reducible refine Below.setCell ?_ (by first | omega | (simp; omega) | simp) _)))⟩
end Go.Proofs.Ytmcjabodkjlkgaa
