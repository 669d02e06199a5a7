/-
  The law over both NextBearoff functions: it returns true for every variant and position; no condition.
-/
import Derived.Test.YtdifaojcjcnokaaNext
import Derived.Test.YtdifaojcjcnokaaHeld
import Derived.Test.YtdifaojcjcnokaaAdd
namespace Go.Proofs.Ytdifaojcjcnokaa
open Go.RowKit

set_option maxHeartbeats 2000000 in
theorem lawNext (p c h s : Int) (_ : (Lit.int .i64 p).wf = true) (_ : (Lit.int .i64 c).wf = true) (_ : (Lit.int .i64 h).wf = true) (_ : (Lit.int .i64 s).wf = true)
    (a : Option Addr) (len cap : Nat) (z : List Int) (w : World) (hr : IsRow .i64 w a len cap z) :
    Calls Try.prog 10 #[.agg #[.int .i64 p, .int .i64 c, .int .i64 h, .int .i64 s], .slice a len cap] w fun e w' => e = .returned (.bool true) ∧ Below w.heap.size w w' := by
  by_cases hl : len ≤ 1048576
  · obtain ⟨zs, rfl, hI, h64⟩ := isRow_ints hr hl
    clear hr h64
    obtain ⟨ys, HY⟩ := named (nextL p c h s zs)
    obtain ⟨cd, HCD⟩ := named (nextCode p c h s zs)
    go_enter Try.func10, Try.ntmps10
    go_wp2_with (go_at_call 16; (with_reducible refine (toVariant_any _ _ _ _ _).mono ?_); rintro e w1 ⟨rfl, hb⟩)
    have B1 : Below w.heap.size w w1 := by (repeat' (first | exact Below.refl _ _ | (with_reducible assumption) | (with_reducible refine xAlloc ?_ _) | (with_reducible refine Below.drew ?_) | (with_reducible refine xDrewN ?_ _) | (with_reducible refine xThen ?_ (by with_reducible assumption)) | (with_reducible refine Below.setCell ?_ (by first | omega | (simp; omega) | simp) _)))
    have K1 := blk_mono hb (blk_new w _)
    refine (toIntsB_any _ zs _ (hI.mono B1)).mono ?_
    rintro e wa ⟨rfl, hFa, hba, -⟩
    go_wp2_with fail
    refine (specNext_any _ _ _ _ _ zs _ hFa.ints).mono ?_
    rintro e ws ⟨v0, rfl, hF0, hbs⟩
    rw [← HY.out] at hF0
    rw [← HCD.out]
    have Bs : Below w1.heap.size w1 ws := xThen hba hbs
    clear hFa
    go_wp2_with fail
    refine (toIntsB_any _ zs _ (hI.mono (xThen B1 Bs))).mono ?_
    rintro e wx ⟨rfl, hFx, hbx, -⟩
    have K2 := blk_mono (xThen Bs hbx) K1
    have q0 : wx.cell? ⟨w.heap.size, 0, none⟩ = some (.int .i64 p) := cell_at K2
    have q1 : wx.cell? ⟨w.heap.size, 1, none⟩ = some (.int .i64 c) := cell_at K2
    have q2 : wx.cell? ⟨w.heap.size, 2, none⟩ = some (.int .i64 h) := cell_at K2
    have q3 : wx.cell? ⟨w.heap.size, 3, none⟩ = some (.int .i64 s) := cell_at K2
    go_wp2_with (go_at_call 16; (with_reducible refine (toVariant_any _ _ _ _ _).mono ?_); rintro e wv ⟨rfl, hbv⟩)
    clear q0 q1 q2 q3
    have hzv := hbv.size
    have hgx : ws.heap.size < wx.heap.size := by
      obtain ⟨_, cur, _, hh, _⟩ := hFx.row
      exact (Array.getElem?_eq_some_iff.1 hh).1
    have hFx' := hFx.mono hbv
    refine (implNext_any _ _ _ _ _ zs _ hFx'.ints).mono ?_
    rintro e wg ⟨v1, rfl, hF1, hbg⟩
    rw [← HY.out] at hF1
    rw [← HCD.out]
    have Sg : Below ws.heap.size ws wg := xThen (xThen hbx hbv) hbg
    have hFg := hFx'.mono hbg
    have hI0 := hF0.ints
    clear hFx hFx' hF0
    go_wp2_with fail
    refine (eqB_any _ _ ys _ hF1.ints (hI0.mono Sg)).mono ?_
    rintro e we ⟨rfl, hbe, -⟩
    have Se : Below ws.heap.size ws we := xThen Sg hbe
    have hFe := hFg.mono hbe
    have hF2 := hF1.mono hbe
    clear hFg hF1
    go_wp2_with fail
    refine (toIntsB_any _ zs _ (hI.mono (xThen (xThen B1 Bs) Se))).mono ?_
    rintro e wt ⟨rfl, hFt, hbt, -⟩
    go_wp2_with fail
    refine (eqB_any _ _ zs _ (hFe.mono hbt).ints hFt.ints).mono ?_
    rintro e wu ⟨rfl, hbu, -⟩
    have Su : Below ws.heap.size ws wu := xThen (xThen Se hbt) hbu
    have hFu := (hFe.mono hbt).mono hbu
    have hF3 := (hF2.mono hbt).mono hbu
    clear hFe hF2 hFt
    go_wp2_with fail
    refine (markX_any _ _ 1 zs _ _ hFu (by omega) (by omega)).mono ?_
    rintro e wm ⟨rfl, hwm⟩
    have Sm : Below ws.heap.size ws wm := Su.trans (hwm.below (Nat.le_refl _))
    have hF4 := hF3.wrote hwm (by omega)
    clear hFu hF3
    have hk : ¬ (1 + (zs.length : Int) < 0) := by omega
    go_wp2_with fail
    refine (eqB_any _ _ ys _ hF4.ints (hI0.mono Sm)).mono ?_
    rintro e wn ⟨rfl, hbn, -⟩
    have Sn : Below ws.heap.size ws wn := xThen Sm hbn
    have hF5 := hF4.mono hbn
    clear hF4
    go_wp2_with fail
    refine (markF_any _ _ 1 ys _ hF5 (by omega) (by omega)).mono ?_
    rintro e wo ⟨rfl, hH, hbo, -⟩
    have hmy := hF5.1
    have So : Below ws.heap.size ws wo := Sn.trans (hbo.mono (by omega))
    clear hF5
    go_wp2_with fail
    refine (heldF_any _ 1 _ _ hH hmy (by omega) (by omega)).mono ?_
    rintro e _ ⟨rfl, rfl⟩
    have hq : ¬ (1 + (ys.length : Int) < 0) := by omega
    have K3 := blk_mono (xThen Bs So) K1
    have q0 : wo.cell? ⟨w.heap.size, 0, none⟩ = some (.int .i64 p) := cell_at K3
    have q1 : wo.cell? ⟨w.heap.size, 1, none⟩ = some (.int .i64 c) := cell_at K3
    have q2 : wo.cell? ⟨w.heap.size, 2, none⟩ = some (.int .i64 h) := cell_at K3
    have q3 : wo.cell? ⟨w.heap.size, 3, none⟩ = some (.int .i64 s) := cell_at K3
    go_wp2_with (go_at_call 16; (with_reducible refine (toVariant_any _ _ _ _ _).mono ?_); rintro e wr ⟨rfl, hbr⟩)
    clear q0 q1 q2 q3
    have Sr : Below ws.heap.size ws wr := xThen So hbr
    refine (toIntsB_any _ zs _ (hI.mono (xThen (xThen B1 Bs) Sr))).mono ?_
    rintro e wy ⟨rfl, hFy, hby, -⟩
    go_wp2_with fail
    refine (implNext_any _ _ _ _ _ zs _ hFy.ints).mono ?_
    rintro e wz ⟨v2, rfl, hF6, hbz⟩
    rw [← HY.out] at hF6
    rw [← HCD.out]
    have Sz : Below ws.heap.size ws wz := xThen (xThen Sr hby) hbz
    have hH2 := ((hH.mono hbr).mono hby).mono hbz
    clear hFy hH
    go_wp2_with fail
    refine (eqB_any _ _ ys _ hF6.ints (hI0.mono Sz)).mono ?_
    rintro e wl ⟨rfl, hbl, -⟩
    have Sl : Below ws.heap.size ws wl := xThen Sz hbl
    have hH3 := hH2.mono hbl
    clear hH2 hF6
    go_wp2_with fail
    refine (heldF_any _ 1 _ _ hH3 hmy (by omega) (by omega)).mono ?_
    rintro e _ ⟨rfl, rfl⟩
    go_wp2
    go_ret
    exact ⟨rfl, xThen (xThen B1 Bs) Sl⟩
  · go_enter Try.func10, Try.ntmps10
    go_wp2
    go_ret
    exact ⟨rfl, by (repeat' (first | exact Below.refl _ _ | (with_reducible assumption) | (with_reducible refine xAlloc ?_ _) | (with_reducible refine Below.drew ?_) | (with_reducible refine xDrewN ?_ _) | (with_reducible refine xThen ?_ (by with_reducible assumption)) | (with_reducible refine Below.setCell ?_ (by first | omega | (simp; omega) | simp) _)))⟩
end Go.Proofs.Ytdifaojcjcnokaa
