/-
  Contracts of both ResultOf functions, for every variant and two lists of at most 2^20 elements.
-/
import Derived.Test.YtmcjabodkjlkgaaBoard
namespace Go.Proofs.Ytmcjabodkjlkgaa
open Go.RowKit

def loserL (zs ys : List Int) : List Int := if sumN zs zs.length = 0 then ys else zs
def resV (p c h : Int) (L : List Int) : Int := if (sumN L L.length : Int) < c then 1 else if p - h ≤ lastTo L L.length then 3 else 2
def overB (zs ys : List Int) : Bool := decide (sumN zs zs.length = 0) || decide (sumN ys ys.length = 0)
def resZ (p c h s : Int) (zs ys : List Int) : Int := if boardB p c h s zs ys && overB zs ys then resV p c h (loserL zs ys) else 0

set_option maxHeartbeats 2000000 in
theorem implRes_any (p c h s : Int) (v1 v2 : Value) (zs ys : List Int) (w : World) (I1 : IntsAt w v1 zs) (I2 : IntsAt w v2 ys) (hp0 : 0 ≤ p) (hp1 : p ≤ 24) (hh0 : 0 ≤ h) (hh1 : h ≤ 24) (hz : ∀ i, 0 ≤ zs.getD i 0 ∧ zs.getD i 0 ≤ 15) (hy : ∀ i, 0 ≤ ys.getD i 0 ∧ ys.getD i 0 ≤ 15) :
    Calls Try.prog 63 #[.agg #[.int .i64 p, .int .i64 c, .int .i64 h, .int .i64 s], .agg #[v1, v2]] w fun e w' => e = .returned (.int .i64 (resV p c h (loserL zs ys))) ∧ Below w.heap.size w w' := by
  have HZ := hid hz
  have HY := hid hy
  clear hz hy
  by_cases s0 : sumN zs zs.length = 0
  · go_enter Try.func63, Try.ntmps63
    go_wp2_with fail
    refine calls_named (fun W hW0 => ?_)
    have hW := hid hW0
    clear hW0
    have sW : W.heap.size = w.heap.size + 2 := by rw [← hW.out]; simp
    have bW : Below w.heap.size w W := by rw [← hW.out]; (repeat' (first | exact Below.refl _ _ | (with_reducible assumption) | (with_reducible refine xAlloc ?_ _) | (with_reducible refine Below.drew ?_) | (with_reducible refine xDrewN ?_ _) | (with_reducible refine xThen ?_ (by with_reducible assumption)) | (with_reducible refine Below.setCell ?_ (by first | omega | (simp; omega) | simp) _)))
    have lW0 : w.heap.size < W.heap.size := by omega
    have lW1 : w.heap.size + 1 < W.heap.size := by omega
    have kW0 : W.cell? ⟨w.heap.size, 0, none⟩ = some (.int .i64 p) := by rw [← hW.out]; go_simp
    have kW1 : W.cell? ⟨w.heap.size, 1, none⟩ = some (.int .i64 c) := by rw [← hW.out]; go_simp
    have kW2 : W.cell? ⟨w.heap.size, 2, none⟩ = some (.int .i64 h) := by rw [← hW.out]; go_simp
    have kW3 : W.cell? ⟨w.heap.size, 3, none⟩ = some (.int .i64 s) := by rw [← hW.out]; go_simp
    have kW4 : W.cell? ⟨w.heap.size + 1, 0, none⟩ = some (v1) := by rw [← hW.out]; go_simp
    have kW5 : W.cell? ⟨w.heap.size + 1, 1, none⟩ = some (v2) := by rw [← hW.out]; go_simp
    clear hW sW
    have J1 := I1.mono bW
    have J2 := I2.mono bW
    refine (totalS_any _ zs _ J1 HZ.out).mono ?_
    rintro e _ ⟨rfl, rfl⟩
    go_wp2
    by_cases s1 : (sumN ys ys.length : Int) < c
    · skip
      have hk0 : ∀ xe : ExtW W, xe.u.cell? ⟨w.heap.size, 1, none⟩ = some (.int .i64 c) := fun xe => xe.cell (by go_simp)
      have hne : Nonempty (ExtW W) := ⟨⟨_, Below.refl _ _⟩⟩
      refine wp_region_ext (by kernel_rfl) (by kernel_rfl) ?_
      repeat (quiet_step ((first | (go_at_call 109; exact ext_call0 (totalS_any _ ys _ (J2.mono (ExtW.b _)) HY.out)))))
      refine wpQuiet_nil ?_
      rintro w1 ⟨⟨_, hb⟩, rfl⟩
      obtain ⟨hc, hf⟩ := bcell hb
      have hsz := hb.size
      (try simp at hsz)
      (try have hy0 : w.heap.size < w1.heap.size := by omega)
      (try have hy1 : w.heap.size + 1 < w1.heap.size := by omega)
      (try have hy2 : w.heap.size + 2 < w1.heap.size := by omega)
      (try have hyS : ws.heap.size < w1.heap.size := by omega)
      (try have hyG : wg.heap.size < w1.heap.size := by omega)
      go_wp2
      go_ret
      exact ⟨ret_int (by simp only [loserL, if_pos s0]; unfold resV; (repeat' split) <;> omega), by (repeat' (first | exact Below.refl _ _ | (with_reducible assumption) | (with_reducible refine xAlloc ?_ _) | (with_reducible refine Below.drew ?_) | (with_reducible refine xDrewN ?_ _) | (with_reducible refine xThen ?_ (by with_reducible assumption)) | (with_reducible refine Below.setCell ?_ (by first | omega | (simp; omega) | simp) _)))⟩
    · skip
      have hk0 : ∀ xe : ExtW W, xe.u.cell? ⟨w.heap.size, 1, none⟩ = some (.int .i64 c) := fun xe => xe.cell (by go_simp)
      have hne : Nonempty (ExtW W) := ⟨⟨_, Below.refl _ _⟩⟩
      refine wp_region_ext (by kernel_rfl) (by kernel_rfl) ?_
      repeat (quiet_step ((first | (go_at_call 109; exact ext_call0 (totalS_any _ ys _ (J2.mono (ExtW.b _)) HY.out)))))
      refine wpQuiet_nil ?_
      rintro w1 ⟨⟨_, hb⟩, rfl⟩
      obtain ⟨hc, hf⟩ := bcell hb
      have hsz := hb.size
      (try simp at hsz)
      (try have hy0 : w.heap.size < w1.heap.size := by omega)
      (try have hy1 : w.heap.size + 1 < w1.heap.size := by omega)
      (try have hy2 : w.heap.size + 2 < w1.heap.size := by omega)
      (try have hyS : ws.heap.size < w1.heap.size := by omega)
      (try have hyG : wg.heap.size < w1.heap.size := by omega)
      have K0 := xcell hb kW0
      have K2 := xcell hb kW2
      have JL := J2.mono hb
      have B2 : Below w.heap.size w w1 := xThen bW hb
      clear hc hf
      go_wp2
      have lb := lastTo_bd ys ys.length
      have EW : IntKind.i64.wrap (p - h) = p - h := by rw [IntKind.wrap_i64]; omega
      by_cases s2 : p - h ≤ lastTo ys ys.length
      all_goals
        have hk0 : ∀ xe : ExtW w1, xe.u.cell? ⟨w.heap.size, 0, none⟩ = some (.int .i64 p) := fun xe => xe.cell (by go_simp)
        have hk1 : ∀ xe : ExtW w1, xe.u.cell? ⟨w.heap.size, 2, none⟩ = some (.int .i64 h) := fun xe => xe.cell (by go_simp)
        have hne : Nonempty (ExtW w1) := ⟨⟨_, Below.refl _ _⟩⟩
        refine wp_region_ext (by kernel_rfl) (by kernel_rfl) ?_
        repeat (quiet_step ((first | (go_at_call 113; exact ext_call0 (highest_any _ ys _ (JL.mono (ExtW.b _)))))))
        refine wpQuiet_nil ?_
        rintro w1 ⟨⟨_, hb⟩, rfl⟩
        obtain ⟨hc, hf⟩ := bcell hb
        have hsz := hb.size
        (try simp at hsz)
        (try have hy0 : w.heap.size < w1.heap.size := by omega)
        (try have hy1 : w.heap.size + 1 < w1.heap.size := by omega)
        (try have hy2 : w.heap.size + 2 < w1.heap.size := by omega)
        (try have hyS : ws.heap.size < w1.heap.size := by omega)
        (try have hyG : wg.heap.size < w1.heap.size := by omega)
        go_wp2
        go_ret
        exact ⟨ret_int (by simp only [loserL, if_pos s0]; unfold resV; (repeat' split) <;> omega), by (repeat' (first | exact Below.refl _ _ | (with_reducible assumption) | (with_reducible refine xAlloc ?_ _) | (with_reducible refine Below.drew ?_) | (with_reducible refine xDrewN ?_ _) | (with_reducible refine xThen ?_ (by with_reducible assumption)) | (with_reducible refine Below.setCell ?_ (by first | omega | (simp; omega) | simp) _)))⟩
  · go_enter Try.func63, Try.ntmps63
    go_wp2_with fail
    refine calls_named (fun W hW0 => ?_)
    have hW := hid hW0
    clear hW0
    have sW : W.heap.size = w.heap.size + 2 := by rw [← hW.out]; simp
    have bW : Below w.heap.size w W := by rw [← hW.out]; (repeat' (first | exact Below.refl _ _ | (with_reducible assumption) | (with_reducible refine xAlloc ?_ _) | (with_reducible refine Below.drew ?_) | (with_reducible refine xDrewN ?_ _) | (with_reducible refine xThen ?_ (by with_reducible assumption)) | (with_reducible refine Below.setCell ?_ (by first | omega | (simp; omega) | simp) _)))
    have lW0 : w.heap.size < W.heap.size := by omega
    have lW1 : w.heap.size + 1 < W.heap.size := by omega
    have kW0 : W.cell? ⟨w.heap.size, 0, none⟩ = some (.int .i64 p) := by rw [← hW.out]; go_simp
    have kW1 : W.cell? ⟨w.heap.size, 1, none⟩ = some (.int .i64 c) := by rw [← hW.out]; go_simp
    have kW2 : W.cell? ⟨w.heap.size, 2, none⟩ = some (.int .i64 h) := by rw [← hW.out]; go_simp
    have kW3 : W.cell? ⟨w.heap.size, 3, none⟩ = some (.int .i64 s) := by rw [← hW.out]; go_simp
    have kW4 : W.cell? ⟨w.heap.size + 1, 0, none⟩ = some (v1) := by rw [← hW.out]; go_simp
    have kW5 : W.cell? ⟨w.heap.size + 1, 1, none⟩ = some (v2) := by rw [← hW.out]; go_simp
    clear hW sW
    have J1 := I1.mono bW
    have J2 := I2.mono bW
    refine (totalS_any _ zs _ J1 HZ.out).mono ?_
    rintro e _ ⟨rfl, rfl⟩
    go_wp2
    by_cases s1 : (sumN zs zs.length : Int) < c
    · skip
      have hk0 : ∀ xe : ExtW W, xe.u.cell? ⟨w.heap.size, 1, none⟩ = some (.int .i64 c) := fun xe => xe.cell (by go_simp)
      have hne : Nonempty (ExtW W) := ⟨⟨_, Below.refl _ _⟩⟩
      refine wp_region_ext (by kernel_rfl) (by kernel_rfl) ?_
      repeat (quiet_step ((first | (go_at_call 109; exact ext_call0 (totalS_any _ zs _ (J1.mono (ExtW.b _)) HZ.out)))))
      refine wpQuiet_nil ?_
      rintro w1 ⟨⟨_, hb⟩, rfl⟩
      obtain ⟨hc, hf⟩ := bcell hb
      have hsz := hb.size
      (try simp at hsz)
      (try have hy0 : w.heap.size < w1.heap.size := by omega)
      (try have hy1 : w.heap.size + 1 < w1.heap.size := by omega)
      (try have hy2 : w.heap.size + 2 < w1.heap.size := by omega)
      (try have hyS : ws.heap.size < w1.heap.size := by omega)
      (try have hyG : wg.heap.size < w1.heap.size := by omega)
      go_wp2
      go_ret
      exact ⟨ret_int (by simp only [loserL, if_neg s0]; unfold resV; (repeat' split) <;> omega), by (repeat' (first | exact Below.refl _ _ | (with_reducible assumption) | (with_reducible refine xAlloc ?_ _) | (with_reducible refine Below.drew ?_) | (with_reducible refine xDrewN ?_ _) | (with_reducible refine xThen ?_ (by with_reducible assumption)) | (with_reducible refine Below.setCell ?_ (by first | omega | (simp; omega) | simp) _)))⟩
    · skip
      have hk0 : ∀ xe : ExtW W, xe.u.cell? ⟨w.heap.size, 1, none⟩ = some (.int .i64 c) := fun xe => xe.cell (by go_simp)
      have hne : Nonempty (ExtW W) := ⟨⟨_, Below.refl _ _⟩⟩
      refine wp_region_ext (by kernel_rfl) (by kernel_rfl) ?_
      repeat (quiet_step ((first | (go_at_call 109; exact ext_call0 (totalS_any _ zs _ (J1.mono (ExtW.b _)) HZ.out)))))
      refine wpQuiet_nil ?_
      rintro w1 ⟨⟨_, hb⟩, rfl⟩
      obtain ⟨hc, hf⟩ := bcell hb
      have hsz := hb.size
      (try simp at hsz)
      (try have hy0 : w.heap.size < w1.heap.size := by omega)
      (try have hy1 : w.heap.size + 1 < w1.heap.size := by omega)
      (try have hy2 : w.heap.size + 2 < w1.heap.size := by omega)
      (try have hyS : ws.heap.size < w1.heap.size := by omega)
      (try have hyG : wg.heap.size < w1.heap.size := by omega)
      have K0 := xcell hb kW0
      have K2 := xcell hb kW2
      have JL := J1.mono hb
      have B2 : Below w.heap.size w w1 := xThen bW hb
      clear hc hf
      go_wp2
      have lb := lastTo_bd zs zs.length
      have EW : IntKind.i64.wrap (p - h) = p - h := by rw [IntKind.wrap_i64]; omega
      by_cases s2 : p - h ≤ lastTo zs zs.length
      all_goals
        have hk0 : ∀ xe : ExtW w1, xe.u.cell? ⟨w.heap.size, 0, none⟩ = some (.int .i64 p) := fun xe => xe.cell (by go_simp)
        have hk1 : ∀ xe : ExtW w1, xe.u.cell? ⟨w.heap.size, 2, none⟩ = some (.int .i64 h) := fun xe => xe.cell (by go_simp)
        have hne : Nonempty (ExtW w1) := ⟨⟨_, Below.refl _ _⟩⟩
        refine wp_region_ext (by kernel_rfl) (by kernel_rfl) ?_
        repeat (quiet_step ((first | (go_at_call 113; exact ext_call0 (highest_any _ zs _ (JL.mono (ExtW.b _)))))))
        refine wpQuiet_nil ?_
        rintro w1 ⟨⟨_, hb⟩, rfl⟩
        obtain ⟨hc, hf⟩ := bcell hb
        have hsz := hb.size
        (try simp at hsz)
        (try have hy0 : w.heap.size < w1.heap.size := by omega)
        (try have hy1 : w.heap.size + 1 < w1.heap.size := by omega)
        (try have hy2 : w.heap.size + 2 < w1.heap.size := by omega)
        (try have hyS : ws.heap.size < w1.heap.size := by omega)
        (try have hyG : wg.heap.size < w1.heap.size := by omega)
        go_wp2
        go_ret
        exact ⟨ret_int (by simp only [loserL, if_neg s0]; unfold resV; (repeat' split) <;> omega), by (repeat' (first | exact Below.refl _ _ | (with_reducible assumption) | (with_reducible refine xAlloc ?_ _) | (with_reducible refine Below.drew ?_) | (with_reducible refine xDrewN ?_ _) | (with_reducible refine xThen ?_ (by with_reducible assumption)) | (with_reducible refine Below.setCell ?_ (by first | omega | (simp; omega) | simp) _)))⟩

set_option maxHeartbeats 2000000 in
theorem specRes_any (p c h s : Int) (v1 v2 : Value) (zs ys : List Int) (w : World) (I1 : IntsAt w v1 zs) (I2 : IntsAt w v2 ys) (hp0 : 0 ≤ p) (hp1 : p ≤ 24) (hh0 : 0 ≤ h) (hh1 : h ≤ 24) (hz : ∀ i, 0 ≤ zs.getD i 0 ∧ zs.getD i 0 ≤ 15) (hy : ∀ i, 0 ≤ ys.getD i 0 ∧ ys.getD i 0 ≤ 15) :
    Calls Try.prog 59 #[.agg #[.int .i64 p, .int .i64 c, .int .i64 h, .int .i64 s], .agg #[v1, v2]] w fun e w' => e = .returned (.int .i64 (resV p c h (loserL zs ys))) ∧ Below w.heap.size w w' := by
  have HZ := hid hz
  have HY := hid hy
  clear hz hy
  by_cases s0 : sumN zs zs.length = 0
  · go_enter Try.func59, Try.ntmps59
    go_wp2_with fail
    refine calls_named (fun W hW0 => ?_)
    have hW := hid hW0
    clear hW0
    have sW : W.heap.size = w.heap.size + 2 := by rw [← hW.out]; simp
    have bW : Below w.heap.size w W := by rw [← hW.out]; (repeat' (first | exact Below.refl _ _ | (with_reducible assumption) | (with_reducible refine xAlloc ?_ _) | (with_reducible refine Below.drew ?_) | (with_reducible refine xDrewN ?_ _) | (with_reducible refine xThen ?_ (by with_reducible assumption)) | (with_reducible refine Below.setCell ?_ (by first | omega | (simp; omega) | simp) _)))
    have lW0 : w.heap.size < W.heap.size := by omega
    have lW1 : w.heap.size + 1 < W.heap.size := by omega
    have kW0 : W.cell? ⟨w.heap.size, 0, none⟩ = some (.int .i64 p) := by rw [← hW.out]; go_simp
    have kW1 : W.cell? ⟨w.heap.size, 1, none⟩ = some (.int .i64 c) := by rw [← hW.out]; go_simp
    have kW2 : W.cell? ⟨w.heap.size, 2, none⟩ = some (.int .i64 h) := by rw [← hW.out]; go_simp
    have kW3 : W.cell? ⟨w.heap.size, 3, none⟩ = some (.int .i64 s) := by rw [← hW.out]; go_simp
    have kW4 : W.cell? ⟨w.heap.size + 1, 0, none⟩ = some (v1) := by rw [← hW.out]; go_simp
    have kW5 : W.cell? ⟨w.heap.size + 1, 1, none⟩ = some (v2) := by rw [← hW.out]; go_simp
    clear hW sW
    have J1 := I1.mono bW
    have J2 := I2.mono bW
    refine (l02Sum_any _ zs _ J1 HZ.out).mono ?_
    rintro e _ ⟨rfl, rfl⟩
    go_wp2
    by_cases s1 : (sumN ys ys.length : Int) < c
    · skip
      have hk0 : ∀ xe : ExtW W, xe.u.cell? ⟨w.heap.size, 1, none⟩ = some (.int .i64 c) := fun xe => xe.cell (by go_simp)
      have hne : Nonempty (ExtW W) := ⟨⟨_, Below.refl _ _⟩⟩
      refine wp_region_ext (by kernel_rfl) (by kernel_rfl) ?_
      repeat (quiet_step ((first | (go_at_call 70; exact ext_call0 (l02Sum_any _ ys _ (J2.mono (ExtW.b _)) HY.out)))))
      refine wpQuiet_nil ?_
      rintro w1 ⟨⟨_, hb⟩, rfl⟩
      obtain ⟨hc, hf⟩ := bcell hb
      have hsz := hb.size
      (try simp at hsz)
      (try have hy0 : w.heap.size < w1.heap.size := by omega)
      (try have hy1 : w.heap.size + 1 < w1.heap.size := by omega)
      (try have hy2 : w.heap.size + 2 < w1.heap.size := by omega)
      (try have hyS : ws.heap.size < w1.heap.size := by omega)
      (try have hyG : wg.heap.size < w1.heap.size := by omega)
      go_wp2
      go_ret
      exact ⟨ret_int (by simp only [loserL, if_pos s0]; unfold resV; (repeat' split) <;> omega), by (repeat' (first | exact Below.refl _ _ | (with_reducible assumption) | (with_reducible refine xAlloc ?_ _) | (with_reducible refine Below.drew ?_) | (with_reducible refine xDrewN ?_ _) | (with_reducible refine xThen ?_ (by with_reducible assumption)) | (with_reducible refine Below.setCell ?_ (by first | omega | (simp; omega) | simp) _)))⟩
    · skip
      have hk0 : ∀ xe : ExtW W, xe.u.cell? ⟨w.heap.size, 1, none⟩ = some (.int .i64 c) := fun xe => xe.cell (by go_simp)
      have hne : Nonempty (ExtW W) := ⟨⟨_, Below.refl _ _⟩⟩
      refine wp_region_ext (by kernel_rfl) (by kernel_rfl) ?_
      repeat (quiet_step ((first | (go_at_call 70; exact ext_call0 (l02Sum_any _ ys _ (J2.mono (ExtW.b _)) HY.out)))))
      refine wpQuiet_nil ?_
      rintro w1 ⟨⟨_, hb⟩, rfl⟩
      obtain ⟨hc, hf⟩ := bcell hb
      have hsz := hb.size
      (try simp at hsz)
      (try have hy0 : w.heap.size < w1.heap.size := by omega)
      (try have hy1 : w.heap.size + 1 < w1.heap.size := by omega)
      (try have hy2 : w.heap.size + 2 < w1.heap.size := by omega)
      (try have hyS : ws.heap.size < w1.heap.size := by omega)
      (try have hyG : wg.heap.size < w1.heap.size := by omega)
      have K0 := xcell hb kW0
      have K2 := xcell hb kW2
      have JL := J2.mono hb
      have B2 : Below w.heap.size w w1 := xThen bW hb
      clear hc hf
      go_wp2
      have lb := lastTo_bd ys ys.length
      have EW : IntKind.i64.wrap (p - h) = p - h := by rw [IntKind.wrap_i64]; omega
      by_cases s2 : p - h ≤ lastTo ys ys.length
      all_goals
        have hk0 : ∀ xe : ExtW w1, xe.u.cell? ⟨w.heap.size, 0, none⟩ = some (.int .i64 p) := fun xe => xe.cell (by go_simp)
        have hk1 : ∀ xe : ExtW w1, xe.u.cell? ⟨w.heap.size, 2, none⟩ = some (.int .i64 h) := fun xe => xe.cell (by go_simp)
        have hne : Nonempty (ExtW w1) := ⟨⟨_, Below.refl _ _⟩⟩
        refine wp_region_ext (by kernel_rfl) (by kernel_rfl) ?_
        repeat (quiet_step ((first | (go_at_call 111; exact ext_call0 (l02Last_any _ ys _ (JL.mono (ExtW.b _)))))))
        refine wpQuiet_nil ?_
        rintro w1 ⟨⟨_, hb⟩, rfl⟩
        obtain ⟨hc, hf⟩ := bcell hb
        have hsz := hb.size
        (try simp at hsz)
        (try have hy0 : w.heap.size < w1.heap.size := by omega)
        (try have hy1 : w.heap.size + 1 < w1.heap.size := by omega)
        (try have hy2 : w.heap.size + 2 < w1.heap.size := by omega)
        (try have hyS : ws.heap.size < w1.heap.size := by omega)
        (try have hyG : wg.heap.size < w1.heap.size := by omega)
        go_wp2
        go_ret
        exact ⟨ret_int (by simp only [loserL, if_pos s0]; unfold resV; (repeat' split) <;> omega), by (repeat' (first | exact Below.refl _ _ | (with_reducible assumption) | (with_reducible refine xAlloc ?_ _) | (with_reducible refine Below.drew ?_) | (with_reducible refine xDrewN ?_ _) | (with_reducible refine xThen ?_ (by with_reducible assumption)) | (with_reducible refine Below.setCell ?_ (by first | omega | (simp; omega) | simp) _)))⟩
  · go_enter Try.func59, Try.ntmps59
    go_wp2_with fail
    refine calls_named (fun W hW0 => ?_)
    have hW := hid hW0
    clear hW0
    have sW : W.heap.size = w.heap.size + 2 := by rw [← hW.out]; simp
    have bW : Below w.heap.size w W := by rw [← hW.out]; (repeat' (first | exact Below.refl _ _ | (with_reducible assumption) | (with_reducible refine xAlloc ?_ _) | (with_reducible refine Below.drew ?_) | (with_reducible refine xDrewN ?_ _) | (with_reducible refine xThen ?_ (by with_reducible assumption)) | (with_reducible refine Below.setCell ?_ (by first | omega | (simp; omega) | simp) _)))
    have lW0 : w.heap.size < W.heap.size := by omega
    have lW1 : w.heap.size + 1 < W.heap.size := by omega
    have kW0 : W.cell? ⟨w.heap.size, 0, none⟩ = some (.int .i64 p) := by rw [← hW.out]; go_simp
    have kW1 : W.cell? ⟨w.heap.size, 1, none⟩ = some (.int .i64 c) := by rw [← hW.out]; go_simp
    have kW2 : W.cell? ⟨w.heap.size, 2, none⟩ = some (.int .i64 h) := by rw [← hW.out]; go_simp
    have kW3 : W.cell? ⟨w.heap.size, 3, none⟩ = some (.int .i64 s) := by rw [← hW.out]; go_simp
    have kW4 : W.cell? ⟨w.heap.size + 1, 0, none⟩ = some (v1) := by rw [← hW.out]; go_simp
    have kW5 : W.cell? ⟨w.heap.size + 1, 1, none⟩ = some (v2) := by rw [← hW.out]; go_simp
    clear hW sW
    have J1 := I1.mono bW
    have J2 := I2.mono bW
    refine (l02Sum_any _ zs _ J1 HZ.out).mono ?_
    rintro e _ ⟨rfl, rfl⟩
    go_wp2
    by_cases s1 : (sumN zs zs.length : Int) < c
    · skip
      have hk0 : ∀ xe : ExtW W, xe.u.cell? ⟨w.heap.size, 1, none⟩ = some (.int .i64 c) := fun xe => xe.cell (by go_simp)
      have hne : Nonempty (ExtW W) := ⟨⟨_, Below.refl _ _⟩⟩
      refine wp_region_ext (by kernel_rfl) (by kernel_rfl) ?_
      repeat (quiet_step ((first | (go_at_call 70; exact ext_call0 (l02Sum_any _ zs _ (J1.mono (ExtW.b _)) HZ.out)))))
      refine wpQuiet_nil ?_
      rintro w1 ⟨⟨_, hb⟩, rfl⟩
      obtain ⟨hc, hf⟩ := bcell hb
      have hsz := hb.size
      (try simp at hsz)
      (try have hy0 : w.heap.size < w1.heap.size := by omega)
      (try have hy1 : w.heap.size + 1 < w1.heap.size := by omega)
      (try have hy2 : w.heap.size + 2 < w1.heap.size := by omega)
      (try have hyS : ws.heap.size < w1.heap.size := by omega)
      (try have hyG : wg.heap.size < w1.heap.size := by omega)
      go_wp2
      go_ret
      exact ⟨ret_int (by simp only [loserL, if_neg s0]; unfold resV; (repeat' split) <;> omega), by (repeat' (first | exact Below.refl _ _ | (with_reducible assumption) | (with_reducible refine xAlloc ?_ _) | (with_reducible refine Below.drew ?_) | (with_reducible refine xDrewN ?_ _) | (with_reducible refine xThen ?_ (by with_reducible assumption)) | (with_reducible refine Below.setCell ?_ (by first | omega | (simp; omega) | simp) _)))⟩
    · skip
      have hk0 : ∀ xe : ExtW W, xe.u.cell? ⟨w.heap.size, 1, none⟩ = some (.int .i64 c) := fun xe => xe.cell (by go_simp)
      have hne : Nonempty (ExtW W) := ⟨⟨_, Below.refl _ _⟩⟩
      refine wp_region_ext (by kernel_rfl) (by kernel_rfl) ?_
      repeat (quiet_step ((first | (go_at_call 70; exact ext_call0 (l02Sum_any _ zs _ (J1.mono (ExtW.b _)) HZ.out)))))
      refine wpQuiet_nil ?_
      rintro w1 ⟨⟨_, hb⟩, rfl⟩
      obtain ⟨hc, hf⟩ := bcell hb
      have hsz := hb.size
      (try simp at hsz)
      (try have hy0 : w.heap.size < w1.heap.size := by omega)
      (try have hy1 : w.heap.size + 1 < w1.heap.size := by omega)
      (try have hy2 : w.heap.size + 2 < w1.heap.size := by omega)
      (try have hyS : ws.heap.size < w1.heap.size := by omega)
      (try have hyG : wg.heap.size < w1.heap.size := by omega)
      have K0 := xcell hb kW0
      have K2 := xcell hb kW2
      have JL := J1.mono hb
      have B2 : Below w.heap.size w w1 := xThen bW hb
      clear hc hf
      go_wp2
      have lb := lastTo_bd zs zs.length
      have EW : IntKind.i64.wrap (p - h) = p - h := by rw [IntKind.wrap_i64]; omega
      by_cases s2 : p - h ≤ lastTo zs zs.length
      all_goals
        have hk0 : ∀ xe : ExtW w1, xe.u.cell? ⟨w.heap.size, 0, none⟩ = some (.int .i64 p) := fun xe => xe.cell (by go_simp)
        have hk1 : ∀ xe : ExtW w1, xe.u.cell? ⟨w.heap.size, 2, none⟩ = some (.int .i64 h) := fun xe => xe.cell (by go_simp)
        have hne : Nonempty (ExtW w1) := ⟨⟨_, Below.refl _ _⟩⟩
        refine wp_region_ext (by kernel_rfl) (by kernel_rfl) ?_
        repeat (quiet_step ((first | (go_at_call 111; exact ext_call0 (l02Last_any _ zs _ (JL.mono (ExtW.b _)))))))
        refine wpQuiet_nil ?_
        rintro w1 ⟨⟨_, hb⟩, rfl⟩
        obtain ⟨hc, hf⟩ := bcell hb
        have hsz := hb.size
        (try simp at hsz)
        (try have hy0 : w.heap.size < w1.heap.size := by omega)
        (try have hy1 : w.heap.size + 1 < w1.heap.size := by omega)
        (try have hy2 : w.heap.size + 2 < w1.heap.size := by omega)
        (try have hyS : ws.heap.size < w1.heap.size := by omega)
        (try have hyG : wg.heap.size < w1.heap.size := by omega)
        go_wp2
        go_ret
        exact ⟨ret_int (by simp only [loserL, if_neg s0]; unfold resV; (repeat' split) <;> omega), by (repeat' (first | exact Below.refl _ _ | (with_reducible assumption) | (with_reducible refine xAlloc ?_ _) | (with_reducible refine Below.drew ?_) | (with_reducible refine xDrewN ?_ _) | (with_reducible refine xThen ?_ (by with_reducible assumption)) | (with_reducible refine Below.setCell ?_ (by first | omega | (simp; omega) | simp) _)))⟩
end Go.Proofs.Ytmcjabodkjlkgaa
