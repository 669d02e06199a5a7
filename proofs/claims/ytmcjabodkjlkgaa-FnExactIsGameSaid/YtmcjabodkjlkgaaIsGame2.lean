/-
  Contract of the program's IsGame behind its first tests, case by case.
-/
import Derived.Test.YtmcjabodkjlkgaaIsGame
namespace Go.Proofs.Ytmcjabodkjlkgaa
open Go.RowKit

set_option maxRecDepth 100000 in
set_option maxHeartbeats 2000000 in
theorem implGame_a2 (p c h s : Int) (v1 v2 : Value) (zs ys : List Int) (pl a b wi re tu : Int) (w : World) (I1 : IntsAt w v1 zs) (I2 : IntsAt w v2 ys) (hpre : preB p c h s zs ys pl tu = true) (hz : zeroB a b = false) (hr : rollB p c h s a b = false) :
    Calls Try.prog 56 #[.agg #[.int .i64 p, .int .i64 c, .int .i64 h, .int .i64 s], gameV v1 v2 pl a b 2 wi re tu] w fun e w' => e = .returned (.bool (false)) ∧ Below w.heap.size w w' := by
  unfold gameV
  obtain ⟨a1, c1, rfl, _⟩ := id I1
  obtain ⟨a2, c2, rfl, _⟩ := id I2
  obtain ⟨hv, h4, hbd, hpl, htu⟩ := preB_true hpre
  obtain ⟨_, hz0, hy0'⟩ := boardB_true hbd
  have HZ := hid hz0
  have HY := hid hy0'
  clear hpre hz0 hy0'
  have hz' : (a == 0 && b == 0) = false := by simpa [zeroB] using hz
  have hne0 : ∀ u : World, (binOp .neq 42 (.agg #[.int .i64 a, .int .i64 b]) (.agg #[.int .i64 0, .int .i64 0])).run Try.prog u = .ok (.bool true) u := fun u => by rw [neRoll_run, hz']; rfl
  clear hz hz'
  go_enter Try.func56, Try.ntmps56
  go_upto_region 3 with (first | (go_at_call 74; (with_reducible refine (isVariant_any _ _ _ _ _).mono ?_); rintro e w1 ⟨rfl, hb⟩; obtain ⟨hc, hf⟩ := bcell hb; have hsz := hb.size; (try simp at hsz); (try have hy0 : w.heap.size < w1.heap.size := by omega); (try have hy1 : w.heap.size + 1 < w1.heap.size := by omega); (try have hy2 : w.heap.size + 2 < w1.heap.size := by omega); (try have hyS : ws.heap.size < w1.heap.size := by omega); (try have hyG : wg.heap.size < w1.heap.size := by omega)) | (go_at_call 61; (with_reducible refine (implBoard_any _ _ _ _ _ _ zs ys _ (by (repeat (first | (with_reducible exact IntsAt.made _ _ (by omega) _) | (with_reducible assumption) | (with_reducible refine IntsAt.alloc ?_ _) | (with_reducible refine IntsAt.drew ?_) | (with_reducible refine IntsAt.drewN ?_ _) | (with_reducible refine IntsAt.mono ?_ (by with_reducible assumption))))) (by (repeat (first | (with_reducible exact IntsAt.made _ _ (by omega) _) | (with_reducible assumption) | (with_reducible refine IntsAt.alloc ?_ _) | (with_reducible refine IntsAt.drew ?_) | (with_reducible refine IntsAt.drewN ?_ _) | (with_reducible refine IntsAt.mono ?_ (by with_reducible assumption)))))).mono ?_); rintro e w1 ⟨rfl, hb⟩; obtain ⟨hc, hf⟩ := bcell hb; have hsz := hb.size; (try simp at hsz); (try have hy0 : w.heap.size < w1.heap.size := by omega); (try have hy1 : w.heap.size + 1 < w1.heap.size := by omega); (try have hy2 : w.heap.size + 2 < w1.heap.size := by omega); (try have hyS : ws.heap.size < w1.heap.size := by omega); (try have hyG : wg.heap.size < w1.heap.size := by omega)) | (go_at_call 83; (with_reducible refine (within_any _ _ _ _).mono ?_); rintro e w' ⟨rfl, rfl⟩))
  refine wp_named (fun W hW0 => ?_)
  have hW := hid hW0
  clear hW0
  have bW : Below w.heap.size w W := by rw [← hW.out]; (repeat' (first | (with_reducible exact Below.refl _ _) | (with_reducible assumption) | (with_reducible refine xAlloc ?_ _) | (with_reducible refine Below.drew ?_) | (with_reducible refine xDrewN ?_ _) | (with_reducible refine xThen ?_ (by with_reducible assumption)) | (with_reducible refine Below.setCell ?_ (by first | omega | (simp; omega) | simp) _) | exact Below.refl _ _))
  have kW0 : W.cell? ⟨w.heap.size, 0, none⟩ = some (.int .i64 p) := by rw [← hW.out]; go_simp
  have kW1 : W.cell? ⟨w.heap.size, 1, none⟩ = some (.int .i64 c) := by rw [← hW.out]; go_simp
  have kW2 : W.cell? ⟨w.heap.size, 2, none⟩ = some (.int .i64 h) := by rw [← hW.out]; go_simp
  have kW3 : W.cell? ⟨w.heap.size, 3, none⟩ = some (.int .i64 s) := by rw [← hW.out]; go_simp
  have kW4 : W.cell? ⟨w.heap.size + 1, 0, none⟩ = some (.slice a1 zs.length c1) := by rw [← hW.out]; go_simp
  have kW5 : W.cell? ⟨w.heap.size + 1, 1, none⟩ = some (.slice a2 ys.length c2) := by rw [← hW.out]; go_simp
  have kW6 : W.cell? ⟨w.heap.size + 1, 2, none⟩ = some (.int .i64 pl) := by rw [← hW.out]; go_simp
  have kW7 : W.cell? ⟨w.heap.size + 1, 3, none⟩ = some (.int .i64 a) := by rw [← hW.out]; go_simp
  have kW8 : W.cell? ⟨w.heap.size + 1, 4, none⟩ = some (.int .i64 b) := by rw [← hW.out]; go_simp
  have kW9 : W.cell? ⟨w.heap.size + 1, 5, none⟩ = some (.int .i64 2) := by rw [← hW.out]; go_simp
  have kW10 : W.cell? ⟨w.heap.size + 1, 6, none⟩ = some (.int .i64 wi) := by rw [← hW.out]; go_simp
  have kW11 : W.cell? ⟨w.heap.size + 1, 7, none⟩ = some (.int .i64 re) := by rw [← hW.out]; go_simp
  have kW12 : W.cell? ⟨w.heap.size + 1, 8, none⟩ = some (.int .i64 tu) := by rw [← hW.out]; go_simp
  have JW1 := I1.mono bW
  have JW2 := I2.mono bW
  have lW : w.heap.size + 1 < W.heap.size := cell_block kW4
  clear hW
  have hk0 := fun xe : ExtW W => xe.cell kW0
  have hk1 := fun xe : ExtW W => xe.cell kW1
  have hk2 := fun xe : ExtW W => xe.cell kW2
  have hk3 := fun xe : ExtW W => xe.cell kW3
  have hk4 := fun xe : ExtW W => xe.cell kW4
  have hk5 := fun xe : ExtW W => xe.cell kW5
  have hk6 := fun xe : ExtW W => xe.cell kW6
  have hk7 := fun xe : ExtW W => xe.cell kW7
  have hk8 := fun xe : ExtW W => xe.cell kW8
  have hk9 := fun xe : ExtW W => xe.cell kW9
  have hk10 := fun xe : ExtW W => xe.cell kW10
  have hk11 := fun xe : ExtW W => xe.cell kW11
  have hk12 := fun xe : ExtW W => xe.cell kW12
  have hne : Nonempty (ExtW W) := ⟨⟨_, Below.refl _ _⟩⟩
  refine wp_region_ext (by kernel_rfl) (by kernel_rfl) ?_
  repeat (first | go_big_quiet_step ((first | (go_at_call 107; exact ext_call (implRoll_any _ _ _ _ _ _ _)))) | quiet_step ((first | (go_at_call 107; exact ext_call (implRoll_any _ _ _ _ _ _ _)))))
  refine wpQuiet_nil ?_
  rintro w1 ⟨⟨_, hb⟩, rfl⟩
  clear hne hk0 hk1 hk2 hk3 hk4 hk5 hk6 hk7 hk8 hk9 hk10 hk11 hk12
  go_wp2
  go_ret
  exact ⟨rfl, by (repeat' (first | (with_reducible exact Below.refl _ _) | (with_reducible assumption) | (with_reducible refine xAlloc ?_ _) | (with_reducible refine Below.drew ?_) | (with_reducible refine xDrewN ?_ _) | (with_reducible refine xThen ?_ (by with_reducible assumption)) | (with_reducible refine Below.setCell ?_ (by first | omega | (simp; omega) | simp) _) | exact Below.refl _ _))⟩

set_option maxRecDepth 100000 in
set_option maxHeartbeats 2000000 in
theorem implGame_b1 (p c h s : Int) (v1 v2 : Value) (zs ys : List Int) (pl a b ph wi re tu : Int) (w : World) (I1 : IntsAt w v1 zs) (I2 : IntsAt w v2 ys) (hpre : preB p c h s zs ys pl tu = true) (hz : zeroB a b = false) (hp2 : (ph == 2) = false) :
    Calls Try.prog 56 #[.agg #[.int .i64 p, .int .i64 c, .int .i64 h, .int .i64 s], gameV v1 v2 pl a b ph wi re tu] w fun e w' => e = .returned (.bool (false)) ∧ Below w.heap.size w w' := by
  unfold gameV
  obtain ⟨a1, c1, rfl, _⟩ := id I1
  obtain ⟨a2, c2, rfl, _⟩ := id I2
  obtain ⟨hv, h4, hbd, hpl, htu⟩ := preB_true hpre
  obtain ⟨_, hz0, hy0'⟩ := boardB_true hbd
  have HZ := hid hz0
  have HY := hid hy0'
  clear hpre hz0 hy0'
  have hz' : (a == 0 && b == 0) = false := by simpa [zeroB] using hz
  have hne0 : ∀ u : World, (binOp .neq 42 (.agg #[.int .i64 a, .int .i64 b]) (.agg #[.int .i64 0, .int .i64 0])).run Try.prog u = .ok (.bool true) u := fun u => by rw [neRoll_run, hz']; rfl
  clear hz hz'
  go_enter Try.func56, Try.ntmps56
  go_upto_region 3 with (first | (go_at_call 74; (with_reducible refine (isVariant_any _ _ _ _ _).mono ?_); rintro e w1 ⟨rfl, hb⟩; obtain ⟨hc, hf⟩ := bcell hb; have hsz := hb.size; (try simp at hsz); (try have hy0 : w.heap.size < w1.heap.size := by omega); (try have hy1 : w.heap.size + 1 < w1.heap.size := by omega); (try have hy2 : w.heap.size + 2 < w1.heap.size := by omega); (try have hyS : ws.heap.size < w1.heap.size := by omega); (try have hyG : wg.heap.size < w1.heap.size := by omega)) | (go_at_call 61; (with_reducible refine (implBoard_any _ _ _ _ _ _ zs ys _ (by (repeat (first | (with_reducible exact IntsAt.made _ _ (by omega) _) | (with_reducible assumption) | (with_reducible refine IntsAt.alloc ?_ _) | (with_reducible refine IntsAt.drew ?_) | (with_reducible refine IntsAt.drewN ?_ _) | (with_reducible refine IntsAt.mono ?_ (by with_reducible assumption))))) (by (repeat (first | (with_reducible exact IntsAt.made _ _ (by omega) _) | (with_reducible assumption) | (with_reducible refine IntsAt.alloc ?_ _) | (with_reducible refine IntsAt.drew ?_) | (with_reducible refine IntsAt.drewN ?_ _) | (with_reducible refine IntsAt.mono ?_ (by with_reducible assumption)))))).mono ?_); rintro e w1 ⟨rfl, hb⟩; obtain ⟨hc, hf⟩ := bcell hb; have hsz := hb.size; (try simp at hsz); (try have hy0 : w.heap.size < w1.heap.size := by omega); (try have hy1 : w.heap.size + 1 < w1.heap.size := by omega); (try have hy2 : w.heap.size + 2 < w1.heap.size := by omega); (try have hyS : ws.heap.size < w1.heap.size := by omega); (try have hyG : wg.heap.size < w1.heap.size := by omega)) | (go_at_call 83; (with_reducible refine (within_any _ _ _ _).mono ?_); rintro e w' ⟨rfl, rfl⟩))
  refine wp_named (fun W hW0 => ?_)
  have hW := hid hW0
  clear hW0
  have bW : Below w.heap.size w W := by rw [← hW.out]; (repeat' (first | (with_reducible exact Below.refl _ _) | (with_reducible assumption) | (with_reducible refine xAlloc ?_ _) | (with_reducible refine Below.drew ?_) | (with_reducible refine xDrewN ?_ _) | (with_reducible refine xThen ?_ (by with_reducible assumption)) | (with_reducible refine Below.setCell ?_ (by first | omega | (simp; omega) | simp) _) | exact Below.refl _ _))
  have kW0 : W.cell? ⟨w.heap.size, 0, none⟩ = some (.int .i64 p) := by rw [← hW.out]; go_simp
  have kW1 : W.cell? ⟨w.heap.size, 1, none⟩ = some (.int .i64 c) := by rw [← hW.out]; go_simp
  have kW2 : W.cell? ⟨w.heap.size, 2, none⟩ = some (.int .i64 h) := by rw [← hW.out]; go_simp
  have kW3 : W.cell? ⟨w.heap.size, 3, none⟩ = some (.int .i64 s) := by rw [← hW.out]; go_simp
  have kW4 : W.cell? ⟨w.heap.size + 1, 0, none⟩ = some (.slice a1 zs.length c1) := by rw [← hW.out]; go_simp
  have kW5 : W.cell? ⟨w.heap.size + 1, 1, none⟩ = some (.slice a2 ys.length c2) := by rw [← hW.out]; go_simp
  have kW6 : W.cell? ⟨w.heap.size + 1, 2, none⟩ = some (.int .i64 pl) := by rw [← hW.out]; go_simp
  have kW7 : W.cell? ⟨w.heap.size + 1, 3, none⟩ = some (.int .i64 a) := by rw [← hW.out]; go_simp
  have kW8 : W.cell? ⟨w.heap.size + 1, 4, none⟩ = some (.int .i64 b) := by rw [← hW.out]; go_simp
  have kW9 : W.cell? ⟨w.heap.size + 1, 5, none⟩ = some (.int .i64 ph) := by rw [← hW.out]; go_simp
  have kW10 : W.cell? ⟨w.heap.size + 1, 6, none⟩ = some (.int .i64 wi) := by rw [← hW.out]; go_simp
  have kW11 : W.cell? ⟨w.heap.size + 1, 7, none⟩ = some (.int .i64 re) := by rw [← hW.out]; go_simp
  have kW12 : W.cell? ⟨w.heap.size + 1, 8, none⟩ = some (.int .i64 tu) := by rw [← hW.out]; go_simp
  have JW1 := I1.mono bW
  have JW2 := I2.mono bW
  have lW : w.heap.size + 1 < W.heap.size := cell_block kW4
  clear hW
  have hk0 := fun xe : ExtW W => xe.cell kW0
  have hk1 := fun xe : ExtW W => xe.cell kW1
  have hk2 := fun xe : ExtW W => xe.cell kW2
  have hk3 := fun xe : ExtW W => xe.cell kW3
  have hk4 := fun xe : ExtW W => xe.cell kW4
  have hk5 := fun xe : ExtW W => xe.cell kW5
  have hk6 := fun xe : ExtW W => xe.cell kW6
  have hk7 := fun xe : ExtW W => xe.cell kW7
  have hk8 := fun xe : ExtW W => xe.cell kW8
  have hk9 := fun xe : ExtW W => xe.cell kW9
  have hk10 := fun xe : ExtW W => xe.cell kW10
  have hk11 := fun xe : ExtW W => xe.cell kW11
  have hk12 := fun xe : ExtW W => xe.cell kW12
  have hne : Nonempty (ExtW W) := ⟨⟨_, Below.refl _ _⟩⟩
  refine wp_region_ext (by kernel_rfl) (by kernel_rfl) ?_
  repeat (first | go_big_quiet_step ((first | (go_at_call 107; exact ext_call (implRoll_any _ _ _ _ _ _ _)))) | quiet_step ((first | (go_at_call 107; exact ext_call (implRoll_any _ _ _ _ _ _ _)))))
  refine wpQuiet_nil ?_
  rintro w1 ⟨⟨_, hb⟩, rfl⟩
  clear hne hk0 hk1 hk2 hk3 hk4 hk5 hk6 hk7 hk8 hk9 hk10 hk11 hk12
  go_wp2
  go_ret
  exact ⟨rfl, by (repeat' (first | (with_reducible exact Below.refl _ _) | (with_reducible assumption) | (with_reducible refine xAlloc ?_ _) | (with_reducible refine Below.drew ?_) | (with_reducible refine xDrewN ?_ _) | (with_reducible refine xThen ?_ (by with_reducible assumption)) | (with_reducible refine Below.setCell ?_ (by first | omega | (simp; omega) | simp) _) | exact Below.refl _ _))⟩

set_option maxRecDepth 100000 in
set_option maxHeartbeats 2000000 in
theorem implGame_c1 (p c h s : Int) (v1 v2 : Value) (zs ys : List Int) (pl a b wi re tu : Int) (w : World) (I1 : IntsAt w v1 zs) (I2 : IntsAt w v2 ys) (hpre : preB p c h s zs ys pl tu = true) (hz : zeroB a b = true) :
    Calls Try.prog 56 #[.agg #[.int .i64 p, .int .i64 c, .int .i64 h, .int .i64 s], gameV v1 v2 pl a b 1 wi re tu] w fun e w' => e = .returned (.bool (endB p c h s zs ys pl 1 wi re tu)) ∧ Below w.heap.size w w' := by
  unfold gameV
  obtain ⟨a1, c1, rfl, _⟩ := id I1
  obtain ⟨a2, c2, rfl, _⟩ := id I2
  obtain ⟨hv, h4, hbd, hpl, htu⟩ := preB_true hpre
  obtain ⟨_, hz0, hy0'⟩ := boardB_true hbd
  have HZ := hid hz0
  have HY := hid hy0'
  clear hpre hz0 hy0'
  have hz' : (a == 0 && b == 0) = true := by simpa [zeroB] using hz
  have hne0 : ∀ u : World, (binOp .neq 42 (.agg #[.int .i64 a, .int .i64 b]) (.agg #[.int .i64 0, .int .i64 0])).run Try.prog u = .ok (.bool false) u := fun u => by rw [neRoll_run, hz']; rfl
  clear hz hz'
  go_enter Try.func56, Try.ntmps56
  go_upto_region 3 with (first | (go_at_call 74; (with_reducible refine (isVariant_any _ _ _ _ _).mono ?_); rintro e w1 ⟨rfl, hb⟩; obtain ⟨hc, hf⟩ := bcell hb; have hsz := hb.size; (try simp at hsz); (try have hy0 : w.heap.size < w1.heap.size := by omega); (try have hy1 : w.heap.size + 1 < w1.heap.size := by omega); (try have hy2 : w.heap.size + 2 < w1.heap.size := by omega); (try have hyS : ws.heap.size < w1.heap.size := by omega); (try have hyG : wg.heap.size < w1.heap.size := by omega)) | (go_at_call 61; (with_reducible refine (implBoard_any _ _ _ _ _ _ zs ys _ (by (repeat (first | (with_reducible exact IntsAt.made _ _ (by omega) _) | (with_reducible assumption) | (with_reducible refine IntsAt.alloc ?_ _) | (with_reducible refine IntsAt.drew ?_) | (with_reducible refine IntsAt.drewN ?_ _) | (with_reducible refine IntsAt.mono ?_ (by with_reducible assumption))))) (by (repeat (first | (with_reducible exact IntsAt.made _ _ (by omega) _) | (with_reducible assumption) | (with_reducible refine IntsAt.alloc ?_ _) | (with_reducible refine IntsAt.drew ?_) | (with_reducible refine IntsAt.drewN ?_ _) | (with_reducible refine IntsAt.mono ?_ (by with_reducible assumption)))))).mono ?_); rintro e w1 ⟨rfl, hb⟩; obtain ⟨hc, hf⟩ := bcell hb; have hsz := hb.size; (try simp at hsz); (try have hy0 : w.heap.size < w1.heap.size := by omega); (try have hy1 : w.heap.size + 1 < w1.heap.size := by omega); (try have hy2 : w.heap.size + 2 < w1.heap.size := by omega); (try have hyS : ws.heap.size < w1.heap.size := by omega); (try have hyG : wg.heap.size < w1.heap.size := by omega)) | (go_at_call 83; (with_reducible refine (within_any _ _ _ _).mono ?_); rintro e w' ⟨rfl, rfl⟩))
  refine wp_named (fun W hW0 => ?_)
  have hW := hid hW0
  clear hW0
  have bW : Below w.heap.size w W := by rw [← hW.out]; (repeat' (first | (with_reducible exact Below.refl _ _) | (with_reducible assumption) | (with_reducible refine xAlloc ?_ _) | (with_reducible refine Below.drew ?_) | (with_reducible refine xDrewN ?_ _) | (with_reducible refine xThen ?_ (by with_reducible assumption)) | (with_reducible refine Below.setCell ?_ (by first | omega | (simp; omega) | simp) _) | exact Below.refl _ _))
  have kW0 : W.cell? ⟨w.heap.size, 0, none⟩ = some (.int .i64 p) := by rw [← hW.out]; go_simp
  have kW1 : W.cell? ⟨w.heap.size, 1, none⟩ = some (.int .i64 c) := by rw [← hW.out]; go_simp
  have kW2 : W.cell? ⟨w.heap.size, 2, none⟩ = some (.int .i64 h) := by rw [← hW.out]; go_simp
  have kW3 : W.cell? ⟨w.heap.size, 3, none⟩ = some (.int .i64 s) := by rw [← hW.out]; go_simp
  have kW4 : W.cell? ⟨w.heap.size + 1, 0, none⟩ = some (.slice a1 zs.length c1) := by rw [← hW.out]; go_simp
  have kW5 : W.cell? ⟨w.heap.size + 1, 1, none⟩ = some (.slice a2 ys.length c2) := by rw [← hW.out]; go_simp
  have kW6 : W.cell? ⟨w.heap.size + 1, 2, none⟩ = some (.int .i64 pl) := by rw [← hW.out]; go_simp
  have kW7 : W.cell? ⟨w.heap.size + 1, 3, none⟩ = some (.int .i64 a) := by rw [← hW.out]; go_simp
  have kW8 : W.cell? ⟨w.heap.size + 1, 4, none⟩ = some (.int .i64 b) := by rw [← hW.out]; go_simp
  have kW9 : W.cell? ⟨w.heap.size + 1, 5, none⟩ = some (.int .i64 1) := by rw [← hW.out]; go_simp
  have kW10 : W.cell? ⟨w.heap.size + 1, 6, none⟩ = some (.int .i64 wi) := by rw [← hW.out]; go_simp
  have kW11 : W.cell? ⟨w.heap.size + 1, 7, none⟩ = some (.int .i64 re) := by rw [← hW.out]; go_simp
  have kW12 : W.cell? ⟨w.heap.size + 1, 8, none⟩ = some (.int .i64 tu) := by rw [← hW.out]; go_simp
  have JW1 := I1.mono bW
  have JW2 := I2.mono bW
  have lW : w.heap.size + 1 < W.heap.size := cell_block kW4
  clear hW
  have hk0 := fun xe : ExtW W => xe.cell kW0
  have hk1 := fun xe : ExtW W => xe.cell kW1
  have hk2 := fun xe : ExtW W => xe.cell kW2
  have hk3 := fun xe : ExtW W => xe.cell kW3
  have hk4 := fun xe : ExtW W => xe.cell kW4
  have hk5 := fun xe : ExtW W => xe.cell kW5
  have hk6 := fun xe : ExtW W => xe.cell kW6
  have hk7 := fun xe : ExtW W => xe.cell kW7
  have hk8 := fun xe : ExtW W => xe.cell kW8
  have hk9 := fun xe : ExtW W => xe.cell kW9
  have hk10 := fun xe : ExtW W => xe.cell kW10
  have hk11 := fun xe : ExtW W => xe.cell kW11
  have hk12 := fun xe : ExtW W => xe.cell kW12
  have hne : Nonempty (ExtW W) := ⟨⟨_, Below.refl _ _⟩⟩
  refine wp_region_ext (by kernel_rfl) (by kernel_rfl) ?_
  repeat (first | go_big_quiet_step ((first | (go_at_call 107; exact ext_call (implRoll_any _ _ _ _ _ _ _)))) | quiet_step ((first | (go_at_call 107; exact ext_call (implRoll_any _ _ _ _ _ _ _)))))
  refine wpQuiet_nil ?_
  rintro w1 ⟨⟨_, hb⟩, rfl⟩
  clear hne hk0 hk1 hk2 hk3 hk4 hk5 hk6 hk7 hk8 hk9 hk10 hk11 hk12
  have kA0 := xcell hb kW0
  have kA1 := xcell hb kW1
  have kA2 := xcell hb kW2
  have kA3 := xcell hb kW3
  have kA4 := xcell hb kW4
  have kA5 := xcell hb kW5
  have kA6 := xcell hb kW6
  have kA7 := xcell hb kW7
  have kA8 := xcell hb kW8
  have kA9 := xcell hb kW9
  have kA10 := xcell hb kW10
  have kA11 := xcell hb kW11
  have kA12 := xcell hb kW12
  have JA1 := JW1.mono hb
  have JA2 := JW2.mono hb
  have BA := xThen bW hb
  clear kW0 kW1 kW2 kW3 kW4 kW5 kW6 kW7 kW8 kW9 kW10 kW11 kW12 JW1 JW2 hb bW
  cases ho : overB zs ys
  all_goals
    have HO := hid ho
    clear ho
    go_wp2_with (go_at_call 62; (with_reducible refine (implOver_any _ _ zs ys _ JA1 JA2 HZ.out HY.out).mono ?_); rw [HO.out]; rintro e w2 ⟨rfl, hb⟩; have kB0 := xcell hb kA0; have kB1 := xcell hb kA1; have kB2 := xcell hb kA2; have kB3 := xcell hb kA3; have kB4 := xcell hb kA4; have kB5 := xcell hb kA5; have kB6 := xcell hb kA6; have kB7 := xcell hb kA7; have kB8 := xcell hb kA8; have kB9 := xcell hb kA9; have kB10 := xcell hb kA10; have kB11 := xcell hb kA11; have kB12 := xcell hb kA12)
    all_goals
      go_ret
      exact ⟨ret_bool (by simp [endB, HO.out, *] <;> (rw [Bool.eq_iff_iff]; simp)), by (repeat' (first | (with_reducible exact Below.refl _ _) | (with_reducible assumption) | (with_reducible refine xAlloc ?_ _) | (with_reducible refine Below.drew ?_) | (with_reducible refine xDrewN ?_ _) | (with_reducible refine xThen ?_ (by with_reducible assumption)) | (with_reducible refine Below.setCell ?_ (by first | omega | (simp; omega) | simp) _) | exact Below.refl _ _))⟩

set_option maxRecDepth 100000 in
set_option maxHeartbeats 2000000 in
theorem implGame_c2 (p c h s : Int) (v1 v2 : Value) (zs ys : List Int) (pl a b wi re tu : Int) (w : World) (I1 : IntsAt w v1 zs) (I2 : IntsAt w v2 ys) (hpre : preB p c h s zs ys pl tu = true) (hz : zeroB a b = false) (hr : rollB p c h s a b = true) :
    Calls Try.prog 56 #[.agg #[.int .i64 p, .int .i64 c, .int .i64 h, .int .i64 s], gameV v1 v2 pl a b 2 wi re tu] w fun e w' => e = .returned (.bool (endB p c h s zs ys pl 2 wi re tu)) ∧ Below w.heap.size w w' := by
  unfold gameV
  obtain ⟨a1, c1, rfl, _⟩ := id I1
  obtain ⟨a2, c2, rfl, _⟩ := id I2
  obtain ⟨hv, h4, hbd, hpl, htu⟩ := preB_true hpre
  obtain ⟨_, hz0, hy0'⟩ := boardB_true hbd
  have HZ := hid hz0
  have HY := hid hy0'
  clear hpre hz0 hy0'
  have hz' : (a == 0 && b == 0) = false := by simpa [zeroB] using hz
  have hne0 : ∀ u : World, (binOp .neq 42 (.agg #[.int .i64 a, .int .i64 b]) (.agg #[.int .i64 0, .int .i64 0])).run Try.prog u = .ok (.bool true) u := fun u => by rw [neRoll_run, hz']; rfl
  clear hz hz'
  go_enter Try.func56, Try.ntmps56
  go_upto_region 3 with (first | (go_at_call 74; (with_reducible refine (isVariant_any _ _ _ _ _).mono ?_); rintro e w1 ⟨rfl, hb⟩; obtain ⟨hc, hf⟩ := bcell hb; have hsz := hb.size; (try simp at hsz); (try have hy0 : w.heap.size < w1.heap.size := by omega); (try have hy1 : w.heap.size + 1 < w1.heap.size := by omega); (try have hy2 : w.heap.size + 2 < w1.heap.size := by omega); (try have hyS : ws.heap.size < w1.heap.size := by omega); (try have hyG : wg.heap.size < w1.heap.size := by omega)) | (go_at_call 61; (with_reducible refine (implBoard_any _ _ _ _ _ _ zs ys _ (by (repeat (first | (with_reducible exact IntsAt.made _ _ (by omega) _) | (with_reducible assumption) | (with_reducible refine IntsAt.alloc ?_ _) | (with_reducible refine IntsAt.drew ?_) | (with_reducible refine IntsAt.drewN ?_ _) | (with_reducible refine IntsAt.mono ?_ (by with_reducible assumption))))) (by (repeat (first | (with_reducible exact IntsAt.made _ _ (by omega) _) | (with_reducible assumption) | (with_reducible refine IntsAt.alloc ?_ _) | (with_reducible refine IntsAt.drew ?_) | (with_reducible refine IntsAt.drewN ?_ _) | (with_reducible refine IntsAt.mono ?_ (by with_reducible assumption)))))).mono ?_); rintro e w1 ⟨rfl, hb⟩; obtain ⟨hc, hf⟩ := bcell hb; have hsz := hb.size; (try simp at hsz); (try have hy0 : w.heap.size < w1.heap.size := by omega); (try have hy1 : w.heap.size + 1 < w1.heap.size := by omega); (try have hy2 : w.heap.size + 2 < w1.heap.size := by omega); (try have hyS : ws.heap.size < w1.heap.size := by omega); (try have hyG : wg.heap.size < w1.heap.size := by omega)) | (go_at_call 83; (with_reducible refine (within_any _ _ _ _).mono ?_); rintro e w' ⟨rfl, rfl⟩))
  refine wp_named (fun W hW0 => ?_)
  have hW := hid hW0
  clear hW0
  have bW : Below w.heap.size w W := by rw [← hW.out]; (repeat' (first | (with_reducible exact Below.refl _ _) | (with_reducible assumption) | (with_reducible refine xAlloc ?_ _) | (with_reducible refine Below.drew ?_) | (with_reducible refine xDrewN ?_ _) | (with_reducible refine xThen ?_ (by with_reducible assumption)) | (with_reducible refine Below.setCell ?_ (by first | omega | (simp; omega) | simp) _) | exact Below.refl _ _))
  have kW0 : W.cell? ⟨w.heap.size, 0, none⟩ = some (.int .i64 p) := by rw [← hW.out]; go_simp
  have kW1 : W.cell? ⟨w.heap.size, 1, none⟩ = some (.int .i64 c) := by rw [← hW.out]; go_simp
  have kW2 : W.cell? ⟨w.heap.size, 2, none⟩ = some (.int .i64 h) := by rw [← hW.out]; go_simp
  have kW3 : W.cell? ⟨w.heap.size, 3, none⟩ = some (.int .i64 s) := by rw [← hW.out]; go_simp
  have kW4 : W.cell? ⟨w.heap.size + 1, 0, none⟩ = some (.slice a1 zs.length c1) := by rw [← hW.out]; go_simp
  have kW5 : W.cell? ⟨w.heap.size + 1, 1, none⟩ = some (.slice a2 ys.length c2) := by rw [← hW.out]; go_simp
  have kW6 : W.cell? ⟨w.heap.size + 1, 2, none⟩ = some (.int .i64 pl) := by rw [← hW.out]; go_simp
  have kW7 : W.cell? ⟨w.heap.size + 1, 3, none⟩ = some (.int .i64 a) := by rw [← hW.out]; go_simp
  have kW8 : W.cell? ⟨w.heap.size + 1, 4, none⟩ = some (.int .i64 b) := by rw [← hW.out]; go_simp
  have kW9 : W.cell? ⟨w.heap.size + 1, 5, none⟩ = some (.int .i64 2) := by rw [← hW.out]; go_simp
  have kW10 : W.cell? ⟨w.heap.size + 1, 6, none⟩ = some (.int .i64 wi) := by rw [← hW.out]; go_simp
  have kW11 : W.cell? ⟨w.heap.size + 1, 7, none⟩ = some (.int .i64 re) := by rw [← hW.out]; go_simp
  have kW12 : W.cell? ⟨w.heap.size + 1, 8, none⟩ = some (.int .i64 tu) := by rw [← hW.out]; go_simp
  have JW1 := I1.mono bW
  have JW2 := I2.mono bW
  have lW : w.heap.size + 1 < W.heap.size := cell_block kW4
  clear hW
  have hk0 := fun xe : ExtW W => xe.cell kW0
  have hk1 := fun xe : ExtW W => xe.cell kW1
  have hk2 := fun xe : ExtW W => xe.cell kW2
  have hk3 := fun xe : ExtW W => xe.cell kW3
  have hk4 := fun xe : ExtW W => xe.cell kW4
  have hk5 := fun xe : ExtW W => xe.cell kW5
  have hk6 := fun xe : ExtW W => xe.cell kW6
  have hk7 := fun xe : ExtW W => xe.cell kW7
  have hk8 := fun xe : ExtW W => xe.cell kW8
  have hk9 := fun xe : ExtW W => xe.cell kW9
  have hk10 := fun xe : ExtW W => xe.cell kW10
  have hk11 := fun xe : ExtW W => xe.cell kW11
  have hk12 := fun xe : ExtW W => xe.cell kW12
  have hne : Nonempty (ExtW W) := ⟨⟨_, Below.refl _ _⟩⟩
  refine wp_region_ext (by kernel_rfl) (by kernel_rfl) ?_
  repeat (first | go_big_quiet_step ((first | (go_at_call 107; exact ext_call (implRoll_any _ _ _ _ _ _ _)))) | quiet_step ((first | (go_at_call 107; exact ext_call (implRoll_any _ _ _ _ _ _ _)))))
  refine wpQuiet_nil ?_
  rintro w1 ⟨⟨_, hb⟩, rfl⟩
  clear hne hk0 hk1 hk2 hk3 hk4 hk5 hk6 hk7 hk8 hk9 hk10 hk11 hk12
  have kA0 := xcell hb kW0
  have kA1 := xcell hb kW1
  have kA2 := xcell hb kW2
  have kA3 := xcell hb kW3
  have kA4 := xcell hb kW4
  have kA5 := xcell hb kW5
  have kA6 := xcell hb kW6
  have kA7 := xcell hb kW7
  have kA8 := xcell hb kW8
  have kA9 := xcell hb kW9
  have kA10 := xcell hb kW10
  have kA11 := xcell hb kW11
  have kA12 := xcell hb kW12
  have JA1 := JW1.mono hb
  have JA2 := JW2.mono hb
  have BA := xThen bW hb
  clear kW0 kW1 kW2 kW3 kW4 kW5 kW6 kW7 kW8 kW9 kW10 kW11 kW12 JW1 JW2 hb bW
  cases ho : overB zs ys
  all_goals
    have HO := hid ho
    clear ho
    go_wp2_with (go_at_call 62; (with_reducible refine (implOver_any _ _ zs ys _ JA1 JA2 HZ.out HY.out).mono ?_); rw [HO.out]; rintro e w2 ⟨rfl, hb⟩; have kB0 := xcell hb kA0; have kB1 := xcell hb kA1; have kB2 := xcell hb kA2; have kB3 := xcell hb kA3; have kB4 := xcell hb kA4; have kB5 := xcell hb kA5; have kB6 := xcell hb kA6; have kB7 := xcell hb kA7; have kB8 := xcell hb kA8; have kB9 := xcell hb kA9; have kB10 := xcell hb kA10; have kB11 := xcell hb kA11; have kB12 := xcell hb kA12)
    all_goals
      go_ret
      exact ⟨ret_bool (by simp [endB, HO.out, *] <;> (rw [Bool.eq_iff_iff]; simp)), by (repeat' (first | (with_reducible exact Below.refl _ _) | (with_reducible assumption) | (with_reducible refine xAlloc ?_ _) | (with_reducible refine Below.drew ?_) | (with_reducible refine xDrewN ?_ _) | (with_reducible refine xThen ?_ (by with_reducible assumption)) | (with_reducible refine Below.setCell ?_ (by first | omega | (simp; omega) | simp) _) | exact Below.refl _ _))⟩

set_option maxRecDepth 100000 in
set_option maxHeartbeats 2000000 in
theorem implGame_c4 (p c h s : Int) (v1 v2 : Value) (zs ys : List Int) (pl a b ph wi re tu : Int) (w : World) (I1 : IntsAt w v1 zs) (I2 : IntsAt w v2 ys) (hpre : preB p c h s zs ys pl tu = true) (hz : zeroB a b = true) (hp0 : (ph == 0) = false) (hp1 : (ph == 1) = false) (hp2 : (ph == 2) = false) (hp3 : (ph == 3) = false) :
    Calls Try.prog 56 #[.agg #[.int .i64 p, .int .i64 c, .int .i64 h, .int .i64 s], gameV v1 v2 pl a b ph wi re tu] w fun e w' => e = .returned (.bool (false)) ∧ Below w.heap.size w w' := by
  unfold gameV
  obtain ⟨a1, c1, rfl, _⟩ := id I1
  obtain ⟨a2, c2, rfl, _⟩ := id I2
  obtain ⟨hv, h4, hbd, hpl, htu⟩ := preB_true hpre
  obtain ⟨_, hz0, hy0'⟩ := boardB_true hbd
  have HZ := hid hz0
  have HY := hid hy0'
  clear hpre hz0 hy0'
  have hz' : (a == 0 && b == 0) = true := by simpa [zeroB] using hz
  have hne0 : ∀ u : World, (binOp .neq 42 (.agg #[.int .i64 a, .int .i64 b]) (.agg #[.int .i64 0, .int .i64 0])).run Try.prog u = .ok (.bool false) u := fun u => by rw [neRoll_run, hz']; rfl
  clear hz hz'
  go_enter Try.func56, Try.ntmps56
  go_upto_region 3 with (first | (go_at_call 74; (with_reducible refine (isVariant_any _ _ _ _ _).mono ?_); rintro e w1 ⟨rfl, hb⟩; obtain ⟨hc, hf⟩ := bcell hb; have hsz := hb.size; (try simp at hsz); (try have hy0 : w.heap.size < w1.heap.size := by omega); (try have hy1 : w.heap.size + 1 < w1.heap.size := by omega); (try have hy2 : w.heap.size + 2 < w1.heap.size := by omega); (try have hyS : ws.heap.size < w1.heap.size := by omega); (try have hyG : wg.heap.size < w1.heap.size := by omega)) | (go_at_call 61; (with_reducible refine (implBoard_any _ _ _ _ _ _ zs ys _ (by (repeat (first | (with_reducible exact IntsAt.made _ _ (by omega) _) | (with_reducible assumption) | (with_reducible refine IntsAt.alloc ?_ _) | (with_reducible refine IntsAt.drew ?_) | (with_reducible refine IntsAt.drewN ?_ _) | (with_reducible refine IntsAt.mono ?_ (by with_reducible assumption))))) (by (repeat (first | (with_reducible exact IntsAt.made _ _ (by omega) _) | (with_reducible assumption) | (with_reducible refine IntsAt.alloc ?_ _) | (with_reducible refine IntsAt.drew ?_) | (with_reducible refine IntsAt.drewN ?_ _) | (with_reducible refine IntsAt.mono ?_ (by with_reducible assumption)))))).mono ?_); rintro e w1 ⟨rfl, hb⟩; obtain ⟨hc, hf⟩ := bcell hb; have hsz := hb.size; (try simp at hsz); (try have hy0 : w.heap.size < w1.heap.size := by omega); (try have hy1 : w.heap.size + 1 < w1.heap.size := by omega); (try have hy2 : w.heap.size + 2 < w1.heap.size := by omega); (try have hyS : ws.heap.size < w1.heap.size := by omega); (try have hyG : wg.heap.size < w1.heap.size := by omega)) | (go_at_call 83; (with_reducible refine (within_any _ _ _ _).mono ?_); rintro e w' ⟨rfl, rfl⟩))
  refine wp_named (fun W hW0 => ?_)
  have hW := hid hW0
  clear hW0
  have bW : Below w.heap.size w W := by rw [← hW.out]; (repeat' (first | (with_reducible exact Below.refl _ _) | (with_reducible assumption) | (with_reducible refine xAlloc ?_ _) | (with_reducible refine Below.drew ?_) | (with_reducible refine xDrewN ?_ _) | (with_reducible refine xThen ?_ (by with_reducible assumption)) | (with_reducible refine Below.setCell ?_ (by first | omega | (simp; omega) | simp) _) | exact Below.refl _ _))
  have kW0 : W.cell? ⟨w.heap.size, 0, none⟩ = some (.int .i64 p) := by rw [← hW.out]; go_simp
  have kW1 : W.cell? ⟨w.heap.size, 1, none⟩ = some (.int .i64 c) := by rw [← hW.out]; go_simp
  have kW2 : W.cell? ⟨w.heap.size, 2, none⟩ = some (.int .i64 h) := by rw [← hW.out]; go_simp
  have kW3 : W.cell? ⟨w.heap.size, 3, none⟩ = some (.int .i64 s) := by rw [← hW.out]; go_simp
  have kW4 : W.cell? ⟨w.heap.size + 1, 0, none⟩ = some (.slice a1 zs.length c1) := by rw [← hW.out]; go_simp
  have kW5 : W.cell? ⟨w.heap.size + 1, 1, none⟩ = some (.slice a2 ys.length c2) := by rw [← hW.out]; go_simp
  have kW6 : W.cell? ⟨w.heap.size + 1, 2, none⟩ = some (.int .i64 pl) := by rw [← hW.out]; go_simp
  have kW7 : W.cell? ⟨w.heap.size + 1, 3, none⟩ = some (.int .i64 a) := by rw [← hW.out]; go_simp
  have kW8 : W.cell? ⟨w.heap.size + 1, 4, none⟩ = some (.int .i64 b) := by rw [← hW.out]; go_simp
  have kW9 : W.cell? ⟨w.heap.size + 1, 5, none⟩ = some (.int .i64 ph) := by rw [← hW.out]; go_simp
  have kW10 : W.cell? ⟨w.heap.size + 1, 6, none⟩ = some (.int .i64 wi) := by rw [← hW.out]; go_simp
  have kW11 : W.cell? ⟨w.heap.size + 1, 7, none⟩ = some (.int .i64 re) := by rw [← hW.out]; go_simp
  have kW12 : W.cell? ⟨w.heap.size + 1, 8, none⟩ = some (.int .i64 tu) := by rw [← hW.out]; go_simp
  have JW1 := I1.mono bW
  have JW2 := I2.mono bW
  have lW : w.heap.size + 1 < W.heap.size := cell_block kW4
  clear hW
  have hk0 := fun xe : ExtW W => xe.cell kW0
  have hk1 := fun xe : ExtW W => xe.cell kW1
  have hk2 := fun xe : ExtW W => xe.cell kW2
  have hk3 := fun xe : ExtW W => xe.cell kW3
  have hk4 := fun xe : ExtW W => xe.cell kW4
  have hk5 := fun xe : ExtW W => xe.cell kW5
  have hk6 := fun xe : ExtW W => xe.cell kW6
  have hk7 := fun xe : ExtW W => xe.cell kW7
  have hk8 := fun xe : ExtW W => xe.cell kW8
  have hk9 := fun xe : ExtW W => xe.cell kW9
  have hk10 := fun xe : ExtW W => xe.cell kW10
  have hk11 := fun xe : ExtW W => xe.cell kW11
  have hk12 := fun xe : ExtW W => xe.cell kW12
  have hne : Nonempty (ExtW W) := ⟨⟨_, Below.refl _ _⟩⟩
  refine wp_region_ext (by kernel_rfl) (by kernel_rfl) ?_
  repeat (first | go_big_quiet_step ((first | (go_at_call 107; exact ext_call (implRoll_any _ _ _ _ _ _ _)))) | quiet_step ((first | (go_at_call 107; exact ext_call (implRoll_any _ _ _ _ _ _ _)))))
  refine wpQuiet_nil ?_
  rintro w1 ⟨⟨_, hb⟩, rfl⟩
  clear hne hk0 hk1 hk2 hk3 hk4 hk5 hk6 hk7 hk8 hk9 hk10 hk11 hk12
  have kA0 := xcell hb kW0
  have kA1 := xcell hb kW1
  have kA2 := xcell hb kW2
  have kA3 := xcell hb kW3
  have kA4 := xcell hb kW4
  have kA5 := xcell hb kW5
  have kA6 := xcell hb kW6
  have kA7 := xcell hb kW7
  have kA8 := xcell hb kW8
  have kA9 := xcell hb kW9
  have kA10 := xcell hb kW10
  have kA11 := xcell hb kW11
  have kA12 := xcell hb kW12
  have JA1 := JW1.mono hb
  have JA2 := JW2.mono hb
  have BA := xThen bW hb
  clear kW0 kW1 kW2 kW3 kW4 kW5 kW6 kW7 kW8 kW9 kW10 kW11 kW12 JW1 JW2 hb bW
  go_wp2_with (go_at_call 62; (with_reducible refine (implOver_any _ _ zs ys _ JA1 JA2 HZ.out HY.out).mono ?_); rintro e w2 ⟨rfl, hb⟩; have kB0 := xcell hb kA0; have kB1 := xcell hb kA1; have kB2 := xcell hb kA2; have kB3 := xcell hb kA3; have kB4 := xcell hb kA4; have kB5 := xcell hb kA5; have kB6 := xcell hb kA6; have kB7 := xcell hb kA7; have kB8 := xcell hb kA8; have kB9 := xcell hb kA9; have kB10 := xcell hb kA10; have kB11 := xcell hb kA11; have kB12 := xcell hb kA12)
  all_goals
    go_ret
    exact ⟨rfl, by (repeat' (first | (with_reducible exact Below.refl _ _) | (with_reducible assumption) | (with_reducible refine xAlloc ?_ _) | (with_reducible refine Below.drew ?_) | (with_reducible refine xDrewN ?_ _) | (with_reducible refine xThen ?_ (by with_reducible assumption)) | (with_reducible refine Below.setCell ?_ (by first | omega | (simp; omega) | simp) _) | exact Below.refl _ _))⟩

set_option maxRecDepth 100000 in
set_option maxHeartbeats 2000000 in
theorem implGame_c3a (p c h s : Int) (v1 v2 : Value) (zs ys : List Int) (pl a b wi re tu : Int) (w : World) (I1 : IntsAt w v1 zs) (I2 : IntsAt w v2 ys) (hpre : preB p c h s zs ys pl tu = true) (hz : zeroB a b = true) (ho : overB zs ys = true) (hs : (((sumN zs zs.length : Nat) : Int) == 0) = false) :
    Calls Try.prog 56 #[.agg #[.int .i64 p, .int .i64 c, .int .i64 h, .int .i64 s], gameV v1 v2 pl a b 3 wi re tu] w fun e w' => e = .returned (.bool (false)) ∧ Below w.heap.size w w' := by
  unfold gameV
  obtain ⟨a1, c1, rfl, _⟩ := id I1
  obtain ⟨a2, c2, rfl, _⟩ := id I2
  obtain ⟨hv, h4, hbd, hpl, htu⟩ := preB_true hpre
  obtain ⟨_, hz0, hy0'⟩ := boardB_true hbd
  have HZ := hid hz0
  have HY := hid hy0'
  clear hpre hz0 hy0'
  have hz' : (a == 0 && b == 0) = true := by simpa [zeroB] using hz
  have hne0 : ∀ u : World, (binOp .neq 42 (.agg #[.int .i64 a, .int .i64 b]) (.agg #[.int .i64 0, .int .i64 0])).run Try.prog u = .ok (.bool false) u := fun u => by rw [neRoll_run, hz']; rfl
  clear hz hz'
  have HO := hid ho
  clear ho
  have hvr := varB_true hv
  go_enter Try.func56, Try.ntmps56
  go_upto_region 3 with (first | (go_at_call 74; (with_reducible refine (isVariant_any _ _ _ _ _).mono ?_); rintro e w1 ⟨rfl, hb⟩; obtain ⟨hc, hf⟩ := bcell hb; have hsz := hb.size; (try simp at hsz); (try have hy0 : w.heap.size < w1.heap.size := by omega); (try have hy1 : w.heap.size + 1 < w1.heap.size := by omega); (try have hy2 : w.heap.size + 2 < w1.heap.size := by omega); (try have hyS : ws.heap.size < w1.heap.size := by omega); (try have hyG : wg.heap.size < w1.heap.size := by omega)) | (go_at_call 61; (with_reducible refine (implBoard_any _ _ _ _ _ _ zs ys _ (by (repeat (first | (with_reducible exact IntsAt.made _ _ (by omega) _) | (with_reducible assumption) | (with_reducible refine IntsAt.alloc ?_ _) | (with_reducible refine IntsAt.drew ?_) | (with_reducible refine IntsAt.drewN ?_ _) | (with_reducible refine IntsAt.mono ?_ (by with_reducible assumption))))) (by (repeat (first | (with_reducible exact IntsAt.made _ _ (by omega) _) | (with_reducible assumption) | (with_reducible refine IntsAt.alloc ?_ _) | (with_reducible refine IntsAt.drew ?_) | (with_reducible refine IntsAt.drewN ?_ _) | (with_reducible refine IntsAt.mono ?_ (by with_reducible assumption)))))).mono ?_); rintro e w1 ⟨rfl, hb⟩; obtain ⟨hc, hf⟩ := bcell hb; have hsz := hb.size; (try simp at hsz); (try have hy0 : w.heap.size < w1.heap.size := by omega); (try have hy1 : w.heap.size + 1 < w1.heap.size := by omega); (try have hy2 : w.heap.size + 2 < w1.heap.size := by omega); (try have hyS : ws.heap.size < w1.heap.size := by omega); (try have hyG : wg.heap.size < w1.heap.size := by omega)) | (go_at_call 83; (with_reducible refine (within_any _ _ _ _).mono ?_); rintro e w' ⟨rfl, rfl⟩))
  refine wp_named (fun W hW0 => ?_)
  have hW := hid hW0
  clear hW0
  have bW : Below w.heap.size w W := by rw [← hW.out]; (repeat' (first | (with_reducible exact Below.refl _ _) | (with_reducible assumption) | (with_reducible refine xAlloc ?_ _) | (with_reducible refine Below.drew ?_) | (with_reducible refine xDrewN ?_ _) | (with_reducible refine xThen ?_ (by with_reducible assumption)) | (with_reducible refine Below.setCell ?_ (by first | omega | (simp; omega) | simp) _) | exact Below.refl _ _))
  have kW0 : W.cell? ⟨w.heap.size, 0, none⟩ = some (.int .i64 p) := by rw [← hW.out]; go_simp
  have kW1 : W.cell? ⟨w.heap.size, 1, none⟩ = some (.int .i64 c) := by rw [← hW.out]; go_simp
  have kW2 : W.cell? ⟨w.heap.size, 2, none⟩ = some (.int .i64 h) := by rw [← hW.out]; go_simp
  have kW3 : W.cell? ⟨w.heap.size, 3, none⟩ = some (.int .i64 s) := by rw [← hW.out]; go_simp
  have kW4 : W.cell? ⟨w.heap.size + 1, 0, none⟩ = some (.slice a1 zs.length c1) := by rw [← hW.out]; go_simp
  have kW5 : W.cell? ⟨w.heap.size + 1, 1, none⟩ = some (.slice a2 ys.length c2) := by rw [← hW.out]; go_simp
  have kW6 : W.cell? ⟨w.heap.size + 1, 2, none⟩ = some (.int .i64 pl) := by rw [← hW.out]; go_simp
  have kW7 : W.cell? ⟨w.heap.size + 1, 3, none⟩ = some (.int .i64 a) := by rw [← hW.out]; go_simp
  have kW8 : W.cell? ⟨w.heap.size + 1, 4, none⟩ = some (.int .i64 b) := by rw [← hW.out]; go_simp
  have kW9 : W.cell? ⟨w.heap.size + 1, 5, none⟩ = some (.int .i64 3) := by rw [← hW.out]; go_simp
  have kW10 : W.cell? ⟨w.heap.size + 1, 6, none⟩ = some (.int .i64 wi) := by rw [← hW.out]; go_simp
  have kW11 : W.cell? ⟨w.heap.size + 1, 7, none⟩ = some (.int .i64 re) := by rw [← hW.out]; go_simp
  have kW12 : W.cell? ⟨w.heap.size + 1, 8, none⟩ = some (.int .i64 tu) := by rw [← hW.out]; go_simp
  have JW1 := I1.mono bW
  have JW2 := I2.mono bW
  have lW : w.heap.size + 1 < W.heap.size := cell_block kW4
  clear hW
  have hk0 := fun xe : ExtW W => xe.cell kW0
  have hk1 := fun xe : ExtW W => xe.cell kW1
  have hk2 := fun xe : ExtW W => xe.cell kW2
  have hk3 := fun xe : ExtW W => xe.cell kW3
  have hk4 := fun xe : ExtW W => xe.cell kW4
  have hk5 := fun xe : ExtW W => xe.cell kW5
  have hk6 := fun xe : ExtW W => xe.cell kW6
  have hk7 := fun xe : ExtW W => xe.cell kW7
  have hk8 := fun xe : ExtW W => xe.cell kW8
  have hk9 := fun xe : ExtW W => xe.cell kW9
  have hk10 := fun xe : ExtW W => xe.cell kW10
  have hk11 := fun xe : ExtW W => xe.cell kW11
  have hk12 := fun xe : ExtW W => xe.cell kW12
  have hne : Nonempty (ExtW W) := ⟨⟨_, Below.refl _ _⟩⟩
  refine wp_region_ext (by kernel_rfl) (by kernel_rfl) ?_
  repeat (first | go_big_quiet_step ((first | (go_at_call 107; exact ext_call (implRoll_any _ _ _ _ _ _ _)))) | quiet_step ((first | (go_at_call 107; exact ext_call (implRoll_any _ _ _ _ _ _ _)))))
  refine wpQuiet_nil ?_
  rintro w1 ⟨⟨_, hb⟩, rfl⟩
  clear hne hk0 hk1 hk2 hk3 hk4 hk5 hk6 hk7 hk8 hk9 hk10 hk11 hk12
  have kA0 := xcell hb kW0
  have kA1 := xcell hb kW1
  have kA2 := xcell hb kW2
  have kA3 := xcell hb kW3
  have kA4 := xcell hb kW4
  have kA5 := xcell hb kW5
  have kA6 := xcell hb kW6
  have kA7 := xcell hb kW7
  have kA8 := xcell hb kW8
  have kA9 := xcell hb kW9
  have kA10 := xcell hb kW10
  have kA11 := xcell hb kW11
  have kA12 := xcell hb kW12
  have JA1 := JW1.mono hb
  have JA2 := JW2.mono hb
  have BA := xThen bW hb
  clear kW0 kW1 kW2 kW3 kW4 kW5 kW6 kW7 kW8 kW9 kW10 kW11 kW12 JW1 JW2 hb bW
  go_wp2_with (go_at_call 62; (with_reducible refine (implOver_any _ _ zs ys _ JA1 JA2 HZ.out HY.out).mono ?_); rw [HO.out]; rintro e w2 ⟨rfl, hb⟩; have kB0 := xcell hb kA0; have kB1 := xcell hb kA1; have kB2 := xcell hb kA2; have kB3 := xcell hb kA3; have kB4 := xcell hb kA4; have kB5 := xcell hb kA5; have kB6 := xcell hb kA6; have kB7 := xcell hb kA7; have kB8 := xcell hb kA8; have kB9 := xcell hb kA9; have kB10 := xcell hb kA10; have kB11 := xcell hb kA11; have kB12 := xcell hb kA12)
  have JB1 := JA1.mono hb
  have JB2 := JA2.mono hb
  have BB := xThen BA hb
  clear kA0 kA1 kA2 kA3 kA4 kA5 kA6 kA7 kA8 kA9 kA10 kA11 kA12 JA1 JA2 hb BA
  have hk0 := fun xe : ExtW w2 => xe.cell kB0
  have hk1 := fun xe : ExtW w2 => xe.cell kB1
  have hk2 := fun xe : ExtW w2 => xe.cell kB2
  have hk3 := fun xe : ExtW w2 => xe.cell kB3
  have hk4 := fun xe : ExtW w2 => xe.cell kB4
  have hk5 := fun xe : ExtW w2 => xe.cell kB5
  have hk6 := fun xe : ExtW w2 => xe.cell kB6
  have hk7 := fun xe : ExtW w2 => xe.cell kB7
  have hk8 := fun xe : ExtW w2 => xe.cell kB8
  have hk9 := fun xe : ExtW w2 => xe.cell kB9
  have hk10 := fun xe : ExtW w2 => xe.cell kB10
  have hk11 := fun xe : ExtW w2 => xe.cell kB11
  have hk12 := fun xe : ExtW w2 => xe.cell kB12
  have hne : Nonempty (ExtW w2) := ⟨⟨_, Below.refl _ _⟩⟩
  refine wp_region_ext (by kernel_rfl) (by kernel_rfl) ?_
  repeat (first | go_big_quiet_step ((first | (go_at_call 109; exact ext_call0 (totalS_any _ zs _ (JB1.mono (ExtW.b _)) HZ.out)) | (go_at_call 63; exact ext_call (implRes_any _ _ _ _ _ _ zs ys _ (JB1.mono (ExtW.b _)) (JB2.mono (ExtW.b _)) (by omega) (by omega) (by omega) (by omega) HZ.out HY.out)))) | quiet_step ((first | (go_at_call 109; exact ext_call0 (totalS_any _ zs _ (JB1.mono (ExtW.b _)) HZ.out)) | (go_at_call 63; exact ext_call (implRes_any _ _ _ _ _ _ zs ys _ (JB1.mono (ExtW.b _)) (JB2.mono (ExtW.b _)) (by omega) (by omega) (by omega) (by omega) HZ.out HY.out)))))
  refine wpQuiet_nil ?_
  rintro w1 ⟨⟨_, hb⟩, rfl⟩
  clear hne hk0 hk1 hk2 hk3 hk4 hk5 hk6 hk7 hk8 hk9 hk10 hk11 hk12
  go_wp2
  go_ret
  exact ⟨rfl, by (repeat' (first | (with_reducible exact Below.refl _ _) | (with_reducible assumption) | (with_reducible refine xAlloc ?_ _) | (with_reducible refine Below.drew ?_) | (with_reducible refine xDrewN ?_ _) | (with_reducible refine xThen ?_ (by with_reducible assumption)) | (with_reducible refine Below.setCell ?_ (by first | omega | (simp; omega) | simp) _) | exact Below.refl _ _))⟩

set_option maxRecDepth 100000 in
set_option maxHeartbeats 2000000 in
theorem implGame_c3b (p c h s : Int) (v1 v2 : Value) (zs ys : List Int) (pl a b wi re tu : Int) (w : World) (I1 : IntsAt w v1 zs) (I2 : IntsAt w v2 ys) (hpre : preB p c h s zs ys pl tu = true) (hz : zeroB a b = true) (ho : overB zs ys = true) (hs : (((sumN zs zs.length : Nat) : Int) == 0) = true) (hw : (wi == pl) = false) :
    Calls Try.prog 56 #[.agg #[.int .i64 p, .int .i64 c, .int .i64 h, .int .i64 s], gameV v1 v2 pl a b 3 wi re tu] w fun e w' => e = .returned (.bool (false)) ∧ Below w.heap.size w w' := by
  unfold gameV
  obtain ⟨a1, c1, rfl, _⟩ := id I1
  obtain ⟨a2, c2, rfl, _⟩ := id I2
  obtain ⟨hv, h4, hbd, hpl, htu⟩ := preB_true hpre
  obtain ⟨_, hz0, hy0'⟩ := boardB_true hbd
  have HZ := hid hz0
  have HY := hid hy0'
  clear hpre hz0 hy0'
  have hz' : (a == 0 && b == 0) = true := by simpa [zeroB] using hz
  have hne0 : ∀ u : World, (binOp .neq 42 (.agg #[.int .i64 a, .int .i64 b]) (.agg #[.int .i64 0, .int .i64 0])).run Try.prog u = .ok (.bool false) u := fun u => by rw [neRoll_run, hz']; rfl
  clear hz hz'
  have HO := hid ho
  clear ho
  have hvr := varB_true hv
  go_enter Try.func56, Try.ntmps56
  go_upto_region 3 with (first | (go_at_call 74; (with_reducible refine (isVariant_any _ _ _ _ _).mono ?_); rintro e w1 ⟨rfl, hb⟩; obtain ⟨hc, hf⟩ := bcell hb; have hsz := hb.size; (try simp at hsz); (try have hy0 : w.heap.size < w1.heap.size := by omega); (try have hy1 : w.heap.size + 1 < w1.heap.size := by omega); (try have hy2 : w.heap.size + 2 < w1.heap.size := by omega); (try have hyS : ws.heap.size < w1.heap.size := by omega); (try have hyG : wg.heap.size < w1.heap.size := by omega)) | (go_at_call 61; (with_reducible refine (implBoard_any _ _ _ _ _ _ zs ys _ (by (repeat (first | (with_reducible exact IntsAt.made _ _ (by omega) _) | (with_reducible assumption) | (with_reducible refine IntsAt.alloc ?_ _) | (with_reducible refine IntsAt.drew ?_) | (with_reducible refine IntsAt.drewN ?_ _) | (with_reducible refine IntsAt.mono ?_ (by with_reducible assumption))))) (by (repeat (first | (with_reducible exact IntsAt.made _ _ (by omega) _) | (with_reducible assumption) | (with_reducible refine IntsAt.alloc ?_ _) | (with_reducible refine IntsAt.drew ?_) | (with_reducible refine IntsAt.drewN ?_ _) | (with_reducible refine IntsAt.mono ?_ (by with_reducible assumption)))))).mono ?_); rintro e w1 ⟨rfl, hb⟩; obtain ⟨hc, hf⟩ := bcell hb; have hsz := hb.size; (try simp at hsz); (try have hy0 : w.heap.size < w1.heap.size := by omega); (try have hy1 : w.heap.size + 1 < w1.heap.size := by omega); (try have hy2 : w.heap.size + 2 < w1.heap.size := by omega); (try have hyS : ws.heap.size < w1.heap.size := by omega); (try have hyG : wg.heap.size < w1.heap.size := by omega)) | (go_at_call 83; (with_reducible refine (within_any _ _ _ _).mono ?_); rintro e w' ⟨rfl, rfl⟩))
  refine wp_named (fun W hW0 => ?_)
  have hW := hid hW0
  clear hW0
  have bW : Below w.heap.size w W := by rw [← hW.out]; (repeat' (first | (with_reducible exact Below.refl _ _) | (with_reducible assumption) | (with_reducible refine xAlloc ?_ _) | (with_reducible refine Below.drew ?_) | (with_reducible refine xDrewN ?_ _) | (with_reducible refine xThen ?_ (by with_reducible assumption)) | (with_reducible refine Below.setCell ?_ (by first | omega | (simp; omega) | simp) _) | exact Below.refl _ _))
  have kW0 : W.cell? ⟨w.heap.size, 0, none⟩ = some (.int .i64 p) := by rw [← hW.out]; go_simp
  have kW1 : W.cell? ⟨w.heap.size, 1, none⟩ = some (.int .i64 c) := by rw [← hW.out]; go_simp
  have kW2 : W.cell? ⟨w.heap.size, 2, none⟩ = some (.int .i64 h) := by rw [← hW.out]; go_simp
  have kW3 : W.cell? ⟨w.heap.size, 3, none⟩ = some (.int .i64 s) := by rw [← hW.out]; go_simp
  have kW4 : W.cell? ⟨w.heap.size + 1, 0, none⟩ = some (.slice a1 zs.length c1) := by rw [← hW.out]; go_simp
  have kW5 : W.cell? ⟨w.heap.size + 1, 1, none⟩ = some (.slice a2 ys.length c2) := by rw [← hW.out]; go_simp
  have kW6 : W.cell? ⟨w.heap.size + 1, 2, none⟩ = some (.int .i64 pl) := by rw [← hW.out]; go_simp
  have kW7 : W.cell? ⟨w.heap.size + 1, 3, none⟩ = some (.int .i64 a) := by rw [← hW.out]; go_simp
  have kW8 : W.cell? ⟨w.heap.size + 1, 4, none⟩ = some (.int .i64 b) := by rw [← hW.out]; go_simp
  have kW9 : W.cell? ⟨w.heap.size + 1, 5, none⟩ = some (.int .i64 3) := by rw [← hW.out]; go_simp
  have kW10 : W.cell? ⟨w.heap.size + 1, 6, none⟩ = some (.int .i64 wi) := by rw [← hW.out]; go_simp
  have kW11 : W.cell? ⟨w.heap.size + 1, 7, none⟩ = some (.int .i64 re) := by rw [← hW.out]; go_simp
  have kW12 : W.cell? ⟨w.heap.size + 1, 8, none⟩ = some (.int .i64 tu) := by rw [← hW.out]; go_simp
  have JW1 := I1.mono bW
  have JW2 := I2.mono bW
  have lW : w.heap.size + 1 < W.heap.size := cell_block kW4
  clear hW
  have hk0 := fun xe : ExtW W => xe.cell kW0
  have hk1 := fun xe : ExtW W => xe.cell kW1
  have hk2 := fun xe : ExtW W => xe.cell kW2
  have hk3 := fun xe : ExtW W => xe.cell kW3
  have hk4 := fun xe : ExtW W => xe.cell kW4
  have hk5 := fun xe : ExtW W => xe.cell kW5
  have hk6 := fun xe : ExtW W => xe.cell kW6
  have hk7 := fun xe : ExtW W => xe.cell kW7
  have hk8 := fun xe : ExtW W => xe.cell kW8
  have hk9 := fun xe : ExtW W => xe.cell kW9
  have hk10 := fun xe : ExtW W => xe.cell kW10
  have hk11 := fun xe : ExtW W => xe.cell kW11
  have hk12 := fun xe : ExtW W => xe.cell kW12
  have hne : Nonempty (ExtW W) := ⟨⟨_, Below.refl _ _⟩⟩
  refine wp_region_ext (by kernel_rfl) (by kernel_rfl) ?_
  repeat (first | go_big_quiet_step ((first | (go_at_call 107; exact ext_call (implRoll_any _ _ _ _ _ _ _)))) | quiet_step ((first | (go_at_call 107; exact ext_call (implRoll_any _ _ _ _ _ _ _)))))
  refine wpQuiet_nil ?_
  rintro w1 ⟨⟨_, hb⟩, rfl⟩
  clear hne hk0 hk1 hk2 hk3 hk4 hk5 hk6 hk7 hk8 hk9 hk10 hk11 hk12
  have kA0 := xcell hb kW0
  have kA1 := xcell hb kW1
  have kA2 := xcell hb kW2
  have kA3 := xcell hb kW3
  have kA4 := xcell hb kW4
  have kA5 := xcell hb kW5
  have kA6 := xcell hb kW6
  have kA7 := xcell hb kW7
  have kA8 := xcell hb kW8
  have kA9 := xcell hb kW9
  have kA10 := xcell hb kW10
  have kA11 := xcell hb kW11
  have kA12 := xcell hb kW12
  have JA1 := JW1.mono hb
  have JA2 := JW2.mono hb
  have BA := xThen bW hb
  clear kW0 kW1 kW2 kW3 kW4 kW5 kW6 kW7 kW8 kW9 kW10 kW11 kW12 JW1 JW2 hb bW
  go_wp2_with (go_at_call 62; (with_reducible refine (implOver_any _ _ zs ys _ JA1 JA2 HZ.out HY.out).mono ?_); rw [HO.out]; rintro e w2 ⟨rfl, hb⟩; have kB0 := xcell hb kA0; have kB1 := xcell hb kA1; have kB2 := xcell hb kA2; have kB3 := xcell hb kA3; have kB4 := xcell hb kA4; have kB5 := xcell hb kA5; have kB6 := xcell hb kA6; have kB7 := xcell hb kA7; have kB8 := xcell hb kA8; have kB9 := xcell hb kA9; have kB10 := xcell hb kA10; have kB11 := xcell hb kA11; have kB12 := xcell hb kA12)
  have JB1 := JA1.mono hb
  have JB2 := JA2.mono hb
  have BB := xThen BA hb
  clear kA0 kA1 kA2 kA3 kA4 kA5 kA6 kA7 kA8 kA9 kA10 kA11 kA12 JA1 JA2 hb BA
  have hk0 := fun xe : ExtW w2 => xe.cell kB0
  have hk1 := fun xe : ExtW w2 => xe.cell kB1
  have hk2 := fun xe : ExtW w2 => xe.cell kB2
  have hk3 := fun xe : ExtW w2 => xe.cell kB3
  have hk4 := fun xe : ExtW w2 => xe.cell kB4
  have hk5 := fun xe : ExtW w2 => xe.cell kB5
  have hk6 := fun xe : ExtW w2 => xe.cell kB6
  have hk7 := fun xe : ExtW w2 => xe.cell kB7
  have hk8 := fun xe : ExtW w2 => xe.cell kB8
  have hk9 := fun xe : ExtW w2 => xe.cell kB9
  have hk10 := fun xe : ExtW w2 => xe.cell kB10
  have hk11 := fun xe : ExtW w2 => xe.cell kB11
  have hk12 := fun xe : ExtW w2 => xe.cell kB12
  have hne : Nonempty (ExtW w2) := ⟨⟨_, Below.refl _ _⟩⟩
  refine wp_region_ext (by kernel_rfl) (by kernel_rfl) ?_
  repeat (first | go_big_quiet_step ((first | (go_at_call 109; exact ext_call0 (totalS_any _ zs _ (JB1.mono (ExtW.b _)) HZ.out)) | (go_at_call 63; exact ext_call (implRes_any _ _ _ _ _ _ zs ys _ (JB1.mono (ExtW.b _)) (JB2.mono (ExtW.b _)) (by omega) (by omega) (by omega) (by omega) HZ.out HY.out)))) | quiet_step ((first | (go_at_call 109; exact ext_call0 (totalS_any _ zs _ (JB1.mono (ExtW.b _)) HZ.out)) | (go_at_call 63; exact ext_call (implRes_any _ _ _ _ _ _ zs ys _ (JB1.mono (ExtW.b _)) (JB2.mono (ExtW.b _)) (by omega) (by omega) (by omega) (by omega) HZ.out HY.out)))))
  refine wpQuiet_nil ?_
  rintro w1 ⟨⟨_, hb⟩, rfl⟩
  clear hne hk0 hk1 hk2 hk3 hk4 hk5 hk6 hk7 hk8 hk9 hk10 hk11 hk12
  go_wp2
  go_ret
  exact ⟨rfl, by (repeat' (first | (with_reducible exact Below.refl _ _) | (with_reducible assumption) | (with_reducible refine xAlloc ?_ _) | (with_reducible refine Below.drew ?_) | (with_reducible refine xDrewN ?_ _) | (with_reducible refine xThen ?_ (by with_reducible assumption)) | (with_reducible refine Below.setCell ?_ (by first | omega | (simp; omega) | simp) _) | exact Below.refl _ _))⟩

set_option maxRecDepth 100000 in
set_option maxHeartbeats 2000000 in
theorem implGame_c3c (p c h s : Int) (v1 v2 : Value) (zs ys : List Int) (pl a b wi re tu : Int) (w : World) (I1 : IntsAt w v1 zs) (I2 : IntsAt w v2 ys) (hpre : preB p c h s zs ys pl tu = true) (hz : zeroB a b = true) (ho : overB zs ys = true) (hs : (((sumN zs zs.length : Nat) : Int) == 0) = true) (hw : (wi == pl) = true) :
    Calls Try.prog 56 #[.agg #[.int .i64 p, .int .i64 c, .int .i64 h, .int .i64 s], gameV v1 v2 pl a b 3 wi re tu] w fun e w' => e = .returned (.bool (re == resV p c h (loserL zs ys))) ∧ Below w.heap.size w w' := by
  unfold gameV
  obtain ⟨a1, c1, rfl, _⟩ := id I1
  obtain ⟨a2, c2, rfl, _⟩ := id I2
  obtain ⟨hv, h4, hbd, hpl, htu⟩ := preB_true hpre
  obtain ⟨_, hz0, hy0'⟩ := boardB_true hbd
  have HZ := hid hz0
  have HY := hid hy0'
  clear hpre hz0 hy0'
  have hz' : (a == 0 && b == 0) = true := by simpa [zeroB] using hz
  have hne0 : ∀ u : World, (binOp .neq 42 (.agg #[.int .i64 a, .int .i64 b]) (.agg #[.int .i64 0, .int .i64 0])).run Try.prog u = .ok (.bool false) u := fun u => by rw [neRoll_run, hz']; rfl
  clear hz hz'
  have HO := hid ho
  clear ho
  have hvr := varB_true hv
  go_enter Try.func56, Try.ntmps56
  go_upto_region 3 with (first | (go_at_call 74; (with_reducible refine (isVariant_any _ _ _ _ _).mono ?_); rintro e w1 ⟨rfl, hb⟩; obtain ⟨hc, hf⟩ := bcell hb; have hsz := hb.size; (try simp at hsz); (try have hy0 : w.heap.size < w1.heap.size := by omega); (try have hy1 : w.heap.size + 1 < w1.heap.size := by omega); (try have hy2 : w.heap.size + 2 < w1.heap.size := by omega); (try have hyS : ws.heap.size < w1.heap.size := by omega); (try have hyG : wg.heap.size < w1.heap.size := by omega)) | (go_at_call 61; (with_reducible refine (implBoard_any _ _ _ _ _ _ zs ys _ (by (repeat (first | (with_reducible exact IntsAt.made _ _ (by omega) _) | (with_reducible assumption) | (with_reducible refine IntsAt.alloc ?_ _) | (with_reducible refine IntsAt.drew ?_) | (with_reducible refine IntsAt.drewN ?_ _) | (with_reducible refine IntsAt.mono ?_ (by with_reducible assumption))))) (by (repeat (first | (with_reducible exact IntsAt.made _ _ (by omega) _) | (with_reducible assumption) | (with_reducible refine IntsAt.alloc ?_ _) | (with_reducible refine IntsAt.drew ?_) | (with_reducible refine IntsAt.drewN ?_ _) | (with_reducible refine IntsAt.mono ?_ (by with_reducible assumption)))))).mono ?_); rintro e w1 ⟨rfl, hb⟩; obtain ⟨hc, hf⟩ := bcell hb; have hsz := hb.size; (try simp at hsz); (try have hy0 : w.heap.size < w1.heap.size := by omega); (try have hy1 : w.heap.size + 1 < w1.heap.size := by omega); (try have hy2 : w.heap.size + 2 < w1.heap.size := by omega); (try have hyS : ws.heap.size < w1.heap.size := by omega); (try have hyG : wg.heap.size < w1.heap.size := by omega)) | (go_at_call 83; (with_reducible refine (within_any _ _ _ _).mono ?_); rintro e w' ⟨rfl, rfl⟩))
  refine wp_named (fun W hW0 => ?_)
  have hW := hid hW0
  clear hW0
  have bW : Below w.heap.size w W := by rw [← hW.out]; (repeat' (first | (with_reducible exact Below.refl _ _) | (with_reducible assumption) | (with_reducible refine xAlloc ?_ _) | (with_reducible refine Below.drew ?_) | (with_reducible refine xDrewN ?_ _) | (with_reducible refine xThen ?_ (by with_reducible assumption)) | (with_reducible refine Below.setCell ?_ (by first | omega | (simp; omega) | simp) _) | exact Below.refl _ _))
  have kW0 : W.cell? ⟨w.heap.size, 0, none⟩ = some (.int .i64 p) := by rw [← hW.out]; go_simp
  have kW1 : W.cell? ⟨w.heap.size, 1, none⟩ = some (.int .i64 c) := by rw [← hW.out]; go_simp
  have kW2 : W.cell? ⟨w.heap.size, 2, none⟩ = some (.int .i64 h) := by rw [← hW.out]; go_simp
  have kW3 : W.cell? ⟨w.heap.size, 3, none⟩ = some (.int .i64 s) := by rw [← hW.out]; go_simp
  have kW4 : W.cell? ⟨w.heap.size + 1, 0, none⟩ = some (.slice a1 zs.length c1) := by rw [← hW.out]; go_simp
  have kW5 : W.cell? ⟨w.heap.size + 1, 1, none⟩ = some (.slice a2 ys.length c2) := by rw [← hW.out]; go_simp
  have kW6 : W.cell? ⟨w.heap.size + 1, 2, none⟩ = some (.int .i64 pl) := by rw [← hW.out]; go_simp
  have kW7 : W.cell? ⟨w.heap.size + 1, 3, none⟩ = some (.int .i64 a) := by rw [← hW.out]; go_simp
  have kW8 : W.cell? ⟨w.heap.size + 1, 4, none⟩ = some (.int .i64 b) := by rw [← hW.out]; go_simp
  have kW9 : W.cell? ⟨w.heap.size + 1, 5, none⟩ = some (.int .i64 3) := by rw [← hW.out]; go_simp
  have kW10 : W.cell? ⟨w.heap.size + 1, 6, none⟩ = some (.int .i64 wi) := by rw [← hW.out]; go_simp
  have kW11 : W.cell? ⟨w.heap.size + 1, 7, none⟩ = some (.int .i64 re) := by rw [← hW.out]; go_simp
  have kW12 : W.cell? ⟨w.heap.size + 1, 8, none⟩ = some (.int .i64 tu) := by rw [← hW.out]; go_simp
  have JW1 := I1.mono bW
  have JW2 := I2.mono bW
  have lW : w.heap.size + 1 < W.heap.size := cell_block kW4
  clear hW
  have hk0 := fun xe : ExtW W => xe.cell kW0
  have hk1 := fun xe : ExtW W => xe.cell kW1
  have hk2 := fun xe : ExtW W => xe.cell kW2
  have hk3 := fun xe : ExtW W => xe.cell kW3
  have hk4 := fun xe : ExtW W => xe.cell kW4
  have hk5 := fun xe : ExtW W => xe.cell kW5
  have hk6 := fun xe : ExtW W => xe.cell kW6
  have hk7 := fun xe : ExtW W => xe.cell kW7
  have hk8 := fun xe : ExtW W => xe.cell kW8
  have hk9 := fun xe : ExtW W => xe.cell kW9
  have hk10 := fun xe : ExtW W => xe.cell kW10
  have hk11 := fun xe : ExtW W => xe.cell kW11
  have hk12 := fun xe : ExtW W => xe.cell kW12
  have hne : Nonempty (ExtW W) := ⟨⟨_, Below.refl _ _⟩⟩
  refine wp_region_ext (by kernel_rfl) (by kernel_rfl) ?_
  repeat (first | go_big_quiet_step ((first | (go_at_call 107; exact ext_call (implRoll_any _ _ _ _ _ _ _)))) | quiet_step ((first | (go_at_call 107; exact ext_call (implRoll_any _ _ _ _ _ _ _)))))
  refine wpQuiet_nil ?_
  rintro w1 ⟨⟨_, hb⟩, rfl⟩
  clear hne hk0 hk1 hk2 hk3 hk4 hk5 hk6 hk7 hk8 hk9 hk10 hk11 hk12
  have kA0 := xcell hb kW0
  have kA1 := xcell hb kW1
  have kA2 := xcell hb kW2
  have kA3 := xcell hb kW3
  have kA4 := xcell hb kW4
  have kA5 := xcell hb kW5
  have kA6 := xcell hb kW6
  have kA7 := xcell hb kW7
  have kA8 := xcell hb kW8
  have kA9 := xcell hb kW9
  have kA10 := xcell hb kW10
  have kA11 := xcell hb kW11
  have kA12 := xcell hb kW12
  have JA1 := JW1.mono hb
  have JA2 := JW2.mono hb
  have BA := xThen bW hb
  clear kW0 kW1 kW2 kW3 kW4 kW5 kW6 kW7 kW8 kW9 kW10 kW11 kW12 JW1 JW2 hb bW
  go_wp2_with (go_at_call 62; (with_reducible refine (implOver_any _ _ zs ys _ JA1 JA2 HZ.out HY.out).mono ?_); rw [HO.out]; rintro e w2 ⟨rfl, hb⟩; have kB0 := xcell hb kA0; have kB1 := xcell hb kA1; have kB2 := xcell hb kA2; have kB3 := xcell hb kA3; have kB4 := xcell hb kA4; have kB5 := xcell hb kA5; have kB6 := xcell hb kA6; have kB7 := xcell hb kA7; have kB8 := xcell hb kA8; have kB9 := xcell hb kA9; have kB10 := xcell hb kA10; have kB11 := xcell hb kA11; have kB12 := xcell hb kA12)
  have JB1 := JA1.mono hb
  have JB2 := JA2.mono hb
  have BB := xThen BA hb
  clear kA0 kA1 kA2 kA3 kA4 kA5 kA6 kA7 kA8 kA9 kA10 kA11 kA12 JA1 JA2 hb BA
  have hk0 := fun xe : ExtW w2 => xe.cell kB0
  have hk1 := fun xe : ExtW w2 => xe.cell kB1
  have hk2 := fun xe : ExtW w2 => xe.cell kB2
  have hk3 := fun xe : ExtW w2 => xe.cell kB3
  have hk4 := fun xe : ExtW w2 => xe.cell kB4
  have hk5 := fun xe : ExtW w2 => xe.cell kB5
  have hk6 := fun xe : ExtW w2 => xe.cell kB6
  have hk7 := fun xe : ExtW w2 => xe.cell kB7
  have hk8 := fun xe : ExtW w2 => xe.cell kB8
  have hk9 := fun xe : ExtW w2 => xe.cell kB9
  have hk10 := fun xe : ExtW w2 => xe.cell kB10
  have hk11 := fun xe : ExtW w2 => xe.cell kB11
  have hk12 := fun xe : ExtW w2 => xe.cell kB12
  have hne : Nonempty (ExtW w2) := ⟨⟨_, Below.refl _ _⟩⟩
  refine wp_region_ext (by kernel_rfl) (by kernel_rfl) ?_
  repeat (first | go_big_quiet_step ((first | (go_at_call 109; exact ext_call0 (totalS_any _ zs _ (JB1.mono (ExtW.b _)) HZ.out)) | (go_at_call 63; exact ext_call (implRes_any _ _ _ _ _ _ zs ys _ (JB1.mono (ExtW.b _)) (JB2.mono (ExtW.b _)) (by omega) (by omega) (by omega) (by omega) HZ.out HY.out)))) | quiet_step ((first | (go_at_call 109; exact ext_call0 (totalS_any _ zs _ (JB1.mono (ExtW.b _)) HZ.out)) | (go_at_call 63; exact ext_call (implRes_any _ _ _ _ _ _ zs ys _ (JB1.mono (ExtW.b _)) (JB2.mono (ExtW.b _)) (by omega) (by omega) (by omega) (by omega) HZ.out HY.out)))))
  refine wpQuiet_nil ?_
  rintro w1 ⟨⟨_, hb⟩, rfl⟩
  clear hne hk0 hk1 hk2 hk3 hk4 hk5 hk6 hk7 hk8 hk9 hk10 hk11 hk12
  go_wp2
  go_ret
  exact ⟨rfl, by (repeat' (first | (with_reducible exact Below.refl _ _) | (with_reducible assumption) | (with_reducible refine xAlloc ?_ _) | (with_reducible refine Below.drew ?_) | (with_reducible refine xDrewN ?_ _) | (with_reducible refine xThen ?_ (by with_reducible assumption)) | (with_reducible refine Below.setCell ?_ (by first | omega | (simp; omega) | simp) _) | exact Below.refl _ _))⟩

set_option maxRecDepth 100000 in
set_option maxHeartbeats 2000000 in
theorem implGame_c3d (p c h s : Int) (v1 v2 : Value) (zs ys : List Int) (pl a b wi re tu : Int) (w : World) (I1 : IntsAt w v1 zs) (I2 : IntsAt w v2 ys) (hpre : preB p c h s zs ys pl tu = true) (hz : zeroB a b = true) (ho : overB zs ys = false) :
    Calls Try.prog 56 #[.agg #[.int .i64 p, .int .i64 c, .int .i64 h, .int .i64 s], gameV v1 v2 pl a b 3 wi re tu] w fun e w' => e = .returned (.bool (decide (wi = 1 - pl) && inB re 1 3)) ∧ Below w.heap.size w w' := by
  unfold gameV
  obtain ⟨a1, c1, rfl, _⟩ := id I1
  obtain ⟨a2, c2, rfl, _⟩ := id I2
  obtain ⟨hv, h4, hbd, hpl, htu⟩ := preB_true hpre
  obtain ⟨_, hz0, hy0'⟩ := boardB_true hbd
  have HZ := hid hz0
  have HY := hid hy0'
  clear hpre hz0 hy0'
  have hz' : (a == 0 && b == 0) = true := by simpa [zeroB] using hz
  have hne0 : ∀ u : World, (binOp .neq 42 (.agg #[.int .i64 a, .int .i64 b]) (.agg #[.int .i64 0, .int .i64 0])).run Try.prog u = .ok (.bool false) u := fun u => by rw [neRoll_run, hz']; rfl
  clear hz hz'
  have HO := hid ho
  clear ho
  have hpl2 := inB_true hpl
  go_enter Try.func56, Try.ntmps56
  go_upto_region 3 with (first | (go_at_call 74; (with_reducible refine (isVariant_any _ _ _ _ _).mono ?_); rintro e w1 ⟨rfl, hb⟩; obtain ⟨hc, hf⟩ := bcell hb; have hsz := hb.size; (try simp at hsz); (try have hy0 : w.heap.size < w1.heap.size := by omega); (try have hy1 : w.heap.size + 1 < w1.heap.size := by omega); (try have hy2 : w.heap.size + 2 < w1.heap.size := by omega); (try have hyS : ws.heap.size < w1.heap.size := by omega); (try have hyG : wg.heap.size < w1.heap.size := by omega)) | (go_at_call 61; (with_reducible refine (implBoard_any _ _ _ _ _ _ zs ys _ (by (repeat (first | (with_reducible exact IntsAt.made _ _ (by omega) _) | (with_reducible assumption) | (with_reducible refine IntsAt.alloc ?_ _) | (with_reducible refine IntsAt.drew ?_) | (with_reducible refine IntsAt.drewN ?_ _) | (with_reducible refine IntsAt.mono ?_ (by with_reducible assumption))))) (by (repeat (first | (with_reducible exact IntsAt.made _ _ (by omega) _) | (with_reducible assumption) | (with_reducible refine IntsAt.alloc ?_ _) | (with_reducible refine IntsAt.drew ?_) | (with_reducible refine IntsAt.drewN ?_ _) | (with_reducible refine IntsAt.mono ?_ (by with_reducible assumption)))))).mono ?_); rintro e w1 ⟨rfl, hb⟩; obtain ⟨hc, hf⟩ := bcell hb; have hsz := hb.size; (try simp at hsz); (try have hy0 : w.heap.size < w1.heap.size := by omega); (try have hy1 : w.heap.size + 1 < w1.heap.size := by omega); (try have hy2 : w.heap.size + 2 < w1.heap.size := by omega); (try have hyS : ws.heap.size < w1.heap.size := by omega); (try have hyG : wg.heap.size < w1.heap.size := by omega)) | (go_at_call 83; (with_reducible refine (within_any _ _ _ _).mono ?_); rintro e w' ⟨rfl, rfl⟩))
  refine wp_named (fun W hW0 => ?_)
  have hW := hid hW0
  clear hW0
  have bW : Below w.heap.size w W := by rw [← hW.out]; (repeat' (first | (with_reducible exact Below.refl _ _) | (with_reducible assumption) | (with_reducible refine xAlloc ?_ _) | (with_reducible refine Below.drew ?_) | (with_reducible refine xDrewN ?_ _) | (with_reducible refine xThen ?_ (by with_reducible assumption)) | (with_reducible refine Below.setCell ?_ (by first | omega | (simp; omega) | simp) _) | exact Below.refl _ _))
  have kW0 : W.cell? ⟨w.heap.size, 0, none⟩ = some (.int .i64 p) := by rw [← hW.out]; go_simp
  have kW1 : W.cell? ⟨w.heap.size, 1, none⟩ = some (.int .i64 c) := by rw [← hW.out]; go_simp
  have kW2 : W.cell? ⟨w.heap.size, 2, none⟩ = some (.int .i64 h) := by rw [← hW.out]; go_simp
  have kW3 : W.cell? ⟨w.heap.size, 3, none⟩ = some (.int .i64 s) := by rw [← hW.out]; go_simp
  have kW4 : W.cell? ⟨w.heap.size + 1, 0, none⟩ = some (.slice a1 zs.length c1) := by rw [← hW.out]; go_simp
  have kW5 : W.cell? ⟨w.heap.size + 1, 1, none⟩ = some (.slice a2 ys.length c2) := by rw [← hW.out]; go_simp
  have kW6 : W.cell? ⟨w.heap.size + 1, 2, none⟩ = some (.int .i64 pl) := by rw [← hW.out]; go_simp
  have kW7 : W.cell? ⟨w.heap.size + 1, 3, none⟩ = some (.int .i64 a) := by rw [← hW.out]; go_simp
  have kW8 : W.cell? ⟨w.heap.size + 1, 4, none⟩ = some (.int .i64 b) := by rw [← hW.out]; go_simp
  have kW9 : W.cell? ⟨w.heap.size + 1, 5, none⟩ = some (.int .i64 3) := by rw [← hW.out]; go_simp
  have kW10 : W.cell? ⟨w.heap.size + 1, 6, none⟩ = some (.int .i64 wi) := by rw [← hW.out]; go_simp
  have kW11 : W.cell? ⟨w.heap.size + 1, 7, none⟩ = some (.int .i64 re) := by rw [← hW.out]; go_simp
  have kW12 : W.cell? ⟨w.heap.size + 1, 8, none⟩ = some (.int .i64 tu) := by rw [← hW.out]; go_simp
  have JW1 := I1.mono bW
  have JW2 := I2.mono bW
  have lW : w.heap.size + 1 < W.heap.size := cell_block kW4
  clear hW
  have hk0 := fun xe : ExtW W => xe.cell kW0
  have hk1 := fun xe : ExtW W => xe.cell kW1
  have hk2 := fun xe : ExtW W => xe.cell kW2
  have hk3 := fun xe : ExtW W => xe.cell kW3
  have hk4 := fun xe : ExtW W => xe.cell kW4
  have hk5 := fun xe : ExtW W => xe.cell kW5
  have hk6 := fun xe : ExtW W => xe.cell kW6
  have hk7 := fun xe : ExtW W => xe.cell kW7
  have hk8 := fun xe : ExtW W => xe.cell kW8
  have hk9 := fun xe : ExtW W => xe.cell kW9
  have hk10 := fun xe : ExtW W => xe.cell kW10
  have hk11 := fun xe : ExtW W => xe.cell kW11
  have hk12 := fun xe : ExtW W => xe.cell kW12
  have hne : Nonempty (ExtW W) := ⟨⟨_, Below.refl _ _⟩⟩
  refine wp_region_ext (by kernel_rfl) (by kernel_rfl) ?_
  repeat (first | go_big_quiet_step ((first | (go_at_call 107; exact ext_call (implRoll_any _ _ _ _ _ _ _)))) | quiet_step ((first | (go_at_call 107; exact ext_call (implRoll_any _ _ _ _ _ _ _)))))
  refine wpQuiet_nil ?_
  rintro w1 ⟨⟨_, hb⟩, rfl⟩
  clear hne hk0 hk1 hk2 hk3 hk4 hk5 hk6 hk7 hk8 hk9 hk10 hk11 hk12
  have kA0 := xcell hb kW0
  have kA1 := xcell hb kW1
  have kA2 := xcell hb kW2
  have kA3 := xcell hb kW3
  have kA4 := xcell hb kW4
  have kA5 := xcell hb kW5
  have kA6 := xcell hb kW6
  have kA7 := xcell hb kW7
  have kA8 := xcell hb kW8
  have kA9 := xcell hb kW9
  have kA10 := xcell hb kW10
  have kA11 := xcell hb kW11
  have kA12 := xcell hb kW12
  have JA1 := JW1.mono hb
  have JA2 := JW2.mono hb
  have BA := xThen bW hb
  clear kW0 kW1 kW2 kW3 kW4 kW5 kW6 kW7 kW8 kW9 kW10 kW11 kW12 JW1 JW2 hb bW
  go_wp2_with (first | (go_at_call 62; (with_reducible refine (implOver_any _ _ zs ys _ JA1 JA2 HZ.out HY.out).mono ?_); rw [HO.out]; rintro e w2 ⟨rfl, hb⟩; have kB0 := xcell hb kA0; have kB1 := xcell hb kA1; have kB2 := xcell hb kA2; have kB3 := xcell hb kA3; have kB4 := xcell hb kA4; have kB5 := xcell hb kA5; have kB6 := xcell hb kA6; have kB7 := xcell hb kA7; have kB8 := xcell hb kA8; have kB9 := xcell hb kA9; have kB10 := xcell hb kA10; have kB11 := xcell hb kA11; have kB12 := xcell hb kA12) | (go_at_call 83; (with_reducible refine (within_any _ _ _ _).mono ?_); rintro e w' ⟨rfl, rfl⟩))
  all_goals
    go_ret
    exact ⟨ret_bool (by simp [*] <;> (rw [Bool.eq_iff_iff]; simp)), by (repeat' (first | (with_reducible exact Below.refl _ _) | (with_reducible assumption) | (with_reducible refine xAlloc ?_ _) | (with_reducible refine Below.drew ?_) | (with_reducible refine xDrewN ?_ _) | (with_reducible refine xThen ?_ (by with_reducible assumption)) | (with_reducible refine Below.setCell ?_ (by first | omega | (simp; omega) | simp) _) | exact Below.refl _ _))⟩

set_option maxRecDepth 100000 in
set_option maxHeartbeats 2000000 in
theorem implGame_c0 (n : Nat) (c h s : Int) (v1 v2 : Value) (zs ys : List Int) (pl a b wi re tu : Int) (w : World) (I1 : IntsAt w v1 zs) (I2 : IntsAt w v2 ys) (hpre : preB n c h s zs ys pl tu = true) (hz : zeroB a b = true) :
    Calls Try.prog 56 #[.agg #[.int .i64 n, .int .i64 c, .int .i64 h, .int .i64 s], gameV v1 v2 pl a b 0 wi re tu] w fun e w' => e = .returned (.bool (endB n c h s zs ys pl 0 wi re tu)) ∧ Below w.heap.size w w' := by
  unfold gameV
  obtain ⟨a1, c1, rfl, _⟩ := id I1
  obtain ⟨a2, c2, rfl, _⟩ := id I2
  obtain ⟨hv, h4, hbd, hpl, htu⟩ := preB_true hpre
  obtain ⟨_, hz0, hy0'⟩ := boardB_true hbd
  have HZ := hid hz0
  have HY := hid hy0'
  clear hpre hz0 hy0'
  have hz' : (a == 0 && b == 0) = true := by simpa [zeroB] using hz
  have hne0 : ∀ u : World, (binOp .neq 42 (.agg #[.int .i64 a, .int .i64 b]) (.agg #[.int .i64 0, .int .i64 0])).run Try.prog u = .ok (.bool false) u := fun u => by rw [neRoll_run, hz']; rfl
  clear hz hz'
  have HV := hid hv
  go_enter Try.func56, Try.ntmps56
  go_upto_region 3 with (first | (go_at_call 74; (with_reducible refine (isVariant_any _ _ _ _ _).mono ?_); rintro e w1 ⟨rfl, hb⟩; obtain ⟨hc, hf⟩ := bcell hb; have hsz := hb.size; (try simp at hsz); (try have hy0 : w.heap.size < w1.heap.size := by omega); (try have hy1 : w.heap.size + 1 < w1.heap.size := by omega); (try have hy2 : w.heap.size + 2 < w1.heap.size := by omega); (try have hyS : ws.heap.size < w1.heap.size := by omega); (try have hyG : wg.heap.size < w1.heap.size := by omega)) | (go_at_call 61; (with_reducible refine (implBoard_any _ _ _ _ _ _ zs ys _ (by (repeat (first | (with_reducible exact IntsAt.made _ _ (by omega) _) | (with_reducible assumption) | (with_reducible refine IntsAt.alloc ?_ _) | (with_reducible refine IntsAt.drew ?_) | (with_reducible refine IntsAt.drewN ?_ _) | (with_reducible refine IntsAt.mono ?_ (by with_reducible assumption))))) (by (repeat (first | (with_reducible exact IntsAt.made _ _ (by omega) _) | (with_reducible assumption) | (with_reducible refine IntsAt.alloc ?_ _) | (with_reducible refine IntsAt.drew ?_) | (with_reducible refine IntsAt.drewN ?_ _) | (with_reducible refine IntsAt.mono ?_ (by with_reducible assumption)))))).mono ?_); rintro e w1 ⟨rfl, hb⟩; obtain ⟨hc, hf⟩ := bcell hb; have hsz := hb.size; (try simp at hsz); (try have hy0 : w.heap.size < w1.heap.size := by omega); (try have hy1 : w.heap.size + 1 < w1.heap.size := by omega); (try have hy2 : w.heap.size + 2 < w1.heap.size := by omega); (try have hyS : ws.heap.size < w1.heap.size := by omega); (try have hyG : wg.heap.size < w1.heap.size := by omega)) | (go_at_call 83; (with_reducible refine (within_any _ _ _ _).mono ?_); rintro e w' ⟨rfl, rfl⟩))
  refine wp_named (fun W hW0 => ?_)
  have hW := hid hW0
  clear hW0
  have bW : Below w.heap.size w W := by rw [← hW.out]; (repeat' (first | (with_reducible exact Below.refl _ _) | (with_reducible assumption) | (with_reducible refine xAlloc ?_ _) | (with_reducible refine Below.drew ?_) | (with_reducible refine xDrewN ?_ _) | (with_reducible refine xThen ?_ (by with_reducible assumption)) | (with_reducible refine Below.setCell ?_ (by first | omega | (simp; omega) | simp) _) | exact Below.refl _ _))
  have kW0 : W.cell? ⟨w.heap.size, 0, none⟩ = some (.int .i64 n) := by rw [← hW.out]; go_simp
  have kW1 : W.cell? ⟨w.heap.size, 1, none⟩ = some (.int .i64 c) := by rw [← hW.out]; go_simp
  have kW2 : W.cell? ⟨w.heap.size, 2, none⟩ = some (.int .i64 h) := by rw [← hW.out]; go_simp
  have kW3 : W.cell? ⟨w.heap.size, 3, none⟩ = some (.int .i64 s) := by rw [← hW.out]; go_simp
  have kW4 : W.cell? ⟨w.heap.size + 1, 0, none⟩ = some (.slice a1 zs.length c1) := by rw [← hW.out]; go_simp
  have kW5 : W.cell? ⟨w.heap.size + 1, 1, none⟩ = some (.slice a2 ys.length c2) := by rw [← hW.out]; go_simp
  have kW6 : W.cell? ⟨w.heap.size + 1, 2, none⟩ = some (.int .i64 pl) := by rw [← hW.out]; go_simp
  have kW7 : W.cell? ⟨w.heap.size + 1, 3, none⟩ = some (.int .i64 a) := by rw [← hW.out]; go_simp
  have kW8 : W.cell? ⟨w.heap.size + 1, 4, none⟩ = some (.int .i64 b) := by rw [← hW.out]; go_simp
  have kW9 : W.cell? ⟨w.heap.size + 1, 5, none⟩ = some (.int .i64 0) := by rw [← hW.out]; go_simp
  have kW10 : W.cell? ⟨w.heap.size + 1, 6, none⟩ = some (.int .i64 wi) := by rw [← hW.out]; go_simp
  have kW11 : W.cell? ⟨w.heap.size + 1, 7, none⟩ = some (.int .i64 re) := by rw [← hW.out]; go_simp
  have kW12 : W.cell? ⟨w.heap.size + 1, 8, none⟩ = some (.int .i64 tu) := by rw [← hW.out]; go_simp
  have JW1 := I1.mono bW
  have JW2 := I2.mono bW
  have lW : w.heap.size + 1 < W.heap.size := cell_block kW4
  clear hW
  have hk0 := fun xe : ExtW W => xe.cell kW0
  have hk1 := fun xe : ExtW W => xe.cell kW1
  have hk2 := fun xe : ExtW W => xe.cell kW2
  have hk3 := fun xe : ExtW W => xe.cell kW3
  have hk4 := fun xe : ExtW W => xe.cell kW4
  have hk5 := fun xe : ExtW W => xe.cell kW5
  have hk6 := fun xe : ExtW W => xe.cell kW6
  have hk7 := fun xe : ExtW W => xe.cell kW7
  have hk8 := fun xe : ExtW W => xe.cell kW8
  have hk9 := fun xe : ExtW W => xe.cell kW9
  have hk10 := fun xe : ExtW W => xe.cell kW10
  have hk11 := fun xe : ExtW W => xe.cell kW11
  have hk12 := fun xe : ExtW W => xe.cell kW12
  have hne : Nonempty (ExtW W) := ⟨⟨_, Below.refl _ _⟩⟩
  refine wp_region_ext (by kernel_rfl) (by kernel_rfl) ?_
  repeat (first | go_big_quiet_step ((first | (go_at_call 107; exact ext_call (implRoll_any _ _ _ _ _ _ _)))) | quiet_step ((first | (go_at_call 107; exact ext_call (implRoll_any _ _ _ _ _ _ _)))))
  refine wpQuiet_nil ?_
  rintro w1 ⟨⟨_, hb⟩, rfl⟩
  clear hne hk0 hk1 hk2 hk3 hk4 hk5 hk6 hk7 hk8 hk9 hk10 hk11 hk12
  have kA0 := xcell hb kW0
  have kA1 := xcell hb kW1
  have kA2 := xcell hb kW2
  have kA3 := xcell hb kW3
  have kA4 := xcell hb kW4
  have kA5 := xcell hb kW5
  have kA6 := xcell hb kW6
  have kA7 := xcell hb kW7
  have kA8 := xcell hb kW8
  have kA9 := xcell hb kW9
  have kA10 := xcell hb kW10
  have kA11 := xcell hb kW11
  have kA12 := xcell hb kW12
  have JA1 := JW1.mono hb
  have JA2 := JW2.mono hb
  have BA := xThen bW hb
  clear kW0 kW1 kW2 kW3 kW4 kW5 kW6 kW7 kW8 kW9 kW10 kW11 kW12 JW1 JW2 hb bW
  have HE : Hid (endB n c h s zs ys pl 0 wi re tu = (decide (zs = startL n c h s) && decide (ys = startL n c h s) && decide (pl = 0) && decide (wi = 0) && decide (re = 0) && decide (tu = 0))) := hid (by simp [endB])
  go_wp2_with (go_at_call 62; (with_reducible refine (implOver_any _ _ zs ys _ JA1 JA2 HZ.out HY.out).mono ?_); rintro e w2 ⟨rfl, hb⟩; have kB0 := xcell hb kA0; have kB1 := xcell hb kA1; have kB2 := xcell hb kA2; have kB3 := xcell hb kA3; have kB4 := xcell hb kA4; have kB5 := xcell hb kA5; have kB6 := xcell hb kA6; have kB7 := xcell hb kA7; have kB8 := xcell hb kA8; have kB9 := xcell hb kA9; have kB10 := xcell hb kA10; have kB11 := xcell hb kA11; have kB12 := xcell hb kA12)
  have JB1 := JA1.mono hb
  have JB2 := JA2.mono hb
  have BB := xThen BA hb
  clear kA0 kA1 kA2 kA3 kA4 kA5 kA6 kA7 kA8 kA9 kA10 kA11 kA12 JA1 JA2 hb BA
  refine (implStart_any n c h s w2 HV.out (by omega)).mono ?_
  rintro e w3 ⟨u1, u2, rfl, hF, hb⟩
  have kC0 := xcell hb kB0
  have kC1 := xcell hb kB1
  have kC2 := xcell hb kB2
  have kC3 := xcell hb kB3
  have kC4 := xcell hb kB4
  have kC5 := xcell hb kB5
  have kC6 := xcell hb kB6
  have kC7 := xcell hb kB7
  have kC8 := xcell hb kB8
  have kC9 := xcell hb kB9
  have kC10 := xcell hb kB10
  have kC11 := xcell hb kB11
  have kC12 := xcell hb kB12
  obtain ⟨a3, c3, rfl, _⟩ := hF.one.ints
  obtain ⟨a4, c4, rfl, _⟩ := hF.two.ints
  have JC1 := JB1.mono hb
  have JC2 := JB2.mono hb
  have JC3 := hF.one.ints
  have JC4 := hF.two.ints
  have BC := xThen BB hb
  have lC : w.heap.size + 1 < w3.heap.size := cell_block kC4
  clear kB0 kB1 kB2 kB3 kB4 kB5 kB6 kB7 kB8 kB9 kB10 kB11 kB12 JB1 JB2 hb BB hF
  obtain ⟨L, HL⟩ := named (startL n c h s)
  rw [← HL.out] at JC3 JC4 HE ⊢
  go_upto_region 9 with (fail)
  refine wp_named (fun X hX0 => ?_)
  have hX := hid hX0
  clear hX0
  have bX : Below w.heap.size w X := by rw [← hX.out]; (repeat' (first | (with_reducible exact Below.refl _ _) | (with_reducible assumption) | (with_reducible refine xAlloc ?_ _) | (with_reducible refine Below.drew ?_) | (with_reducible refine xDrewN ?_ _) | (with_reducible refine xThen ?_ (by with_reducible assumption)) | (with_reducible refine Below.setCell ?_ (by first | omega | (simp; omega) | simp) _) | exact Below.refl _ _))
  have kX0 : X.cell? ⟨w.heap.size + 1, 0, none⟩ = some (.slice a1 zs.length c1) := by rw [← hX.out]; go_simp
  have kX1 : X.cell? ⟨w.heap.size + 1, 1, none⟩ = some (.slice a2 ys.length c2) := by rw [← hX.out]; go_simp
  have kX2 : X.cell? ⟨w.heap.size + 1, 2, none⟩ = some (.int .i64 pl) := by rw [← hX.out]; go_simp
  have kX3 : X.cell? ⟨w.heap.size + 1, 3, none⟩ = some (.int .i64 a) := by rw [← hX.out]; go_simp
  have kX4 : X.cell? ⟨w.heap.size + 1, 4, none⟩ = some (.int .i64 b) := by rw [← hX.out]; go_simp
  have kX5 : X.cell? ⟨w.heap.size + 1, 5, none⟩ = some (.int .i64 0) := by rw [← hX.out]; go_simp
  have kX6 : X.cell? ⟨w.heap.size + 1, 6, none⟩ = some (.int .i64 wi) := by rw [← hX.out]; go_simp
  have kX7 : X.cell? ⟨w.heap.size + 1, 7, none⟩ = some (.int .i64 re) := by rw [← hX.out]; go_simp
  have kX8 : X.cell? ⟨w.heap.size + 1, 8, none⟩ = some (.int .i64 tu) := by rw [← hX.out]; go_simp
  have kX9 : X.cell? ⟨w3.heap.size, 0, none⟩ = some (.slice a3 L.length c3) := by rw [← hX.out]; go_simp
  have kX10 : X.cell? ⟨w3.heap.size, 1, none⟩ = some (.slice a4 L.length c4) := by rw [← hX.out]; go_simp
  have bx : Below w3.heap.size w3 X := by rw [← hX.out]; exact xAlloc (Below.refl _ _) _
  have JX1 := JC1.mono bx
  have JX2 := JC2.mono bx
  have JX3 := JC3.mono bx
  have JX4 := JC4.mono bx
  clear kC0 kC1 kC2 kC3 kC4 kC5 kC6 kC7 kC8 kC9 kC10 kC11 kC12 hX bx JC1 JC2 JC3 JC4 BC
  by_cases hs : (decide (zs = L) && decide (ys = L)) = true
  all_goals
    have HS := hid hs
    clear hs
    go_wp2_with (go_at_call 108; (with_reducible refine (implSame_any _ _ _ _ zs ys L L _ JX1 JX2 JX3 JX4).mono ?_); (first | rw [HS.out] | rw [Bool.eq_false_iff.2 HS.out]); rintro e w4 ⟨rfl, hb⟩; have kD0 := xcell hb kX0; have kD1 := xcell hb kX1; have kD2 := xcell hb kX2; have kD3 := xcell hb kX3; have kD4 := xcell hb kX4; have kD5 := xcell hb kX5; have kD6 := xcell hb kX6; have kD7 := xcell hb kX7; have kD8 := xcell hb kX8; have kD9 := xcell hb kX9; have kD10 := xcell hb kX10)
    all_goals
      go_ret
      have h9 := HS.out
      exact ⟨ret_bool (by rw [HE.out]; simp_all <;> (rw [Bool.eq_iff_iff]; simp)), by (repeat' (first | (with_reducible exact Below.refl _ _) | (with_reducible assumption) | (with_reducible refine xAlloc ?_ _) | (with_reducible refine Below.drew ?_) | (with_reducible refine xDrewN ?_ _) | (with_reducible refine xThen ?_ (by with_reducible assumption)) | (with_reducible refine Below.setCell ?_ (by first | omega | (simp; omega) | simp) _) | exact Below.refl _ _))⟩

end Go.Proofs.Ytmcjabodkjlkgaa
