/-
  Contract of the reference's test of a game behind its first tests, case by case.
-/
import Derived.Test.YtmcjabodkjlkgaaIsGame
namespace Go.Proofs.Ytmcjabodkjlkgaa
open Go.RowKit

set_option maxRecDepth 100000 in
set_option maxHeartbeats 2000000 in
theorem specGame_a (p c h s : Int) (v1 v2 : Value) (zs ys : List Int) (pl a b wi re tu : Int) (w : World) (I1 : IntsAt w v1 zs) (I2 : IntsAt w v2 ys) (hpre : preB p c h s zs ys pl tu = true) (hr : rollB p c h s a b = false) :
    Calls Try.prog 105 #[.agg #[.int .i64 p, .int .i64 c, .int .i64 h, .int .i64 s], gameV v1 v2 pl a b 2 wi re tu] w fun e w' => e = .returned (.bool (false)) ∧ Below w.heap.size w w' := by
  unfold gameV
  obtain ⟨a1, c1, rfl, _⟩ := id I1
  obtain ⟨a2, c2, rfl, _⟩ := id I2
  obtain ⟨hv, h4, hbd, hpl, htu⟩ := preB_true hpre
  obtain ⟨_, hz0, hy0'⟩ := boardB_true hbd
  have HZ := hid hz0
  have HY := hid hy0'
  clear hpre hz0 hy0'
  go_enter Try.func105, Try.ntmps105
  go_upto_region 3 with (first | (go_at_call 67; (with_reducible refine (specIsVariant_any _ _ _ _ _).mono ?_); rintro e w1 ⟨rfl, hb⟩; obtain ⟨hc, hf⟩ := bcell hb; have hsz := hb.size; (try simp at hsz); (try have hy0 : w.heap.size < w1.heap.size := by omega); (try have hy1 : w.heap.size + 1 < w1.heap.size := by omega); (try have hy2 : w.heap.size + 2 < w1.heap.size := by omega); (try have hyS : ws.heap.size < w1.heap.size := by omega); (try have hyG : wg.heap.size < w1.heap.size := by omega)) | (go_at_call 21; (with_reducible refine (specBoard_any _ _ _ _ _ _ zs ys _ (by (repeat (first | (with_reducible exact IntsAt.made _ _ (by omega) _) | (with_reducible assumption) | (with_reducible refine IntsAt.alloc ?_ _) | (with_reducible refine IntsAt.drew ?_) | (with_reducible refine IntsAt.drewN ?_ _) | (with_reducible refine IntsAt.mono ?_ (by with_reducible assumption))))) (by (repeat (first | (with_reducible exact IntsAt.made _ _ (by omega) _) | (with_reducible assumption) | (with_reducible refine IntsAt.alloc ?_ _) | (with_reducible refine IntsAt.drew ?_) | (with_reducible refine IntsAt.drewN ?_ _) | (with_reducible refine IntsAt.mono ?_ (by with_reducible assumption)))))).mono ?_); rintro e w1 ⟨rfl, hb⟩; obtain ⟨hc, hf⟩ := bcell hb; have hsz := hb.size; (try simp at hsz); (try have hy0 : w.heap.size < w1.heap.size := by omega); (try have hy1 : w.heap.size + 1 < w1.heap.size := by omega); (try have hy2 : w.heap.size + 2 < w1.heap.size := by omega); (try have hyS : ws.heap.size < w1.heap.size := by omega); (try have hyG : wg.heap.size < w1.heap.size := by omega)) | (go_at_call 80; (with_reducible refine (l01In_any _ _ _ _).mono ?_); rintro e w' ⟨rfl, rfl⟩))
  refine wp_named (fun W hW0 => ?_)
  have hW := hid hW0
  clear hW0
  have bW : Below w.heap.size w W := by rw [← hW.out]; (repeat' (first | (with_reducible exact Below.refl _ _) | (with_reducible assumption) | (with_reducible refine xAlloc ?_ _) | (with_reducible refine Below.drew ?_) | (with_reducible refine xDrewN ?_ _) | (with_reducible refine xThen ?_ (by with_reducible assumption)) | (with_reducible refine Below.setCell ?_ (by first | omega | (simp; omega) | simp) _) | exact Below.refl _ _))
  have kW0 : W.cell? ⟨w.heap.size, 0, none⟩ = some (.int .i64 p) := by rw [← hW.out]; go_simp
  have kW1 : W.cell? ⟨w.heap.size, 1, none⟩ = some (.int .i64 c) := by rw [← hW.out]; go_simp
  have kW2 : W.cell? ⟨w.heap.size, 2, none⟩ = some (.int .i64 h) := by rw [← hW.out]; go_simp
  have kW3 : W.cell? ⟨w.heap.size, 3, none⟩ = some (.int .i64 s) := by rw [← hW.out]; go_simp
  have kW4 : W.cell? ⟨w.heap.size + 1, 0, none⟩ = some (.slice a1 zs.length c1) := by rw [← hW.out]; go_simp
  have kW5 : W.cell? ⟨w.heap.size + 1, 1, none⟩ = some (.slice a2 ys.length c2) := by rw [← hW.out]; go_simp
  have kW6 : W.cell? ⟨w.heap.size + 1, 2, none⟩ = some (.int .i64 pl) := by rw [← hW.out]; go_simp
  have kW7 : W.cell? ⟨w.heap.size + 1, 3, none⟩ = some (.int .i64 a) := by rw [← hW.out]; go_simp
  have kW8 : W.cell? ⟨w.heap.size + 1, 4, none⟩ = some (.int .i64 b) := by rw [← hW.out]; go_simp
  have kW9 : W.cell? ⟨w.heap.size + 1, 5, none⟩ = some (.int .i64 2) := by rw [← hW.out]; go_simp
  have kW10 : W.cell? ⟨w.heap.size + 1, 6, none⟩ = some (.int .i64 wi) := by rw [← hW.out]; go_simp
  have kW11 : W.cell? ⟨w.heap.size + 1, 7, none⟩ = some (.int .i64 re) := by rw [← hW.out]; go_simp
  have kW12 : W.cell? ⟨w.heap.size + 1, 8, none⟩ = some (.int .i64 tu) := by rw [← hW.out]; go_simp
  have JW1 := I1.mono bW
  have JW2 := I2.mono bW
  have lW : w.heap.size + 1 < W.heap.size := cell_block kW4
  clear hW
  go_wp2_with (first | (go_at_call 103; (with_reducible refine (specRoll_any _ _ _ _ _ _ _).mono ?_); rintro e w2 ⟨rfl, hb⟩; have kA0 := xcell hb kW0; have kA1 := xcell hb kW1; have kA2 := xcell hb kW2; have kA3 := xcell hb kW3; have kA4 := xcell hb kW4; have kA5 := xcell hb kW5; have kA6 := xcell hb kW6; have kA7 := xcell hb kW7; have kA8 := xcell hb kW8; have kA9 := xcell hb kW9; have kA10 := xcell hb kW10; have kA11 := xcell hb kW11; have kA12 := xcell hb kW12))
  go_ret
  exact ⟨rfl, by (repeat' (first | (with_reducible exact Below.refl _ _) | (with_reducible assumption) | (with_reducible refine xAlloc ?_ _) | (with_reducible refine Below.drew ?_) | (with_reducible refine xDrewN ?_ _) | (with_reducible refine xThen ?_ (by with_reducible assumption)) | (with_reducible refine Below.setCell ?_ (by first | omega | (simp; omega) | simp) _) | exact Below.refl _ _))⟩

set_option maxRecDepth 100000 in
set_option maxHeartbeats 2000000 in
theorem specGame_b1 (p c h s : Int) (v1 v2 : Value) (zs ys : List Int) (pl a b ph wi re tu : Int) (w : World) (I1 : IntsAt w v1 zs) (I2 : IntsAt w v2 ys) (hpre : preB p c h s zs ys pl tu = true) (hz : zeroB a b = false) (hp2 : (ph == 2) = false) :
    Calls Try.prog 105 #[.agg #[.int .i64 p, .int .i64 c, .int .i64 h, .int .i64 s], gameV v1 v2 pl a b ph wi re tu] w fun e w' => e = .returned (.bool (false)) ∧ Below w.heap.size w w' := by
  unfold gameV
  obtain ⟨a1, c1, rfl, _⟩ := id I1
  obtain ⟨a2, c2, rfl, _⟩ := id I2
  obtain ⟨hv, h4, hbd, hpl, htu⟩ := preB_true hpre
  obtain ⟨_, hz0, hy0'⟩ := boardB_true hbd
  have HZ := hid hz0
  have HY := hid hy0'
  clear hpre hz0 hy0'
  have hz' : (a == 0 && b == 0) = false := by simpa [zeroB] using hz
  have hne0 : ∀ u : World, (binOp .neq 42 (.agg #[.int .i64 a, .int .i64 b]) (.agg #[.int .i64 0, .int .i64 0])).run Try.prog u = .ok (.bool true) u := fun u => by rw [neRoll_run, hz']; rfl
  clear hz hz'
  go_enter Try.func105, Try.ntmps105
  go_upto_region 3 with (first | (go_at_call 67; (with_reducible refine (specIsVariant_any _ _ _ _ _).mono ?_); rintro e w1 ⟨rfl, hb⟩; obtain ⟨hc, hf⟩ := bcell hb; have hsz := hb.size; (try simp at hsz); (try have hy0 : w.heap.size < w1.heap.size := by omega); (try have hy1 : w.heap.size + 1 < w1.heap.size := by omega); (try have hy2 : w.heap.size + 2 < w1.heap.size := by omega); (try have hyS : ws.heap.size < w1.heap.size := by omega); (try have hyG : wg.heap.size < w1.heap.size := by omega)) | (go_at_call 21; (with_reducible refine (specBoard_any _ _ _ _ _ _ zs ys _ (by (repeat (first | (with_reducible exact IntsAt.made _ _ (by omega) _) | (with_reducible assumption) | (with_reducible refine IntsAt.alloc ?_ _) | (with_reducible refine IntsAt.drew ?_) | (with_reducible refine IntsAt.drewN ?_ _) | (with_reducible refine IntsAt.mono ?_ (by with_reducible assumption))))) (by (repeat (first | (with_reducible exact IntsAt.made _ _ (by omega) _) | (with_reducible assumption) | (with_reducible refine IntsAt.alloc ?_ _) | (with_reducible refine IntsAt.drew ?_) | (with_reducible refine IntsAt.drewN ?_ _) | (with_reducible refine IntsAt.mono ?_ (by with_reducible assumption)))))).mono ?_); rintro e w1 ⟨rfl, hb⟩; obtain ⟨hc, hf⟩ := bcell hb; have hsz := hb.size; (try simp at hsz); (try have hy0 : w.heap.size < w1.heap.size := by omega); (try have hy1 : w.heap.size + 1 < w1.heap.size := by omega); (try have hy2 : w.heap.size + 2 < w1.heap.size := by omega); (try have hyS : ws.heap.size < w1.heap.size := by omega); (try have hyG : wg.heap.size < w1.heap.size := by omega)) | (go_at_call 80; (with_reducible refine (l01In_any _ _ _ _).mono ?_); rintro e w' ⟨rfl, rfl⟩))
  refine wp_named (fun W hW0 => ?_)
  have hW := hid hW0
  clear hW0
  have bW : Below w.heap.size w W := by rw [← hW.out]; (repeat' (first | (with_reducible exact Below.refl _ _) | (with_reducible assumption) | (with_reducible refine xAlloc ?_ _) | (with_reducible refine Below.drew ?_) | (with_reducible refine xDrewN ?_ _) | (with_reducible refine xThen ?_ (by with_reducible assumption)) | (with_reducible refine Below.setCell ?_ (by first | omega | (simp; omega) | simp) _) | exact Below.refl _ _))
  have kW0 : W.cell? ⟨w.heap.size, 0, none⟩ = some (.int .i64 p) := by rw [← hW.out]; go_simp
  have kW1 : W.cell? ⟨w.heap.size, 1, none⟩ = some (.int .i64 c) := by rw [← hW.out]; go_simp
  have kW2 : W.cell? ⟨w.heap.size, 2, none⟩ = some (.int .i64 h) := by rw [← hW.out]; go_simp
  have kW3 : W.cell? ⟨w.heap.size, 3, none⟩ = some (.int .i64 s) := by rw [← hW.out]; go_simp
  have kW4 : W.cell? ⟨w.heap.size + 1, 0, none⟩ = some (.slice a1 zs.length c1) := by rw [← hW.out]; go_simp
  have kW5 : W.cell? ⟨w.heap.size + 1, 1, none⟩ = some (.slice a2 ys.length c2) := by rw [← hW.out]; go_simp
  have kW6 : W.cell? ⟨w.heap.size + 1, 2, none⟩ = some (.int .i64 pl) := by rw [← hW.out]; go_simp
  have kW7 : W.cell? ⟨w.heap.size + 1, 3, none⟩ = some (.int .i64 a) := by rw [← hW.out]; go_simp
  have kW8 : W.cell? ⟨w.heap.size + 1, 4, none⟩ = some (.int .i64 b) := by rw [← hW.out]; go_simp
  have kW9 : W.cell? ⟨w.heap.size + 1, 5, none⟩ = some (.int .i64 ph) := by rw [← hW.out]; go_simp
  have kW10 : W.cell? ⟨w.heap.size + 1, 6, none⟩ = some (.int .i64 wi) := by rw [← hW.out]; go_simp
  have kW11 : W.cell? ⟨w.heap.size + 1, 7, none⟩ = some (.int .i64 re) := by rw [← hW.out]; go_simp
  have kW12 : W.cell? ⟨w.heap.size + 1, 8, none⟩ = some (.int .i64 tu) := by rw [← hW.out]; go_simp
  have JW1 := I1.mono bW
  have JW2 := I2.mono bW
  have lW : w.heap.size + 1 < W.heap.size := cell_block kW4
  clear hW
  go_wp2
  go_ret
  exact ⟨rfl, by (repeat' (first | (with_reducible exact Below.refl _ _) | (with_reducible assumption) | (with_reducible refine xAlloc ?_ _) | (with_reducible refine Below.drew ?_) | (with_reducible refine xDrewN ?_ _) | (with_reducible refine xThen ?_ (by with_reducible assumption)) | (with_reducible refine Below.setCell ?_ (by first | omega | (simp; omega) | simp) _) | exact Below.refl _ _))⟩

set_option maxRecDepth 100000 in
set_option maxHeartbeats 2000000 in
theorem specGame_c1t (p c h s : Int) (v1 v2 : Value) (zs ys : List Int) (pl a b wi re tu : Int) (w : World) (I1 : IntsAt w v1 zs) (I2 : IntsAt w v2 ys) (hpre : preB p c h s zs ys pl tu = true) (hz : zeroB a b = true) (ho : overB zs ys = true) :
    Calls Try.prog 105 #[.agg #[.int .i64 p, .int .i64 c, .int .i64 h, .int .i64 s], gameV v1 v2 pl a b 1 wi re tu] w fun e w' => e = .returned (.bool (endB p c h s zs ys pl 1 wi re tu)) ∧ Below w.heap.size w w' := by
  unfold gameV
  obtain ⟨a1, c1, rfl, _⟩ := id I1
  obtain ⟨a2, c2, rfl, _⟩ := id I2
  obtain ⟨hv, h4, hbd, hpl, htu⟩ := preB_true hpre
  obtain ⟨_, hz0, hy0'⟩ := boardB_true hbd
  have HZ := hid hz0
  have HY := hid hy0'
  clear hpre hz0 hy0'
  have hz' : (a == 0 && b == 0) = true := by simpa [zeroB] using hz
  have hne0 : ∀ u : World, (binOp .neq 42 (.agg #[.int .i64 a, .int .i64 b]) (.agg #[.int .i64 0, .int .i64 0])).run Try.prog u = .ok (.bool false) u := fun u => by rw [neRoll_run, hz']; rfl
  clear hz hz'
  have HO := hid ho
  clear ho
  go_enter Try.func105, Try.ntmps105
  go_upto_region 3 with (first | (go_at_call 67; (with_reducible refine (specIsVariant_any _ _ _ _ _).mono ?_); rintro e w1 ⟨rfl, hb⟩; obtain ⟨hc, hf⟩ := bcell hb; have hsz := hb.size; (try simp at hsz); (try have hy0 : w.heap.size < w1.heap.size := by omega); (try have hy1 : w.heap.size + 1 < w1.heap.size := by omega); (try have hy2 : w.heap.size + 2 < w1.heap.size := by omega); (try have hyS : ws.heap.size < w1.heap.size := by omega); (try have hyG : wg.heap.size < w1.heap.size := by omega)) | (go_at_call 21; (with_reducible refine (specBoard_any _ _ _ _ _ _ zs ys _ (by (repeat (first | (with_reducible exact IntsAt.made _ _ (by omega) _) | (with_reducible assumption) | (with_reducible refine IntsAt.alloc ?_ _) | (with_reducible refine IntsAt.drew ?_) | (with_reducible refine IntsAt.drewN ?_ _) | (with_reducible refine IntsAt.mono ?_ (by with_reducible assumption))))) (by (repeat (first | (with_reducible exact IntsAt.made _ _ (by omega) _) | (with_reducible assumption) | (with_reducible refine IntsAt.alloc ?_ _) | (with_reducible refine IntsAt.drew ?_) | (with_reducible refine IntsAt.drewN ?_ _) | (with_reducible refine IntsAt.mono ?_ (by with_reducible assumption)))))).mono ?_); rintro e w1 ⟨rfl, hb⟩; obtain ⟨hc, hf⟩ := bcell hb; have hsz := hb.size; (try simp at hsz); (try have hy0 : w.heap.size < w1.heap.size := by omega); (try have hy1 : w.heap.size + 1 < w1.heap.size := by omega); (try have hy2 : w.heap.size + 2 < w1.heap.size := by omega); (try have hyS : ws.heap.size < w1.heap.size := by omega); (try have hyG : wg.heap.size < w1.heap.size := by omega)) | (go_at_call 80; (with_reducible refine (l01In_any _ _ _ _).mono ?_); rintro e w' ⟨rfl, rfl⟩))
  refine wp_named (fun W hW0 => ?_)
  have hW := hid hW0
  clear hW0
  have bW : Below w.heap.size w W := by rw [← hW.out]; (repeat' (first | (with_reducible exact Below.refl _ _) | (with_reducible assumption) | (with_reducible refine xAlloc ?_ _) | (with_reducible refine Below.drew ?_) | (with_reducible refine xDrewN ?_ _) | (with_reducible refine xThen ?_ (by with_reducible assumption)) | (with_reducible refine Below.setCell ?_ (by first | omega | (simp; omega) | simp) _) | exact Below.refl _ _))
  have kW0 : W.cell? ⟨w.heap.size, 0, none⟩ = some (.int .i64 p) := by rw [← hW.out]; go_simp
  have kW1 : W.cell? ⟨w.heap.size, 1, none⟩ = some (.int .i64 c) := by rw [← hW.out]; go_simp
  have kW2 : W.cell? ⟨w.heap.size, 2, none⟩ = some (.int .i64 h) := by rw [← hW.out]; go_simp
  have kW3 : W.cell? ⟨w.heap.size, 3, none⟩ = some (.int .i64 s) := by rw [← hW.out]; go_simp
  have kW4 : W.cell? ⟨w.heap.size + 1, 0, none⟩ = some (.slice a1 zs.length c1) := by rw [← hW.out]; go_simp
  have kW5 : W.cell? ⟨w.heap.size + 1, 1, none⟩ = some (.slice a2 ys.length c2) := by rw [← hW.out]; go_simp
  have kW6 : W.cell? ⟨w.heap.size + 1, 2, none⟩ = some (.int .i64 pl) := by rw [← hW.out]; go_simp
  have kW7 : W.cell? ⟨w.heap.size + 1, 3, none⟩ = some (.int .i64 a) := by rw [← hW.out]; go_simp
  have kW8 : W.cell? ⟨w.heap.size + 1, 4, none⟩ = some (.int .i64 b) := by rw [← hW.out]; go_simp
  have kW9 : W.cell? ⟨w.heap.size + 1, 5, none⟩ = some (.int .i64 1) := by rw [← hW.out]; go_simp
  have kW10 : W.cell? ⟨w.heap.size + 1, 6, none⟩ = some (.int .i64 wi) := by rw [← hW.out]; go_simp
  have kW11 : W.cell? ⟨w.heap.size + 1, 7, none⟩ = some (.int .i64 re) := by rw [← hW.out]; go_simp
  have kW12 : W.cell? ⟨w.heap.size + 1, 8, none⟩ = some (.int .i64 tu) := by rw [← hW.out]; go_simp
  have JW1 := I1.mono bW
  have JW2 := I2.mono bW
  have lW : w.heap.size + 1 < W.heap.size := cell_block kW4
  clear hW
  go_wp2_with (first | (go_at_call 103; (with_reducible refine (specRoll_any _ _ _ _ _ _ _).mono ?_); rintro e w2 ⟨rfl, hb⟩; have kA0 := xcell hb kW0; have kA1 := xcell hb kW1; have kA2 := xcell hb kW2; have kA3 := xcell hb kW3; have kA4 := xcell hb kW4; have kA5 := xcell hb kW5; have kA6 := xcell hb kW6; have kA7 := xcell hb kW7; have kA8 := xcell hb kW8; have kA9 := xcell hb kW9; have kA10 := xcell hb kW10; have kA11 := xcell hb kW11; have kA12 := xcell hb kW12; have JA1 := JW1.mono hb; have JA2 := JW2.mono hb; have BA := xThen bW hb) | (go_at_call 110; (with_reducible refine (specOver_any _ _ zs ys _ (by (repeat (first | (with_reducible exact IntsAt.made _ _ (by omega) _) | (with_reducible assumption) | (with_reducible refine IntsAt.alloc ?_ _) | (with_reducible refine IntsAt.drew ?_) | (with_reducible refine IntsAt.drewN ?_ _) | (with_reducible refine IntsAt.mono ?_ (by with_reducible assumption))))) (by (repeat (first | (with_reducible exact IntsAt.made _ _ (by omega) _) | (with_reducible assumption) | (with_reducible refine IntsAt.alloc ?_ _) | (with_reducible refine IntsAt.drew ?_) | (with_reducible refine IntsAt.drewN ?_ _) | (with_reducible refine IntsAt.mono ?_ (by with_reducible assumption))))) HZ.out HY.out).mono ?_); rw [HO.out]; rintro e w3 ⟨rfl, hb⟩; (first | (have kB0 := xcell hb kA0; have kB1 := xcell hb kA1; have kB2 := xcell hb kA2; have kB3 := xcell hb kA3; have kB4 := xcell hb kA4; have kB5 := xcell hb kA5; have kB6 := xcell hb kA6; have kB7 := xcell hb kA7; have kB8 := xcell hb kA8; have kB9 := xcell hb kA9; have kB10 := xcell hb kA10; have kB11 := xcell hb kA11; have kB12 := xcell hb kA12; have BB := xThen BA hb; have JB1 := JA1.mono hb; have JB2 := JA2.mono hb) | (have kB0 := xcell hb kW0; have kB1 := xcell hb kW1; have kB2 := xcell hb kW2; have kB3 := xcell hb kW3; have kB4 := xcell hb kW4; have kB5 := xcell hb kW5; have kB6 := xcell hb kW6; have kB7 := xcell hb kW7; have kB8 := xcell hb kW8; have kB9 := xcell hb kW9; have kB10 := xcell hb kW10; have kB11 := xcell hb kW11; have kB12 := xcell hb kW12; have BB := xThen bW hb; have JB1 := JW1.mono hb; have JB2 := JW2.mono hb))))
  all_goals
    go_ret
    exact ⟨ret_bool (by simp [endB, HO.out, *] <;> (rw [Bool.eq_iff_iff]; simp)), by (repeat' (first | (with_reducible exact Below.refl _ _) | (with_reducible assumption) | (with_reducible refine xAlloc ?_ _) | (with_reducible refine Below.drew ?_) | (with_reducible refine xDrewN ?_ _) | (with_reducible refine xThen ?_ (by with_reducible assumption)) | (with_reducible refine Below.setCell ?_ (by first | omega | (simp; omega) | simp) _) | exact Below.refl _ _))⟩

set_option maxRecDepth 100000 in
set_option maxHeartbeats 2000000 in
theorem specGame_c1f (p c h s : Int) (v1 v2 : Value) (zs ys : List Int) (pl a b wi re tu : Int) (w : World) (I1 : IntsAt w v1 zs) (I2 : IntsAt w v2 ys) (hpre : preB p c h s zs ys pl tu = true) (hz : zeroB a b = true) (ho : overB zs ys = false) :
    Calls Try.prog 105 #[.agg #[.int .i64 p, .int .i64 c, .int .i64 h, .int .i64 s], gameV v1 v2 pl a b 1 wi re tu] w fun e w' => e = .returned (.bool (endB p c h s zs ys pl 1 wi re tu)) ∧ Below w.heap.size w w' := by
  unfold gameV
  obtain ⟨a1, c1, rfl, _⟩ := id I1
  obtain ⟨a2, c2, rfl, _⟩ := id I2
  obtain ⟨hv, h4, hbd, hpl, htu⟩ := preB_true hpre
  obtain ⟨_, hz0, hy0'⟩ := boardB_true hbd
  have HZ := hid hz0
  have HY := hid hy0'
  clear hpre hz0 hy0'
  have hz' : (a == 0 && b == 0) = true := by simpa [zeroB] using hz
  have hne0 : ∀ u : World, (binOp .neq 42 (.agg #[.int .i64 a, .int .i64 b]) (.agg #[.int .i64 0, .int .i64 0])).run Try.prog u = .ok (.bool false) u := fun u => by rw [neRoll_run, hz']; rfl
  clear hz hz'
  have HO := hid ho
  clear ho
  go_enter Try.func105, Try.ntmps105
  go_upto_region 3 with (first | (go_at_call 67; (with_reducible refine (specIsVariant_any _ _ _ _ _).mono ?_); rintro e w1 ⟨rfl, hb⟩; obtain ⟨hc, hf⟩ := bcell hb; have hsz := hb.size; (try simp at hsz); (try have hy0 : w.heap.size < w1.heap.size := by omega); (try have hy1 : w.heap.size + 1 < w1.heap.size := by omega); (try have hy2 : w.heap.size + 2 < w1.heap.size := by omega); (try have hyS : ws.heap.size < w1.heap.size := by omega); (try have hyG : wg.heap.size < w1.heap.size := by omega)) | (go_at_call 21; (with_reducible refine (specBoard_any _ _ _ _ _ _ zs ys _ (by (repeat (first | (with_reducible exact IntsAt.made _ _ (by omega) _) | (with_reducible assumption) | (with_reducible refine IntsAt.alloc ?_ _) | (with_reducible refine IntsAt.drew ?_) | (with_reducible refine IntsAt.drewN ?_ _) | (with_reducible refine IntsAt.mono ?_ (by with_reducible assumption))))) (by (repeat (first | (with_reducible exact IntsAt.made _ _ (by omega) _) | (with_reducible assumption) | (with_reducible refine IntsAt.alloc ?_ _) | (with_reducible refine IntsAt.drew ?_) | (with_reducible refine IntsAt.drewN ?_ _) | (with_reducible refine IntsAt.mono ?_ (by with_reducible assumption)))))).mono ?_); rintro e w1 ⟨rfl, hb⟩; obtain ⟨hc, hf⟩ := bcell hb; have hsz := hb.size; (try simp at hsz); (try have hy0 : w.heap.size < w1.heap.size := by omega); (try have hy1 : w.heap.size + 1 < w1.heap.size := by omega); (try have hy2 : w.heap.size + 2 < w1.heap.size := by omega); (try have hyS : ws.heap.size < w1.heap.size := by omega); (try have hyG : wg.heap.size < w1.heap.size := by omega)) | (go_at_call 80; (with_reducible refine (l01In_any _ _ _ _).mono ?_); rintro e w' ⟨rfl, rfl⟩))
  refine wp_named (fun W hW0 => ?_)
  have hW := hid hW0
  clear hW0
  have bW : Below w.heap.size w W := by rw [← hW.out]; (repeat' (first | (with_reducible exact Below.refl _ _) | (with_reducible assumption) | (with_reducible refine xAlloc ?_ _) | (with_reducible refine Below.drew ?_) | (with_reducible refine xDrewN ?_ _) | (with_reducible refine xThen ?_ (by with_reducible assumption)) | (with_reducible refine Below.setCell ?_ (by first | omega | (simp; omega) | simp) _) | exact Below.refl _ _))
  have kW0 : W.cell? ⟨w.heap.size, 0, none⟩ = some (.int .i64 p) := by rw [← hW.out]; go_simp
  have kW1 : W.cell? ⟨w.heap.size, 1, none⟩ = some (.int .i64 c) := by rw [← hW.out]; go_simp
  have kW2 : W.cell? ⟨w.heap.size, 2, none⟩ = some (.int .i64 h) := by rw [← hW.out]; go_simp
  have kW3 : W.cell? ⟨w.heap.size, 3, none⟩ = some (.int .i64 s) := by rw [← hW.out]; go_simp
  have kW4 : W.cell? ⟨w.heap.size + 1, 0, none⟩ = some (.slice a1 zs.length c1) := by rw [← hW.out]; go_simp
  have kW5 : W.cell? ⟨w.heap.size + 1, 1, none⟩ = some (.slice a2 ys.length c2) := by rw [← hW.out]; go_simp
  have kW6 : W.cell? ⟨w.heap.size + 1, 2, none⟩ = some (.int .i64 pl) := by rw [← hW.out]; go_simp
  have kW7 : W.cell? ⟨w.heap.size + 1, 3, none⟩ = some (.int .i64 a) := by rw [← hW.out]; go_simp
  have kW8 : W.cell? ⟨w.heap.size + 1, 4, none⟩ = some (.int .i64 b) := by rw [← hW.out]; go_simp
  have kW9 : W.cell? ⟨w.heap.size + 1, 5, none⟩ = some (.int .i64 1) := by rw [← hW.out]; go_simp
  have kW10 : W.cell? ⟨w.heap.size + 1, 6, none⟩ = some (.int .i64 wi) := by rw [← hW.out]; go_simp
  have kW11 : W.cell? ⟨w.heap.size + 1, 7, none⟩ = some (.int .i64 re) := by rw [← hW.out]; go_simp
  have kW12 : W.cell? ⟨w.heap.size + 1, 8, none⟩ = some (.int .i64 tu) := by rw [← hW.out]; go_simp
  have JW1 := I1.mono bW
  have JW2 := I2.mono bW
  have lW : w.heap.size + 1 < W.heap.size := cell_block kW4
  clear hW
  go_wp2_with (first | (go_at_call 103; (with_reducible refine (specRoll_any _ _ _ _ _ _ _).mono ?_); rintro e w2 ⟨rfl, hb⟩; have kA0 := xcell hb kW0; have kA1 := xcell hb kW1; have kA2 := xcell hb kW2; have kA3 := xcell hb kW3; have kA4 := xcell hb kW4; have kA5 := xcell hb kW5; have kA6 := xcell hb kW6; have kA7 := xcell hb kW7; have kA8 := xcell hb kW8; have kA9 := xcell hb kW9; have kA10 := xcell hb kW10; have kA11 := xcell hb kW11; have kA12 := xcell hb kW12; have JA1 := JW1.mono hb; have JA2 := JW2.mono hb; have BA := xThen bW hb) | (go_at_call 110; (with_reducible refine (specOver_any _ _ zs ys _ (by (repeat (first | (with_reducible exact IntsAt.made _ _ (by omega) _) | (with_reducible assumption) | (with_reducible refine IntsAt.alloc ?_ _) | (with_reducible refine IntsAt.drew ?_) | (with_reducible refine IntsAt.drewN ?_ _) | (with_reducible refine IntsAt.mono ?_ (by with_reducible assumption))))) (by (repeat (first | (with_reducible exact IntsAt.made _ _ (by omega) _) | (with_reducible assumption) | (with_reducible refine IntsAt.alloc ?_ _) | (with_reducible refine IntsAt.drew ?_) | (with_reducible refine IntsAt.drewN ?_ _) | (with_reducible refine IntsAt.mono ?_ (by with_reducible assumption))))) HZ.out HY.out).mono ?_); rw [HO.out]; rintro e w3 ⟨rfl, hb⟩; (first | (have kB0 := xcell hb kA0; have kB1 := xcell hb kA1; have kB2 := xcell hb kA2; have kB3 := xcell hb kA3; have kB4 := xcell hb kA4; have kB5 := xcell hb kA5; have kB6 := xcell hb kA6; have kB7 := xcell hb kA7; have kB8 := xcell hb kA8; have kB9 := xcell hb kA9; have kB10 := xcell hb kA10; have kB11 := xcell hb kA11; have kB12 := xcell hb kA12; have BB := xThen BA hb; have JB1 := JA1.mono hb; have JB2 := JA2.mono hb) | (have kB0 := xcell hb kW0; have kB1 := xcell hb kW1; have kB2 := xcell hb kW2; have kB3 := xcell hb kW3; have kB4 := xcell hb kW4; have kB5 := xcell hb kW5; have kB6 := xcell hb kW6; have kB7 := xcell hb kW7; have kB8 := xcell hb kW8; have kB9 := xcell hb kW9; have kB10 := xcell hb kW10; have kB11 := xcell hb kW11; have kB12 := xcell hb kW12; have BB := xThen bW hb; have JB1 := JW1.mono hb; have JB2 := JW2.mono hb))))
  all_goals
    go_ret
    exact ⟨ret_bool (by simp [endB, HO.out, *] <;> (rw [Bool.eq_iff_iff]; simp)), by (repeat' (first | (with_reducible exact Below.refl _ _) | (with_reducible assumption) | (with_reducible refine xAlloc ?_ _) | (with_reducible refine Below.drew ?_) | (with_reducible refine xDrewN ?_ _) | (with_reducible refine xThen ?_ (by with_reducible assumption)) | (with_reducible refine Below.setCell ?_ (by first | omega | (simp; omega) | simp) _) | exact Below.refl _ _))⟩

set_option maxRecDepth 100000 in
set_option maxHeartbeats 2000000 in
theorem specGame_c2t (p c h s : Int) (v1 v2 : Value) (zs ys : List Int) (pl a b wi re tu : Int) (w : World) (I1 : IntsAt w v1 zs) (I2 : IntsAt w v2 ys) (hpre : preB p c h s zs ys pl tu = true) (hr : rollB p c h s a b = true) (ho : overB zs ys = true) :
    Calls Try.prog 105 #[.agg #[.int .i64 p, .int .i64 c, .int .i64 h, .int .i64 s], gameV v1 v2 pl a b 2 wi re tu] w fun e w' => e = .returned (.bool (endB p c h s zs ys pl 2 wi re tu)) ∧ Below w.heap.size w w' := by
  unfold gameV
  obtain ⟨a1, c1, rfl, _⟩ := id I1
  obtain ⟨a2, c2, rfl, _⟩ := id I2
  obtain ⟨hv, h4, hbd, hpl, htu⟩ := preB_true hpre
  obtain ⟨_, hz0, hy0'⟩ := boardB_true hbd
  have HZ := hid hz0
  have HY := hid hy0'
  clear hpre hz0 hy0'
  have HO := hid ho
  clear ho
  go_enter Try.func105, Try.ntmps105
  go_upto_region 3 with (first | (go_at_call 67; (with_reducible refine (specIsVariant_any _ _ _ _ _).mono ?_); rintro e w1 ⟨rfl, hb⟩; obtain ⟨hc, hf⟩ := bcell hb; have hsz := hb.size; (try simp at hsz); (try have hy0 : w.heap.size < w1.heap.size := by omega); (try have hy1 : w.heap.size + 1 < w1.heap.size := by omega); (try have hy2 : w.heap.size + 2 < w1.heap.size := by omega); (try have hyS : ws.heap.size < w1.heap.size := by omega); (try have hyG : wg.heap.size < w1.heap.size := by omega)) | (go_at_call 21; (with_reducible refine (specBoard_any _ _ _ _ _ _ zs ys _ (by (repeat (first | (with_reducible exact IntsAt.made _ _ (by omega) _) | (with_reducible assumption) | (with_reducible refine IntsAt.alloc ?_ _) | (with_reducible refine IntsAt.drew ?_) | (with_reducible refine IntsAt.drewN ?_ _) | (with_reducible refine IntsAt.mono ?_ (by with_reducible assumption))))) (by (repeat (first | (with_reducible exact IntsAt.made _ _ (by omega) _) | (with_reducible assumption) | (with_reducible refine IntsAt.alloc ?_ _) | (with_reducible refine IntsAt.drew ?_) | (with_reducible refine IntsAt.drewN ?_ _) | (with_reducible refine IntsAt.mono ?_ (by with_reducible assumption)))))).mono ?_); rintro e w1 ⟨rfl, hb⟩; obtain ⟨hc, hf⟩ := bcell hb; have hsz := hb.size; (try simp at hsz); (try have hy0 : w.heap.size < w1.heap.size := by omega); (try have hy1 : w.heap.size + 1 < w1.heap.size := by omega); (try have hy2 : w.heap.size + 2 < w1.heap.size := by omega); (try have hyS : ws.heap.size < w1.heap.size := by omega); (try have hyG : wg.heap.size < w1.heap.size := by omega)) | (go_at_call 80; (with_reducible refine (l01In_any _ _ _ _).mono ?_); rintro e w' ⟨rfl, rfl⟩))
  refine wp_named (fun W hW0 => ?_)
  have hW := hid hW0
  clear hW0
  have bW : Below w.heap.size w W := by rw [← hW.out]; (repeat' (first | (with_reducible exact Below.refl _ _) | (with_reducible assumption) | (with_reducible refine xAlloc ?_ _) | (with_reducible refine Below.drew ?_) | (with_reducible refine xDrewN ?_ _) | (with_reducible refine xThen ?_ (by with_reducible assumption)) | (with_reducible refine Below.setCell ?_ (by first | omega | (simp; omega) | simp) _) | exact Below.refl _ _))
  have kW0 : W.cell? ⟨w.heap.size, 0, none⟩ = some (.int .i64 p) := by rw [← hW.out]; go_simp
  have kW1 : W.cell? ⟨w.heap.size, 1, none⟩ = some (.int .i64 c) := by rw [← hW.out]; go_simp
  have kW2 : W.cell? ⟨w.heap.size, 2, none⟩ = some (.int .i64 h) := by rw [← hW.out]; go_simp
  have kW3 : W.cell? ⟨w.heap.size, 3, none⟩ = some (.int .i64 s) := by rw [← hW.out]; go_simp
  have kW4 : W.cell? ⟨w.heap.size + 1, 0, none⟩ = some (.slice a1 zs.length c1) := by rw [← hW.out]; go_simp
  have kW5 : W.cell? ⟨w.heap.size + 1, 1, none⟩ = some (.slice a2 ys.length c2) := by rw [← hW.out]; go_simp
  have kW6 : W.cell? ⟨w.heap.size + 1, 2, none⟩ = some (.int .i64 pl) := by rw [← hW.out]; go_simp
  have kW7 : W.cell? ⟨w.heap.size + 1, 3, none⟩ = some (.int .i64 a) := by rw [← hW.out]; go_simp
  have kW8 : W.cell? ⟨w.heap.size + 1, 4, none⟩ = some (.int .i64 b) := by rw [← hW.out]; go_simp
  have kW9 : W.cell? ⟨w.heap.size + 1, 5, none⟩ = some (.int .i64 2) := by rw [← hW.out]; go_simp
  have kW10 : W.cell? ⟨w.heap.size + 1, 6, none⟩ = some (.int .i64 wi) := by rw [← hW.out]; go_simp
  have kW11 : W.cell? ⟨w.heap.size + 1, 7, none⟩ = some (.int .i64 re) := by rw [← hW.out]; go_simp
  have kW12 : W.cell? ⟨w.heap.size + 1, 8, none⟩ = some (.int .i64 tu) := by rw [← hW.out]; go_simp
  have JW1 := I1.mono bW
  have JW2 := I2.mono bW
  have lW : w.heap.size + 1 < W.heap.size := cell_block kW4
  clear hW
  go_wp2_with (first | (go_at_call 103; (with_reducible refine (specRoll_any _ _ _ _ _ _ _).mono ?_); rintro e w2 ⟨rfl, hb⟩; have kA0 := xcell hb kW0; have kA1 := xcell hb kW1; have kA2 := xcell hb kW2; have kA3 := xcell hb kW3; have kA4 := xcell hb kW4; have kA5 := xcell hb kW5; have kA6 := xcell hb kW6; have kA7 := xcell hb kW7; have kA8 := xcell hb kW8; have kA9 := xcell hb kW9; have kA10 := xcell hb kW10; have kA11 := xcell hb kW11; have kA12 := xcell hb kW12; have JA1 := JW1.mono hb; have JA2 := JW2.mono hb; have BA := xThen bW hb) | (go_at_call 110; (with_reducible refine (specOver_any _ _ zs ys _ (by (repeat (first | (with_reducible exact IntsAt.made _ _ (by omega) _) | (with_reducible assumption) | (with_reducible refine IntsAt.alloc ?_ _) | (with_reducible refine IntsAt.drew ?_) | (with_reducible refine IntsAt.drewN ?_ _) | (with_reducible refine IntsAt.mono ?_ (by with_reducible assumption))))) (by (repeat (first | (with_reducible exact IntsAt.made _ _ (by omega) _) | (with_reducible assumption) | (with_reducible refine IntsAt.alloc ?_ _) | (with_reducible refine IntsAt.drew ?_) | (with_reducible refine IntsAt.drewN ?_ _) | (with_reducible refine IntsAt.mono ?_ (by with_reducible assumption))))) HZ.out HY.out).mono ?_); rw [HO.out]; rintro e w3 ⟨rfl, hb⟩; (first | (have kB0 := xcell hb kA0; have kB1 := xcell hb kA1; have kB2 := xcell hb kA2; have kB3 := xcell hb kA3; have kB4 := xcell hb kA4; have kB5 := xcell hb kA5; have kB6 := xcell hb kA6; have kB7 := xcell hb kA7; have kB8 := xcell hb kA8; have kB9 := xcell hb kA9; have kB10 := xcell hb kA10; have kB11 := xcell hb kA11; have kB12 := xcell hb kA12; have BB := xThen BA hb; have JB1 := JA1.mono hb; have JB2 := JA2.mono hb) | (have kB0 := xcell hb kW0; have kB1 := xcell hb kW1; have kB2 := xcell hb kW2; have kB3 := xcell hb kW3; have kB4 := xcell hb kW4; have kB5 := xcell hb kW5; have kB6 := xcell hb kW6; have kB7 := xcell hb kW7; have kB8 := xcell hb kW8; have kB9 := xcell hb kW9; have kB10 := xcell hb kW10; have kB11 := xcell hb kW11; have kB12 := xcell hb kW12; have BB := xThen bW hb; have JB1 := JW1.mono hb; have JB2 := JW2.mono hb))))
  all_goals
    go_ret
    exact ⟨ret_bool (by simp [endB, HO.out, *] <;> (rw [Bool.eq_iff_iff]; simp)), by (repeat' (first | (with_reducible exact Below.refl _ _) | (with_reducible assumption) | (with_reducible refine xAlloc ?_ _) | (with_reducible refine Below.drew ?_) | (with_reducible refine xDrewN ?_ _) | (with_reducible refine xThen ?_ (by with_reducible assumption)) | (with_reducible refine Below.setCell ?_ (by first | omega | (simp; omega) | simp) _) | exact Below.refl _ _))⟩

set_option maxRecDepth 100000 in
set_option maxHeartbeats 2000000 in
theorem specGame_c2f (p c h s : Int) (v1 v2 : Value) (zs ys : List Int) (pl a b wi re tu : Int) (w : World) (I1 : IntsAt w v1 zs) (I2 : IntsAt w v2 ys) (hpre : preB p c h s zs ys pl tu = true) (hr : rollB p c h s a b = true) (ho : overB zs ys = false) :
    Calls Try.prog 105 #[.agg #[.int .i64 p, .int .i64 c, .int .i64 h, .int .i64 s], gameV v1 v2 pl a b 2 wi re tu] w fun e w' => e = .returned (.bool (endB p c h s zs ys pl 2 wi re tu)) ∧ Below w.heap.size w w' := by
  unfold gameV
  obtain ⟨a1, c1, rfl, _⟩ := id I1
  obtain ⟨a2, c2, rfl, _⟩ := id I2
  obtain ⟨hv, h4, hbd, hpl, htu⟩ := preB_true hpre
  obtain ⟨_, hz0, hy0'⟩ := boardB_true hbd
  have HZ := hid hz0
  have HY := hid hy0'
  clear hpre hz0 hy0'
  have HO := hid ho
  clear ho
  go_enter Try.func105, Try.ntmps105
  go_upto_region 3 with (first | (go_at_call 67; (with_reducible refine (specIsVariant_any _ _ _ _ _).mono ?_); rintro e w1 ⟨rfl, hb⟩; obtain ⟨hc, hf⟩ := bcell hb; have hsz := hb.size; (try simp at hsz); (try have hy0 : w.heap.size < w1.heap.size := by omega); (try have hy1 : w.heap.size + 1 < w1.heap.size := by omega); (try have hy2 : w.heap.size + 2 < w1.heap.size := by omega); (try have hyS : ws.heap.size < w1.heap.size := by omega); (try have hyG : wg.heap.size < w1.heap.size := by omega)) | (go_at_call 21; (with_reducible refine (specBoard_any _ _ _ _ _ _ zs ys _ (by (repeat (first | (with_reducible exact IntsAt.made _ _ (by omega) _) | (with_reducible assumption) | (with_reducible refine IntsAt.alloc ?_ _) | (with_reducible refine IntsAt.drew ?_) | (with_reducible refine IntsAt.drewN ?_ _) | (with_reducible refine IntsAt.mono ?_ (by with_reducible assumption))))) (by (repeat (first | (with_reducible exact IntsAt.made _ _ (by omega) _) | (with_reducible assumption) | (with_reducible refine IntsAt.alloc ?_ _) | (with_reducible refine IntsAt.drew ?_) | (with_reducible refine IntsAt.drewN ?_ _) | (with_reducible refine IntsAt.mono ?_ (by with_reducible assumption)))))).mono ?_); rintro e w1 ⟨rfl, hb⟩; obtain ⟨hc, hf⟩ := bcell hb; have hsz := hb.size; (try simp at hsz); (try have hy0 : w.heap.size < w1.heap.size := by omega); (try have hy1 : w.heap.size + 1 < w1.heap.size := by omega); (try have hy2 : w.heap.size + 2 < w1.heap.size := by omega); (try have hyS : ws.heap.size < w1.heap.size := by omega); (try have hyG : wg.heap.size < w1.heap.size := by omega)) | (go_at_call 80; (with_reducible refine (l01In_any _ _ _ _).mono ?_); rintro e w' ⟨rfl, rfl⟩))
  refine wp_named (fun W hW0 => ?_)
  have hW := hid hW0
  clear hW0
  have bW : Below w.heap.size w W := by rw [← hW.out]; (repeat' (first | (with_reducible exact Below.refl _ _) | (with_reducible assumption) | (with_reducible refine xAlloc ?_ _) | (with_reducible refine Below.drew ?_) | (with_reducible refine xDrewN ?_ _) | (with_reducible refine xThen ?_ (by with_reducible assumption)) | (with_reducible refine Below.setCell ?_ (by first | omega | (simp; omega) | simp) _) | exact Below.refl _ _))
  have kW0 : W.cell? ⟨w.heap.size, 0, none⟩ = some (.int .i64 p) := by rw [← hW.out]; go_simp
  have kW1 : W.cell? ⟨w.heap.size, 1, none⟩ = some (.int .i64 c) := by rw [← hW.out]; go_simp
  have kW2 : W.cell? ⟨w.heap.size, 2, none⟩ = some (.int .i64 h) := by rw [← hW.out]; go_simp
  have kW3 : W.cell? ⟨w.heap.size, 3, none⟩ = some (.int .i64 s) := by rw [← hW.out]; go_simp
  have kW4 : W.cell? ⟨w.heap.size + 1, 0, none⟩ = some (.slice a1 zs.length c1) := by rw [← hW.out]; go_simp
  have kW5 : W.cell? ⟨w.heap.size + 1, 1, none⟩ = some (.slice a2 ys.length c2) := by rw [← hW.out]; go_simp
  have kW6 : W.cell? ⟨w.heap.size + 1, 2, none⟩ = some (.int .i64 pl) := by rw [← hW.out]; go_simp
  have kW7 : W.cell? ⟨w.heap.size + 1, 3, none⟩ = some (.int .i64 a) := by rw [← hW.out]; go_simp
  have kW8 : W.cell? ⟨w.heap.size + 1, 4, none⟩ = some (.int .i64 b) := by rw [← hW.out]; go_simp
  have kW9 : W.cell? ⟨w.heap.size + 1, 5, none⟩ = some (.int .i64 2) := by rw [← hW.out]; go_simp
  have kW10 : W.cell? ⟨w.heap.size + 1, 6, none⟩ = some (.int .i64 wi) := by rw [← hW.out]; go_simp
  have kW11 : W.cell? ⟨w.heap.size + 1, 7, none⟩ = some (.int .i64 re) := by rw [← hW.out]; go_simp
  have kW12 : W.cell? ⟨w.heap.size + 1, 8, none⟩ = some (.int .i64 tu) := by rw [← hW.out]; go_simp
  have JW1 := I1.mono bW
  have JW2 := I2.mono bW
  have lW : w.heap.size + 1 < W.heap.size := cell_block kW4
  clear hW
  go_wp2_with (first | (go_at_call 103; (with_reducible refine (specRoll_any _ _ _ _ _ _ _).mono ?_); rintro e w2 ⟨rfl, hb⟩; have kA0 := xcell hb kW0; have kA1 := xcell hb kW1; have kA2 := xcell hb kW2; have kA3 := xcell hb kW3; have kA4 := xcell hb kW4; have kA5 := xcell hb kW5; have kA6 := xcell hb kW6; have kA7 := xcell hb kW7; have kA8 := xcell hb kW8; have kA9 := xcell hb kW9; have kA10 := xcell hb kW10; have kA11 := xcell hb kW11; have kA12 := xcell hb kW12; have JA1 := JW1.mono hb; have JA2 := JW2.mono hb; have BA := xThen bW hb) | (go_at_call 110; (with_reducible refine (specOver_any _ _ zs ys _ (by (repeat (first | (with_reducible exact IntsAt.made _ _ (by omega) _) | (with_reducible assumption) | (with_reducible refine IntsAt.alloc ?_ _) | (with_reducible refine IntsAt.drew ?_) | (with_reducible refine IntsAt.drewN ?_ _) | (with_reducible refine IntsAt.mono ?_ (by with_reducible assumption))))) (by (repeat (first | (with_reducible exact IntsAt.made _ _ (by omega) _) | (with_reducible assumption) | (with_reducible refine IntsAt.alloc ?_ _) | (with_reducible refine IntsAt.drew ?_) | (with_reducible refine IntsAt.drewN ?_ _) | (with_reducible refine IntsAt.mono ?_ (by with_reducible assumption))))) HZ.out HY.out).mono ?_); rw [HO.out]; rintro e w3 ⟨rfl, hb⟩; (first | (have kB0 := xcell hb kA0; have kB1 := xcell hb kA1; have kB2 := xcell hb kA2; have kB3 := xcell hb kA3; have kB4 := xcell hb kA4; have kB5 := xcell hb kA5; have kB6 := xcell hb kA6; have kB7 := xcell hb kA7; have kB8 := xcell hb kA8; have kB9 := xcell hb kA9; have kB10 := xcell hb kA10; have kB11 := xcell hb kA11; have kB12 := xcell hb kA12; have BB := xThen BA hb; have JB1 := JA1.mono hb; have JB2 := JA2.mono hb) | (have kB0 := xcell hb kW0; have kB1 := xcell hb kW1; have kB2 := xcell hb kW2; have kB3 := xcell hb kW3; have kB4 := xcell hb kW4; have kB5 := xcell hb kW5; have kB6 := xcell hb kW6; have kB7 := xcell hb kW7; have kB8 := xcell hb kW8; have kB9 := xcell hb kW9; have kB10 := xcell hb kW10; have kB11 := xcell hb kW11; have kB12 := xcell hb kW12; have BB := xThen bW hb; have JB1 := JW1.mono hb; have JB2 := JW2.mono hb))))
  all_goals
    go_ret
    exact ⟨ret_bool (by simp [endB, HO.out, *] <;> (rw [Bool.eq_iff_iff]; simp)), by (repeat' (first | (with_reducible exact Below.refl _ _) | (with_reducible assumption) | (with_reducible refine xAlloc ?_ _) | (with_reducible refine Below.drew ?_) | (with_reducible refine xDrewN ?_ _) | (with_reducible refine xThen ?_ (by with_reducible assumption)) | (with_reducible refine Below.setCell ?_ (by first | omega | (simp; omega) | simp) _) | exact Below.refl _ _))⟩

set_option maxRecDepth 100000 in
set_option maxHeartbeats 2000000 in
theorem specGame_c4t (p c h s : Int) (v1 v2 : Value) (zs ys : List Int) (pl a b ph wi re tu : Int) (w : World) (I1 : IntsAt w v1 zs) (I2 : IntsAt w v2 ys) (hpre : preB p c h s zs ys pl tu = true) (hz : zeroB a b = true) (hp0 : (ph == 0) = false) (hp1 : (ph == 1) = false) (hp2 : (ph == 2) = false) (hp3 : (ph == 3) = false) (ho : overB zs ys = true) :
    Calls Try.prog 105 #[.agg #[.int .i64 p, .int .i64 c, .int .i64 h, .int .i64 s], gameV v1 v2 pl a b ph wi re tu] w fun e w' => e = .returned (.bool (false)) ∧ Below w.heap.size w w' := by
  unfold gameV
  obtain ⟨a1, c1, rfl, _⟩ := id I1
  obtain ⟨a2, c2, rfl, _⟩ := id I2
  obtain ⟨hv, h4, hbd, hpl, htu⟩ := preB_true hpre
  obtain ⟨_, hz0, hy0'⟩ := boardB_true hbd
  have HZ := hid hz0
  have HY := hid hy0'
  clear hpre hz0 hy0'
  have hz' : (a == 0 && b == 0) = true := by simpa [zeroB] using hz
  have hne0 : ∀ u : World, (binOp .neq 42 (.agg #[.int .i64 a, .int .i64 b]) (.agg #[.int .i64 0, .int .i64 0])).run Try.prog u = .ok (.bool false) u := fun u => by rw [neRoll_run, hz']; rfl
  clear hz hz'
  have HO := hid ho
  clear ho
  go_enter Try.func105, Try.ntmps105
  go_upto_region 3 with (first | (go_at_call 67; (with_reducible refine (specIsVariant_any _ _ _ _ _).mono ?_); rintro e w1 ⟨rfl, hb⟩; obtain ⟨hc, hf⟩ := bcell hb; have hsz := hb.size; (try simp at hsz); (try have hy0 : w.heap.size < w1.heap.size := by omega); (try have hy1 : w.heap.size + 1 < w1.heap.size := by omega); (try have hy2 : w.heap.size + 2 < w1.heap.size := by omega); (try have hyS : ws.heap.size < w1.heap.size := by omega); (try have hyG : wg.heap.size < w1.heap.size := by omega)) | (go_at_call 21; (with_reducible refine (specBoard_any _ _ _ _ _ _ zs ys _ (by (repeat (first | (with_reducible exact IntsAt.made _ _ (by omega) _) | (with_reducible assumption) | (with_reducible refine IntsAt.alloc ?_ _) | (with_reducible refine IntsAt.drew ?_) | (with_reducible refine IntsAt.drewN ?_ _) | (with_reducible refine IntsAt.mono ?_ (by with_reducible assumption))))) (by (repeat (first | (with_reducible exact IntsAt.made _ _ (by omega) _) | (with_reducible assumption) | (with_reducible refine IntsAt.alloc ?_ _) | (with_reducible refine IntsAt.drew ?_) | (with_reducible refine IntsAt.drewN ?_ _) | (with_reducible refine IntsAt.mono ?_ (by with_reducible assumption)))))).mono ?_); rintro e w1 ⟨rfl, hb⟩; obtain ⟨hc, hf⟩ := bcell hb; have hsz := hb.size; (try simp at hsz); (try have hy0 : w.heap.size < w1.heap.size := by omega); (try have hy1 : w.heap.size + 1 < w1.heap.size := by omega); (try have hy2 : w.heap.size + 2 < w1.heap.size := by omega); (try have hyS : ws.heap.size < w1.heap.size := by omega); (try have hyG : wg.heap.size < w1.heap.size := by omega)) | (go_at_call 80; (with_reducible refine (l01In_any _ _ _ _).mono ?_); rintro e w' ⟨rfl, rfl⟩))
  refine wp_named (fun W hW0 => ?_)
  have hW := hid hW0
  clear hW0
  have bW : Below w.heap.size w W := by rw [← hW.out]; (repeat' (first | (with_reducible exact Below.refl _ _) | (with_reducible assumption) | (with_reducible refine xAlloc ?_ _) | (with_reducible refine Below.drew ?_) | (with_reducible refine xDrewN ?_ _) | (with_reducible refine xThen ?_ (by with_reducible assumption)) | (with_reducible refine Below.setCell ?_ (by first | omega | (simp; omega) | simp) _) | exact Below.refl _ _))
  have kW0 : W.cell? ⟨w.heap.size, 0, none⟩ = some (.int .i64 p) := by rw [← hW.out]; go_simp
  have kW1 : W.cell? ⟨w.heap.size, 1, none⟩ = some (.int .i64 c) := by rw [← hW.out]; go_simp
  have kW2 : W.cell? ⟨w.heap.size, 2, none⟩ = some (.int .i64 h) := by rw [← hW.out]; go_simp
  have kW3 : W.cell? ⟨w.heap.size, 3, none⟩ = some (.int .i64 s) := by rw [← hW.out]; go_simp
  have kW4 : W.cell? ⟨w.heap.size + 1, 0, none⟩ = some (.slice a1 zs.length c1) := by rw [← hW.out]; go_simp
  have kW5 : W.cell? ⟨w.heap.size + 1, 1, none⟩ = some (.slice a2 ys.length c2) := by rw [← hW.out]; go_simp
  have kW6 : W.cell? ⟨w.heap.size + 1, 2, none⟩ = some (.int .i64 pl) := by rw [← hW.out]; go_simp
  have kW7 : W.cell? ⟨w.heap.size + 1, 3, none⟩ = some (.int .i64 a) := by rw [← hW.out]; go_simp
  have kW8 : W.cell? ⟨w.heap.size + 1, 4, none⟩ = some (.int .i64 b) := by rw [← hW.out]; go_simp
  have kW9 : W.cell? ⟨w.heap.size + 1, 5, none⟩ = some (.int .i64 ph) := by rw [← hW.out]; go_simp
  have kW10 : W.cell? ⟨w.heap.size + 1, 6, none⟩ = some (.int .i64 wi) := by rw [← hW.out]; go_simp
  have kW11 : W.cell? ⟨w.heap.size + 1, 7, none⟩ = some (.int .i64 re) := by rw [← hW.out]; go_simp
  have kW12 : W.cell? ⟨w.heap.size + 1, 8, none⟩ = some (.int .i64 tu) := by rw [← hW.out]; go_simp
  have JW1 := I1.mono bW
  have JW2 := I2.mono bW
  have lW : w.heap.size + 1 < W.heap.size := cell_block kW4
  clear hW
  go_wp2_with (first | (go_at_call 103; (with_reducible refine (specRoll_any _ _ _ _ _ _ _).mono ?_); rintro e w2 ⟨rfl, hb⟩; have kA0 := xcell hb kW0; have kA1 := xcell hb kW1; have kA2 := xcell hb kW2; have kA3 := xcell hb kW3; have kA4 := xcell hb kW4; have kA5 := xcell hb kW5; have kA6 := xcell hb kW6; have kA7 := xcell hb kW7; have kA8 := xcell hb kW8; have kA9 := xcell hb kW9; have kA10 := xcell hb kW10; have kA11 := xcell hb kW11; have kA12 := xcell hb kW12; have JA1 := JW1.mono hb; have JA2 := JW2.mono hb; have BA := xThen bW hb) | (go_at_call 110; (with_reducible refine (specOver_any _ _ zs ys _ (by (repeat (first | (with_reducible exact IntsAt.made _ _ (by omega) _) | (with_reducible assumption) | (with_reducible refine IntsAt.alloc ?_ _) | (with_reducible refine IntsAt.drew ?_) | (with_reducible refine IntsAt.drewN ?_ _) | (with_reducible refine IntsAt.mono ?_ (by with_reducible assumption))))) (by (repeat (first | (with_reducible exact IntsAt.made _ _ (by omega) _) | (with_reducible assumption) | (with_reducible refine IntsAt.alloc ?_ _) | (with_reducible refine IntsAt.drew ?_) | (with_reducible refine IntsAt.drewN ?_ _) | (with_reducible refine IntsAt.mono ?_ (by with_reducible assumption))))) HZ.out HY.out).mono ?_); rw [HO.out]; rintro e w3 ⟨rfl, hb⟩; (first | (have kB0 := xcell hb kA0; have kB1 := xcell hb kA1; have kB2 := xcell hb kA2; have kB3 := xcell hb kA3; have kB4 := xcell hb kA4; have kB5 := xcell hb kA5; have kB6 := xcell hb kA6; have kB7 := xcell hb kA7; have kB8 := xcell hb kA8; have kB9 := xcell hb kA9; have kB10 := xcell hb kA10; have kB11 := xcell hb kA11; have kB12 := xcell hb kA12; have BB := xThen BA hb; have JB1 := JA1.mono hb; have JB2 := JA2.mono hb) | (have kB0 := xcell hb kW0; have kB1 := xcell hb kW1; have kB2 := xcell hb kW2; have kB3 := xcell hb kW3; have kB4 := xcell hb kW4; have kB5 := xcell hb kW5; have kB6 := xcell hb kW6; have kB7 := xcell hb kW7; have kB8 := xcell hb kW8; have kB9 := xcell hb kW9; have kB10 := xcell hb kW10; have kB11 := xcell hb kW11; have kB12 := xcell hb kW12; have BB := xThen bW hb; have JB1 := JW1.mono hb; have JB2 := JW2.mono hb))))
  go_ret
  exact ⟨rfl, by (repeat' (first | (with_reducible exact Below.refl _ _) | (with_reducible assumption) | (with_reducible refine xAlloc ?_ _) | (with_reducible refine Below.drew ?_) | (with_reducible refine xDrewN ?_ _) | (with_reducible refine xThen ?_ (by with_reducible assumption)) | (with_reducible refine Below.setCell ?_ (by first | omega | (simp; omega) | simp) _) | exact Below.refl _ _))⟩

set_option maxRecDepth 100000 in
set_option maxHeartbeats 2000000 in
theorem specGame_c4f (p c h s : Int) (v1 v2 : Value) (zs ys : List Int) (pl a b ph wi re tu : Int) (w : World) (I1 : IntsAt w v1 zs) (I2 : IntsAt w v2 ys) (hpre : preB p c h s zs ys pl tu = true) (hz : zeroB a b = true) (hp0 : (ph == 0) = false) (hp1 : (ph == 1) = false) (hp2 : (ph == 2) = false) (hp3 : (ph == 3) = false) (ho : overB zs ys = false) :
    Calls Try.prog 105 #[.agg #[.int .i64 p, .int .i64 c, .int .i64 h, .int .i64 s], gameV v1 v2 pl a b ph wi re tu] w fun e w' => e = .returned (.bool (false)) ∧ Below w.heap.size w w' := by
  unfold gameV
  obtain ⟨a1, c1, rfl, _⟩ := id I1
  obtain ⟨a2, c2, rfl, _⟩ := id I2
  obtain ⟨hv, h4, hbd, hpl, htu⟩ := preB_true hpre
  obtain ⟨_, hz0, hy0'⟩ := boardB_true hbd
  have HZ := hid hz0
  have HY := hid hy0'
  clear hpre hz0 hy0'
  have hz' : (a == 0 && b == 0) = true := by simpa [zeroB] using hz
  have hne0 : ∀ u : World, (binOp .neq 42 (.agg #[.int .i64 a, .int .i64 b]) (.agg #[.int .i64 0, .int .i64 0])).run Try.prog u = .ok (.bool false) u := fun u => by rw [neRoll_run, hz']; rfl
  clear hz hz'
  have HO := hid ho
  clear ho
  go_enter Try.func105, Try.ntmps105
  go_upto_region 3 with (first | (go_at_call 67; (with_reducible refine (specIsVariant_any _ _ _ _ _).mono ?_); rintro e w1 ⟨rfl, hb⟩; obtain ⟨hc, hf⟩ := bcell hb; have hsz := hb.size; (try simp at hsz); (try have hy0 : w.heap.size < w1.heap.size := by omega); (try have hy1 : w.heap.size + 1 < w1.heap.size := by omega); (try have hy2 : w.heap.size + 2 < w1.heap.size := by omega); (try have hyS : ws.heap.size < w1.heap.size := by omega); (try have hyG : wg.heap.size < w1.heap.size := by omega)) | (go_at_call 21; (with_reducible refine (specBoard_any _ _ _ _ _ _ zs ys _ (by (repeat (first | (with_reducible exact IntsAt.made _ _ (by omega) _) | (with_reducible assumption) | (with_reducible refine IntsAt.alloc ?_ _) | (with_reducible refine IntsAt.drew ?_) | (with_reducible refine IntsAt.drewN ?_ _) | (with_reducible refine IntsAt.mono ?_ (by with_reducible assumption))))) (by (repeat (first | (with_reducible exact IntsAt.made _ _ (by omega) _) | (with_reducible assumption) | (with_reducible refine IntsAt.alloc ?_ _) | (with_reducible refine IntsAt.drew ?_) | (with_reducible refine IntsAt.drewN ?_ _) | (with_reducible refine IntsAt.mono ?_ (by with_reducible assumption)))))).mono ?_); rintro e w1 ⟨rfl, hb⟩; obtain ⟨hc, hf⟩ := bcell hb; have hsz := hb.size; (try simp at hsz); (try have hy0 : w.heap.size < w1.heap.size := by omega); (try have hy1 : w.heap.size + 1 < w1.heap.size := by omega); (try have hy2 : w.heap.size + 2 < w1.heap.size := by omega); (try have hyS : ws.heap.size < w1.heap.size := by omega); (try have hyG : wg.heap.size < w1.heap.size := by omega)) | (go_at_call 80; (with_reducible refine (l01In_any _ _ _ _).mono ?_); rintro e w' ⟨rfl, rfl⟩))
  refine wp_named (fun W hW0 => ?_)
  have hW := hid hW0
  clear hW0
  have bW : Below w.heap.size w W := by rw [← hW.out]; (repeat' (first | (with_reducible exact Below.refl _ _) | (with_reducible assumption) | (with_reducible refine xAlloc ?_ _) | (with_reducible refine Below.drew ?_) | (with_reducible refine xDrewN ?_ _) | (with_reducible refine xThen ?_ (by with_reducible assumption)) | (with_reducible refine Below.setCell ?_ (by first | omega | (simp; omega) | simp) _) | exact Below.refl _ _))
  have kW0 : W.cell? ⟨w.heap.size, 0, none⟩ = some (.int .i64 p) := by rw [← hW.out]; go_simp
  have kW1 : W.cell? ⟨w.heap.size, 1, none⟩ = some (.int .i64 c) := by rw [← hW.out]; go_simp
  have kW2 : W.cell? ⟨w.heap.size, 2, none⟩ = some (.int .i64 h) := by rw [← hW.out]; go_simp
  have kW3 : W.cell? ⟨w.heap.size, 3, none⟩ = some (.int .i64 s) := by rw [← hW.out]; go_simp
  have kW4 : W.cell? ⟨w.heap.size + 1, 0, none⟩ = some (.slice a1 zs.length c1) := by rw [← hW.out]; go_simp
  have kW5 : W.cell? ⟨w.heap.size + 1, 1, none⟩ = some (.slice a2 ys.length c2) := by rw [← hW.out]; go_simp
  have kW6 : W.cell? ⟨w.heap.size + 1, 2, none⟩ = some (.int .i64 pl) := by rw [← hW.out]; go_simp
  have kW7 : W.cell? ⟨w.heap.size + 1, 3, none⟩ = some (.int .i64 a) := by rw [← hW.out]; go_simp
  have kW8 : W.cell? ⟨w.heap.size + 1, 4, none⟩ = some (.int .i64 b) := by rw [← hW.out]; go_simp
  have kW9 : W.cell? ⟨w.heap.size + 1, 5, none⟩ = some (.int .i64 ph) := by rw [← hW.out]; go_simp
  have kW10 : W.cell? ⟨w.heap.size + 1, 6, none⟩ = some (.int .i64 wi) := by rw [← hW.out]; go_simp
  have kW11 : W.cell? ⟨w.heap.size + 1, 7, none⟩ = some (.int .i64 re) := by rw [← hW.out]; go_simp
  have kW12 : W.cell? ⟨w.heap.size + 1, 8, none⟩ = some (.int .i64 tu) := by rw [← hW.out]; go_simp
  have JW1 := I1.mono bW
  have JW2 := I2.mono bW
  have lW : w.heap.size + 1 < W.heap.size := cell_block kW4
  clear hW
  go_wp2_with (first | (go_at_call 103; (with_reducible refine (specRoll_any _ _ _ _ _ _ _).mono ?_); rintro e w2 ⟨rfl, hb⟩; have kA0 := xcell hb kW0; have kA1 := xcell hb kW1; have kA2 := xcell hb kW2; have kA3 := xcell hb kW3; have kA4 := xcell hb kW4; have kA5 := xcell hb kW5; have kA6 := xcell hb kW6; have kA7 := xcell hb kW7; have kA8 := xcell hb kW8; have kA9 := xcell hb kW9; have kA10 := xcell hb kW10; have kA11 := xcell hb kW11; have kA12 := xcell hb kW12; have JA1 := JW1.mono hb; have JA2 := JW2.mono hb; have BA := xThen bW hb) | (go_at_call 110; (with_reducible refine (specOver_any _ _ zs ys _ (by (repeat (first | (with_reducible exact IntsAt.made _ _ (by omega) _) | (with_reducible assumption) | (with_reducible refine IntsAt.alloc ?_ _) | (with_reducible refine IntsAt.drew ?_) | (with_reducible refine IntsAt.drewN ?_ _) | (with_reducible refine IntsAt.mono ?_ (by with_reducible assumption))))) (by (repeat (first | (with_reducible exact IntsAt.made _ _ (by omega) _) | (with_reducible assumption) | (with_reducible refine IntsAt.alloc ?_ _) | (with_reducible refine IntsAt.drew ?_) | (with_reducible refine IntsAt.drewN ?_ _) | (with_reducible refine IntsAt.mono ?_ (by with_reducible assumption))))) HZ.out HY.out).mono ?_); rw [HO.out]; rintro e w3 ⟨rfl, hb⟩; (first | (have kB0 := xcell hb kA0; have kB1 := xcell hb kA1; have kB2 := xcell hb kA2; have kB3 := xcell hb kA3; have kB4 := xcell hb kA4; have kB5 := xcell hb kA5; have kB6 := xcell hb kA6; have kB7 := xcell hb kA7; have kB8 := xcell hb kA8; have kB9 := xcell hb kA9; have kB10 := xcell hb kA10; have kB11 := xcell hb kA11; have kB12 := xcell hb kA12; have BB := xThen BA hb; have JB1 := JA1.mono hb; have JB2 := JA2.mono hb) | (have kB0 := xcell hb kW0; have kB1 := xcell hb kW1; have kB2 := xcell hb kW2; have kB3 := xcell hb kW3; have kB4 := xcell hb kW4; have kB5 := xcell hb kW5; have kB6 := xcell hb kW6; have kB7 := xcell hb kW7; have kB8 := xcell hb kW8; have kB9 := xcell hb kW9; have kB10 := xcell hb kW10; have kB11 := xcell hb kW11; have kB12 := xcell hb kW12; have BB := xThen bW hb; have JB1 := JW1.mono hb; have JB2 := JW2.mono hb))))
  go_ret
  exact ⟨rfl, by (repeat' (first | (with_reducible exact Below.refl _ _) | (with_reducible assumption) | (with_reducible refine xAlloc ?_ _) | (with_reducible refine Below.drew ?_) | (with_reducible refine xDrewN ?_ _) | (with_reducible refine xThen ?_ (by with_reducible assumption)) | (with_reducible refine Below.setCell ?_ (by first | omega | (simp; omega) | simp) _) | exact Below.refl _ _))⟩

set_option maxRecDepth 100000 in
set_option maxHeartbeats 2000000 in
theorem specGame_c3a (p c h s : Int) (v1 v2 : Value) (zs ys : List Int) (pl a b wi re tu : Int) (w : World) (I1 : IntsAt w v1 zs) (I2 : IntsAt w v2 ys) (hpre : preB p c h s zs ys pl tu = true) (hz : zeroB a b = true) (ho : overB zs ys = true) (hs : (((sumN zs zs.length : Nat) : Int) == 0) = false) :
    Calls Try.prog 105 #[.agg #[.int .i64 p, .int .i64 c, .int .i64 h, .int .i64 s], gameV v1 v2 pl a b 3 wi re tu] w fun e w' => e = .returned (.bool (false)) ∧ Below w.heap.size w w' := by
  unfold gameV
  obtain ⟨a1, c1, rfl, _⟩ := id I1
  obtain ⟨a2, c2, rfl, _⟩ := id I2
  obtain ⟨hv, h4, hbd, hpl, htu⟩ := preB_true hpre
  obtain ⟨_, hz0, hy0'⟩ := boardB_true hbd
  have HZ := hid hz0
  have HY := hid hy0'
  clear hpre hz0 hy0'
  have hz' : (a == 0 && b == 0) = true := by simpa [zeroB] using hz
  have hne0 : ∀ u : World, (binOp .neq 42 (.agg #[.int .i64 a, .int .i64 b]) (.agg #[.int .i64 0, .int .i64 0])).run Try.prog u = .ok (.bool false) u := fun u => by rw [neRoll_run, hz']; rfl
  clear hz hz'
  have HO := hid ho
  clear ho
  have hvr := varB_true hv
  go_enter Try.func105, Try.ntmps105
  go_upto_region 3 with (first | (go_at_call 67; (with_reducible refine (specIsVariant_any _ _ _ _ _).mono ?_); rintro e w1 ⟨rfl, hb⟩; obtain ⟨hc, hf⟩ := bcell hb; have hsz := hb.size; (try simp at hsz); (try have hy0 : w.heap.size < w1.heap.size := by omega); (try have hy1 : w.heap.size + 1 < w1.heap.size := by omega); (try have hy2 : w.heap.size + 2 < w1.heap.size := by omega); (try have hyS : ws.heap.size < w1.heap.size := by omega); (try have hyG : wg.heap.size < w1.heap.size := by omega)) | (go_at_call 21; (with_reducible refine (specBoard_any _ _ _ _ _ _ zs ys _ (by (repeat (first | (with_reducible exact IntsAt.made _ _ (by omega) _) | (with_reducible assumption) | (with_reducible refine IntsAt.alloc ?_ _) | (with_reducible refine IntsAt.drew ?_) | (with_reducible refine IntsAt.drewN ?_ _) | (with_reducible refine IntsAt.mono ?_ (by with_reducible assumption))))) (by (repeat (first | (with_reducible exact IntsAt.made _ _ (by omega) _) | (with_reducible assumption) | (with_reducible refine IntsAt.alloc ?_ _) | (with_reducible refine IntsAt.drew ?_) | (with_reducible refine IntsAt.drewN ?_ _) | (with_reducible refine IntsAt.mono ?_ (by with_reducible assumption)))))).mono ?_); rintro e w1 ⟨rfl, hb⟩; obtain ⟨hc, hf⟩ := bcell hb; have hsz := hb.size; (try simp at hsz); (try have hy0 : w.heap.size < w1.heap.size := by omega); (try have hy1 : w.heap.size + 1 < w1.heap.size := by omega); (try have hy2 : w.heap.size + 2 < w1.heap.size := by omega); (try have hyS : ws.heap.size < w1.heap.size := by omega); (try have hyG : wg.heap.size < w1.heap.size := by omega)) | (go_at_call 80; (with_reducible refine (l01In_any _ _ _ _).mono ?_); rintro e w' ⟨rfl, rfl⟩))
  refine wp_named (fun W hW0 => ?_)
  have hW := hid hW0
  clear hW0
  have bW : Below w.heap.size w W := by rw [← hW.out]; (repeat' (first | (with_reducible exact Below.refl _ _) | (with_reducible assumption) | (with_reducible refine xAlloc ?_ _) | (with_reducible refine Below.drew ?_) | (with_reducible refine xDrewN ?_ _) | (with_reducible refine xThen ?_ (by with_reducible assumption)) | (with_reducible refine Below.setCell ?_ (by first | omega | (simp; omega) | simp) _) | exact Below.refl _ _))
  have kW0 : W.cell? ⟨w.heap.size, 0, none⟩ = some (.int .i64 p) := by rw [← hW.out]; go_simp
  have kW1 : W.cell? ⟨w.heap.size, 1, none⟩ = some (.int .i64 c) := by rw [← hW.out]; go_simp
  have kW2 : W.cell? ⟨w.heap.size, 2, none⟩ = some (.int .i64 h) := by rw [← hW.out]; go_simp
  have kW3 : W.cell? ⟨w.heap.size, 3, none⟩ = some (.int .i64 s) := by rw [← hW.out]; go_simp
  have kW4 : W.cell? ⟨w.heap.size + 1, 0, none⟩ = some (.slice a1 zs.length c1) := by rw [← hW.out]; go_simp
  have kW5 : W.cell? ⟨w.heap.size + 1, 1, none⟩ = some (.slice a2 ys.length c2) := by rw [← hW.out]; go_simp
  have kW6 : W.cell? ⟨w.heap.size + 1, 2, none⟩ = some (.int .i64 pl) := by rw [← hW.out]; go_simp
  have kW7 : W.cell? ⟨w.heap.size + 1, 3, none⟩ = some (.int .i64 a) := by rw [← hW.out]; go_simp
  have kW8 : W.cell? ⟨w.heap.size + 1, 4, none⟩ = some (.int .i64 b) := by rw [← hW.out]; go_simp
  have kW9 : W.cell? ⟨w.heap.size + 1, 5, none⟩ = some (.int .i64 3) := by rw [← hW.out]; go_simp
  have kW10 : W.cell? ⟨w.heap.size + 1, 6, none⟩ = some (.int .i64 wi) := by rw [← hW.out]; go_simp
  have kW11 : W.cell? ⟨w.heap.size + 1, 7, none⟩ = some (.int .i64 re) := by rw [← hW.out]; go_simp
  have kW12 : W.cell? ⟨w.heap.size + 1, 8, none⟩ = some (.int .i64 tu) := by rw [← hW.out]; go_simp
  have JW1 := I1.mono bW
  have JW2 := I2.mono bW
  have lW : w.heap.size + 1 < W.heap.size := cell_block kW4
  clear hW
  go_wp2_with (first | (go_at_call 103; (with_reducible refine (specRoll_any _ _ _ _ _ _ _).mono ?_); rintro e w2 ⟨rfl, hb⟩; have kA0 := xcell hb kW0; have kA1 := xcell hb kW1; have kA2 := xcell hb kW2; have kA3 := xcell hb kW3; have kA4 := xcell hb kW4; have kA5 := xcell hb kW5; have kA6 := xcell hb kW6; have kA7 := xcell hb kW7; have kA8 := xcell hb kW8; have kA9 := xcell hb kW9; have kA10 := xcell hb kW10; have kA11 := xcell hb kW11; have kA12 := xcell hb kW12; have JA1 := JW1.mono hb; have JA2 := JW2.mono hb; have BA := xThen bW hb) | (go_at_call 110; (with_reducible refine (specOver_any _ _ zs ys _ (by (repeat (first | (with_reducible exact IntsAt.made _ _ (by omega) _) | (with_reducible assumption) | (with_reducible refine IntsAt.alloc ?_ _) | (with_reducible refine IntsAt.drew ?_) | (with_reducible refine IntsAt.drewN ?_ _) | (with_reducible refine IntsAt.mono ?_ (by with_reducible assumption))))) (by (repeat (first | (with_reducible exact IntsAt.made _ _ (by omega) _) | (with_reducible assumption) | (with_reducible refine IntsAt.alloc ?_ _) | (with_reducible refine IntsAt.drew ?_) | (with_reducible refine IntsAt.drewN ?_ _) | (with_reducible refine IntsAt.mono ?_ (by with_reducible assumption))))) HZ.out HY.out).mono ?_); rw [HO.out]; rintro e w3 ⟨rfl, hb⟩; (first | (have kB0 := xcell hb kA0; have kB1 := xcell hb kA1; have kB2 := xcell hb kA2; have kB3 := xcell hb kA3; have kB4 := xcell hb kA4; have kB5 := xcell hb kA5; have kB6 := xcell hb kA6; have kB7 := xcell hb kA7; have kB8 := xcell hb kA8; have kB9 := xcell hb kA9; have kB10 := xcell hb kA10; have kB11 := xcell hb kA11; have kB12 := xcell hb kA12; have BB := xThen BA hb; have JB1 := JA1.mono hb; have JB2 := JA2.mono hb) | (have kB0 := xcell hb kW0; have kB1 := xcell hb kW1; have kB2 := xcell hb kW2; have kB3 := xcell hb kW3; have kB4 := xcell hb kW4; have kB5 := xcell hb kW5; have kB6 := xcell hb kW6; have kB7 := xcell hb kW7; have kB8 := xcell hb kW8; have kB9 := xcell hb kW9; have kB10 := xcell hb kW10; have kB11 := xcell hb kW11; have kB12 := xcell hb kW12; have BB := xThen bW hb; have JB1 := JW1.mono hb; have JB2 := JW2.mono hb))))
  have hk0 := fun xe : ExtW w3 => xe.cell kB0
  have hk1 := fun xe : ExtW w3 => xe.cell kB1
  have hk2 := fun xe : ExtW w3 => xe.cell kB2
  have hk3 := fun xe : ExtW w3 => xe.cell kB3
  have hk4 := fun xe : ExtW w3 => xe.cell kB4
  have hk5 := fun xe : ExtW w3 => xe.cell kB5
  have hk6 := fun xe : ExtW w3 => xe.cell kB6
  have hk7 := fun xe : ExtW w3 => xe.cell kB7
  have hk8 := fun xe : ExtW w3 => xe.cell kB8
  have hk9 := fun xe : ExtW w3 => xe.cell kB9
  have hk10 := fun xe : ExtW w3 => xe.cell kB10
  have hk11 := fun xe : ExtW w3 => xe.cell kB11
  have hk12 := fun xe : ExtW w3 => xe.cell kB12
  have hne : Nonempty (ExtW w3) := ⟨⟨_, Below.refl _ _⟩⟩
  refine wp_region_ext (by kernel_rfl) (by kernel_rfl) ?_
  repeat (first | go_big_quiet_step ((first | (go_at_call 70; exact ext_call0 (l02Sum_any _ zs _ (JB1.mono (ExtW.b _)) HZ.out)) | (go_at_call 59; exact ext_call (specRes_any _ _ _ _ _ _ zs ys _ (JB1.mono (ExtW.b _)) (JB2.mono (ExtW.b _)) (by omega) (by omega) (by omega) (by omega) HZ.out HY.out)))) | quiet_step ((first | (go_at_call 70; exact ext_call0 (l02Sum_any _ zs _ (JB1.mono (ExtW.b _)) HZ.out)) | (go_at_call 59; exact ext_call (specRes_any _ _ _ _ _ _ zs ys _ (JB1.mono (ExtW.b _)) (JB2.mono (ExtW.b _)) (by omega) (by omega) (by omega) (by omega) HZ.out HY.out)))))
  refine wpQuiet_nil ?_
  rintro w1 ⟨⟨_, hb⟩, rfl⟩
  clear hne hk0 hk1 hk2 hk3 hk4 hk5 hk6 hk7 hk8 hk9 hk10 hk11 hk12
  go_wp2
  go_ret
  exact ⟨rfl, by (repeat' (first | (with_reducible exact Below.refl _ _) | (with_reducible assumption) | (with_reducible refine xAlloc ?_ _) | (with_reducible refine Below.drew ?_) | (with_reducible refine xDrewN ?_ _) | (with_reducible refine xThen ?_ (by with_reducible assumption)) | (with_reducible refine Below.setCell ?_ (by first | omega | (simp; omega) | simp) _) | exact Below.refl _ _))⟩

set_option maxRecDepth 100000 in
set_option maxHeartbeats 2000000 in
theorem specGame_c3b (p c h s : Int) (v1 v2 : Value) (zs ys : List Int) (pl a b wi re tu : Int) (w : World) (I1 : IntsAt w v1 zs) (I2 : IntsAt w v2 ys) (hpre : preB p c h s zs ys pl tu = true) (hz : zeroB a b = true) (ho : overB zs ys = true) (hs : (((sumN zs zs.length : Nat) : Int) == 0) = true) (hw : (wi == pl) = false) :
    Calls Try.prog 105 #[.agg #[.int .i64 p, .int .i64 c, .int .i64 h, .int .i64 s], gameV v1 v2 pl a b 3 wi re tu] w fun e w' => e = .returned (.bool (false)) ∧ Below w.heap.size w w' := by
  unfold gameV
  obtain ⟨a1, c1, rfl, _⟩ := id I1
  obtain ⟨a2, c2, rfl, _⟩ := id I2
  obtain ⟨hv, h4, hbd, hpl, htu⟩ := preB_true hpre
  obtain ⟨_, hz0, hy0'⟩ := boardB_true hbd
  have HZ := hid hz0
  have HY := hid hy0'
  clear hpre hz0 hy0'
  have hz' : (a == 0 && b == 0) = true := by simpa [zeroB] using hz
  have hne0 : ∀ u : World, (binOp .neq 42 (.agg #[.int .i64 a, .int .i64 b]) (.agg #[.int .i64 0, .int .i64 0])).run Try.prog u = .ok (.bool false) u := fun u => by rw [neRoll_run, hz']; rfl
  clear hz hz'
  have HO := hid ho
  clear ho
  have hvr := varB_true hv
  go_enter Try.func105, Try.ntmps105
  go_upto_region 3 with (first | (go_at_call 67; (with_reducible refine (specIsVariant_any _ _ _ _ _).mono ?_); rintro e w1 ⟨rfl, hb⟩; obtain ⟨hc, hf⟩ := bcell hb; have hsz := hb.size; (try simp at hsz); (try have hy0 : w.heap.size < w1.heap.size := by omega); (try have hy1 : w.heap.size + 1 < w1.heap.size := by omega); (try have hy2 : w.heap.size + 2 < w1.heap.size := by omega); (try have hyS : ws.heap.size < w1.heap.size := by omega); (try have hyG : wg.heap.size < w1.heap.size := by omega)) | (go_at_call 21; (with_reducible refine (specBoard_any _ _ _ _ _ _ zs ys _ (by (repeat (first | (with_reducible exact IntsAt.made _ _ (by omega) _) | (with_reducible assumption) | (with_reducible refine IntsAt.alloc ?_ _) | (with_reducible refine IntsAt.drew ?_) | (with_reducible refine IntsAt.drewN ?_ _) | (with_reducible refine IntsAt.mono ?_ (by with_reducible assumption))))) (by (repeat (first | (with_reducible exact IntsAt.made _ _ (by omega) _) | (with_reducible assumption) | (with_reducible refine IntsAt.alloc ?_ _) | (with_reducible refine IntsAt.drew ?_) | (with_reducible refine IntsAt.drewN ?_ _) | (with_reducible refine IntsAt.mono ?_ (by with_reducible assumption)))))).mono ?_); rintro e w1 ⟨rfl, hb⟩; obtain ⟨hc, hf⟩ := bcell hb; have hsz := hb.size; (try simp at hsz); (try have hy0 : w.heap.size < w1.heap.size := by omega); (try have hy1 : w.heap.size + 1 < w1.heap.size := by omega); (try have hy2 : w.heap.size + 2 < w1.heap.size := by omega); (try have hyS : ws.heap.size < w1.heap.size := by omega); (try have hyG : wg.heap.size < w1.heap.size := by omega)) | (go_at_call 80; (with_reducible refine (l01In_any _ _ _ _).mono ?_); rintro e w' ⟨rfl, rfl⟩))
  refine wp_named (fun W hW0 => ?_)
  have hW := hid hW0
  clear hW0
  have bW : Below w.heap.size w W := by rw [← hW.out]; (repeat' (first | (with_reducible exact Below.refl _ _) | (with_reducible assumption) | (with_reducible refine xAlloc ?_ _) | (with_reducible refine Below.drew ?_) | (with_reducible refine xDrewN ?_ _) | (with_reducible refine xThen ?_ (by with_reducible assumption)) | (with_reducible refine Below.setCell ?_ (by first | omega | (simp; omega) | simp) _) | exact Below.refl _ _))
  have kW0 : W.cell? ⟨w.heap.size, 0, none⟩ = some (.int .i64 p) := by rw [← hW.out]; go_simp
  have kW1 : W.cell? ⟨w.heap.size, 1, none⟩ = some (.int .i64 c) := by rw [← hW.out]; go_simp
  have kW2 : W.cell? ⟨w.heap.size, 2, none⟩ = some (.int .i64 h) := by rw [← hW.out]; go_simp
  have kW3 : W.cell? ⟨w.heap.size, 3, none⟩ = some (.int .i64 s) := by rw [← hW.out]; go_simp
  have kW4 : W.cell? ⟨w.heap.size + 1, 0, none⟩ = some (.slice a1 zs.length c1) := by rw [← hW.out]; go_simp
  have kW5 : W.cell? ⟨w.heap.size + 1, 1, none⟩ = some (.slice a2 ys.length c2) := by rw [← hW.out]; go_simp
  have kW6 : W.cell? ⟨w.heap.size + 1, 2, none⟩ = some (.int .i64 pl) := by rw [← hW.out]; go_simp
  have kW7 : W.cell? ⟨w.heap.size + 1, 3, none⟩ = some (.int .i64 a) := by rw [← hW.out]; go_simp
  have kW8 : W.cell? ⟨w.heap.size + 1, 4, none⟩ = some (.int .i64 b) := by rw [← hW.out]; go_simp
  have kW9 : W.cell? ⟨w.heap.size + 1, 5, none⟩ = some (.int .i64 3) := by rw [← hW.out]; go_simp
  have kW10 : W.cell? ⟨w.heap.size + 1, 6, none⟩ = some (.int .i64 wi) := by rw [← hW.out]; go_simp
  have kW11 : W.cell? ⟨w.heap.size + 1, 7, none⟩ = some (.int .i64 re) := by rw [← hW.out]; go_simp
  have kW12 : W.cell? ⟨w.heap.size + 1, 8, none⟩ = some (.int .i64 tu) := by rw [← hW.out]; go_simp
  have JW1 := I1.mono bW
  have JW2 := I2.mono bW
  have lW : w.heap.size + 1 < W.heap.size := cell_block kW4
  clear hW
  go_wp2_with (first | (go_at_call 103; (with_reducible refine (specRoll_any _ _ _ _ _ _ _).mono ?_); rintro e w2 ⟨rfl, hb⟩; have kA0 := xcell hb kW0; have kA1 := xcell hb kW1; have kA2 := xcell hb kW2; have kA3 := xcell hb kW3; have kA4 := xcell hb kW4; have kA5 := xcell hb kW5; have kA6 := xcell hb kW6; have kA7 := xcell hb kW7; have kA8 := xcell hb kW8; have kA9 := xcell hb kW9; have kA10 := xcell hb kW10; have kA11 := xcell hb kW11; have kA12 := xcell hb kW12; have JA1 := JW1.mono hb; have JA2 := JW2.mono hb; have BA := xThen bW hb) | (go_at_call 110; (with_reducible refine (specOver_any _ _ zs ys _ (by (repeat (first | (with_reducible exact IntsAt.made _ _ (by omega) _) | (with_reducible assumption) | (with_reducible refine IntsAt.alloc ?_ _) | (with_reducible refine IntsAt.drew ?_) | (with_reducible refine IntsAt.drewN ?_ _) | (with_reducible refine IntsAt.mono ?_ (by with_reducible assumption))))) (by (repeat (first | (with_reducible exact IntsAt.made _ _ (by omega) _) | (with_reducible assumption) | (with_reducible refine IntsAt.alloc ?_ _) | (with_reducible refine IntsAt.drew ?_) | (with_reducible refine IntsAt.drewN ?_ _) | (with_reducible refine IntsAt.mono ?_ (by with_reducible assumption))))) HZ.out HY.out).mono ?_); rw [HO.out]; rintro e w3 ⟨rfl, hb⟩; (first | (have kB0 := xcell hb kA0; have kB1 := xcell hb kA1; have kB2 := xcell hb kA2; have kB3 := xcell hb kA3; have kB4 := xcell hb kA4; have kB5 := xcell hb kA5; have kB6 := xcell hb kA6; have kB7 := xcell hb kA7; have kB8 := xcell hb kA8; have kB9 := xcell hb kA9; have kB10 := xcell hb kA10; have kB11 := xcell hb kA11; have kB12 := xcell hb kA12; have BB := xThen BA hb; have JB1 := JA1.mono hb; have JB2 := JA2.mono hb) | (have kB0 := xcell hb kW0; have kB1 := xcell hb kW1; have kB2 := xcell hb kW2; have kB3 := xcell hb kW3; have kB4 := xcell hb kW4; have kB5 := xcell hb kW5; have kB6 := xcell hb kW6; have kB7 := xcell hb kW7; have kB8 := xcell hb kW8; have kB9 := xcell hb kW9; have kB10 := xcell hb kW10; have kB11 := xcell hb kW11; have kB12 := xcell hb kW12; have BB := xThen bW hb; have JB1 := JW1.mono hb; have JB2 := JW2.mono hb))))
  have hk0 := fun xe : ExtW w3 => xe.cell kB0
  have hk1 := fun xe : ExtW w3 => xe.cell kB1
  have hk2 := fun xe : ExtW w3 => xe.cell kB2
  have hk3 := fun xe : ExtW w3 => xe.cell kB3
  have hk4 := fun xe : ExtW w3 => xe.cell kB4
  have hk5 := fun xe : ExtW w3 => xe.cell kB5
  have hk6 := fun xe : ExtW w3 => xe.cell kB6
  have hk7 := fun xe : ExtW w3 => xe.cell kB7
  have hk8 := fun xe : ExtW w3 => xe.cell kB8
  have hk9 := fun xe : ExtW w3 => xe.cell kB9
  have hk10 := fun xe : ExtW w3 => xe.cell kB10
  have hk11 := fun xe : ExtW w3 => xe.cell kB11
  have hk12 := fun xe : ExtW w3 => xe.cell kB12
  have hne : Nonempty (ExtW w3) := ⟨⟨_, Below.refl _ _⟩⟩
  refine wp_region_ext (by kernel_rfl) (by kernel_rfl) ?_
  repeat (first | go_big_quiet_step ((first | (go_at_call 70; exact ext_call0 (l02Sum_any _ zs _ (JB1.mono (ExtW.b _)) HZ.out)) | (go_at_call 59; exact ext_call (specRes_any _ _ _ _ _ _ zs ys _ (JB1.mono (ExtW.b _)) (JB2.mono (ExtW.b _)) (by omega) (by omega) (by omega) (by omega) HZ.out HY.out)))) | quiet_step ((first | (go_at_call 70; exact ext_call0 (l02Sum_any _ zs _ (JB1.mono (ExtW.b _)) HZ.out)) | (go_at_call 59; exact ext_call (specRes_any _ _ _ _ _ _ zs ys _ (JB1.mono (ExtW.b _)) (JB2.mono (ExtW.b _)) (by omega) (by omega) (by omega) (by omega) HZ.out HY.out)))))
  refine wpQuiet_nil ?_
  rintro w1 ⟨⟨_, hb⟩, rfl⟩
  clear hne hk0 hk1 hk2 hk3 hk4 hk5 hk6 hk7 hk8 hk9 hk10 hk11 hk12
  go_wp2
  go_ret
  exact ⟨rfl, by (repeat' (first | (with_reducible exact Below.refl _ _) | (with_reducible assumption) | (with_reducible refine xAlloc ?_ _) | (with_reducible refine Below.drew ?_) | (with_reducible refine xDrewN ?_ _) | (with_reducible refine xThen ?_ (by with_reducible assumption)) | (with_reducible refine Below.setCell ?_ (by first | omega | (simp; omega) | simp) _) | exact Below.refl _ _))⟩

set_option maxRecDepth 100000 in
set_option maxHeartbeats 2000000 in
theorem specGame_c3c (p c h s : Int) (v1 v2 : Value) (zs ys : List Int) (pl a b wi re tu : Int) (w : World) (I1 : IntsAt w v1 zs) (I2 : IntsAt w v2 ys) (hpre : preB p c h s zs ys pl tu = true) (hz : zeroB a b = true) (ho : overB zs ys = true) (hs : (((sumN zs zs.length : Nat) : Int) == 0) = true) (hw : (wi == pl) = true) :
    Calls Try.prog 105 #[.agg #[.int .i64 p, .int .i64 c, .int .i64 h, .int .i64 s], gameV v1 v2 pl a b 3 wi re tu] w fun e w' => e = .returned (.bool (re == resV p c h (loserL zs ys))) ∧ Below w.heap.size w w' := by
  unfold gameV
  obtain ⟨a1, c1, rfl, _⟩ := id I1
  obtain ⟨a2, c2, rfl, _⟩ := id I2
  obtain ⟨hv, h4, hbd, hpl, htu⟩ := preB_true hpre
  obtain ⟨_, hz0, hy0'⟩ := boardB_true hbd
  have HZ := hid hz0
  have HY := hid hy0'
  clear hpre hz0 hy0'
  have hz' : (a == 0 && b == 0) = true := by simpa [zeroB] using hz
  have hne0 : ∀ u : World, (binOp .neq 42 (.agg #[.int .i64 a, .int .i64 b]) (.agg #[.int .i64 0, .int .i64 0])).run Try.prog u = .ok (.bool false) u := fun u => by rw [neRoll_run, hz']; rfl
  clear hz hz'
  have HO := hid ho
  clear ho
  have hvr := varB_true hv
  go_enter Try.func105, Try.ntmps105
  go_upto_region 3 with (first | (go_at_call 67; (with_reducible refine (specIsVariant_any _ _ _ _ _).mono ?_); rintro e w1 ⟨rfl, hb⟩; obtain ⟨hc, hf⟩ := bcell hb; have hsz := hb.size; (try simp at hsz); (try have hy0 : w.heap.size < w1.heap.size := by omega); (try have hy1 : w.heap.size + 1 < w1.heap.size := by omega); (try have hy2 : w.heap.size + 2 < w1.heap.size := by omega); (try have hyS : ws.heap.size < w1.heap.size := by omega); (try have hyG : wg.heap.size < w1.heap.size := by omega)) | (go_at_call 21; (with_reducible refine (specBoard_any _ _ _ _ _ _ zs ys _ (by (repeat (first | (with_reducible exact IntsAt.made _ _ (by omega) _) | (with_reducible assumption) | (with_reducible refine IntsAt.alloc ?_ _) | (with_reducible refine IntsAt.drew ?_) | (with_reducible refine IntsAt.drewN ?_ _) | (with_reducible refine IntsAt.mono ?_ (by with_reducible assumption))))) (by (repeat (first | (with_reducible exact IntsAt.made _ _ (by omega) _) | (with_reducible assumption) | (with_reducible refine IntsAt.alloc ?_ _) | (with_reducible refine IntsAt.drew ?_) | (with_reducible refine IntsAt.drewN ?_ _) | (with_reducible refine IntsAt.mono ?_ (by with_reducible assumption)))))).mono ?_); rintro e w1 ⟨rfl, hb⟩; obtain ⟨hc, hf⟩ := bcell hb; have hsz := hb.size; (try simp at hsz); (try have hy0 : w.heap.size < w1.heap.size := by omega); (try have hy1 : w.heap.size + 1 < w1.heap.size := by omega); (try have hy2 : w.heap.size + 2 < w1.heap.size := by omega); (try have hyS : ws.heap.size < w1.heap.size := by omega); (try have hyG : wg.heap.size < w1.heap.size := by omega)) | (go_at_call 80; (with_reducible refine (l01In_any _ _ _ _).mono ?_); rintro e w' ⟨rfl, rfl⟩))
  refine wp_named (fun W hW0 => ?_)
  have hW := hid hW0
  clear hW0
  have bW : Below w.heap.size w W := by rw [← hW.out]; (repeat' (first | (with_reducible exact Below.refl _ _) | (with_reducible assumption) | (with_reducible refine xAlloc ?_ _) | (with_reducible refine Below.drew ?_) | (with_reducible refine xDrewN ?_ _) | (with_reducible refine xThen ?_ (by with_reducible assumption)) | (with_reducible refine Below.setCell ?_ (by first | omega | (simp; omega) | simp) _) | exact Below.refl _ _))
  have kW0 : W.cell? ⟨w.heap.size, 0, none⟩ = some (.int .i64 p) := by rw [← hW.out]; go_simp
  have kW1 : W.cell? ⟨w.heap.size, 1, none⟩ = some (.int .i64 c) := by rw [← hW.out]; go_simp
  have kW2 : W.cell? ⟨w.heap.size, 2, none⟩ = some (.int .i64 h) := by rw [← hW.out]; go_simp
  have kW3 : W.cell? ⟨w.heap.size, 3, none⟩ = some (.int .i64 s) := by rw [← hW.out]; go_simp
  have kW4 : W.cell? ⟨w.heap.size + 1, 0, none⟩ = some (.slice a1 zs.length c1) := by rw [← hW.out]; go_simp
  have kW5 : W.cell? ⟨w.heap.size + 1, 1, none⟩ = some (.slice a2 ys.length c2) := by rw [← hW.out]; go_simp
  have kW6 : W.cell? ⟨w.heap.size + 1, 2, none⟩ = some (.int .i64 pl) := by rw [← hW.out]; go_simp
  have kW7 : W.cell? ⟨w.heap.size + 1, 3, none⟩ = some (.int .i64 a) := by rw [← hW.out]; go_simp
  have kW8 : W.cell? ⟨w.heap.size + 1, 4, none⟩ = some (.int .i64 b) := by rw [← hW.out]; go_simp
  have kW9 : W.cell? ⟨w.heap.size + 1, 5, none⟩ = some (.int .i64 3) := by rw [← hW.out]; go_simp
  have kW10 : W.cell? ⟨w.heap.size + 1, 6, none⟩ = some (.int .i64 wi) := by rw [← hW.out]; go_simp
  have kW11 : W.cell? ⟨w.heap.size + 1, 7, none⟩ = some (.int .i64 re) := by rw [← hW.out]; go_simp
  have kW12 : W.cell? ⟨w.heap.size + 1, 8, none⟩ = some (.int .i64 tu) := by rw [← hW.out]; go_simp
  have JW1 := I1.mono bW
  have JW2 := I2.mono bW
  have lW : w.heap.size + 1 < W.heap.size := cell_block kW4
  clear hW
  go_wp2_with (first | (go_at_call 103; (with_reducible refine (specRoll_any _ _ _ _ _ _ _).mono ?_); rintro e w2 ⟨rfl, hb⟩; have kA0 := xcell hb kW0; have kA1 := xcell hb kW1; have kA2 := xcell hb kW2; have kA3 := xcell hb kW3; have kA4 := xcell hb kW4; have kA5 := xcell hb kW5; have kA6 := xcell hb kW6; have kA7 := xcell hb kW7; have kA8 := xcell hb kW8; have kA9 := xcell hb kW9; have kA10 := xcell hb kW10; have kA11 := xcell hb kW11; have kA12 := xcell hb kW12; have JA1 := JW1.mono hb; have JA2 := JW2.mono hb; have BA := xThen bW hb) | (go_at_call 110; (with_reducible refine (specOver_any _ _ zs ys _ (by (repeat (first | (with_reducible exact IntsAt.made _ _ (by omega) _) | (with_reducible assumption) | (with_reducible refine IntsAt.alloc ?_ _) | (with_reducible refine IntsAt.drew ?_) | (with_reducible refine IntsAt.drewN ?_ _) | (with_reducible refine IntsAt.mono ?_ (by with_reducible assumption))))) (by (repeat (first | (with_reducible exact IntsAt.made _ _ (by omega) _) | (with_reducible assumption) | (with_reducible refine IntsAt.alloc ?_ _) | (with_reducible refine IntsAt.drew ?_) | (with_reducible refine IntsAt.drewN ?_ _) | (with_reducible refine IntsAt.mono ?_ (by with_reducible assumption))))) HZ.out HY.out).mono ?_); rw [HO.out]; rintro e w3 ⟨rfl, hb⟩; (first | (have kB0 := xcell hb kA0; have kB1 := xcell hb kA1; have kB2 := xcell hb kA2; have kB3 := xcell hb kA3; have kB4 := xcell hb kA4; have kB5 := xcell hb kA5; have kB6 := xcell hb kA6; have kB7 := xcell hb kA7; have kB8 := xcell hb kA8; have kB9 := xcell hb kA9; have kB10 := xcell hb kA10; have kB11 := xcell hb kA11; have kB12 := xcell hb kA12; have BB := xThen BA hb; have JB1 := JA1.mono hb; have JB2 := JA2.mono hb) | (have kB0 := xcell hb kW0; have kB1 := xcell hb kW1; have kB2 := xcell hb kW2; have kB3 := xcell hb kW3; have kB4 := xcell hb kW4; have kB5 := xcell hb kW5; have kB6 := xcell hb kW6; have kB7 := xcell hb kW7; have kB8 := xcell hb kW8; have kB9 := xcell hb kW9; have kB10 := xcell hb kW10; have kB11 := xcell hb kW11; have kB12 := xcell hb kW12; have BB := xThen bW hb; have JB1 := JW1.mono hb; have JB2 := JW2.mono hb))))
  have hk0 := fun xe : ExtW w3 => xe.cell kB0
  have hk1 := fun xe : ExtW w3 => xe.cell kB1
  have hk2 := fun xe : ExtW w3 => xe.cell kB2
  have hk3 := fun xe : ExtW w3 => xe.cell kB3
  have hk4 := fun xe : ExtW w3 => xe.cell kB4
  have hk5 := fun xe : ExtW w3 => xe.cell kB5
  have hk6 := fun xe : ExtW w3 => xe.cell kB6
  have hk7 := fun xe : ExtW w3 => xe.cell kB7
  have hk8 := fun xe : ExtW w3 => xe.cell kB8
  have hk9 := fun xe : ExtW w3 => xe.cell kB9
  have hk10 := fun xe : ExtW w3 => xe.cell kB10
  have hk11 := fun xe : ExtW w3 => xe.cell kB11
  have hk12 := fun xe : ExtW w3 => xe.cell kB12
  have hne : Nonempty (ExtW w3) := ⟨⟨_, Below.refl _ _⟩⟩
  refine wp_region_ext (by kernel_rfl) (by kernel_rfl) ?_
  repeat (first | go_big_quiet_step ((first | (go_at_call 70; exact ext_call0 (l02Sum_any _ zs _ (JB1.mono (ExtW.b _)) HZ.out)) | (go_at_call 59; exact ext_call (specRes_any _ _ _ _ _ _ zs ys _ (JB1.mono (ExtW.b _)) (JB2.mono (ExtW.b _)) (by omega) (by omega) (by omega) (by omega) HZ.out HY.out)))) | quiet_step ((first | (go_at_call 70; exact ext_call0 (l02Sum_any _ zs _ (JB1.mono (ExtW.b _)) HZ.out)) | (go_at_call 59; exact ext_call (specRes_any _ _ _ _ _ _ zs ys _ (JB1.mono (ExtW.b _)) (JB2.mono (ExtW.b _)) (by omega) (by omega) (by omega) (by omega) HZ.out HY.out)))))
  refine wpQuiet_nil ?_
  rintro w1 ⟨⟨_, hb⟩, rfl⟩
  clear hne hk0 hk1 hk2 hk3 hk4 hk5 hk6 hk7 hk8 hk9 hk10 hk11 hk12
  go_wp2
  go_ret
  exact ⟨rfl, by (repeat' (first | (with_reducible exact Below.refl _ _) | (with_reducible assumption) | (with_reducible refine xAlloc ?_ _) | (with_reducible refine Below.drew ?_) | (with_reducible refine xDrewN ?_ _) | (with_reducible refine xThen ?_ (by with_reducible assumption)) | (with_reducible refine Below.setCell ?_ (by first | omega | (simp; omega) | simp) _) | exact Below.refl _ _))⟩

set_option maxRecDepth 100000 in
set_option maxHeartbeats 2000000 in
theorem specGame_c3d (p c h s : Int) (v1 v2 : Value) (zs ys : List Int) (pl a b wi re tu : Int) (w : World) (I1 : IntsAt w v1 zs) (I2 : IntsAt w v2 ys) (hpre : preB p c h s zs ys pl tu = true) (hz : zeroB a b = true) (ho : overB zs ys = false) :
    Calls Try.prog 105 #[.agg #[.int .i64 p, .int .i64 c, .int .i64 h, .int .i64 s], gameV v1 v2 pl a b 3 wi re tu] w fun e w' => e = .returned (.bool (decide (wi = 1 - pl) && inB re 1 3)) ∧ Below w.heap.size w w' := by
  unfold gameV
  obtain ⟨a1, c1, rfl, _⟩ := id I1
  obtain ⟨a2, c2, rfl, _⟩ := id I2
  obtain ⟨hv, h4, hbd, hpl, htu⟩ := preB_true hpre
  obtain ⟨_, hz0, hy0'⟩ := boardB_true hbd
  have HZ := hid hz0
  have HY := hid hy0'
  clear hpre hz0 hy0'
  have hz' : (a == 0 && b == 0) = true := by simpa [zeroB] using hz
  have hne0 : ∀ u : World, (binOp .neq 42 (.agg #[.int .i64 a, .int .i64 b]) (.agg #[.int .i64 0, .int .i64 0])).run Try.prog u = .ok (.bool false) u := fun u => by rw [neRoll_run, hz']; rfl
  clear hz hz'
  have HO := hid ho
  clear ho
  have hpl2 := inB_true hpl
  go_enter Try.func105, Try.ntmps105
  go_upto_region 3 with (first | (go_at_call 67; (with_reducible refine (specIsVariant_any _ _ _ _ _).mono ?_); rintro e w1 ⟨rfl, hb⟩; obtain ⟨hc, hf⟩ := bcell hb; have hsz := hb.size; (try simp at hsz); (try have hy0 : w.heap.size < w1.heap.size := by omega); (try have hy1 : w.heap.size + 1 < w1.heap.size := by omega); (try have hy2 : w.heap.size + 2 < w1.heap.size := by omega); (try have hyS : ws.heap.size < w1.heap.size := by omega); (try have hyG : wg.heap.size < w1.heap.size := by omega)) | (go_at_call 21; (with_reducible refine (specBoard_any _ _ _ _ _ _ zs ys _ (by (repeat (first | (with_reducible exact IntsAt.made _ _ (by omega) _) | (with_reducible assumption) | (with_reducible refine IntsAt.alloc ?_ _) | (with_reducible refine IntsAt.drew ?_) | (with_reducible refine IntsAt.drewN ?_ _) | (with_reducible refine IntsAt.mono ?_ (by with_reducible assumption))))) (by (repeat (first | (with_reducible exact IntsAt.made _ _ (by omega) _) | (with_reducible assumption) | (with_reducible refine IntsAt.alloc ?_ _) | (with_reducible refine IntsAt.drew ?_) | (with_reducible refine IntsAt.drewN ?_ _) | (with_reducible refine IntsAt.mono ?_ (by with_reducible assumption)))))).mono ?_); rintro e w1 ⟨rfl, hb⟩; obtain ⟨hc, hf⟩ := bcell hb; have hsz := hb.size; (try simp at hsz); (try have hy0 : w.heap.size < w1.heap.size := by omega); (try have hy1 : w.heap.size + 1 < w1.heap.size := by omega); (try have hy2 : w.heap.size + 2 < w1.heap.size := by omega); (try have hyS : ws.heap.size < w1.heap.size := by omega); (try have hyG : wg.heap.size < w1.heap.size := by omega)) | (go_at_call 80; (with_reducible refine (l01In_any _ _ _ _).mono ?_); rintro e w' ⟨rfl, rfl⟩))
  refine wp_named (fun W hW0 => ?_)
  have hW := hid hW0
  clear hW0
  have bW : Below w.heap.size w W := by rw [← hW.out]; (repeat' (first | (with_reducible exact Below.refl _ _) | (with_reducible assumption) | (with_reducible refine xAlloc ?_ _) | (with_reducible refine Below.drew ?_) | (with_reducible refine xDrewN ?_ _) | (with_reducible refine xThen ?_ (by with_reducible assumption)) | (with_reducible refine Below.setCell ?_ (by first | omega | (simp; omega) | simp) _) | exact Below.refl _ _))
  have kW0 : W.cell? ⟨w.heap.size, 0, none⟩ = some (.int .i64 p) := by rw [← hW.out]; go_simp
  have kW1 : W.cell? ⟨w.heap.size, 1, none⟩ = some (.int .i64 c) := by rw [← hW.out]; go_simp
  have kW2 : W.cell? ⟨w.heap.size, 2, none⟩ = some (.int .i64 h) := by rw [← hW.out]; go_simp
  have kW3 : W.cell? ⟨w.heap.size, 3, none⟩ = some (.int .i64 s) := by rw [← hW.out]; go_simp
  have kW4 : W.cell? ⟨w.heap.size + 1, 0, none⟩ = some (.slice a1 zs.length c1) := by rw [← hW.out]; go_simp
  have kW5 : W.cell? ⟨w.heap.size + 1, 1, none⟩ = some (.slice a2 ys.length c2) := by rw [← hW.out]; go_simp
  have kW6 : W.cell? ⟨w.heap.size + 1, 2, none⟩ = some (.int .i64 pl) := by rw [← hW.out]; go_simp
  have kW7 : W.cell? ⟨w.heap.size + 1, 3, none⟩ = some (.int .i64 a) := by rw [← hW.out]; go_simp
  have kW8 : W.cell? ⟨w.heap.size + 1, 4, none⟩ = some (.int .i64 b) := by rw [← hW.out]; go_simp
  have kW9 : W.cell? ⟨w.heap.size + 1, 5, none⟩ = some (.int .i64 3) := by rw [← hW.out]; go_simp
  have kW10 : W.cell? ⟨w.heap.size + 1, 6, none⟩ = some (.int .i64 wi) := by rw [← hW.out]; go_simp
  have kW11 : W.cell? ⟨w.heap.size + 1, 7, none⟩ = some (.int .i64 re) := by rw [← hW.out]; go_simp
  have kW12 : W.cell? ⟨w.heap.size + 1, 8, none⟩ = some (.int .i64 tu) := by rw [← hW.out]; go_simp
  have JW1 := I1.mono bW
  have JW2 := I2.mono bW
  have lW : w.heap.size + 1 < W.heap.size := cell_block kW4
  clear hW
  go_wp2_with (first | (go_at_call 103; (with_reducible refine (specRoll_any _ _ _ _ _ _ _).mono ?_); rintro e w2 ⟨rfl, hb⟩; have kA0 := xcell hb kW0; have kA1 := xcell hb kW1; have kA2 := xcell hb kW2; have kA3 := xcell hb kW3; have kA4 := xcell hb kW4; have kA5 := xcell hb kW5; have kA6 := xcell hb kW6; have kA7 := xcell hb kW7; have kA8 := xcell hb kW8; have kA9 := xcell hb kW9; have kA10 := xcell hb kW10; have kA11 := xcell hb kW11; have kA12 := xcell hb kW12; have JA1 := JW1.mono hb; have JA2 := JW2.mono hb; have BA := xThen bW hb) | (go_at_call 110; (with_reducible refine (specOver_any _ _ zs ys _ (by (repeat (first | (with_reducible exact IntsAt.made _ _ (by omega) _) | (with_reducible assumption) | (with_reducible refine IntsAt.alloc ?_ _) | (with_reducible refine IntsAt.drew ?_) | (with_reducible refine IntsAt.drewN ?_ _) | (with_reducible refine IntsAt.mono ?_ (by with_reducible assumption))))) (by (repeat (first | (with_reducible exact IntsAt.made _ _ (by omega) _) | (with_reducible assumption) | (with_reducible refine IntsAt.alloc ?_ _) | (with_reducible refine IntsAt.drew ?_) | (with_reducible refine IntsAt.drewN ?_ _) | (with_reducible refine IntsAt.mono ?_ (by with_reducible assumption))))) HZ.out HY.out).mono ?_); rw [HO.out]; rintro e w3 ⟨rfl, hb⟩; (first | (have kB0 := xcell hb kA0; have kB1 := xcell hb kA1; have kB2 := xcell hb kA2; have kB3 := xcell hb kA3; have kB4 := xcell hb kA4; have kB5 := xcell hb kA5; have kB6 := xcell hb kA6; have kB7 := xcell hb kA7; have kB8 := xcell hb kA8; have kB9 := xcell hb kA9; have kB10 := xcell hb kA10; have kB11 := xcell hb kA11; have kB12 := xcell hb kA12; have BB := xThen BA hb; have JB1 := JA1.mono hb; have JB2 := JA2.mono hb) | (have kB0 := xcell hb kW0; have kB1 := xcell hb kW1; have kB2 := xcell hb kW2; have kB3 := xcell hb kW3; have kB4 := xcell hb kW4; have kB5 := xcell hb kW5; have kB6 := xcell hb kW6; have kB7 := xcell hb kW7; have kB8 := xcell hb kW8; have kB9 := xcell hb kW9; have kB10 := xcell hb kW10; have kB11 := xcell hb kW11; have kB12 := xcell hb kW12; have BB := xThen bW hb; have JB1 := JW1.mono hb; have JB2 := JW2.mono hb))) | (go_at_call 80; (with_reducible refine (l01In_any _ _ _ _).mono ?_); rintro e w' ⟨rfl, rfl⟩))
  all_goals
    go_ret
    exact ⟨ret_bool (by simp [*] <;> (rw [Bool.eq_iff_iff]; simp)), by (repeat' (first | (with_reducible exact Below.refl _ _) | (with_reducible assumption) | (with_reducible refine xAlloc ?_ _) | (with_reducible refine Below.drew ?_) | (with_reducible refine xDrewN ?_ _) | (with_reducible refine xThen ?_ (by with_reducible assumption)) | (with_reducible refine Below.setCell ?_ (by first | omega | (simp; omega) | simp) _) | exact Below.refl _ _))⟩

set_option maxRecDepth 100000 in
set_option maxHeartbeats 2000000 in
theorem specGame_c0plt (p c h s : Int) (v1 v2 : Value) (zs ys : List Int) (pl a b wi re tu : Int) (w : World) (I1 : IntsAt w v1 zs) (I2 : IntsAt w v2 ys) (hpre : preB p c h s zs ys pl tu = true) (hz : zeroB a b = true) (ho : overB zs ys = true) (h1 : (pl == 0) = false) :
    Calls Try.prog 105 #[.agg #[.int .i64 p, .int .i64 c, .int .i64 h, .int .i64 s], gameV v1 v2 pl a b 0 wi re tu] w fun e w' => e = .returned (.bool (false)) ∧ Below w.heap.size w w' := by
  unfold gameV
  obtain ⟨a1, c1, rfl, _⟩ := id I1
  obtain ⟨a2, c2, rfl, _⟩ := id I2
  obtain ⟨hv, h4, hbd, hpl, htu⟩ := preB_true hpre
  obtain ⟨_, hz0, hy0'⟩ := boardB_true hbd
  have HZ := hid hz0
  have HY := hid hy0'
  clear hpre hz0 hy0'
  have hz' : (a == 0 && b == 0) = true := by simpa [zeroB] using hz
  have hne0 : ∀ u : World, (binOp .neq 42 (.agg #[.int .i64 a, .int .i64 b]) (.agg #[.int .i64 0, .int .i64 0])).run Try.prog u = .ok (.bool false) u := fun u => by rw [neRoll_run, hz']; rfl
  clear hz hz'
  have HO := hid ho
  clear ho
  go_enter Try.func105, Try.ntmps105
  go_upto_region 3 with (first | (go_at_call 67; (with_reducible refine (specIsVariant_any _ _ _ _ _).mono ?_); rintro e w1 ⟨rfl, hb⟩; obtain ⟨hc, hf⟩ := bcell hb; have hsz := hb.size; (try simp at hsz); (try have hy0 : w.heap.size < w1.heap.size := by omega); (try have hy1 : w.heap.size + 1 < w1.heap.size := by omega); (try have hy2 : w.heap.size + 2 < w1.heap.size := by omega); (try have hyS : ws.heap.size < w1.heap.size := by omega); (try have hyG : wg.heap.size < w1.heap.size := by omega)) | (go_at_call 21; (with_reducible refine (specBoard_any _ _ _ _ _ _ zs ys _ (by (repeat (first | (with_reducible exact IntsAt.made _ _ (by omega) _) | (with_reducible assumption) | (with_reducible refine IntsAt.alloc ?_ _) | (with_reducible refine IntsAt.drew ?_) | (with_reducible refine IntsAt.drewN ?_ _) | (with_reducible refine IntsAt.mono ?_ (by with_reducible assumption))))) (by (repeat (first | (with_reducible exact IntsAt.made _ _ (by omega) _) | (with_reducible assumption) | (with_reducible refine IntsAt.alloc ?_ _) | (with_reducible refine IntsAt.drew ?_) | (with_reducible refine IntsAt.drewN ?_ _) | (with_reducible refine IntsAt.mono ?_ (by with_reducible assumption)))))).mono ?_); rintro e w1 ⟨rfl, hb⟩; obtain ⟨hc, hf⟩ := bcell hb; have hsz := hb.size; (try simp at hsz); (try have hy0 : w.heap.size < w1.heap.size := by omega); (try have hy1 : w.heap.size + 1 < w1.heap.size := by omega); (try have hy2 : w.heap.size + 2 < w1.heap.size := by omega); (try have hyS : ws.heap.size < w1.heap.size := by omega); (try have hyG : wg.heap.size < w1.heap.size := by omega)) | (go_at_call 80; (with_reducible refine (l01In_any _ _ _ _).mono ?_); rintro e w' ⟨rfl, rfl⟩))
  refine wp_named (fun W hW0 => ?_)
  have hW := hid hW0
  clear hW0
  have bW : Below w.heap.size w W := by rw [← hW.out]; (repeat' (first | (with_reducible exact Below.refl _ _) | (with_reducible assumption) | (with_reducible refine xAlloc ?_ _) | (with_reducible refine Below.drew ?_) | (with_reducible refine xDrewN ?_ _) | (with_reducible refine xThen ?_ (by with_reducible assumption)) | (with_reducible refine Below.setCell ?_ (by first | omega | (simp; omega) | simp) _) | exact Below.refl _ _))
  have kW0 : W.cell? ⟨w.heap.size, 0, none⟩ = some (.int .i64 p) := by rw [← hW.out]; go_simp
  have kW1 : W.cell? ⟨w.heap.size, 1, none⟩ = some (.int .i64 c) := by rw [← hW.out]; go_simp
  have kW2 : W.cell? ⟨w.heap.size, 2, none⟩ = some (.int .i64 h) := by rw [← hW.out]; go_simp
  have kW3 : W.cell? ⟨w.heap.size, 3, none⟩ = some (.int .i64 s) := by rw [← hW.out]; go_simp
  have kW4 : W.cell? ⟨w.heap.size + 1, 0, none⟩ = some (.slice a1 zs.length c1) := by rw [← hW.out]; go_simp
  have kW5 : W.cell? ⟨w.heap.size + 1, 1, none⟩ = some (.slice a2 ys.length c2) := by rw [← hW.out]; go_simp
  have kW6 : W.cell? ⟨w.heap.size + 1, 2, none⟩ = some (.int .i64 pl) := by rw [← hW.out]; go_simp
  have kW7 : W.cell? ⟨w.heap.size + 1, 3, none⟩ = some (.int .i64 a) := by rw [← hW.out]; go_simp
  have kW8 : W.cell? ⟨w.heap.size + 1, 4, none⟩ = some (.int .i64 b) := by rw [← hW.out]; go_simp
  have kW9 : W.cell? ⟨w.heap.size + 1, 5, none⟩ = some (.int .i64 0) := by rw [← hW.out]; go_simp
  have kW10 : W.cell? ⟨w.heap.size + 1, 6, none⟩ = some (.int .i64 wi) := by rw [← hW.out]; go_simp
  have kW11 : W.cell? ⟨w.heap.size + 1, 7, none⟩ = some (.int .i64 re) := by rw [← hW.out]; go_simp
  have kW12 : W.cell? ⟨w.heap.size + 1, 8, none⟩ = some (.int .i64 tu) := by rw [← hW.out]; go_simp
  have JW1 := I1.mono bW
  have JW2 := I2.mono bW
  have lW : w.heap.size + 1 < W.heap.size := cell_block kW4
  clear hW
  go_wp2_with (first | (go_at_call 103; (with_reducible refine (specRoll_any _ _ _ _ _ _ _).mono ?_); rintro e w2 ⟨rfl, hb⟩; have kA0 := xcell hb kW0; have kA1 := xcell hb kW1; have kA2 := xcell hb kW2; have kA3 := xcell hb kW3; have kA4 := xcell hb kW4; have kA5 := xcell hb kW5; have kA6 := xcell hb kW6; have kA7 := xcell hb kW7; have kA8 := xcell hb kW8; have kA9 := xcell hb kW9; have kA10 := xcell hb kW10; have kA11 := xcell hb kW11; have kA12 := xcell hb kW12; have JA1 := JW1.mono hb; have JA2 := JW2.mono hb; have BA := xThen bW hb) | (go_at_call 110; (with_reducible refine (specOver_any _ _ zs ys _ (by (repeat (first | (with_reducible exact IntsAt.made _ _ (by omega) _) | (with_reducible assumption) | (with_reducible refine IntsAt.alloc ?_ _) | (with_reducible refine IntsAt.drew ?_) | (with_reducible refine IntsAt.drewN ?_ _) | (with_reducible refine IntsAt.mono ?_ (by with_reducible assumption))))) (by (repeat (first | (with_reducible exact IntsAt.made _ _ (by omega) _) | (with_reducible assumption) | (with_reducible refine IntsAt.alloc ?_ _) | (with_reducible refine IntsAt.drew ?_) | (with_reducible refine IntsAt.drewN ?_ _) | (with_reducible refine IntsAt.mono ?_ (by with_reducible assumption))))) HZ.out HY.out).mono ?_); rw [HO.out]; rintro e w3 ⟨rfl, hb⟩; (first | (have kB0 := xcell hb kA0; have kB1 := xcell hb kA1; have kB2 := xcell hb kA2; have kB3 := xcell hb kA3; have kB4 := xcell hb kA4; have kB5 := xcell hb kA5; have kB6 := xcell hb kA6; have kB7 := xcell hb kA7; have kB8 := xcell hb kA8; have kB9 := xcell hb kA9; have kB10 := xcell hb kA10; have kB11 := xcell hb kA11; have kB12 := xcell hb kA12; have BB := xThen BA hb; have JB1 := JA1.mono hb; have JB2 := JA2.mono hb) | (have kB0 := xcell hb kW0; have kB1 := xcell hb kW1; have kB2 := xcell hb kW2; have kB3 := xcell hb kW3; have kB4 := xcell hb kW4; have kB5 := xcell hb kW5; have kB6 := xcell hb kW6; have kB7 := xcell hb kW7; have kB8 := xcell hb kW8; have kB9 := xcell hb kW9; have kB10 := xcell hb kW10; have kB11 := xcell hb kW11; have kB12 := xcell hb kW12; have BB := xThen bW hb; have JB1 := JW1.mono hb; have JB2 := JW2.mono hb))))
  have hk0 := fun xe : ExtW w3 => xe.cell kB0
  have hk1 := fun xe : ExtW w3 => xe.cell kB1
  have hk2 := fun xe : ExtW w3 => xe.cell kB2
  have hk3 := fun xe : ExtW w3 => xe.cell kB3
  have hk4 := fun xe : ExtW w3 => xe.cell kB4
  have hk5 := fun xe : ExtW w3 => xe.cell kB5
  have hk6 := fun xe : ExtW w3 => xe.cell kB6
  have hk7 := fun xe : ExtW w3 => xe.cell kB7
  have hk8 := fun xe : ExtW w3 => xe.cell kB8
  have hk9 := fun xe : ExtW w3 => xe.cell kB9
  have hk10 := fun xe : ExtW w3 => xe.cell kB10
  have hk11 := fun xe : ExtW w3 => xe.cell kB11
  have hk12 := fun xe : ExtW w3 => xe.cell kB12
  have hne : Nonempty (ExtW w3) := ⟨⟨_, Below.refl _ _⟩⟩
  refine wp_region_ext (by kernel_rfl) (by kernel_rfl) ?_
  repeat (first | go_big_quiet_step ((first | fail)) | quiet_step ((first | fail)))
  refine wpQuiet_nil ?_
  rintro w1 ⟨⟨_, hb⟩, rfl⟩
  clear hne hk0 hk1 hk2 hk3 hk4 hk5 hk6 hk7 hk8 hk9 hk10 hk11 hk12
  go_wp2
  go_ret
  exact ⟨rfl, by (repeat' (first | (with_reducible exact Below.refl _ _) | (with_reducible assumption) | (with_reducible refine xAlloc ?_ _) | (with_reducible refine Below.drew ?_) | (with_reducible refine xDrewN ?_ _) | (with_reducible refine xThen ?_ (by with_reducible assumption)) | (with_reducible refine Below.setCell ?_ (by first | omega | (simp; omega) | simp) _) | exact Below.refl _ _))⟩

set_option maxRecDepth 100000 in
set_option maxHeartbeats 2000000 in
theorem specGame_c0plf (p c h s : Int) (v1 v2 : Value) (zs ys : List Int) (pl a b wi re tu : Int) (w : World) (I1 : IntsAt w v1 zs) (I2 : IntsAt w v2 ys) (hpre : preB p c h s zs ys pl tu = true) (hz : zeroB a b = true) (ho : overB zs ys = false) (h1 : (pl == 0) = false) :
    Calls Try.prog 105 #[.agg #[.int .i64 p, .int .i64 c, .int .i64 h, .int .i64 s], gameV v1 v2 pl a b 0 wi re tu] w fun e w' => e = .returned (.bool (false)) ∧ Below w.heap.size w w' := by
  unfold gameV
  obtain ⟨a1, c1, rfl, _⟩ := id I1
  obtain ⟨a2, c2, rfl, _⟩ := id I2
  obtain ⟨hv, h4, hbd, hpl, htu⟩ := preB_true hpre
  obtain ⟨_, hz0, hy0'⟩ := boardB_true hbd
  have HZ := hid hz0
  have HY := hid hy0'
  clear hpre hz0 hy0'
  have hz' : (a == 0 && b == 0) = true := by simpa [zeroB] using hz
  have hne0 : ∀ u : World, (binOp .neq 42 (.agg #[.int .i64 a, .int .i64 b]) (.agg #[.int .i64 0, .int .i64 0])).run Try.prog u = .ok (.bool false) u := fun u => by rw [neRoll_run, hz']; rfl
  clear hz hz'
  have HO := hid ho
  clear ho
  go_enter Try.func105, Try.ntmps105
  go_upto_region 3 with (first | (go_at_call 67; (with_reducible refine (specIsVariant_any _ _ _ _ _).mono ?_); rintro e w1 ⟨rfl, hb⟩; obtain ⟨hc, hf⟩ := bcell hb; have hsz := hb.size; (try simp at hsz); (try have hy0 : w.heap.size < w1.heap.size := by omega); (try have hy1 : w.heap.size + 1 < w1.heap.size := by omega); (try have hy2 : w.heap.size + 2 < w1.heap.size := by omega); (try have hyS : ws.heap.size < w1.heap.size := by omega); (try have hyG : wg.heap.size < w1.heap.size := by omega)) | (go_at_call 21; (with_reducible refine (specBoard_any _ _ _ _ _ _ zs ys _ (by (repeat (first | (with_reducible exact IntsAt.made _ _ (by omega) _) | (with_reducible assumption) | (with_reducible refine IntsAt.alloc ?_ _) | (with_reducible refine IntsAt.drew ?_) | (with_reducible refine IntsAt.drewN ?_ _) | (with_reducible refine IntsAt.mono ?_ (by with_reducible assumption))))) (by (repeat (first | (with_reducible exact IntsAt.made _ _ (by omega) _) | (with_reducible assumption) | (with_reducible refine IntsAt.alloc ?_ _) | (with_reducible refine IntsAt.drew ?_) | (with_reducible refine IntsAt.drewN ?_ _) | (with_reducible refine IntsAt.mono ?_ (by with_reducible assumption)))))).mono ?_); rintro e w1 ⟨rfl, hb⟩; obtain ⟨hc, hf⟩ := bcell hb; have hsz := hb.size; (try simp at hsz); (try have hy0 : w.heap.size < w1.heap.size := by omega); (try have hy1 : w.heap.size + 1 < w1.heap.size := by omega); (try have hy2 : w.heap.size + 2 < w1.heap.size := by omega); (try have hyS : ws.heap.size < w1.heap.size := by omega); (try have hyG : wg.heap.size < w1.heap.size := by omega)) | (go_at_call 80; (with_reducible refine (l01In_any _ _ _ _).mono ?_); rintro e w' ⟨rfl, rfl⟩))
  refine wp_named (fun W hW0 => ?_)
  have hW := hid hW0
  clear hW0
  have bW : Below w.heap.size w W := by rw [← hW.out]; (repeat' (first | (with_reducible exact Below.refl _ _) | (with_reducible assumption) | (with_reducible refine xAlloc ?_ _) | (with_reducible refine Below.drew ?_) | (with_reducible refine xDrewN ?_ _) | (with_reducible refine xThen ?_ (by with_reducible assumption)) | (with_reducible refine Below.setCell ?_ (by first | omega | (simp; omega) | simp) _) | exact Below.refl _ _))
  have kW0 : W.cell? ⟨w.heap.size, 0, none⟩ = some (.int .i64 p) := by rw [← hW.out]; go_simp
  have kW1 : W.cell? ⟨w.heap.size, 1, none⟩ = some (.int .i64 c) := by rw [← hW.out]; go_simp
  have kW2 : W.cell? ⟨w.heap.size, 2, none⟩ = some (.int .i64 h) := by rw [← hW.out]; go_simp
  have kW3 : W.cell? ⟨w.heap.size, 3, none⟩ = some (.int .i64 s) := by rw [← hW.out]; go_simp
  have kW4 : W.cell? ⟨w.heap.size + 1, 0, none⟩ = some (.slice a1 zs.length c1) := by rw [← hW.out]; go_simp
  have kW5 : W.cell? ⟨w.heap.size + 1, 1, none⟩ = some (.slice a2 ys.length c2) := by rw [← hW.out]; go_simp
  have kW6 : W.cell? ⟨w.heap.size + 1, 2, none⟩ = some (.int .i64 pl) := by rw [← hW.out]; go_simp
  have kW7 : W.cell? ⟨w.heap.size + 1, 3, none⟩ = some (.int .i64 a) := by rw [← hW.out]; go_simp
  have kW8 : W.cell? ⟨w.heap.size + 1, 4, none⟩ = some (.int .i64 b) := by rw [← hW.out]; go_simp
  have kW9 : W.cell? ⟨w.heap.size + 1, 5, none⟩ = some (.int .i64 0) := by rw [← hW.out]; go_simp
  have kW10 : W.cell? ⟨w.heap.size + 1, 6, none⟩ = some (.int .i64 wi) := by rw [← hW.out]; go_simp
  have kW11 : W.cell? ⟨w.heap.size + 1, 7, none⟩ = some (.int .i64 re) := by rw [← hW.out]; go_simp
  have kW12 : W.cell? ⟨w.heap.size + 1, 8, none⟩ = some (.int .i64 tu) := by rw [← hW.out]; go_simp
  have JW1 := I1.mono bW
  have JW2 := I2.mono bW
  have lW : w.heap.size + 1 < W.heap.size := cell_block kW4
  clear hW
  go_wp2_with (first | (go_at_call 103; (with_reducible refine (specRoll_any _ _ _ _ _ _ _).mono ?_); rintro e w2 ⟨rfl, hb⟩; have kA0 := xcell hb kW0; have kA1 := xcell hb kW1; have kA2 := xcell hb kW2; have kA3 := xcell hb kW3; have kA4 := xcell hb kW4; have kA5 := xcell hb kW5; have kA6 := xcell hb kW6; have kA7 := xcell hb kW7; have kA8 := xcell hb kW8; have kA9 := xcell hb kW9; have kA10 := xcell hb kW10; have kA11 := xcell hb kW11; have kA12 := xcell hb kW12; have JA1 := JW1.mono hb; have JA2 := JW2.mono hb; have BA := xThen bW hb) | (go_at_call 110; (with_reducible refine (specOver_any _ _ zs ys _ (by (repeat (first | (with_reducible exact IntsAt.made _ _ (by omega) _) | (with_reducible assumption) | (with_reducible refine IntsAt.alloc ?_ _) | (with_reducible refine IntsAt.drew ?_) | (with_reducible refine IntsAt.drewN ?_ _) | (with_reducible refine IntsAt.mono ?_ (by with_reducible assumption))))) (by (repeat (first | (with_reducible exact IntsAt.made _ _ (by omega) _) | (with_reducible assumption) | (with_reducible refine IntsAt.alloc ?_ _) | (with_reducible refine IntsAt.drew ?_) | (with_reducible refine IntsAt.drewN ?_ _) | (with_reducible refine IntsAt.mono ?_ (by with_reducible assumption))))) HZ.out HY.out).mono ?_); rw [HO.out]; rintro e w3 ⟨rfl, hb⟩; (first | (have kB0 := xcell hb kA0; have kB1 := xcell hb kA1; have kB2 := xcell hb kA2; have kB3 := xcell hb kA3; have kB4 := xcell hb kA4; have kB5 := xcell hb kA5; have kB6 := xcell hb kA6; have kB7 := xcell hb kA7; have kB8 := xcell hb kA8; have kB9 := xcell hb kA9; have kB10 := xcell hb kA10; have kB11 := xcell hb kA11; have kB12 := xcell hb kA12; have BB := xThen BA hb; have JB1 := JA1.mono hb; have JB2 := JA2.mono hb) | (have kB0 := xcell hb kW0; have kB1 := xcell hb kW1; have kB2 := xcell hb kW2; have kB3 := xcell hb kW3; have kB4 := xcell hb kW4; have kB5 := xcell hb kW5; have kB6 := xcell hb kW6; have kB7 := xcell hb kW7; have kB8 := xcell hb kW8; have kB9 := xcell hb kW9; have kB10 := xcell hb kW10; have kB11 := xcell hb kW11; have kB12 := xcell hb kW12; have BB := xThen bW hb; have JB1 := JW1.mono hb; have JB2 := JW2.mono hb))))
  have hk0 := fun xe : ExtW w3 => xe.cell kB0
  have hk1 := fun xe : ExtW w3 => xe.cell kB1
  have hk2 := fun xe : ExtW w3 => xe.cell kB2
  have hk3 := fun xe : ExtW w3 => xe.cell kB3
  have hk4 := fun xe : ExtW w3 => xe.cell kB4
  have hk5 := fun xe : ExtW w3 => xe.cell kB5
  have hk6 := fun xe : ExtW w3 => xe.cell kB6
  have hk7 := fun xe : ExtW w3 => xe.cell kB7
  have hk8 := fun xe : ExtW w3 => xe.cell kB8
  have hk9 := fun xe : ExtW w3 => xe.cell kB9
  have hk10 := fun xe : ExtW w3 => xe.cell kB10
  have hk11 := fun xe : ExtW w3 => xe.cell kB11
  have hk12 := fun xe : ExtW w3 => xe.cell kB12
  have hne : Nonempty (ExtW w3) := ⟨⟨_, Below.refl _ _⟩⟩
  refine wp_region_ext (by kernel_rfl) (by kernel_rfl) ?_
  repeat (first | go_big_quiet_step ((first | fail)) | quiet_step ((first | fail)))
  refine wpQuiet_nil ?_
  rintro w1 ⟨⟨_, hb⟩, rfl⟩
  clear hne hk0 hk1 hk2 hk3 hk4 hk5 hk6 hk7 hk8 hk9 hk10 hk11 hk12
  go_wp2
  go_ret
  exact ⟨rfl, by (repeat' (first | (with_reducible exact Below.refl _ _) | (with_reducible assumption) | (with_reducible refine xAlloc ?_ _) | (with_reducible refine Below.drew ?_) | (with_reducible refine xDrewN ?_ _) | (with_reducible refine xThen ?_ (by with_reducible assumption)) | (with_reducible refine Below.setCell ?_ (by first | omega | (simp; omega) | simp) _) | exact Below.refl _ _))⟩

set_option maxRecDepth 100000 in
set_option maxHeartbeats 2000000 in
theorem specGame_c0tut (p c h s : Int) (v1 v2 : Value) (zs ys : List Int) (pl a b wi re tu : Int) (w : World) (I1 : IntsAt w v1 zs) (I2 : IntsAt w v2 ys) (hpre : preB p c h s zs ys pl tu = true) (hz : zeroB a b = true) (ho : overB zs ys = true) (h1 : (pl == 0) = true) (h2 : (tu == 0) = false) :
    Calls Try.prog 105 #[.agg #[.int .i64 p, .int .i64 c, .int .i64 h, .int .i64 s], gameV v1 v2 pl a b 0 wi re tu] w fun e w' => e = .returned (.bool (false)) ∧ Below w.heap.size w w' := by
  unfold gameV
  obtain ⟨a1, c1, rfl, _⟩ := id I1
  obtain ⟨a2, c2, rfl, _⟩ := id I2
  obtain ⟨hv, h4, hbd, hpl, htu⟩ := preB_true hpre
  obtain ⟨_, hz0, hy0'⟩ := boardB_true hbd
  have HZ := hid hz0
  have HY := hid hy0'
  clear hpre hz0 hy0'
  have hz' : (a == 0 && b == 0) = true := by simpa [zeroB] using hz
  have hne0 : ∀ u : World, (binOp .neq 42 (.agg #[.int .i64 a, .int .i64 b]) (.agg #[.int .i64 0, .int .i64 0])).run Try.prog u = .ok (.bool false) u := fun u => by rw [neRoll_run, hz']; rfl
  clear hz hz'
  have HO := hid ho
  clear ho
  go_enter Try.func105, Try.ntmps105
  go_upto_region 3 with (first | (go_at_call 67; (with_reducible refine (specIsVariant_any _ _ _ _ _).mono ?_); rintro e w1 ⟨rfl, hb⟩; obtain ⟨hc, hf⟩ := bcell hb; have hsz := hb.size; (try simp at hsz); (try have hy0 : w.heap.size < w1.heap.size := by omega); (try have hy1 : w.heap.size + 1 < w1.heap.size := by omega); (try have hy2 : w.heap.size + 2 < w1.heap.size := by omega); (try have hyS : ws.heap.size < w1.heap.size := by omega); (try have hyG : wg.heap.size < w1.heap.size := by omega)) | (go_at_call 21; (with_reducible refine (specBoard_any _ _ _ _ _ _ zs ys _ (by (repeat (first | (with_reducible exact IntsAt.made _ _ (by omega) _) | (with_reducible assumption) | (with_reducible refine IntsAt.alloc ?_ _) | (with_reducible refine IntsAt.drew ?_) | (with_reducible refine IntsAt.drewN ?_ _) | (with_reducible refine IntsAt.mono ?_ (by with_reducible assumption))))) (by (repeat (first | (with_reducible exact IntsAt.made _ _ (by omega) _) | (with_reducible assumption) | (with_reducible refine IntsAt.alloc ?_ _) | (with_reducible refine IntsAt.drew ?_) | (with_reducible refine IntsAt.drewN ?_ _) | (with_reducible refine IntsAt.mono ?_ (by with_reducible assumption)))))).mono ?_); rintro e w1 ⟨rfl, hb⟩; obtain ⟨hc, hf⟩ := bcell hb; have hsz := hb.size; (try simp at hsz); (try have hy0 : w.heap.size < w1.heap.size := by omega); (try have hy1 : w.heap.size + 1 < w1.heap.size := by omega); (try have hy2 : w.heap.size + 2 < w1.heap.size := by omega); (try have hyS : ws.heap.size < w1.heap.size := by omega); (try have hyG : wg.heap.size < w1.heap.size := by omega)) | (go_at_call 80; (with_reducible refine (l01In_any _ _ _ _).mono ?_); rintro e w' ⟨rfl, rfl⟩))
  refine wp_named (fun W hW0 => ?_)
  have hW := hid hW0
  clear hW0
  have bW : Below w.heap.size w W := by rw [← hW.out]; (repeat' (first | (with_reducible exact Below.refl _ _) | (with_reducible assumption) | (with_reducible refine xAlloc ?_ _) | (with_reducible refine Below.drew ?_) | (with_reducible refine xDrewN ?_ _) | (with_reducible refine xThen ?_ (by with_reducible assumption)) | (with_reducible refine Below.setCell ?_ (by first | omega | (simp; omega) | simp) _) | exact Below.refl _ _))
  have kW0 : W.cell? ⟨w.heap.size, 0, none⟩ = some (.int .i64 p) := by rw [← hW.out]; go_simp
  have kW1 : W.cell? ⟨w.heap.size, 1, none⟩ = some (.int .i64 c) := by rw [← hW.out]; go_simp
  have kW2 : W.cell? ⟨w.heap.size, 2, none⟩ = some (.int .i64 h) := by rw [← hW.out]; go_simp
  have kW3 : W.cell? ⟨w.heap.size, 3, none⟩ = some (.int .i64 s) := by rw [← hW.out]; go_simp
  have kW4 : W.cell? ⟨w.heap.size + 1, 0, none⟩ = some (.slice a1 zs.length c1) := by rw [← hW.out]; go_simp
  have kW5 : W.cell? ⟨w.heap.size + 1, 1, none⟩ = some (.slice a2 ys.length c2) := by rw [← hW.out]; go_simp
  have kW6 : W.cell? ⟨w.heap.size + 1, 2, none⟩ = some (.int .i64 pl) := by rw [← hW.out]; go_simp
  have kW7 : W.cell? ⟨w.heap.size + 1, 3, none⟩ = some (.int .i64 a) := by rw [← hW.out]; go_simp
  have kW8 : W.cell? ⟨w.heap.size + 1, 4, none⟩ = some (.int .i64 b) := by rw [← hW.out]; go_simp
  have kW9 : W.cell? ⟨w.heap.size + 1, 5, none⟩ = some (.int .i64 0) := by rw [← hW.out]; go_simp
  have kW10 : W.cell? ⟨w.heap.size + 1, 6, none⟩ = some (.int .i64 wi) := by rw [← hW.out]; go_simp
  have kW11 : W.cell? ⟨w.heap.size + 1, 7, none⟩ = some (.int .i64 re) := by rw [← hW.out]; go_simp
  have kW12 : W.cell? ⟨w.heap.size + 1, 8, none⟩ = some (.int .i64 tu) := by rw [← hW.out]; go_simp
  have JW1 := I1.mono bW
  have JW2 := I2.mono bW
  have lW : w.heap.size + 1 < W.heap.size := cell_block kW4
  clear hW
  go_wp2_with (first | (go_at_call 103; (with_reducible refine (specRoll_any _ _ _ _ _ _ _).mono ?_); rintro e w2 ⟨rfl, hb⟩; have kA0 := xcell hb kW0; have kA1 := xcell hb kW1; have kA2 := xcell hb kW2; have kA3 := xcell hb kW3; have kA4 := xcell hb kW4; have kA5 := xcell hb kW5; have kA6 := xcell hb kW6; have kA7 := xcell hb kW7; have kA8 := xcell hb kW8; have kA9 := xcell hb kW9; have kA10 := xcell hb kW10; have kA11 := xcell hb kW11; have kA12 := xcell hb kW12; have JA1 := JW1.mono hb; have JA2 := JW2.mono hb; have BA := xThen bW hb) | (go_at_call 110; (with_reducible refine (specOver_any _ _ zs ys _ (by (repeat (first | (with_reducible exact IntsAt.made _ _ (by omega) _) | (with_reducible assumption) | (with_reducible refine IntsAt.alloc ?_ _) | (with_reducible refine IntsAt.drew ?_) | (with_reducible refine IntsAt.drewN ?_ _) | (with_reducible refine IntsAt.mono ?_ (by with_reducible assumption))))) (by (repeat (first | (with_reducible exact IntsAt.made _ _ (by omega) _) | (with_reducible assumption) | (with_reducible refine IntsAt.alloc ?_ _) | (with_reducible refine IntsAt.drew ?_) | (with_reducible refine IntsAt.drewN ?_ _) | (with_reducible refine IntsAt.mono ?_ (by with_reducible assumption))))) HZ.out HY.out).mono ?_); rw [HO.out]; rintro e w3 ⟨rfl, hb⟩; (first | (have kB0 := xcell hb kA0; have kB1 := xcell hb kA1; have kB2 := xcell hb kA2; have kB3 := xcell hb kA3; have kB4 := xcell hb kA4; have kB5 := xcell hb kA5; have kB6 := xcell hb kA6; have kB7 := xcell hb kA7; have kB8 := xcell hb kA8; have kB9 := xcell hb kA9; have kB10 := xcell hb kA10; have kB11 := xcell hb kA11; have kB12 := xcell hb kA12; have BB := xThen BA hb; have JB1 := JA1.mono hb; have JB2 := JA2.mono hb) | (have kB0 := xcell hb kW0; have kB1 := xcell hb kW1; have kB2 := xcell hb kW2; have kB3 := xcell hb kW3; have kB4 := xcell hb kW4; have kB5 := xcell hb kW5; have kB6 := xcell hb kW6; have kB7 := xcell hb kW7; have kB8 := xcell hb kW8; have kB9 := xcell hb kW9; have kB10 := xcell hb kW10; have kB11 := xcell hb kW11; have kB12 := xcell hb kW12; have BB := xThen bW hb; have JB1 := JW1.mono hb; have JB2 := JW2.mono hb))))
  have hk0 := fun xe : ExtW w3 => xe.cell kB0
  have hk1 := fun xe : ExtW w3 => xe.cell kB1
  have hk2 := fun xe : ExtW w3 => xe.cell kB2
  have hk3 := fun xe : ExtW w3 => xe.cell kB3
  have hk4 := fun xe : ExtW w3 => xe.cell kB4
  have hk5 := fun xe : ExtW w3 => xe.cell kB5
  have hk6 := fun xe : ExtW w3 => xe.cell kB6
  have hk7 := fun xe : ExtW w3 => xe.cell kB7
  have hk8 := fun xe : ExtW w3 => xe.cell kB8
  have hk9 := fun xe : ExtW w3 => xe.cell kB9
  have hk10 := fun xe : ExtW w3 => xe.cell kB10
  have hk11 := fun xe : ExtW w3 => xe.cell kB11
  have hk12 := fun xe : ExtW w3 => xe.cell kB12
  have hne : Nonempty (ExtW w3) := ⟨⟨_, Below.refl _ _⟩⟩
  refine wp_region_ext (by kernel_rfl) (by kernel_rfl) ?_
  repeat (first | go_big_quiet_step ((first | fail)) | quiet_step ((first | fail)))
  refine wpQuiet_nil ?_
  rintro w1 ⟨⟨_, hb⟩, rfl⟩
  clear hne hk0 hk1 hk2 hk3 hk4 hk5 hk6 hk7 hk8 hk9 hk10 hk11 hk12
  go_wp2
  go_ret
  exact ⟨rfl, by (repeat' (first | (with_reducible exact Below.refl _ _) | (with_reducible assumption) | (with_reducible refine xAlloc ?_ _) | (with_reducible refine Below.drew ?_) | (with_reducible refine xDrewN ?_ _) | (with_reducible refine xThen ?_ (by with_reducible assumption)) | (with_reducible refine Below.setCell ?_ (by first | omega | (simp; omega) | simp) _) | exact Below.refl _ _))⟩

set_option maxRecDepth 100000 in
set_option maxHeartbeats 2000000 in
theorem specGame_c0tuf (p c h s : Int) (v1 v2 : Value) (zs ys : List Int) (pl a b wi re tu : Int) (w : World) (I1 : IntsAt w v1 zs) (I2 : IntsAt w v2 ys) (hpre : preB p c h s zs ys pl tu = true) (hz : zeroB a b = true) (ho : overB zs ys = false) (h1 : (pl == 0) = true) (h2 : (tu == 0) = false) :
    Calls Try.prog 105 #[.agg #[.int .i64 p, .int .i64 c, .int .i64 h, .int .i64 s], gameV v1 v2 pl a b 0 wi re tu] w fun e w' => e = .returned (.bool (false)) ∧ Below w.heap.size w w' := by
  unfold gameV
  obtain ⟨a1, c1, rfl, _⟩ := id I1
  obtain ⟨a2, c2, rfl, _⟩ := id I2
  obtain ⟨hv, h4, hbd, hpl, htu⟩ := preB_true hpre
  obtain ⟨_, hz0, hy0'⟩ := boardB_true hbd
  have HZ := hid hz0
  have HY := hid hy0'
  clear hpre hz0 hy0'
  have hz' : (a == 0 && b == 0) = true := by simpa [zeroB] using hz
  have hne0 : ∀ u : World, (binOp .neq 42 (.agg #[.int .i64 a, .int .i64 b]) (.agg #[.int .i64 0, .int .i64 0])).run Try.prog u = .ok (.bool false) u := fun u => by rw [neRoll_run, hz']; rfl
  clear hz hz'
  have HO := hid ho
  clear ho
  go_enter Try.func105, Try.ntmps105
  go_upto_region 3 with (first | (go_at_call 67; (with_reducible refine (specIsVariant_any _ _ _ _ _).mono ?_); rintro e w1 ⟨rfl, hb⟩; obtain ⟨hc, hf⟩ := bcell hb; have hsz := hb.size; (try simp at hsz); (try have hy0 : w.heap.size < w1.heap.size := by omega); (try have hy1 : w.heap.size + 1 < w1.heap.size := by omega); (try have hy2 : w.heap.size + 2 < w1.heap.size := by omega); (try have hyS : ws.heap.size < w1.heap.size := by omega); (try have hyG : wg.heap.size < w1.heap.size := by omega)) | (go_at_call 21; (with_reducible refine (specBoard_any _ _ _ _ _ _ zs ys _ (by (repeat (first | (with_reducible exact IntsAt.made _ _ (by omega) _) | (with_reducible assumption) | (with_reducible refine IntsAt.alloc ?_ _) | (with_reducible refine IntsAt.drew ?_) | (with_reducible refine IntsAt.drewN ?_ _) | (with_reducible refine IntsAt.mono ?_ (by with_reducible assumption))))) (by (repeat (first | (with_reducible exact IntsAt.made _ _ (by omega) _) | (with_reducible assumption) | (with_reducible refine IntsAt.alloc ?_ _) | (with_reducible refine IntsAt.drew ?_) | (with_reducible refine IntsAt.drewN ?_ _) | (with_reducible refine IntsAt.mono ?_ (by with_reducible assumption)))))).mono ?_); rintro e w1 ⟨rfl, hb⟩; obtain ⟨hc, hf⟩ := bcell hb; have hsz := hb.size; (try simp at hsz); (try have hy0 : w.heap.size < w1.heap.size := by omega); (try have hy1 : w.heap.size + 1 < w1.heap.size := by omega); (try have hy2 : w.heap.size + 2 < w1.heap.size := by omega); (try have hyS : ws.heap.size < w1.heap.size := by omega); (try have hyG : wg.heap.size < w1.heap.size := by omega)) | (go_at_call 80; (with_reducible refine (l01In_any _ _ _ _).mono ?_); rintro e w' ⟨rfl, rfl⟩))
  refine wp_named (fun W hW0 => ?_)
  have hW := hid hW0
  clear hW0
  have bW : Below w.heap.size w W := by rw [← hW.out]; (repeat' (first | (with_reducible exact Below.refl _ _) | (with_reducible assumption) | (with_reducible refine xAlloc ?_ _) | (with_reducible refine Below.drew ?_) | (with_reducible refine xDrewN ?_ _) | (with_reducible refine xThen ?_ (by with_reducible assumption)) | (with_reducible refine Below.setCell ?_ (by first | omega | (simp; omega) | simp) _) | exact Below.refl _ _))
  have kW0 : W.cell? ⟨w.heap.size, 0, none⟩ = some (.int .i64 p) := by rw [← hW.out]; go_simp
  have kW1 : W.cell? ⟨w.heap.size, 1, none⟩ = some (.int .i64 c) := by rw [← hW.out]; go_simp
  have kW2 : W.cell? ⟨w.heap.size, 2, none⟩ = some (.int .i64 h) := by rw [← hW.out]; go_simp
  have kW3 : W.cell? ⟨w.heap.size, 3, none⟩ = some (.int .i64 s) := by rw [← hW.out]; go_simp
  have kW4 : W.cell? ⟨w.heap.size + 1, 0, none⟩ = some (.slice a1 zs.length c1) := by rw [← hW.out]; go_simp
  have kW5 : W.cell? ⟨w.heap.size + 1, 1, none⟩ = some (.slice a2 ys.length c2) := by rw [← hW.out]; go_simp
  have kW6 : W.cell? ⟨w.heap.size + 1, 2, none⟩ = some (.int .i64 pl) := by rw [← hW.out]; go_simp
  have kW7 : W.cell? ⟨w.heap.size + 1, 3, none⟩ = some (.int .i64 a) := by rw [← hW.out]; go_simp
  have kW8 : W.cell? ⟨w.heap.size + 1, 4, none⟩ = some (.int .i64 b) := by rw [← hW.out]; go_simp
  have kW9 : W.cell? ⟨w.heap.size + 1, 5, none⟩ = some (.int .i64 0) := by rw [← hW.out]; go_simp
  have kW10 : W.cell? ⟨w.heap.size + 1, 6, none⟩ = some (.int .i64 wi) := by rw [← hW.out]; go_simp
  have kW11 : W.cell? ⟨w.heap.size + 1, 7, none⟩ = some (.int .i64 re) := by rw [← hW.out]; go_simp
  have kW12 : W.cell? ⟨w.heap.size + 1, 8, none⟩ = some (.int .i64 tu) := by rw [← hW.out]; go_simp
  have JW1 := I1.mono bW
  have JW2 := I2.mono bW
  have lW : w.heap.size + 1 < W.heap.size := cell_block kW4
  clear hW
  go_wp2_with (first | (go_at_call 103; (with_reducible refine (specRoll_any _ _ _ _ _ _ _).mono ?_); rintro e w2 ⟨rfl, hb⟩; have kA0 := xcell hb kW0; have kA1 := xcell hb kW1; have kA2 := xcell hb kW2; have kA3 := xcell hb kW3; have kA4 := xcell hb kW4; have kA5 := xcell hb kW5; have kA6 := xcell hb kW6; have kA7 := xcell hb kW7; have kA8 := xcell hb kW8; have kA9 := xcell hb kW9; have kA10 := xcell hb kW10; have kA11 := xcell hb kW11; have kA12 := xcell hb kW12; have JA1 := JW1.mono hb; have JA2 := JW2.mono hb; have BA := xThen bW hb) | (go_at_call 110; (with_reducible refine (specOver_any _ _ zs ys _ (by (repeat (first | (with_reducible exact IntsAt.made _ _ (by omega) _) | (with_reducible assumption) | (with_reducible refine IntsAt.alloc ?_ _) | (with_reducible refine IntsAt.drew ?_) | (with_reducible refine IntsAt.drewN ?_ _) | (with_reducible refine IntsAt.mono ?_ (by with_reducible assumption))))) (by (repeat (first | (with_reducible exact IntsAt.made _ _ (by omega) _) | (with_reducible assumption) | (with_reducible refine IntsAt.alloc ?_ _) | (with_reducible refine IntsAt.drew ?_) | (with_reducible refine IntsAt.drewN ?_ _) | (with_reducible refine IntsAt.mono ?_ (by with_reducible assumption))))) HZ.out HY.out).mono ?_); rw [HO.out]; rintro e w3 ⟨rfl, hb⟩; (first | (have kB0 := xcell hb kA0; have kB1 := xcell hb kA1; have kB2 := xcell hb kA2; have kB3 := xcell hb kA3; have kB4 := xcell hb kA4; have kB5 := xcell hb kA5; have kB6 := xcell hb kA6; have kB7 := xcell hb kA7; have kB8 := xcell hb kA8; have kB9 := xcell hb kA9; have kB10 := xcell hb kA10; have kB11 := xcell hb kA11; have kB12 := xcell hb kA12; have BB := xThen BA hb; have JB1 := JA1.mono hb; have JB2 := JA2.mono hb) | (have kB0 := xcell hb kW0; have kB1 := xcell hb kW1; have kB2 := xcell hb kW2; have kB3 := xcell hb kW3; have kB4 := xcell hb kW4; have kB5 := xcell hb kW5; have kB6 := xcell hb kW6; have kB7 := xcell hb kW7; have kB8 := xcell hb kW8; have kB9 := xcell hb kW9; have kB10 := xcell hb kW10; have kB11 := xcell hb kW11; have kB12 := xcell hb kW12; have BB := xThen bW hb; have JB1 := JW1.mono hb; have JB2 := JW2.mono hb))))
  have hk0 := fun xe : ExtW w3 => xe.cell kB0
  have hk1 := fun xe : ExtW w3 => xe.cell kB1
  have hk2 := fun xe : ExtW w3 => xe.cell kB2
  have hk3 := fun xe : ExtW w3 => xe.cell kB3
  have hk4 := fun xe : ExtW w3 => xe.cell kB4
  have hk5 := fun xe : ExtW w3 => xe.cell kB5
  have hk6 := fun xe : ExtW w3 => xe.cell kB6
  have hk7 := fun xe : ExtW w3 => xe.cell kB7
  have hk8 := fun xe : ExtW w3 => xe.cell kB8
  have hk9 := fun xe : ExtW w3 => xe.cell kB9
  have hk10 := fun xe : ExtW w3 => xe.cell kB10
  have hk11 := fun xe : ExtW w3 => xe.cell kB11
  have hk12 := fun xe : ExtW w3 => xe.cell kB12
  have hne : Nonempty (ExtW w3) := ⟨⟨_, Below.refl _ _⟩⟩
  refine wp_region_ext (by kernel_rfl) (by kernel_rfl) ?_
  repeat (first | go_big_quiet_step ((first | fail)) | quiet_step ((first | fail)))
  refine wpQuiet_nil ?_
  rintro w1 ⟨⟨_, hb⟩, rfl⟩
  clear hne hk0 hk1 hk2 hk3 hk4 hk5 hk6 hk7 hk8 hk9 hk10 hk11 hk12
  go_wp2
  go_ret
  exact ⟨rfl, by (repeat' (first | (with_reducible exact Below.refl _ _) | (with_reducible assumption) | (with_reducible refine xAlloc ?_ _) | (with_reducible refine Below.drew ?_) | (with_reducible refine xDrewN ?_ _) | (with_reducible refine xThen ?_ (by with_reducible assumption)) | (with_reducible refine Below.setCell ?_ (by first | omega | (simp; omega) | simp) _) | exact Below.refl _ _))⟩

set_option maxRecDepth 100000 in
set_option maxHeartbeats 2000000 in
theorem specGame_c0wit (p c h s : Int) (v1 v2 : Value) (zs ys : List Int) (pl a b wi re tu : Int) (w : World) (I1 : IntsAt w v1 zs) (I2 : IntsAt w v2 ys) (hpre : preB p c h s zs ys pl tu = true) (hz : zeroB a b = true) (ho : overB zs ys = true) (h1 : (pl == 0) = true) (h2 : (tu == 0) = true) (h3 : (wi == 0) = false) :
    Calls Try.prog 105 #[.agg #[.int .i64 p, .int .i64 c, .int .i64 h, .int .i64 s], gameV v1 v2 pl a b 0 wi re tu] w fun e w' => e = .returned (.bool (false)) ∧ Below w.heap.size w w' := by
  unfold gameV
  obtain ⟨a1, c1, rfl, _⟩ := id I1
  obtain ⟨a2, c2, rfl, _⟩ := id I2
  obtain ⟨hv, h4, hbd, hpl, htu⟩ := preB_true hpre
  obtain ⟨_, hz0, hy0'⟩ := boardB_true hbd
  have HZ := hid hz0
  have HY := hid hy0'
  clear hpre hz0 hy0'
  have hz' : (a == 0 && b == 0) = true := by simpa [zeroB] using hz
  have hne0 : ∀ u : World, (binOp .neq 42 (.agg #[.int .i64 a, .int .i64 b]) (.agg #[.int .i64 0, .int .i64 0])).run Try.prog u = .ok (.bool false) u := fun u => by rw [neRoll_run, hz']; rfl
  clear hz hz'
  have HO := hid ho
  clear ho
  go_enter Try.func105, Try.ntmps105
  go_upto_region 3 with (first | (go_at_call 67; (with_reducible refine (specIsVariant_any _ _ _ _ _).mono ?_); rintro e w1 ⟨rfl, hb⟩; obtain ⟨hc, hf⟩ := bcell hb; have hsz := hb.size; (try simp at hsz); (try have hy0 : w.heap.size < w1.heap.size := by omega); (try have hy1 : w.heap.size + 1 < w1.heap.size := by omega); (try have hy2 : w.heap.size + 2 < w1.heap.size := by omega); (try have hyS : ws.heap.size < w1.heap.size := by omega); (try have hyG : wg.heap.size < w1.heap.size := by omega)) | (go_at_call 21; (with_reducible refine (specBoard_any _ _ _ _ _ _ zs ys _ (by (repeat (first | (with_reducible exact IntsAt.made _ _ (by omega) _) | (with_reducible assumption) | (with_reducible refine IntsAt.alloc ?_ _) | (with_reducible refine IntsAt.drew ?_) | (with_reducible refine IntsAt.drewN ?_ _) | (with_reducible refine IntsAt.mono ?_ (by with_reducible assumption))))) (by (repeat (first | (with_reducible exact IntsAt.made _ _ (by omega) _) | (with_reducible assumption) | (with_reducible refine IntsAt.alloc ?_ _) | (with_reducible refine IntsAt.drew ?_) | (with_reducible refine IntsAt.drewN ?_ _) | (with_reducible refine IntsAt.mono ?_ (by with_reducible assumption)))))).mono ?_); rintro e w1 ⟨rfl, hb⟩; obtain ⟨hc, hf⟩ := bcell hb; have hsz := hb.size; (try simp at hsz); (try have hy0 : w.heap.size < w1.heap.size := by omega); (try have hy1 : w.heap.size + 1 < w1.heap.size := by omega); (try have hy2 : w.heap.size + 2 < w1.heap.size := by omega); (try have hyS : ws.heap.size < w1.heap.size := by omega); (try have hyG : wg.heap.size < w1.heap.size := by omega)) | (go_at_call 80; (with_reducible refine (l01In_any _ _ _ _).mono ?_); rintro e w' ⟨rfl, rfl⟩))
  refine wp_named (fun W hW0 => ?_)
  have hW := hid hW0
  clear hW0
  have bW : Below w.heap.size w W := by rw [← hW.out]; (repeat' (first | (with_reducible exact Below.refl _ _) | (with_reducible assumption) | (with_reducible refine xAlloc ?_ _) | (with_reducible refine Below.drew ?_) | (with_reducible refine xDrewN ?_ _) | (with_reducible refine xThen ?_ (by with_reducible assumption)) | (with_reducible refine Below.setCell ?_ (by first | omega | (simp; omega) | simp) _) | exact Below.refl _ _))
  have kW0 : W.cell? ⟨w.heap.size, 0, none⟩ = some (.int .i64 p) := by rw [← hW.out]; go_simp
  have kW1 : W.cell? ⟨w.heap.size, 1, none⟩ = some (.int .i64 c) := by rw [← hW.out]; go_simp
  have kW2 : W.cell? ⟨w.heap.size, 2, none⟩ = some (.int .i64 h) := by rw [← hW.out]; go_simp
  have kW3 : W.cell? ⟨w.heap.size, 3, none⟩ = some (.int .i64 s) := by rw [← hW.out]; go_simp
  have kW4 : W.cell? ⟨w.heap.size + 1, 0, none⟩ = some (.slice a1 zs.length c1) := by rw [← hW.out]; go_simp
  have kW5 : W.cell? ⟨w.heap.size + 1, 1, none⟩ = some (.slice a2 ys.length c2) := by rw [← hW.out]; go_simp
  have kW6 : W.cell? ⟨w.heap.size + 1, 2, none⟩ = some (.int .i64 pl) := by rw [← hW.out]; go_simp
  have kW7 : W.cell? ⟨w.heap.size + 1, 3, none⟩ = some (.int .i64 a) := by rw [← hW.out]; go_simp
  have kW8 : W.cell? ⟨w.heap.size + 1, 4, none⟩ = some (.int .i64 b) := by rw [← hW.out]; go_simp
  have kW9 : W.cell? ⟨w.heap.size + 1, 5, none⟩ = some (.int .i64 0) := by rw [← hW.out]; go_simp
  have kW10 : W.cell? ⟨w.heap.size + 1, 6, none⟩ = some (.int .i64 wi) := by rw [← hW.out]; go_simp
  have kW11 : W.cell? ⟨w.heap.size + 1, 7, none⟩ = some (.int .i64 re) := by rw [← hW.out]; go_simp
  have kW12 : W.cell? ⟨w.heap.size + 1, 8, none⟩ = some (.int .i64 tu) := by rw [← hW.out]; go_simp
  have JW1 := I1.mono bW
  have JW2 := I2.mono bW
  have lW : w.heap.size + 1 < W.heap.size := cell_block kW4
  clear hW
  go_wp2_with (first | (go_at_call 103; (with_reducible refine (specRoll_any _ _ _ _ _ _ _).mono ?_); rintro e w2 ⟨rfl, hb⟩; have kA0 := xcell hb kW0; have kA1 := xcell hb kW1; have kA2 := xcell hb kW2; have kA3 := xcell hb kW3; have kA4 := xcell hb kW4; have kA5 := xcell hb kW5; have kA6 := xcell hb kW6; have kA7 := xcell hb kW7; have kA8 := xcell hb kW8; have kA9 := xcell hb kW9; have kA10 := xcell hb kW10; have kA11 := xcell hb kW11; have kA12 := xcell hb kW12; have JA1 := JW1.mono hb; have JA2 := JW2.mono hb; have BA := xThen bW hb) | (go_at_call 110; (with_reducible refine (specOver_any _ _ zs ys _ (by (repeat (first | (with_reducible exact IntsAt.made _ _ (by omega) _) | (with_reducible assumption) | (with_reducible refine IntsAt.alloc ?_ _) | (with_reducible refine IntsAt.drew ?_) | (with_reducible refine IntsAt.drewN ?_ _) | (with_reducible refine IntsAt.mono ?_ (by with_reducible assumption))))) (by (repeat (first | (with_reducible exact IntsAt.made _ _ (by omega) _) | (with_reducible assumption) | (with_reducible refine IntsAt.alloc ?_ _) | (with_reducible refine IntsAt.drew ?_) | (with_reducible refine IntsAt.drewN ?_ _) | (with_reducible refine IntsAt.mono ?_ (by with_reducible assumption))))) HZ.out HY.out).mono ?_); rw [HO.out]; rintro e w3 ⟨rfl, hb⟩; (first | (have kB0 := xcell hb kA0; have kB1 := xcell hb kA1; have kB2 := xcell hb kA2; have kB3 := xcell hb kA3; have kB4 := xcell hb kA4; have kB5 := xcell hb kA5; have kB6 := xcell hb kA6; have kB7 := xcell hb kA7; have kB8 := xcell hb kA8; have kB9 := xcell hb kA9; have kB10 := xcell hb kA10; have kB11 := xcell hb kA11; have kB12 := xcell hb kA12; have BB := xThen BA hb; have JB1 := JA1.mono hb; have JB2 := JA2.mono hb) | (have kB0 := xcell hb kW0; have kB1 := xcell hb kW1; have kB2 := xcell hb kW2; have kB3 := xcell hb kW3; have kB4 := xcell hb kW4; have kB5 := xcell hb kW5; have kB6 := xcell hb kW6; have kB7 := xcell hb kW7; have kB8 := xcell hb kW8; have kB9 := xcell hb kW9; have kB10 := xcell hb kW10; have kB11 := xcell hb kW11; have kB12 := xcell hb kW12; have BB := xThen bW hb; have JB1 := JW1.mono hb; have JB2 := JW2.mono hb))))
  have hk0 := fun xe : ExtW w3 => xe.cell kB0
  have hk1 := fun xe : ExtW w3 => xe.cell kB1
  have hk2 := fun xe : ExtW w3 => xe.cell kB2
  have hk3 := fun xe : ExtW w3 => xe.cell kB3
  have hk4 := fun xe : ExtW w3 => xe.cell kB4
  have hk5 := fun xe : ExtW w3 => xe.cell kB5
  have hk6 := fun xe : ExtW w3 => xe.cell kB6
  have hk7 := fun xe : ExtW w3 => xe.cell kB7
  have hk8 := fun xe : ExtW w3 => xe.cell kB8
  have hk9 := fun xe : ExtW w3 => xe.cell kB9
  have hk10 := fun xe : ExtW w3 => xe.cell kB10
  have hk11 := fun xe : ExtW w3 => xe.cell kB11
  have hk12 := fun xe : ExtW w3 => xe.cell kB12
  have hne : Nonempty (ExtW w3) := ⟨⟨_, Below.refl _ _⟩⟩
  refine wp_region_ext (by kernel_rfl) (by kernel_rfl) ?_
  repeat (first | go_big_quiet_step ((first | fail)) | quiet_step ((first | fail)))
  refine wpQuiet_nil ?_
  rintro w1 ⟨⟨_, hb⟩, rfl⟩
  clear hne hk0 hk1 hk2 hk3 hk4 hk5 hk6 hk7 hk8 hk9 hk10 hk11 hk12
  go_wp2
  go_ret
  exact ⟨rfl, by (repeat' (first | (with_reducible exact Below.refl _ _) | (with_reducible assumption) | (with_reducible refine xAlloc ?_ _) | (with_reducible refine Below.drew ?_) | (with_reducible refine xDrewN ?_ _) | (with_reducible refine xThen ?_ (by with_reducible assumption)) | (with_reducible refine Below.setCell ?_ (by first | omega | (simp; omega) | simp) _) | exact Below.refl _ _))⟩

set_option maxRecDepth 100000 in
set_option maxHeartbeats 2000000 in
theorem specGame_c0wif (p c h s : Int) (v1 v2 : Value) (zs ys : List Int) (pl a b wi re tu : Int) (w : World) (I1 : IntsAt w v1 zs) (I2 : IntsAt w v2 ys) (hpre : preB p c h s zs ys pl tu = true) (hz : zeroB a b = true) (ho : overB zs ys = false) (h1 : (pl == 0) = true) (h2 : (tu == 0) = true) (h3 : (wi == 0) = false) :
    Calls Try.prog 105 #[.agg #[.int .i64 p, .int .i64 c, .int .i64 h, .int .i64 s], gameV v1 v2 pl a b 0 wi re tu] w fun e w' => e = .returned (.bool (false)) ∧ Below w.heap.size w w' := by
  unfold gameV
  obtain ⟨a1, c1, rfl, _⟩ := id I1
  obtain ⟨a2, c2, rfl, _⟩ := id I2
  obtain ⟨hv, h4, hbd, hpl, htu⟩ := preB_true hpre
  obtain ⟨_, hz0, hy0'⟩ := boardB_true hbd
  have HZ := hid hz0
  have HY := hid hy0'
  clear hpre hz0 hy0'
  have hz' : (a == 0 && b == 0) = true := by simpa [zeroB] using hz
  have hne0 : ∀ u : World, (binOp .neq 42 (.agg #[.int .i64 a, .int .i64 b]) (.agg #[.int .i64 0, .int .i64 0])).run Try.prog u = .ok (.bool false) u := fun u => by rw [neRoll_run, hz']; rfl
  clear hz hz'
  have HO := hid ho
  clear ho
  go_enter Try.func105, Try.ntmps105
  go_upto_region 3 with (first | (go_at_call 67; (with_reducible refine (specIsVariant_any _ _ _ _ _).mono ?_); rintro e w1 ⟨rfl, hb⟩; obtain ⟨hc, hf⟩ := bcell hb; have hsz := hb.size; (try simp at hsz); (try have hy0 : w.heap.size < w1.heap.size := by omega); (try have hy1 : w.heap.size + 1 < w1.heap.size := by omega); (try have hy2 : w.heap.size + 2 < w1.heap.size := by omega); (try have hyS : ws.heap.size < w1.heap.size := by omega); (try have hyG : wg.heap.size < w1.heap.size := by omega)) | (go_at_call 21; (with_reducible refine (specBoard_any _ _ _ _ _ _ zs ys _ (by (repeat (first | (with_reducible exact IntsAt.made _ _ (by omega) _) | (with_reducible assumption) | (with_reducible refine IntsAt.alloc ?_ _) | (with_reducible refine IntsAt.drew ?_) | (with_reducible refine IntsAt.drewN ?_ _) | (with_reducible refine IntsAt.mono ?_ (by with_reducible assumption))))) (by (repeat (first | (with_reducible exact IntsAt.made _ _ (by omega) _) | (with_reducible assumption) | (with_reducible refine IntsAt.alloc ?_ _) | (with_reducible refine IntsAt.drew ?_) | (with_reducible refine IntsAt.drewN ?_ _) | (with_reducible refine IntsAt.mono ?_ (by with_reducible assumption)))))).mono ?_); rintro e w1 ⟨rfl, hb⟩; obtain ⟨hc, hf⟩ := bcell hb; have hsz := hb.size; (try simp at hsz); (try have hy0 : w.heap.size < w1.heap.size := by omega); (try have hy1 : w.heap.size + 1 < w1.heap.size := by omega); (try have hy2 : w.heap.size + 2 < w1.heap.size := by omega); (try have hyS : ws.heap.size < w1.heap.size := by omega); (try have hyG : wg.heap.size < w1.heap.size := by omega)) | (go_at_call 80; (with_reducible refine (l01In_any _ _ _ _).mono ?_); rintro e w' ⟨rfl, rfl⟩))
  refine wp_named (fun W hW0 => ?_)
  have hW := hid hW0
  clear hW0
  have bW : Below w.heap.size w W := by rw [← hW.out]; (repeat' (first | (with_reducible exact Below.refl _ _) | (with_reducible assumption) | (with_reducible refine xAlloc ?_ _) | (with_reducible refine Below.drew ?_) | (with_reducible refine xDrewN ?_ _) | (with_reducible refine xThen ?_ (by with_reducible assumption)) | (with_reducible refine Below.setCell ?_ (by first | omega | (simp; omega) | simp) _) | exact Below.refl _ _))
  have kW0 : W.cell? ⟨w.heap.size, 0, none⟩ = some (.int .i64 p) := by rw [← hW.out]; go_simp
  have kW1 : W.cell? ⟨w.heap.size, 1, none⟩ = some (.int .i64 c) := by rw [← hW.out]; go_simp
  have kW2 : W.cell? ⟨w.heap.size, 2, none⟩ = some (.int .i64 h) := by rw [← hW.out]; go_simp
  have kW3 : W.cell? ⟨w.heap.size, 3, none⟩ = some (.int .i64 s) := by rw [← hW.out]; go_simp
  have kW4 : W.cell? ⟨w.heap.size + 1, 0, none⟩ = some (.slice a1 zs.length c1) := by rw [← hW.out]; go_simp
  have kW5 : W.cell? ⟨w.heap.size + 1, 1, none⟩ = some (.slice a2 ys.length c2) := by rw [← hW.out]; go_simp
  have kW6 : W.cell? ⟨w.heap.size + 1, 2, none⟩ = some (.int .i64 pl) := by rw [← hW.out]; go_simp
  have kW7 : W.cell? ⟨w.heap.size + 1, 3, none⟩ = some (.int .i64 a) := by rw [← hW.out]; go_simp
  have kW8 : W.cell? ⟨w.heap.size + 1, 4, none⟩ = some (.int .i64 b) := by rw [← hW.out]; go_simp
  have kW9 : W.cell? ⟨w.heap.size + 1, 5, none⟩ = some (.int .i64 0) := by rw [← hW.out]; go_simp
  have kW10 : W.cell? ⟨w.heap.size + 1, 6, none⟩ = some (.int .i64 wi) := by rw [← hW.out]; go_simp
  have kW11 : W.cell? ⟨w.heap.size + 1, 7, none⟩ = some (.int .i64 re) := by rw [← hW.out]; go_simp
  have kW12 : W.cell? ⟨w.heap.size + 1, 8, none⟩ = some (.int .i64 tu) := by rw [← hW.out]; go_simp
  have JW1 := I1.mono bW
  have JW2 := I2.mono bW
  have lW : w.heap.size + 1 < W.heap.size := cell_block kW4
  clear hW
  go_wp2_with (first | (go_at_call 103; (with_reducible refine (specRoll_any _ _ _ _ _ _ _).mono ?_); rintro e w2 ⟨rfl, hb⟩; have kA0 := xcell hb kW0; have kA1 := xcell hb kW1; have kA2 := xcell hb kW2; have kA3 := xcell hb kW3; have kA4 := xcell hb kW4; have kA5 := xcell hb kW5; have kA6 := xcell hb kW6; have kA7 := xcell hb kW7; have kA8 := xcell hb kW8; have kA9 := xcell hb kW9; have kA10 := xcell hb kW10; have kA11 := xcell hb kW11; have kA12 := xcell hb kW12; have JA1 := JW1.mono hb; have JA2 := JW2.mono hb; have BA := xThen bW hb) | (go_at_call 110; (with_reducible refine (specOver_any _ _ zs ys _ (by (repeat (first | (with_reducible exact IntsAt.made _ _ (by omega) _) | (with_reducible assumption) | (with_reducible refine IntsAt.alloc ?_ _) | (with_reducible refine IntsAt.drew ?_) | (with_reducible refine IntsAt.drewN ?_ _) | (with_reducible refine IntsAt.mono ?_ (by with_reducible assumption))))) (by (repeat (first | (with_reducible exact IntsAt.made _ _ (by omega) _) | (with_reducible assumption) | (with_reducible refine IntsAt.alloc ?_ _) | (with_reducible refine IntsAt.drew ?_) | (with_reducible refine IntsAt.drewN ?_ _) | (with_reducible refine IntsAt.mono ?_ (by with_reducible assumption))))) HZ.out HY.out).mono ?_); rw [HO.out]; rintro e w3 ⟨rfl, hb⟩; (first | (have kB0 := xcell hb kA0; have kB1 := xcell hb kA1; have kB2 := xcell hb kA2; have kB3 := xcell hb kA3; have kB4 := xcell hb kA4; have kB5 := xcell hb kA5; have kB6 := xcell hb kA6; have kB7 := xcell hb kA7; have kB8 := xcell hb kA8; have kB9 := xcell hb kA9; have kB10 := xcell hb kA10; have kB11 := xcell hb kA11; have kB12 := xcell hb kA12; have BB := xThen BA hb; have JB1 := JA1.mono hb; have JB2 := JA2.mono hb) | (have kB0 := xcell hb kW0; have kB1 := xcell hb kW1; have kB2 := xcell hb kW2; have kB3 := xcell hb kW3; have kB4 := xcell hb kW4; have kB5 := xcell hb kW5; have kB6 := xcell hb kW6; have kB7 := xcell hb kW7; have kB8 := xcell hb kW8; have kB9 := xcell hb kW9; have kB10 := xcell hb kW10; have kB11 := xcell hb kW11; have kB12 := xcell hb kW12; have BB := xThen bW hb; have JB1 := JW1.mono hb; have JB2 := JW2.mono hb))))
  have hk0 := fun xe : ExtW w3 => xe.cell kB0
  have hk1 := fun xe : ExtW w3 => xe.cell kB1
  have hk2 := fun xe : ExtW w3 => xe.cell kB2
  have hk3 := fun xe : ExtW w3 => xe.cell kB3
  have hk4 := fun xe : ExtW w3 => xe.cell kB4
  have hk5 := fun xe : ExtW w3 => xe.cell kB5
  have hk6 := fun xe : ExtW w3 => xe.cell kB6
  have hk7 := fun xe : ExtW w3 => xe.cell kB7
  have hk8 := fun xe : ExtW w3 => xe.cell kB8
  have hk9 := fun xe : ExtW w3 => xe.cell kB9
  have hk10 := fun xe : ExtW w3 => xe.cell kB10
  have hk11 := fun xe : ExtW w3 => xe.cell kB11
  have hk12 := fun xe : ExtW w3 => xe.cell kB12
  have hne : Nonempty (ExtW w3) := ⟨⟨_, Below.refl _ _⟩⟩
  refine wp_region_ext (by kernel_rfl) (by kernel_rfl) ?_
  repeat (first | go_big_quiet_step ((first | fail)) | quiet_step ((first | fail)))
  refine wpQuiet_nil ?_
  rintro w1 ⟨⟨_, hb⟩, rfl⟩
  clear hne hk0 hk1 hk2 hk3 hk4 hk5 hk6 hk7 hk8 hk9 hk10 hk11 hk12
  go_wp2
  go_ret
  exact ⟨rfl, by (repeat' (first | (with_reducible exact Below.refl _ _) | (with_reducible assumption) | (with_reducible refine xAlloc ?_ _) | (with_reducible refine Below.drew ?_) | (with_reducible refine xDrewN ?_ _) | (with_reducible refine xThen ?_ (by with_reducible assumption)) | (with_reducible refine Below.setCell ?_ (by first | omega | (simp; omega) | simp) _) | exact Below.refl _ _))⟩

set_option maxRecDepth 100000 in
set_option maxHeartbeats 2000000 in
theorem specGame_c0ret (p c h s : Int) (v1 v2 : Value) (zs ys : List Int) (pl a b wi re tu : Int) (w : World) (I1 : IntsAt w v1 zs) (I2 : IntsAt w v2 ys) (hpre : preB p c h s zs ys pl tu = true) (hz : zeroB a b = true) (ho : overB zs ys = true) (h1 : (pl == 0) = true) (h2 : (tu == 0) = true) (h3 : (wi == 0) = true) (h4' : (re == 0) = false) :
    Calls Try.prog 105 #[.agg #[.int .i64 p, .int .i64 c, .int .i64 h, .int .i64 s], gameV v1 v2 pl a b 0 wi re tu] w fun e w' => e = .returned (.bool (false)) ∧ Below w.heap.size w w' := by
  unfold gameV
  obtain ⟨a1, c1, rfl, _⟩ := id I1
  obtain ⟨a2, c2, rfl, _⟩ := id I2
  obtain ⟨hv, h4, hbd, hpl, htu⟩ := preB_true hpre
  obtain ⟨_, hz0, hy0'⟩ := boardB_true hbd
  have HZ := hid hz0
  have HY := hid hy0'
  clear hpre hz0 hy0'
  have hz' : (a == 0 && b == 0) = true := by simpa [zeroB] using hz
  have hne0 : ∀ u : World, (binOp .neq 42 (.agg #[.int .i64 a, .int .i64 b]) (.agg #[.int .i64 0, .int .i64 0])).run Try.prog u = .ok (.bool false) u := fun u => by rw [neRoll_run, hz']; rfl
  clear hz hz'
  have HO := hid ho
  clear ho
  go_enter Try.func105, Try.ntmps105
  go_upto_region 3 with (first | (go_at_call 67; (with_reducible refine (specIsVariant_any _ _ _ _ _).mono ?_); rintro e w1 ⟨rfl, hb⟩; obtain ⟨hc, hf⟩ := bcell hb; have hsz := hb.size; (try simp at hsz); (try have hy0 : w.heap.size < w1.heap.size := by omega); (try have hy1 : w.heap.size + 1 < w1.heap.size := by omega); (try have hy2 : w.heap.size + 2 < w1.heap.size := by omega); (try have hyS : ws.heap.size < w1.heap.size := by omega); (try have hyG : wg.heap.size < w1.heap.size := by omega)) | (go_at_call 21; (with_reducible refine (specBoard_any _ _ _ _ _ _ zs ys _ (by (repeat (first | (with_reducible exact IntsAt.made _ _ (by omega) _) | (with_reducible assumption) | (with_reducible refine IntsAt.alloc ?_ _) | (with_reducible refine IntsAt.drew ?_) | (with_reducible refine IntsAt.drewN ?_ _) | (with_reducible refine IntsAt.mono ?_ (by with_reducible assumption))))) (by (repeat (first | (with_reducible exact IntsAt.made _ _ (by omega) _) | (with_reducible assumption) | (with_reducible refine IntsAt.alloc ?_ _) | (with_reducible refine IntsAt.drew ?_) | (with_reducible refine IntsAt.drewN ?_ _) | (with_reducible refine IntsAt.mono ?_ (by with_reducible assumption)))))).mono ?_); rintro e w1 ⟨rfl, hb⟩; obtain ⟨hc, hf⟩ := bcell hb; have hsz := hb.size; (try simp at hsz); (try have hy0 : w.heap.size < w1.heap.size := by omega); (try have hy1 : w.heap.size + 1 < w1.heap.size := by omega); (try have hy2 : w.heap.size + 2 < w1.heap.size := by omega); (try have hyS : ws.heap.size < w1.heap.size := by omega); (try have hyG : wg.heap.size < w1.heap.size := by omega)) | (go_at_call 80; (with_reducible refine (l01In_any _ _ _ _).mono ?_); rintro e w' ⟨rfl, rfl⟩))
  refine wp_named (fun W hW0 => ?_)
  have hW := hid hW0
  clear hW0
  have bW : Below w.heap.size w W := by rw [← hW.out]; (repeat' (first | (with_reducible exact Below.refl _ _) | (with_reducible assumption) | (with_reducible refine xAlloc ?_ _) | (with_reducible refine Below.drew ?_) | (with_reducible refine xDrewN ?_ _) | (with_reducible refine xThen ?_ (by with_reducible assumption)) | (with_reducible refine Below.setCell ?_ (by first | omega | (simp; omega) | simp) _) | exact Below.refl _ _))
  have kW0 : W.cell? ⟨w.heap.size, 0, none⟩ = some (.int .i64 p) := by rw [← hW.out]; go_simp
  have kW1 : W.cell? ⟨w.heap.size, 1, none⟩ = some (.int .i64 c) := by rw [← hW.out]; go_simp
  have kW2 : W.cell? ⟨w.heap.size, 2, none⟩ = some (.int .i64 h) := by rw [← hW.out]; go_simp
  have kW3 : W.cell? ⟨w.heap.size, 3, none⟩ = some (.int .i64 s) := by rw [← hW.out]; go_simp
  have kW4 : W.cell? ⟨w.heap.size + 1, 0, none⟩ = some (.slice a1 zs.length c1) := by rw [← hW.out]; go_simp
  have kW5 : W.cell? ⟨w.heap.size + 1, 1, none⟩ = some (.slice a2 ys.length c2) := by rw [← hW.out]; go_simp
  have kW6 : W.cell? ⟨w.heap.size + 1, 2, none⟩ = some (.int .i64 pl) := by rw [← hW.out]; go_simp
  have kW7 : W.cell? ⟨w.heap.size + 1, 3, none⟩ = some (.int .i64 a) := by rw [← hW.out]; go_simp
  have kW8 : W.cell? ⟨w.heap.size + 1, 4, none⟩ = some (.int .i64 b) := by rw [← hW.out]; go_simp
  have kW9 : W.cell? ⟨w.heap.size + 1, 5, none⟩ = some (.int .i64 0) := by rw [← hW.out]; go_simp
  have kW10 : W.cell? ⟨w.heap.size + 1, 6, none⟩ = some (.int .i64 wi) := by rw [← hW.out]; go_simp
  have kW11 : W.cell? ⟨w.heap.size + 1, 7, none⟩ = some (.int .i64 re) := by rw [← hW.out]; go_simp
  have kW12 : W.cell? ⟨w.heap.size + 1, 8, none⟩ = some (.int .i64 tu) := by rw [← hW.out]; go_simp
  have JW1 := I1.mono bW
  have JW2 := I2.mono bW
  have lW : w.heap.size + 1 < W.heap.size := cell_block kW4
  clear hW
  go_wp2_with (first | (go_at_call 103; (with_reducible refine (specRoll_any _ _ _ _ _ _ _).mono ?_); rintro e w2 ⟨rfl, hb⟩; have kA0 := xcell hb kW0; have kA1 := xcell hb kW1; have kA2 := xcell hb kW2; have kA3 := xcell hb kW3; have kA4 := xcell hb kW4; have kA5 := xcell hb kW5; have kA6 := xcell hb kW6; have kA7 := xcell hb kW7; have kA8 := xcell hb kW8; have kA9 := xcell hb kW9; have kA10 := xcell hb kW10; have kA11 := xcell hb kW11; have kA12 := xcell hb kW12; have JA1 := JW1.mono hb; have JA2 := JW2.mono hb; have BA := xThen bW hb) | (go_at_call 110; (with_reducible refine (specOver_any _ _ zs ys _ (by (repeat (first | (with_reducible exact IntsAt.made _ _ (by omega) _) | (with_reducible assumption) | (with_reducible refine IntsAt.alloc ?_ _) | (with_reducible refine IntsAt.drew ?_) | (with_reducible refine IntsAt.drewN ?_ _) | (with_reducible refine IntsAt.mono ?_ (by with_reducible assumption))))) (by (repeat (first | (with_reducible exact IntsAt.made _ _ (by omega) _) | (with_reducible assumption) | (with_reducible refine IntsAt.alloc ?_ _) | (with_reducible refine IntsAt.drew ?_) | (with_reducible refine IntsAt.drewN ?_ _) | (with_reducible refine IntsAt.mono ?_ (by with_reducible assumption))))) HZ.out HY.out).mono ?_); rw [HO.out]; rintro e w3 ⟨rfl, hb⟩; (first | (have kB0 := xcell hb kA0; have kB1 := xcell hb kA1; have kB2 := xcell hb kA2; have kB3 := xcell hb kA3; have kB4 := xcell hb kA4; have kB5 := xcell hb kA5; have kB6 := xcell hb kA6; have kB7 := xcell hb kA7; have kB8 := xcell hb kA8; have kB9 := xcell hb kA9; have kB10 := xcell hb kA10; have kB11 := xcell hb kA11; have kB12 := xcell hb kA12; have BB := xThen BA hb; have JB1 := JA1.mono hb; have JB2 := JA2.mono hb) | (have kB0 := xcell hb kW0; have kB1 := xcell hb kW1; have kB2 := xcell hb kW2; have kB3 := xcell hb kW3; have kB4 := xcell hb kW4; have kB5 := xcell hb kW5; have kB6 := xcell hb kW6; have kB7 := xcell hb kW7; have kB8 := xcell hb kW8; have kB9 := xcell hb kW9; have kB10 := xcell hb kW10; have kB11 := xcell hb kW11; have kB12 := xcell hb kW12; have BB := xThen bW hb; have JB1 := JW1.mono hb; have JB2 := JW2.mono hb))))
  have hk0 := fun xe : ExtW w3 => xe.cell kB0
  have hk1 := fun xe : ExtW w3 => xe.cell kB1
  have hk2 := fun xe : ExtW w3 => xe.cell kB2
  have hk3 := fun xe : ExtW w3 => xe.cell kB3
  have hk4 := fun xe : ExtW w3 => xe.cell kB4
  have hk5 := fun xe : ExtW w3 => xe.cell kB5
  have hk6 := fun xe : ExtW w3 => xe.cell kB6
  have hk7 := fun xe : ExtW w3 => xe.cell kB7
  have hk8 := fun xe : ExtW w3 => xe.cell kB8
  have hk9 := fun xe : ExtW w3 => xe.cell kB9
  have hk10 := fun xe : ExtW w3 => xe.cell kB10
  have hk11 := fun xe : ExtW w3 => xe.cell kB11
  have hk12 := fun xe : ExtW w3 => xe.cell kB12
  have hne : Nonempty (ExtW w3) := ⟨⟨_, Below.refl _ _⟩⟩
  refine wp_region_ext (by kernel_rfl) (by kernel_rfl) ?_
  repeat (first | go_big_quiet_step ((first | fail)) | quiet_step ((first | fail)))
  refine wpQuiet_nil ?_
  rintro w1 ⟨⟨_, hb⟩, rfl⟩
  clear hne hk0 hk1 hk2 hk3 hk4 hk5 hk6 hk7 hk8 hk9 hk10 hk11 hk12
  go_wp2
  go_ret
  exact ⟨rfl, by (repeat' (first | (with_reducible exact Below.refl _ _) | (with_reducible assumption) | (with_reducible refine xAlloc ?_ _) | (with_reducible refine Below.drew ?_) | (with_reducible refine xDrewN ?_ _) | (with_reducible refine xThen ?_ (by with_reducible assumption)) | (with_reducible refine Below.setCell ?_ (by first | omega | (simp; omega) | simp) _) | exact Below.refl _ _))⟩

set_option maxRecDepth 100000 in
set_option maxHeartbeats 2000000 in
theorem specGame_c0ref (p c h s : Int) (v1 v2 : Value) (zs ys : List Int) (pl a b wi re tu : Int) (w : World) (I1 : IntsAt w v1 zs) (I2 : IntsAt w v2 ys) (hpre : preB p c h s zs ys pl tu = true) (hz : zeroB a b = true) (ho : overB zs ys = false) (h1 : (pl == 0) = true) (h2 : (tu == 0) = true) (h3 : (wi == 0) = true) (h4' : (re == 0) = false) :
    Calls Try.prog 105 #[.agg #[.int .i64 p, .int .i64 c, .int .i64 h, .int .i64 s], gameV v1 v2 pl a b 0 wi re tu] w fun e w' => e = .returned (.bool (false)) ∧ Below w.heap.size w w' := by
  unfold gameV
  obtain ⟨a1, c1, rfl, _⟩ := id I1
  obtain ⟨a2, c2, rfl, _⟩ := id I2
  obtain ⟨hv, h4, hbd, hpl, htu⟩ := preB_true hpre
  obtain ⟨_, hz0, hy0'⟩ := boardB_true hbd
  have HZ := hid hz0
  have HY := hid hy0'
  clear hpre hz0 hy0'
  have hz' : (a == 0 && b == 0) = true := by simpa [zeroB] using hz
  have hne0 : ∀ u : World, (binOp .neq 42 (.agg #[.int .i64 a, .int .i64 b]) (.agg #[.int .i64 0, .int .i64 0])).run Try.prog u = .ok (.bool false) u := fun u => by rw [neRoll_run, hz']; rfl
  clear hz hz'
  have HO := hid ho
  clear ho
  go_enter Try.func105, Try.ntmps105
  go_upto_region 3 with (first | (go_at_call 67; (with_reducible refine (specIsVariant_any _ _ _ _ _).mono ?_); rintro e w1 ⟨rfl, hb⟩; obtain ⟨hc, hf⟩ := bcell hb; have hsz := hb.size; (try simp at hsz); (try have hy0 : w.heap.size < w1.heap.size := by omega); (try have hy1 : w.heap.size + 1 < w1.heap.size := by omega); (try have hy2 : w.heap.size + 2 < w1.heap.size := by omega); (try have hyS : ws.heap.size < w1.heap.size := by omega); (try have hyG : wg.heap.size < w1.heap.size := by omega)) | (go_at_call 21; (with_reducible refine (specBoard_any _ _ _ _ _ _ zs ys _ (by (repeat (first | (with_reducible exact IntsAt.made _ _ (by omega) _) | (with_reducible assumption) | (with_reducible refine IntsAt.alloc ?_ _) | (with_reducible refine IntsAt.drew ?_) | (with_reducible refine IntsAt.drewN ?_ _) | (with_reducible refine IntsAt.mono ?_ (by with_reducible assumption))))) (by (repeat (first | (with_reducible exact IntsAt.made _ _ (by omega) _) | (with_reducible assumption) | (with_reducible refine IntsAt.alloc ?_ _) | (with_reducible refine IntsAt.drew ?_) | (with_reducible refine IntsAt.drewN ?_ _) | (with_reducible refine IntsAt.mono ?_ (by with_reducible assumption)))))).mono ?_); rintro e w1 ⟨rfl, hb⟩; obtain ⟨hc, hf⟩ := bcell hb; have hsz := hb.size; (try simp at hsz); (try have hy0 : w.heap.size < w1.heap.size := by omega); (try have hy1 : w.heap.size + 1 < w1.heap.size := by omega); (try have hy2 : w.heap.size + 2 < w1.heap.size := by omega); (try have hyS : ws.heap.size < w1.heap.size := by omega); (try have hyG : wg.heap.size < w1.heap.size := by omega)) | (go_at_call 80; (with_reducible refine (l01In_any _ _ _ _).mono ?_); rintro e w' ⟨rfl, rfl⟩))
  refine wp_named (fun W hW0 => ?_)
  have hW := hid hW0
  clear hW0
  have bW : Below w.heap.size w W := by rw [← hW.out]; (repeat' (first | (with_reducible exact Below.refl _ _) | (with_reducible assumption) | (with_reducible refine xAlloc ?_ _) | (with_reducible refine Below.drew ?_) | (with_reducible refine xDrewN ?_ _) | (with_reducible refine xThen ?_ (by with_reducible assumption)) | (with_reducible refine Below.setCell ?_ (by first | omega | (simp; omega) | simp) _) | exact Below.refl _ _))
  have kW0 : W.cell? ⟨w.heap.size, 0, none⟩ = some (.int .i64 p) := by rw [← hW.out]; go_simp
  have kW1 : W.cell? ⟨w.heap.size, 1, none⟩ = some (.int .i64 c) := by rw [← hW.out]; go_simp
  have kW2 : W.cell? ⟨w.heap.size, 2, none⟩ = some (.int .i64 h) := by rw [← hW.out]; go_simp
  have kW3 : W.cell? ⟨w.heap.size, 3, none⟩ = some (.int .i64 s) := by rw [← hW.out]; go_simp
  have kW4 : W.cell? ⟨w.heap.size + 1, 0, none⟩ = some (.slice a1 zs.length c1) := by rw [← hW.out]; go_simp
  have kW5 : W.cell? ⟨w.heap.size + 1, 1, none⟩ = some (.slice a2 ys.length c2) := by rw [← hW.out]; go_simp
  have kW6 : W.cell? ⟨w.heap.size + 1, 2, none⟩ = some (.int .i64 pl) := by rw [← hW.out]; go_simp
  have kW7 : W.cell? ⟨w.heap.size + 1, 3, none⟩ = some (.int .i64 a) := by rw [← hW.out]; go_simp
  have kW8 : W.cell? ⟨w.heap.size + 1, 4, none⟩ = some (.int .i64 b) := by rw [← hW.out]; go_simp
  have kW9 : W.cell? ⟨w.heap.size + 1, 5, none⟩ = some (.int .i64 0) := by rw [← hW.out]; go_simp
  have kW10 : W.cell? ⟨w.heap.size + 1, 6, none⟩ = some (.int .i64 wi) := by rw [← hW.out]; go_simp
  have kW11 : W.cell? ⟨w.heap.size + 1, 7, none⟩ = some (.int .i64 re) := by rw [← hW.out]; go_simp
  have kW12 : W.cell? ⟨w.heap.size + 1, 8, none⟩ = some (.int .i64 tu) := by rw [← hW.out]; go_simp
  have JW1 := I1.mono bW
  have JW2 := I2.mono bW
  have lW : w.heap.size + 1 < W.heap.size := cell_block kW4
  clear hW
  go_wp2_with (first | (go_at_call 103; (with_reducible refine (specRoll_any _ _ _ _ _ _ _).mono ?_); rintro e w2 ⟨rfl, hb⟩; have kA0 := xcell hb kW0; have kA1 := xcell hb kW1; have kA2 := xcell hb kW2; have kA3 := xcell hb kW3; have kA4 := xcell hb kW4; have kA5 := xcell hb kW5; have kA6 := xcell hb kW6; have kA7 := xcell hb kW7; have kA8 := xcell hb kW8; have kA9 := xcell hb kW9; have kA10 := xcell hb kW10; have kA11 := xcell hb kW11; have kA12 := xcell hb kW12; have JA1 := JW1.mono hb; have JA2 := JW2.mono hb; have BA := xThen bW hb) | (go_at_call 110; (with_reducible refine (specOver_any _ _ zs ys _ (by (repeat (first | (with_reducible exact IntsAt.made _ _ (by omega) _) | (with_reducible assumption) | (with_reducible refine IntsAt.alloc ?_ _) | (with_reducible refine IntsAt.drew ?_) | (with_reducible refine IntsAt.drewN ?_ _) | (with_reducible refine IntsAt.mono ?_ (by with_reducible assumption))))) (by (repeat (first | (with_reducible exact IntsAt.made _ _ (by omega) _) | (with_reducible assumption) | (with_reducible refine IntsAt.alloc ?_ _) | (with_reducible refine IntsAt.drew ?_) | (with_reducible refine IntsAt.drewN ?_ _) | (with_reducible refine IntsAt.mono ?_ (by with_reducible assumption))))) HZ.out HY.out).mono ?_); rw [HO.out]; rintro e w3 ⟨rfl, hb⟩; (first | (have kB0 := xcell hb kA0; have kB1 := xcell hb kA1; have kB2 := xcell hb kA2; have kB3 := xcell hb kA3; have kB4 := xcell hb kA4; have kB5 := xcell hb kA5; have kB6 := xcell hb kA6; have kB7 := xcell hb kA7; have kB8 := xcell hb kA8; have kB9 := xcell hb kA9; have kB10 := xcell hb kA10; have kB11 := xcell hb kA11; have kB12 := xcell hb kA12; have BB := xThen BA hb; have JB1 := JA1.mono hb; have JB2 := JA2.mono hb) | (have kB0 := xcell hb kW0; have kB1 := xcell hb kW1; have kB2 := xcell hb kW2; have kB3 := xcell hb kW3; have kB4 := xcell hb kW4; have kB5 := xcell hb kW5; have kB6 := xcell hb kW6; have kB7 := xcell hb kW7; have kB8 := xcell hb kW8; have kB9 := xcell hb kW9; have kB10 := xcell hb kW10; have kB11 := xcell hb kW11; have kB12 := xcell hb kW12; have BB := xThen bW hb; have JB1 := JW1.mono hb; have JB2 := JW2.mono hb))))
  have hk0 := fun xe : ExtW w3 => xe.cell kB0
  have hk1 := fun xe : ExtW w3 => xe.cell kB1
  have hk2 := fun xe : ExtW w3 => xe.cell kB2
  have hk3 := fun xe : ExtW w3 => xe.cell kB3
  have hk4 := fun xe : ExtW w3 => xe.cell kB4
  have hk5 := fun xe : ExtW w3 => xe.cell kB5
  have hk6 := fun xe : ExtW w3 => xe.cell kB6
  have hk7 := fun xe : ExtW w3 => xe.cell kB7
  have hk8 := fun xe : ExtW w3 => xe.cell kB8
  have hk9 := fun xe : ExtW w3 => xe.cell kB9
  have hk10 := fun xe : ExtW w3 => xe.cell kB10
  have hk11 := fun xe : ExtW w3 => xe.cell kB11
  have hk12 := fun xe : ExtW w3 => xe.cell kB12
  have hne : Nonempty (ExtW w3) := ⟨⟨_, Below.refl _ _⟩⟩
  refine wp_region_ext (by kernel_rfl) (by kernel_rfl) ?_
  repeat (first | go_big_quiet_step ((first | fail)) | quiet_step ((first | fail)))
  refine wpQuiet_nil ?_
  rintro w1 ⟨⟨_, hb⟩, rfl⟩
  clear hne hk0 hk1 hk2 hk3 hk4 hk5 hk6 hk7 hk8 hk9 hk10 hk11 hk12
  go_wp2
  go_ret
  exact ⟨rfl, by (repeat' (first | (with_reducible exact Below.refl _ _) | (with_reducible assumption) | (with_reducible refine xAlloc ?_ _) | (with_reducible refine Below.drew ?_) | (with_reducible refine xDrewN ?_ _) | (with_reducible refine xThen ?_ (by with_reducible assumption)) | (with_reducible refine Below.setCell ?_ (by first | omega | (simp; omega) | simp) _) | exact Below.refl _ _))⟩

end Go.Proofs.Ytmcjabodkjlkgaa
