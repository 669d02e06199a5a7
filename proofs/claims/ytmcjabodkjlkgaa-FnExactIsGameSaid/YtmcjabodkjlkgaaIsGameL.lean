/-
  The law over both IsGame functions: it returns true for every variant and game; no condition.
-/
import Derived.Test.YtmcjabodkjlkgaaGameTo
import Derived.Test.YtmcjabodkjlkgaaIsGame3
namespace Go.Proofs.Ytmcjabodkjlkgaa
open Go.RowKit

theorem szGame_any (a1 a2 : Option Addr) (n1 c1 n2 c2 : Nat) (pl a b ph wi re tu left : Int) (h0 : 0 ≤ left) (h1 : left ≤ 1048576) (hn1 : (n1 : Int) ≤ 9223372036854775807) (hn2 : (n2 : Int) ≤ 9223372036854775807) (w : World) :
    Calls Try.prog 53 #[gameV (.slice a1 n1 c1) (.slice a2 n2 c2) pl a b ph wi re tu, .int .i64 left] w fun e w' => e = .returned (.int .i64 (if left - n1 - n2 < 0 then -1 else left - n1 - n2)) ∧ Below w.heap.size w w' := by
  unfold gameV
  by_cases hl : left - n1 - n2 < 0
  all_goals
    go_enter Try.func53, Try.ntmps53
    go_wp2_with fail
    refine (szBoard_any a1 a2 n1 c1 n2 c2 left h0 h1 hn1 hn2 _).mono ?_
    first | rw [if_pos (show left - (n1 : Int) - n2 < 0 by omega)] | rw [if_neg (show ¬ (left - (n1 : Int) - n2 < 0) by omega)]
    rintro e w1 ⟨rfl, hb⟩
    go_wp2
    go_ret
    exact ⟨ret_int (by first | rfl | (rw [if_pos (by omega)]) | (rw [if_neg (by omega)])), by (repeat' (first | (with_reducible exact Below.refl _ _) | (with_reducible assumption) | (with_reducible refine xAlloc ?_ _) | (with_reducible refine Below.drew ?_) | (with_reducible refine xDrewN ?_ _) | (with_reducible refine xThen ?_ (by with_reducible assumption)) | (with_reducible refine Below.setCell ?_ (by first | omega | (simp; omega) | simp) _) | exact Below.refl _ _))⟩

set_option maxHeartbeats 4000000 in
theorem lawIsGame (p c h s : Int) (_ : (Lit.int .i64 p).wf = true) (_ : (Lit.int .i64 c).wf = true) (_ : (Lit.int .i64 h).wf = true) (_ : (Lit.int .i64 s).wf = true)
    (a1 : Option Addr) (l1 k1 : Nat) (z1 : List Int) (a2 : Option Addr) (l2 k2 : Nat) (z2 : List Int) (pl a b ph wi re tu : Int)
    (_ : (Lit.int .i64 pl).wf = true) (_ : (Lit.int .i64 a).wf = true) (_ : (Lit.int .i64 b).wf = true) (_ : (Lit.int .i64 ph).wf = true) (_ : (Lit.int .i64 wi).wf = true) (_ : (Lit.int .i64 re).wf = true) (_ : (Lit.int .i64 tu).wf = true)
    (w : World) (r1 : IsRow .i64 w a1 l1 k1 z1) (r2 : IsRow .i64 w a2 l2 k2 z2) :
    Calls Try.prog 12 #[.agg #[.int .i64 p, .int .i64 c, .int .i64 h, .int .i64 s], .agg #[.slice a1 l1 k1, .slice a2 l2 k2, .int .i64 pl, .int .i64 a, .int .i64 b, .int .i64 ph, .int .i64 wi, .int .i64 re, .int .i64 tu]] w fun e w' => e = .returned (.bool true) ∧ Below w.heap.size w w' := by
  have hn1 := isRow_len r1
  have hn2 := isRow_len r2
  by_cases hl : (1048576 : Int) - l1 - l2 < 0
  · go_enter Try.func12, Try.ntmps12
    go_wp2_with fail
    refine (szGame_any a1 a2 l1 k1 l2 k2 pl a b ph wi re tu 1048576 (by omega) (by omega) hn1 hn2 _).mono ?_
    rw [if_pos hl]
    rintro e w1 ⟨rfl, hb⟩
    go_wp2
    go_ret
    exact ⟨rfl, by (repeat' (first | (with_reducible exact Below.refl _ _) | (with_reducible assumption) | (with_reducible refine xAlloc ?_ _) | (with_reducible refine Below.drew ?_) | (with_reducible refine xDrewN ?_ _) | (with_reducible refine xThen ?_ (by with_reducible assumption)) | (with_reducible refine Below.setCell ?_ (by first | omega | (simp; omega) | simp) _) | exact Below.refl _ _))⟩
  · obtain ⟨zs, rfl, I1, _⟩ := isRow_ints r1 (by omega)
    obtain ⟨ys, rfl, I2, _⟩ := isRow_ints r2 (by omega)
    clear r1 r2
    have H1 := hid I1
    have H2 := hid I2
    have hge : (0 : Int) ≤ 1048576 - zs.length - ys.length := by omega
    obtain ⟨G, HG⟩ := named (gameB p c h s zs ys pl a b ph wi re tu)
    go_enter Try.func12, Try.ntmps12
    go_wp2_with fail
    refine calls_named (fun W hW0 => ?_)
    have hW := hid hW0
    clear hW0
    have bW : Below w.heap.size w W := by rw [← hW.out]; (repeat' (first | (with_reducible exact Below.refl _ _) | (with_reducible assumption) | (with_reducible refine xAlloc ?_ _) | (with_reducible refine Below.drew ?_) | (with_reducible refine xDrewN ?_ _) | (with_reducible refine xThen ?_ (by with_reducible assumption)) | (with_reducible refine Below.setCell ?_ (by first | omega | (simp; omega) | simp) _) | exact Below.refl _ _))
    have kW0 : W.cell? ⟨w.heap.size, 0, none⟩ = some (.int .i64 p) := by rw [← hW.out]; go_simp
    have kW1 : W.cell? ⟨w.heap.size, 1, none⟩ = some (.int .i64 c) := by rw [← hW.out]; go_simp
    have kW2 : W.cell? ⟨w.heap.size, 2, none⟩ = some (.int .i64 h) := by rw [← hW.out]; go_simp
    have kW3 : W.cell? ⟨w.heap.size, 3, none⟩ = some (.int .i64 s) := by rw [← hW.out]; go_simp
    have kW4 : W.cell? ⟨w.heap.size + 1, 0, none⟩ = some (.slice a1 zs.length k1) := by rw [← hW.out]; go_simp
    have kW5 : W.cell? ⟨w.heap.size + 1, 1, none⟩ = some (.slice a2 ys.length k2) := by rw [← hW.out]; go_simp
    have kW6 : W.cell? ⟨w.heap.size + 1, 2, none⟩ = some (.int .i64 pl) := by rw [← hW.out]; go_simp
    have kW7 : W.cell? ⟨w.heap.size + 1, 3, none⟩ = some (.int .i64 a) := by rw [← hW.out]; go_simp
    have kW8 : W.cell? ⟨w.heap.size + 1, 4, none⟩ = some (.int .i64 b) := by rw [← hW.out]; go_simp
    have kW9 : W.cell? ⟨w.heap.size + 1, 5, none⟩ = some (.int .i64 ph) := by rw [← hW.out]; go_simp
    have kW10 : W.cell? ⟨w.heap.size + 1, 6, none⟩ = some (.int .i64 wi) := by rw [← hW.out]; go_simp
    have kW11 : W.cell? ⟨w.heap.size + 1, 7, none⟩ = some (.int .i64 re) := by rw [← hW.out]; go_simp
    have kW12 : W.cell? ⟨w.heap.size + 1, 8, none⟩ = some (.int .i64 tu) := by rw [← hW.out]; go_simp
    clear hW
    refine (szGame_any a1 a2 zs.length k1 ys.length k2 pl a b ph wi re tu 1048576 (by omega) (by omega) hn1 hn2 _).mono ?_
    rw [if_neg (show ¬ (1048576 : Int) - zs.length - ys.length < 0 by omega)]
    rintro e w1 ⟨rfl, hb⟩
    have kA0 := xcell hb kW0
    have kA1 := xcell hb kW1
    have kA2 := xcell hb kW2
    have kA3 := xcell hb kW3
    have kA4 := xcell hb kW4
    have kA5 := xcell hb kW5
    have kA6 := xcell hb kW6
    have kA7 := xcell hb kW7
    have kA8 := xcell hb kW8
    have kA9 := xcell hb kW9
    have kA10 := xcell hb kW10
    have kA11 := xcell hb kW11
    have kA12 := xcell hb kW12
    have BA : Below w.heap.size w w1 := xThen bW hb
    clear kW0 kW1 kW2 kW3 kW4 kW5 kW6 kW7 kW8 kW9 kW10 kW11 kW12 hl hb bW
    go_wp2
    have hk0 : ∀ xe : ExtW w1, xe.u.cell? ⟨w.heap.size, 0, none⟩ = some (.int .i64 p) := fun xe => xe.cell (by go_simp)
    have hk1 : ∀ xe : ExtW w1, xe.u.cell? ⟨w.heap.size, 1, none⟩ = some (.int .i64 c) := fun xe => xe.cell (by go_simp)
    have hk2 : ∀ xe : ExtW w1, xe.u.cell? ⟨w.heap.size, 2, none⟩ = some (.int .i64 h) := fun xe => xe.cell (by go_simp)
    have hk3 : ∀ xe : ExtW w1, xe.u.cell? ⟨w.heap.size, 3, none⟩ = some (.int .i64 s) := fun xe => xe.cell (by go_simp)
    have hk4 : ∀ xe : ExtW w1, xe.u.cell? ⟨w.heap.size + 1, 0, none⟩ = some (.slice a1 zs.length k1) := fun xe => xe.cell (by go_simp)
    have hk5 : ∀ xe : ExtW w1, xe.u.cell? ⟨w.heap.size + 1, 1, none⟩ = some (.slice a2 ys.length k2) := fun xe => xe.cell (by go_simp)
    have hk6 : ∀ xe : ExtW w1, xe.u.cell? ⟨w.heap.size + 1, 2, none⟩ = some (.int .i64 pl) := fun xe => xe.cell (by go_simp)
    have hk7 : ∀ xe : ExtW w1, xe.u.cell? ⟨w.heap.size + 1, 3, none⟩ = some (.int .i64 a) := fun xe => xe.cell (by go_simp)
    have hk8 : ∀ xe : ExtW w1, xe.u.cell? ⟨w.heap.size + 1, 4, none⟩ = some (.int .i64 b) := fun xe => xe.cell (by go_simp)
    have hk9 : ∀ xe : ExtW w1, xe.u.cell? ⟨w.heap.size + 1, 5, none⟩ = some (.int .i64 ph) := fun xe => xe.cell (by go_simp)
    have hk10 : ∀ xe : ExtW w1, xe.u.cell? ⟨w.heap.size + 1, 6, none⟩ = some (.int .i64 wi) := fun xe => xe.cell (by go_simp)
    have hk11 : ∀ xe : ExtW w1, xe.u.cell? ⟨w.heap.size + 1, 7, none⟩ = some (.int .i64 re) := fun xe => xe.cell (by go_simp)
    have hk12 : ∀ xe : ExtW w1, xe.u.cell? ⟨w.heap.size + 1, 8, none⟩ = some (.int .i64 tu) := fun xe => xe.cell (by go_simp)
    have hne : Nonempty (ExtW w1) := ⟨⟨_, Below.refl _ _⟩⟩
    refine wp_region_oth [true, true, true, false, false, false] [3, 4, 5] (by kernel_rfl) (by kernel_rfl) ?_
    simp only [sift]
    repeat (refine wpRel_step (fun K hK => ?_); simp only [relAt]; go_simp; first | (refine hK _ ?_; clear hK K) | (apply Exists.intro; refine ⟨fun _ => ?_, hK _ ?_⟩; ((first | (go_at_call 15; exact toVariant_any _ _ _ _ _))); clear hK K))
    refine wpRel_nil ?_
    clear hk0 hk1 hk2 hk3 hk4 hk5 hk6 hk7 hk8 hk9 hk10 hk11 hk12 hne
    refine wpOth_op rfl rfl (fun wa hba => ?_)
    unfold othAt
    go_simp
    refine (toGame_any _ _ zs ys pl a b ph wi re tu _ (I1.mono (xThen BA hba)) (I2.mono (xThen BA hba))).mono ?_
    rintro e wb ⟨b1, b2, rfl, hf, hbb⟩
    have Cb := xThen hba hbb
    refine ⟨_, rfl, Cb, ?_⟩
    unfold gameV
    refine wpOth_op rfl rfl (fun wc hbc => ?_)
    unfold othAt
    go_simp
    refine (specIsGame_any p c h s _ _ zs ys pl a b ph wi re tu _ (hf.one.mono hbc).ints (hf.two.mono hbc).ints).mono ?_
    rw [← HG.out]
    rintro e wd ⟨rfl, hbd⟩
    have Cd := xThen (xThen Cb hbc) hbd
    refine ⟨_, rfl, Cd, ?_⟩
    refine wpOth_op rfl rfl (fun we hbe => ?_)
    unfold othAt
    go_simp
    refine ⟨xThen Cd hbe, fun wf hbf => ?_⟩
    have Cf := xThen (xThen Cd hbe) hbf
    clear hf hba hbb hbc hbd hbe hbf Cb Cd
    have kF0 := xcell Cf kA0
    have kF1 := xcell Cf kA1
    have kF2 := xcell Cf kA2
    have kF3 := xcell Cf kA3
    have kF4 := xcell Cf kA4
    have kF5 := xcell Cf kA5
    have kF6 := xcell Cf kA6
    have kF7 := xcell Cf kA7
    have kF8 := xcell Cf kA8
    have kF9 := xcell Cf kA9
    have kF10 := xcell Cf kA10
    have kF11 := xcell Cf kA11
    have kF12 := xcell Cf kA12
    have BF : Below w.heap.size w wf := xThen BA Cf
    clear kA0 kA1 kA2 kA3 kA4 kA5 kA6 kA7 kA8 kA9 kA10 kA11 kA12 Cf BA
    go_wp2_with fail
    refine (toGame_any _ _ zs ys pl a b ph wi re tu _ (H1.out.mono BF) (H2.out.mono BF)).mono ?_
    rintro e wg ⟨x1, x2, rfl, g1, hbg⟩
    have kG0 := xcell hbg kF0
    have kG1 := xcell hbg kF1
    have kG2 := xcell hbg kF2
    have kG3 := xcell hbg kF3
    have kG4 := xcell hbg kF4
    have kG5 := xcell hbg kF5
    have kG6 := xcell hbg kF6
    have kG7 := xcell hbg kF7
    have kG8 := xcell hbg kF8
    have kG9 := xcell hbg kF9
    have kG10 := xcell hbg kF10
    have kG11 := xcell hbg kF11
    have kG12 := xcell hbg kF12
    have BG : Below w.heap.size w wg := xThen BF hbg
    have lG0 := cell_block kG0
    have lG1 := cell_block kG4
    have G1 := hid g1
    clear kF0 kF1 kF2 kF3 kF4 kF5 kF6 kF7 kF8 kF9 kF10 kF11 kF12 g1 hbg BF
    unfold gameV
    go_upto_region 7 with (fail)
    refine wp_named (fun X hX0 => ?_)
    have hX := hid hX0
    clear hX0
    have bX : Below w.heap.size w X := by rw [← hX.out]; (repeat' (first | (with_reducible exact Below.refl _ _) | (with_reducible assumption) | (with_reducible refine xAlloc ?_ _) | (with_reducible refine Below.drew ?_) | (with_reducible refine xDrewN ?_ _) | (with_reducible refine xThen ?_ (by with_reducible assumption)) | (with_reducible refine Below.setCell ?_ (by first | omega | (simp; omega) | simp) _) | exact Below.refl _ _))
    have kX0 : X.cell? ⟨w.heap.size, 0, none⟩ = some (.int .i64 p) := by rw [← hX.out]; go_simp
    have kX1 : X.cell? ⟨w.heap.size, 1, none⟩ = some (.int .i64 c) := by rw [← hX.out]; go_simp
    have kX2 : X.cell? ⟨w.heap.size, 2, none⟩ = some (.int .i64 h) := by rw [← hX.out]; go_simp
    have kX3 : X.cell? ⟨w.heap.size, 3, none⟩ = some (.int .i64 s) := by rw [← hX.out]; go_simp
    have kX4 : X.cell? ⟨w.heap.size + 1, 0, none⟩ = some (.slice a1 zs.length k1) := by rw [← hX.out]; go_simp
    have kX5 : X.cell? ⟨w.heap.size + 1, 1, none⟩ = some (.slice a2 ys.length k2) := by rw [← hX.out]; go_simp
    have kX6 : X.cell? ⟨w.heap.size + 1, 2, none⟩ = some (.int .i64 pl) := by rw [← hX.out]; go_simp
    have kX7 : X.cell? ⟨w.heap.size + 1, 3, none⟩ = some (.int .i64 a) := by rw [← hX.out]; go_simp
    have kX8 : X.cell? ⟨w.heap.size + 1, 4, none⟩ = some (.int .i64 b) := by rw [← hX.out]; go_simp
    have kX9 : X.cell? ⟨w.heap.size + 1, 5, none⟩ = some (.int .i64 ph) := by rw [← hX.out]; go_simp
    have kX10 : X.cell? ⟨w.heap.size + 1, 6, none⟩ = some (.int .i64 wi) := by rw [← hX.out]; go_simp
    have kX11 : X.cell? ⟨w.heap.size + 1, 7, none⟩ = some (.int .i64 re) := by rw [← hX.out]; go_simp
    have kX12 : X.cell? ⟨w.heap.size + 1, 8, none⟩ = some (.int .i64 tu) := by rw [← hX.out]; go_simp
    have kX13 : X.cell? ⟨wg.heap.size, 0, none⟩ = some (.slice (some ⟨x1,0,none⟩) zs.length zs.length) := by rw [← hX.out]; go_simp
    have kX14 : X.cell? ⟨wg.heap.size, 1, none⟩ = some (.slice (some ⟨x2,0,none⟩) ys.length ys.length) := by rw [← hX.out]; go_simp
    have kX15 : X.cell? ⟨wg.heap.size, 2, none⟩ = some (.int .i64 pl) := by rw [← hX.out]; go_simp
    have kX16 : X.cell? ⟨wg.heap.size, 3, none⟩ = some (.int .i64 a) := by rw [← hX.out]; go_simp
    have kX17 : X.cell? ⟨wg.heap.size, 4, none⟩ = some (.int .i64 b) := by rw [← hX.out]; go_simp
    have kX18 : X.cell? ⟨wg.heap.size, 5, none⟩ = some (.int .i64 ph) := by rw [← hX.out]; go_simp
    have kX19 : X.cell? ⟨wg.heap.size, 6, none⟩ = some (.int .i64 wi) := by rw [← hX.out]; go_simp
    have kX20 : X.cell? ⟨wg.heap.size, 7, none⟩ = some (.int .i64 re) := by rw [← hX.out]; go_simp
    have kX21 : X.cell? ⟨wg.heap.size, 8, none⟩ = some (.int .i64 tu) := by rw [← hX.out]; go_simp
    have hbX : Below wg.heap.size wg X := by rw [← hX.out]; exact xAlloc (Below.refl _ _) _
    have X1 := (G1.out.mono hbX).one.ints
    have X2 := (G1.out.mono hbX).two.ints
    clear kG0 kG1 kG2 kG3 kG4 kG5 kG6 kG7 kG8 kG9 kG10 kG11 kG12 hX G1 hbX BG lG0 lG1
    have hd := implGame_any p c h s (.slice (some ⟨x1, 0, none⟩) zs.length zs.length) (.slice (some ⟨x2, 0, none⟩) ys.length ys.length) zs ys pl a b ph wi re tu
    unfold gameV at hd
    rw [← HG.out] at hd
    have HD := hid hd
    clear hd
    have hk0 := fun xe : ExtW X => xe.cell kX0
    have hk1 := fun xe : ExtW X => xe.cell kX1
    have hk2 := fun xe : ExtW X => xe.cell kX2
    have hk3 := fun xe : ExtW X => xe.cell kX3
    have hk4 := fun xe : ExtW X => xe.cell kX4
    have hk5 := fun xe : ExtW X => xe.cell kX5
    have hk6 := fun xe : ExtW X => xe.cell kX6
    have hk7 := fun xe : ExtW X => xe.cell kX7
    have hk8 := fun xe : ExtW X => xe.cell kX8
    have hk9 := fun xe : ExtW X => xe.cell kX9
    have hk10 := fun xe : ExtW X => xe.cell kX10
    have hk11 := fun xe : ExtW X => xe.cell kX11
    have hk12 := fun xe : ExtW X => xe.cell kX12
    have hk13 := fun xe : ExtW X => xe.cell kX13
    have hk14 := fun xe : ExtW X => xe.cell kX14
    have hk15 := fun xe : ExtW X => xe.cell kX15
    have hk16 := fun xe : ExtW X => xe.cell kX16
    have hk17 := fun xe : ExtW X => xe.cell kX17
    have hk18 := fun xe : ExtW X => xe.cell kX18
    have hk19 := fun xe : ExtW X => xe.cell kX19
    have hk20 := fun xe : ExtW X => xe.cell kX20
    have hk21 := fun xe : ExtW X => xe.cell kX21
    have hne : Nonempty (ExtW X) := ⟨⟨_, Below.refl _ _⟩⟩
    refine wp_region_ext (by kernel_rfl) (by kernel_rfl) ?_
    repeat (first | go_big_quiet_step ((first | (go_at_call 15; exact ext_call (toVariant_any _ _ _ _ _)) | (go_at_call 56; exact ext_call (HD.out _ (X1.mono (ExtW.b _)) (X2.mono (ExtW.b _)))))) | quiet_step ((first | (go_at_call 15; exact ext_call (toVariant_any _ _ _ _ _)) | (go_at_call 56; exact ext_call (HD.out _ (X1.mono (ExtW.b _)) (X2.mono (ExtW.b _)))))))
    refine wpQuiet_nil ?_
    rintro w1 ⟨⟨_, hb⟩, rfl⟩
    clear hne hk0 hk1 hk2 hk3 hk4 hk5 hk6 hk7 hk8 hk9 hk10 hk11 hk12 hk13 hk14 hk15 hk16 hk17 hk18 hk19 hk20 hk21
    have kY0 := xcell hb kX0
    have kY1 := xcell hb kX1
    have kY2 := xcell hb kX2
    have kY3 := xcell hb kX3
    have kY4 := xcell hb kX4
    have kY5 := xcell hb kX5
    have kY6 := xcell hb kX6
    have kY7 := xcell hb kX7
    have kY8 := xcell hb kX8
    have kY9 := xcell hb kX9
    have kY10 := xcell hb kX10
    have kY11 := xcell hb kX11
    have kY12 := xcell hb kX12
    have kY13 := xcell hb kX13
    have kY14 := xcell hb kX14
    have kY15 := xcell hb kX15
    have kY16 := xcell hb kX16
    have kY17 := xcell hb kX17
    have kY18 := xcell hb kX18
    have kY19 := xcell hb kX19
    have kY20 := xcell hb kX20
    have kY21 := xcell hb kX21
    have BY : Below w.heap.size w w1 := xThen bX hb
    have Y1 := X1.mono hb
    have Y2 := X2.mono hb
    clear kX0 kX1 kX2 kX3 kX4 kX5 kX6 kX7 kX8 kX9 kX10 kX11 kX12 kX13 kX14 kX15 kX16 kX17 kX18 kX19 kX20 kX21 X1 X2 hb bX HD
    go_wp2_with fail
    have hk0 : ∀ xe : ExtW w1, xe.u.cell? ⟨w.heap.size + 1, 0, none⟩ = some (.slice a1 zs.length k1) := fun xe => xe.cell (by go_simp)
    have hk1 : ∀ xe : ExtW w1, xe.u.cell? ⟨w.heap.size + 1, 1, none⟩ = some (.slice a2 ys.length k2) := fun xe => xe.cell (by go_simp)
    have hk2 : ∀ xe : ExtW w1, xe.u.cell? ⟨w.heap.size + 1, 2, none⟩ = some (.int .i64 pl) := fun xe => xe.cell (by go_simp)
    have hk3 : ∀ xe : ExtW w1, xe.u.cell? ⟨w.heap.size + 1, 3, none⟩ = some (.int .i64 a) := fun xe => xe.cell (by go_simp)
    have hk4 : ∀ xe : ExtW w1, xe.u.cell? ⟨w.heap.size + 1, 4, none⟩ = some (.int .i64 b) := fun xe => xe.cell (by go_simp)
    have hk5 : ∀ xe : ExtW w1, xe.u.cell? ⟨w.heap.size + 1, 5, none⟩ = some (.int .i64 ph) := fun xe => xe.cell (by go_simp)
    have hk6 : ∀ xe : ExtW w1, xe.u.cell? ⟨w.heap.size + 1, 6, none⟩ = some (.int .i64 wi) := fun xe => xe.cell (by go_simp)
    have hk7 : ∀ xe : ExtW w1, xe.u.cell? ⟨w.heap.size + 1, 7, none⟩ = some (.int .i64 re) := fun xe => xe.cell (by go_simp)
    have hk8 : ∀ xe : ExtW w1, xe.u.cell? ⟨w.heap.size + 1, 8, none⟩ = some (.int .i64 tu) := fun xe => xe.cell (by go_simp)
    have hk9 : ∀ xe : ExtW w1, xe.u.cell? ⟨wg.heap.size, 0, none⟩ = some (.slice (some ⟨x1,0,none⟩) zs.length zs.length) := fun xe => xe.cell (by go_simp)
    have hk10 : ∀ xe : ExtW w1, xe.u.cell? ⟨wg.heap.size, 1, none⟩ = some (.slice (some ⟨x2,0,none⟩) ys.length ys.length) := fun xe => xe.cell (by go_simp)
    have hk11 : ∀ xe : ExtW w1, xe.u.cell? ⟨wg.heap.size, 2, none⟩ = some (.int .i64 pl) := fun xe => xe.cell (by go_simp)
    have hk12 : ∀ xe : ExtW w1, xe.u.cell? ⟨wg.heap.size, 3, none⟩ = some (.int .i64 a) := fun xe => xe.cell (by go_simp)
    have hk13 : ∀ xe : ExtW w1, xe.u.cell? ⟨wg.heap.size, 4, none⟩ = some (.int .i64 b) := fun xe => xe.cell (by go_simp)
    have hk14 : ∀ xe : ExtW w1, xe.u.cell? ⟨wg.heap.size, 5, none⟩ = some (.int .i64 ph) := fun xe => xe.cell (by go_simp)
    have hk15 : ∀ xe : ExtW w1, xe.u.cell? ⟨wg.heap.size, 6, none⟩ = some (.int .i64 wi) := fun xe => xe.cell (by go_simp)
    have hk16 : ∀ xe : ExtW w1, xe.u.cell? ⟨wg.heap.size, 7, none⟩ = some (.int .i64 re) := fun xe => xe.cell (by go_simp)
    have hk17 : ∀ xe : ExtW w1, xe.u.cell? ⟨wg.heap.size, 8, none⟩ = some (.int .i64 tu) := fun xe => xe.cell (by go_simp)
    have hne : Nonempty (ExtW w1) := ⟨⟨_, Below.refl _ _⟩⟩
    refine wp_region_oth2 [true, true, false, false, false] [2, 3, 4] (by kernel_rfl) (by kernel_rfl) ?_
    simp only [sift]
    repeat (refine wpRel_step (fun K hK => ?_); simp only [relAt]; go_simp; first | (refine hK _ ?_; clear hK K) | (apply Exists.intro; refine ⟨fun _ => ?_, hK _ ?_⟩; ((first | fail)); clear hK K))
    refine wpRel_nil ?_
    clear hk0 hk1 hk2 hk3 hk4 hk5 hk6 hk7 hk8 hk9 hk10 hk11 hk12 hk13 hk14 hk15 hk16 hk17 hne
    refine wpOth_op rfl rfl (fun ya hya => ?_)
    unfold othAt
    go_simp
    refine (toGame_any _ _ zs ys pl a b ph wi re tu _ (H1.out.mono (xThen BY hya)) (H2.out.mono (xThen BY hya))).mono ?_
    rintro e yb ⟨c1, c2, rfl, f1, hyb⟩
    have Cb := xThen hya hyb
    refine ⟨_, rfl, Cb, ?_⟩
    refine wpOth_op rfl rfl (fun yc hyc => ?_)
    unfold othAt
    go_simp
    refine (eqGame_any _ _ _ _ zs ys pl a b ph wi re tu _ (Y1.mono (xThen Cb hyc)) (Y2.mono (xThen Cb hyc)) (f1.mono hyc).one.ints (f1.mono hyc).two.ints).mono ?_
    rintro e yd ⟨rfl, hyd⟩
    have Cd := xThen (xThen Cb hyc) hyd
    refine ⟨_, rfl, Cd, ?_⟩
    refine wpOth_op rfl rfl (fun ye hye => ?_)
    unfold othAt
    go_simp
    refine ⟨xThen Cd hye, fun yf hyf => ?_⟩
    have Cf2 := xThen BY (xThen (xThen Cd hye) hyf)
    go_wp2
    go_ret
    exact ⟨rfl, Cf2⟩
end Go.Proofs.Ytmcjabodkjlkgaa
