/-
  Contracts of both IsGame functions, for every variant and every game whose sides have at most 2^20 elements.
-/
import Derived.Test.YtmcjabodkjlkgaaIsGame2
import Derived.Test.YtmcjabodkjlkgaaIsGameS

namespace Go.Proofs.Ytmcjabodkjlkgaa
open Go.RowKit

set_option maxHeartbeats 1000000 in
theorem specGame_pre (p c h s : Int) (v1 v2 : Value) (zs ys : List Int) (pl a b ph wi re tu : Int) (w : World) (I1 : IntsAt w v1 zs) (I2 : IntsAt w v2 ys) (hpre : preB p c h s zs ys pl tu = false) :
    Calls Try.prog 105 #[.agg #[.int .i64 p, .int .i64 c, .int .i64 h, .int .i64 s], gameV v1 v2 pl a b ph wi re tu] w fun e w' => e = .returned (.bool false) ∧ Below w.heap.size w w' := by
  unfold gameV
  obtain ⟨a1, c1, rfl, _⟩ := id I1
  obtain ⟨a2, c2, rfl, _⟩ := id I2
  have HP := hid hpre
  clear hpre
  go_enter Try.func105, Try.ntmps105
  go_upto_region 3 with (first | (go_at_call 67; (with_reducible refine (specIsVariant_any _ _ _ _ _).mono ?_); rintro e w1 ⟨rfl, hb⟩; obtain ⟨hc, hf⟩ := bcell hb; have hsz := hb.size; (try simp at hsz); (try have hy0 : w.heap.size < w1.heap.size := by omega); (try have hy1 : w.heap.size + 1 < w1.heap.size := by omega); (try have hy2 : w.heap.size + 2 < w1.heap.size := by omega); (try have hyS : ws.heap.size < w1.heap.size := by omega); (try have hyG : wg.heap.size < w1.heap.size := by omega)) | (go_at_call 21; (with_reducible refine (specBoard_any _ _ _ _ _ _ zs ys _ (by (repeat (first | (with_reducible exact IntsAt.made _ _ (by omega) _) | (with_reducible assumption) | (with_reducible refine IntsAt.alloc ?_ _) | (with_reducible refine IntsAt.drew ?_) | (with_reducible refine IntsAt.drewN ?_ _) | (with_reducible refine IntsAt.mono ?_ (by with_reducible assumption))))) (by (repeat (first | (with_reducible exact IntsAt.made _ _ (by omega) _) | (with_reducible assumption) | (with_reducible refine IntsAt.alloc ?_ _) | (with_reducible refine IntsAt.drew ?_) | (with_reducible refine IntsAt.drewN ?_ _) | (with_reducible refine IntsAt.mono ?_ (by with_reducible assumption)))))).mono ?_); rintro e w1 ⟨rfl, hb⟩; obtain ⟨hc, hf⟩ := bcell hb; have hsz := hb.size; (try simp at hsz); (try have hy0 : w.heap.size < w1.heap.size := by omega); (try have hy1 : w.heap.size + 1 < w1.heap.size := by omega); (try have hy2 : w.heap.size + 2 < w1.heap.size := by omega); (try have hyS : ws.heap.size < w1.heap.size := by omega); (try have hyG : wg.heap.size < w1.heap.size := by omega)) | (go_at_call 80; (with_reducible refine (l01In_any _ _ _ _).mono ?_); rintro e w' ⟨rfl, rfl⟩))
  all_goals first | (go_ret; exact ⟨rfl, by (repeat' (first | (with_reducible exact Below.refl _ _) | (with_reducible assumption) | (with_reducible refine xAlloc ?_ _) | (with_reducible refine Below.drew ?_) | (with_reducible refine xDrewN ?_ _) | (with_reducible refine xThen ?_ (by with_reducible assumption)) | (with_reducible refine Below.setCell ?_ (by first | omega | (simp; omega) | simp) _) | exact Below.refl _ _))⟩) | (exfalso; have h9 := HP.out; simp_all [preB]; done)

set_option maxRecDepth 100000 in
set_option maxHeartbeats 4000000 in
theorem specGame_c0 (n : Nat) (c h s : Int) (v1 v2 : Value) (zs ys : List Int) (a b : Int) (w : World) (I1 : IntsAt w v1 zs) (I2 : IntsAt w v2 ys) (hpre : preB n c h s zs ys 0 0 = true) (hz : zeroB a b = true) :
    Calls Try.prog 105 #[.agg #[.int .i64 n, .int .i64 c, .int .i64 h, .int .i64 s], gameV v1 v2 0 a b 0 0 0 0] w fun e w' => e = .returned (.bool (decide (zs = startL n c h s) && decide (ys = startL n c h s))) ∧ Below w.heap.size w w' := by
  unfold gameV
  obtain ⟨a1, c1, rfl, _⟩ := id I1
  obtain ⟨a2, c2, rfl, _⟩ := id I2
  obtain ⟨hv, h4, hbd, hpl, htu⟩ := preB_true hpre
  obtain ⟨_, hz0, hy0'⟩ := boardB_true hbd
  have HZ := hid hz0
  have HY := hid hy0'
  have hvr := varB_true hv
  clear hpre hz0 hy0'
  have hz' : (a == 0 && b == 0) = true := by simpa [zeroB] using hz
  have hne0 : ∀ u : World, (binOp .neq 42 (.agg #[.int .i64 a, .int .i64 b]) (.agg #[.int .i64 0, .int .i64 0])).run Try.prog u = .ok (.bool false) u := fun u => by rw [neRoll_run, hz']; rfl
  clear hz hz'
  go_enter Try.func105, Try.ntmps105
  go_upto_region 3 with (first | (go_at_call 67; (with_reducible refine (specIsVariant_any _ _ _ _ _).mono ?_); rintro e w1 ⟨rfl, hb⟩; obtain ⟨hc, hf⟩ := bcell hb; have hsz := hb.size; (try simp at hsz); (try have hy0 : w.heap.size < w1.heap.size := by omega); (try have hy1 : w.heap.size + 1 < w1.heap.size := by omega); (try have hy2 : w.heap.size + 2 < w1.heap.size := by omega); (try have hyS : ws.heap.size < w1.heap.size := by omega); (try have hyG : wg.heap.size < w1.heap.size := by omega)) | (go_at_call 21; (with_reducible refine (specBoard_any _ _ _ _ _ _ zs ys _ (by (repeat (first | (with_reducible exact IntsAt.made _ _ (by omega) _) | (with_reducible assumption) | (with_reducible refine IntsAt.alloc ?_ _) | (with_reducible refine IntsAt.drew ?_) | (with_reducible refine IntsAt.drewN ?_ _) | (with_reducible refine IntsAt.mono ?_ (by with_reducible assumption))))) (by (repeat (first | (with_reducible exact IntsAt.made _ _ (by omega) _) | (with_reducible assumption) | (with_reducible refine IntsAt.alloc ?_ _) | (with_reducible refine IntsAt.drew ?_) | (with_reducible refine IntsAt.drewN ?_ _) | (with_reducible refine IntsAt.mono ?_ (by with_reducible assumption)))))).mono ?_); rintro e w1 ⟨rfl, hb⟩; obtain ⟨hc, hf⟩ := bcell hb; have hsz := hb.size; (try simp at hsz); (try have hy0 : w.heap.size < w1.heap.size := by omega); (try have hy1 : w.heap.size + 1 < w1.heap.size := by omega); (try have hy2 : w.heap.size + 2 < w1.heap.size := by omega); (try have hyS : ws.heap.size < w1.heap.size := by omega); (try have hyG : wg.heap.size < w1.heap.size := by omega)) | (go_at_call 80; (with_reducible refine (l01In_any _ _ _ _).mono ?_); rintro e w' ⟨rfl, rfl⟩))
  refine wp_named (fun W hW0 => ?_)
  have hW := hid hW0
  clear hW0
  have bW : Below w.heap.size w W := by rw [← hW.out]; (repeat' (first | (with_reducible exact Below.refl _ _) | (with_reducible assumption) | (with_reducible refine xAlloc ?_ _) | (with_reducible refine Below.drew ?_) | (with_reducible refine xDrewN ?_ _) | (with_reducible refine xThen ?_ (by with_reducible assumption)) | (with_reducible refine Below.setCell ?_ (by first | omega | (simp; omega) | simp) _) | exact Below.refl _ _))
  have kW0 : W.cell? ⟨w.heap.size, 0, none⟩ = some (.int .i64 n) := by rw [← hW.out]; go_simp
  have kW1 : W.cell? ⟨w.heap.size, 1, none⟩ = some (.int .i64 c) := by rw [← hW.out]; go_simp
  have kW2 : W.cell? ⟨w.heap.size, 2, none⟩ = some (.int .i64 h) := by rw [← hW.out]; go_simp
  have kW3 : W.cell? ⟨w.heap.size, 3, none⟩ = some (.int .i64 s) := by rw [← hW.out]; go_simp
  have kW4 : W.cell? ⟨w.heap.size + 1, 0, none⟩ = some (.slice a1 zs.length c1) := by rw [← hW.out]; go_simp
  have kW5 : W.cell? ⟨w.heap.size + 1, 1, none⟩ = some (.slice a2 ys.length c2) := by rw [← hW.out]; go_simp
  have kW6 : W.cell? ⟨w.heap.size + 1, 2, none⟩ = some (.int .i64 0) := by rw [← hW.out]; go_simp
  have kW7 : W.cell? ⟨w.heap.size + 1, 3, none⟩ = some (.int .i64 a) := by rw [← hW.out]; go_simp
  have kW8 : W.cell? ⟨w.heap.size + 1, 4, none⟩ = some (.int .i64 b) := by rw [← hW.out]; go_simp
  have kW9 : W.cell? ⟨w.heap.size + 1, 5, none⟩ = some (.int .i64 0) := by rw [← hW.out]; go_simp
  have kW10 : W.cell? ⟨w.heap.size + 1, 6, none⟩ = some (.int .i64 0) := by rw [← hW.out]; go_simp
  have kW11 : W.cell? ⟨w.heap.size + 1, 7, none⟩ = some (.int .i64 0) := by rw [← hW.out]; go_simp
  have kW12 : W.cell? ⟨w.heap.size + 1, 8, none⟩ = some (.int .i64 0) := by rw [← hW.out]; go_simp
  have JW1 := I1.mono bW
  have JW2 := I2.mono bW
  clear hW
  go_wp2_with (go_at_call 110; (with_reducible refine (specOver_any _ _ zs ys _ JW1 JW2 HZ.out HY.out).mono ?_); rintro e w3 ⟨rfl, hb⟩; have kB0 := xcell hb kW0; have kB1 := xcell hb kW1; have kB2 := xcell hb kW2; have kB3 := xcell hb kW3; have kB4 := xcell hb kW4; have kB5 := xcell hb kW5; have kB6 := xcell hb kW6; have kB7 := xcell hb kW7; have kB8 := xcell hb kW8; have kB9 := xcell hb kW9; have kB10 := xcell hb kW10; have kB11 := xcell hb kW11; have kB12 := xcell hb kW12; have BB := xThen bW hb; have JB1 := JW1.mono hb; have JB2 := JW2.mono hb)
  clear kW0 kW1 kW2 kW3 kW4 kW5 kW6 kW7 kW8 kW9 kW10 kW11 kW12 bW JW1 JW2 hb
  have hk0 : ∀ xe : ExtW w3, xe.u.cell? ⟨w.heap.size, 0, none⟩ = some (.int .i64 n) := fun xe => xe.cell (by go_simp)
  have hk1 : ∀ xe : ExtW w3, xe.u.cell? ⟨w.heap.size, 1, none⟩ = some (.int .i64 c) := fun xe => xe.cell (by go_simp)
  have hk2 : ∀ xe : ExtW w3, xe.u.cell? ⟨w.heap.size, 2, none⟩ = some (.int .i64 h) := fun xe => xe.cell (by go_simp)
  have hk3 : ∀ xe : ExtW w3, xe.u.cell? ⟨w.heap.size, 3, none⟩ = some (.int .i64 s) := fun xe => xe.cell (by go_simp)
  have hk4 : ∀ xe : ExtW w3, xe.u.cell? ⟨w.heap.size + 1, 0, none⟩ = some (.slice a1 zs.length c1) := fun xe => xe.cell (by go_simp)
  have hk5 : ∀ xe : ExtW w3, xe.u.cell? ⟨w.heap.size + 1, 1, none⟩ = some (.slice a2 ys.length c2) := fun xe => xe.cell (by go_simp)
  have hk6 : ∀ xe : ExtW w3, xe.u.cell? ⟨w.heap.size + 1, 2, none⟩ = some (.int .i64 0) := fun xe => xe.cell (by go_simp)
  have hk7 : ∀ xe : ExtW w3, xe.u.cell? ⟨w.heap.size + 1, 3, none⟩ = some (.int .i64 a) := fun xe => xe.cell (by go_simp)
  have hk8 : ∀ xe : ExtW w3, xe.u.cell? ⟨w.heap.size + 1, 4, none⟩ = some (.int .i64 b) := fun xe => xe.cell (by go_simp)
  have hk9 : ∀ xe : ExtW w3, xe.u.cell? ⟨w.heap.size + 1, 5, none⟩ = some (.int .i64 0) := fun xe => xe.cell (by go_simp)
  have hk10 : ∀ xe : ExtW w3, xe.u.cell? ⟨w.heap.size + 1, 6, none⟩ = some (.int .i64 0) := fun xe => xe.cell (by go_simp)
  have hk11 : ∀ xe : ExtW w3, xe.u.cell? ⟨w.heap.size + 1, 7, none⟩ = some (.int .i64 0) := fun xe => xe.cell (by go_simp)
  have hk12 : ∀ xe : ExtW w3, xe.u.cell? ⟨w.heap.size + 1, 8, none⟩ = some (.int .i64 0) := fun xe => xe.cell (by go_simp)
  have hne : Nonempty (ExtW w3) := ⟨⟨_, Below.refl _ _⟩⟩
  refine wp_region_oth2 [true, true, true, true, true, true, true, true, true, true, true, true, true, true, true, true, true, true, true, true, true, true, false, false, false, false, false] [22, 23, 24, 25, 26] (by kernel_rfl) (by kernel_rfl) ?_
  simp only [sift]
  repeat (refine wpRel_step (fun K hK => ?_); simp only [relAt]; go_simp; first | (refine hK _ ?_; clear hK K) | (apply Exists.intro; refine ⟨fun _ => ?_, hK _ ?_⟩; ((first | fail)); clear hK K))
  refine wpRel_nil ?_
  clear hk0 hk1 hk2 hk3 hk4 hk5 hk6 hk7 hk8 hk9 hk10 hk11 hk12 hne
  refine wpOth_op rfl rfl (fun wa hba => ?_)
  unfold othAt
  go_simp
  refine (specL08New_any n c h s wa (by omega) (by omega) (by omega) (by omega)).mono ?_
  rintro e wb ⟨u1, u2, rfl, hF, hbb⟩
  obtain ⟨a3, c3, rfl, _⟩ := hF.one.ints
  obtain ⟨a4, c4, rfl, _⟩ := hF.two.ints
  have JX3 := hF.one.ints
  have JX4 := hF.two.ints
  obtain ⟨L, HL⟩ := named (startL n c h s)
  rw [← HL.out] at JX3 JX4 ⊢
  have Cb := xThen hba hbb
  unfold gameV
  refine ⟨_, rfl, Cb, ?_⟩
  refine wpOth_op rfl rfl (fun wc hbc => ?_)
  unfold othAt
  go_simp
  refine ⟨xThen Cb hbc, ?_⟩
  refine wpOth_op rfl rfl (fun wd hbd => ?_)
  unfold othAt
  go_simp
  have Cd := xThen (xThen Cb hbc) hbd
  refine (specSame_any _ _ _ _ zs ys L L wd (JB1.mono Cd) (JB2.mono Cd) (JX3.mono (xThen hbc hbd)) (JX4.mono (xThen hbc hbd))).mono ?_
  rintro e we ⟨rfl, hbe⟩
  have Ce := xThen Cd hbe
  refine ⟨_, rfl, Ce, ?_⟩
  refine wpOth_op rfl rfl (fun wf hbf => ?_)
  unfold othAt
  go_simp
  refine ⟨xThen Ce hbf, ?_⟩
  refine wpOth_op rfl rfl (fun wg hbg => ?_)
  unfold othAt
  go_simp
  refine ⟨xThen (xThen Ce hbf) hbg, fun wh hbh => ?_⟩
  have Ch := xThen (xThen (xThen Ce hbf) hbg) hbh
  go_wp2
  go_ret
  exact ⟨by rw [← HL.out]; rfl, xThen BB Ch⟩

theorem implGame_any (p c h s : Int) (v1 v2 : Value) (zs ys : List Int) (pl a b ph wi re tu : Int) (w : World) (I1 : IntsAt w v1 zs) (I2 : IntsAt w v2 ys) :
    Calls Try.prog 56 #[.agg #[.int .i64 p, .int .i64 c, .int .i64 h, .int .i64 s], gameV v1 v2 pl a b ph wi re tu] w fun e w' => e = .returned (.bool (gameB p c h s zs ys pl a b ph wi re tu)) ∧ Below w.heap.size w w' := by
  have turn : ∀ {r : Bool}, gameB p c h s zs ys pl a b ph wi re tu = r → (Calls Try.prog 56 #[.agg #[.int .i64 p, .int .i64 c, .int .i64 h, .int .i64 s], gameV v1 v2 pl a b ph wi re tu] w fun e w' => e = .returned (.bool r) ∧ Below w.heap.size w w') → Calls Try.prog 56 #[.agg #[.int .i64 p, .int .i64 c, .int .i64 h, .int .i64 s], gameV v1 v2 pl a b ph wi re tu] w fun e w' => e = .returned (.bool (gameB p c h s zs ys pl a b ph wi re tu)) ∧ Below w.heap.size w w' := fun e h => e ▸ h
  cases hpre : preB p c h s zs ys pl tu
  · exact turn (by simp [gameB, hpre]) (implGame_pre p c h s v1 v2 zs ys pl a b ph wi re tu w I1 I2 hpre)
  · by_cases h2 : ph = 2
    · subst h2
      cases hz : zeroB a b
      · cases hr : rollB p c h s a b
        · exact turn (by simp [gameB, phrB, hr]) (implGame_a2 p c h s v1 v2 zs ys pl a b wi re tu w I1 I2 hpre hz hr)
        · exact turn (by simp [gameB, phrB, hr, hpre]) (implGame_c2 p c h s v1 v2 zs ys pl a b wi re tu w I1 I2 hpre hz hr)
      · have hr : rollB p c h s a b = false := by simp [zeroB] at hz; simp [rollB, inB, hz.1]
        exact turn (by simp [gameB, phrB, hr]) (implGame_a1 p c h s v1 v2 zs ys pl a b wi re tu w I1 I2 hpre hz)
    · have h2' : (ph == 2) = false := by simpa using h2
      cases hz : zeroB a b
      · exact turn (by simp [gameB, phrB, hz, h2]) (implGame_b1 p c h s v1 v2 zs ys pl a b ph wi re tu w I1 I2 hpre hz h2')
      · by_cases h0 : ph = 0
        · subst h0
          have hn := (preB_true hpre).2.1
          obtain ⟨n, rfl⟩ := Int.eq_ofNat_of_zero_le (a := p) (by omega)
          exact turn (by simp [gameB, phrB, hz, hpre]) (implGame_c0 n c h s v1 v2 zs ys pl a b wi re tu w I1 I2 hpre hz)
        · by_cases h1 : ph = 1
          · subst h1
            exact turn (by simp [gameB, phrB, hz, hpre]) (implGame_c1 p c h s v1 v2 zs ys pl a b wi re tu w I1 I2 hpre hz)
          · by_cases h3 : ph = 3
            · subst h3
              cases ho : overB zs ys
              · exact turn (by simp [gameB, phrB, hz, hpre, endB, ho]) (implGame_c3d p c h s v1 v2 zs ys pl a b wi re tu w I1 I2 hpre hz ho)
              · by_cases hs : sumN zs zs.length = 0
                · by_cases hw : wi = pl
                  · exact turn (by simp [gameB, phrB, hz, hpre, endB, ho, hs, hw]; rw [Bool.eq_iff_iff]; simp) (implGame_c3c p c h s v1 v2 zs ys pl a b wi re tu w I1 I2 hpre hz ho (by simpa using hs) (by simpa using hw))
                  · exact turn (by simp [gameB, phrB, hz, hpre, endB, ho, hs, hw]) (implGame_c3b p c h s v1 v2 zs ys pl a b wi re tu w I1 I2 hpre hz ho (by simpa using hs) (by simpa using hw))
                · exact turn (by simp [gameB, phrB, hz, hpre, endB, ho, hs]) (implGame_c3a p c h s v1 v2 zs ys pl a b wi re tu w I1 I2 hpre hz ho (by simpa using hs))
            · exact turn (by simp [gameB, phrB, hz, hpre, endB, h0, h1, h2, h3]) (implGame_c4 p c h s v1 v2 zs ys pl a b ph wi re tu w I1 I2 hpre hz (by simpa using h0) (by simpa using h1) h2' (by simpa using h3))

theorem specGame_any (p c h s : Int) (v1 v2 : Value) (zs ys : List Int) (pl a b ph wi re tu : Int) (w : World) (I1 : IntsAt w v1 zs) (I2 : IntsAt w v2 ys) :
    Calls Try.prog 105 #[.agg #[.int .i64 p, .int .i64 c, .int .i64 h, .int .i64 s], gameV v1 v2 pl a b ph wi re tu] w fun e w' => e = .returned (.bool (gameB p c h s zs ys pl a b ph wi re tu)) ∧ Below w.heap.size w w' := by
  have turn : ∀ {r : Bool}, gameB p c h s zs ys pl a b ph wi re tu = r → (Calls Try.prog 105 #[.agg #[.int .i64 p, .int .i64 c, .int .i64 h, .int .i64 s], gameV v1 v2 pl a b ph wi re tu] w fun e w' => e = .returned (.bool r) ∧ Below w.heap.size w w') → Calls Try.prog 105 #[.agg #[.int .i64 p, .int .i64 c, .int .i64 h, .int .i64 s], gameV v1 v2 pl a b ph wi re tu] w fun e w' => e = .returned (.bool (gameB p c h s zs ys pl a b ph wi re tu)) ∧ Below w.heap.size w w' := fun e h => e ▸ h
  cases hpre : preB p c h s zs ys pl tu
  · exact turn (by simp [gameB, hpre]) (specGame_pre p c h s v1 v2 zs ys pl a b ph wi re tu w I1 I2 hpre)
  · by_cases h2 : ph = 2
    · subst h2
      cases hr : rollB p c h s a b
      · exact turn (by simp [gameB, phrB, hr]) (specGame_a p c h s v1 v2 zs ys pl a b wi re tu w I1 I2 hpre hr)
      · cases ho : overB zs ys
        · exact turn (by simp [gameB, phrB, hr, hpre]) (specGame_c2f p c h s v1 v2 zs ys pl a b wi re tu w I1 I2 hpre hr ho)
        · exact turn (by simp [gameB, phrB, hr, hpre]) (specGame_c2t p c h s v1 v2 zs ys pl a b wi re tu w I1 I2 hpre hr ho)
    · have h2' : (ph == 2) = false := by simpa using h2
      cases hz : zeroB a b
      · exact turn (by simp [gameB, phrB, hz, h2]) (specGame_b1 p c h s v1 v2 zs ys pl a b ph wi re tu w I1 I2 hpre hz h2')
      · by_cases h0 : ph = 0
        · subst h0
          have hn := (preB_true hpre).2.1
          obtain ⟨n, rfl⟩ := Int.eq_ofNat_of_zero_le (a := p) (by omega)
          by_cases p1 : pl = 0
          · subst p1
            by_cases p2 : tu = 0
            · subst p2
              by_cases p3 : wi = 0
              · subst p3
                by_cases p4 : re = 0
                · subst p4
                  exact turn (by simp [gameB, phrB, hz, hpre, endB]) (specGame_c0 n c h s v1 v2 zs ys a b w I1 I2 hpre hz)
                · cases ho : overB zs ys
                  · exact turn (by simp [gameB, phrB, hz, hpre, endB, p4]) (specGame_c0ref n c h s v1 v2 zs ys 0 a b 0 re 0 w I1 I2 hpre hz ho rfl rfl rfl (by simpa using p4))
                  · exact turn (by simp [gameB, phrB, hz, hpre, endB, p4]) (specGame_c0ret n c h s v1 v2 zs ys 0 a b 0 re 0 w I1 I2 hpre hz ho rfl rfl rfl (by simpa using p4))
              · cases ho : overB zs ys
                · exact turn (by simp [gameB, phrB, hz, hpre, endB, p3]) (specGame_c0wif n c h s v1 v2 zs ys 0 a b wi re 0 w I1 I2 hpre hz ho rfl rfl (by simpa using p3))
                · exact turn (by simp [gameB, phrB, hz, hpre, endB, p3]) (specGame_c0wit n c h s v1 v2 zs ys 0 a b wi re 0 w I1 I2 hpre hz ho rfl rfl (by simpa using p3))
            · cases ho : overB zs ys
              · exact turn (by simp [gameB, phrB, hz, hpre, endB, p2]) (specGame_c0tuf n c h s v1 v2 zs ys 0 a b wi re tu w I1 I2 hpre hz ho rfl (by simpa using p2))
              · exact turn (by simp [gameB, phrB, hz, hpre, endB, p2]) (specGame_c0tut n c h s v1 v2 zs ys 0 a b wi re tu w I1 I2 hpre hz ho rfl (by simpa using p2))
          · cases ho : overB zs ys
            · exact turn (by simp [gameB, phrB, hz, hpre, endB, p1]) (specGame_c0plf n c h s v1 v2 zs ys pl a b wi re tu w I1 I2 hpre hz ho (by simpa using p1))
            · exact turn (by simp [gameB, phrB, hz, hpre, endB, p1]) (specGame_c0plt n c h s v1 v2 zs ys pl a b wi re tu w I1 I2 hpre hz ho (by simpa using p1))
        · by_cases h1 : ph = 1
          · subst h1
            cases ho : overB zs ys
            · exact turn (by simp [gameB, phrB, hz, hpre]) (specGame_c1f p c h s v1 v2 zs ys pl a b wi re tu w I1 I2 hpre hz ho)
            · exact turn (by simp [gameB, phrB, hz, hpre]) (specGame_c1t p c h s v1 v2 zs ys pl a b wi re tu w I1 I2 hpre hz ho)
          · by_cases h3 : ph = 3
            · subst h3
              cases ho : overB zs ys
              · exact turn (by simp [gameB, phrB, hz, hpre, endB, ho]) (specGame_c3d p c h s v1 v2 zs ys pl a b wi re tu w I1 I2 hpre hz ho)
              · by_cases hs : sumN zs zs.length = 0
                · by_cases hw : wi = pl
                  · exact turn (by simp [gameB, phrB, hz, hpre, endB, ho, hs, hw]; rw [Bool.eq_iff_iff]; simp) (specGame_c3c p c h s v1 v2 zs ys pl a b wi re tu w I1 I2 hpre hz ho (by simpa using hs) (by simpa using hw))
                  · exact turn (by simp [gameB, phrB, hz, hpre, endB, ho, hs, hw]) (specGame_c3b p c h s v1 v2 zs ys pl a b wi re tu w I1 I2 hpre hz ho (by simpa using hs) (by simpa using hw))
                · exact turn (by simp [gameB, phrB, hz, hpre, endB, ho, hs]) (specGame_c3a p c h s v1 v2 zs ys pl a b wi re tu w I1 I2 hpre hz ho (by simpa using hs))
            · cases ho : overB zs ys
              · exact turn (by simp [gameB, phrB, hz, hpre, endB, h0, h1, h2, h3]) (specGame_c4f p c h s v1 v2 zs ys pl a b ph wi re tu w I1 I2 hpre hz (by simpa using h0) (by simpa using h1) h2' (by simpa using h3) ho)
              · exact turn (by simp [gameB, phrB, hz, hpre, endB, h0, h1, h2, h3]) (specGame_c4t p c h s v1 v2 zs ys pl a b ph wi re tu w I1 I2 hpre hz (by simpa using h0) (by simpa using h1) h2' (by simpa using h3) ho)

theorem specIsGame_any (p c h s : Int) (v1 v2 : Value) (zs ys : List Int) (pl a b ph wi re tu : Int) (w : World) (I1 : IntsAt w v1 zs) (I2 : IntsAt w v2 ys) :
    Calls Try.prog 54 #[.agg #[.int .i64 p, .int .i64 c, .int .i64 h, .int .i64 s], gameV v1 v2 pl a b ph wi re tu] w fun e w' => e = .returned (.bool (gameB p c h s zs ys pl a b ph wi re tu)) ∧ Below w.heap.size w w' := by
  have hd := specGame_any p c h s v1 v2 zs ys pl a b ph wi re tu
  unfold gameV at hd ⊢
  obtain ⟨a1, c1, rfl, _⟩ := id I1
  obtain ⟨a2, c2, rfl, _⟩ := id I2
  have HD := hid hd
  clear hd
  go_enter Try.func54, Try.ntmps54
  go_wp2_with fail
  refine (HD.out _ (I1.mono (by (repeat' (first | (with_reducible exact Below.refl _ _) | (with_reducible assumption) | (with_reducible refine xAlloc ?_ _) | (with_reducible refine Below.drew ?_) | (with_reducible refine xDrewN ?_ _) | (with_reducible refine xThen ?_ (by with_reducible assumption)) | (with_reducible refine Below.setCell ?_ (by first | omega | (simp; omega) | simp) _) | exact Below.refl _ _)))) (I2.mono (by (repeat' (first | (with_reducible exact Below.refl _ _) | (with_reducible assumption) | (with_reducible refine xAlloc ?_ _) | (with_reducible refine Below.drew ?_) | (with_reducible refine xDrewN ?_ _) | (with_reducible refine xThen ?_ (by with_reducible assumption)) | (with_reducible refine Below.setCell ?_ (by first | omega | (simp; omega) | simp) _) | exact Below.refl _ _))))).mono ?_
  rintro e w1 ⟨rfl, hb⟩
  go_wp2
  go_ret
  exact ⟨rfl, by (repeat' (first | (with_reducible exact Below.refl _ _) | (with_reducible assumption) | (with_reducible refine xAlloc ?_ _) | (with_reducible refine Below.drew ?_) | (with_reducible refine xDrewN ?_ _) | (with_reducible refine xThen ?_ (by with_reducible assumption)) | (with_reducible refine Below.setCell ?_ (by first | omega | (simp; omega) | simp) _) | exact Below.refl _ _))⟩
end Go.Proofs.Ytmcjabodkjlkgaa
