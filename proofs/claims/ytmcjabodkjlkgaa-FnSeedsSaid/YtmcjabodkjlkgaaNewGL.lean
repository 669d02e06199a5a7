/-
  The contract of the reference's NewGame, and the law over both NewGame functions: it returns true for every variant; no condition.
-/
import Derived.Test.YtmcjabodkjlkgaaNewG
namespace Go.Proofs.Ytmcjabodkjlkgaa
open Go.RowKit

set_option maxHeartbeats 1000000 in
theorem specNew_any (p c h s : Int) (w : World) :
    Calls Try.prog 24 #[.agg #[.int .i64 p, .int .i64 c, .int .i64 h, .int .i64 s]] w (RetNew p c h s w) := by
  cases hv : varB p c h s
  · have HV := hid hv
    have HC : Hid (newCode p c h s = 1) := hid (by simp [newCode, hv])
    have HL : Hid (newL p c h s = []) := hid (by simp [newL, HC.out])
    clear hv
    go_enter Try.func24, Try.ntmps24
    go_wp2_with (go_at_call 67; (with_reducible refine (specIsVariant_any _ _ _ _ _).mono ?_); rw [HV.out]; rintro e w1 ⟨rfl, hb⟩; obtain ⟨hc, hf⟩ := bcell hb; have hsz := hb.size; (try simp at hsz); (try have hy0 : w.heap.size < w1.heap.size := by omega); (try have hy1 : w.heap.size + 1 < w1.heap.size := by omega); (try have hy2 : w.heap.size + 2 < w1.heap.size := by omega); (try have hyS : ws.heap.size < w1.heap.size := by omega); (try have hyG : wg.heap.size < w1.heap.size := by omega))
    refine bodyPost_ret (v := ?_) ?_ rfl ?_
    rotate_left
    · simp only [results, Try.results24]
      go_simp
      exact rfl
    exact retNew HC.out HL.out (FreshBoard.nil _ _) (by (repeat' (first | (with_reducible exact Below.refl _ _) | (with_reducible assumption) | (with_reducible refine xAlloc ?_ _) | (with_reducible refine Below.drew ?_) | (with_reducible refine xDrewN ?_ _) | (with_reducible refine xThen ?_ (by with_reducible assumption)) | (with_reducible refine Below.setCell ?_ (by first | omega | (simp; omega) | simp) _) | exact Below.refl _ _)))
  · have hr := varB_true hv
    have HV := hid hv
    by_cases h4 : p < 4
    · have HC : Hid (newCode p c h s = 2) := hid (by simp [newCode, hv, h4])
      have HL : Hid (newL p c h s = []) := hid (by simp [newL, HC.out])
      clear hv
      go_enter Try.func24, Try.ntmps24
      go_wp2_with (go_at_call 67; (with_reducible refine (specIsVariant_any _ _ _ _ _).mono ?_); rw [HV.out]; rintro e w1 ⟨rfl, hb⟩; obtain ⟨hc, hf⟩ := bcell hb; have hsz := hb.size; (try simp at hsz); (try have hy0 : w.heap.size < w1.heap.size := by omega); (try have hy1 : w.heap.size + 1 < w1.heap.size := by omega); (try have hy2 : w.heap.size + 2 < w1.heap.size := by omega); (try have hyS : ws.heap.size < w1.heap.size := by omega); (try have hyG : wg.heap.size < w1.heap.size := by omega))
      refine bodyPost_ret (v := ?_) ?_ rfl ?_
      rotate_left
      · simp only [results, Try.results24]
        go_simp
        exact rfl
      exact retNew HC.out HL.out (FreshBoard.nil _ _) (by (repeat' (first | (with_reducible exact Below.refl _ _) | (with_reducible assumption) | (with_reducible refine xAlloc ?_ _) | (with_reducible refine Below.drew ?_) | (with_reducible refine xDrewN ?_ _) | (with_reducible refine xThen ?_ (by with_reducible assumption)) | (with_reducible refine Below.setCell ?_ (by first | omega | (simp; omega) | simp) _) | exact Below.refl _ _)))
    · have HC : Hid (newCode p c h s = 0) := hid (by simp [newCode, hv, h4])
      have HL : Hid (newL p c h s = startL p c h s) := hid (by simp [newL, HC.out])
      obtain ⟨n, rfl⟩ := Int.eq_ofNat_of_zero_le (a := p) (by omega)
      clear hv
      go_enter Try.func24, Try.ntmps24
      go_wp2_with (go_at_call 67; (with_reducible refine (specIsVariant_any _ _ _ _ _).mono ?_); rw [HV.out]; rintro e w1 ⟨rfl, hb⟩; obtain ⟨hc, hf⟩ := bcell hb; have hsz := hb.size; (try simp at hsz); (try have hy0 : w.heap.size < w1.heap.size := by omega); (try have hy1 : w.heap.size + 1 < w1.heap.size := by omega); (try have hy2 : w.heap.size + 2 < w1.heap.size := by omega); (try have hyS : ws.heap.size < w1.heap.size := by omega); (try have hyG : wg.heap.size < w1.heap.size := by omega))
      refine calls_named (fun U hU0 => ?_)
      have hU := hid hU0
      clear hU0
      have bU : Below w.heap.size w U := by rw [← hU.out]; (repeat' (first | (with_reducible exact Below.refl _ _) | (with_reducible assumption) | (with_reducible refine xAlloc ?_ _) | (with_reducible refine Below.drew ?_) | (with_reducible refine xDrewN ?_ _) | (with_reducible refine xThen ?_ (by with_reducible assumption)) | (with_reducible refine Below.setCell ?_ (by first | omega | (simp; omega) | simp) _) | exact Below.refl _ _))
      have kU0 : U.cell? ⟨w.heap.size, 0, none⟩ = some (.int .i64 n) := by rw [← hU.out]; go_simp
      have kU1 : U.cell? ⟨w.heap.size, 1, none⟩ = some (.int .i64 c) := by rw [← hU.out]; go_simp
      have kU2 : U.cell? ⟨w.heap.size, 2, none⟩ = some (.int .i64 h) := by rw [← hU.out]; go_simp
      have kU3 : U.cell? ⟨w.heap.size, 3, none⟩ = some (.int .i64 s) := by rw [← hU.out]; go_simp
      have kU4 : U.cell? ⟨w.heap.size + 1, 0, none⟩ = some (.slice none 0 0) := by rw [← hU.out]; go_simp
      have kU5 : U.cell? ⟨w.heap.size + 1, 1, none⟩ = some (.slice none 0 0) := by rw [← hU.out]; go_simp
      have kU6 : U.cell? ⟨w.heap.size + 1, 2, none⟩ = some (.int .i64 0) := by rw [← hU.out]; go_simp
      have kU7 : U.cell? ⟨w.heap.size + 1, 3, none⟩ = some (.int .i64 0) := by rw [← hU.out]; go_simp
      have kU8 : U.cell? ⟨w.heap.size + 1, 4, none⟩ = some (.int .i64 0) := by rw [← hU.out]; go_simp
      have kU9 : U.cell? ⟨w.heap.size + 1, 5, none⟩ = some (.int .i64 0) := by rw [← hU.out]; go_simp
      have kU10 : U.cell? ⟨w.heap.size + 1, 6, none⟩ = some (.int .i64 0) := by rw [← hU.out]; go_simp
      have kU11 : U.cell? ⟨w.heap.size + 1, 7, none⟩ = some (.int .i64 0) := by rw [← hU.out]; go_simp
      have kU12 : U.cell? ⟨w.heap.size + 1, 8, none⟩ = some (.int .i64 0) := by rw [← hU.out]; go_simp
      have fU0 : U.frozen? ⟨w.heap.size + 1, 0, none⟩ = false := by rw [← hU.out]; go_simp
      have fU1 : U.frozen? ⟨w.heap.size + 1, 1, none⟩ = false := by rw [← hU.out]; go_simp
      have fU2 : U.frozen? ⟨w.heap.size + 1, 2, none⟩ = false := by rw [← hU.out]; go_simp
      have fU3 : U.frozen? ⟨w.heap.size + 1, 3, none⟩ = false := by rw [← hU.out]; go_simp
      have fU4 : U.frozen? ⟨w.heap.size + 1, 4, none⟩ = false := by rw [← hU.out]; go_simp
      have fU5 : U.frozen? ⟨w.heap.size + 1, 5, none⟩ = false := by rw [← hU.out]; go_simp
      have fU6 : U.frozen? ⟨w.heap.size + 1, 6, none⟩ = false := by rw [← hU.out]; go_simp
      have fU7 : U.frozen? ⟨w.heap.size + 1, 7, none⟩ = false := by rw [← hU.out]; go_simp
      have fU8 : U.frozen? ⟨w.heap.size + 1, 8, none⟩ = false := by rw [← hU.out]; go_simp
      have lU : w.heap.size + 1 < U.heap.size := by rw [← hU.out]; exact hy1
      clear hU hb hc hf hsz hy0 hy1
      refine (specL08New_any n c h s U (by omega) (by omega) (by omega) (by omega)).mono ?_
      rintro e w1 ⟨v1, v2, rfl, hF, hb⟩
      obtain ⟨a1, c1, rfl, _⟩ := hF.one.ints
      obtain ⟨a2, c2, rfl, _⟩ := hF.two.ints
      have kA0 := xcell hb kU0
      have kA1 := xcell hb kU1
      have kA2 := xcell hb kU2
      have kA3 := xcell hb kU3
      have kA4 := xcell hb kU4
      have kA5 := xcell hb kU5
      have kA6 := xcell hb kU6
      have kA7 := xcell hb kU7
      have kA8 := xcell hb kU8
      have kA9 := xcell hb kU9
      have kA10 := xcell hb kU10
      have kA11 := xcell hb kU11
      have kA12 := xcell hb kU12
      have fA0 := xfroz hb kU4 fU0
      have fA1 := xfroz hb kU5 fU1
      have fA2 := xfroz hb kU6 fU2
      have fA3 := xfroz hb kU7 fU3
      have fA4 := xfroz hb kU8 fU4
      have fA5 := xfroz hb kU9 fU5
      have fA6 := xfroz hb kU10 fU6
      have fA7 := xfroz hb kU11 fU7
      have fA8 := xfroz hb kU12 fU8
      have BA := xThen bU hb
      clear kU0 kU1 kU2 kU3 kU4 kU5 kU6 kU7 kU8 kU9 kU10 kU11 kU12 fU0 fU1 fU2 fU3 fU4 fU5 fU6 fU7 fU8 hb
      obtain ⟨L, HLL⟩ := named (startL n c h s)
      rw [← HLL.out] at hF ⊢
      have HF := hid hF
      unfold gameV
      clear hF
      go_wp2
      refine bodyPost_ret (v := ?_) ?_ rfl ?_
      rotate_left
      · simp only [results, Try.results24]
        go_simp
        exact rfl
      refine retNew HC.out (HL.out.trans HLL.out.symm) (v1 := .slice a1 L.length c1) (v2 := .slice a2 L.length c2) ((HF.out.wrote (g := w.heap.size + 1) ?_ lU).low (Nat.le_of_lt (Nat.lt_of_le_of_lt (Nat.le_succ _) lU))) (by (repeat' (first | (with_reducible exact Below.refl _ _) | (with_reducible assumption) | (with_reducible refine xAlloc ?_ _) | (with_reducible refine Below.drew ?_) | (with_reducible refine xDrewN ?_ _) | (with_reducible refine xThen ?_ (by with_reducible assumption)) | (with_reducible refine Below.setCell ?_ (by first | omega | (simp; omega) | simp) _) | exact Below.refl _ _)))
      repeat (with_reducible refine Wrote.setCell ?_ _ _)
      exact Wrote.refl _ _

theorem FreshInts.keep {w0 w w' : World} {lo lo' : Nat} {v : Value} {zs zs' : List Int} (h0 : FreshInts w0 lo' v zs') (h : FreshInts w lo v zs) (hb : Below w0.heap.size w w') : FreshInts w' lo v zs := by
  obtain ⟨hm, hn, h⟩ := h
  refine ⟨hm, hn, h.imp id ?_⟩
  rintro ⟨g, cap, cur, hv, hg, hh, r⟩
  exact ⟨g, cap, cur, hv, hg, (hb.block g (h0.below_size _ _ _ hv)).trans hh, r⟩
theorem FreshBoard.keep {w0 w w' : World} {lo lo' : Nat} {v1 v2 : Value} {zs ys zs' ys' : List Int} (h0 : FreshBoard w0 lo' v1 v2 zs' ys') (h : FreshBoard w lo v1 v2 zs ys) (hb : Below w0.heap.size w w') : FreshBoard w' lo v1 v2 zs ys :=
  ⟨h0.one.keep h.one hb, h0.two.keep h.two hb, h.apart⟩

set_option maxHeartbeats 4000000 in
theorem lawNew (p c h s : Int) (_ : (Lit.int .i64 p).wf = true) (_ : (Lit.int .i64 c).wf = true) (_ : (Lit.int .i64 h).wf = true) (_ : (Lit.int .i64 s).wf = true) (w : World) :
    Calls Try.prog 5 #[.agg #[.int .i64 p, .int .i64 c, .int .i64 h, .int .i64 s]] w fun e w' => e = .returned (.bool true) ∧ Below w.heap.size w w' := by
  obtain ⟨L, HL⟩ := named (newL p c h s)
  obtain ⟨k, HK⟩ := named (newCode p c h s)
  go_enter Try.func5, Try.ntmps5
  go_wp2_with (go_at_call 15; (with_reducible refine (toVariant_any _ _ _ _ _).mono ?_); rintro e w1 ⟨rfl, hb⟩; obtain ⟨hc, hf⟩ := bcell hb; have hsz := hb.size; (try simp at hsz); (try have hy0 : w.heap.size < w1.heap.size := by omega); (try have hy1 : w.heap.size + 1 < w1.heap.size := by omega); (try have hy2 : w.heap.size + 2 < w1.heap.size := by omega); (try have hyS : ws.heap.size < w1.heap.size := by omega); (try have hyG : wg.heap.size < w1.heap.size := by omega))
  refine calls_named (fun U hU0 => ?_)
  have hU := hid hU0
  clear hU0
  have bU : Below w.heap.size w U := by rw [← hU.out]; (repeat' (first | (with_reducible exact Below.refl _ _) | (with_reducible assumption) | (with_reducible refine xAlloc ?_ _) | (with_reducible refine Below.drew ?_) | (with_reducible refine xDrewN ?_ _) | (with_reducible refine xThen ?_ (by with_reducible assumption)) | (with_reducible refine Below.setCell ?_ (by first | omega | (simp; omega) | simp) _) | exact Below.refl _ _))
  have kU0 : U.cell? ⟨w.heap.size, 0, none⟩ = some (.int .i64 p) := by rw [← hU.out]; go_simp
  have kU1 : U.cell? ⟨w.heap.size, 1, none⟩ = some (.int .i64 c) := by rw [← hU.out]; go_simp
  have kU2 : U.cell? ⟨w.heap.size, 2, none⟩ = some (.int .i64 h) := by rw [← hU.out]; go_simp
  have kU3 : U.cell? ⟨w.heap.size, 3, none⟩ = some (.int .i64 s) := by rw [← hU.out]; go_simp
  clear hU hb hc hf hsz hy0
  refine (specNew_any p c h s U).mono ?_
  rintro e w1 ⟨v1, v2, rfl, hF, hb⟩
  rw [← HL.out] at hF
  rw [← HK.out]
  have hLm := hF.one.1
  obtain ⟨a1, c1, rfl, _⟩ := hF.one.ints
  obtain ⟨a2, c2, rfl, _⟩ := hF.two.ints
  have kA0 := xcell hb kU0
  have kA1 := xcell hb kU1
  have kA2 := xcell hb kU2
  have kA3 := xcell hb kU3
  have lA := cell_block kA0
  have BA := xThen bU hb
  have HF := hid hF
  obtain ⟨g3, hg3⟩ := named w1.heap.size
  unfold gameV
  clear kU0 kU1 kU2 kU3 hb hF
  go_wp2_with fail
  refine calls_named (fun V hV0 => ?_)
  have hV := hid hV0
  clear hV0
  have bV : Below w.heap.size w V := by rw [← hV.out]; (repeat' (first | (with_reducible exact Below.refl _ _) | (with_reducible assumption) | (with_reducible refine xAlloc ?_ _) | (with_reducible refine Below.drew ?_) | (with_reducible refine xDrewN ?_ _) | (with_reducible refine xThen ?_ (by with_reducible assumption)) | (with_reducible refine Below.setCell ?_ (by first | omega | (simp; omega) | simp) _) | exact Below.refl _ _))
  have kV0 : V.cell? ⟨w.heap.size, 0, none⟩ = some (.int .i64 p) := by rw [← hV.out]; go_simp
  have kV1 : V.cell? ⟨w.heap.size, 1, none⟩ = some (.int .i64 c) := by rw [← hV.out]; go_simp
  have kV2 : V.cell? ⟨w.heap.size, 2, none⟩ = some (.int .i64 h) := by rw [← hV.out]; go_simp
  have kV3 : V.cell? ⟨w.heap.size, 3, none⟩ = some (.int .i64 s) := by rw [← hV.out]; go_simp
  have kV4 : V.cell? ⟨w1.heap.size, 0, none⟩ = some (.slice a1 L.length c1) := by rw [← hV.out]; go_simp
  have kV5 : V.cell? ⟨w1.heap.size, 1, none⟩ = some (.slice a2 L.length c2) := by rw [← hV.out]; go_simp
  have kV6 : V.cell? ⟨w1.heap.size, 2, none⟩ = some (.int .i64 0) := by rw [← hV.out]; go_simp
  have kV7 : V.cell? ⟨w1.heap.size, 3, none⟩ = some (.int .i64 0) := by rw [← hV.out]; go_simp
  have kV8 : V.cell? ⟨w1.heap.size, 4, none⟩ = some (.int .i64 0) := by rw [← hV.out]; go_simp
  have kV9 : V.cell? ⟨w1.heap.size, 5, none⟩ = some (.int .i64 0) := by rw [← hV.out]; go_simp
  have kV10 : V.cell? ⟨w1.heap.size, 6, none⟩ = some (.int .i64 0) := by rw [← hV.out]; go_simp
  have kV11 : V.cell? ⟨w1.heap.size, 7, none⟩ = some (.int .i64 0) := by rw [← hV.out]; go_simp
  have kV12 : V.cell? ⟨w1.heap.size, 8, none⟩ = some (.int .i64 0) := by rw [← hV.out]; go_simp
  rw [← hg3.out] at kV4 kV5 kV6 kV7 kV8 kV9 kV10 kV11 kV12 ⊢
  have bVx : Below w1.heap.size w1 V := by rw [← hV.out]; exact xAlloc (Below.refl _ _) _
  have HF1 := hid (HF.out.mono bVx)
  clear kA0 kA1 kA2 kA3 hV bVx HF lA BA
  refine (toVariant_any _ _ _ _ V).mono ?_
  rintro e w2 ⟨rfl, hb⟩
  have kB0 := xcell hb kV0
  have kB1 := xcell hb kV1
  have kB2 := xcell hb kV2
  have kB3 := xcell hb kV3
  have kB4 := xcell hb kV4
  have kB5 := xcell hb kV5
  have kB6 := xcell hb kV6
  have kB7 := xcell hb kV7
  have kB8 := xcell hb kV8
  have kB9 := xcell hb kV9
  have kB10 := xcell hb kV10
  have kB11 := xcell hb kV11
  have kB12 := xcell hb kV12
  have BB := xThen bV hb
  have HF2 := hid (HF1.out.mono hb)
  have l2p := cell_block kB0
  clear kV0 kV1 kV2 kV3 kV4 kV5 kV6 kV7 kV8 kV9 kV10 kV11 kV12 hb HF1 bV
  go_wp2_with fail
  refine (implNew_any p c h s w2).mono ?_
  rintro e w3 ⟨u1, u2, rfl, hG, hb⟩
  rw [← HL.out] at hG
  rw [← HK.out]
  obtain ⟨a3, c3, rfl, _⟩ := hG.one.ints
  obtain ⟨a4, c4, rfl, _⟩ := hG.two.ints
  have kC0 := xcell hb kB0
  have kC1 := xcell hb kB1
  have kC2 := xcell hb kB2
  have kC3 := xcell hb kB3
  have kC4 := xcell hb kB4
  have kC5 := xcell hb kB5
  have kC6 := xcell hb kB6
  have kC7 := xcell hb kB7
  have kC8 := xcell hb kB8
  have kC9 := xcell hb kB9
  have kC10 := xcell hb kB10
  have kC11 := xcell hb kB11
  have kC12 := xcell hb kB12
  have BC := xThen BB hb
  have HF3 := hid (HF2.out.mono hb)
  have HG3 := hid hG
  have l2 := Nat.lt_of_lt_of_le (cell_block kB0) hb.size
  have l3 := cell_block kC4
  have l23 := hb.size
  have l2s := cell_block kB4
  obtain ⟨g5, hg5⟩ := named w3.heap.size
  unfold gameV
  clear kB0 kB1 kB2 kB3 kB4 kB5 kB6 kB7 kB8 kB9 kB10 kB11 kB12 hb BB hG
  go_wp2_with fail
  refine calls_named (fun X hX0 => ?_)
  have hX := hid hX0
  clear hX0
  have bX : Below w.heap.size w X := by rw [← hX.out]; (repeat' (first | (with_reducible exact Below.refl _ _) | (with_reducible assumption) | (with_reducible refine xAlloc ?_ _) | (with_reducible refine Below.drew ?_) | (with_reducible refine xDrewN ?_ _) | (with_reducible refine xThen ?_ (by with_reducible assumption)) | (with_reducible refine Below.setCell ?_ (by first | omega | (simp; omega) | simp) _) | exact Below.refl _ _))
  have kX0 : X.cell? ⟨w.heap.size, 0, none⟩ = some (.int .i64 p) := by rw [← hX.out]; go_simp
  have kX1 : X.cell? ⟨w.heap.size, 1, none⟩ = some (.int .i64 c) := by rw [← hX.out]; go_simp
  have kX2 : X.cell? ⟨w.heap.size, 2, none⟩ = some (.int .i64 h) := by rw [← hX.out]; go_simp
  have kX3 : X.cell? ⟨w.heap.size, 3, none⟩ = some (.int .i64 s) := by rw [← hX.out]; go_simp
  have kX4 : X.cell? ⟨g3, 0, none⟩ = some (.slice a1 L.length c1) := by rw [← hX.out]; go_simp
  have kX5 : X.cell? ⟨g3, 1, none⟩ = some (.slice a2 L.length c2) := by rw [← hX.out]; go_simp
  have kX6 : X.cell? ⟨g3, 2, none⟩ = some (.int .i64 0) := by rw [← hX.out]; go_simp
  have kX7 : X.cell? ⟨g3, 3, none⟩ = some (.int .i64 0) := by rw [← hX.out]; go_simp
  have kX8 : X.cell? ⟨g3, 4, none⟩ = some (.int .i64 0) := by rw [← hX.out]; go_simp
  have kX9 : X.cell? ⟨g3, 5, none⟩ = some (.int .i64 0) := by rw [← hX.out]; go_simp
  have kX10 : X.cell? ⟨g3, 6, none⟩ = some (.int .i64 0) := by rw [← hX.out]; go_simp
  have kX11 : X.cell? ⟨g3, 7, none⟩ = some (.int .i64 0) := by rw [← hX.out]; go_simp
  have kX12 : X.cell? ⟨g3, 8, none⟩ = some (.int .i64 0) := by rw [← hX.out]; go_simp
  have kX13 : X.cell? ⟨w3.heap.size, 0, none⟩ = some (.slice a3 L.length c3) := by rw [← hX.out]; go_simp
  have kX14 : X.cell? ⟨w3.heap.size, 1, none⟩ = some (.slice a4 L.length c4) := by rw [← hX.out]; go_simp
  have kX15 : X.cell? ⟨w3.heap.size, 2, none⟩ = some (.int .i64 0) := by rw [← hX.out]; go_simp
  have kX16 : X.cell? ⟨w3.heap.size, 3, none⟩ = some (.int .i64 0) := by rw [← hX.out]; go_simp
  have kX17 : X.cell? ⟨w3.heap.size, 4, none⟩ = some (.int .i64 0) := by rw [← hX.out]; go_simp
  have kX18 : X.cell? ⟨w3.heap.size, 5, none⟩ = some (.int .i64 0) := by rw [← hX.out]; go_simp
  have kX19 : X.cell? ⟨w3.heap.size, 6, none⟩ = some (.int .i64 0) := by rw [← hX.out]; go_simp
  have kX20 : X.cell? ⟨w3.heap.size, 7, none⟩ = some (.int .i64 0) := by rw [← hX.out]; go_simp
  have kX21 : X.cell? ⟨w3.heap.size, 8, none⟩ = some (.int .i64 0) := by rw [← hX.out]; go_simp
  rw [← hg5.out] at kX13 kX14 kX15 kX16 kX17 kX18 kX19 kX20 kX21 ⊢
  have bVx : Below w3.heap.size w3 X := by rw [← hX.out]; exact xAlloc (Below.refl _ _) _
  have HF4 := hid (HF3.out.mono bVx)
  have HG4 := hid (HG3.out.mono bVx)
  have s3X := bVx.size
  clear kC0 kC1 kC2 kC3 kC4 kC5 kC6 kC7 kC8 kC9 kC10 kC11 kC12 hX HF3
  refine (eqGame_any _ _ _ _ L L 0 0 0 0 0 0 0 X HG4.out.one.ints HG4.out.two.ints HF4.out.one.ints HF4.out.two.ints).mono ?_
  rintro e w4 ⟨rfl, hb⟩
  have kD0 := xcell hb kX0
  have kD1 := xcell hb kX1
  have kD2 := xcell hb kX2
  have kD3 := xcell hb kX3
  have kD4 := xcell hb kX4
  have kD5 := xcell hb kX5
  have kD6 := xcell hb kX6
  have kD7 := xcell hb kX7
  have kD8 := xcell hb kX8
  have kD9 := xcell hb kX9
  have kD10 := xcell hb kX10
  have kD11 := xcell hb kX11
  have kD12 := xcell hb kX12
  have kD13 := xcell hb kX13
  have kD14 := xcell hb kX14
  have kD15 := xcell hb kX15
  have kD16 := xcell hb kX16
  have kD17 := xcell hb kX17
  have kD18 := xcell hb kX18
  have kD19 := xcell hb kX19
  have kD20 := xcell hb kX20
  have kD21 := xcell hb kX21
  have BD := xThen bX hb
  have HF5 := hid (HF4.out.mono hb)
  have HG5 := hid (HG4.out.mono hb)
  have sX4 := hb.size
  clear kX0 kX1 kX2 kX3 kX4 kX5 kX6 kX7 kX8 kX9 kX10 kX11 kX12 kX13 kX14 kX15 kX16 kX17 kX18 kX19 kX20 kX21 hb HF4 HG4 bX
  go_wp2_with fail
  refine (markGame_any w2.heap.size _ _ 1 L L 0 0 0 0 0 0 0 w4 HG5.out (by omega) (by omega)).mono ?_
  rintro e w5 ⟨rfl, hH, hm⟩
  have l24 := cell_block kD4
  have l25 := cell_block kD13
  have bM := hm.below HG5.out (Nat.le_refl _) (by omega)
  have kE0 := (bM.cell (p := ⟨w.heap.size, 0, none⟩) (by omega)).trans kD0
  have kE1 := (bM.cell (p := ⟨w.heap.size, 1, none⟩) (by omega)).trans kD1
  have kE2 := (bM.cell (p := ⟨w.heap.size, 2, none⟩) (by omega)).trans kD2
  have kE3 := (bM.cell (p := ⟨w.heap.size, 3, none⟩) (by omega)).trans kD3
  have kE4 := (bM.cell (p := ⟨g3, 0, none⟩) (by omega)).trans kD4
  have kE5 := (bM.cell (p := ⟨g3, 1, none⟩) (by omega)).trans kD5
  have kE6 := (bM.cell (p := ⟨g3, 2, none⟩) (by omega)).trans kD6
  have kE7 := (bM.cell (p := ⟨g3, 3, none⟩) (by omega)).trans kD7
  have kE8 := (bM.cell (p := ⟨g3, 4, none⟩) (by omega)).trans kD8
  have kE9 := (bM.cell (p := ⟨g3, 5, none⟩) (by omega)).trans kD9
  have kE10 := (bM.cell (p := ⟨g3, 6, none⟩) (by omega)).trans kD10
  have kE11 := (bM.cell (p := ⟨g3, 7, none⟩) (by omega)).trans kD11
  have kE12 := (bM.cell (p := ⟨g3, 8, none⟩) (by omega)).trans kD12
  have kE13 := hm.new HG3.out kD13 (by have := hg5.out; omega)
  have kE14 := hm.new HG3.out kD14 (by have := hg5.out; omega)
  have kE15 := hm.new HG3.out kD15 (by have := hg5.out; omega)
  have kE16 := hm.new HG3.out kD16 (by have := hg5.out; omega)
  have kE17 := hm.new HG3.out kD17 (by have := hg5.out; omega)
  have kE18 := hm.new HG3.out kD18 (by have := hg5.out; omega)
  have kE19 := hm.new HG3.out kD19 (by have := hg5.out; omega)
  have kE20 := hm.new HG3.out kD20 (by have := hg5.out; omega)
  have kE21 := hm.new HG3.out kD21 (by have := hg5.out; omega)
  have BE : Below w.heap.size w w5 := BD.trans (bM.mono (by omega))
  have HF6 := hid (HF2.out.keep HF5.out bM)
  have HH6 := hid hH
  clear hH hm bM
  clear kD0 kD1 kD2 kD3 kD4 kD5 kD6 kD7 kD8 kD9 kD10 kD11 kD12 kD13 kD14 kD15 kD16 kD17 kD18 kD19 kD20 kD21 HF5 HG5 BD
  go_wp2_with fail
  refine (heldGame_any _ _ 1 L.length L.length 0 0 0 0 0 0 0 w5 HH6.out hLm hLm (by omega) (by omega)).mono ?_
  rintro e w6 ⟨rfl, hb⟩
  have kF0 := xcell hb kE0
  have kF1 := xcell hb kE1
  have kF2 := xcell hb kE2
  have kF3 := xcell hb kE3
  have kF4 := xcell hb kE4
  have kF5 := xcell hb kE5
  have kF6 := xcell hb kE6
  have kF7 := xcell hb kE7
  have kF8 := xcell hb kE8
  have kF9 := xcell hb kE9
  have kF10 := xcell hb kE10
  have kF11 := xcell hb kE11
  have kF12 := xcell hb kE12
  have kF13 := xcell hb kE13
  have kF14 := xcell hb kE14
  have kF15 := xcell hb kE15
  have kF16 := xcell hb kE16
  have kF17 := xcell hb kE17
  have kF18 := xcell hb kE18
  have kF19 := xcell hb kE19
  have kF20 := xcell hb kE20
  have kF21 := xcell hb kE21
  have BF := xThen BE hb
  have HF7 := hid (HF6.out.mono hb)
  have HH7 := hid (HH6.out.mono hb)
  have hk1 : ¬ (1 + (L.length : Int) + (L.length : Int) < 0) := by omega
  clear kE0 kE1 kE2 kE3 kE4 kE5 kE6 kE7 kE8 kE9 kE10 kE11 kE12 kE13 kE14 kE15 kE16 kE17 kE18 kE19 kE20 kE21 hb HF6 HH6 BE
  go_wp2_with fail
  refine (toVariant_any _ _ _ _ w6).mono ?_
  rintro e w7 ⟨rfl, hb⟩
  have kG0 := xcell hb kF0
  have kG1 := xcell hb kF1
  have kG2 := xcell hb kF2
  have kG3 := xcell hb kF3
  have kG4 := xcell hb kF4
  have kG5 := xcell hb kF5
  have kG6 := xcell hb kF6
  have kG7 := xcell hb kF7
  have kG8 := xcell hb kF8
  have kG9 := xcell hb kF9
  have kG10 := xcell hb kF10
  have kG11 := xcell hb kF11
  have kG12 := xcell hb kF12
  have kG13 := xcell hb kF13
  have kG14 := xcell hb kF14
  have kG15 := xcell hb kF15
  have kG16 := xcell hb kF16
  have kG17 := xcell hb kF17
  have kG18 := xcell hb kF18
  have kG19 := xcell hb kF19
  have kG20 := xcell hb kF20
  have kG21 := xcell hb kF21
  have BG := xThen BF hb
  have HF8 := hid (HF7.out.mono hb)
  have HH8 := hid (HH7.out.mono hb)
  clear kF0 kF1 kF2 kF3 kF4 kF5 kF6 kF7 kF8 kF9 kF10 kF11 kF12 kF13 kF14 kF15 kF16 kF17 kF18 kF19 kF20 kF21 hb HF7 HH7 BF
  go_wp2_with fail
  refine (implNew_any p c h s w7).mono ?_
  rintro e w8 ⟨x1, x2, rfl, hJ, hb⟩
  rw [← HL.out] at hJ
  rw [← HK.out]
  obtain ⟨a5, c5, rfl, _⟩ := hJ.one.ints
  obtain ⟨a6, c6, rfl, _⟩ := hJ.two.ints
  have kH0 := xcell hb kG0
  have kH1 := xcell hb kG1
  have kH2 := xcell hb kG2
  have kH3 := xcell hb kG3
  have kH4 := xcell hb kG4
  have kH5 := xcell hb kG5
  have kH6 := xcell hb kG6
  have kH7 := xcell hb kG7
  have kH8 := xcell hb kG8
  have kH9 := xcell hb kG9
  have kH10 := xcell hb kG10
  have kH11 := xcell hb kG11
  have kH12 := xcell hb kG12
  have kH13 := xcell hb kG13
  have kH14 := xcell hb kG14
  have kH15 := xcell hb kG15
  have kH16 := xcell hb kG16
  have kH17 := xcell hb kG17
  have kH18 := xcell hb kG18
  have kH19 := xcell hb kG19
  have kH20 := xcell hb kG20
  have kH21 := xcell hb kG21
  have BH := xThen BG hb
  have HF9 := hid (HF8.out.mono hb)
  have HH9 := hid (HH8.out.mono hb)
  have HJ9 := hid hJ
  have l8a := cell_block kH4
  have l8b := cell_block kH13
  unfold gameV
  clear kG0 kG1 kG2 kG3 kG4 kG5 kG6 kG7 kG8 kG9 kG10 kG11 kG12 kG13 kG14 kG15 kG16 kG17 kG18 kG19 kG20 kG21 hb HF8 HH8 BG hJ
  go_wp2_with fail
  refine calls_named (fun Y hY0 => ?_)
  have hY := hid hY0
  clear hY0
  have bY : Below w.heap.size w Y := by rw [← hY.out]; (repeat' (first | (with_reducible exact Below.refl _ _) | (with_reducible assumption) | (with_reducible refine xAlloc ?_ _) | (with_reducible refine Below.drew ?_) | (with_reducible refine xDrewN ?_ _) | (with_reducible refine xThen ?_ (by with_reducible assumption)) | (with_reducible refine Below.setCell ?_ (by first | omega | (simp; omega) | simp) _) | exact Below.refl _ _))
  have kY0 : Y.cell? ⟨g3, 0, none⟩ = some (.slice a1 L.length c1) := by rw [← hY.out]; go_simp
  have kY1 : Y.cell? ⟨g3, 1, none⟩ = some (.slice a2 L.length c2) := by rw [← hY.out]; go_simp
  have kY2 : Y.cell? ⟨g3, 2, none⟩ = some (.int .i64 0) := by rw [← hY.out]; go_simp
  have kY3 : Y.cell? ⟨g3, 3, none⟩ = some (.int .i64 0) := by rw [← hY.out]; go_simp
  have kY4 : Y.cell? ⟨g3, 4, none⟩ = some (.int .i64 0) := by rw [← hY.out]; go_simp
  have kY5 : Y.cell? ⟨g3, 5, none⟩ = some (.int .i64 0) := by rw [← hY.out]; go_simp
  have kY6 : Y.cell? ⟨g3, 6, none⟩ = some (.int .i64 0) := by rw [← hY.out]; go_simp
  have kY7 : Y.cell? ⟨g3, 7, none⟩ = some (.int .i64 0) := by rw [← hY.out]; go_simp
  have kY8 : Y.cell? ⟨g3, 8, none⟩ = some (.int .i64 0) := by rw [← hY.out]; go_simp
  have kY9 : Y.cell? ⟨g5, 0, none⟩ = some (.slice a3 L.length c3) := by rw [← hY.out]; go_simp
  have kY10 : Y.cell? ⟨g5, 1, none⟩ = some (.slice a4 L.length c4) := by rw [← hY.out]; go_simp
  have kY11 : Y.cell? ⟨g5, 2, none⟩ = some (.int .i64 0) := by rw [← hY.out]; go_simp
  have kY12 : Y.cell? ⟨g5, 3, none⟩ = some (.int .i64 0) := by rw [← hY.out]; go_simp
  have kY13 : Y.cell? ⟨g5, 4, none⟩ = some (.int .i64 0) := by rw [← hY.out]; go_simp
  have kY14 : Y.cell? ⟨g5, 5, none⟩ = some (.int .i64 0) := by rw [← hY.out]; go_simp
  have kY15 : Y.cell? ⟨g5, 6, none⟩ = some (.int .i64 0) := by rw [← hY.out]; go_simp
  have kY16 : Y.cell? ⟨g5, 7, none⟩ = some (.int .i64 0) := by rw [← hY.out]; go_simp
  have kY17 : Y.cell? ⟨g5, 8, none⟩ = some (.int .i64 0) := by rw [← hY.out]; go_simp
  have bVx : Below w8.heap.size w8 Y := by rw [← hY.out]; exact xAlloc (Below.refl _ _) _
  have HFa := hid (HF9.out.mono bVx)
  have HHa := hid (HH9.out.mono bVx)
  have HJa := hid (HJ9.out.mono bVx)
  clear kH0 kH1 kH2 kH3 kH4 kH5 kH6 kH7 kH8 kH9 kH10 kH11 kH12 kH13 kH14 kH15 kH16 kH17 kH18 kH19 kH20 kH21 hY HF9 HH9 HJ9 BH
  refine (eqGame_any _ _ _ _ L L 0 0 0 0 0 0 0 Y HJa.out.one.ints HJa.out.two.ints HFa.out.one.ints HFa.out.two.ints).mono ?_
  rintro e w9 ⟨rfl, hb⟩
  have kI0 := xcell hb kY0
  have kI1 := xcell hb kY1
  have kI2 := xcell hb kY2
  have kI3 := xcell hb kY3
  have kI4 := xcell hb kY4
  have kI5 := xcell hb kY5
  have kI6 := xcell hb kY6
  have kI7 := xcell hb kY7
  have kI8 := xcell hb kY8
  have kI9 := xcell hb kY9
  have kI10 := xcell hb kY10
  have kI11 := xcell hb kY11
  have kI12 := xcell hb kY12
  have kI13 := xcell hb kY13
  have kI14 := xcell hb kY14
  have kI15 := xcell hb kY15
  have kI16 := xcell hb kY16
  have kI17 := xcell hb kY17
  have BI := xThen bY hb
  have HHb := hid (HHa.out.mono hb)
  clear kY0 kY1 kY2 kY3 kY4 kY5 kY6 kY7 kY8 kY9 kY10 kY11 kY12 kY13 kY14 kY15 kY16 kY17 hb HFa HHa HJa bY
  go_wp2_with fail
  refine (heldGame_any _ _ 1 L.length L.length 0 0 0 0 0 0 0 w9 HHb.out hLm hLm (by omega) (by omega)).mono ?_
  rintro e w10 ⟨rfl, hb⟩
  go_wp2
  go_ret
  exact ⟨rfl, xThen BI hb⟩
end Go.Proofs.Ytmcjabodkjlkgaa
