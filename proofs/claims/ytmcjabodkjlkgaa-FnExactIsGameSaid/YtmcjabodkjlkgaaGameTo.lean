/-
  The laws' own copies of a game, and the law over both IsGame functions: it returns true for every variant and game; no condition.
-/
import Derived.Test.YtmcjabodkjlkgaaNewGL
import Derived.Deep.DeepCutAuto
namespace Go.Proofs.Ytmcjabodkjlkgaa
open Go.RowKit

theorem toBoardF_any (v1 v2 : Value) (zs ys : List Int) (w : World) (I1 : IntsAt w v1 zs) (I2 : IntsAt w v2 ys) :
    Calls Try.prog 16 #[.agg #[v1, v2]] w fun e w' => ∃ b1 b2, e = .returned (.agg #[.slice (some ⟨b1, 0, none⟩) zs.length zs.length, .slice (some ⟨b2, 0, none⟩) ys.length ys.length]) ∧ FreshBoard w' w.heap.size (.slice (some ⟨b1, 0, none⟩) zs.length zs.length) (.slice (some ⟨b2, 0, none⟩) ys.length ys.length) zs ys ∧ Below w.heap.size w w' := by
  go_enter Try.func16, Try.ntmps16
  go_wp2_with fail
  refine (toIntsB_any _ zs _ (I1.mono (by (repeat' (first | (with_reducible exact Below.refl _ _) | (with_reducible assumption) | (with_reducible refine xAlloc ?_ _) | (with_reducible refine Below.drew ?_) | (with_reducible refine xDrewN ?_ _) | (with_reducible refine xThen ?_ (by with_reducible assumption)) | (with_reducible refine Below.setCell ?_ (by first | omega | (simp; omega) | simp) _) | exact Below.refl _ _))))).mono ?_
  rintro e wa ⟨rfl, hFa, hba, -⟩
  obtain ⟨hca, hfa⟩ := bcell hba
  have hsa := hba.size
  simp at hsa
  have ya0 : w.heap.size < wa.heap.size := by omega
  have ya1 : w.heap.size + 1 < wa.heap.size := by omega
  have ya2 : w.heap.size + 2 < wa.heap.size := by omega
  go_wp2_with fail
  refine (toIntsB_any _ ys _ (I2.mono (by (repeat' (first | (with_reducible exact Below.refl _ _) | (with_reducible assumption) | (with_reducible refine xAlloc ?_ _) | (with_reducible refine Below.drew ?_) | (with_reducible refine xDrewN ?_ _) | (with_reducible refine xThen ?_ (by with_reducible assumption)) | (with_reducible refine Below.setCell ?_ (by first | omega | (simp; omega) | simp) _) | exact Below.refl _ _))))).mono ?_
  rintro e wb ⟨rfl, hFb, hbb, -⟩
  obtain ⟨hcb, hfb⟩ := bcell hbb
  have hsb := hbb.size
  simp at hsb
  have yb0 : w.heap.size < wb.heap.size := by omega
  have yb1 : w.heap.size + 1 < wb.heap.size := by omega
  have yb2 : w.heap.size + 2 < wb.heap.size := by omega
  go_wp2
  have f1 := (((hFa.wrote ((Wrote.refl (w.heap.size + 1 + 1) wa).setCell 0 (.slice (some ⟨w.heap.size + 1 + 1 + 1, 0, none⟩) zs.length zs.length)) (by simp)).mono hbb).wrote ((Wrote.refl (w.heap.size + 1 + 1) wb).setCell 1 (.slice (some ⟨wa.heap.size, 0, none⟩) ys.length ys.length)) (by simp)).wrote
    (((Wrote.refl (w.heap.size + 1) _).setCell 0 (.slice (some ⟨w.heap.size + 1 + 1 + 1, 0, none⟩) zs.length zs.length)).setCell 1 (.slice (some ⟨wa.heap.size, 0, none⟩) ys.length ys.length)) (by simp)
  have f2 := (hFb.wrote ((Wrote.refl (w.heap.size + 1 + 1) wb).setCell 1 (.slice (some ⟨wa.heap.size, 0, none⟩) ys.length ys.length)) (by simp; omega)).wrote
    (((Wrote.refl (w.heap.size + 1) _).setCell 0 (.slice (some ⟨w.heap.size + 1 + 1 + 1, 0, none⟩) zs.length zs.length)).setCell 1 (.slice (some ⟨wa.heap.size, 0, none⟩) ys.length ys.length)) (by simp; omega)
  refine bodyPost_ret (v := .agg #[.slice (some ⟨w.heap.size + 1 + 1 + 1, 0, none⟩) zs.length zs.length, .slice (some ⟨wa.heap.size, 0, none⟩) ys.length ys.length]) (by simp only [results, Try.results16]; go_simp) rfl ?_
  refine ⟨_, _, rfl, ⟨by simpa using f1.low (lo' := w.heap.size) (by simp; omega), by simpa using f2.low (lo' := w.heap.size) (by simp; omega), ?_⟩, by (repeat' (first | (with_reducible exact Below.refl _ _) | (with_reducible assumption) | (with_reducible refine xAlloc ?_ _) | (with_reducible refine Below.drew ?_) | (with_reducible refine xDrewN ?_ _) | (with_reducible refine xThen ?_ (by with_reducible assumption)) | (with_reducible refine Below.setCell ?_ (by first | omega | (simp; omega) | simp) _) | exact Below.refl _ _))⟩
  intro a1 n1 c1 a2 n2 c2 e1 e2
  injection e1 with e1
  injection e1 with e1
  injection e2 with e2
  injection e2 with e2
  subst e1 e2
  have h9 := blk_lt hFa.row.2.choose_spec.2.1
  simp at h9 ⊢
  omega

theorem toRoll_any (a b : Int) (w : World) :
    Calls Try.prog 106 #[.agg #[.int .i64 a, .int .i64 b]] w fun e w' => e = .returned (.agg #[.int .i64 a, .int .i64 b]) ∧ Below w.heap.size w w' := by
  go_enter Try.func106, Try.ntmps106
  go_wp2
  go_returns
  exact ⟨rfl, by go_grown⟩

set_option maxHeartbeats 2000000 in
theorem toGame_any (v1 v2 : Value) (zs ys : List Int) (pl a b ph wi re tu : Int) (w : World) (I1 : IntsAt w v1 zs) (I2 : IntsAt w v2 ys) :
    Calls Try.prog 55 #[gameV v1 v2 pl a b ph wi re tu] w fun e w' => ∃ b1 b2, e = .returned (gameV (.slice (some ⟨b1, 0, none⟩) zs.length zs.length) (.slice (some ⟨b2, 0, none⟩) ys.length ys.length) pl a b ph wi re tu) ∧ FreshBoard w' w.heap.size (.slice (some ⟨b1, 0, none⟩) zs.length zs.length) (.slice (some ⟨b2, 0, none⟩) ys.length ys.length) zs ys ∧ Below w.heap.size w w' := by
  unfold gameV
  obtain ⟨a1, c1, rfl, _⟩ := id I1
  obtain ⟨a2, c2, rfl, _⟩ := id I2
  go_enter Try.func55, Try.ntmps55
  go_wp2_with fail
  refine calls_named (fun U hU0 => ?_)
  have hU := hid hU0
  clear hU0
  have bU : Below w.heap.size w U := by rw [← hU.out]; (repeat' (first | (with_reducible exact Below.refl _ _) | (with_reducible assumption) | (with_reducible refine xAlloc ?_ _) | (with_reducible refine Below.drew ?_) | (with_reducible refine xDrewN ?_ _) | (with_reducible refine xThen ?_ (by with_reducible assumption)) | (with_reducible refine Below.setCell ?_ (by first | omega | (simp; omega) | simp) _) | exact Below.refl _ _))
  have kU0 : U.cell? ⟨w.heap.size, 0, none⟩ = some (.slice a1 zs.length c1) := by rw [← hU.out]; go_simp
  have kU1 : U.cell? ⟨w.heap.size, 1, none⟩ = some (.slice a2 ys.length c2) := by rw [← hU.out]; go_simp
  have kU2 : U.cell? ⟨w.heap.size, 2, none⟩ = some (.int .i64 pl) := by rw [← hU.out]; go_simp
  have kU3 : U.cell? ⟨w.heap.size, 3, none⟩ = some (.int .i64 a) := by rw [← hU.out]; go_simp
  have kU4 : U.cell? ⟨w.heap.size, 4, none⟩ = some (.int .i64 b) := by rw [← hU.out]; go_simp
  have kU5 : U.cell? ⟨w.heap.size, 5, none⟩ = some (.int .i64 ph) := by rw [← hU.out]; go_simp
  have kU6 : U.cell? ⟨w.heap.size, 6, none⟩ = some (.int .i64 wi) := by rw [← hU.out]; go_simp
  have kU7 : U.cell? ⟨w.heap.size, 7, none⟩ = some (.int .i64 re) := by rw [← hU.out]; go_simp
  have kU8 : U.cell? ⟨w.heap.size, 8, none⟩ = some (.int .i64 tu) := by rw [← hU.out]; go_simp
  have kU9 : U.cell? ⟨w.heap.size + 1, 0, none⟩ = some (.slice none 0 0) := by rw [← hU.out]; go_simp
  have kU10 : U.cell? ⟨w.heap.size + 1, 1, none⟩ = some (.slice none 0 0) := by rw [← hU.out]; go_simp
  have kU11 : U.cell? ⟨w.heap.size + 1, 2, none⟩ = some (.int .i64 0) := by rw [← hU.out]; go_simp
  have kU12 : U.cell? ⟨w.heap.size + 1, 3, none⟩ = some (.int .i64 0) := by rw [← hU.out]; go_simp
  have kU13 : U.cell? ⟨w.heap.size + 1, 4, none⟩ = some (.int .i64 0) := by rw [← hU.out]; go_simp
  have kU14 : U.cell? ⟨w.heap.size + 1, 5, none⟩ = some (.int .i64 0) := by rw [← hU.out]; go_simp
  have kU15 : U.cell? ⟨w.heap.size + 1, 6, none⟩ = some (.int .i64 0) := by rw [← hU.out]; go_simp
  have kU16 : U.cell? ⟨w.heap.size + 1, 7, none⟩ = some (.int .i64 0) := by rw [← hU.out]; go_simp
  have kU17 : U.cell? ⟨w.heap.size + 1, 8, none⟩ = some (.int .i64 0) := by rw [← hU.out]; go_simp
  have kU18 : U.cell? ⟨w.heap.size + 2, 0, none⟩ = some (.slice none 0 0) := by rw [← hU.out]; go_simp
  have kU19 : U.cell? ⟨w.heap.size + 2, 1, none⟩ = some (.slice none 0 0) := by rw [← hU.out]; go_simp
  have kU20 : U.cell? ⟨w.heap.size + 2, 2, none⟩ = some (.int .i64 0) := by rw [← hU.out]; go_simp
  have kU21 : U.cell? ⟨w.heap.size + 2, 3, none⟩ = some (.int .i64 0) := by rw [← hU.out]; go_simp
  have kU22 : U.cell? ⟨w.heap.size + 2, 4, none⟩ = some (.int .i64 0) := by rw [← hU.out]; go_simp
  have kU23 : U.cell? ⟨w.heap.size + 2, 5, none⟩ = some (.int .i64 0) := by rw [← hU.out]; go_simp
  have kU24 : U.cell? ⟨w.heap.size + 2, 6, none⟩ = some (.int .i64 0) := by rw [← hU.out]; go_simp
  have kU25 : U.cell? ⟨w.heap.size + 2, 7, none⟩ = some (.int .i64 0) := by rw [← hU.out]; go_simp
  have kU26 : U.cell? ⟨w.heap.size + 2, 8, none⟩ = some (.int .i64 0) := by rw [← hU.out]; go_simp
  have fU0 : U.frozen? ⟨w.heap.size + 1, 0, none⟩ = false := by rw [← hU.out]; go_simp
  have fU1 : U.frozen? ⟨w.heap.size + 1, 1, none⟩ = false := by rw [← hU.out]; go_simp
  have fU2 : U.frozen? ⟨w.heap.size + 1, 2, none⟩ = false := by rw [← hU.out]; go_simp
  have fU3 : U.frozen? ⟨w.heap.size + 1, 3, none⟩ = false := by rw [← hU.out]; go_simp
  have fU4 : U.frozen? ⟨w.heap.size + 1, 4, none⟩ = false := by rw [← hU.out]; go_simp
  have fU5 : U.frozen? ⟨w.heap.size + 1, 5, none⟩ = false := by rw [← hU.out]; go_simp
  have fU6 : U.frozen? ⟨w.heap.size + 1, 6, none⟩ = false := by rw [← hU.out]; go_simp
  have fU7 : U.frozen? ⟨w.heap.size + 1, 7, none⟩ = false := by rw [← hU.out]; go_simp
  have fU8 : U.frozen? ⟨w.heap.size + 1, 8, none⟩ = false := by rw [← hU.out]; go_simp
  have fU9 : U.frozen? ⟨w.heap.size + 2, 0, none⟩ = false := by rw [← hU.out]; go_simp
  have fU10 : U.frozen? ⟨w.heap.size + 2, 1, none⟩ = false := by rw [← hU.out]; go_simp
  have fU11 : U.frozen? ⟨w.heap.size + 2, 2, none⟩ = false := by rw [← hU.out]; go_simp
  have fU12 : U.frozen? ⟨w.heap.size + 2, 3, none⟩ = false := by rw [← hU.out]; go_simp
  have fU13 : U.frozen? ⟨w.heap.size + 2, 4, none⟩ = false := by rw [← hU.out]; go_simp
  have fU14 : U.frozen? ⟨w.heap.size + 2, 5, none⟩ = false := by rw [← hU.out]; go_simp
  have fU15 : U.frozen? ⟨w.heap.size + 2, 6, none⟩ = false := by rw [← hU.out]; go_simp
  have fU16 : U.frozen? ⟨w.heap.size + 2, 7, none⟩ = false := by rw [← hU.out]; go_simp
  have fU17 : U.frozen? ⟨w.heap.size + 2, 8, none⟩ = false := by rw [← hU.out]; go_simp
  have lU : w.heap.size + 2 < U.heap.size := by rw [← hU.out]; simp
  clear hU
  refine (toBoardF_any _ _ zs ys U (I1.mono bU) (I2.mono bU)).mono ?_
  rintro e w1 ⟨b1, b2, rfl, hF, hb⟩
  have kA0 := xcell hb kU0
  have kA1 := xcell hb kU1
  have kA2 := xcell hb kU2
  have kA3 := xcell hb kU3
  have kA4 := xcell hb kU4
  have kA5 := xcell hb kU5
  have kA6 := xcell hb kU6
  have kA7 := xcell hb kU7
  have kA8 := xcell hb kU8
  have kA9 := xcell hb kU9
  have kA10 := xcell hb kU10
  have kA11 := xcell hb kU11
  have kA12 := xcell hb kU12
  have kA13 := xcell hb kU13
  have kA14 := xcell hb kU14
  have kA15 := xcell hb kU15
  have kA16 := xcell hb kU16
  have kA17 := xcell hb kU17
  have kA18 := xcell hb kU18
  have kA19 := xcell hb kU19
  have kA20 := xcell hb kU20
  have kA21 := xcell hb kU21
  have kA22 := xcell hb kU22
  have kA23 := xcell hb kU23
  have kA24 := xcell hb kU24
  have kA25 := xcell hb kU25
  have kA26 := xcell hb kU26
  have fA0 := xfroz hb kU9 fU0
  have fA1 := xfroz hb kU10 fU1
  have fA2 := xfroz hb kU11 fU2
  have fA3 := xfroz hb kU12 fU3
  have fA4 := xfroz hb kU13 fU4
  have fA5 := xfroz hb kU14 fU5
  have fA6 := xfroz hb kU15 fU6
  have fA7 := xfroz hb kU16 fU7
  have fA8 := xfroz hb kU17 fU8
  have fA9 := xfroz hb kU18 fU9
  have fA10 := xfroz hb kU19 fU10
  have fA11 := xfroz hb kU20 fU11
  have fA12 := xfroz hb kU21 fU12
  have fA13 := xfroz hb kU22 fU13
  have fA14 := xfroz hb kU23 fU14
  have fA15 := xfroz hb kU24 fU15
  have fA16 := xfroz hb kU25 fU16
  have fA17 := xfroz hb kU26 fU17
  have BA := xThen bU hb
  have lA := Nat.lt_of_lt_of_le lU hb.size
  have HF := hid hF
  clear kU0 kU1 kU2 kU3 kU4 kU5 kU6 kU7 kU8 kU9 kU10 kU11 kU12 kU13 kU14 kU15 kU16 kU17 kU18 kU19 kU20 kU21 kU22 kU23 kU24 kU25 kU26 fU0 fU1 fU2 fU3 fU4 fU5 fU6 fU7 fU8 fU9 fU10 fU11 fU12 fU13 fU14 fU15 fU16 fU17 hb hF
  go_wp2_with fail
  refine calls_named (fun V hV0 => ?_)
  have hV := hid hV0
  clear hV0
  have bV : Below w.heap.size w V := by rw [← hV.out]; (repeat' (first | (with_reducible exact Below.refl _ _) | (with_reducible assumption) | (with_reducible refine xAlloc ?_ _) | (with_reducible refine Below.drew ?_) | (with_reducible refine xDrewN ?_ _) | (with_reducible refine xThen ?_ (by with_reducible assumption)) | (with_reducible refine Below.setCell ?_ (by first | omega | (simp; omega) | simp) _) | exact Below.refl _ _))
  have kV0 : V.cell? ⟨w.heap.size, 0, none⟩ = some (.slice a1 zs.length c1) := by rw [← hV.out]; go_simp
  have kV1 : V.cell? ⟨w.heap.size, 1, none⟩ = some (.slice a2 ys.length c2) := by rw [← hV.out]; go_simp
  have kV2 : V.cell? ⟨w.heap.size, 2, none⟩ = some (.int .i64 pl) := by rw [← hV.out]; go_simp
  have kV3 : V.cell? ⟨w.heap.size, 3, none⟩ = some (.int .i64 a) := by rw [← hV.out]; go_simp
  have kV4 : V.cell? ⟨w.heap.size, 4, none⟩ = some (.int .i64 b) := by rw [← hV.out]; go_simp
  have kV5 : V.cell? ⟨w.heap.size, 5, none⟩ = some (.int .i64 ph) := by rw [← hV.out]; go_simp
  have kV6 : V.cell? ⟨w.heap.size, 6, none⟩ = some (.int .i64 wi) := by rw [← hV.out]; go_simp
  have kV7 : V.cell? ⟨w.heap.size, 7, none⟩ = some (.int .i64 re) := by rw [← hV.out]; go_simp
  have kV8 : V.cell? ⟨w.heap.size, 8, none⟩ = some (.int .i64 tu) := by rw [← hV.out]; go_simp
  have kV9 : V.cell? ⟨w.heap.size + 1, 0, none⟩ = some (.slice none 0 0) := by rw [← hV.out]; go_simp
  have kV10 : V.cell? ⟨w.heap.size + 1, 1, none⟩ = some (.slice none 0 0) := by rw [← hV.out]; go_simp
  have kV11 : V.cell? ⟨w.heap.size + 1, 2, none⟩ = some (.int .i64 0) := by rw [← hV.out]; go_simp
  have kV12 : V.cell? ⟨w.heap.size + 1, 3, none⟩ = some (.int .i64 0) := by rw [← hV.out]; go_simp
  have kV13 : V.cell? ⟨w.heap.size + 1, 4, none⟩ = some (.int .i64 0) := by rw [← hV.out]; go_simp
  have kV14 : V.cell? ⟨w.heap.size + 1, 5, none⟩ = some (.int .i64 0) := by rw [← hV.out]; go_simp
  have kV15 : V.cell? ⟨w.heap.size + 1, 6, none⟩ = some (.int .i64 0) := by rw [← hV.out]; go_simp
  have kV16 : V.cell? ⟨w.heap.size + 1, 7, none⟩ = some (.int .i64 0) := by rw [← hV.out]; go_simp
  have kV17 : V.cell? ⟨w.heap.size + 1, 8, none⟩ = some (.int .i64 0) := by rw [← hV.out]; go_simp
  have kV18 : V.cell? ⟨w.heap.size + 2, 0, none⟩ = some (.slice (some ⟨b1,0,none⟩) zs.length zs.length) := by rw [← hV.out]; go_simp
  have kV19 : V.cell? ⟨w.heap.size + 2, 1, none⟩ = some (.slice (some ⟨b2,0,none⟩) ys.length ys.length) := by rw [← hV.out]; go_simp
  have kV20 : V.cell? ⟨w.heap.size + 2, 2, none⟩ = some (.int .i64 pl) := by rw [← hV.out]; go_simp
  have kV21 : V.cell? ⟨w.heap.size + 2, 3, none⟩ = some (.int .i64 0) := by rw [← hV.out]; go_simp
  have kV22 : V.cell? ⟨w.heap.size + 2, 4, none⟩ = some (.int .i64 0) := by rw [← hV.out]; go_simp
  have kV23 : V.cell? ⟨w.heap.size + 2, 5, none⟩ = some (.int .i64 0) := by rw [← hV.out]; go_simp
  have kV24 : V.cell? ⟨w.heap.size + 2, 6, none⟩ = some (.int .i64 0) := by rw [← hV.out]; go_simp
  have kV25 : V.cell? ⟨w.heap.size + 2, 7, none⟩ = some (.int .i64 0) := by rw [← hV.out]; go_simp
  have kV26 : V.cell? ⟨w.heap.size + 2, 8, none⟩ = some (.int .i64 0) := by rw [← hV.out]; go_simp
  have fV0 : V.frozen? ⟨w.heap.size + 1, 0, none⟩ = false := by rw [← hV.out]; go_simp
  have fV1 : V.frozen? ⟨w.heap.size + 1, 1, none⟩ = false := by rw [← hV.out]; go_simp
  have fV2 : V.frozen? ⟨w.heap.size + 1, 2, none⟩ = false := by rw [← hV.out]; go_simp
  have fV3 : V.frozen? ⟨w.heap.size + 1, 3, none⟩ = false := by rw [← hV.out]; go_simp
  have fV4 : V.frozen? ⟨w.heap.size + 1, 4, none⟩ = false := by rw [← hV.out]; go_simp
  have fV5 : V.frozen? ⟨w.heap.size + 1, 5, none⟩ = false := by rw [← hV.out]; go_simp
  have fV6 : V.frozen? ⟨w.heap.size + 1, 6, none⟩ = false := by rw [← hV.out]; go_simp
  have fV7 : V.frozen? ⟨w.heap.size + 1, 7, none⟩ = false := by rw [← hV.out]; go_simp
  have fV8 : V.frozen? ⟨w.heap.size + 1, 8, none⟩ = false := by rw [← hV.out]; go_simp
  have fV9 : V.frozen? ⟨w.heap.size + 2, 0, none⟩ = false := by rw [← hV.out]; go_simp
  have fV10 : V.frozen? ⟨w.heap.size + 2, 1, none⟩ = false := by rw [← hV.out]; go_simp
  have fV11 : V.frozen? ⟨w.heap.size + 2, 2, none⟩ = false := by rw [← hV.out]; go_simp
  have fV12 : V.frozen? ⟨w.heap.size + 2, 3, none⟩ = false := by rw [← hV.out]; go_simp
  have fV13 : V.frozen? ⟨w.heap.size + 2, 4, none⟩ = false := by rw [← hV.out]; go_simp
  have fV14 : V.frozen? ⟨w.heap.size + 2, 5, none⟩ = false := by rw [← hV.out]; go_simp
  have fV15 : V.frozen? ⟨w.heap.size + 2, 6, none⟩ = false := by rw [← hV.out]; go_simp
  have fV16 : V.frozen? ⟨w.heap.size + 2, 7, none⟩ = false := by rw [← hV.out]; go_simp
  have fV17 : V.frozen? ⟨w.heap.size + 2, 8, none⟩ = false := by rw [← hV.out]; go_simp
  have lV : w.heap.size + 2 < V.heap.size := by rw [← hV.out]; simpa [World.setCell] using lA
  have HG := hid (HF.out.wrote (g := w.heap.size + 1 + 1) (w1 := V) (by rw [← hV.out]; (repeat (with_reducible refine Wrote.setCell ?_ _ _)); exact Wrote.refl _ _) lU)
  clear kA0 kA1 kA2 kA3 kA4 kA5 kA6 kA7 kA8 kA9 kA10 kA11 kA12 kA13 kA14 kA15 kA16 kA17 kA18 kA19 kA20 kA21 kA22 kA23 kA24 kA25 kA26 fA0 fA1 fA2 fA3 fA4 fA5 fA6 fA7 fA8 fA9 fA10 fA11 fA12 fA13 fA14 fA15 fA16 fA17 hV BA lA HF
  refine (toRoll_any a b V).mono ?_
  rintro e w2 ⟨rfl, hb⟩
  have kB0 := xcell hb kV0
  have kB1 := xcell hb kV1
  have kB2 := xcell hb kV2
  have kB3 := xcell hb kV3
  have kB4 := xcell hb kV4
  have kB5 := xcell hb kV5
  have kB6 := xcell hb kV6
  have kB7 := xcell hb kV7
  have kB8 := xcell hb kV8
  have kB9 := xcell hb kV9
  have kB10 := xcell hb kV10
  have kB11 := xcell hb kV11
  have kB12 := xcell hb kV12
  have kB13 := xcell hb kV13
  have kB14 := xcell hb kV14
  have kB15 := xcell hb kV15
  have kB16 := xcell hb kV16
  have kB17 := xcell hb kV17
  have kB18 := xcell hb kV18
  have kB19 := xcell hb kV19
  have kB20 := xcell hb kV20
  have kB21 := xcell hb kV21
  have kB22 := xcell hb kV22
  have kB23 := xcell hb kV23
  have kB24 := xcell hb kV24
  have kB25 := xcell hb kV25
  have kB26 := xcell hb kV26
  have fB0 := xfroz hb kV9 fV0
  have fB1 := xfroz hb kV10 fV1
  have fB2 := xfroz hb kV11 fV2
  have fB3 := xfroz hb kV12 fV3
  have fB4 := xfroz hb kV13 fV4
  have fB5 := xfroz hb kV14 fV5
  have fB6 := xfroz hb kV15 fV6
  have fB7 := xfroz hb kV16 fV7
  have fB8 := xfroz hb kV17 fV8
  have fB9 := xfroz hb kV18 fV9
  have fB10 := xfroz hb kV19 fV10
  have fB11 := xfroz hb kV20 fV11
  have fB12 := xfroz hb kV21 fV12
  have fB13 := xfroz hb kV22 fV13
  have fB14 := xfroz hb kV23 fV14
  have fB15 := xfroz hb kV24 fV15
  have fB16 := xfroz hb kV25 fV16
  have fB17 := xfroz hb kV26 fV17
  have BB := xThen bV hb
  have lB := Nat.lt_of_lt_of_le lV hb.size
  have HH := hid (HG.out.mono hb)
  clear kV0 kV1 kV2 kV3 kV4 kV5 kV6 kV7 kV8 kV9 kV10 kV11 kV12 kV13 kV14 kV15 kV16 kV17 kV18 kV19 kV20 kV21 kV22 kV23 kV24 kV25 kV26 fV0 fV1 fV2 fV3 fV4 fV5 fV6 fV7 fV8 fV9 fV10 fV11 fV12 fV13 fV14 fV15 fV16 fV17 hb HG bV lV
  go_upto_region 9 with (fail)
  refine wp_named (fun X hX0 => ?_)
  have hX := hid hX0
  clear hX0
  have bX : Below w.heap.size w X := by rw [← hX.out]; (repeat' (first | (with_reducible exact Below.refl _ _) | (with_reducible assumption) | (with_reducible refine xAlloc ?_ _) | (with_reducible refine Below.drew ?_) | (with_reducible refine xDrewN ?_ _) | (with_reducible refine xThen ?_ (by with_reducible assumption)) | (with_reducible refine Below.setCell ?_ (by first | omega | (simp; omega) | simp) _) | exact Below.refl _ _))
  have kX0 : X.cell? ⟨w.heap.size + 1, 0, none⟩ = some (.slice none 0 0) := by rw [← hX.out]; go_simp
  have kX1 : X.cell? ⟨w.heap.size + 1, 1, none⟩ = some (.slice none 0 0) := by rw [← hX.out]; go_simp
  have kX2 : X.cell? ⟨w.heap.size + 1, 2, none⟩ = some (.int .i64 0) := by rw [← hX.out]; go_simp
  have kX3 : X.cell? ⟨w.heap.size + 1, 3, none⟩ = some (.int .i64 0) := by rw [← hX.out]; go_simp
  have kX4 : X.cell? ⟨w.heap.size + 1, 4, none⟩ = some (.int .i64 0) := by rw [← hX.out]; go_simp
  have kX5 : X.cell? ⟨w.heap.size + 1, 5, none⟩ = some (.int .i64 0) := by rw [← hX.out]; go_simp
  have kX6 : X.cell? ⟨w.heap.size + 1, 6, none⟩ = some (.int .i64 0) := by rw [← hX.out]; go_simp
  have kX7 : X.cell? ⟨w.heap.size + 1, 7, none⟩ = some (.int .i64 0) := by rw [← hX.out]; go_simp
  have kX8 : X.cell? ⟨w.heap.size + 1, 8, none⟩ = some (.int .i64 0) := by rw [← hX.out]; go_simp
  have kX9 : X.cell? ⟨w.heap.size + 2, 0, none⟩ = some (.slice (some ⟨b1,0,none⟩) zs.length zs.length) := by rw [← hX.out]; go_simp
  have kX10 : X.cell? ⟨w.heap.size + 2, 1, none⟩ = some (.slice (some ⟨b2,0,none⟩) ys.length ys.length) := by rw [← hX.out]; go_simp
  have kX11 : X.cell? ⟨w.heap.size + 2, 2, none⟩ = some (.int .i64 pl) := by rw [← hX.out]; go_simp
  have kX12 : X.cell? ⟨w.heap.size + 2, 3, none⟩ = some (.int .i64 a) := by rw [← hX.out]; go_simp
  have kX13 : X.cell? ⟨w.heap.size + 2, 4, none⟩ = some (.int .i64 b) := by rw [← hX.out]; go_simp
  have kX14 : X.cell? ⟨w.heap.size + 2, 5, none⟩ = some (.int .i64 ph) := by rw [← hX.out]; go_simp
  have kX15 : X.cell? ⟨w.heap.size + 2, 6, none⟩ = some (.int .i64 wi) := by rw [← hX.out]; go_simp
  have kX16 : X.cell? ⟨w.heap.size + 2, 7, none⟩ = some (.int .i64 re) := by rw [← hX.out]; go_simp
  have kX17 : X.cell? ⟨w.heap.size + 2, 8, none⟩ = some (.int .i64 tu) := by rw [← hX.out]; go_simp
  have fX0 : X.frozen? ⟨w.heap.size + 1, 0, none⟩ = false := by rw [← hX.out]; go_simp
  have fX1 : X.frozen? ⟨w.heap.size + 1, 1, none⟩ = false := by rw [← hX.out]; go_simp
  have fX2 : X.frozen? ⟨w.heap.size + 1, 2, none⟩ = false := by rw [← hX.out]; go_simp
  have fX3 : X.frozen? ⟨w.heap.size + 1, 3, none⟩ = false := by rw [← hX.out]; go_simp
  have fX4 : X.frozen? ⟨w.heap.size + 1, 4, none⟩ = false := by rw [← hX.out]; go_simp
  have fX5 : X.frozen? ⟨w.heap.size + 1, 5, none⟩ = false := by rw [← hX.out]; go_simp
  have fX6 : X.frozen? ⟨w.heap.size + 1, 6, none⟩ = false := by rw [← hX.out]; go_simp
  have fX7 : X.frozen? ⟨w.heap.size + 1, 7, none⟩ = false := by rw [← hX.out]; go_simp
  have fX8 : X.frozen? ⟨w.heap.size + 1, 8, none⟩ = false := by rw [← hX.out]; go_simp
  have HI := hid (HH.out.wrote (g := w.heap.size + 1 + 1) (w1 := X) (by rw [← hX.out]; (repeat (with_reducible refine Wrote.setCell ?_ _ _)); exact Wrote.refl _ _) lU)
  clear kB0 kB1 kB2 kB3 kB4 kB5 kB6 kB7 kB8 kB9 kB10 kB11 kB12 kB13 kB14 kB15 kB16 kB17 kB18 kB19 kB20 kB21 kB22 kB23 kB24 kB25 kB26 fB0 fB1 fB2 fB3 fB4 fB5 fB6 fB7 fB8 fB9 fB10 fB11 fB12 fB13 fB14 fB15 fB16 fB17 hX BB lB HH
  go_wp2
  refine bodyPost_ret (v := ?_) ?_ rfl ?_
  rotate_left
  · simp only [results, Try.results55]
    go_simp
    exact rfl
  refine ⟨b1, b2, rfl, (HI.out.wrote (g := w.heap.size + 1) ?_ (by omega)).low (by omega), by (repeat' (first | (with_reducible exact Below.refl _ _) | (with_reducible assumption) | (with_reducible refine xAlloc ?_ _) | (with_reducible refine Below.drew ?_) | (with_reducible refine xDrewN ?_ _) | (with_reducible refine xThen ?_ (by with_reducible assumption)) | (with_reducible refine Below.setCell ?_ (by first | omega | (simp; omega) | simp) _) | exact Below.refl _ _))⟩
  repeat (with_reducible refine Wrote.setCell ?_ _ _)
  exact Wrote.refl _ _
end Go.Proofs.Ytmcjabodkjlkgaa
