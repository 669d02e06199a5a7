/-
  Contracts of both NewGame functions and the law over them: it returns true for every variant; no condition.
-/
import Derived.Test.YtmcjabodkjlkgaaGameV
import Derived.Deep.DeepCutAuto
namespace Go.Proofs.Ytmcjabodkjlkgaa
open Go.RowKit

set_option maxHeartbeats 1000000 in
theorem specL08New_any (n : Nat) (c h s : Int) (w : World) (hn4 : 4 ≤ n) (hn : n ≤ 24) (hc0 : 1 ≤ c) (hc1 : c ≤ 15) :
    Calls Try.prog 73 #[.agg #[.int .i64 n, .int .i64 c, .int .i64 h, .int .i64 s]] w fun e w' => ∃ v1 v2, e = .returned (gameV v1 v2 0 0 0 0 0 0 0) ∧ FreshBoard w' w.heap.size v1 v2 (startL n c h s) (startL n c h s) ∧ Below w.heap.size w w' := by
  have tok1 : True := trivial
  unfold gameV
  go_enter Try.func73, Try.ntmps73
  go_wp2
  refine wp_named (fun U hU0 => ?_)
  have hU := hid hU0
  clear hU0
  have bU : Below w.heap.size w U := by rw [← hU.out]; (repeat' (first | (with_reducible exact Below.refl _ _) | (with_reducible assumption) | (with_reducible refine xAlloc ?_ _) | (with_reducible refine Below.drew ?_) | (with_reducible refine xDrewN ?_ _) | (with_reducible refine xThen ?_ (by with_reducible assumption)) | (with_reducible refine Below.setCell ?_ (by first | omega | (simp; omega) | simp) _) | exact Below.refl _ _))
  have kU0 : U.cell? ⟨w.heap.size, 0, none⟩ = some (.int .i64 n) := by rw [← hU.out]; go_simp
  have kU1 : U.cell? ⟨w.heap.size, 1, none⟩ = some (.int .i64 c) := by rw [← hU.out]; go_simp
  have kU2 : U.cell? ⟨w.heap.size, 2, none⟩ = some (.int .i64 h) := by rw [← hU.out]; go_simp
  have kU3 : U.cell? ⟨w.heap.size, 3, none⟩ = some (.int .i64 s) := by rw [← hU.out]; go_simp
  have kU4 : U.cell? ⟨w.heap.size + 1, 0, none⟩ = some (.slice none 0 0) := by rw [← hU.out]; go_simp
  have kU5 : U.cell? ⟨w.heap.size + 1, 1, none⟩ = some (.slice none 0 0) := by rw [← hU.out]; go_simp
  have kU6 : U.cell? ⟨w.heap.size + 1, 2, none⟩ = some (.int .i64 0) := by rw [← hU.out]; go_simp
  have kU7 : U.cell? ⟨w.heap.size + 1, 3, none⟩ = some (.int .i64 0) := by rw [← hU.out]; go_simp
  have kU8 : U.cell? ⟨w.heap.size + 1, 4, none⟩ = some (.int .i64 0) := by rw [← hU.out]; go_simp
  have kU9 : U.cell? ⟨w.heap.size + 1, 5, none⟩ = some (.int .i64 0) := by rw [← hU.out]; go_simp
  have kU10 : U.cell? ⟨w.heap.size + 1, 6, none⟩ = some (.int .i64 0) := by rw [← hU.out]; go_simp
  have kU11 : U.cell? ⟨w.heap.size + 1, 7, none⟩ = some (.int .i64 0) := by rw [← hU.out]; go_simp
  have kU12 : U.cell? ⟨w.heap.size + 1, 8, none⟩ = some (.int .i64 0) := by rw [← hU.out]; go_simp
  have fU0 : U.frozen? ⟨w.heap.size + 1, 0, none⟩ = false := by rw [← hU.out]; go_simp
  have fU1 : U.frozen? ⟨w.heap.size + 1, 1, none⟩ = false := by rw [← hU.out]; go_simp
  have fU2 : U.frozen? ⟨w.heap.size + 1, 2, none⟩ = false := by rw [← hU.out]; go_simp
  have fU3 : U.frozen? ⟨w.heap.size + 1, 3, none⟩ = false := by rw [← hU.out]; go_simp
  have fU4 : U.frozen? ⟨w.heap.size + 1, 4, none⟩ = false := by rw [← hU.out]; go_simp
  have fU5 : U.frozen? ⟨w.heap.size + 1, 5, none⟩ = false := by rw [← hU.out]; go_simp
  have fU6 : U.frozen? ⟨w.heap.size + 1, 6, none⟩ = false := by rw [← hU.out]; go_simp
  have fU7 : U.frozen? ⟨w.heap.size + 1, 7, none⟩ = false := by rw [← hU.out]; go_simp
  have fU8 : U.frozen? ⟨w.heap.size + 1, 8, none⟩ = false := by rw [← hU.out]; go_simp
  have lU0 : w.heap.size < U.heap.size := by rw [← hU.out]; simp; omega
  have lU1 : w.heap.size + 1 < U.heap.size := by rw [← hU.out]; simp
  clear hU
  go_region_with (first | (go_at_call 117; have _t := tok1; refine (specStart_any n c h s _ hn4 hn hc0 hc1).mono ?_; rintro e wA ⟨gA, rfl, hFA, hbA⟩; have HA := hid hFA; replace hbA : Below U.heap.size U wA := xThen (Below.refl _ _).drew hbA; have qA0 := xcell hbA kU0; have qA1 := xcell hbA kU1; have qA2 := xcell hbA kU2; have qA3 := xcell hbA kU3; have qA4 := xcell hbA kU4; have qA5 := xcell hbA kU5; have qA6 := xcell hbA kU6; have qA7 := xcell hbA kU7; have qA8 := xcell hbA kU8; have qA9 := xcell hbA kU9; have qA10 := xcell hbA kU10; have qA11 := xcell hbA kU11; have qA12 := xcell hbA kU12; have gA0 := xfroz hbA kU4 fU0; have gA1 := xfroz hbA kU5 fU1; have gA2 := xfroz hbA kU6 fU2; have gA3 := xfroz hbA kU7 fU3; have gA4 := xfroz hbA kU8 fU4; have gA5 := xfroz hbA kU9 fU5; have gA6 := xfroz hbA kU10 fU6; have gA7 := xfroz hbA kU11 fU7; have gA8 := xfroz hbA kU12 fU8; have hszA := hbA.size; have ya0 : w.heap.size < wA.heap.size := (by omega); have ya1 : w.heap.size + 1 < wA.heap.size := (by omega); clear tok1 _t hFA) | (go_at_call 117; refine (specStart_any n c h s _ hn4 hn hc0 hc1).mono ?_; rintro e wB ⟨gB, rfl, hFB, hbB⟩; have HB := hid hFB; replace hbB : Below wA.heap.size wA wB := hbB; have qB0 := xcell hbB qA0; have qB1 := xcell hbB qA1; have qB2 := xcell hbB qA2; have qB3 := xcell hbB qA3; have qB4 := xcell hbB qA4; have qB5 := xcell hbB qA5; have qB6 := xcell hbB qA6; have qB7 := xcell hbB qA7; have qB8 := xcell hbB qA8; have qB9 := xcell hbB qA9; have qB10 := xcell hbB qA10; have qB11 := xcell hbB qA11; have qB12 := xcell hbB qA12; have gB0 := xfroz hbB qA4 gA0; have gB1 := xfroz hbB qA5 gA1; have gB2 := xfroz hbB qA6 gA2; have gB3 := xfroz hbB qA7 gA3; have gB4 := xfroz hbB qA8 gA4; have gB5 := xfroz hbB qA9 gA5; have gB6 := xfroz hbB qA10 gA6; have gB7 := xfroz hbB qA11 gA7; have gB8 := xfroz hbB qA12 gA8; have hszB := hbB.size; (try simp at hszB); have yb0 : w.heap.size < wB.heap.size := (by omega); have yb1 : w.heap.size + 1 < wB.heap.size := (by omega); clear hFB))
  all_goals
    go_wp2
    have hA1 := HA.out.mono hbB
    have hap : Apart (.slice (some ⟨gA, 0, none⟩) (n + 1) (n + 1)) (.slice (some ⟨gB, 0, none⟩) (n + 1) (n + 1)) := apart_of HA.out HB.out
    have hBU : Below U.heap.size U wB := hbA.trans (hbB.mono hszA)
    clear hbA hbB
    refine bodyPost_ret (v := .agg #[.slice (some ⟨gA, 0, none⟩) (n + 1) (n + 1), .slice (some ⟨gB, 0, none⟩) (n + 1) (n + 1), .int .i64 0, .int .i64 0, .int .i64 0, .int .i64 0, .int .i64 0, .int .i64 0, .int .i64 0]) (by simp only [results, Try.results73]; go_simp) rfl ?_
    refine ⟨_, _, rfl, ⟨(hA1.wrote (g := w.heap.size + 1) ?_ lU1).low (show w.heap.size ≤ U.heap.size by omega), (HB.out.wrote (g := w.heap.size + 1) ?_ ya1).low (by omega), hap⟩, ?_⟩
    · repeat (with_reducible refine Wrote.setCell ?_ _ _)
      exact Wrote.refl _ _
    · repeat (with_reducible refine Wrote.setCell ?_ _ _)
      exact Wrote.refl _ _
    · repeat (with_reducible refine Below.setCell ?_ (Nat.le_succ _) _)
      exact xThen bU hBU

def newCode (p c h s : Int) : Int := if varB p c h s then (if p < 4 then 2 else 0) else 1
def newL (p c h s : Int) : List Int := if newCode p c h s = 0 then startL p c h s else []
/-- the call has returned the first game and a code -/
def RetNew (p c h s : Int) (w : World) (e : Ending) (w' : World) : Prop :=
  ∃ v1 v2, e = .returned (.tuple #[gameV v1 v2 0 0 0 0 0 0 0, .int .i64 (newCode p c h s)]) ∧ FreshBoard w' w.heap.size v1 v2 (newL p c h s) (newL p c h s) ∧ Below w.heap.size w w'

theorem retNew {p c h s k : Int} {w w' : World} {v1 v2 : Value} {L : List Int} (hc : newCode p c h s = k) (hL : newL p c h s = L) (hF : FreshBoard w' w.heap.size v1 v2 L L) (hb : Below w.heap.size w w') :
    RetNew p c h s w (.returned (.tuple #[.agg #[v1, v2, .int .i64 0, .int .i64 0, .int .i64 0, .int .i64 0, .int .i64 0, .int .i64 0, .int .i64 0], .int .i64 k])) w' := by
  subst hc hL
  exact ⟨v1, v2, rfl, hF, hb⟩
theorem implStart_no (p c h s : Int) (w : World) (hv : varB p c h s = true) (hp : p < 4) :
    Calls Try.prog 75 #[.agg #[.int .i64 p, .int .i64 c, .int .i64 h, .int .i64 s]] w fun e w' => e = .returned (.tuple #[.agg #[.slice none 0 0, .slice none 0 0], .bool false]) ∧ Below w.heap.size w w' := by
  have HV := hid hv
  clear hv
  go_enter Try.func75, Try.ntmps75
  go_wp2_with (go_at_call 74; (with_reducible refine (isVariant_any _ _ _ _ _).mono ?_); rw [HV.out]; rintro e w1 ⟨rfl, hb⟩; obtain ⟨hc, hf⟩ := bcell hb; have hsz := hb.size; (try simp at hsz); (try have hy0 : w.heap.size < w1.heap.size := by omega); (try have hy1 : w.heap.size + 1 < w1.heap.size := by omega); (try have hy2 : w.heap.size + 2 < w1.heap.size := by omega); (try have hyS : ws.heap.size < w1.heap.size := by omega); (try have hyG : wg.heap.size < w1.heap.size := by omega))
  refine bodyPost_ret (v := .tuple #[.agg #[.slice none 0 0, .slice none 0 0], .bool false]) (by simp only [results, Try.results75]; go_simp) rfl ?_
  exact ⟨rfl, by (repeat' (first | (with_reducible exact Below.refl _ _) | (with_reducible assumption) | (with_reducible refine xAlloc ?_ _) | (with_reducible refine Below.drew ?_) | (with_reducible refine xDrewN ?_ _) | (with_reducible refine xThen ?_ (by with_reducible assumption)) | (with_reducible refine Below.setCell ?_ (by first | omega | (simp; omega) | simp) _) | exact Below.refl _ _))⟩

set_option maxHeartbeats 1000000 in
theorem implNew_any (p c h s : Int) (w : World) :
    Calls Try.prog 25 #[.agg #[.int .i64 p, .int .i64 c, .int .i64 h, .int .i64 s]] w (RetNew p c h s w) := by
  cases hv : varB p c h s
  · have HV := hid hv
    have HC : Hid (newCode p c h s = 1) := hid (by simp [newCode, hv])
    have HL : Hid (newL p c h s = []) := hid (by simp [newL, HC.out])
    clear hv
    go_enter Try.func25, Try.ntmps25
    go_wp2_with (go_at_call 74; (with_reducible refine (isVariant_any _ _ _ _ _).mono ?_); rw [HV.out]; rintro e w1 ⟨rfl, hb⟩; obtain ⟨hc, hf⟩ := bcell hb; have hsz := hb.size; (try simp at hsz); (try have hy0 : w.heap.size < w1.heap.size := by omega); (try have hy1 : w.heap.size + 1 < w1.heap.size := by omega); (try have hy2 : w.heap.size + 2 < w1.heap.size := by omega); (try have hyS : ws.heap.size < w1.heap.size := by omega); (try have hyG : wg.heap.size < w1.heap.size := by omega))
    refine bodyPost_ret (v := .tuple #[.agg #[.slice none 0 0, .slice none 0 0, .int .i64 0, .int .i64 0, .int .i64 0, .int .i64 0, .int .i64 0, .int .i64 0, .int .i64 0], .int .i64 1]) (by simp only [results, Try.results25]; go_simp) rfl ?_
    exact retNew HC.out HL.out (FreshBoard.nil _ _) (by (repeat' (first | (with_reducible exact Below.refl _ _) | (with_reducible assumption) | (with_reducible refine xAlloc ?_ _) | (with_reducible refine Below.drew ?_) | (with_reducible refine xDrewN ?_ _) | (with_reducible refine xThen ?_ (by with_reducible assumption)) | (with_reducible refine Below.setCell ?_ (by first | omega | (simp; omega) | simp) _) | exact Below.refl _ _)))
  · have hr := varB_true hv
    have HV := hid hv
    by_cases h4 : p < 4
    · have HC : Hid (newCode p c h s = 2) := hid (by simp [newCode, hv, h4])
      have HL : Hid (newL p c h s = []) := hid (by simp [newL, HC.out])
      clear hv
      go_enter Try.func25, Try.ntmps25
      go_wp2_with (go_at_call 74; (with_reducible refine (isVariant_any _ _ _ _ _).mono ?_); rw [HV.out]; rintro e w1 ⟨rfl, hb⟩; obtain ⟨hc, hf⟩ := bcell hb; have hsz := hb.size; (try simp at hsz); (try have hy0 : w.heap.size < w1.heap.size := by omega); (try have hy1 : w.heap.size + 1 < w1.heap.size := by omega); (try have hy2 : w.heap.size + 2 < w1.heap.size := by omega); (try have hyS : ws.heap.size < w1.heap.size := by omega); (try have hyG : wg.heap.size < w1.heap.size := by omega))
      refine calls_named (fun U hU0 => ?_)
      have hU := hid hU0
      clear hU0
      have bU : Below w.heap.size w U := by rw [← hU.out]; (repeat' (first | (with_reducible exact Below.refl _ _) | (with_reducible assumption) | (with_reducible refine xAlloc ?_ _) | (with_reducible refine Below.drew ?_) | (with_reducible refine xDrewN ?_ _) | (with_reducible refine xThen ?_ (by with_reducible assumption)) | (with_reducible refine Below.setCell ?_ (by first | omega | (simp; omega) | simp) _) | exact Below.refl _ _))
      have kU0 : U.cell? ⟨w.heap.size, 0, none⟩ = some (.int .i64 p) := by rw [← hU.out]; go_simp
      have kU1 : U.cell? ⟨w.heap.size, 1, none⟩ = some (.int .i64 c) := by rw [← hU.out]; go_simp
      have kU2 : U.cell? ⟨w.heap.size, 2, none⟩ = some (.int .i64 h) := by rw [← hU.out]; go_simp
      have kU3 : U.cell? ⟨w.heap.size, 3, none⟩ = some (.int .i64 s) := by rw [← hU.out]; go_simp
      have kU4 : U.cell? ⟨w.heap.size + 1, 0, none⟩ = some (.slice none 0 0) := by rw [← hU.out]; go_simp
      have kU5 : U.cell? ⟨w.heap.size + 1, 1, none⟩ = some (.slice none 0 0) := by rw [← hU.out]; go_simp
      have kU6 : U.cell? ⟨w.heap.size + 1, 2, none⟩ = some (.int .i64 0) := by rw [← hU.out]; go_simp
      have kU7 : U.cell? ⟨w.heap.size + 1, 3, none⟩ = some (.int .i64 0) := by rw [← hU.out]; go_simp
      have kU8 : U.cell? ⟨w.heap.size + 1, 4, none⟩ = some (.int .i64 0) := by rw [← hU.out]; go_simp
      have kU9 : U.cell? ⟨w.heap.size + 1, 5, none⟩ = some (.int .i64 0) := by rw [← hU.out]; go_simp
      have kU10 : U.cell? ⟨w.heap.size + 1, 6, none⟩ = some (.int .i64 0) := by rw [← hU.out]; go_simp
      have kU11 : U.cell? ⟨w.heap.size + 1, 7, none⟩ = some (.int .i64 0) := by rw [← hU.out]; go_simp
      have kU12 : U.cell? ⟨w.heap.size + 1, 8, none⟩ = some (.int .i64 0) := by rw [← hU.out]; go_simp
      have fU0 : U.frozen? ⟨w.heap.size + 1, 0, none⟩ = false := by rw [← hU.out]; go_simp
      have fU1 : U.frozen? ⟨w.heap.size + 1, 1, none⟩ = false := by rw [← hU.out]; go_simp
      have fU2 : U.frozen? ⟨w.heap.size + 1, 2, none⟩ = false := by rw [← hU.out]; go_simp
      have fU3 : U.frozen? ⟨w.heap.size + 1, 3, none⟩ = false := by rw [← hU.out]; go_simp
      have fU4 : U.frozen? ⟨w.heap.size + 1, 4, none⟩ = false := by rw [← hU.out]; go_simp
      have fU5 : U.frozen? ⟨w.heap.size + 1, 5, none⟩ = false := by rw [← hU.out]; go_simp
      have fU6 : U.frozen? ⟨w.heap.size + 1, 6, none⟩ = false := by rw [← hU.out]; go_simp
      have fU7 : U.frozen? ⟨w.heap.size + 1, 7, none⟩ = false := by rw [← hU.out]; go_simp
      have fU8 : U.frozen? ⟨w.heap.size + 1, 8, none⟩ = false := by rw [← hU.out]; go_simp
      have lU : w.heap.size + 1 < U.heap.size := by rw [← hU.out]; exact hy1
      clear hU hb hc hf hsz hy0 hy1
      refine (implStart_no p c h s U HV.out h4).mono ?_
      rintro e w1 ⟨rfl, hb⟩
      have kA0 := xcell hb kU0
      have kA1 := xcell hb kU1
      have kA2 := xcell hb kU2
      have kA3 := xcell hb kU3
      have kA4 := xcell hb kU4
      have kA5 := xcell hb kU5
      have kA6 := xcell hb kU6
      have kA7 := xcell hb kU7
      have kA8 := xcell hb kU8
      have kA9 := xcell hb kU9
      have kA10 := xcell hb kU10
      have kA11 := xcell hb kU11
      have kA12 := xcell hb kU12
      have fA0 := xfroz hb kU4 fU0
      have fA1 := xfroz hb kU5 fU1
      have fA2 := xfroz hb kU6 fU2
      have fA3 := xfroz hb kU7 fU3
      have fA4 := xfroz hb kU8 fU4
      have fA5 := xfroz hb kU9 fU5
      have fA6 := xfroz hb kU10 fU6
      have fA7 := xfroz hb kU11 fU7
      have fA8 := xfroz hb kU12 fU8
      have BA := xThen bU hb
      have lA : w.heap.size + 1 < w1.heap.size := Nat.lt_of_lt_of_le lU hb.size
      clear kU0 kU1 kU2 kU3 kU4 kU5 kU6 kU7 kU8 kU9 kU10 kU11 kU12 fU0 fU1 fU2 fU3 fU4 fU5 fU6 fU7 fU8 hb
      go_upto_region 5 with (fail)
      refine wp_named (fun V hV0 => ?_)
      have hV := hid hV0
      clear hV0
      have bV : Below w.heap.size w V := by rw [← hV.out]; (repeat' (first | (with_reducible exact Below.refl _ _) | (with_reducible assumption) | (with_reducible refine xAlloc ?_ _) | (with_reducible refine Below.drew ?_) | (with_reducible refine xDrewN ?_ _) | (with_reducible refine xThen ?_ (by with_reducible assumption)) | (with_reducible refine Below.setCell ?_ (by first | omega | (simp; omega) | simp) _) | exact Below.refl _ _))
      have kV0 : V.cell? ⟨w.heap.size + 1, 0, none⟩ = some (.slice none 0 0) := by rw [← hV.out]; go_simp
      have kV1 : V.cell? ⟨w.heap.size + 1, 1, none⟩ = some (.slice none 0 0) := by rw [← hV.out]; go_simp
      have kV2 : V.cell? ⟨w.heap.size + 1, 2, none⟩ = some (.int .i64 0) := by rw [← hV.out]; go_simp
      have kV3 : V.cell? ⟨w.heap.size + 1, 3, none⟩ = some (.int .i64 0) := by rw [← hV.out]; go_simp
      have kV4 : V.cell? ⟨w.heap.size + 1, 4, none⟩ = some (.int .i64 0) := by rw [← hV.out]; go_simp
      have kV5 : V.cell? ⟨w.heap.size + 1, 5, none⟩ = some (.int .i64 0) := by rw [← hV.out]; go_simp
      have kV6 : V.cell? ⟨w.heap.size + 1, 6, none⟩ = some (.int .i64 0) := by rw [← hV.out]; go_simp
      have kV7 : V.cell? ⟨w.heap.size + 1, 7, none⟩ = some (.int .i64 0) := by rw [← hV.out]; go_simp
      have kV8 : V.cell? ⟨w.heap.size + 1, 8, none⟩ = some (.int .i64 0) := by rw [← hV.out]; go_simp
      have fV0 : V.frozen? ⟨w.heap.size + 1, 0, none⟩ = false := by rw [← hV.out]; go_simp
      have fV1 : V.frozen? ⟨w.heap.size + 1, 1, none⟩ = false := by rw [← hV.out]; go_simp
      have fV2 : V.frozen? ⟨w.heap.size + 1, 2, none⟩ = false := by rw [← hV.out]; go_simp
      have fV3 : V.frozen? ⟨w.heap.size + 1, 3, none⟩ = false := by rw [← hV.out]; go_simp
      have fV4 : V.frozen? ⟨w.heap.size + 1, 4, none⟩ = false := by rw [← hV.out]; go_simp
      have fV5 : V.frozen? ⟨w.heap.size + 1, 5, none⟩ = false := by rw [← hV.out]; go_simp
      have fV6 : V.frozen? ⟨w.heap.size + 1, 6, none⟩ = false := by rw [← hV.out]; go_simp
      have fV7 : V.frozen? ⟨w.heap.size + 1, 7, none⟩ = false := by rw [← hV.out]; go_simp
      have fV8 : V.frozen? ⟨w.heap.size + 1, 8, none⟩ = false := by rw [← hV.out]; go_simp
      clear kA0 kA1 kA2 kA3 kA4 kA5 kA6 kA7 kA8 kA9 kA10 kA11 kA12 fA0 fA1 fA2 fA3 fA4 fA5 fA6 fA7 fA8 hV BA lA
      go_wp2
      refine bodyPost_ret (v := ?_) ?_ rfl ?_
      rotate_left
      · simp only [results, Try.results25]
        go_simp
        exact rfl
      exact retNew HC.out HL.out (FreshBoard.nil _ _) (by (repeat' (first | (with_reducible exact Below.refl _ _) | (with_reducible assumption) | (with_reducible refine xAlloc ?_ _) | (with_reducible refine Below.drew ?_) | (with_reducible refine xDrewN ?_ _) | (with_reducible refine xThen ?_ (by with_reducible assumption)) | (with_reducible refine Below.setCell ?_ (by first | omega | (simp; omega) | simp) _) | exact Below.refl _ _)))
    · have HC : Hid (newCode p c h s = 0) := hid (by simp [newCode, hv, h4])
      have HL : Hid (newL p c h s = startL p c h s) := hid (by simp [newL, HC.out])
      obtain ⟨n, rfl⟩ := Int.eq_ofNat_of_zero_le (a := p) (by omega)
      clear hv
      go_enter Try.func25, Try.ntmps25
      go_wp2_with (go_at_call 74; (with_reducible refine (isVariant_any _ _ _ _ _).mono ?_); rw [HV.out]; rintro e w1 ⟨rfl, hb⟩; obtain ⟨hc, hf⟩ := bcell hb; have hsz := hb.size; (try simp at hsz); (try have hy0 : w.heap.size < w1.heap.size := by omega); (try have hy1 : w.heap.size + 1 < w1.heap.size := by omega); (try have hy2 : w.heap.size + 2 < w1.heap.size := by omega); (try have hyS : ws.heap.size < w1.heap.size := by omega); (try have hyG : wg.heap.size < w1.heap.size := by omega))
      refine calls_named (fun U hU0 => ?_)
      have hU := hid hU0
      clear hU0
      have bU : Below w.heap.size w U := by rw [← hU.out]; (repeat' (first | (with_reducible exact Below.refl _ _) | (with_reducible assumption) | (with_reducible refine xAlloc ?_ _) | (with_reducible refine Below.drew ?_) | (with_reducible refine xDrewN ?_ _) | (with_reducible refine xThen ?_ (by with_reducible assumption)) | (with_reducible refine Below.setCell ?_ (by first | omega | (simp; omega) | simp) _) | exact Below.refl _ _))
      have kU0 : U.cell? ⟨w.heap.size, 0, none⟩ = some (.int .i64 n) := by rw [← hU.out]; go_simp
      have kU1 : U.cell? ⟨w.heap.size, 1, none⟩ = some (.int .i64 c) := by rw [← hU.out]; go_simp
      have kU2 : U.cell? ⟨w.heap.size, 2, none⟩ = some (.int .i64 h) := by rw [← hU.out]; go_simp
      have kU3 : U.cell? ⟨w.heap.size, 3, none⟩ = some (.int .i64 s) := by rw [← hU.out]; go_simp
      have kU4 : U.cell? ⟨w.heap.size + 1, 0, none⟩ = some (.slice none 0 0) := by rw [← hU.out]; go_simp
      have kU5 : U.cell? ⟨w.heap.size + 1, 1, none⟩ = some (.slice none 0 0) := by rw [← hU.out]; go_simp
      have kU6 : U.cell? ⟨w.heap.size + 1, 2, none⟩ = some (.int .i64 0) := by rw [← hU.out]; go_simp
      have kU7 : U.cell? ⟨w.heap.size + 1, 3, none⟩ = some (.int .i64 0) := by rw [← hU.out]; go_simp
      have kU8 : U.cell? ⟨w.heap.size + 1, 4, none⟩ = some (.int .i64 0) := by rw [← hU.out]; go_simp
      have kU9 : U.cell? ⟨w.heap.size + 1, 5, none⟩ = some (.int .i64 0) := by rw [← hU.out]; go_simp
      have kU10 : U.cell? ⟨w.heap.size + 1, 6, none⟩ = some (.int .i64 0) := by rw [← hU.out]; go_simp
      have kU11 : U.cell? ⟨w.heap.size + 1, 7, none⟩ = some (.int .i64 0) := by rw [← hU.out]; go_simp
      have kU12 : U.cell? ⟨w.heap.size + 1, 8, none⟩ = some (.int .i64 0) := by rw [← hU.out]; go_simp
      have fU0 : U.frozen? ⟨w.heap.size + 1, 0, none⟩ = false := by rw [← hU.out]; go_simp
      have fU1 : U.frozen? ⟨w.heap.size + 1, 1, none⟩ = false := by rw [← hU.out]; go_simp
      have fU2 : U.frozen? ⟨w.heap.size + 1, 2, none⟩ = false := by rw [← hU.out]; go_simp
      have fU3 : U.frozen? ⟨w.heap.size + 1, 3, none⟩ = false := by rw [← hU.out]; go_simp
      have fU4 : U.frozen? ⟨w.heap.size + 1, 4, none⟩ = false := by rw [← hU.out]; go_simp
      have fU5 : U.frozen? ⟨w.heap.size + 1, 5, none⟩ = false := by rw [← hU.out]; go_simp
      have fU6 : U.frozen? ⟨w.heap.size + 1, 6, none⟩ = false := by rw [← hU.out]; go_simp
      have fU7 : U.frozen? ⟨w.heap.size + 1, 7, none⟩ = false := by rw [← hU.out]; go_simp
      have fU8 : U.frozen? ⟨w.heap.size + 1, 8, none⟩ = false := by rw [← hU.out]; go_simp
      have lU : w.heap.size + 1 < U.heap.size := by rw [← hU.out]; exact hy1
      clear hU hb hc hf hsz hy0 hy1
      refine (implStart_any n c h s U HV.out (by omega)).mono ?_
      rintro e w1 ⟨v1, v2, rfl, hF, hb⟩
      obtain ⟨a1, c1, rfl, _⟩ := hF.one.ints
      obtain ⟨a2, c2, rfl, _⟩ := hF.two.ints
      have kA0 := xcell hb kU0
      have kA1 := xcell hb kU1
      have kA2 := xcell hb kU2
      have kA3 := xcell hb kU3
      have kA4 := xcell hb kU4
      have kA5 := xcell hb kU5
      have kA6 := xcell hb kU6
      have kA7 := xcell hb kU7
      have kA8 := xcell hb kU8
      have kA9 := xcell hb kU9
      have kA10 := xcell hb kU10
      have kA11 := xcell hb kU11
      have kA12 := xcell hb kU12
      have fA0 := xfroz hb kU4 fU0
      have fA1 := xfroz hb kU5 fU1
      have fA2 := xfroz hb kU6 fU2
      have fA3 := xfroz hb kU7 fU3
      have fA4 := xfroz hb kU8 fU4
      have fA5 := xfroz hb kU9 fU5
      have fA6 := xfroz hb kU10 fU6
      have fA7 := xfroz hb kU11 fU7
      have fA8 := xfroz hb kU12 fU8
      have BA := xThen bU hb
      have lA : w.heap.size + 1 < w1.heap.size := Nat.lt_of_lt_of_le lU hb.size
      clear kU0 kU1 kU2 kU3 kU4 kU5 kU6 kU7 kU8 kU9 kU10 kU11 kU12 fU0 fU1 fU2 fU3 fU4 fU5 fU6 fU7 fU8 hb
      obtain ⟨L, HLL⟩ := named (startL n c h s)
      rw [← HLL.out] at hF ⊢
      have HF := hid hF
      clear hF
      go_upto_region 6 with (fail)
      refine wp_named (fun V hV0 => ?_)
      have hV := hid hV0
      clear hV0
      have bV : Below w.heap.size w V := by rw [← hV.out]; (repeat' (first | (with_reducible exact Below.refl _ _) | (with_reducible assumption) | (with_reducible refine xAlloc ?_ _) | (with_reducible refine Below.drew ?_) | (with_reducible refine xDrewN ?_ _) | (with_reducible refine xThen ?_ (by with_reducible assumption)) | (with_reducible refine Below.setCell ?_ (by first | omega | (simp; omega) | simp) _) | exact Below.refl _ _))
      have kV0 : V.cell? ⟨w.heap.size + 1, 0, none⟩ = some (.slice none 0 0) := by rw [← hV.out]; go_simp
      have kV1 : V.cell? ⟨w.heap.size + 1, 1, none⟩ = some (.slice none 0 0) := by rw [← hV.out]; go_simp
      have kV2 : V.cell? ⟨w.heap.size + 1, 2, none⟩ = some (.int .i64 0) := by rw [← hV.out]; go_simp
      have kV3 : V.cell? ⟨w.heap.size + 1, 3, none⟩ = some (.int .i64 0) := by rw [← hV.out]; go_simp
      have kV4 : V.cell? ⟨w.heap.size + 1, 4, none⟩ = some (.int .i64 0) := by rw [← hV.out]; go_simp
      have kV5 : V.cell? ⟨w.heap.size + 1, 5, none⟩ = some (.int .i64 0) := by rw [← hV.out]; go_simp
      have kV6 : V.cell? ⟨w.heap.size + 1, 6, none⟩ = some (.int .i64 0) := by rw [← hV.out]; go_simp
      have kV7 : V.cell? ⟨w.heap.size + 1, 7, none⟩ = some (.int .i64 0) := by rw [← hV.out]; go_simp
      have kV8 : V.cell? ⟨w.heap.size + 1, 8, none⟩ = some (.int .i64 0) := by rw [← hV.out]; go_simp
      have kV9 : V.cell? ⟨w1.heap.size, 0, none⟩ = some (.slice a1 L.length c1) := by rw [← hV.out]; go_simp
      have kV10 : V.cell? ⟨w1.heap.size, 1, none⟩ = some (.slice a2 L.length c2) := by rw [← hV.out]; go_simp
      have fV0 : V.frozen? ⟨w.heap.size + 1, 0, none⟩ = false := by rw [← hV.out]; go_simp
      have fV1 : V.frozen? ⟨w.heap.size + 1, 1, none⟩ = false := by rw [← hV.out]; go_simp
      have fV2 : V.frozen? ⟨w.heap.size + 1, 2, none⟩ = false := by rw [← hV.out]; go_simp
      have fV3 : V.frozen? ⟨w.heap.size + 1, 3, none⟩ = false := by rw [← hV.out]; go_simp
      have fV4 : V.frozen? ⟨w.heap.size + 1, 4, none⟩ = false := by rw [← hV.out]; go_simp
      have fV5 : V.frozen? ⟨w.heap.size + 1, 5, none⟩ = false := by rw [← hV.out]; go_simp
      have fV6 : V.frozen? ⟨w.heap.size + 1, 6, none⟩ = false := by rw [← hV.out]; go_simp
      have fV7 : V.frozen? ⟨w.heap.size + 1, 7, none⟩ = false := by rw [← hV.out]; go_simp
      have fV8 : V.frozen? ⟨w.heap.size + 1, 8, none⟩ = false := by rw [← hV.out]; go_simp
      have bwV : Below w1.heap.size w1 V := by rw [← hV.out]; exact xAlloc (Below.refl _ _) _
      have HG := hid (HF.out.mono bwV)
      clear kA0 kA1 kA2 kA3 kA4 kA5 kA6 kA7 kA8 kA9 kA10 kA11 kA12 fA0 fA1 fA2 fA3 fA4 fA5 fA6 fA7 fA8 hV BA lA HF bwV
      go_wp2
      refine bodyPost_ret (v := ?_) ?_ rfl ?_
      rotate_left
      · simp only [results, Try.results25]
        go_simp
        exact rfl
      refine retNew HC.out (HL.out.trans HLL.out.symm) (v1 := .slice a1 L.length c1) (v2 := .slice a2 L.length c2) ((HG.out.wrote (g := w.heap.size + 1) ?_ lU).low (Nat.le_of_lt (Nat.lt_of_le_of_lt (Nat.le_succ _) lU))) (by (repeat' (first | (with_reducible exact Below.refl _ _) | (with_reducible assumption) | (with_reducible refine xAlloc ?_ _) | (with_reducible refine Below.drew ?_) | (with_reducible refine xDrewN ?_ _) | (with_reducible refine xThen ?_ (by with_reducible assumption)) | (with_reducible refine Below.setCell ?_ (by first | omega | (simp; omega) | simp) _) | exact Below.refl _ _)))
      repeat (with_reducible refine Wrote.setCell ?_ _ _)
      exact Wrote.refl _ _
end Go.Proofs.Ytmcjabodkjlkgaa
