/-
  The law on seeds: rolls from a seed continue with the seed that remains; no condition.
-/
import Derived.Test.YtmcjabodkjlkgaaFromV
namespace Go.Proofs.Ytmcjabodkjlkgaa
open Go.RowKit

theorem fromL_getD (s x : Int) (n i : Nat) (h : i < n) : (fromL s x n).getD i (0, 0) = (rollX s (seedN x i), rollY s (seedN x i)) := by
  simp [fromL, List.getD_eq_getElem?_getD, h]

set_option maxRecDepth 100000 in
set_option maxHeartbeats 4000000 in
theorem lawSeeds (a : Option Addr) (len cap : Nat) (z : List Int) (w : World) (hrow : IsRow .u8 w a len cap z) :
    Calls Try.prog 10 #[.slice a len cap] w fun e w' => e = .returned (.bool true) ∧ Below w.heap.size w w' := by
  have hby := isRow_bytes hrow
  clear hrow
  by_cases hlen : 4096 < len
  · have hd : decide (4096 < len) = true := by simpa using hlen
    go_enter Try.func10, Try.ntmps10
    go_wp2_with (go_at_call 19; refine (big_any _ _ _ _).mono ?_; rw [hd]; rintro e w' ⟨rfl, rfl⟩)
    go_ret
    exact ⟨rfl, Below.refl _ _⟩
  · have hd : decide (4096 < len) = false := by simpa using hlen
    go_enter Try.func10, Try.ntmps10
    go_wp2_with (go_at_call 19; refine (big_any _ _ _ _).mono ?_; rw [hd]; rintro e w' ⟨rfl, rfl⟩)
    refine (drawFrom_any a len cap w hby (by omega)).mono ?_
    rintro e w1 ⟨p, c, h, s, x, n, rfl, B1⟩
    obtain ⟨L, HL⟩ := named (fromZ p c h s x n)
    obtain ⟨k, HK⟩ := named (codeR (varB p c h s) x n)
    have h1sz := B1.size
    clear hby hd
    obtain ⟨b3, hb3⟩ := named w1.heap.size
    go_wp2_with fail
    refine calls_named (fun U hU0 => ?_)
    have hU := hid hU0
    clear hU0
    have bU : Below w.heap.size w U := by rw [← hU.out]; (repeat' (first | (with_reducible exact Below.refl _ _) | (with_reducible assumption) | (with_reducible refine xAlloc ?_ _) | (with_reducible refine Below.drew ?_) | (with_reducible refine xDrewN ?_ _) | (with_reducible refine xThen ?_ (by with_reducible assumption)) | (with_reducible refine Below.setCell ?_ (by first | omega | (simp; omega) | simp) _) | exact Below.refl _ _))
    have kU0 : U.cell? ⟨w1.heap.size, 0, none⟩ = some (.int .i64 p) := by rw [← hU.out]; go_simp
    have kU1 : U.cell? ⟨w1.heap.size, 1, none⟩ = some (.int .i64 c) := by rw [← hU.out]; go_simp
    have kU2 : U.cell? ⟨w1.heap.size, 2, none⟩ = some (.int .i64 h) := by rw [← hU.out]; go_simp
    have kU3 : U.cell? ⟨w1.heap.size, 3, none⟩ = some (.int .i64 s) := by rw [← hU.out]; go_simp
    rw [← hb3.out] at kU0 kU1 kU2 kU3 ⊢
    have BU : Below w.heap.size w U := by rw [← hU.out]; exact xAlloc B1 _
    have lU : b3 < U.heap.size := cell_block kU0
    clear hU B1
    refine (implFrom_any p c h s x n U).mono ?_
    rintro e w2 ⟨v1, rfl, hF, hb⟩
    rw [← HL.out] at hF
    rw [← HK.out]
    have hLm := hF.1
    obtain ⟨a1, c1, rfl, -, -⟩ := hF.at
    have kA0 := xcell hb kU0
    have kA1 := xcell hb kU1
    have kA2 := xcell hb kU2
    have kA3 := xcell hb kU3
    have BA := xThen BU hb
    have HF := hid hF
    clear kU0 kU1 kU2 kU3 hb hF
    go_wp2_with fail
    refine (specFrom_any p c h s x n w2).mono ?_
    rintro e w3 ⟨v2, rfl, hG, hb⟩
    rw [← HL.out] at hG
    rw [← HK.out]
    obtain ⟨a2, c2, rfl, -, -⟩ := hG.at
    have kB0 := xcell hb kA0
    have kB1 := xcell hb kA1
    have kB2 := xcell hb kA2
    have kB3 := xcell hb kA3
    have BB := xThen BA hb
    have HF2 := hid (HF.out.mono hb)
    have HG2 := hid hG
    clear kA0 kA1 kA2 kA3 hb HF BA hG
    by_cases hk : k = 0
    · subst hk
      obtain ⟨hv, sx0, sx1, n0, n1⟩ := codeR_zero HK.out.symm
      have hr := varB_true hv
      have HV := hid hv
      obtain ⟨sn, rfl⟩ := Int.eq_ofNat_of_zero_le (a := s) (by omega)
      obtain ⟨nn, rfl⟩ := Int.eq_ofNat_of_zero_le (a := n) (by omega)
      have HLL : Hid (L = fromL sn x nn) := hid (HL.out.trans (by unfold fromZ; rw [← HK.out]; simp))
      have HLN : Hid (L.length = nn) := hid (by rw [HLL.out]; exact fromL_len sn x nn)
      clear hv
      go_wp2_with fail
      go_loopw [10, 4, 11, 12, 13] (fun i sd _ _ _ wr => ∃ k : Nat, k ≤ nn ∧ i = .int .i64 k ∧ sd = .int .i64 (seedN x k) ∧ Below w3.heap.size w3 wr) (fun i _ _ _ _ _ => nn - (intOf i).toNat)
      case atStart => exact ⟨0, by omega, rfl, rfl, Below.refl _ _⟩
      case round =>
        obtain ⟨k, hk, rfl, rfl, hbw⟩ := hrel
        have HB := hid hbw
        have hsd := seedN_pos x sx0 sx1 k
        obtain ⟨sv, HSV⟩ := named (seedN x k)
        rw [← HSV.out] at hsd ⊢
        by_cases hlt : k < nn
        · have hkl : k < L.length := by rw [HLN.out]; exact hlt
          obtain ⟨g1, cc, e1, -, -⟩ := HF2.out.addr (by rintro rfl; simp at hkl)
          injection e1 with e1 _ e3
          subst e1 e3
          obtain ⟨g2, cd, e1, -, -⟩ := HG2.out.addr (by rintro rfl; simp at hkl)
          injection e1 with e1 _ e3
          subst e1 e3
          obtain ⟨kz0, kz1⟩ := (HF2.out.mono hbw).cellAt (i := k) hkl
          obtain ⟨ky0, ky1⟩ := (HG2.out.mono hbw).cellAt (i := k) hkl
          rw [HLL.out, fromL_getD sn x nn k hlt, ← HSV.out] at kz0 kz1 ky0 ky1
          simp only at kz0 kz1 ky0 ky1
          obtain ⟨X, HXX⟩ := named (rollX sn sv)
          obtain ⟨Y, HYY⟩ := named (rollY sn sv)
          rw [← HXX.out] at kz0 ky0
          rw [← HYY.out] at kz1 ky1
          have kv0 := xcell hbw kB0
          have kv1 := xcell hbw kB1
          have kv2 := xcell hbw kB2
          have kv3 := xcell hbw kB3
          have i1 : (k : Int) < (L.length : Int) := by omega
          have hs2 := nextS_pos sv hsd.1 hsd.2
          clear hbw
          go_wp2_with fail
          refine (rollFromV_any p c h sn sv HV.out hsd.1 hsd.2 wr).mono ?_
          rw [← HXX.out, ← HYY.out]
          rintro e w4 ⟨rfl, hb⟩
          have kz2 := xcell hb kz0
          have kz3 := xcell hb kz1
          have ky2 := xcell hb ky0
          have ky3 := xcell hb ky1
          have lz := cell_block kz2
          have ly := cell_block ky2
          have HB4 := hid (xThen HB.out hb)
          clear kz0 kz1 ky0 ky1 kv0 kv1 kv2 kv3 hb
          refine Hid.out ?_
          refine hid ?_
          go_wp2_with fail
          refine wp_named (fun V hV0 => ?_)
          have hV := hid hV0
          clear hV0
          have bV : Below w4.heap.size w4 V := by rw [← hV.out]; exact xAlloc (Below.refl _ _) _
          have kb0 : V.cell? ⟨w4.heap.size, 0, none⟩ = some (.int .i64 X) := cell_at (of_alloc hV.out)
          have kb1 : V.cell? ⟨w4.heap.size, 1, none⟩ = some (.int .i64 Y) := cell_at (of_alloc hV.out)
          have kz0 := xcell bV kz2
          have kz1 := xcell bV kz3
          have ky0 := xcell bV ky2
          have ky1 := xcell bV ky3
          have HB5 := hid (xThen HB4.out bV)
          have HSE : Hid (seedN x (k + 1) = nextS (nextS sv)) := hid (by rw [HSV.out]; rfl)
          have hs2a := hs2.1
          have hs2b := hs2.2
          clear bV hV kz2 kz3 ky2 ky3 hs2 lz ly
          have hk0 := fun xe : ExtW V => xe.cell kz0
          have hk1 := fun xe : ExtW V => xe.cell kz1
          have hk2 := fun xe : ExtW V => xe.cell ky0
          have hk3 := fun xe : ExtW V => xe.cell ky1
          have hk4 := fun xe : ExtW V => xe.cell kb0
          have hk5 := fun xe : ExtW V => xe.cell kb1
          have hne : Nonempty (ExtW V) := ⟨⟨_, Below.refl _ _⟩⟩
          refine wp_region_ext (by kernel_rfl) (by kernel_rfl) ?_
          repeat (first | go_big_quiet_step ((first | (go_at_call 49; exact ext_call (nextSeedV_any _ (by omega) (by omega) _)))) | quiet_step ((first | (go_at_call 49; exact ext_call (nextSeedV_any _ (by omega) (by omega) _)))))
          refine wpQuiet_nil ?_
          rintro w1 ⟨⟨_, hb⟩, rfl⟩
          clear hne hk0 hk1 hk2 hk3 hk4 hk5
          go_wp2
          go_roundw
          case rel => exact ⟨k + 1, by omega, by go_num, by rw [HSE.out], xThen HB5.out hb⟩
          case measure => simp [intOf]; omega
        · obtain rfl : k = nn := by omega
          have i1 : ¬ (k : Int) < (L.length : Int) := by have := HLN.out; omega
          have i2 : (L.length : Int) = (k : Int) := by have := HLN.out; omega
          clear hbw
          go_wp2
          go_ret
          exact ⟨by simp, xThen BB HB.out⟩
    · have hkb : (k != 0) = true := by simpa using hk
      go_wp2
      go_ret
      exact ⟨rfl, BB⟩
end Go.Proofs.Ytmcjabodkjlkgaa
