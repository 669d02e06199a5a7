/-
  The law on stratified rolls: each group contains each roll as often as its weight, and fewer rolls are a beginning of more; no condition.
-/
import Derived.Test.YtmcjabodkjlkgaaStratW
import Derived.Test.YtmcjabodkjlkgaaDrawU
import Derived.Test.YtmcjabodkjlkgaaAllR
import Derived.Test.YtmcjabodkjlkgaaRollEq
namespace Go.Proofs.Ytmcjabodkjlkgaa
open Go.RowKit

theorem count_take_succ (l : List (Int × Int)) (r : Int × Int) (k : Nat) (h : k < l.length) : (l.take (k + 1)).count r = (l.take k).count r + (if l.getD k (0, 0) = r then 1 else 0) := by
  rw [List.take_add_one, List.getElem?_eq_getElem h, List.getD_eq_getElem?_getD, List.getElem?_eq_getElem h, List.count_append]
  show _ + List.count r [l[k]] = _ + (if l[k] = r then 1 else 0)
  rw [List.count_singleton]
  simp
theorem allR_mem (s : Nat) (r : Int × Int) (h : r ∈ allR s) : 1 ≤ r.2 ∧ r.2 ≤ r.1 ∧ r.1 ≤ s := by
  simp only [allR, List.mem_flatMap, List.mem_range, List.mem_map] at h
  obtain ⟨i, hi, j, hj, rfl⟩ := h
  simp; omega
theorem allR_pos (s : Nat) (h : 1 ≤ s) : 1 ≤ (allR s).length := by
  obtain ⟨k, rfl⟩ : ∃ k, s = k + 1 := ⟨s - 1, by omega⟩
  rw [allR_succ, List.length_append, rowR_len]; omega
theorem getD_mem (l : List (Int × Int)) (i : Nat) (h : i < l.length) : l.getD i (0, 0) ∈ l := by
  rw [List.getD_eq_getElem?_getD, List.getElem?_eq_getElem h]; exact List.getElem_mem _
theorem strat_getD (s x : Int) (n i : Nat) (hs : 1 ≤ sq s) (hn : i < n) (hm : i < sq s) : (stratL s x n).getD i (0, 0) = (grp s x).getD i (0, 0) := by
  rw [← strat_grp s x hs, List.getD_eq_getElem?_getD, List.getD_eq_getElem?_getD, strat_get s x n (sq s) i hs hn hm]

theorem codeR_ok {v : Bool} {x n : Int} (hv : v = true) (x0 : 1 ≤ x) (x1 : x ≤ 2147483646) (n0 : 0 ≤ n) (n1 : n ≤ 400) : codeR v x n = 0 := by
  subst hv
  rw [codeR_cases]
  simp [inB]
  omega

set_option maxRecDepth 100000 in
set_option maxHeartbeats 4000000 in
theorem lawStratified (a : Option Addr) (len cap : Nat) (z : List Int) (w : World) (hrow : IsRow .u8 w a len cap z) :
    Calls Try.prog 11 #[.slice a len cap] w fun e w' => e = .returned (.bool true) ∧ Below w.heap.size w w' := by
  have hby := isRow_bytes hrow
  clear hrow
  by_cases hlen : 4096 < len
  · have hd : decide (4096 < len) = true := by simpa using hlen
    go_enter Try.func11, Try.ntmps11
    go_wp2_with (go_at_call 19; refine (big_any _ _ _ _).mono ?_; rw [hd]; rintro e w' ⟨rfl, rfl⟩)
    go_ret
    exact ⟨rfl, Below.refl _ _⟩
  · have hd : decide (4096 < len) = false := by simpa using hlen
    go_enter Try.func11, Try.ntmps11
    go_wp2_with (go_at_call 19; refine (big_any _ _ _ _).mono ?_; rw [hd]; rintro e w' ⟨rfl, rfl⟩)
    refine (drawStrat_any a len cap w hby (by omega)).mono ?_
    rintro e w1 ⟨p, c, h, s, x, n, rfl, B1⟩
    obtain ⟨L, HL⟩ := named (stratZ p c h s x n)
    obtain ⟨k, HK⟩ := named (codeR (varB p c h s) x n)
    have h1sz := B1.size
    clear hby hd
    obtain ⟨b3, hb3⟩ := named w1.heap.size
    go_wp2_with fail
    refine calls_named (fun U hU0 => ?_)
    have hU := hid hU0
    clear hU0
    have bU : Below w.heap.size w U := by rw [← hU.out]; (repeat' (first | (with_reducible exact Below.refl _ _) | (with_reducible assumption) | (with_reducible refine xAlloc ?_ _) | (with_reducible refine Below.drew ?_) | (with_reducible refine xDrewN ?_ _) | (with_reducible refine xThen ?_ (by with_reducible assumption)) | (with_reducible refine Below.setCell ?_ (by first | omega | (simp; omega) | simp) _) | exact Below.refl _ _))
    have kU0 : U.cell? ⟨w1.heap.size, 0, none⟩ = some (.int .i64 p) := by rw [← hU.out]; go_simp
    have kU1 : U.cell? ⟨w1.heap.size, 1, none⟩ = some (.int .i64 c) := by rw [← hU.out]; go_simp
    have kU2 : U.cell? ⟨w1.heap.size, 2, none⟩ = some (.int .i64 h) := by rw [← hU.out]; go_simp
    have kU3 : U.cell? ⟨w1.heap.size, 3, none⟩ = some (.int .i64 s) := by rw [← hU.out]; go_simp
    rw [← hb3.out] at kU0 kU1 kU2 kU3 ⊢
    have BU : Below w.heap.size w U := by rw [← hU.out]; exact xAlloc B1 _
    have lU : b3 < U.heap.size := cell_block kU0
    clear hU B1
    refine (implStrat_any p c h s x n U).mono ?_
    rintro e w2 ⟨v1, rfl, hF, hb⟩
    rw [← HL.out] at hF
    rw [← HK.out]
    have hLm := hF.1
    obtain ⟨a1, c1, rfl, -, -⟩ := hF.at
    have kA0 := xcell hb kU0
    have kA1 := xcell hb kU1
    have kA2 := xcell hb kU2
    have kA3 := xcell hb kU3
    have BA := xThen BU hb
    have HF := hid hF
    clear kU0 kU1 kU2 kU3 hb hF
    go_wp2_with fail
    refine (specStrat_any p c h s x n w2).mono ?_
    rintro e w3 ⟨v2, rfl, hG, hb⟩
    rw [← HL.out] at hG
    rw [← HK.out]
    obtain ⟨a2, c2, rfl, -, -⟩ := hG.at
    have kB0 := xcell hb kA0
    have kB1 := xcell hb kA1
    have kB2 := xcell hb kA2
    have kB3 := xcell hb kA3
    have BB := xThen BA hb
    have HF2 := hid (HF.out.mono hb)
    clear kA0 kA1 kA2 kA3 hb HF BA hG
    by_cases hk : k = 0
    · subst hk
      obtain ⟨hv, sx0, sx1, n0, n1⟩ := codeR_zero HK.out.symm
      have hr := varB_true hv
      have HV := hid hv
      obtain ⟨sn, rfl⟩ := Int.eq_ofNat_of_zero_le (a := s) (by omega)
      obtain ⟨nn, rfl⟩ := Int.eq_ofNat_of_zero_le (a := n) (by omega)
      obtain ⟨m, HM⟩ := named (sq sn)
      have hbd := sq_bd (show 1 ≤ (sn : Int) by omega) (show (sn : Int) ≤ 6 by omega)
      rw [← HM.out] at hbd
      obtain ⟨hm0, hm1, hss⟩ := hbd
      have HLL : Hid (L = stratL sn x nn) := hid (HL.out.trans (by unfold stratZ; rw [← HK.out]; simp))
      have HLN : Hid (L.length = nn) := hid (by rw [HLL.out]; exact stratL_len sn x nn (by rw [← HM.out]; omega))
      have hc0 : codeR (varB p c h sn) x ((sn : Int) * sn) = 0 := codeR_ok hv sx0 sx1 (by omega) (by omega)
      have hz3 : stratZ p c h sn x ((sn : Int) * sn) = grp sn x := by
        unfold stratZ
        rw [hc0, if_pos rfl, ← strat_grp sn x (by rw [← HM.out]; exact hm0)]
        congr 1
      have HC0 := hid hc0
      have HZ3 := hid hz3
      have HGL : Hid ((grp sn x).length = m) := hid (by rw [grp_len, HM.out])
      clear hv hc0 hz3
      go_wp2_with fail
      refine (implStrat_any p c h sn x ((sn : Int) * sn) w3).mono ?_
      rintro e w4 ⟨v3, rfl, hJ, hb⟩
      rw [HZ3.out] at hJ
      rw [HC0.out]
      obtain ⟨g3, c3, rfl, hg3, hg3l⟩ := hJ.addr (by intro e; have := HGL.out; rw [e] at this; simp at this; omega)
      rw [HGL.out] at hJ ⊢
      have kC0 := xcell hb kB0
      have kC1 := xcell hb kB1
      have kC2 := xcell hb kB2
      have kC3 := xcell hb kB3
      have BC := xThen BB hb
      have HF3 := hid (HF2.out.mono hb)
      have HJ := hid hJ
      clear kB0 kB1 kB2 kB3 hb HF2 BB hJ
      go_wp2_with fail
      refine (allRolls_any p c h sn w4 HV.out).mono ?_
      rintro e w5 ⟨v4, rfl, hR, hb⟩
      obtain ⟨q, HQ⟩ := named (allR sn).length
      have hq0 := allR_pos sn (by omega)
      have hq1 := allR_len sn (by omega)
      rw [← HQ.out] at hq0 hq1
      obtain ⟨g4, c4, rfl, hg4, hg4l⟩ := hR.addr (by intro e; have := HQ.out; rw [e] at this; simp at this; omega)
      rw [← HQ.out] at hR ⊢
      have kD0 := xcell hb kC0
      have kD1 := xcell hb kC1
      have kD2 := xcell hb kC2
      have kD3 := xcell hb kC3
      have BD := xThen BC hb
      have HF4 := hid (HF3.out.mono hb)
      have HJ4 := hid (HJ.out.mono hb)
      have HR := hid hR
      clear kC0 kC1 kC2 kC3 hb HF3 HJ BC hR
      go_wp2_with fail
      go_loopw [13, 14, 15] (fun i _ _ wr => ∃ k : Nat, k ≤ q ∧ i = .int .i64 k ∧ Below w5.heap.size w5 wr) (fun i _ _ _ => q - (intOf i).toNat)
      case atStart => exact ⟨0, by omega, rfl, Below.refl _ _⟩
      case round =>
        obtain ⟨k, hk, rfl, hbw⟩ := hrel
        have HB := hid hbw
        by_cases hlt : k < q
        · have hcl := (HR.out.mono hbw).cellAt (i := k) (by rw [← HQ.out]; exact hlt)
          have hmem := allR_mem sn _ (getD_mem (allR sn) k (by rw [← HQ.out]; exact hlt))
          have hcn := count_all sn (by omega) (by omega) _ (getD_mem (allR sn) k (by rw [← HQ.out]; exact hlt))
          rw [← grp_count sn x (by rw [← HM.out]; exact hm0)] at hcn
          obtain ⟨⟨X, Y⟩, HXY⟩ := named ((allR sn).getD k (0, 0))
          rw [← HXY.out] at hcl hmem hcn
          obtain ⟨kz0, kz1⟩ := hcl
          obtain ⟨hy1, hyx, hxs⟩ := hmem
          have HCN := hid hcn
          simp only at hy1 hyx hxs kz0 kz1
          have i1 : (k : Int) < (q : Int) := by omega
          clear hcn hbw
          go_wp2
          go_loopw [14, 15] (fun cnt i wr => ∃ k2 : Nat, k2 ≤ m ∧ i = .int .i64 k2 ∧ cnt = .int .i64 ((((grp sn x).take k2).count (X, Y) : Nat) : Int) ∧ Below w5.heap.size w5 wr) (fun _ i _ => m - (intOf i).toNat)
          case atStart => exact ⟨0, by omega, rfl, by simp, HB.out⟩
          case round =>
            clear HB kz0 kz1
            obtain ⟨k2, hk2, rfl, rfl, hbw⟩ := hrel
            have HB := hid hbw
            obtain ⟨kz0, kz1⟩ := (HR.out.mono hbw).cellAt (i := k) (by rw [← HQ.out]; exact hlt)
            rw [← HXY.out] at kz0 kz1
            simp only at kz0 kz1
            by_cases hlt2 : k2 < m
            · obtain ⟨ky0, ky1⟩ := (HJ4.out.mono hbw).cellAt (i := k2) (by rw [HGL.out]; exact hlt2)
              have hcs := count_take_succ (grp sn x) (X, Y) k2 (by rw [HGL.out]; exact hlt2)
              have hcb : ((grp sn x).take k2).count (X, Y) ≤ 36 := Nat.le_trans List.count_le_length (by rw [List.length_take]; omega)
              obtain ⟨⟨E, F⟩, HEF⟩ := named ((grp sn x).getD k2 (0, 0))
              rw [← HEF.out] at ky0 ky1 hcs
              simp only at ky0 ky1
              obtain ⟨cn, HCNT⟩ := named (((grp sn x).take k2).count (X, Y))
              rw [← HCNT.out] at hcs hcb ⊢
              have HCS := hid hcs
              have i2 : (k2 : Int) < (m : Int) := by omega
              clear hbw hcs
              go_wp2_with fail
              have hk0 := fun xe : ExtW wr => xe.cell kz0
              have hk1 := fun xe : ExtW wr => xe.cell kz1
              have hk2 := fun xe : ExtW wr => xe.cell ky0
              have hk3 := fun xe : ExtW wr => xe.cell ky1
              have hne : Nonempty (ExtW wr) := ⟨⟨_, Below.refl _ _⟩⟩
              refine wp_region_ext (by kernel_rfl) (by kernel_rfl) ?_
              repeat (first | go_big_quiet_step ((first | fail)) | quiet_step ((first | fail)))
              refine wpQuiet_step (fun K hK => ?_)
              go_simp
              obtain ⟨b, HBB⟩ := named (E == X && F == Y)
              refine ⟨.bool b, fun a => by rw [HBB.out]; by_cases h1 : E = X <;> by_cases h2 : F = Y <;> simp [h1, h2], hK _ ?_⟩
              clear hK K
              refine wpQuiet_nil ?_
              rintro w1 ⟨⟨_, hb⟩, rfl⟩
              clear hne hk0 hk1 hk2 hk3
              cases b
              · have hne2 : ¬ ((E, F) = (X, Y)) := by
                  intro e
                  injection e with e1 e2
                  have := HBB.out
                  simp [e1, e2] at this
                have HCT : Hid (((grp sn x).take (k2 + 1)).count (X, Y) = cn) := hid (by rw [HCS.out, if_neg hne2]; rfl)
                clear hne2
                go_wp2
                go_roundw
                case rel => exact ⟨k2 + 1, by omega, by go_num, by rw [HCT.out], xThen HB.out hb⟩
                case measure => simp [intOf]; omega
              · have heq2 : (E, F) = (X, Y) := by
                  have := HBB.out.symm
                  simp at this
                  rw [this.1, this.2]
                have HCT : Hid (((grp sn x).take (k2 + 1)).count (X, Y) = cn + 1) := hid (by rw [HCS.out, if_pos heq2])
                clear heq2
                go_wp2
                go_roundw
                case rel => exact ⟨k2 + 1, by omega, by go_num, by rw [HCT.out]; go_num, xThen HB.out hb⟩
                case measure => simp [intOf]; omega
            · obtain rfl : k2 = m := by omega
              have kv0 := xcell hbw kD0
              have kv1 := xcell hbw kD1
              have kv2 := xcell hbw kD2
              have kv3 := xcell hbw kD3
              obtain ⟨cn, HCNT⟩ := named (((grp sn x).take k2).count (X, Y))
              rw [← HCNT.out]
              have hcw : (cn : Int) = if X = Y then 1 else 2 := by
                rw [HCNT.out, List.take_of_length_le (by rw [HGL.out]; omega), HCN.out]
                split <;> rfl
              have hrw : ∀ u : World, Calls Try.prog 52 #[.agg #[.int .i64 p, .int .i64 c, .int .i64 h, .int .i64 sn], .agg #[.int .i64 X, .int .i64 Y]] u fun e w' => e = .returned (.int .i64 (cn : Int)) ∧ Below u.heap.size u w' := fun u => by
                rw [hcw]
                exact rollWeight_any p c h sn X Y HV.out hxs hy1 hyx u
              have HRW := hid hrw
              clear hbw hcw hrw
              go_wp2_with fail
              have hk0 := fun xe : ExtW wr => xe.cell kz0
              have hk1 := fun xe : ExtW wr => xe.cell kz1
              have hk2 := fun xe : ExtW wr => xe.cell kv0
              have hk3 := fun xe : ExtW wr => xe.cell kv1
              have hk4 := fun xe : ExtW wr => xe.cell kv2
              have hk5 := fun xe : ExtW wr => xe.cell kv3
              have hne : Nonempty (ExtW wr) := ⟨⟨_, Below.refl _ _⟩⟩
              refine wp_region_ext (by kernel_rfl) (by kernel_rfl) ?_
              repeat (first | go_big_quiet_step ((first | (go_at_call 52; exact ext_call (HRW.out _)))) | quiet_step ((first | (go_at_call 52; exact ext_call (HRW.out _)))))
              refine wpQuiet_nil ?_
              rintro w1 ⟨⟨_, hb⟩, rfl⟩
              clear hne hk0 hk1 hk2 hk3 hk4 hk5
              go_wp2
              go_roundw
              case rel => exact ⟨k + 1, by omega, by go_num, xThen HB.out hb⟩
              case measure => simp [intOf]; omega
        · obtain rfl : k = q := by omega
          clear hbw
          go_wp2
          go_loopw [16] (fun i wr => ∃ k : Nat, k ≤ nn ∧ i = .int .i64 k ∧ Below w5.heap.size w5 wr) (fun i _ => nn - (intOf i).toNat)
          case atStart => exact ⟨0, by omega, rfl, HB.out⟩
          case round =>
            clear HB
            obtain ⟨i, hi, rfl, hbw⟩ := hrel
            have HB := hid hbw
            by_cases hlt : i < L.length
            · by_cases hlm : i < m
              · obtain ⟨g1, cc, e1, -, -⟩ := HF4.out.addr (by rintro rfl; simp at hlt)
                injection e1 with e1 _ e3
                subst e1 e3
                obtain ⟨ky0, ky1⟩ := (HJ4.out.mono hbw).cellAt (i := i) (by rw [HGL.out]; exact hlm)
                obtain ⟨kz0, kz1⟩ := (HF4.out.mono hbw).cellAt (i := i) hlt
                rw [HLL.out, strat_getD sn x nn i (by rw [← HM.out]; exact hm0) (by rw [← HLN.out]; exact hlt) (by rw [← HM.out]; exact hlm)] at kz0 kz1
                obtain ⟨⟨E, F⟩, HEF⟩ := named ((grp sn x).getD i (0, 0))
                rw [← HEF.out] at ky0 ky1 kz0 kz1
                simp only at ky0 ky1 kz0 kz1
                have i1 : (i : Int) < (L.length : Int) := by omega
                have i2 : (i : Int) < (m : Int) := by omega
                have i3 : i < nn := by rw [← HLN.out]; exact hlt
                clear hbw
                go_wp2_with fail
                have hk0 := fun xe : ExtW wr => xe.cell kz0
                have hk1 := fun xe : ExtW wr => xe.cell kz1
                have hk2 := fun xe : ExtW wr => xe.cell ky0
                have hk3 := fun xe : ExtW wr => xe.cell ky1
                have hne : Nonempty (ExtW wr) := ⟨⟨_, Below.refl _ _⟩⟩
                refine wp_region_ext (by kernel_rfl) (by kernel_rfl) ?_
                repeat (first | go_big_quiet_step ((first | fail)) | quiet_step ((first | fail)))
                refine wpQuiet_nil ?_
                rintro w1 ⟨⟨_, hb⟩, rfl⟩
                clear hne hk0 hk1 hk2 hk3
                go_wp2
                go_roundw
                case rel => exact ⟨i + 1, by omega, by go_num, xThen HB.out hb⟩
                case measure => simp [intOf]; omega
              · have i1 : (i : Int) < (L.length : Int) := by omega
                have i2 : ¬ (i : Int) < (m : Int) := by omega
                have kv3 := xcell hbw kD3
                have hmm : ((m : Int) == (sn : Int) * sn) = true := by simpa using hss
                have hqq : 0 < (k : Int) := by omega
                clear hbw
                go_wp2
                go_ret
                exact ⟨by simp; omega, xThen BD HB.out⟩
            · have i1 : ¬ (i : Int) < (L.length : Int) := by omega
              have kv3 := xcell hbw kD3
              have hmm : ((m : Int) == (sn : Int) * sn) = true := by simpa using hss
              have hqq : 0 < (k : Int) := by omega
              clear hbw
              go_wp2
              go_ret
              exact ⟨by simp; omega, xThen BD HB.out⟩
    · have hkb : (k != 0) = true := by simpa using hk
      go_wp2
      go_ret
      exact ⟨rfl, BB⟩
end Go.Proofs.Ytmcjabodkjlkgaa
