/-
  Two boards are the same: the contracts of both functions that compare them, and of slices.Equal; sizes up to 2^20.
-/
import Derived.Test.YtmcjabodkjlkgaaBlk
import Derived.Test.YtmcjabodkjlkgaaTailA
namespace Go.Proofs.Ytmcjabodkjlkgaa
open Go.RowKit

set_option maxHeartbeats 400000 in
theorem slEqual_any (v1 v2 : Value) (xs ys : List Int) (w : World) (h1 : IntsAt w v1 xs) (h2 : IntsAt w v2 ys) :
    Calls Try.prog 139 #[v1, v2] w fun e w' => e = .returned (.bool (decide (xs = ys))) ∧ Below w.heap.size w w' := by
  obtain ⟨a, cap, rfl, hm, hz⟩ := h1
  obtain ⟨a', cap', rfl, hm', hz'⟩ := h2
  by_cases hl : xs.length = ys.length
  · have hb : ((xs.length : Int) != ys.length) = false := by simp [hl]
    have l1 : xs.length ≤ ys.length := by omega
    have l2 : ys.length ≤ xs.length := by omega
    have HL := hid hl
    clear hl
    go_enter Try.func139, Try.ntmps139
    go_wp2
    go_loopw [13, 5] (fun i _ wr => ∃ k n : Nat, k ≤ xs.length ∧ i = .int .i64 k ∧ wr = w.drewN n ∧ PreEq xs ys k) (fun i _ _ => xs.length - (intOf i).toNat)
    case atStart => exact ⟨0, 0, by omega, rfl, rfl, fun j h => by omega⟩
    case round =>
      obtain ⟨k, n, hk, rfl, rfl, hp⟩ := hrel
      have HP := hid hp
      clear hp
      by_cases hlt : k < xs.length
      · obtain ⟨b, off, rfl, hcell⟩ := hz.resolve_left (by rintro rfl; simp at hlt)
        obtain ⟨b', off', rfl, hcell'⟩ := hz'.resolve_left (by rintro rfl; simp at l1; simp [l1] at hlt)
        have hx := hcell k hlt
        have hy := hcell' k (by omega)
        obtain ⟨x, HX⟩ := named (xs.getD k 0)
        obtain ⟨y, HY⟩ := named (ys.getD k 0)
        rw [← HX.out] at hx
        rw [← HY.out] at hy
        have i1 : (k : Int) < (xs.length : Int) := by omega
        have i2 : (k : Int) < (ys.length : Int) := by omega
        clear hcell hz hcell' hz'
        by_cases hxy : x = y
        · have hne : (x != y) = false := by simpa using hxy
          have HE := hid hxy
          clear hxy
          go_wp2
          go_quiet (fail)
          go_wp2
          go_roundw
          case rel => exact ⟨k + 1, n + nq, by omega, by go_num, rfl, fun j hj => by
            by_cases e : j = k
            · rw [e, ← HX.out, ← HY.out, HE.out]
            · exact HP.out j (by omega)⟩
          case measure => simp [intOf]; omega
        · have hne : (x != y) = true := by simpa using hxy
          have HE := hid hxy
          clear hxy
          go_wp2
          go_quiet (fail)
          go_wp2
          go_ret
          exact ⟨ret_bool (by
            symm; simp; intro h; apply HE.out; rw [HX.out, HY.out, h]), by (repeat' (first | (with_reducible exact Below.refl _ _) | (with_reducible assumption) | (with_reducible refine xAlloc ?_ _) | (with_reducible refine Below.drew ?_) | (with_reducible refine xDrewN ?_ _) | (with_reducible refine xThen ?_ (by with_reducible assumption)) | (with_reducible refine Below.setCell ?_ (by first | omega | (simp; omega) | simp) _) | exact Below.refl _ _))⟩
      · go_wp2
        go_ret
        have : k = xs.length := by omega
        subst this
        exact ⟨ret_bool (by symm; simp; exact HP.out.all HL.out), by (repeat' (first | (with_reducible exact Below.refl _ _) | (with_reducible assumption) | (with_reducible refine xAlloc ?_ _) | (with_reducible refine Below.drew ?_) | (with_reducible refine xDrewN ?_ _) | (with_reducible refine xThen ?_ (by with_reducible assumption)) | (with_reducible refine Below.setCell ?_ (by first | omega | (simp; omega) | simp) _) | exact Below.refl _ _))⟩
  · have hb : ((xs.length : Int) != ys.length) = true := by simp; omega
    go_enter Try.func139, Try.ntmps139
    go_wp2
    go_ret
    exact ⟨ret_bool (by symm; simp; intro h; exact hl (by rw [h])), by (repeat' (first | (with_reducible exact Below.refl _ _) | (with_reducible assumption) | (with_reducible refine xAlloc ?_ _) | (with_reducible refine Below.drew ?_) | (with_reducible refine xDrewN ?_ _) | (with_reducible refine xThen ?_ (by with_reducible assumption)) | (with_reducible refine Below.setCell ?_ (by first | omega | (simp; omega) | simp) _) | exact Below.refl _ _))⟩

theorem implSame_any (v1 v2 u1 u2 : Value) (zs ys xs us : List Int) (w : World) (I1 : IntsAt w v1 zs) (I2 : IntsAt w v2 ys) (J1 : IntsAt w u1 xs) (J2 : IntsAt w u2 us) :
    Calls Try.prog 108 #[.agg #[v1, v2], .agg #[u1, u2]] w fun e w' => e = .returned (.bool (decide (zs = xs) && decide (ys = us))) ∧ Below w.heap.size w w' := by
  obtain ⟨a1, c1, rfl, _⟩ := id I1
  obtain ⟨a2, c2, rfl, _⟩ := id I2
  obtain ⟨a3, c3, rfl, _⟩ := id J1
  obtain ⟨a4, c4, rfl, _⟩ := id J2
  by_cases e1 : zs = xs
  · have HE : Hid (decide (zs = xs) = true) := hid (by simpa using e1)
    clear e1
    go_enter Try.func108, Try.ntmps108
    go_wp2_with fail
    refine (slEqual_any _ _ zs xs _ (I1.mono (by (repeat' (first | (with_reducible exact Below.refl _ _) | (with_reducible assumption) | (with_reducible refine xAlloc ?_ _) | (with_reducible refine Below.drew ?_) | (with_reducible refine xDrewN ?_ _) | (with_reducible refine xThen ?_ (by with_reducible assumption)) | (with_reducible refine Below.setCell ?_ (by first | omega | (simp; omega) | simp) _) | exact Below.refl _ _)))) (J1.mono (by (repeat' (first | (with_reducible exact Below.refl _ _) | (with_reducible assumption) | (with_reducible refine xAlloc ?_ _) | (with_reducible refine Below.drew ?_) | (with_reducible refine xDrewN ?_ _) | (with_reducible refine xThen ?_ (by with_reducible assumption)) | (with_reducible refine Below.setCell ?_ (by first | omega | (simp; omega) | simp) _) | exact Below.refl _ _))))).mono ?_
    rw [HE.out]
    rintro e w1 ⟨rfl, hb⟩
    obtain ⟨hc, hf⟩ := bcell hb
    have hsz := hb.size; (try simp at hsz); (try have hy0 : w.heap.size < w1.heap.size := by omega); (try have hy1 : w.heap.size + 1 < w1.heap.size := by omega); (try have hy2 : w.heap.size + 2 < w1.heap.size := by omega); (try have hyS : ws.heap.size < w1.heap.size := by omega); (try have hyG : wg.heap.size < w1.heap.size := by omega)
    go_wp2_with fail
    refine (slEqual_any _ _ ys us _ (I2.mono (by (repeat' (first | (with_reducible exact Below.refl _ _) | (with_reducible assumption) | (with_reducible refine xAlloc ?_ _) | (with_reducible refine Below.drew ?_) | (with_reducible refine xDrewN ?_ _) | (with_reducible refine xThen ?_ (by with_reducible assumption)) | (with_reducible refine Below.setCell ?_ (by first | omega | (simp; omega) | simp) _) | exact Below.refl _ _)))) (J2.mono (by (repeat' (first | (with_reducible exact Below.refl _ _) | (with_reducible assumption) | (with_reducible refine xAlloc ?_ _) | (with_reducible refine Below.drew ?_) | (with_reducible refine xDrewN ?_ _) | (with_reducible refine xThen ?_ (by with_reducible assumption)) | (with_reducible refine Below.setCell ?_ (by first | omega | (simp; omega) | simp) _) | exact Below.refl _ _))))).mono ?_
    rintro e w2 ⟨rfl, hb2⟩
    go_wp2
    go_ret
    exact ⟨ret_bool (by rw [HE.out, Bool.true_and]), by (repeat' (first | (with_reducible exact Below.refl _ _) | (with_reducible assumption) | (with_reducible refine xAlloc ?_ _) | (with_reducible refine Below.drew ?_) | (with_reducible refine xDrewN ?_ _) | (with_reducible refine xThen ?_ (by with_reducible assumption)) | (with_reducible refine Below.setCell ?_ (by first | omega | (simp; omega) | simp) _) | exact Below.refl _ _))⟩
  · have HE : Hid (decide (zs = xs) = false) := hid (by simpa using e1)
    clear e1
    go_enter Try.func108, Try.ntmps108
    go_wp2_with fail
    refine (slEqual_any _ _ zs xs _ (I1.mono (by (repeat' (first | (with_reducible exact Below.refl _ _) | (with_reducible assumption) | (with_reducible refine xAlloc ?_ _) | (with_reducible refine Below.drew ?_) | (with_reducible refine xDrewN ?_ _) | (with_reducible refine xThen ?_ (by with_reducible assumption)) | (with_reducible refine Below.setCell ?_ (by first | omega | (simp; omega) | simp) _) | exact Below.refl _ _)))) (J1.mono (by (repeat' (first | (with_reducible exact Below.refl _ _) | (with_reducible assumption) | (with_reducible refine xAlloc ?_ _) | (with_reducible refine Below.drew ?_) | (with_reducible refine xDrewN ?_ _) | (with_reducible refine xThen ?_ (by with_reducible assumption)) | (with_reducible refine Below.setCell ?_ (by first | omega | (simp; omega) | simp) _) | exact Below.refl _ _))))).mono ?_
    rw [HE.out]
    rintro e w1 ⟨rfl, hb⟩
    go_wp2
    go_ret
    exact ⟨ret_bool (by rw [HE.out, Bool.false_and]), by (repeat' (first | (with_reducible exact Below.refl _ _) | (with_reducible assumption) | (with_reducible refine xAlloc ?_ _) | (with_reducible refine Below.drew ?_) | (with_reducible refine xDrewN ?_ _) | (with_reducible refine xThen ?_ (by with_reducible assumption)) | (with_reducible refine Below.setCell ?_ (by first | omega | (simp; omega) | simp) _) | exact Below.refl _ _))⟩

set_option maxHeartbeats 1000000 in
theorem specSame_any (v1 v2 u1 u2 : Value) (zs ys xs us : List Int) (w : World) (I1 : IntsAt w v1 zs) (I2 : IntsAt w v2 ys) (J1 : IntsAt w u1 xs) (J2 : IntsAt w u2 us) :
    Calls Try.prog 138 #[.agg #[v1, v2], .agg #[u1, u2]] w fun e w' => e = .returned (.bool (decide (zs = xs) && decide (ys = us))) ∧ Below w.heap.size w w' := by
  obtain ⟨a1, c1, rfl, m1, z1⟩ := I1
  obtain ⟨a2, c2, rfl, m2, z2⟩ := I2
  obtain ⟨a3, c3, rfl, m3, z3⟩ := J1
  obtain ⟨a4, c4, rfl, m4, z4⟩ := J2
  by_cases l1 : zs.length = xs.length
  · by_cases l2 : ys.length = us.length
    · have hb1 : ((zs.length : Int) != xs.length) = false := by simp [l1]
      have hb2 : ((ys.length : Int) != us.length) = false := by simp [l2]
      have p1 : zs.length ≤ xs.length := by omega
      have p2 : ys.length ≤ us.length := by omega
      have HL1 := hid l1
      have HL2 := hid l2
      clear l1 l2
      go_enter Try.func138, Try.ntmps138
      go_wp2
      refine wp_named (fun W hW0 => ?_)
      have hW := hid hW0
      clear hW0
      have bW : Below w.heap.size w W := by rw [← hW.out]; (repeat' (first | (with_reducible exact Below.refl _ _) | (with_reducible assumption) | (with_reducible refine xAlloc ?_ _) | (with_reducible refine Below.drew ?_) | (with_reducible refine xDrewN ?_ _) | (with_reducible refine xThen ?_ (by with_reducible assumption)) | (with_reducible refine Below.setCell ?_ (by first | omega | (simp; omega) | simp) _) | exact Below.refl _ _))
      have kW0 : W.cell? ⟨w.heap.size, 0, none⟩ = some (.slice a1 zs.length c1) := by rw [← hW.out]; go_simp
      have kW1 : W.cell? ⟨w.heap.size, 1, none⟩ = some (.slice a2 ys.length c2) := by rw [← hW.out]; go_simp
      have kW2 : W.cell? ⟨w.heap.size + 1, 0, none⟩ = some (.slice a3 xs.length c3) := by rw [← hW.out]; go_simp
      have kW3 : W.cell? ⟨w.heap.size + 1, 1, none⟩ = some (.slice a4 us.length c4) := by rw [← hW.out]; go_simp
      clear hW
      go_loopw [5] (fun i wr => ∃ k n : Nat, k ≤ zs.length ∧ i = .int .i64 k ∧ wr = W.drewN n ∧ PreEq zs xs k) (fun i _ => zs.length - (intOf i).toNat)
      case atStart => exact ⟨0, 0, by omega, rfl, rfl, fun j h => by omega⟩
      case round =>
        obtain ⟨k, n, hk, rfl, rfl, hp⟩ := hrel
        have HP := hid hp
        clear hp
        by_cases hlt : k < zs.length
        · obtain ⟨b, off, rfl, hcell⟩ := z1.resolve_left (by rintro rfl; simp at hlt)
          obtain ⟨b', off', rfl, hcell'⟩ := z3.resolve_left (by rintro rfl; simp at p1; simp [p1] at hlt)
          have hx := xcell bW (hcell k hlt)
          have hy := xcell bW (hcell' k (by omega))
          obtain ⟨x, HX⟩ := named (zs.getD k 0)
          obtain ⟨y, HY⟩ := named (xs.getD k 0)
          rw [← HX.out] at hx
          rw [← HY.out] at hy
          have i1 : (k : Int) < (zs.length : Int) := by omega
          have i2 : (k : Int) < (xs.length : Int) := by omega
          clear hcell z1 hcell' z3
          by_cases hxy : x = y
          · have hne : (x != y) = false := by simpa using hxy
            have HE := hid hxy
            clear hxy
            go_wp2
            go_quiet (fail)
            go_wp2
            go_roundw
            case rel => exact ⟨k + 1, n + nq, by omega, by go_num, rfl, fun j hj => by
              by_cases e : j = k
              · rw [e, ← HX.out, ← HY.out, HE.out]
              · exact HP.out j (by omega)⟩
            case measure => simp [intOf]; omega
          · have hne : (x != y) = true := by simpa using hxy
            have HE := hid hxy
            clear hxy
            go_wp2
            go_quiet (fail)
            go_wp2
            go_ret
            have hn : ¬ zs = xs := fun h => HE.out (by rw [HX.out, HY.out, h])
            exact ⟨ret_bool (by simp [hn]), by (repeat' (first | (with_reducible exact Below.refl _ _) | (with_reducible assumption) | (with_reducible refine xAlloc ?_ _) | (with_reducible refine Below.drew ?_) | (with_reducible refine xDrewN ?_ _) | (with_reducible refine xThen ?_ (by with_reducible assumption)) | (with_reducible refine Below.setCell ?_ (by first | omega | (simp; omega) | simp) _) | exact Below.refl _ _))⟩
        · have hkk : k = zs.length := by omega
          have HEQ : Hid (zs = xs) := hid (by subst hkk; exact HP.out.all HL1.out)
          clear hkk z1 z3 HP
          go_wp2
          go_loopw [6] (fun i wr => ∃ k2 n2 : Nat, k2 ≤ ys.length ∧ i = .int .i64 k2 ∧ wr = W.drewN n2 ∧ PreEq ys us k2) (fun i _ => ys.length - (intOf i).toNat)
          case atStart => exact ⟨0, n, by omega, rfl, rfl, fun j h => by omega⟩
          case round =>
            obtain ⟨k2, n2, hk2, rfl, rfl, hp2⟩ := hrel
            have HP2 := hid hp2
            clear hp2
            by_cases hlt2 : k2 < ys.length
            · obtain ⟨b, off, rfl, hcell⟩ := z2.resolve_left (by rintro rfl; simp at hlt2)
              obtain ⟨b', off', rfl, hcell'⟩ := z4.resolve_left (by rintro rfl; simp at p2; simp [p2] at hlt2)
              have hx := xcell bW (hcell k2 hlt2)
              have hy := xcell bW (hcell' k2 (by omega))
              obtain ⟨x, HX⟩ := named (ys.getD k2 0)
              obtain ⟨y, HY⟩ := named (us.getD k2 0)
              rw [← HX.out] at hx
              rw [← HY.out] at hy
              have i1 : (k2 : Int) < (ys.length : Int) := by omega
              have i2 : (k2 : Int) < (us.length : Int) := by omega
              clear hcell z2 hcell' z4
              by_cases hxy : x = y
              · have hne : (x != y) = false := by simpa using hxy
                have HE := hid hxy
                clear hxy
                go_wp2
                go_quiet (fail)
                go_wp2
                go_roundw
                case rel => exact ⟨k2 + 1, n2 + nq, by omega, by go_num, rfl, fun j hj => by
                  by_cases e : j = k2
                  · rw [e, ← HX.out, ← HY.out, HE.out]
                  · exact HP2.out j (by omega)⟩
                case measure => simp [intOf]; omega
              · have hne : (x != y) = true := by simpa using hxy
                have HE := hid hxy
                clear hxy
                go_wp2
                go_quiet (fail)
                go_wp2
                go_ret
                have hn : ¬ ys = us := fun h => HE.out (by rw [HX.out, HY.out, h])
                exact ⟨ret_bool (by simp [hn]), by (repeat' (first | (with_reducible exact Below.refl _ _) | (with_reducible assumption) | (with_reducible refine xAlloc ?_ _) | (with_reducible refine Below.drew ?_) | (with_reducible refine xDrewN ?_ _) | (with_reducible refine xThen ?_ (by with_reducible assumption)) | (with_reducible refine Below.setCell ?_ (by first | omega | (simp; omega) | simp) _) | exact Below.refl _ _))⟩
            · go_wp2
              go_ret
              have hkk : k2 = ys.length := by omega
              subst hkk
              have h2 := HP2.out.all HL2.out
              exact ⟨ret_bool (by simp [HEQ.out, h2]), by (repeat' (first | (with_reducible exact Below.refl _ _) | (with_reducible assumption) | (with_reducible refine xAlloc ?_ _) | (with_reducible refine Below.drew ?_) | (with_reducible refine xDrewN ?_ _) | (with_reducible refine xThen ?_ (by with_reducible assumption)) | (with_reducible refine Below.setCell ?_ (by first | omega | (simp; omega) | simp) _) | exact Below.refl _ _))⟩
    · have hb1 : ((zs.length : Int) != xs.length) = false := by simp [l1]
      have hb2 : ((ys.length : Int) != us.length) = true := by simp; omega
      have HL2 := hid l2
      clear l1 l2
      go_enter Try.func138, Try.ntmps138
      go_wp2
      go_ret
      have hn : ¬ ys = us := fun h => HL2.out (by rw [h])
      exact ⟨ret_bool (by simp [hn]), by (repeat' (first | (with_reducible exact Below.refl _ _) | (with_reducible assumption) | (with_reducible refine xAlloc ?_ _) | (with_reducible refine Below.drew ?_) | (with_reducible refine xDrewN ?_ _) | (with_reducible refine xThen ?_ (by with_reducible assumption)) | (with_reducible refine Below.setCell ?_ (by first | omega | (simp; omega) | simp) _) | exact Below.refl _ _))⟩
  · have hb1 : ((zs.length : Int) != xs.length) = true := by simp; omega
    have HL1 := hid l1
    clear l1
    go_enter Try.func138, Try.ntmps138
    go_wp2
    go_ret
    have hn : ¬ zs = xs := fun h => HL1.out (by rw [h])
    exact ⟨ret_bool (by simp [hn]), by (repeat' (first | (with_reducible exact Below.refl _ _) | (with_reducible assumption) | (with_reducible refine xAlloc ?_ _) | (with_reducible refine Below.drew ?_) | (with_reducible refine xDrewN ?_ _) | (with_reducible refine xThen ?_ (by with_reducible assumption)) | (with_reducible refine Below.setCell ?_ (by first | omega | (simp; omega) | simp) _) | exact Below.refl _ _))⟩
end Go.Proofs.Ytmcjabodkjlkgaa
