/-
  The contract of the reference's IsBoard, one case of five.
-/
import Derived.Test.YtmcjabodkjlkgaaBoard
namespace Go.Proofs.Ytmcjabodkjlkgaa
open Go.RowKit

set_option maxHeartbeats 20000000 in
theorem specBoard_5 (p c h s : Int) (v1 v2 : Value) (zs ys : List Int) (w : World) (I1 : IntsAt w v1 zs) (I2 : IntsAt w v2 ys) (hv : varB p c h s = true) (h1 : sideB p c zs = true) (h2 : sideB p c ys = true) (hr : boardB p c h s zs ys = (!emptyB zs ys && !clash zs ys p.toNat p.toNat)) (he : ¬ emptyB zs ys = true) :
    Calls Try.prog 21 #[.agg #[.int .i64 p, .int .i64 c, .int .i64 h, .int .i64 s], .agg #[v1, v2]] w fun e w' => e = .returned (.bool (boardB p c h s zs ys)) ∧ Below w.heap.size w w' := by
  have H1 := hid I1
  have H2 := hid I2
  have HR := hid hr
  have hv' := varB_true hv
  have t1 := sideB_true (by omega) h1
  have t2 := sideB_true (by omega) h2
  have T1 := hid t1
  have T2 := hid t2
  have n1 : sumN zs zs.length ≤ 15 := by omega
  have n2 : sumN ys ys.length ≤ 15 := by omega
  clear hr t1 t2
  have he1 : emptyB zs ys = false := by simpa using he
  have HE := hid he1
  have q1 : ((((sumN zs zs.length : Nat) : Int) + ((sumN ys ys.length : Nat) : Int)) == 0) = false := by
    simp [emptyB] at he1
    simp
    omega
  have EW : IntKind.i64.wrap (((sumN zs zs.length : Nat) : Int) + ((sumN ys ys.length : Nat) : Int)) = ((sumN zs zs.length : Nat) : Int) + ((sumN ys ys.length : Nat) : Int) := by rw [IntKind.wrap_i64]; omega
  clear he he1
  obtain ⟨n, rfl⟩ := Int.eq_ofNat_of_zero_le (a := p) (by omega)
  obtain ⟨a1, c1, rfl, hm1, ha1⟩ := I1
  obtain ⟨b1, o1, rfl, _⟩ := ha1.resolve_left (by rintro rfl; have := T1.out.1; simp at this; omega)
  obtain ⟨a2, c2, rfl, hm2, ha2⟩ := I2
  obtain ⟨b2, o2, rfl, _⟩ := ha2.resolve_left (by rintro rfl; have := T2.out.1; simp at this; omega)
  clear ha1 ha2
  go_enter Try.func21, Try.ntmps21
  go_wp2
  refine wp_named (fun W hW0 => ?_)
  have hW := hid hW0
  clear hW0
  have sW : W.heap.size = w.heap.size + 2 := by rw [← hW.out]; simp
  have bW : Below w.heap.size w W := by rw [← hW.out]; (repeat' (first | exact Below.refl _ _ | (with_reducible assumption) | (with_reducible refine xAlloc ?_ _) | (with_reducible refine Below.drew ?_) | (with_reducible refine xDrewN ?_ _) | (with_reducible refine xThen ?_ (by with_reducible assumption)) | (with_reducible refine Below.setCell ?_ (by first | omega | (simp; omega) | simp) _)))
  have lW0 : w.heap.size < W.heap.size := by omega
  have lW1 : w.heap.size + 1 < W.heap.size := by omega
  have kW0 : W.cell? ⟨w.heap.size, 0, none⟩ = some (.int .i64 n) := by rw [← hW.out]; go_simp
  have kW1 : W.cell? ⟨w.heap.size, 1, none⟩ = some (.int .i64 c) := by rw [← hW.out]; go_simp
  have kW2 : W.cell? ⟨w.heap.size, 2, none⟩ = some (.int .i64 h) := by rw [← hW.out]; go_simp
  have kW3 : W.cell? ⟨w.heap.size, 3, none⟩ = some (.int .i64 s) := by rw [← hW.out]; go_simp
  have kW4 : W.cell? ⟨w.heap.size + 1, 0, none⟩ = some (.slice (some ⟨b1, o1, none⟩) zs.length c1) := by rw [← hW.out]; go_simp
  have kW5 : W.cell? ⟨w.heap.size + 1, 1, none⟩ = some (.slice (some ⟨b2, o2, none⟩) ys.length c2) := by rw [← hW.out]; go_simp
  clear hW sW
  have J1 := H1.out.mono bW
  have J2 := H2.out.mono bW
  have hk0 : ∀ xe : ExtW W, xe.u.cell? ⟨w.heap.size, 0, none⟩ = some (.int .i64 n) := fun xe => xe.cell (by go_simp)
  have hk1 : ∀ xe : ExtW W, xe.u.cell? ⟨w.heap.size, 1, none⟩ = some (.int .i64 c) := fun xe => xe.cell (by go_simp)
  have hk2 : ∀ xe : ExtW W, xe.u.cell? ⟨w.heap.size, 2, none⟩ = some (.int .i64 h) := fun xe => xe.cell (by go_simp)
  have hk3 : ∀ xe : ExtW W, xe.u.cell? ⟨w.heap.size, 3, none⟩ = some (.int .i64 s) := fun xe => xe.cell (by go_simp)
  have hk4 : ∀ xe : ExtW W, xe.u.cell? ⟨w.heap.size + 1, 0, none⟩ = some (.slice (some ⟨b1, o1, none⟩) zs.length c1) := fun xe => xe.cell (by go_simp)
  have hk5 : ∀ xe : ExtW W, xe.u.cell? ⟨w.heap.size + 1, 1, none⟩ = some (.slice (some ⟨b2, o2, none⟩) ys.length c2) := fun xe => xe.cell (by go_simp)
  have hne : Nonempty (ExtW W) := ⟨⟨_, Below.refl _ _⟩⟩
  refine wp_region_ext (by kernel_rfl) (by kernel_rfl) ?_
  repeat (quiet_step ((first | (go_at_call 67; exact ext_call (specIsVariant_any _ _ _ _ _)) | (go_at_call_of 71 b1; exact ext_call (specSide_any _ _ _ _ (.slice (some ⟨b1, o1, none⟩) zs.length c1) zs _ (by omega) (by omega) (by omega) (by omega) (J1.mono (ExtW.b _)))) | (go_at_call_of 71 b2; exact ext_call (specSide_any _ _ _ _ (.slice (some ⟨b2, o2, none⟩) ys.length c2) ys _ (by omega) (by omega) (by omega) (by omega) (J2.mono (ExtW.b _)))) | (go_at_call_of 70 b1; exact ext_call0 (l02Sum_any (.slice (some ⟨b1, o1, none⟩) zs.length c1) zs _ (J1.mono (ExtW.b _)) (fun i => by have := T1.out.2.2 i; omega))) | (go_at_call_of 70 b2; exact ext_call0 (l02Sum_any (.slice (some ⟨b2, o2, none⟩) ys.length c2) ys _ (J2.mono (ExtW.b _)) (fun i => by have := T2.out.2.2 i; omega))))))
  refine wpQuiet_nil ?_
  rintro w1 ⟨⟨_, hb⟩, rfl⟩
  obtain ⟨hc, hf⟩ := bcell hb
  have hsz := hb.size
  (try simp at hsz)
  (try have hy0 : w.heap.size < w1.heap.size := by omega)
  (try have hy1 : w.heap.size + 1 < w1.heap.size := by omega)
  (try have hy2 : w.heap.size + 2 < w1.heap.size := by omega)
  (try have hyS : ws.heap.size < w1.heap.size := by omega)
  (try have hyG : wg.heap.size < w1.heap.size := by omega)
  go_wp2
  have B : Below W.heap.size W w1 := hb
  have kL0 := xcell B kW0
  have kL1 := xcell B kW1
  have kL2 := xcell B kW2
  have kL3 := xcell B kW3
  have kL4 := xcell B kW4
  have kL5 := xcell B kW5
  have B2 : Below w.heap.size w w1 := xThen bW B
  have M1 := (H1.out.mono B2).cells
  have M2 := (H2.out.mono B2).cells
  clear kW0 kW1 kW2 kW3 kW4 kW5
  have hsz9 := hb.size
  clear hc hf
  go_loop [5] (fun i => ∃ k : Nat, k ≤ n ∧ i = .int .i64 k ∧ clash zs ys n k = false) (fun i => n - (intOf i).toNat)
  case atStart => exact ⟨0, by omega, rfl, rfl⟩
  case round =>
    obtain ⟨k, hk, rfl, hcl⟩ := hrel
    have HCL := hid hcl
    clear hcl
    by_cases hlt : k < n
    · have hx := M1 k (by have := T1.out.1; omega)
      have hy := M2 (n - 1 - k) (by have := T2.out.1; omega)
      have E1 : (n : Int) - 1 - (k : Int) = ((n - 1 - k : Nat) : Int) := by omega
      have HN : Hid (clash zs ys n (k + 1) = (clash zs ys n k || (decide (0 < zs.getD k 0) && decide (0 < ys.getD (n - 1 - k) 0)))) := rfl
      have kl : k < zs.length := by have := T1.out.1; omega
      have ml : n - 1 - k < ys.length := by have := T2.out.1; omega
      obtain ⟨x, HX⟩ := named (zs.getD k 0)
      obtain ⟨y, HY⟩ := named (ys.getD (n - 1 - k) 0)
      obtain ⟨m, HM⟩ := named (n - 1 - k)
      rw [← HM.out] at hy E1 ml HY HN
      rw [← HX.out] at hx HN
      rw [← HY.out] at hy HN
      clear M1 M2
      by_cases hx0 : 0 < x
      · by_cases hy0' : 0 < y
        · go_wp2
          go_ret
          have e9 : clash zs ys n n = true := clash_mono (show k + 1 ≤ n by omega) (by rw [HN.out]; simp [hx0, hy0'])
          exact ⟨ret_bool (by rw [HR.out, Int.toNat_natCast, e9]; simp), by (repeat' (first | exact Below.refl _ _ | (with_reducible assumption) | (with_reducible refine xAlloc ?_ _) | (with_reducible refine Below.drew ?_) | (with_reducible refine xDrewN ?_ _) | (with_reducible refine xThen ?_ (by with_reducible assumption)) | (with_reducible refine Below.setCell ?_ (by first | omega | (simp; omega) | simp) _)))⟩
        · go_wp2
          go_round
          case rel => exact ⟨k + 1, by omega, by go_num, by rw [HN.out, HCL.out]; simp [hy0']⟩
          case measure => simp [intOf]; omega
      · go_wp2
        go_round
        case rel => exact ⟨k + 1, by omega, by go_num, by rw [HN.out, HCL.out]; simp [hx0]⟩
        case measure => simp [intOf]; omega
    · obtain rfl : k = n := by omega
      go_wp2
      go_ret
      exact ⟨ret_bool (by rw [HR.out, Int.toNat_natCast, HCL.out, HE.out]; rfl), by (repeat' (first | exact Below.refl _ _ | (with_reducible assumption) | (with_reducible refine xAlloc ?_ _) | (with_reducible refine Below.drew ?_) | (with_reducible refine xDrewN ?_ _) | (with_reducible refine xThen ?_ (by with_reducible assumption)) | (with_reducible refine Below.setCell ?_ (by first | omega | (simp; omega) | simp) _)))⟩
end Go.Proofs.Ytmcjabodkjlkgaa
