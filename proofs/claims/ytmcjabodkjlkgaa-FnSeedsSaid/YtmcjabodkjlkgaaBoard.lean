/-
  Contracts of both IsBoard functions, for every variant and two lists of at most 2^20 elements.
-/
import Derived.Test.YtmcjabodkjlkgaaSide
namespace Go.Proofs.Ytmcjabodkjlkgaa
open Go.RowKit

theorem boardB_cases (p c h s : Int) (zs ys : List Int) :
    (varB p c h s = false ∧ boardB p c h s zs ys = false) ∨ (varB p c h s = true ∧ sideB p c zs = false ∧ boardB p c h s zs ys = false) ∨
    (varB p c h s = true ∧ sideB p c zs = true ∧ sideB p c ys = false ∧ boardB p c h s zs ys = false) ∨
    (varB p c h s = true ∧ sideB p c zs = true ∧ sideB p c ys = true ∧ boardB p c h s zs ys = (!emptyB zs ys && !clash zs ys p.toNat p.toNat)) := by
  unfold boardB
  cases varB p c h s <;> cases sideB p c zs <;> cases sideB p c ys <;> simp

set_option maxHeartbeats 1000000 in
theorem implBoard_any (p c h s : Int) (v1 v2 : Value) (zs ys : List Int) (w : World) (I1 : IntsAt w v1 zs) (I2 : IntsAt w v2 ys) :
    Calls Try.prog 61 #[.agg #[.int .i64 p, .int .i64 c, .int .i64 h, .int .i64 s], .agg #[v1, v2]] w fun e w' => e = .returned (.bool (boardB p c h s zs ys)) ∧ Below w.heap.size w w' := by
  have H1 := hid I1
  have H2 := hid I2
  rcases boardB_cases p c h s zs ys with ⟨hv, hr⟩ | ⟨hv, h1, hr⟩ | ⟨hv, h1, h2, hr⟩ | ⟨hv, h1, h2, hr⟩
  · have HR := hid hr
    clear hr
    go_enter Try.func61, Try.ntmps61
    go_wp2_with (go_at_call 74; refine (isVariant_any _ _ _ _ _).mono ?_; rintro e w1 ⟨rfl, hb⟩; obtain ⟨hc, hf⟩ := bcell hb; have hsz := hb.size; (try simp at hsz); (try have hy0 : w.heap.size < w1.heap.size := by omega); (try have hy1 : w.heap.size + 1 < w1.heap.size := by omega); (try have hy2 : w.heap.size + 2 < w1.heap.size := by omega); (try have hyS : ws.heap.size < w1.heap.size := by omega); (try have hyG : wg.heap.size < w1.heap.size := by omega))
    go_ret
    exact ⟨by rw [HR.out]; rfl, by (repeat' (first | exact Below.refl _ _ | (with_reducible assumption) | (with_reducible refine xAlloc ?_ _) | (with_reducible refine Below.drew ?_) | (with_reducible refine xDrewN ?_ _) | (with_reducible refine xThen ?_ (by with_reducible assumption)) | (with_reducible refine Below.setCell ?_ (by first | omega | (simp; omega) | simp) _)))⟩
  · have HR := hid hr
    have hb := varB_true hv
    clear hr
    go_enter Try.func61, Try.ntmps61
    go_wp2_with (first | (go_at_call 74; refine (isVariant_any _ _ _ _ _).mono ?_; rintro e w1 ⟨rfl, hb⟩; obtain ⟨hc, hf⟩ := bcell hb; have hsz := hb.size; (try simp at hsz); (try have hy0 : w.heap.size < w1.heap.size := by omega); (try have hy1 : w.heap.size + 1 < w1.heap.size := by omega); (try have hy2 : w.heap.size + 2 < w1.heap.size := by omega); (try have hyS : ws.heap.size < w1.heap.size := by omega); (try have hyG : wg.heap.size < w1.heap.size := by omega)) | (go_at_call 112; refine (implSide_any _ _ _ _ _ zs _ (by omega) (by omega) (by omega) (by omega) (by (repeat (first | (with_reducible exact IntsAt.made _ _ (by omega) _) | (with_reducible assumption) | (with_reducible refine IntsAt.alloc ?_ _) | (with_reducible refine IntsAt.drew ?_) | (with_reducible refine IntsAt.drewN ?_ _) | (with_reducible refine IntsAt.mono ?_ (by with_reducible assumption)))))).mono ?_; rintro e w1 ⟨rfl, hb⟩; obtain ⟨hc, hf⟩ := bcell hb; have hsz := hb.size; (try simp at hsz); (try have hy0 : w.heap.size < w1.heap.size := by omega); (try have hy1 : w.heap.size + 1 < w1.heap.size := by omega); (try have hy2 : w.heap.size + 2 < w1.heap.size := by omega); (try have hyS : ws.heap.size < w1.heap.size := by omega); (try have hyG : wg.heap.size < w1.heap.size := by omega)))
    go_ret
    exact ⟨by rw [HR.out]; rfl, by (repeat' (first | exact Below.refl _ _ | (with_reducible assumption) | (with_reducible refine xAlloc ?_ _) | (with_reducible refine Below.drew ?_) | (with_reducible refine xDrewN ?_ _) | (with_reducible refine xThen ?_ (by with_reducible assumption)) | (with_reducible refine Below.setCell ?_ (by first | omega | (simp; omega) | simp) _)))⟩
  · have HR := hid hr
    have hb := varB_true hv
    clear hr
    go_enter Try.func61, Try.ntmps61
    go_wp2_with (first | (go_at_call 74; refine (isVariant_any _ _ _ _ _).mono ?_; rintro e w1 ⟨rfl, hb⟩; obtain ⟨hc, hf⟩ := bcell hb; have hsz := hb.size; (try simp at hsz); (try have hy0 : w.heap.size < w1.heap.size := by omega); (try have hy1 : w.heap.size + 1 < w1.heap.size := by omega); (try have hy2 : w.heap.size + 2 < w1.heap.size := by omega); (try have hyS : ws.heap.size < w1.heap.size := by omega); (try have hyG : wg.heap.size < w1.heap.size := by omega)) | (go_at_call 112; (with_reducible refine (implSide_any _ _ _ _ v1 zs _ (by omega) (by omega) (by omega) (by omega) (by (repeat (first | (with_reducible exact IntsAt.made _ _ (by omega) _) | (with_reducible assumption) | (with_reducible refine IntsAt.alloc ?_ _) | (with_reducible refine IntsAt.drew ?_) | (with_reducible refine IntsAt.drewN ?_ _) | (with_reducible refine IntsAt.mono ?_ (by with_reducible assumption)))))).mono ?_); rintro e w1 ⟨rfl, hb⟩; obtain ⟨hc, hf⟩ := bcell hb; have hsz := hb.size; (try simp at hsz); (try have hy0 : w.heap.size < w1.heap.size := by omega); (try have hy1 : w.heap.size + 1 < w1.heap.size := by omega); (try have hy2 : w.heap.size + 2 < w1.heap.size := by omega); (try have hyS : ws.heap.size < w1.heap.size := by omega); (try have hyG : wg.heap.size < w1.heap.size := by omega)) | (go_at_call 112; (with_reducible refine (implSide_any _ _ _ _ v2 ys _ (by omega) (by omega) (by omega) (by omega) (by (repeat (first | (with_reducible exact IntsAt.made _ _ (by omega) _) | (with_reducible assumption) | (with_reducible refine IntsAt.alloc ?_ _) | (with_reducible refine IntsAt.drew ?_) | (with_reducible refine IntsAt.drewN ?_ _) | (with_reducible refine IntsAt.mono ?_ (by with_reducible assumption)))))).mono ?_); rintro e w1 ⟨rfl, hb⟩; obtain ⟨hc, hf⟩ := bcell hb; have hsz := hb.size; (try simp at hsz); (try have hy0 : w.heap.size < w1.heap.size := by omega); (try have hy1 : w.heap.size + 1 < w1.heap.size := by omega); (try have hy2 : w.heap.size + 2 < w1.heap.size := by omega); (try have hyS : ws.heap.size < w1.heap.size := by omega); (try have hyG : wg.heap.size < w1.heap.size := by omega)))
    go_ret
    exact ⟨by rw [HR.out]; rfl, by (repeat' (first | exact Below.refl _ _ | (with_reducible assumption) | (with_reducible refine xAlloc ?_ _) | (with_reducible refine Below.drew ?_) | (with_reducible refine xDrewN ?_ _) | (with_reducible refine xThen ?_ (by with_reducible assumption)) | (with_reducible refine Below.setCell ?_ (by first | omega | (simp; omega) | simp) _)))⟩
  · have HR := hid hr
    have hb := varB_true hv
    have t1 := sideB_true (by omega) h1
    have t2 := sideB_true (by omega) h2
    have T1 := hid t1
    have T2 := hid t2
    have n1 : sumN zs zs.length ≤ 15 := by omega
    have n2 : sumN ys ys.length ≤ 15 := by omega
    clear hr t1 t2
    by_cases he : emptyB zs ys = true
    · have he' := he
      simp [emptyB] at he'
      obtain ⟨e1, e2⟩ := he'
      go_enter Try.func61, Try.ntmps61
      go_wp2_with (first | (go_at_call 74; refine (isVariant_any _ _ _ _ _).mono ?_; rintro e w1 ⟨rfl, hb⟩; obtain ⟨hc, hf⟩ := bcell hb; have hsz := hb.size; (try simp at hsz); (try have hy0 : w.heap.size < w1.heap.size := by omega); (try have hy1 : w.heap.size + 1 < w1.heap.size := by omega); (try have hy2 : w.heap.size + 2 < w1.heap.size := by omega); (try have hyS : ws.heap.size < w1.heap.size := by omega); (try have hyG : wg.heap.size < w1.heap.size := by omega)) | (go_at_call 112; (with_reducible refine (implSide_any _ _ _ _ v1 zs _ (by omega) (by omega) (by omega) (by omega) (by (repeat (first | (with_reducible exact IntsAt.made _ _ (by omega) _) | (with_reducible assumption) | (with_reducible refine IntsAt.alloc ?_ _) | (with_reducible refine IntsAt.drew ?_) | (with_reducible refine IntsAt.drewN ?_ _) | (with_reducible refine IntsAt.mono ?_ (by with_reducible assumption)))))).mono ?_); rintro e w1 ⟨rfl, hb⟩; obtain ⟨hc, hf⟩ := bcell hb; have hsz := hb.size; (try simp at hsz); (try have hy0 : w.heap.size < w1.heap.size := by omega); (try have hy1 : w.heap.size + 1 < w1.heap.size := by omega); (try have hy2 : w.heap.size + 2 < w1.heap.size := by omega); (try have hyS : ws.heap.size < w1.heap.size := by omega); (try have hyG : wg.heap.size < w1.heap.size := by omega)) | (go_at_call 112; (with_reducible refine (implSide_any _ _ _ _ v2 ys _ (by omega) (by omega) (by omega) (by omega) (by (repeat (first | (with_reducible exact IntsAt.made _ _ (by omega) _) | (with_reducible assumption) | (with_reducible refine IntsAt.alloc ?_ _) | (with_reducible refine IntsAt.drew ?_) | (with_reducible refine IntsAt.drewN ?_ _) | (with_reducible refine IntsAt.mono ?_ (by with_reducible assumption)))))).mono ?_); rintro e w1 ⟨rfl, hb⟩; obtain ⟨hc, hf⟩ := bcell hb; have hsz := hb.size; (try simp at hsz); (try have hy0 : w.heap.size < w1.heap.size := by omega); (try have hy1 : w.heap.size + 1 < w1.heap.size := by omega); (try have hy2 : w.heap.size + 2 < w1.heap.size := by omega); (try have hyS : ws.heap.size < w1.heap.size := by omega); (try have hyG : wg.heap.size < w1.heap.size := by omega)) | (go_at_call 109; (with_reducible refine (totalS_any v1 zs _ (by (repeat (first | (with_reducible exact IntsAt.made _ _ (by omega) _) | (with_reducible assumption) | (with_reducible refine IntsAt.alloc ?_ _) | (with_reducible refine IntsAt.drew ?_) | (with_reducible refine IntsAt.drewN ?_ _) | (with_reducible refine IntsAt.mono ?_ (by with_reducible assumption))))) (fun i => by have := T1.out.2.2 i; omega)).mono ?_); rintro e w' ⟨rfl, rfl⟩) | (go_at_call 109; (with_reducible refine (totalS_any v2 ys _ (by (repeat (first | (with_reducible exact IntsAt.made _ _ (by omega) _) | (with_reducible assumption) | (with_reducible refine IntsAt.alloc ?_ _) | (with_reducible refine IntsAt.drew ?_) | (with_reducible refine IntsAt.drewN ?_ _) | (with_reducible refine IntsAt.mono ?_ (by with_reducible assumption))))) (fun i => by have := T2.out.2.2 i; omega)).mono ?_); rintro e w' ⟨rfl, rfl⟩))
      go_ret
      exact ⟨by rw [HR.out, he]; rfl, by (repeat' (first | exact Below.refl _ _ | (with_reducible assumption) | (with_reducible refine xAlloc ?_ _) | (with_reducible refine Below.drew ?_) | (with_reducible refine xDrewN ?_ _) | (with_reducible refine xThen ?_ (by with_reducible assumption)) | (with_reducible refine Below.setCell ?_ (by first | omega | (simp; omega) | simp) _)))⟩
    · have he1 : emptyB zs ys = false := by simpa using he
      have HE := hid he1
      clear he he1
      obtain ⟨n, rfl⟩ := Int.eq_ofNat_of_zero_le (a := p) (by omega)
      obtain ⟨a1, c1, rfl, hm1, ha1⟩ := I1
      obtain ⟨b1, o1, rfl, _⟩ := ha1.resolve_left (by rintro rfl; have := T1.out.1; simp at this; omega)
      obtain ⟨a2, c2, rfl, hm2, ha2⟩ := I2
      obtain ⟨b2, o2, rfl, _⟩ := ha2.resolve_left (by rintro rfl; have := T2.out.1; simp at this; omega)
      clear ha1 ha2
      by_cases e1 : sumN zs zs.length = 0
      · have e2 : ¬ sumN ys ys.length = 0 := by have := HE.out; simp [emptyB, e1] at this; exact this
        have q2 : (((sumN ys ys.length : Nat) : Int) == 0) = false := by simp [e2]
        go_enter Try.func61, Try.ntmps61
        go_wp2_with fail
        refine calls_named (fun W hW0 => ?_)
        have hW := hid hW0
        clear hW0
        have sW : W.heap.size = w.heap.size + 2 := by rw [← hW.out]; simp
        have bW : Below w.heap.size w W := by rw [← hW.out]; (repeat' (first | exact Below.refl _ _ | (with_reducible assumption) | (with_reducible refine xAlloc ?_ _) | (with_reducible refine Below.drew ?_) | (with_reducible refine xDrewN ?_ _) | (with_reducible refine xThen ?_ (by with_reducible assumption)) | (with_reducible refine Below.setCell ?_ (by first | omega | (simp; omega) | simp) _)))
        have lW0 : w.heap.size < W.heap.size := by omega
        have lW1 : w.heap.size + 1 < W.heap.size := by omega
        have kW0 : W.cell? ⟨w.heap.size, 0, none⟩ = some (.int .i64 n) := by rw [← hW.out]; go_simp
        have kW1 : W.cell? ⟨w.heap.size, 1, none⟩ = some (.int .i64 c) := by rw [← hW.out]; go_simp
        have kW2 : W.cell? ⟨w.heap.size, 2, none⟩ = some (.int .i64 h) := by rw [← hW.out]; go_simp
        have kW3 : W.cell? ⟨w.heap.size, 3, none⟩ = some (.int .i64 s) := by rw [← hW.out]; go_simp
        have kW4 : W.cell? ⟨w.heap.size + 1, 0, none⟩ = some (.slice (some ⟨b1,o1,none⟩) zs.length c1) := by rw [← hW.out]; go_simp
        have kW5 : W.cell? ⟨w.heap.size + 1, 1, none⟩ = some (.slice (some ⟨b2,o2,none⟩) ys.length c2) := by rw [← hW.out]; go_simp
        clear hW sW
        have J1 := H1.out.mono bW
        have J2 := H2.out.mono bW
        go_wp2_with (first | (go_at_call 74; (with_reducible refine (isVariant_any _ _ _ _ _).mono ?_); rintro e w1 ⟨rfl, hb⟩; obtain ⟨hc, hf⟩ := bcell hb; have hsz := hb.size; (try simp at hsz); (try have hy0 : w.heap.size < w1.heap.size := by omega); (try have hy1 : w.heap.size + 1 < w1.heap.size := by omega); (try have hy2 : w.heap.size + 2 < w1.heap.size := by omega); (try have hyS : ws.heap.size < w1.heap.size := by omega); (try have hyG : wg.heap.size < w1.heap.size := by omega)) | (go_at_call 112; (with_reducible refine (implSide_any _ _ _ _ (.slice (some ⟨b1, o1, none⟩) zs.length c1) zs _ (by omega) (by omega) (by omega) (by omega) (by (repeat (first | (with_reducible exact IntsAt.made _ _ (by omega) _) | (with_reducible assumption) | (with_reducible refine IntsAt.alloc ?_ _) | (with_reducible refine IntsAt.drew ?_) | (with_reducible refine IntsAt.drewN ?_ _) | (with_reducible refine IntsAt.mono ?_ (by with_reducible assumption)))))).mono ?_); rintro e w1 ⟨rfl, hb⟩; obtain ⟨hc, hf⟩ := bcell hb; have hsz := hb.size; (try simp at hsz); (try have hy0 : w.heap.size < w1.heap.size := by omega); (try have hy1 : w.heap.size + 1 < w1.heap.size := by omega); (try have hy2 : w.heap.size + 2 < w1.heap.size := by omega); (try have hyS : ws.heap.size < w1.heap.size := by omega); (try have hyG : wg.heap.size < w1.heap.size := by omega)) | (go_at_call 112; (with_reducible refine (implSide_any _ _ _ _ (.slice (some ⟨b2, o2, none⟩) ys.length c2) ys _ (by omega) (by omega) (by omega) (by omega) (by (repeat (first | (with_reducible exact IntsAt.made _ _ (by omega) _) | (with_reducible assumption) | (with_reducible refine IntsAt.alloc ?_ _) | (with_reducible refine IntsAt.drew ?_) | (with_reducible refine IntsAt.drewN ?_ _) | (with_reducible refine IntsAt.mono ?_ (by with_reducible assumption)))))).mono ?_); rintro e w1 ⟨rfl, hb⟩; obtain ⟨hc, hf⟩ := bcell hb; have hsz := hb.size; (try simp at hsz); (try have hy0 : w.heap.size < w1.heap.size := by omega); (try have hy1 : w.heap.size + 1 < w1.heap.size := by omega); (try have hy2 : w.heap.size + 2 < w1.heap.size := by omega); (try have hyS : ws.heap.size < w1.heap.size := by omega); (try have hyG : wg.heap.size < w1.heap.size := by omega)) | (go_at_call 109; (with_reducible refine (totalS_any (.slice (some ⟨b1, o1, none⟩) zs.length c1) zs _ (by (repeat (first | (with_reducible exact IntsAt.made _ _ (by omega) _) | (with_reducible assumption) | (with_reducible refine IntsAt.alloc ?_ _) | (with_reducible refine IntsAt.drew ?_) | (with_reducible refine IntsAt.drewN ?_ _) | (with_reducible refine IntsAt.mono ?_ (by with_reducible assumption))))) (fun i => by have := T1.out.2.2 i; omega)).mono ?_); rintro e w' ⟨rfl, rfl⟩) | (go_at_call 109; (with_reducible refine (totalS_any (.slice (some ⟨b2, o2, none⟩) ys.length c2) ys _ (by (repeat (first | (with_reducible exact IntsAt.made _ _ (by omega) _) | (with_reducible assumption) | (with_reducible refine IntsAt.alloc ?_ _) | (with_reducible refine IntsAt.drew ?_) | (with_reducible refine IntsAt.drewN ?_ _) | (with_reducible refine IntsAt.mono ?_ (by with_reducible assumption))))) (fun i => by have := T2.out.2.2 i; omega)).mono ?_); rintro e w' ⟨rfl, rfl⟩))
        have B : Below W.heap.size W w1 := by (repeat' (first | exact Below.refl _ _ | (with_reducible assumption) | (with_reducible refine xAlloc ?_ _) | (with_reducible refine Below.drew ?_) | (with_reducible refine xDrewN ?_ _) | (with_reducible refine xThen ?_ (by with_reducible assumption)) | (with_reducible refine Below.setCell ?_ (by first | omega | (simp; omega) | simp) _)))
        have kL0 := xcell B kW0
        have kL1 := xcell B kW1
        have kL2 := xcell B kW2
        have kL3 := xcell B kW3
        have kL4 := xcell B kW4
        have kL5 := xcell B kW5
        have B2 : Below w.heap.size w w1 := xThen bW B
        have M1 := (H1.out.mono B2).cells
        have M2 := (H2.out.mono B2).cells
        clear kW0 kW1 kW2 kW3 kW4 kW5
        have hsz9 := hb.size
        clear hc hf
        go_loop [37, 5] (fun i _ => ∃ k : Nat, k ≤ n ∧ i = .int .i64 k ∧ clash zs ys n k = false) (fun i _ => n - (intOf i).toNat)
        case atStart => exact ⟨0, by omega, rfl, rfl⟩
        case round =>
          obtain ⟨k, hk, rfl, hcl⟩ := hrel
          have HCL := hid hcl
          clear hcl
          by_cases hlt : k < n
          · have hx := M1 k (by have := T1.out.1; omega)
            have hy := M2 (n - 1 - k) (by have := T2.out.1; omega)
            have E1 : (n : Int) - 1 - (k : Int) = ((n - 1 - k : Nat) : Int) := by omega
            have HN : Hid (clash zs ys n (k + 1) = (clash zs ys n k || (decide (0 < zs.getD k 0) && decide (0 < ys.getD (n - 1 - k) 0)))) := rfl
            have kl : k < zs.length := by have := T1.out.1; omega
            have ml : n - 1 - k < ys.length := by have := T2.out.1; omega
            obtain ⟨x, HX⟩ := named (zs.getD k 0)
            obtain ⟨y, HY⟩ := named (ys.getD (n - 1 - k) 0)
            obtain ⟨m, HM⟩ := named (n - 1 - k)
            rw [← HM.out] at hy E1 ml HY HN
            rw [← HX.out] at hx HN
            rw [← HY.out] at hy HN
            clear M1 M2
            by_cases hx0 : 0 < x
            · by_cases hy0' : 0 < y
              · go_wp2
                go_ret
                have e9 : clash zs ys n n = true := clash_mono (show k + 1 ≤ n by omega) (by rw [HN.out]; simp [hx0, hy0'])
                exact ⟨ret_bool (by rw [HR.out, Int.toNat_natCast, e9]; simp), by (repeat' (first | exact Below.refl _ _ | (with_reducible assumption) | (with_reducible refine xAlloc ?_ _) | (with_reducible refine Below.drew ?_) | (with_reducible refine xDrewN ?_ _) | (with_reducible refine xThen ?_ (by with_reducible assumption)) | (with_reducible refine Below.setCell ?_ (by first | omega | (simp; omega) | simp) _)))⟩
              · go_wp2
                go_round
                case rel => exact ⟨k + 1, by omega, by go_num, by rw [HN.out, HCL.out]; simp [hy0']⟩
                case measure => simp [intOf]; omega
            · go_wp2
              go_round
              case rel => exact ⟨k + 1, by omega, by go_num, by rw [HN.out, HCL.out]; simp [hx0]⟩
              case measure => simp [intOf]; omega
          · obtain rfl : k = n := by omega
            go_wp2
            go_ret
            exact ⟨ret_bool (by rw [HR.out, Int.toNat_natCast, HCL.out, HE.out]; rfl), by (repeat' (first | exact Below.refl _ _ | (with_reducible assumption) | (with_reducible refine xAlloc ?_ _) | (with_reducible refine Below.drew ?_) | (with_reducible refine xDrewN ?_ _) | (with_reducible refine xThen ?_ (by with_reducible assumption)) | (with_reducible refine Below.setCell ?_ (by first | omega | (simp; omega) | simp) _)))⟩
      · have q1 : (((sumN zs zs.length : Nat) : Int) == 0) = false := by simp [e1]
        go_enter Try.func61, Try.ntmps61
        go_wp2_with fail
        refine calls_named (fun W hW0 => ?_)
        have hW := hid hW0
        clear hW0
        have sW : W.heap.size = w.heap.size + 2 := by rw [← hW.out]; simp
        have bW : Below w.heap.size w W := by rw [← hW.out]; (repeat' (first | exact Below.refl _ _ | (with_reducible assumption) | (with_reducible refine xAlloc ?_ _) | (with_reducible refine Below.drew ?_) | (with_reducible refine xDrewN ?_ _) | (with_reducible refine xThen ?_ (by with_reducible assumption)) | (with_reducible refine Below.setCell ?_ (by first | omega | (simp; omega) | simp) _)))
        have lW0 : w.heap.size < W.heap.size := by omega
        have lW1 : w.heap.size + 1 < W.heap.size := by omega
        have kW0 : W.cell? ⟨w.heap.size, 0, none⟩ = some (.int .i64 n) := by rw [← hW.out]; go_simp
        have kW1 : W.cell? ⟨w.heap.size, 1, none⟩ = some (.int .i64 c) := by rw [← hW.out]; go_simp
        have kW2 : W.cell? ⟨w.heap.size, 2, none⟩ = some (.int .i64 h) := by rw [← hW.out]; go_simp
        have kW3 : W.cell? ⟨w.heap.size, 3, none⟩ = some (.int .i64 s) := by rw [← hW.out]; go_simp
        have kW4 : W.cell? ⟨w.heap.size + 1, 0, none⟩ = some (.slice (some ⟨b1,o1,none⟩) zs.length c1) := by rw [← hW.out]; go_simp
        have kW5 : W.cell? ⟨w.heap.size + 1, 1, none⟩ = some (.slice (some ⟨b2,o2,none⟩) ys.length c2) := by rw [← hW.out]; go_simp
        clear hW sW
        have J1 := H1.out.mono bW
        have J2 := H2.out.mono bW
        go_wp2_with (first | (go_at_call 74; (with_reducible refine (isVariant_any _ _ _ _ _).mono ?_); rintro e w1 ⟨rfl, hb⟩; obtain ⟨hc, hf⟩ := bcell hb; have hsz := hb.size; (try simp at hsz); (try have hy0 : w.heap.size < w1.heap.size := by omega); (try have hy1 : w.heap.size + 1 < w1.heap.size := by omega); (try have hy2 : w.heap.size + 2 < w1.heap.size := by omega); (try have hyS : ws.heap.size < w1.heap.size := by omega); (try have hyG : wg.heap.size < w1.heap.size := by omega)) | (go_at_call 112; (with_reducible refine (implSide_any _ _ _ _ (.slice (some ⟨b1, o1, none⟩) zs.length c1) zs _ (by omega) (by omega) (by omega) (by omega) (by (repeat (first | (with_reducible exact IntsAt.made _ _ (by omega) _) | (with_reducible assumption) | (with_reducible refine IntsAt.alloc ?_ _) | (with_reducible refine IntsAt.drew ?_) | (with_reducible refine IntsAt.drewN ?_ _) | (with_reducible refine IntsAt.mono ?_ (by with_reducible assumption)))))).mono ?_); rintro e w1 ⟨rfl, hb⟩; obtain ⟨hc, hf⟩ := bcell hb; have hsz := hb.size; (try simp at hsz); (try have hy0 : w.heap.size < w1.heap.size := by omega); (try have hy1 : w.heap.size + 1 < w1.heap.size := by omega); (try have hy2 : w.heap.size + 2 < w1.heap.size := by omega); (try have hyS : ws.heap.size < w1.heap.size := by omega); (try have hyG : wg.heap.size < w1.heap.size := by omega)) | (go_at_call 112; (with_reducible refine (implSide_any _ _ _ _ (.slice (some ⟨b2, o2, none⟩) ys.length c2) ys _ (by omega) (by omega) (by omega) (by omega) (by (repeat (first | (with_reducible exact IntsAt.made _ _ (by omega) _) | (with_reducible assumption) | (with_reducible refine IntsAt.alloc ?_ _) | (with_reducible refine IntsAt.drew ?_) | (with_reducible refine IntsAt.drewN ?_ _) | (with_reducible refine IntsAt.mono ?_ (by with_reducible assumption)))))).mono ?_); rintro e w1 ⟨rfl, hb⟩; obtain ⟨hc, hf⟩ := bcell hb; have hsz := hb.size; (try simp at hsz); (try have hy0 : w.heap.size < w1.heap.size := by omega); (try have hy1 : w.heap.size + 1 < w1.heap.size := by omega); (try have hy2 : w.heap.size + 2 < w1.heap.size := by omega); (try have hyS : ws.heap.size < w1.heap.size := by omega); (try have hyG : wg.heap.size < w1.heap.size := by omega)) | (go_at_call 109; (with_reducible refine (totalS_any (.slice (some ⟨b1, o1, none⟩) zs.length c1) zs _ (by (repeat (first | (with_reducible exact IntsAt.made _ _ (by omega) _) | (with_reducible assumption) | (with_reducible refine IntsAt.alloc ?_ _) | (with_reducible refine IntsAt.drew ?_) | (with_reducible refine IntsAt.drewN ?_ _) | (with_reducible refine IntsAt.mono ?_ (by with_reducible assumption))))) (fun i => by have := T1.out.2.2 i; omega)).mono ?_); rintro e w' ⟨rfl, rfl⟩) | (go_at_call 109; (with_reducible refine (totalS_any (.slice (some ⟨b2, o2, none⟩) ys.length c2) ys _ (by (repeat (first | (with_reducible exact IntsAt.made _ _ (by omega) _) | (with_reducible assumption) | (with_reducible refine IntsAt.alloc ?_ _) | (with_reducible refine IntsAt.drew ?_) | (with_reducible refine IntsAt.drewN ?_ _) | (with_reducible refine IntsAt.mono ?_ (by with_reducible assumption))))) (fun i => by have := T2.out.2.2 i; omega)).mono ?_); rintro e w' ⟨rfl, rfl⟩))
        have B : Below W.heap.size W w1 := by (repeat' (first | exact Below.refl _ _ | (with_reducible assumption) | (with_reducible refine xAlloc ?_ _) | (with_reducible refine Below.drew ?_) | (with_reducible refine xDrewN ?_ _) | (with_reducible refine xThen ?_ (by with_reducible assumption)) | (with_reducible refine Below.setCell ?_ (by first | omega | (simp; omega) | simp) _)))
        have kL0 := xcell B kW0
        have kL1 := xcell B kW1
        have kL2 := xcell B kW2
        have kL3 := xcell B kW3
        have kL4 := xcell B kW4
        have kL5 := xcell B kW5
        have B2 : Below w.heap.size w w1 := xThen bW B
        have M1 := (H1.out.mono B2).cells
        have M2 := (H2.out.mono B2).cells
        clear kW0 kW1 kW2 kW3 kW4 kW5
        have hsz9 := hb.size
        clear hc hf
        go_loop [37, 5] (fun i _ => ∃ k : Nat, k ≤ n ∧ i = .int .i64 k ∧ clash zs ys n k = false) (fun i _ => n - (intOf i).toNat)
        case atStart => exact ⟨0, by omega, rfl, rfl⟩
        case round =>
          obtain ⟨k, hk, rfl, hcl⟩ := hrel
          have HCL := hid hcl
          clear hcl
          by_cases hlt : k < n
          · have hx := M1 k (by have := T1.out.1; omega)
            have hy := M2 (n - 1 - k) (by have := T2.out.1; omega)
            have E1 : (n : Int) - 1 - (k : Int) = ((n - 1 - k : Nat) : Int) := by omega
            have HN : Hid (clash zs ys n (k + 1) = (clash zs ys n k || (decide (0 < zs.getD k 0) && decide (0 < ys.getD (n - 1 - k) 0)))) := rfl
            have kl : k < zs.length := by have := T1.out.1; omega
            have ml : n - 1 - k < ys.length := by have := T2.out.1; omega
            obtain ⟨x, HX⟩ := named (zs.getD k 0)
            obtain ⟨y, HY⟩ := named (ys.getD (n - 1 - k) 0)
            obtain ⟨m, HM⟩ := named (n - 1 - k)
            rw [← HM.out] at hy E1 ml HY HN
            rw [← HX.out] at hx HN
            rw [← HY.out] at hy HN
            clear M1 M2
            by_cases hx0 : 0 < x
            · by_cases hy0' : 0 < y
              · go_wp2
                go_ret
                have e9 : clash zs ys n n = true := clash_mono (show k + 1 ≤ n by omega) (by rw [HN.out]; simp [hx0, hy0'])
                exact ⟨ret_bool (by rw [HR.out, Int.toNat_natCast, e9]; simp), by (repeat' (first | exact Below.refl _ _ | (with_reducible assumption) | (with_reducible refine xAlloc ?_ _) | (with_reducible refine Below.drew ?_) | (with_reducible refine xDrewN ?_ _) | (with_reducible refine xThen ?_ (by with_reducible assumption)) | (with_reducible refine Below.setCell ?_ (by first | omega | (simp; omega) | simp) _)))⟩
              · go_wp2
                go_round
                case rel => exact ⟨k + 1, by omega, by go_num, by rw [HN.out, HCL.out]; simp [hy0']⟩
                case measure => simp [intOf]; omega
            · go_wp2
              go_round
              case rel => exact ⟨k + 1, by omega, by go_num, by rw [HN.out, HCL.out]; simp [hx0]⟩
              case measure => simp [intOf]; omega
          · obtain rfl : k = n := by omega
            go_wp2
            go_ret
            exact ⟨ret_bool (by rw [HR.out, Int.toNat_natCast, HCL.out, HE.out]; rfl), by (repeat' (first | exact Below.refl _ _ | (with_reducible assumption) | (with_reducible refine xAlloc ?_ _) | (with_reducible refine Below.drew ?_) | (with_reducible refine xDrewN ?_ _) | (with_reducible refine xThen ?_ (by with_reducible assumption)) | (with_reducible refine Below.setCell ?_ (by first | omega | (simp; omega) | simp) _)))⟩
end Go.Proofs.Ytmcjabodkjlkgaa
