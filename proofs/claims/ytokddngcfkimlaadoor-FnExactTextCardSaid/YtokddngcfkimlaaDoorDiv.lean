/-
  The contract of the library function Div64 of math/bits.
-/
import Derived.Test.YtokddngcfkimlaaDoorMathDiv
import Derived.Test.YtokddngcfkimlaaDoorInts
namespace Go.Proofs.YtokddngcfkimlaaDoor
open Go.RowKit

theorem lzN_any (y s : Nat) (hs : s + Lib.bitLen y = 64) (hy : y < 18446744073709551616) (w : World) :
    Calls Tryd.prog 43 #[.int .u64 y] w fun e w' => e = .returned (.int .i64 s) ∧ w' = w := by
  refine (lz64_any y w (by omega) (by omega)).mono ?_
  rintro e w' ⟨rfl, rfl⟩
  have : (64 - (Lib.bitLen (y : Int).toNat : Int)) = (s : Int) := by rw [Int.toNat_natCast]; omega
  exact ⟨by rw [this], rfl⟩

theorem wrapU (a : Int) : IntKind.u64.wrap a = a % 18446744073709551616 := by rw [IntKind.wrap_u64]
theorem sub_digits {U e Q Y R : Nat} (h : U * 4294967296 + e = Q * Y + R) (hR : R < 18446744073709551616) :
    IntKind.u64.wrap (IntKind.u64.wrap (IntKind.u64.wrap ((U : Int) * 4294967296) + (e : Int)) - IntKind.u64.wrap ((Q : Int) * (Y : Int))) = (R : Int) := by
  rw [Mul64.mulN, wrapU, wrapU, wrapU, wrapU]
  generalize Q * Y = B at *
  omega
theorem div_digit {U Y1 : Nat} : (U : Int).tdiv (Y1 : Int) = ((U / Y1 : Nat) : Int) := rfl
theorem mul_word {a b : Nat} (h : a * b < 18446744073709551616) : IntKind.u64.wrap ((a : Int) * (b : Int)) = ((a * b : Nat) : Int) := by
  rw [Mul64.mulN]; exact Mul64.wrapN _ h
theorem shl_word {a s : Nat} : IntKind.u64.wrap ((a : Int) * 2 ^ s) = ((a * 2 ^ s % 18446744073709551616 : Nat) : Int) := by
  have : (a : Int) * 2 ^ s = ((a * 2 ^ s : Nat) : Int) := by rw [Int.natCast_mul, Int.natCast_pow]; rfl
  rw [this, Mul64.wrapM]
theorem or_word {h l s : Nat} (hl : l / 2 ^ (64 - s) < 2 ^ s) (hh : h * 2 ^ s < 18446744073709551616) (hl2 : l < 18446744073709551616) :
    bits .or .u64 (IntKind.u64.wrap ((h : Int) * 2 ^ s)) ((l : Int) / 2 ^ (64 - s)) = ((h * 2 ^ s + l / 2 ^ (64 - s) : Nat) : Int) := by
  have e1 : IntKind.u64.wrap ((h : Int) * 2 ^ s) = ((h * 2 ^ s : Nat) : Int) := by rw [shl_word, Nat.mod_eq_of_lt hh]
  have e2 : (l : Int) / 2 ^ (64 - s) = ((l / 2 ^ (64 - s) : Nat) : Int) := by rw [Int.natCast_ediv, Int.natCast_pow]; rfl
  have hb : l / 2 ^ (64 - s) < 18446744073709551616 := Nat.lt_of_le_of_lt (Nat.div_le_self _ _) hl2
  rw [e1, e2, bits_or_u64_nat _ _ hh hb, ← Nat.shiftLeft_eq, Nat.shiftLeft_add_eq_or_of_lt hl]

set_option maxHeartbeats 4000000 in
theorem ret_uu {a b a' b' : Int} (h1 : a = a') (h2 : b = b') : Ending.returned (.tuple #[.int .u64 a, .int .u64 b]) = Ending.returned (.tuple #[.int .u64 a', .int .u64 b']) := by rw [h1, h2]

set_option maxHeartbeats 4000000 in
set_option maxRecDepth 100000 in
theorem div64_any (h l y : Nat) (hh : 1 ≤ h) (hhy : h < y) (hl : l < 18446744073709551616) (hy : y < 18446744073709551616) (w : World) :
    Calls Tryd.prog 29 #[.int .u64 h, .int .u64 l, .int .u64 y] w fun e w' => e = .returned (.tuple #[.int .u64 (((h * 18446744073709551616 + l) / y : Nat) : Int), .int .u64 (((h * 18446744073709551616 + l) % y : Nat) : Int)]) ∧ w' = w := by
  obtain ⟨s, hs⟩ : ∃ s, s + Lib.bitLen y = 64 := ⟨64 - Lib.bitLen y, by have := bitLen_le64 y (by omega) (by omega); rw [Int.toNat_natCast] at this; omega⟩
  have HS := hid hs
  obtain ⟨n1, n2, hs63⟩ := norm_range (by omega) hy hs
  obtain ⟨x1, x2, x3, x4⟩ := shift_words (h := h) hl hs63 hhy n2
  have EY : IntKind.u64.wrap ((y : Int) * 2 ^ s) = ((y * 2 ^ s : Nat) : Int) := by rw [shl_word, Nat.mod_eq_of_lt n2]
  have EL := shl_word (a := l) (s := s)
  have EU := or_word x3 x4 hl
  obtain ⟨Y, HY⟩ := named (y * 2 ^ s)
  obtain ⟨U, HU⟩ := named (h * 2 ^ s + l / 2 ^ (64 - s))
  obtain ⟨L, HL⟩ := named (l * 2 ^ s % 18446744073709551616)
  have hL : L < 18446744073709551616 := by rw [HL.out]; exact Nat.mod_lt _ (by omega)
  rw [← HY.out] at EY n1 n2 x1
  rw [← HU.out] at EU x1 x2
  rw [← HL.out] at EL x2
  have X2 := hid x2
  have EY1 := Mul64.divN Y
  have EY0 := Mul64.maskN Y n2
  have EL1 := Mul64.divN L
  have EL0 := Mul64.maskN L hL
  have D1 := hid (dig_start n1 n2 x1 (e := L / 4294967296) (by omega))
  have F1 := hid (dig_facts n1 n2 x1 (e := L / 4294967296) (by omega))
  have b1 : 2147483648 ≤ Y / 4294967296 := by omega
  have b2 : Y / 4294967296 < 4294967296 := by omega
  have b3 : Y % 4294967296 < 4294967296 := by omega
  have b4 : L / 4294967296 < 4294967296 := by omega
  have b5 : L % 4294967296 < 4294967296 := by omega
  obtain ⟨Y1, HY1⟩ := named (Y / 4294967296)
  obtain ⟨Y0, HY0⟩ := named (Y % 4294967296)
  obtain ⟨L1, HL1⟩ := named (L / 4294967296)
  obtain ⟨L0, HL0⟩ := named (L % 4294967296)
  rw [← HY1.out] at EY1 b1 b2 D1
  rw [← HY0.out] at EY0 b3
  rw [← HL1.out] at EL1 b4 D1 F1
  rw [← HL0.out] at EL0 b5
  have EQ := div_digit (U := U) (Y1 := Y1)
  have a1 := Nat.div_mul_le_self U Y1
  have a2 := Nat.div_add_mod U Y1
  have a3 : U % Y1 < 4294967296 := by have := Nat.mod_lt U (show 0 < Y1 by omega); omega
  have a4 := D1.out.high
  obtain ⟨q, HQ⟩ := named (U / Y1)
  obtain ⟨r, HR⟩ := named (U % Y1)
  rw [← HQ.out] at EQ a1 a2 a4 D1
  rw [← HR.out] at a2 a3 D1
  have EA := mul_word (a := q) (b := Y1) (by omega)
  obtain ⟨A, HA⟩ := named (q * Y1)
  rw [← HA.out] at EA a1
  have a5 : A + r = U := by have := HA.out; rw [Nat.mul_comm] at this; omega
  have g1 := Nat.div_add_mod (U * 4294967296 + L1) Y
  have x5 := Nat.mod_lt (U * 4294967296 + L1) (show 0 < Y by omega)
  have g3 := F1.out.1
  obtain ⟨Q1, HQ1⟩ := named ((U * 4294967296 + L1) / Y)
  obtain ⟨R1, HR1⟩ := named ((U * 4294967296 + L1) % Y)
  rw [← HQ1.out] at g1 g3
  rw [← HR1.out] at g1 x5
  rw [Nat.mul_comm Y Q1] at g1
  have E21 := sub_digits g1.symm (by omega)
  have D2 := hid (dig_start n1 n2 x5 b5)
  have F2 := hid (dig_facts n1 n2 x5 b5)
  rw [← HY1.out] at D2
  have EQ2 := div_digit (U := R1) (Y1 := Y1)
  have p1 := Nat.div_mul_le_self R1 Y1
  have p2 := Nat.div_add_mod R1 Y1
  have p3 : R1 % Y1 < 4294967296 := by have := Nat.mod_lt R1 (show 0 < Y1 by omega); omega
  have p4 := D2.out.high
  obtain ⟨q2, HQ2⟩ := named (R1 / Y1)
  obtain ⟨r2, HR2⟩ := named (R1 % Y1)
  rw [← HQ2.out] at EQ2 p1 p2 p4 D2
  rw [← HR2.out] at p2 p3 D2
  have EA2 := mul_word (a := q2) (b := Y1) (by omega)
  obtain ⟨A2, HA2⟩ := named (q2 * Y1)
  rw [← HA2.out] at EA2 p1
  have p5 : A2 + r2 = R1 := by have := HA2.out; rw [Nat.mul_comm] at this; omega
  have g4 := Nat.div_add_mod (R1 * 4294967296 + L0) Y
  have x6 := Nat.mod_lt (R1 * 4294967296 + L0) (show 0 < Y by omega)
  have g6 := F2.out.1
  obtain ⟨Q0, HQ0⟩ := named ((R1 * 4294967296 + L0) / Y)
  obtain ⟨R0, HR0⟩ := named ((R1 * 4294967296 + L0) % Y)
  rw [← HQ0.out] at g4 g6
  rw [← HR0.out] at g4 x6
  rw [Nat.mul_comm Y Q0] at g4
  have E22 := sub_digits g4.symm (by omega)
  have T := hid (two_digits (N := h * 18446744073709551616 + l) (y := y) (s := s) (U := U) (L := L) (Q1 := Q1) (R1 := R1) (Q0 := Q0) (R0 := R0) (by omega) x2 (by rw [← HY.out, ← HL1.out]; exact g1.symm) (by rw [← HY.out, ← HL0.out]; exact g4.symm) (by rw [← HY.out]; exact x6))
  clear hs x2 a2 x3 x4 g1 p2 g4
  obtain ⟨QQ, HQQ⟩ := named ((h * 18446744073709551616 + l) / y)
  obtain ⟨RR, HRR⟩ := named ((h * 18446744073709551616 + l) % y)
  rw [← HQQ.out, ← HRR.out] at T
  rw [← HQQ.out, ← HRR.out]
  go_enter Tryd.func29, Tryd.ntmps29
  go_wp2_with (go_at_call 43; refine (lzN_any y s HS.out hy _).mono ?_; rintro e w' ⟨rfl, rfl⟩)
  go_loop [15, 16] (fun qv rv => ∃ qn rn : Nat, qv = .int .u64 qn ∧ rv = .int .u64 rn ∧ Dig U L1 Y qn rn) (fun qv _ => (intOf qv).toNat)
  case atStart => exact ⟨q, r, rfl, num (by omega), D1.out⟩
  case round =>
    obtain ⟨qn, rn, rfl, rfl, hD⟩ := hrel
    have HD := hid hD
    have d1 := hD.high
    have d2 := hD.rest
    clear hD EY EL EU EY1 EY0 EL1 EL0 EQ EA a1 a3 a4 a5
    by_cases c1 : (4294967296 : Int) ≤ (qn : Int)
    · have d3 : 1 ≤ qn := by omega
      by_cases c3 : (4294967296 : Int) ≤ (rn : Int) + (Y1 : Int)
      · have HBK := hid (dig_break n1 n2 x1 b4 HD.out (.inl (by omega)) (by rw [← HY1.out]; omega))
        have EX : (qn : Int) - 1 = (Q1 : Int) := by have := HBK.out; rw [← HQ1.out] at this; omega
        go_wp2
        clear EX HBK HD c1 c3 d1 d2
        go_loop [18, 16] (fun qv rv => ∃ qn rn : Nat, qv = .int .u64 qn ∧ rv = .int .u64 rn ∧ Dig R1 L0 Y qn rn) (fun qv _ => (intOf qv).toNat)
        case atStart => exact ⟨q2, r2, rfl, num (by omega), D2.out⟩
        case round =>
          obtain ⟨qn, rn, rfl, rfl, hD⟩ := hrel
          have HD := hid hD
          have d1 := hD.high
          have d2 := hD.rest
          clear hD 
          by_cases c1 : (4294967296 : Int) ≤ (qn : Int)
          · have d3 : 1 ≤ qn := by omega
            by_cases c3 : (4294967296 : Int) ≤ (rn : Int) + (Y1 : Int)
            · have HBK := hid (dig_break n1 n2 x5 b5 HD.out (.inl (by omega)) (by rw [← HY1.out]; omega))
              have EX : (qn : Int) - 1 = (Q0 : Int) := by have := HBK.out; rw [← HQ0.out] at this; omega
              go_wp2
              go_ret2
              exact ⟨ret_uu (by have := T.out.1; omega) (by rw [T.out.2, Int.natCast_ediv, Int.natCast_pow]; rfl), rfl⟩
            · go_wp2
              go_round
              case rel => exact ⟨qn - 1, rn + Y1, num (by omega), num (by omega), by have := dig_next n1 n2 x5 b5 HD.out (.inl (by omega)) (by rw [← HY1.out]; omega); rw [← HY1.out] at this; exact this⟩
              case measure => simp [intOf]; omega
          · have hm : qn * Y0 < 18446744073709551616 := Nat.lt_of_le_of_lt (Nat.mul_le_mul (show qn ≤ 4294967295 by omega) (show Y0 ≤ 4294967295 by omega)) (by omega)
            have EB := mul_word hm
            obtain ⟨B, HB⟩ := named (qn * Y0)
            rw [← HB.out] at EB hm
            by_cases c2 : 4294967296 * (rn : Int) + (L0 : Int) < (B : Int)
            · have c2' := hid (show 4294967296 ≤ qn ∨ 4294967296 * rn + L0 < qn * (Y % 4294967296) from .inr (by rw [← HY0.out, ← HB.out]; omega))
              have d3 : 1 ≤ qn := (dig_more n1 n2 x5 b5 HD.out c2'.out).1
              by_cases c3 : (4294967296 : Int) ≤ (rn : Int) + (Y1 : Int)
              · have HBK := hid (dig_break n1 n2 x5 b5 HD.out c2'.out (by rw [← HY1.out]; omega))
                have EX : (qn : Int) - 1 = (Q0 : Int) := by have := HBK.out; rw [← HQ0.out] at this; omega
                go_wp2
                go_ret2
                exact ⟨ret_uu (by have := T.out.1; omega) (by rw [T.out.2, Int.natCast_ediv, Int.natCast_pow]; rfl), rfl⟩
              · go_wp2
                go_round
                case rel => exact ⟨qn - 1, rn + Y1, num (by omega), num (by omega), by have := dig_next n1 n2 x5 b5 HD.out c2'.out (by rw [← HY1.out]; omega); rw [← HY1.out] at this; exact this⟩
                case measure => simp [intOf]; omega
            · have HBK := hid (dig_stop n1 HD.out (by rw [← HY0.out, ← HB.out]; omega))
              obtain rfl : qn = Q0 := by have := HBK.out; rw [← HQ0.out] at this; exact this
              go_wp2
              go_ret2
              exact ⟨ret_uu (by have := T.out.1; omega) (by rw [T.out.2, Int.natCast_ediv, Int.natCast_pow]; rfl), rfl⟩
      · go_wp2
        go_round
        case rel => exact ⟨qn - 1, rn + Y1, num (by omega), num (by omega), by have := dig_next n1 n2 x1 b4 HD.out (.inl (by omega)) (by rw [← HY1.out]; omega); rw [← HY1.out] at this; exact this⟩
        case measure => simp [intOf]; omega
    · have hm : qn * Y0 < 18446744073709551616 := Nat.lt_of_le_of_lt (Nat.mul_le_mul (show qn ≤ 4294967295 by omega) (show Y0 ≤ 4294967295 by omega)) (by omega)
      have EB := mul_word hm
      obtain ⟨B, HB⟩ := named (qn * Y0)
      rw [← HB.out] at EB hm
      by_cases c2 : 4294967296 * (rn : Int) + (L1 : Int) < (B : Int)
      · have c2' := hid (show 4294967296 ≤ qn ∨ 4294967296 * rn + L1 < qn * (Y % 4294967296) from .inr (by rw [← HY0.out, ← HB.out]; omega))
        have d3 : 1 ≤ qn := (dig_more n1 n2 x1 b4 HD.out c2'.out).1
        by_cases c3 : (4294967296 : Int) ≤ (rn : Int) + (Y1 : Int)
        · have HBK := hid (dig_break n1 n2 x1 b4 HD.out c2'.out (by rw [← HY1.out]; omega))
          have EX : (qn : Int) - 1 = (Q1 : Int) := by have := HBK.out; rw [← HQ1.out] at this; omega
          go_wp2
          clear EX HBK HD c1 c3 d1 d2
          go_loop [18, 16] (fun qv rv => ∃ qn rn : Nat, qv = .int .u64 qn ∧ rv = .int .u64 rn ∧ Dig R1 L0 Y qn rn) (fun qv _ => (intOf qv).toNat)
          case atStart => exact ⟨q2, r2, rfl, num (by omega), D2.out⟩
          case round =>
            obtain ⟨qn, rn, rfl, rfl, hD⟩ := hrel
            have HD := hid hD
            have d1 := hD.high
            have d2 := hD.rest
            clear hD 
            by_cases c1 : (4294967296 : Int) ≤ (qn : Int)
            · have d3 : 1 ≤ qn := by omega
              by_cases c3 : (4294967296 : Int) ≤ (rn : Int) + (Y1 : Int)
              · have HBK := hid (dig_break n1 n2 x5 b5 HD.out (.inl (by omega)) (by rw [← HY1.out]; omega))
                have EX : (qn : Int) - 1 = (Q0 : Int) := by have := HBK.out; rw [← HQ0.out] at this; omega
                go_wp2
                go_ret2
                exact ⟨ret_uu (by have := T.out.1; omega) (by rw [T.out.2, Int.natCast_ediv, Int.natCast_pow]; rfl), rfl⟩
              · go_wp2
                go_round
                case rel => exact ⟨qn - 1, rn + Y1, num (by omega), num (by omega), by have := dig_next n1 n2 x5 b5 HD.out (.inl (by omega)) (by rw [← HY1.out]; omega); rw [← HY1.out] at this; exact this⟩
                case measure => simp [intOf]; omega
            · have hm : qn * Y0 < 18446744073709551616 := Nat.lt_of_le_of_lt (Nat.mul_le_mul (show qn ≤ 4294967295 by omega) (show Y0 ≤ 4294967295 by omega)) (by omega)
              have EB := mul_word hm
              obtain ⟨B, HB⟩ := named (qn * Y0)
              rw [← HB.out] at EB hm
              by_cases c2 : 4294967296 * (rn : Int) + (L0 : Int) < (B : Int)
              · have c2' := hid (show 4294967296 ≤ qn ∨ 4294967296 * rn + L0 < qn * (Y % 4294967296) from .inr (by rw [← HY0.out, ← HB.out]; omega))
                have d3 : 1 ≤ qn := (dig_more n1 n2 x5 b5 HD.out c2'.out).1
                by_cases c3 : (4294967296 : Int) ≤ (rn : Int) + (Y1 : Int)
                · have HBK := hid (dig_break n1 n2 x5 b5 HD.out c2'.out (by rw [← HY1.out]; omega))
                  have EX : (qn : Int) - 1 = (Q0 : Int) := by have := HBK.out; rw [← HQ0.out] at this; omega
                  go_wp2
                  go_ret2
                  exact ⟨ret_uu (by have := T.out.1; omega) (by rw [T.out.2, Int.natCast_ediv, Int.natCast_pow]; rfl), rfl⟩
                · go_wp2
                  go_round
                  case rel => exact ⟨qn - 1, rn + Y1, num (by omega), num (by omega), by have := dig_next n1 n2 x5 b5 HD.out c2'.out (by rw [← HY1.out]; omega); rw [← HY1.out] at this; exact this⟩
                  case measure => simp [intOf]; omega
              · have HBK := hid (dig_stop n1 HD.out (by rw [← HY0.out, ← HB.out]; omega))
                obtain rfl : qn = Q0 := by have := HBK.out; rw [← HQ0.out] at this; exact this
                go_wp2
                go_ret2
                exact ⟨ret_uu (by have := T.out.1; omega) (by rw [T.out.2, Int.natCast_ediv, Int.natCast_pow]; rfl), rfl⟩
        · go_wp2
          go_round
          case rel => exact ⟨qn - 1, rn + Y1, num (by omega), num (by omega), by have := dig_next n1 n2 x1 b4 HD.out c2'.out (by rw [← HY1.out]; omega); rw [← HY1.out] at this; exact this⟩
          case measure => simp [intOf]; omega
      · have HBK := hid (dig_stop n1 HD.out (by rw [← HY0.out, ← HB.out]; omega))
        obtain rfl : qn = Q1 := by have := HBK.out; rw [← HQ1.out] at this; exact this
        go_wp2
        clear HBK HD c1 c2 d1 d2
        go_loop [18, 16] (fun qv rv => ∃ qn rn : Nat, qv = .int .u64 qn ∧ rv = .int .u64 rn ∧ Dig R1 L0 Y qn rn) (fun qv _ => (intOf qv).toNat)
        case atStart => exact ⟨q2, r2, rfl, num (by omega), D2.out⟩
        case round =>
          obtain ⟨qn, rn, rfl, rfl, hD⟩ := hrel
          have HD := hid hD
          have d1 := hD.high
          have d2 := hD.rest
          clear hD 
          by_cases c1 : (4294967296 : Int) ≤ (qn : Int)
          · have d3 : 1 ≤ qn := by omega
            by_cases c3 : (4294967296 : Int) ≤ (rn : Int) + (Y1 : Int)
            · have HBK := hid (dig_break n1 n2 x5 b5 HD.out (.inl (by omega)) (by rw [← HY1.out]; omega))
              have EX : (qn : Int) - 1 = (Q0 : Int) := by have := HBK.out; rw [← HQ0.out] at this; omega
              go_wp2
              go_ret2
              exact ⟨ret_uu (by have := T.out.1; omega) (by rw [T.out.2, Int.natCast_ediv, Int.natCast_pow]; rfl), rfl⟩
            · go_wp2
              go_round
              case rel => exact ⟨qn - 1, rn + Y1, num (by omega), num (by omega), by have := dig_next n1 n2 x5 b5 HD.out (.inl (by omega)) (by rw [← HY1.out]; omega); rw [← HY1.out] at this; exact this⟩
              case measure => simp [intOf]; omega
          · have hm : qn * Y0 < 18446744073709551616 := Nat.lt_of_le_of_lt (Nat.mul_le_mul (show qn ≤ 4294967295 by omega) (show Y0 ≤ 4294967295 by omega)) (by omega)
            have EB := mul_word hm
            obtain ⟨B, HB⟩ := named (qn * Y0)
            rw [← HB.out] at EB hm
            by_cases c2 : 4294967296 * (rn : Int) + (L0 : Int) < (B : Int)
            · have c2' := hid (show 4294967296 ≤ qn ∨ 4294967296 * rn + L0 < qn * (Y % 4294967296) from .inr (by rw [← HY0.out, ← HB.out]; omega))
              have d3 : 1 ≤ qn := (dig_more n1 n2 x5 b5 HD.out c2'.out).1
              by_cases c3 : (4294967296 : Int) ≤ (rn : Int) + (Y1 : Int)
              · have HBK := hid (dig_break n1 n2 x5 b5 HD.out c2'.out (by rw [← HY1.out]; omega))
                have EX : (qn : Int) - 1 = (Q0 : Int) := by have := HBK.out; rw [← HQ0.out] at this; omega
                go_wp2
                go_ret2
                exact ⟨ret_uu (by have := T.out.1; omega) (by rw [T.out.2, Int.natCast_ediv, Int.natCast_pow]; rfl), rfl⟩
              · go_wp2
                go_round
                case rel => exact ⟨qn - 1, rn + Y1, num (by omega), num (by omega), by have := dig_next n1 n2 x5 b5 HD.out c2'.out (by rw [← HY1.out]; omega); rw [← HY1.out] at this; exact this⟩
                case measure => simp [intOf]; omega
            · have HBK := hid (dig_stop n1 HD.out (by rw [← HY0.out, ← HB.out]; omega))
              obtain rfl : qn = Q0 := by have := HBK.out; rw [← HQ0.out] at this; exact this
              go_wp2
              go_ret2
              exact ⟨ret_uu (by have := T.out.1; omega) (by rw [T.out.2, Int.natCast_ediv, Int.natCast_pow]; rfl), rfl⟩
end Go.Proofs.YtokddngcfkimlaaDoor
