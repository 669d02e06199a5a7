/-
  Plain arithmetic: the division of a number of two words by one word, digit by digit.
-/
import Derived.Test.YtokddngcfkimlaaDoorBits
namespace Go.Proofs.YtokddngcfkimlaaDoor

theorem bitLen_zero {y : Nat} (hy : y < 2 ^ 64) (h : Lib.bitLen y = 0) : y = 0 := by
  by_cases h0 : y = 0
  · exact h0
  · have := Lib.bitLen_half y h0 hy; omega
theorem bitLen_range : ∀ n y, y < 2 ^ 64 → Lib.bitLen y = n + 1 → 2 ^ n ≤ y ∧ y < 2 ^ (n + 1)
  | 0, y, hy, h => by
    have h0 : y ≠ 0 := by rintro rfl; revert h; decide
    have h1 := Lib.bitLen_half y h0 hy
    have h2 := bitLen_zero (y := y / 2) (by omega) (by omega)
    omega
  | n + 1, y, hy, h => by
    have h0 : y ≠ 0 := by rintro rfl; revert h; have : Lib.bitLen 0 = 0 := by decide
                          omega
    have h1 := Lib.bitLen_half y h0 hy
    have h2 := bitLen_range n (y / 2) (by omega) (by omega)
    have e1 : 2 ^ (n + 1) = 2 * 2 ^ n := by rw [Nat.pow_succ, Nat.mul_comm]
    have e2 : 2 ^ (n + 1 + 1) = 2 * 2 ^ (n + 1) := by rw [Nat.pow_succ, Nat.mul_comm]
    omega

theorem norm_range {y s : Nat} (h0 : 1 ≤ y) (hy : y < 18446744073709551616) (hs : s + Lib.bitLen y = 64) : 9223372036854775808 ≤ y * 2 ^ s ∧ y * 2 ^ s < 18446744073709551616 ∧ s ≤ 63 := by
  obtain ⟨n, hn⟩ : ∃ n, Lib.bitLen y = n + 1 := by
    cases h : Lib.bitLen y with
    | zero => have := bitLen_zero (y := y) (by simpa using hy) h; omega
    | succ n => exact ⟨n, rfl⟩
  obtain ⟨h1, h2⟩ := bitLen_range n y (by simpa using hy) hn
  have e : n + s = 63 := by omega
  have p1 : 2 ^ n * 2 ^ s = 9223372036854775808 := by rw [← Nat.pow_add, e]
  have p2 : 2 ^ (n + 1) * 2 ^ s = 18446744073709551616 := by rw [← Nat.pow_add, show n + 1 + s = 64 by omega]
  have hp : 0 < 2 ^ s := Nat.two_pow_pos s
  have m1 := Nat.mul_le_mul_right (2 ^ s) h1
  have m2 := (Nat.mul_lt_mul_right hp).2 h2
  omega

/-- the two words, shifted -/
theorem shift_words {h l y s : Nat} (hl : l < 18446744073709551616) (hs : s ≤ 63) (hh : h < y) (hY : y * 2 ^ s < 18446744073709551616) :
    h * 2 ^ s + l / 2 ^ (64 - s) < y * 2 ^ s ∧ (h * 18446744073709551616 + l) * 2 ^ s = (h * 2 ^ s + l / 2 ^ (64 - s)) * 18446744073709551616 + l * 2 ^ s % 18446744073709551616 ∧ l / 2 ^ (64 - s) < 2 ^ s ∧ h * 2 ^ s < 18446744073709551616 := by
  have hp : 0 < 2 ^ s := Nat.two_pow_pos s
  have hq : 0 < 2 ^ (64 - s) := Nat.two_pow_pos _
  have e : 2 ^ (64 - s) * 2 ^ s = 18446744073709551616 := by rw [← Nat.pow_add, show 64 - s + s = 64 by omega]
  have h1 : l / 2 ^ (64 - s) < 2 ^ s := by
    rw [Nat.div_lt_iff_lt_mul hq, Nat.mul_comm, e]; exact hl
  have h2 : l * 2 ^ s / 18446744073709551616 = l / 2 ^ (64 - s) := by
    rw [← e]; exact Nat.mul_div_mul_right _ _ hp
  have h3 := Nat.div_add_mod (l * 2 ^ s) 18446744073709551616
  rw [h2] at h3
  have h4 : (h + 1) * 2 ^ s ≤ y * 2 ^ s := Nat.mul_le_mul_right _ (by omega)
  rw [Nat.add_mul, Nat.one_mul] at h4
  refine ⟨by omega, ?_, h1, by omega⟩
  rw [Nat.add_mul, Nat.mul_right_comm]
  omega

/-- one digit: q and r in the loop -/
structure Dig (U e Y : Nat) (q r : Nat) : Prop where
  sum : q * (Y / 4294967296) + r = U
  low : (U * 4294967296 + e) / Y ≤ q
  high : q ≤ 4294967297
  rest : r < 4294967296

theorem dig_facts {U e Y : Nat} (hY : 9223372036854775808 ≤ Y) (hY2 : Y < 18446744073709551616) (hU : U < Y) (he : e < 4294967296) :
    (U * 4294967296 + e) / Y ≤ 4294967295 ∧ (U * 4294967296 + e) / Y * Y ≤ U * 4294967296 + e ∧ U * 4294967296 + e < ((U * 4294967296 + e) / Y + 1) * Y := by
  have hp : 0 < Y := by omega
  refine ⟨?_, Nat.div_mul_le_self _ _, ?_⟩
  · have : (U * 4294967296 + e) / Y < 4294967296 := by
      rw [Nat.div_lt_iff_lt_mul hp]
      omega
    omega
  · rw [Nat.mul_comm (_ + 1) Y]; exact Nat.lt_mul_div_succ _ hp

theorem mul_split (q Y : Nat) : q * Y = q * (Y / 4294967296) * 4294967296 + q * (Y % 4294967296) := by
  have : Y = Y / 4294967296 * 4294967296 + Y % 4294967296 := by omega
  calc q * Y = q * (Y / 4294967296 * 4294967296 + Y % 4294967296) := by rw [← this]
    _ = _ := by rw [Nat.mul_add, Nat.mul_assoc]

theorem dig_start {U e Y : Nat} (hY : 9223372036854775808 ≤ Y) (hY2 : Y < 18446744073709551616) (hU : U < Y) (he : e < 4294967296) : Dig U e Y (U / (Y / 4294967296)) (U % (Y / 4294967296)) := by
  have h1 := Nat.div_add_mod U (Y / 4294967296)
  have hp : 0 < Y / 4294967296 := by omega
  have h2 := Nat.mod_lt U hp
  obtain ⟨f1, f2, f3⟩ := dig_facts hY hY2 hU he
  refine ⟨by rw [Nat.mul_comm]; exact h1, ?_, ?_, by omega⟩
  · rw [Nat.le_div_iff_mul_le hp]
    have := mul_split ((U * 4294967296 + e) / Y) Y
    omega
  · have : U / (Y / 4294967296) < 4294967298 := by
      rw [Nat.div_lt_iff_lt_mul hp]
      omega
    omega

theorem dig_stop {U e Y q r : Nat} (hY : 9223372036854775808 ≤ Y) (h : Dig U e Y q r) (hle : q * (Y % 4294967296) ≤ 4294967296 * r + e) :
    q = (U * 4294967296 + e) / Y := by
  have hp : 0 < Y := by omega
  have h1 := mul_split q Y
  have h2 := h.sum
  have h3 : q ≤ (U * 4294967296 + e) / Y := by
    rw [Nat.le_div_iff_mul_le hp]
    omega
  exact Nat.le_antisymm h3 h.low
theorem dig_more {U e Y q r : Nat} (hY : 9223372036854775808 ≤ Y) (hY2 : Y < 18446744073709551616) (hU : U < Y) (he : e < 4294967296) (h : Dig U e Y q r) (hgt : 4294967296 ≤ q ∨ 4294967296 * r + e < q * (Y % 4294967296)) :
    1 ≤ q ∧ (U * 4294967296 + e) / Y ≤ q - 1 ∧ (q - 1) * (Y / 4294967296) + (r + Y / 4294967296) = U := by
  have hp : 0 < Y := by omega
  obtain ⟨f1, f2, f3⟩ := dig_facts hY hY2 hU he
  have h1 := mul_split q Y
  have h2 := h.sum
  have h3 : (U * 4294967296 + e) / Y < q := by
    rcases hgt with h' | h'
    · omega
    · rw [Nat.div_lt_iff_lt_mul hp]
      omega
  have h4 : 1 ≤ q := Nat.lt_of_le_of_lt (Nat.zero_le _) h3
  refine ⟨h4, Nat.le_sub_one_of_lt h3, ?_⟩
  obtain ⟨k, rfl⟩ : ∃ k, q = k + 1 := ⟨q - 1, by omega⟩
  rw [Nat.add_mul, Nat.one_mul] at h2
  simp only [Nat.add_sub_cancel]
  omega
theorem dig_next {U e Y q r : Nat} (hY : 9223372036854775808 ≤ Y) (hY2 : Y < 18446744073709551616) (hU : U < Y) (he : e < 4294967296) (h : Dig U e Y q r) (hgt : 4294967296 ≤ q ∨ 4294967296 * r + e < q * (Y % 4294967296))
    (hr : r + Y / 4294967296 < 4294967296) : Dig U e Y (q - 1) (r + Y / 4294967296) := by
  obtain ⟨h1, h2, h3⟩ := dig_more hY hY2 hU he h hgt
  exact ⟨h3, h2, by have := h.high; omega, hr⟩
theorem dig_break {U e Y q r : Nat} (hY : 9223372036854775808 ≤ Y) (hY2 : Y < 18446744073709551616) (hU : U < Y) (he : e < 4294967296) (h : Dig U e Y q r) (hgt : 4294967296 ≤ q ∨ 4294967296 * r + e < q * (Y % 4294967296))
    (hr : 4294967296 ≤ r + Y / 4294967296) : q - 1 = (U * 4294967296 + e) / Y := by
  obtain ⟨h1, h2, h3⟩ := dig_more hY hY2 hU he h hgt
  have hp : 0 < Y := by omega
  have h4 := mul_split (q - 1) Y
  have h5 : (q - 1) * (Y % 4294967296) ≤ 4294967296 * 4294967295 := Nat.mul_le_mul (by have := h.high; omega) (by omega)
  have h6 : q - 1 ≤ (U * 4294967296 + e) / Y := by
    rw [Nat.le_div_iff_mul_le hp]
    omega
  exact Nat.le_antisymm h6 h2

theorem two_wordsK {K U L A B R1 R0 a b : Nat} (h1 : U * K + a = A + R1) (h0 : R1 * K + b = B + R0) (d : K * a + b = L) : U * (K * K) + L = A * K + B + R0 := by
  rw [← d, ← Nat.mul_assoc, Nat.mul_comm K a, ← Nat.add_assoc, ← Nat.add_mul, h1, Nat.add_mul, Nat.add_assoc, h0, ← Nat.add_assoc]
theorem two_words {U L A B R1 R0 : Nat} (h1 : U * 4294967296 + L / 4294967296 = A + R1) (h0 : R1 * 4294967296 + L % 4294967296 = B + R0) : U * 18446744073709551616 + L = A * 4294967296 + B + R0 :=
  two_wordsK h1 h0 (Nat.div_add_mod L 4294967296)
/-- both digits -/
theorem two_digits {N y s U L Q1 R1 Q0 R0 : Nat} (hp : 1 ≤ y) (hN : N * 2 ^ s = U * 18446744073709551616 + L) (h1 : U * 4294967296 + L / 4294967296 = Q1 * (y * 2 ^ s) + R1)
    (h0 : R1 * 4294967296 + L % 4294967296 = Q0 * (y * 2 ^ s) + R0) (hR : R0 < y * 2 ^ s) : N / y = Q1 * 4294967296 + Q0 ∧ N % y = R0 / 2 ^ s := by
  have hs : 0 < 2 ^ s := Nat.two_pow_pos s
  have e1 : N * 2 ^ s = (Q1 * 4294967296 + Q0) * (y * 2 ^ s) + R0 := by
    rw [hN, Nat.add_mul, Nat.mul_right_comm]
    exact two_words h1 h0
  have e2 : N * 2 ^ s = ((Q1 * 4294967296 + Q0) * y) * 2 ^ s + R0 := by rw [e1, Nat.mul_assoc]
  have hle : (Q1 * 4294967296 + Q0) * y ≤ N := Nat.le_of_mul_le_mul_right (by omega) hs
  obtain ⟨t, rfl⟩ := Nat.exists_eq_add_of_le hle
  have e3 : R0 = t * 2 ^ s := by rw [Nat.add_mul] at e2; omega
  have ht : t < y := by rw [e3] at hR; exact Nat.lt_of_mul_lt_mul_right hR
  rw [e3, Nat.mul_div_cancel _ hs]
  constructor
  · rw [Nat.add_comm, Nat.add_mul_div_right _ _ (by omega), Nat.div_eq_of_lt ht, Nat.zero_add]
  · rw [Nat.add_comm, Nat.add_mul_mod_self_right, Nat.mod_eq_of_lt ht]
end Go.Proofs.YtokddngcfkimlaaDoor
