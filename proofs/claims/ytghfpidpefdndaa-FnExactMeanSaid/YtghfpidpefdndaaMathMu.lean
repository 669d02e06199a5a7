/-
  Plain arithmetic: a product over a power of a base, in lowest terms (no program in it).
-/
import Derived.Test.YtghfpidpefdndaaMathFit
namespace Go.Proofs.Ytghfpidpefdndaa

theorem strip_step {b d : Nat} {A : Int} (h : A.tmod (b : Int) = 0) : strip b (d + 1) A = strip b d (A.tdiv (b : Int)) := by simp [strip, h]
theorem strip_stop {b d : Nat} {A : Int} (h : ¬ A.tmod (b : Int) = 0) : strip b (d + 1) A = (A, d + 1) := by simp [strip, h]

/-- the division by the base, on sizes -/
def stripN (b : Nat) : Nat → Nat → Nat × Nat
  | 0, n => (n, 0)
  | d + 1, n => if n % b = 0 then stripN b d (n / b) else (n, d + 1)

theorem tmod_abs {A : Int} {b : Nat} : A.tmod (b : Int) = 0 ↔ A.natAbs % b = 0 := by
  have h := Int.natAbs_tmod A (b : Int)
  rw [Int.natAbs_natCast] at h
  omega
theorem strip_abs_eq (b : Nat) : ∀ d (A : Int), (strip b d A).1.natAbs = (stripN b d A.natAbs).1 ∧ (strip b d A).2 = (stripN b d A.natAbs).2
  | 0, A => by simp [strip, stripN]
  | d + 1, A => by
    by_cases h : A.tmod (b : Int) = 0
    · rw [strip_step h]
      have h2 := tmod_abs.1 h
      have e : (A.tdiv (b : Int)).natAbs = A.natAbs / b := by rw [Int.natAbs_tdiv, Int.natAbs_natCast]; rfl
      simp only [stripN, if_pos h2]
      rw [← e]
      exact strip_abs_eq b d _
    · rw [strip_stop h]
      have h2 : ¬ A.natAbs % b = 0 := fun h' => h (tmod_abs.2 h')
      simp [stripN, h2]
/-- the sign stays -/
theorem strip_sign (b : Nat) : ∀ d (A : Int), (0 ≤ A → 0 ≤ (strip b d A).1) ∧ (A ≤ 0 → (strip b d A).1 ≤ 0)
  | 0, A => by simp [strip]
  | d + 1, A => by
    by_cases h : A.tmod (b : Int) = 0
    · rw [strip_step h]
      obtain ⟨i1, i2⟩ := strip_sign b d (A.tdiv (b : Int))
      refine ⟨fun h0 => i1 (Int.tdiv_nonneg h0 (by omega)), fun h0 => i2 ?_⟩
      have e : A.tdiv (b : Int) = -((-A).tdiv (b : Int)) := by rw [Int.neg_tdiv, Int.neg_neg]
      have : 0 ≤ (-A).tdiv (b : Int) := Int.tdiv_nonneg (by omega) (by omega)
      omega
    · rw [strip_stop h]
      exact ⟨fun h0 => h0, fun h0 => h0⟩
/-- once divided, nothing more is divided -/
theorem strip_twice (b : Nat) : ∀ d (A : Int), strip b (strip b d A).2 (strip b d A).1 = strip b d A
  | 0, A => by simp [strip]
  | d + 1, A => by
    by_cases h : A.tmod (b : Int) = 0
    · rw [strip_step h]; exact strip_twice b d _
    · rw [strip_stop h]; exact strip_stop h
theorem stripN_le (b : Nat) : ∀ d n, (stripN b d n).1 ≤ n
  | 0, n => by simp [stripN]
  | d + 1, n => by
    simp only [stripN]
    split
    · exact Nat.le_trans (stripN_le b d _) (Nat.div_le_self _ _)
    · exact Nat.le_refl _
theorem stripN_dep (b : Nat) : ∀ d n, (stripN b d n).2 ≤ d
  | 0, n => by simp [stripN]
  | d + 1, n => by
    simp only [stripN]
    split
    · exact Nat.le_trans (stripN_dep b d _) (by omega)
    · exact Nat.le_refl _

/-- the two words of a quotient -/
theorem words_div {hi lo b : Nat} (hlo : lo < 18446744073709551616) (hb : 1 ≤ b) :
    (hi * 18446744073709551616 + lo) / b = hi / b * 18446744073709551616 + (hi % b * 18446744073709551616 + lo) / b ∧ (hi * 18446744073709551616 + lo) % b = (hi % b * 18446744073709551616 + lo) % b ∧ (hi % b * 18446744073709551616 + lo) / b < 18446744073709551616 := by
  have h := Nat.div_add_mod hi b
  have hm := Nat.mod_lt hi (show 0 < b by omega)
  have e : hi * 18446744073709551616 + lo = (hi % b * 18446744073709551616 + lo) + b * (hi / b * 18446744073709551616) := by
    have : hi * 18446744073709551616 = (b * (hi / b) + hi % b) * 18446744073709551616 := by rw [h]
    rw [this, Nat.add_mul, Nat.mul_assoc]
    omega
  refine ⟨?_, ?_, ?_⟩
  · rw [e, Nat.add_mul_div_left _ _ (by omega), Nat.add_comm]
  · rw [e, Nat.add_mul_mod_self_left]
  · rw [Nat.div_lt_iff_lt_mul (by omega)]
    have : (hi % b + 1) * 18446744073709551616 ≤ b * 18446744073709551616 := Nat.mul_le_mul_right _ (by omega)
    rw [Nat.add_mul] at this
    omega

theorem least_dvd {B b : Nat} : ∀ k, B ∣ b ^ k → ∃ k', k' ≤ k ∧ B ∣ b ^ k' ∧ (k' = 0 ∨ ¬ B ∣ b ^ (k' - 1))
  | 0, h => ⟨0, Nat.le_refl _, h, .inl rfl⟩
  | k + 1, h => by
    by_cases h1 : B ∣ b ^ k
    · obtain ⟨k', h2, h3, h4⟩ := least_dvd k h1
      exact ⟨k', by omega, h3, h4⟩
    · exact ⟨k + 1, Nat.le_refl _, h, .inr (by simpa using h1)⟩
theorem strip_ge {b D B : Nat} {a A : Int} (hb : 1 ≤ b) (hB : 1 ≤ B) (hco : Nat.Coprime a.natAbs B) (heq : a * (b : Int) ^ D = A * B) : a.natAbs ≤ (strip b D A).1.natAbs := by
  obtain ⟨k, hk, hd, hmin⟩ := least_dvd D (fit_ends hco heq)
  rw [fit_find hb hB hco heq hk hd hmin]
  show a.natAbs ≤ (a * ((b ^ k / B : Nat) : Int)).natAbs
  rw [Int.natAbs_mul, Int.natAbs_natCast]
  exact Nat.le_mul_of_pos_right _ (Nat.div_pos (Nat.le_of_dvd (Nat.pow_pos hb) hd) hB)

/-- the parts of a product -/
structure Parts (x k : Int) (S d G S1 B : Nat) (x1 k1 : Int) : Prop where
  gd : Nat.gcd k.natAbs S = d
  gg : Nat.gcd x.natAbs S1 = G
  sd : S = d * S1
  sg : S1 = G * B
  xe : x = G * x1
  ke : k = d * k1
  d1 : 1 ≤ d
  g1 : 1 ≤ G
  b1 : 1 ≤ B
  co : Nat.Coprime (x1 * k1).natAbs B
theorem parts (x k : Int) {S : Nat} (hS : 1 ≤ S) : ∃ d G S1 B x1 k1, Parts x k S d G S1 B x1 k1 := by
  obtain ⟨S1, hS1⟩ := Nat.gcd_dvd_right k.natAbs S
  obtain ⟨k1, hk1⟩ : ((Nat.gcd k.natAbs S : Nat) : Int) ∣ k := Int.ofNat_dvd_left.2 (Nat.gcd_dvd_left _ _)
  have hd : 1 ≤ Nat.gcd k.natAbs S := Nat.gcd_pos_of_pos_right _ (by omega)
  have hS1p : 1 ≤ S1 := by
    rcases Nat.eq_zero_or_pos S1 with h | h
    · rw [h] at hS1; omega
    · exact h
  obtain ⟨B, hB⟩ := Nat.gcd_dvd_right x.natAbs S1
  obtain ⟨x1, hx1⟩ : ((Nat.gcd x.natAbs S1 : Nat) : Int) ∣ x := Int.ofNat_dvd_left.2 (Nat.gcd_dvd_left _ _)
  have hg : 1 ≤ Nat.gcd x.natAbs S1 := Nat.gcd_pos_of_pos_right _ (by omega)
  have hBp : 1 ≤ B := by
    rcases Nat.eq_zero_or_pos B with h | h
    · rw [h] at hB; omega
    · exact h
  have ck : Nat.Coprime k1.natAbs S1 := by
    have h1 : k.natAbs = Nat.gcd k.natAbs S * k1.natAbs := by
      have := congrArg Int.natAbs hk1
      rwa [Int.natAbs_mul, Int.natAbs_natCast] at this
    have h2 : Nat.gcd k.natAbs S = Nat.gcd k.natAbs S * Nat.gcd k1.natAbs S1 := by
      rw [← Nat.gcd_mul_left, ← h1, ← hS1]
    exact Nat.eq_of_mul_eq_mul_left (show 0 < Nat.gcd k.natAbs S from hd) (by rw [← h2, Nat.mul_one])
  have cx : Nat.Coprime x1.natAbs B := by
    have h1 : x.natAbs = Nat.gcd x.natAbs S1 * x1.natAbs := by
      have := congrArg Int.natAbs hx1
      rwa [Int.natAbs_mul, Int.natAbs_natCast] at this
    have h2 : Nat.gcd x.natAbs S1 = Nat.gcd x.natAbs S1 * Nat.gcd x1.natAbs B := by
      rw [← Nat.gcd_mul_left, ← h1, ← hB]
    exact Nat.eq_of_mul_eq_mul_left (show 0 < Nat.gcd x.natAbs S1 from hg) (by rw [← h2, Nat.mul_one])
  have ck2 : Nat.Coprime k1.natAbs B := Nat.Coprime.coprime_dvd_right ⟨_, by rw [Nat.mul_comm]; exact hB⟩ ck
  exact ⟨_, _, S1, B, x1, k1, rfl, rfl, hS1, hB, hx1, hk1, hd, hg, hBp, by rw [Int.natAbs_mul]; exact Nat.Coprime.mul_left cx ck2⟩
theorem Parts.eq {x k : Int} {S d G S1 B : Nat} {x1 k1 : Int} (h : Parts x k S d G S1 B x1 k1) {b dx : Nat} (hS : S = b ^ dx) : (x1 * k1) * (b : Int) ^ dx = (x * k) * B := by
  have e : (b : Int) ^ dx = (S : Int) := by rw [hS, Int.natCast_pow]
  rw [e, h.sd, h.sg, h.xe, h.ke]
  simp only [Int.natCast_mul]
  ac_rfl

end Go.Proofs.Ytghfpidpefdndaa
