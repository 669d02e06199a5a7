/-
  Plain arithmetic of exact numbers: scales, which are powers of the base.
-/
import Derived.Test.YtoobijimfccfgaaProg
namespace Go.Proofs.Ytoobijimfccfgaa

/-- the scale of a depth is at most MaxScale -/
def sclB (b : Nat) (d : Int) : Bool := decide (b = 1) || decide (d ≤ 0) || decide (b ^ d.toNat ≤ 1000000000000000)
/-- the scale of a depth, or 0 -/
def sclV (b : Nat) (d : Int) : Nat := if sclB b d then b ^ d.toNat else 0

theorem pow_succ' (b k : Nat) : b ^ (k + 1) = b ^ k * b := Nat.pow_succ b k
theorem scl_ok {b : Nat} {d : Int} (h : sclB b d = true) : sclV b d = b ^ d.toNat := by simp [sclV, h]
theorem scl_one {d : Int} : sclB 1 d = true ∧ sclV 1 d = 1 := by simp [sclB, sclV]
theorem scl_neg {b : Nat} {d : Int} (h : d ≤ 0) : sclB b d = true ∧ sclV b d = 1 := by
  have : d.toNat = 0 := by omega
  simp [sclB, sclV, h, this]
theorem scl_no {b k : Nat} {d : Int} (hb : 2 ≤ b) (hk : (k : Int) < d) (h : 1000000000000000 < b ^ (k + 1)) : sclB b d = false ∧ sclV b d = 0 := by
  have h1 : b ^ (k + 1) ≤ b ^ d.toNat := Nat.pow_le_pow_right (by omega) (by omega)
  have : sclB b d = false := by
    simp [sclB]; omega
  simp [sclV, this]
theorem scl_yes {b k : Nat} {d : Int} (hk : (k : Int) = d) (h : b ^ k ≤ 1000000000000000) : sclB b d = true ∧ sclV b d = b ^ k := by
  have e : d.toNat = k := by omega
  simp [sclV, sclB, e, h]
theorem pow_bd {b : Nat} (k : Nat) (hb : 1 ≤ b) : 1 ≤ b ^ k := Nat.pow_pos hb
theorem scl_bd {b : Nat} {d : Int} (hb : 1 ≤ b) (h : sclB b d = true) : 1 ≤ sclV b d ∧ sclV b d ≤ 1000000000000000 := by
  rw [scl_ok h]
  refine ⟨pow_bd _ hb, ?_⟩
  simp [sclB] at h
  rcases h with (h | h) | h
  · subst h; simp
  · have : d.toNat = 0 := by omega
    simp [this]
  · exact h
end Go.Proofs.Ytoobijimfccfgaa

/-
  Plain arithmetic: a number over a power of the base in lowest depth, by division by the base and by the greatest common divisor.
-/
namespace Go.Proofs.Ytoobijimfccfgaa

/-- divides by the base as often as the depth lets -/
def strip (b : Nat) : Nat → Int → Int × Nat
  | 0, n => (n, 0)
  | d + 1, n => if n.tmod b = 0 then strip b d (n.tdiv b) else (n, d + 1)

theorem strip_depth (b : Nat) : ∀ d n, (strip b d n).2 ≤ d
  | 0, n => by simp [strip]
  | d + 1, n => by
    simp only [strip]; split
    · have := strip_depth b d (n.tdiv b); omega
    · simp
theorem tdiv_abs {n : Int} {b : Nat} (_hb : 1 ≤ b) : (n.tdiv b).natAbs ≤ n.natAbs := by
  rw [Int.natAbs_tdiv]
  exact Nat.div_le_self _ _
theorem strip_abs (b : Nat) (hb : 1 ≤ b) : ∀ d n, (strip b d n).1.natAbs ≤ n.natAbs
  | 0, n => by simp [strip]
  | d + 1, n => by
    simp only [strip]; split
    · exact Nat.le_trans (strip_abs b hb d _) (tdiv_abs hb)
    · simp
theorem strip_end (b : Nat) : ∀ d n, (strip b d n).2 = 0 ∨ (strip b d n).1.tmod b ≠ 0
  | 0, n => by simp [strip]
  | d + 1, n => by
    simp only [strip]; split
    · exact strip_end b d _
    · next h => exact .inr h
theorem strip_one : ∀ d n, strip 1 d n = (n, 0)
  | 0, n => rfl
  | d + 1, n => by simp only [strip]; rw [if_pos (by simp), show n.tdiv ((1 : Nat) : Int) = n from by simp]; exact strip_one d n
theorem strip_eq (b : Nat) (hb : 1 ≤ b) : ∀ d n, n = (strip b d n).1 * ((b : Int) ^ (d - (strip b d n).2))
  | 0, n => by simp [strip]
  | d + 1, n => by
    simp only [strip]; split
    · next h =>
      have ih := strip_eq b hb d (n.tdiv b)
      have hk := strip_depth b d (n.tdiv b)
      have e : d + 1 - (strip b d (n.tdiv b)).2 = (d - (strip b d (n.tdiv b)).2) + 1 := by omega
      have hn : n = n.tdiv b * b := (Int.tdiv_mul_cancel (Int.dvd_of_tmod_eq_zero h)).symm
      rw [e, Int.pow_succ, ← Int.mul_assoc, ← ih]
      exact hn
    · simp
theorem strip_of {b : Nat} (hb : 1 ≤ b) {q : Int} {k : Nat} : ∀ (d : Nat) (n : Int), k ≤ d → n = q * (b : Int) ^ (d - k) → (k = 0 ∨ q.tmod b ≠ 0) → strip b d n = (q, k)
  | 0, n, hk, hn, _ => by
    obtain rfl : k = 0 := by omega
    simp at hn; simp [strip, hn]
  | d + 1, n, hk, hn, he => by
    by_cases hd : k = d + 1
    · subst hd
      simp at hn
      rcases he with h | h
      · omega
      · simp only [strip]; rw [hn, if_neg h]
    · have e : d + 1 - k = (d - k) + 1 := by omega
      have hn' : n = (q * (b : Int) ^ (d - k)) * b := by rw [hn, e, Int.pow_succ, Int.mul_assoc]
      have h0 : n.tmod b = 0 := by rw [hn']; simp
      have h1 : n.tdiv b = q * (b : Int) ^ (d - k) := by rw [hn']; exact Int.mul_tdiv_cancel _ (by omega)
      simp only [strip]
      rw [if_pos h0]
      exact strip_of hb d _ (by omega) h1 he

/-- what a search for the least depth comes to: a and B have been divided by their greatest common divisor -/
theorem fit_find {b k D : Nat} {a A : Int} {B : Nat} (hb : 1 ≤ b) (hB : 1 ≤ B) (hco : Nat.Coprime a.natAbs B) (heq : a * (b : Int) ^ D = A * B) (hk : k ≤ D)
    (hdvd : B ∣ b ^ k) (hmin : k = 0 ∨ ¬ B ∣ b ^ (k - 1)) : strip b D A = (a * ((b ^ k / B : Nat) : Int), k) := by
  obtain ⟨m, hm⟩ := hdvd
  have hmB : b ^ k / B = m := by rw [hm]; exact Nat.mul_div_cancel_left m (by omega)
  rw [hmB]
  have hB0 : (B : Int) ≠ 0 := by omega
  have hbD : (b : Int) ^ D = (b : Int) ^ k * (b : Int) ^ (D - k) := by rw [← Int.pow_add]; congr 1; omega
  have hbk : (b : Int) ^ k = (B : Int) * (m : Int) := by
    have := congrArg (fun x : Nat => (x : Int)) hm
    simpa using this
  have hA : A = a * (m : Int) * (b : Int) ^ (D - k) := by
    have h1 : A * (B : Int) = (a * (m : Int) * (b : Int) ^ (D - k)) * (B : Int) := by
      rw [← heq, hbD, hbk]
      simp only [Int.mul_comm, Int.mul_left_comm]
    exact Int.eq_of_mul_eq_mul_right hB0 h1
  refine strip_of hb D A hk hA ?_
  rcases hmin with h | h
  · exact .inl h
  · by_cases hk0 : k = 0
    · exact .inl hk0
    refine .inr fun hz => h ?_
    obtain ⟨r, hr⟩ := Int.dvd_of_tmod_eq_zero hz
    -- a m = b r, so a b^(k-1) = B r
    have hb0 : (b : Int) ≠ 0 := by omega
    have hbk1 : (b : Int) ^ k = (b : Int) ^ (k - 1) * b := by
      rw [← Int.pow_succ]; congr 1; omega
    have h2 : (a * (b : Int) ^ (k - 1)) * b = ((B : Int) * r) * b := by
      have : (a * (b : Int) ^ (k - 1)) * b = a * (b : Int) ^ k := by rw [hbk1, Int.mul_assoc]
      rw [this, hbk]
      have : a * ((B : Int) * (m : Int)) = (B : Int) * (a * (m : Int)) := by simp only [Int.mul_left_comm]
      rw [this, hr, Int.mul_assoc, Int.mul_comm (b : Int) r]
    have h3 := Int.eq_of_mul_eq_mul_right hb0 h2
    have h4 : (B : Int) ∣ a * (b : Int) ^ (k - 1) := ⟨r, h3⟩
    have h5 : B ∣ a.natAbs * b ^ (k - 1) := by
      have := Int.natAbs_dvd_natAbs.2 h4
      simpa [Int.natAbs_mul, Int.natAbs_pow] using this
    exact Nat.Coprime.dvd_of_dvd_mul_left (Nat.Coprime.symm hco) h5

theorem fit_ends {b D : Nat} {a A : Int} {B : Nat} (hco : Nat.Coprime a.natAbs B) (heq : a * (b : Int) ^ D = A * B) : B ∣ b ^ D := by
  have h4 : (B : Int) ∣ a * (b : Int) ^ D := ⟨A, by rw [heq, Int.mul_comm]⟩
  have h5 : B ∣ a.natAbs * b ^ D := by
    have := Int.natAbs_dvd_natAbs.2 h4
    simpa [Int.natAbs_mul, Int.natAbs_pow] using this
  exact Nat.Coprime.dvd_of_dvd_mul_left (Nat.Coprime.symm hco) h5
end Go.Proofs.Ytoobijimfccfgaa

/-
  Plain arithmetic: the sum of two valid numbers over powers of the base, as the program and as the reference guard it against overflow.
-/
namespace Go.Proofs.Ytoobijimfccfgaa

/-- the smaller depth first: x is scaled up by e -/
def addCond (b : Nat) (x : Int) (e : Nat) : Bool := decide (x.natAbs * b ^ e ≤ 2000000000000000000)

theorem pow_mul_mono {b m j e : Nat} (hb : 1 ≤ b) (hj : j ≤ e) : m * b ^ j ≤ m * b ^ e := Nat.mul_le_mul_left _ (Nat.pow_le_pow_right hb hj)

/-- beyond the bound the sum is too large, and it cannot be divided -/
theorem add_big {b : Nat} {x y : Int} {e d : Nat} (he : 1 ≤ e) (hd : 1 ≤ d) (hx : 2000000000000000000 < x.natAbs * b ^ e) (hy : y.natAbs ≤ 1000000000000000000) (hyb : y.tmod b ≠ 0) :
    strip b d (x * (b : Int) ^ e + y) = (x * (b : Int) ^ e + y, d) ∧ 1000000000000000000 < (x * (b : Int) ^ e + y).natAbs := by
  constructor
  · cases d with
    | zero => omega
    | succ d =>
      simp only [strip]
      rw [if_neg]
      intro h
      have h1 : (b : Int) ∣ x * (b : Int) ^ e + y := Int.dvd_of_tmod_eq_zero h
      have h2 : (b : Int) ∣ x * (b : Int) ^ e := by
        obtain ⟨k, rfl⟩ : ∃ k, e = k + 1 := ⟨e - 1, by omega⟩
        rw [Int.pow_succ, ← Int.mul_assoc]
        exact Int.dvd_mul_left _ _
      have h3 : (b : Int) ∣ y := (Int.dvd_add_right h2).1 h1
      exact hyb (Int.tmod_eq_zero_of_dvd h3)
  · have h1 : (x * (b : Int) ^ e).natAbs = x.natAbs * b ^ e := by rw [Int.natAbs_mul, Int.natAbs_pow]; simp
    omega
end Go.Proofs.Ytoobijimfccfgaa

/-
  Plain arithmetic: a product over a power of a base, in lowest terms (no program in it).
-/
namespace Go.Proofs.Ytoobijimfccfgaa

theorem strip_step {b d : Nat} {A : Int} (h : A.tmod (b : Int) = 0) : strip b (d + 1) A = strip b d (A.tdiv (b : Int)) := by simp [strip, h]
theorem strip_stop {b d : Nat} {A : Int} (h : ¬ A.tmod (b : Int) = 0) : strip b (d + 1) A = (A, d + 1) := by simp [strip, h]

/-- the division by the base, on sizes -/
def stripN (b : Nat) : Nat → Nat → Nat × Nat
  | 0, n => (n, 0)
  | d + 1, n => if n % b = 0 then stripN b d (n / b) else (n, d + 1)

theorem tmod_abs {A : Int} {b : Nat} : A.tmod (b : Int) = 0 ↔ A.natAbs % b = 0 := by
  have h := Int.natAbs_tmod A (b : Int)
  rw [Int.natAbs_natCast] at h
  omega
theorem strip_abs_eq (b : Nat) : ∀ d (A : Int), (strip b d A).1.natAbs = (stripN b d A.natAbs).1 ∧ (strip b d A).2 = (stripN b d A.natAbs).2
  | 0, A => by simp [strip, stripN]
  | d + 1, A => by
    by_cases h : A.tmod (b : Int) = 0
    · rw [strip_step h]
      have h2 := tmod_abs.1 h
      have e : (A.tdiv (b : Int)).natAbs = A.natAbs / b := by rw [Int.natAbs_tdiv, Int.natAbs_natCast]; rfl
      simp only [stripN, if_pos h2]
      rw [← e]
      exact strip_abs_eq b d _
    · rw [strip_stop h]
      have h2 : ¬ A.natAbs % b = 0 := fun h' => h (tmod_abs.2 h')
      simp [stripN, h2]
/-- the sign stays -/
theorem strip_sign (b : Nat) : ∀ d (A : Int), (0 ≤ A → 0 ≤ (strip b d A).1) ∧ (A ≤ 0 → (strip b d A).1 ≤ 0)
  | 0, A => by simp [strip]
  | d + 1, A => by
    by_cases h : A.tmod (b : Int) = 0
    · rw [strip_step h]
      obtain ⟨i1, i2⟩ := strip_sign b d (A.tdiv (b : Int))
      refine ⟨fun h0 => i1 (Int.tdiv_nonneg h0 (by omega)), fun h0 => i2 ?_⟩
      have e : A.tdiv (b : Int) = -((-A).tdiv (b : Int)) := by rw [Int.neg_tdiv, Int.neg_neg]
      have : 0 ≤ (-A).tdiv (b : Int) := Int.tdiv_nonneg (by omega) (by omega)
      omega
    · rw [strip_stop h]
      exact ⟨fun h0 => h0, fun h0 => h0⟩
/-- once divided, nothing more is divided -/
theorem strip_twice (b : Nat) : ∀ d (A : Int), strip b (strip b d A).2 (strip b d A).1 = strip b d A
  | 0, A => by simp [strip]
  | d + 1, A => by
    by_cases h : A.tmod (b : Int) = 0
    · rw [strip_step h]; exact strip_twice b d _
    · rw [strip_stop h]; exact strip_stop h
theorem stripN_le (b : Nat) : ∀ d n, (stripN b d n).1 ≤ n
  | 0, n => by simp [stripN]
  | d + 1, n => by
    simp only [stripN]
    split
    · exact Nat.le_trans (stripN_le b d _) (Nat.div_le_self _ _)
    · exact Nat.le_refl _
theorem stripN_dep (b : Nat) : ∀ d n, (stripN b d n).2 ≤ d
  | 0, n => by simp [stripN]
  | d + 1, n => by
    simp only [stripN]
    split
    · exact Nat.le_trans (stripN_dep b d _) (by omega)
    · exact Nat.le_refl _

/-- the two words of a quotient -/
theorem words_div {hi lo b : Nat} (hlo : lo < 18446744073709551616) (hb : 1 ≤ b) :
    (hi * 18446744073709551616 + lo) / b = hi / b * 18446744073709551616 + (hi % b * 18446744073709551616 + lo) / b ∧ (hi * 18446744073709551616 + lo) % b = (hi % b * 18446744073709551616 + lo) % b ∧ (hi % b * 18446744073709551616 + lo) / b < 18446744073709551616 := by
  have h := Nat.div_add_mod hi b
  have hm := Nat.mod_lt hi (show 0 < b by omega)
  have e : hi * 18446744073709551616 + lo = (hi % b * 18446744073709551616 + lo) + b * (hi / b * 18446744073709551616) := by
    have : hi * 18446744073709551616 = (b * (hi / b) + hi % b) * 18446744073709551616 := by rw [h]
    rw [this, Nat.add_mul, Nat.mul_assoc]
    omega
  refine ⟨?_, ?_, ?_⟩
  · rw [e, Nat.add_mul_div_left _ _ (by omega), Nat.add_comm]
  · rw [e, Nat.add_mul_mod_self_left]
  · rw [Nat.div_lt_iff_lt_mul (by omega)]
    have : (hi % b + 1) * 18446744073709551616 ≤ b * 18446744073709551616 := Nat.mul_le_mul_right _ (by omega)
    rw [Nat.add_mul] at this
    omega

theorem least_dvd {B b : Nat} : ∀ k, B ∣ b ^ k → ∃ k', k' ≤ k ∧ B ∣ b ^ k' ∧ (k' = 0 ∨ ¬ B ∣ b ^ (k' - 1))
  | 0, h => ⟨0, Nat.le_refl _, h, .inl rfl⟩
  | k + 1, h => by
    by_cases h1 : B ∣ b ^ k
    · obtain ⟨k', h2, h3, h4⟩ := least_dvd k h1
      exact ⟨k', by omega, h3, h4⟩
    · exact ⟨k + 1, Nat.le_refl _, h, .inr (by simpa using h1)⟩
theorem strip_ge {b D B : Nat} {a A : Int} (hb : 1 ≤ b) (hB : 1 ≤ B) (hco : Nat.Coprime a.natAbs B) (heq : a * (b : Int) ^ D = A * B) : a.natAbs ≤ (strip b D A).1.natAbs := by
  obtain ⟨k, hk, hd, hmin⟩ := least_dvd D (fit_ends hco heq)
  rw [fit_find hb hB hco heq hk hd hmin]
  show a.natAbs ≤ (a * ((b ^ k / B : Nat) : Int)).natAbs
  rw [Int.natAbs_mul, Int.natAbs_natCast]
  exact Nat.le_mul_of_pos_right _ (Nat.div_pos (Nat.le_of_dvd (Nat.pow_pos hb) hd) hB)

/-- the parts of a product -/
structure Parts (x k : Int) (S d G S1 B : Nat) (x1 k1 : Int) : Prop where
  gd : Nat.gcd k.natAbs S = d
  gg : Nat.gcd x.natAbs S1 = G
  sd : S = d * S1
  sg : S1 = G * B
  xe : x = G * x1
  ke : k = d * k1
  d1 : 1 ≤ d
  g1 : 1 ≤ G
  b1 : 1 ≤ B
  co : Nat.Coprime (x1 * k1).natAbs B
theorem parts (x k : Int) {S : Nat} (hS : 1 ≤ S) : ∃ d G S1 B x1 k1, Parts x k S d G S1 B x1 k1 := by
  obtain ⟨S1, hS1⟩ := Nat.gcd_dvd_right k.natAbs S
  obtain ⟨k1, hk1⟩ : ((Nat.gcd k.natAbs S : Nat) : Int) ∣ k := Int.ofNat_dvd_left.2 (Nat.gcd_dvd_left _ _)
  have hd : 1 ≤ Nat.gcd k.natAbs S := Nat.gcd_pos_of_pos_right _ (by omega)
  have hS1p : 1 ≤ S1 := by
    rcases Nat.eq_zero_or_pos S1 with h | h
    · rw [h] at hS1; omega
    · exact h
  obtain ⟨B, hB⟩ := Nat.gcd_dvd_right x.natAbs S1
  obtain ⟨x1, hx1⟩ : ((Nat.gcd x.natAbs S1 : Nat) : Int) ∣ x := Int.ofNat_dvd_left.2 (Nat.gcd_dvd_left _ _)
  have hg : 1 ≤ Nat.gcd x.natAbs S1 := Nat.gcd_pos_of_pos_right _ (by omega)
  have hBp : 1 ≤ B := by
    rcases Nat.eq_zero_or_pos B with h | h
    · rw [h] at hB; omega
    · exact h
  have ck : Nat.Coprime k1.natAbs S1 := by
    have h1 : k.natAbs = Nat.gcd k.natAbs S * k1.natAbs := by
      have := congrArg Int.natAbs hk1
      rwa [Int.natAbs_mul, Int.natAbs_natCast] at this
    have h2 : Nat.gcd k.natAbs S = Nat.gcd k.natAbs S * Nat.gcd k1.natAbs S1 := by
      rw [← Nat.gcd_mul_left, ← h1, ← hS1]
    exact Nat.eq_of_mul_eq_mul_left (show 0 < Nat.gcd k.natAbs S from hd) (by rw [← h2, Nat.mul_one])
  have cx : Nat.Coprime x1.natAbs B := by
    have h1 : x.natAbs = Nat.gcd x.natAbs S1 * x1.natAbs := by
      have := congrArg Int.natAbs hx1
      rwa [Int.natAbs_mul, Int.natAbs_natCast] at this
    have h2 : Nat.gcd x.natAbs S1 = Nat.gcd x.natAbs S1 * Nat.gcd x1.natAbs B := by
      rw [← Nat.gcd_mul_left, ← h1, ← hB]
    exact Nat.eq_of_mul_eq_mul_left (show 0 < Nat.gcd x.natAbs S1 from hg) (by rw [← h2, Nat.mul_one])
  have ck2 : Nat.Coprime k1.natAbs B := Nat.Coprime.coprime_dvd_right ⟨_, by rw [Nat.mul_comm]; exact hB⟩ ck
  exact ⟨_, _, S1, B, x1, k1, rfl, rfl, hS1, hB, hx1, hk1, hd, hg, hBp, by rw [Int.natAbs_mul]; exact Nat.Coprime.mul_left cx ck2⟩
theorem Parts.eq {x k : Int} {S d G S1 B : Nat} {x1 k1 : Int} (h : Parts x k S d G S1 B x1 k1) {b dx : Nat} (hS : S = b ^ dx) : (x1 * k1) * (b : Int) ^ dx = (x * k) * B := by
  have e : (b : Int) ^ dx = (S : Int) := by rw [hS, Int.natCast_pow]
  rw [e, h.sd, h.sg, h.xe, h.ke]
  simp only [Int.natCast_mul]
  ac_rfl

end Go.Proofs.Ytoobijimfccfgaa
