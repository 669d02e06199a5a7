/-
  Plain arithmetic: a number over a power of the base in lowest depth, by division by the base and by the greatest common divisor.
-/
import Derived.Test.YtokddngcfkimlaaDoorMathEx
namespace Go.Proofs.YtokddngcfkimlaaDoor

/-- divides by the base as often as the depth lets -/
def strip (b : Nat) : Nat → Int → Int × Nat
  | 0, n => (n, 0)
  | d + 1, n => if n.tmod b = 0 then strip b d (n.tdiv b) else (n, d + 1)

theorem strip_depth (b : Nat) : ∀ d n, (strip b d n).2 ≤ d
  | 0, n => by simp [strip]
  | d + 1, n => by
    simp only [strip]; split
    · have := strip_depth b d (n.tdiv b); omega
    · simp
theorem tdiv_abs {n : Int} {b : Nat} (_hb : 1 ≤ b) : (n.tdiv b).natAbs ≤ n.natAbs := by
  rw [Int.natAbs_tdiv]
  exact Nat.div_le_self _ _
theorem strip_abs (b : Nat) (hb : 1 ≤ b) : ∀ d n, (strip b d n).1.natAbs ≤ n.natAbs
  | 0, n => by simp [strip]
  | d + 1, n => by
    simp only [strip]; split
    · exact Nat.le_trans (strip_abs b hb d _) (tdiv_abs hb)
    · simp
theorem strip_end (b : Nat) : ∀ d n, (strip b d n).2 = 0 ∨ (strip b d n).1.tmod b ≠ 0
  | 0, n => by simp [strip]
  | d + 1, n => by
    simp only [strip]; split
    · exact strip_end b d _
    · next h => exact .inr h
theorem strip_one : ∀ d n, strip 1 d n = (n, 0)
  | 0, n => rfl
  | d + 1, n => by simp only [strip]; rw [if_pos (by simp), show n.tdiv ((1 : Nat) : Int) = n from by simp]; exact strip_one d n
theorem strip_eq (b : Nat) (hb : 1 ≤ b) : ∀ d n, n = (strip b d n).1 * ((b : Int) ^ (d - (strip b d n).2))
  | 0, n => by simp [strip]
  | d + 1, n => by
    simp only [strip]; split
    · next h =>
      have ih := strip_eq b hb d (n.tdiv b)
      have hk := strip_depth b d (n.tdiv b)
      have e : d + 1 - (strip b d (n.tdiv b)).2 = (d - (strip b d (n.tdiv b)).2) + 1 := by omega
      have hn : n = n.tdiv b * b := (Int.tdiv_mul_cancel (Int.dvd_of_tmod_eq_zero h)).symm
      rw [e, Int.pow_succ, ← Int.mul_assoc, ← ih]
      exact hn
    · simp
theorem strip_of {b : Nat} (hb : 1 ≤ b) {q : Int} {k : Nat} : ∀ (d : Nat) (n : Int), k ≤ d → n = q * (b : Int) ^ (d - k) → (k = 0 ∨ q.tmod b ≠ 0) → strip b d n = (q, k)
  | 0, n, hk, hn, _ => by
    obtain rfl : k = 0 := by omega
    simp at hn; simp [strip, hn]
  | d + 1, n, hk, hn, he => by
    by_cases hd : k = d + 1
    · subst hd
      simp at hn
      rcases he with h | h
      · omega
      · simp only [strip]; rw [hn, if_neg h]
    · have e : d + 1 - k = (d - k) + 1 := by omega
      have hn' : n = (q * (b : Int) ^ (d - k)) * b := by rw [hn, e, Int.pow_succ, Int.mul_assoc]
      have h0 : n.tmod b = 0 := by rw [hn']; simp
      have h1 : n.tdiv b = q * (b : Int) ^ (d - k) := by rw [hn']; exact Int.mul_tdiv_cancel _ (by omega)
      simp only [strip]
      rw [if_pos h0]
      exact strip_of hb d _ (by omega) h1 he

/-- what a search for the least depth comes to: a and B have been divided by their greatest common divisor -/
theorem fit_find {b k D : Nat} {a A : Int} {B : Nat} (hb : 1 ≤ b) (hB : 1 ≤ B) (hco : Nat.Coprime a.natAbs B) (heq : a * (b : Int) ^ D = A * B) (hk : k ≤ D)
    (hdvd : B ∣ b ^ k) (hmin : k = 0 ∨ ¬ B ∣ b ^ (k - 1)) : strip b D A = (a * ((b ^ k / B : Nat) : Int), k) := by
  obtain ⟨m, hm⟩ := hdvd
  have hmB : b ^ k / B = m := by rw [hm]; exact Nat.mul_div_cancel_left m (by omega)
  rw [hmB]
  have hB0 : (B : Int) ≠ 0 := by omega
  have hbD : (b : Int) ^ D = (b : Int) ^ k * (b : Int) ^ (D - k) := by rw [← Int.pow_add]; congr 1; omega
  have hbk : (b : Int) ^ k = (B : Int) * (m : Int) := by
    have := congrArg (fun x : Nat => (x : Int)) hm
    simpa using this
  have hA : A = a * (m : Int) * (b : Int) ^ (D - k) := by
    have h1 : A * (B : Int) = (a * (m : Int) * (b : Int) ^ (D - k)) * (B : Int) := by
      rw [← heq, hbD, hbk]
      simp only [Int.mul_comm, Int.mul_left_comm]
    exact Int.eq_of_mul_eq_mul_right hB0 h1
  refine strip_of hb D A hk hA ?_
  rcases hmin with h | h
  · exact .inl h
  · by_cases hk0 : k = 0
    · exact .inl hk0
    refine .inr fun hz => h ?_
    obtain ⟨r, hr⟩ := Int.dvd_of_tmod_eq_zero hz
    -- a m = b r, so a b^(k-1) = B r
    have hb0 : (b : Int) ≠ 0 := by omega
    have hbk1 : (b : Int) ^ k = (b : Int) ^ (k - 1) * b := by
      rw [← Int.pow_succ]; congr 1; omega
    have h2 : (a * (b : Int) ^ (k - 1)) * b = ((B : Int) * r) * b := by
      have : (a * (b : Int) ^ (k - 1)) * b = a * (b : Int) ^ k := by rw [hbk1, Int.mul_assoc]
      rw [this, hbk]
      have : a * ((B : Int) * (m : Int)) = (B : Int) * (a * (m : Int)) := by simp only [Int.mul_left_comm]
      rw [this, hr, Int.mul_assoc, Int.mul_comm (b : Int) r]
    have h3 := Int.eq_of_mul_eq_mul_right hb0 h2
    have h4 : (B : Int) ∣ a * (b : Int) ^ (k - 1) := ⟨r, h3⟩
    have h5 : B ∣ a.natAbs * b ^ (k - 1) := by
      have := Int.natAbs_dvd_natAbs.2 h4
      simpa [Int.natAbs_mul, Int.natAbs_pow] using this
    exact Nat.Coprime.dvd_of_dvd_mul_left (Nat.Coprime.symm hco) h5

theorem fit_ends {b D : Nat} {a A : Int} {B : Nat} (hco : Nat.Coprime a.natAbs B) (heq : a * (b : Int) ^ D = A * B) : B ∣ b ^ D := by
  have h4 : (B : Int) ∣ a * (b : Int) ^ D := ⟨A, by rw [heq, Int.mul_comm]⟩
  have h5 : B ∣ a.natAbs * b ^ D := by
    have := Int.natAbs_dvd_natAbs.2 h4
    simpa [Int.natAbs_mul, Int.natAbs_pow] using this
  exact Nat.Coprime.dvd_of_dvd_mul_left (Nat.Coprime.symm hco) h5
end Go.Proofs.YtokddngcfkimlaaDoor
