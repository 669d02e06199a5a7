/-
  Plain arithmetic: two fractions over powers of a base, compared by their digits.
-/
import Derived.Test.YtdifaojcjcnokaaMill
namespace Go.Proofs.Ytdifaojcjcnokaa

def cmp (A B : Int) : Int := if A < B then -1 else if B < A then 1 else 0

/-- x over b^d, times b^i, rounded down -/
def flr (b : Nat) (x : Int) (d i : Nat) : Int := x * (b : Int) ^ i / (b : Int) ^ d
/-- the digits: the whole part first -/
def dgt (b : Nat) (x : Int) (d : Nat) : Nat → Int
  | 0 => flr b x d 0
  | i + 1 => flr b x d (i + 1) - b * flr b x d i

theorem powI {b : Nat} (hb : 1 ≤ b) (k : Nat) : (0 : Int) < (b : Int) ^ k := Int.pow_pos (by omega)

theorem flr_low {b : Nat} (hb : 1 ≤ b) (x : Int) (d i : Nat) : flr b x d i * (b : Int) ^ d ≤ x * (b : Int) ^ i := Int.ediv_mul_le _ (by have := powI hb d; omega)
theorem flr_high {b : Nat} (hb : 1 ≤ b) (x : Int) (d i : Nat) : x * (b : Int) ^ i < (flr b x d i + 1) * (b : Int) ^ d := Int.lt_ediv_add_one_mul_self _ (powI hb d)

theorem flr_less {b : Nat} (hb : 1 ≤ b) {x y : Int} {dx dy i : Nat} (h : flr b x dx i < flr b y dy i) : x * (b : Int) ^ dy < y * (b : Int) ^ dx := by
  have h1 := flr_high hb x dx i
  have h2 := flr_low hb y dy i
  have p1 := powI hb dx
  have p2 := powI hb dy
  have p3 := powI hb i
  have h3 : x * (b : Int) ^ i < flr b y dy i * (b : Int) ^ dx := Int.lt_of_lt_of_le h1 (Int.mul_le_mul_of_nonneg_right (by omega) (by omega))
  have h4 : x * (b : Int) ^ i * (b : Int) ^ dy < flr b y dy i * (b : Int) ^ dx * (b : Int) ^ dy := Int.mul_lt_mul_of_pos_right h3 p2
  have h5 : flr b y dy i * (b : Int) ^ dy * (b : Int) ^ dx ≤ y * (b : Int) ^ i * (b : Int) ^ dx := Int.mul_le_mul_of_nonneg_right h2 (by omega)
  have e : flr b y dy i * (b : Int) ^ dx * (b : Int) ^ dy = flr b y dy i * (b : Int) ^ dy * (b : Int) ^ dx := Int.mul_right_comm _ _ _
  have h6 : (x * (b : Int) ^ dy) * (b : Int) ^ i < (y * (b : Int) ^ dx) * (b : Int) ^ i := by
    rw [Int.mul_right_comm x, Int.mul_right_comm y]; omega
  exact Int.lt_of_mul_lt_mul_right h6 (by omega)

theorem flr_exact {b : Nat} (hb : 1 ≤ b) {x : Int} {d i : Nat} (h : d ≤ i) : flr b x d i * (b : Int) ^ d = x * (b : Int) ^ i := by
  obtain ⟨k, rfl⟩ := Nat.exists_eq_add_of_le h
  have e : x * (b : Int) ^ (d + k) = x * (b : Int) ^ k * (b : Int) ^ d := by rw [Int.pow_add, Int.mul_assoc, Int.mul_comm ((b : Int) ^ k)]
  unfold flr
  rw [e, Int.mul_ediv_cancel _ (by have := powI hb d; omega)]

theorem flr_same {b : Nat} (hb : 1 ≤ b) {x y : Int} {dx dy i : Nat} (hx : dx ≤ i) (hy : dy ≤ i) (h : flr b x dx i = flr b y dy i) : x * (b : Int) ^ dy = y * (b : Int) ^ dx := by
  have h1 := flr_exact hb (x := x) hx
  have h2 := flr_exact hb (x := y) hy
  have p3 := powI hb i
  rw [h] at h1
  have h3 : (x * (b : Int) ^ dy) * (b : Int) ^ i = (y * (b : Int) ^ dx) * (b : Int) ^ i := by
    rw [Int.mul_right_comm x, Int.mul_right_comm y, ← h1, ← h2, Int.mul_right_comm]
  exact Int.eq_of_mul_eq_mul_right (by omega) h3

theorem dgt_flr {b : Nat} {x y : Int} {dx dy : Nat} : ∀ i, (∀ k, k < i + 1 → dgt b x dx k = dgt b y dy k) → flr b x dx i = flr b y dy i
  | 0, h => h 0 (by omega)
  | i + 1, h => by
    have ih := dgt_flr i (fun k hk => h k (by omega))
    have h1 := h (i + 1) (by omega)
    simp only [dgt, ih] at h1
    omega
theorem dgt_less {b : Nat} (hb : 1 ≤ b) {x y : Int} {dx dy i : Nat} (h : ∀ k, k < i → dgt b x dx k = dgt b y dy k) (hl : dgt b x dx i < dgt b y dy i) : x * (b : Int) ^ dy < y * (b : Int) ^ dx := by
  refine flr_less hb (i := i) ?_
  cases i with
  | zero => exact hl
  | succ i =>
    have ih := dgt_flr i h
    simp only [dgt, ih] at hl
    omega
theorem dgt_same {b : Nat} (hb : 1 ≤ b) {x y : Int} {dx dy i : Nat} (hx : dx ≤ i) (hy : dy ≤ i) (h : ∀ k, k < i + 1 → dgt b x dx k = dgt b y dy k) : x * (b : Int) ^ dy = y * (b : Int) ^ dx :=
  flr_same hb hx hy (dgt_flr i h)

/-- beyond the depth the digits are 0 -/
theorem dgt_far {b : Nat} (hb : 1 ≤ b) {x : Int} {d i : Nat} (h : d < i) : dgt b x d i = 0 := by
  obtain ⟨i, rfl⟩ : ∃ j, i = j + 1 := ⟨i - 1, by omega⟩
  have h1 := flr_exact hb (x := x) (show d ≤ i + 1 by omega)
  have h2 := flr_exact hb (x := x) (show d ≤ i by omega)
  have p := powI hb d
  have h3 : flr b x d (i + 1) * (b : Int) ^ d = (b * flr b x d i) * (b : Int) ^ d := by
    rw [h1, Int.mul_assoc, h2, Int.pow_succ, ← Int.mul_assoc, Int.mul_comm]
  have h4 := Int.eq_of_mul_eq_mul_right (by omega) h3
  simp only [dgt]
  omega

/-- the digits so far -/
def digs (b : Nat) (x : Int) (d k : Nat) : List Int := (List.range (k + 1)).map (dgt b x d)
theorem digs_succ (b : Nat) (x : Int) (d k : Nat) : digs b x d (k + 1) = digs b x d k ++ [dgt b x d (k + 1)] := by simp [digs, List.range_succ]
theorem digs_length (b : Nat) (x : Int) (d k : Nat) : (digs b x d k).length = k + 1 := by simp [digs]
theorem digs_get {b : Nat} {x : Int} {d k i : Nat} (h : i ≤ k) : (digs b x d k).getD i 0 = dgt b x d i := by
  simp [digs, List.getD, show i < k + 1 by omega]

theorem flr_low_eq {b : Nat} (hb : 1 ≤ b) {x : Int} {d i : Nat} (h : i ≤ d) : flr b x d i = x / (b : Int) ^ (d - i) := by
  obtain ⟨k, rfl⟩ := Nat.exists_eq_add_of_le h
  unfold flr
  rw [Int.pow_add, Nat.add_sub_cancel_left, Int.mul_comm ((b : Int) ^ i), Int.mul_ediv_mul_of_pos_left _ _ (powI hb i)]
/-- one more digit -/
theorem dgt_step {b : Nat} (hb : 1 ≤ b) {x : Int} {d k m M : Nat} (h : k < d) (hm : m = b ^ (d - (k + 1))) (hM : M = b ^ (d - k)) : M / b = m ∧ x % (M : Int) / (m : Int) = dgt b x d (k + 1) ∧ x % (M : Int) % (m : Int) = x % (m : Int) := by
  have e : M = m * b := by rw [hM, hm, ← Nat.pow_succ]; congr 1; omega
  have hm0 : 0 < m := by rw [hm]; exact Nat.pow_pos hb
  have f1 := flr_low_eq hb (x := x) (show k + 1 ≤ d by omega)
  have f2 := flr_low_eq hb (x := x) (show k ≤ d by omega)
  have c1 : (b : Int) ^ (d - (k + 1)) = (m : Int) := by rw [hm]; exact (Int.natCast_pow _ _).symm
  have c2 : (b : Int) ^ (d - k) = (M : Int) := by rw [hM]; exact (Int.natCast_pow _ _).symm
  rw [c1] at f1
  rw [c2] at f2
  refine ⟨by rw [e]; exact Nat.mul_div_cancel _ hb, ?_, ?_⟩
  · simp only [dgt]
    rw [f1, f2, Int.emod_def, e, Int.natCast_mul]
    have e2 : x - (m : Int) * (b : Int) * (x / ((m : Int) * (b : Int))) = x + (m : Int) * (-((b : Int) * (x / ((m : Int) * (b : Int))))) := by
      rw [Int.mul_neg, ← Int.mul_assoc]; rfl
    rw [e2, Int.add_mul_ediv_left _ _ (by omega)]
    rfl
  · rw [e, Int.natCast_mul]
    exact Int.emod_emod_of_dvd _ ⟨b, rfl⟩
end Go.Proofs.Ytdifaojcjcnokaa
