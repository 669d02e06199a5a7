/-
  Plain arithmetic: the position with a number, digit by digit; and the number of a position.
-/
import Derived.Test.YtgfpojneeekgkaaMathCh
namespace Go.Proofs.Ytgfpojneeekgkaa

/-- (what is left, what remains of the number) behind the digit of element i -/
def digL (i : Nat) : Nat → Nat → Nat × Nat
  | 0, n => (0, n)
  | l + 1, n => if chs (l + 1) i ≤ n then digL i l (n - chs (l + 1) i) else (l + 1, n)

theorem digL_le (i : Nat) : ∀ l n, (digL i l n).1 ≤ l
  | 0, n => by simp [digL]
  | l + 1, n => by
    simp only [digL]
    split
    · have := digL_le i l (n - chs (l + 1) i); omega
    · simp

theorem digL_lt (i : Nat) (hi : i ≤ 24) : ∀ l n, l ≤ 15 → n < chs l (i + 1) → (digL i l n).2 < chs (digL i l n).1 i
  | 0, n, _, h => by
    have h0 := chs_zero (i := i + 1) (by omega)
    have h1 := chs_zero (i := i) (by omega)
    simp only [digL]; omega
  | l + 1, n, hl, h => by
    simp only [digL]
    split
    · refine digL_lt i hi l _ (by omega) ?_
      have := chs_pascal (m := l) (i := i) (by omega) (by omega)
      omega
    · show n < chs (l + 1) i
      omega

theorem digL_step {i l n : Nat} (h : chs l i ≤ n) (hn : n < chs l (i + 1)) (hi : i ≤ 24) (hl : l ≤ 15) :
    1 ≤ l ∧ digL i l n = digL i (l - 1) (n - chs l i) ∧ n - chs l i < chs (l - 1) (i + 1) := by
  cases l with
  | zero =>
    have h0 := chs_zero (i := i + 1) (by omega)
    have h1 := chs_zero (i := i) (by omega)
    omega
  | succ l =>
    have := chs_pascal (m := l) (i := i) (by omega) (by omega)
    refine ⟨by omega, ?_, ?_⟩
    · simp only [digL, if_pos h]; rfl
    · simp; omega
theorem digL_stop {i l n : Nat} (h : n < chs l i) : digL i l n = (l, n) := by
  cases l with
  | zero => simp [digL]
  | succ l => simp only [digL]; rw [if_neg (by omega)]

/-- the first i elements of the position with a number -/
def posAt : Nat → Nat → Nat → List Int
  | 0, _, _ => []
  | i + 1, l, n => posAt i (digL i l n).1 (digL i l n).2 ++ [(l : Int) - ((digL i l n).1 : Int)]
theorem posAt_length : ∀ i l n, (posAt i l n).length = i
  | 0, _, _ => rfl
  | i + 1, l, n => by simp [posAt, posAt_length i]

/-- what has been written when i elements remain -/
def halfDone (i : Nat) (done : List Int) : List Int := List.replicate i 0 ++ done
theorem halfDone_length (i : Nat) (done : List Int) : (halfDone i done).length = i + done.length := by simp [halfDone]
theorem halfDone_succ (j : Nat) (done : List Int) : halfDone (j + 1) done = halfDone j (0 :: done) := by
  simp [halfDone, List.replicate_succ']
theorem halfDone_get (j : Nat) (x : Int) (done : List Int) : (halfDone j (x :: done))[j]? = some x := by
  simp [halfDone]
theorem halfDone_set (j : Nat) (x y : Int) (done : List Int) : (halfDone j (x :: done)).set j y = halfDone j (y :: done) := by
  simp [halfDone]

/-- the numbers of positions that come before by element i alone: d of them -/
def skipTo (i left : Nat) : Nat → Nat
  | 0 => 0
  | d + 1 => skipTo i left d + chs (left - d) i
theorem skipTo_pascal (i left : Nat) (hi : i ≤ 24) (hl : left ≤ 15) : ∀ d, d ≤ left → skipTo i left d + chs (left - d) (i + 1) = chs left (i + 1)
  | 0, _ => by simp [skipTo]
  | d + 1, h => by
    have ih := skipTo_pascal i left hi hl d (by omega)
    have := chs_pascal (m := left - (d + 1)) (i := i) (by omega) (by omega)
    have e : left - (d + 1) + 1 = left - d := by omega
    rw [e] at this
    simp only [skipTo]
    omega
end Go.Proofs.Ytgfpojneeekgkaa
