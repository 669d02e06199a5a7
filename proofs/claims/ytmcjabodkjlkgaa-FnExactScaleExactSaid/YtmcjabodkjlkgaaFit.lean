/-
  Contracts of the arithmetic of exact numbers: absolute value, greatest common divisor, product with a bound, a fraction in lowest depth (reference) and a number over a power of the base in lowest depth (program).
-/
import Derived.Test.YtmcjabodkjlkgaaIsEx
import Derived.Test.YtmcjabodkjlkgaaMathFit
import Derived.Test.YtmcjabodkjlkgaaMathCh
import Derived.WalkLawsBesides
namespace Go.Proofs.Ytmcjabodkjlkgaa
open Go.RowKit

theorem absolute_any (x : Int) (hx : -9223372036854775807 ≤ x ∧ x ≤ 9223372036854775807) (w : World) :
    Calls Try.prog 127 #[.int .i64 x] w fun e w' => e = .returned (.int .i64 x.natAbs) ∧ w = w' := by
  go_enter Try.func127, Try.ntmps127
  go_wp2
  all_goals (go_ret; exact ⟨ret_int (by omega), rfl⟩)

theorem max_neg {x : Int} : max x (-x) = (x.natAbs : Int) := by omega

set_option maxHeartbeats 400000 in
theorem l09Gcd_any (x y : Int) (hx : -9223372036854775807 ≤ x ∧ x ≤ 9223372036854775807) (hy : -9223372036854775807 ≤ y ∧ y ≤ 9223372036854775807) (w : World) :
    Calls Try.prog 122 #[.int .i64 x, .int .i64 y] w fun e w' => e = .returned (.int .i64 (Nat.gcd x.natAbs y.natAbs)) ∧ w = w' := by
  go_enter Try.func122, Try.ntmps122
  go_wp2
  all_goals
    go_loop [0, 1, 5] (fun a b _ => ∃ u v : Nat, a = .int .i64 u ∧ b = .int .i64 v ∧ u ≤ 9223372036854775807 ∧ v ≤ 9223372036854775807 ∧ Nat.gcd u v = Nat.gcd x.natAbs y.natAbs) (fun _ b _ => (intOf b).toNat)
    case atStart => exact ⟨x.natAbs, y.natAbs, num (by omega), num (by omega), by omega, by omega, rfl⟩
    case round =>
      obtain ⟨u, v, rfl, rfl, hu, hv, hg⟩ := hrel
      have HG := hid hg
      clear hg
      by_cases h0 : v = 0
      · have hz : ((v : Int) != 0) = false := by simp; omega
        have H0 := hid h0
        clear h0
        go_wp2
        go_ret
        exact ⟨ret_int (by have := HG.out; rw [H0.out, Nat.gcd_zero_right] at this; rw [this]), rfl⟩
      · have hz : ((v : Int) != 0) = true := by simp; omega
        have hlt : u % v < v := Nat.mod_lt _ (by omega)
        go_wp2
        go_round
        case rel => exact ⟨v, u % v, rfl, num (by simp), hv, by omega, by rw [← HG.out, Nat.gcd_comm v, ← Nat.gcd_rec, Nat.gcd_comm]⟩
        case measure =>
          have e : (u : Int) % (v : Int) = ((u % v : Nat) : Int) := by simp
          simp only [intOf, e]; omega

/-- what l09Times returns -/
def timesOk (x y : Int) : Bool := decide (x.natAbs * y.natAbs ≤ 1000000000000000000)
def timesV (x y : Int) : Int := if timesOk x y then x * y else 0

theorem times_iff {x y : Nat} (hy : 1 ≤ y) : (1000000000000000000 / (y : Int) < (x : Int)) ↔ ¬ x * y ≤ 1000000000000000000 := by
  have h1 : (1000000000000000000 : Int) / (y : Int) = ((1000000000000000000 / y : Nat) : Int) := by simp
  rw [h1]
  have h2 : x ≤ 1000000000000000000 / y ↔ x * y ≤ 1000000000000000000 := Nat.le_div_iff_mul_le hy
  rw [← h2]
  omega

set_option maxHeartbeats 400000 in
theorem l09Times_any (x y : Int) (hx : -9223372036854775807 ≤ x ∧ x ≤ 9223372036854775807) (hy : -9223372036854775807 ≤ y ∧ y ≤ 9223372036854775807) (w : World) :
    Calls Try.prog 123 #[.int .i64 x, .int .i64 y] w fun e w' => e = .returned (.tuple #[.int .i64 (timesV x y), .bool (timesOk x y)]) ∧ w = w' := by
  by_cases hx0 : x = 0
  · subst hx0
    go_enter Try.func123, Try.ntmps123
    go_wp2
    go_ret2
    exact ⟨by simp [timesV, timesOk], rfl⟩
  · have hx1 : (x != 0) = true := by simpa using hx0
    by_cases hy0 : y = 0
    · subst hy0
      go_enter Try.func123, Try.ntmps123
      go_wp2
      go_ret2
      exact ⟨by simp [timesV, timesOk], rfl⟩
    · have hy1 : (y != 0) = true := by simpa using hy0
      obtain ⟨m, hxm⟩ := x.eq_nat_or_neg
      obtain ⟨n, hyn⟩ := y.eq_nat_or_neg
      have m1 : 1 ≤ m := by omega
      have n1 : 1 ≤ n := by omega
      have m2 : m ≤ 9223372036854775807 := by omega
      have n2 : n ≤ 9223372036854775807 := by omega
      have ht := times_iff (x := m) (y := n) n1
      by_cases hok : m * n ≤ 1000000000000000000
      · have htf : (m : Int) ≤ 1000000000000000000 / (n : Int) := by
          have := mt ht.1 (by simpa using hok); omega
        have hp0 : 0 ≤ (m : Int) * (n : Int) := Int.mul_nonneg (by omega) (by omega)
        have hp1 : (m : Int) * (n : Int) ≤ 1000000000000000000 := (castmul hok rfl).2
        have q1 : (m : Int) * -(n : Int) = -((m : Int) * (n : Int)) := Int.mul_neg _ _
        have q2 : -(m : Int) * (n : Int) = -((m : Int) * (n : Int)) := Int.neg_mul _ _
        have q3 : -(m : Int) * -(n : Int) = (m : Int) * (n : Int) := Int.neg_mul_neg _ _
        have r1 : -1000000000000000000 ≤ (m : Int) * -(n : Int) ∧ (m : Int) * -(n : Int) ≤ 0 := by omega
        have r2 : -1000000000000000000 ≤ -(m : Int) * (n : Int) ∧ -(m : Int) * (n : Int) ≤ 0 := by omega
        have r3 : 0 ≤ -(m : Int) * -(n : Int) ∧ -(m : Int) * -(n : Int) ≤ 1000000000000000000 := by omega
        have HOK := hid hok
        clear ht hok q1 q2 q3
        rcases hxm with rfl | rfl <;> rcases hyn with rfl | rfl
        · have x3 : ¬ (m : Int) < -(m : Int) := by omega
          have y3 : ¬ (n : Int) < -(n : Int) := by omega
          go_enter Try.func123, Try.ntmps123
          go_wp2
          go_ret2
          exact ⟨by simp [timesV, timesOk, HOK.out], rfl⟩
        · have x3 : ¬ (m : Int) < -(m : Int) := by omega
          have y3 : -(n : Int) < (n : Int) := by omega
          go_enter Try.func123, Try.ntmps123
          go_wp2
          go_ret2
          exact ⟨by simp [timesV, timesOk, HOK.out], rfl⟩
        · have x3 : -(m : Int) < (m : Int) := by omega
          have y3 : ¬ (n : Int) < -(n : Int) := by omega
          go_enter Try.func123, Try.ntmps123
          go_wp2
          go_ret2
          exact ⟨by simp [timesV, timesOk, HOK.out], rfl⟩
        · have x3 : -(m : Int) < (m : Int) := by omega
          have y3 : -(n : Int) < (n : Int) := by omega
          go_enter Try.func123, Try.ntmps123
          go_wp2
          go_ret2
          exact ⟨by simp [timesV, timesOk, HOK.out], rfl⟩
      · have htf : 1000000000000000000 / (n : Int) < (m : Int) := ht.2 hok
        have HOK := hid hok
        clear ht hok
        rcases hxm with rfl | rfl <;> rcases hyn with rfl | rfl
        · have x3 : ¬ (m : Int) < -(m : Int) := by omega
          have y3 : ¬ (n : Int) < -(n : Int) := by omega
          go_enter Try.func123, Try.ntmps123
          go_wp2
          go_ret2
          exact ⟨by simp [timesV, timesOk, HOK.out], rfl⟩
        · have x3 : ¬ (m : Int) < -(m : Int) := by omega
          have y3 : -(n : Int) < (n : Int) := by omega
          go_enter Try.func123, Try.ntmps123
          go_wp2
          go_ret2
          exact ⟨by simp [timesV, timesOk, HOK.out], rfl⟩
        · have x3 : -(m : Int) < (m : Int) := by omega
          have y3 : ¬ (n : Int) < -(n : Int) := by omega
          go_enter Try.func123, Try.ntmps123
          go_wp2
          go_ret2
          exact ⟨by simp [timesV, timesOk, HOK.out], rfl⟩
        · have x3 : -(m : Int) < (m : Int) := by omega
          have y3 : -(n : Int) < (n : Int) := by omega
          go_enter Try.func123, Try.ntmps123
          go_wp2
          go_ret2
          exact ⟨by simp [timesV, timesOk, HOK.out], rfl⟩
end Go.Proofs.Ytmcjabodkjlkgaa
