/-
  Contracts of Mul64 and Div64 with names for their results.
-/
import Derived.Test.YtmcjabodkjlkgaaDivAll
namespace Go.Proofs.Ytmcjabodkjlkgaa
open Go.RowKit

theorem mulM_any (x : Nat) (hx : x < 18446744073709551616) (w : World) :
    Calls Try.prog 126 #[.int .u64 x, .int .u64 1000000] w fun e w' => e = .returned (.tuple #[.int .u64 ((x * 1000000 / 18446744073709551616 : Nat) : Int), .int .u64 ((x * 1000000 % 18446744073709551616 : Nat) : Int)]) ∧ w = w' := by
  refine (mul64_any x 1000000 hx (by omega) w).mono ?_
  rintro e w' ⟨rfl, rfl⟩
  exact ⟨rfl, rfl⟩
theorem divN_any (N y : Nat) (hN : N / 18446744073709551616 < y) (hy : y < 18446744073709551616) (w : World) :
    Calls Try.prog 128 #[.int .u64 ((N / 18446744073709551616 : Nat) : Int), .int .u64 ((N % 18446744073709551616 : Nat) : Int), .int .u64 y] w fun e w' => e = .returned (.tuple #[.int .u64 ((N / y : Nat) : Int), .int .u64 ((N % y : Nat) : Int)]) ∧ Below w.heap.size w w' := by
  have h := div64_all (N / 18446744073709551616) (N % 18446744073709551616) y hN (Nat.mod_lt _ (by omega)) hy w
  rw [Nat.div_add_mod' N 18446744073709551616] at h
  exact h

theorem mulM_at (x hi lo : Nat) (hx : x < 18446744073709551616) (e1 : hi = x * 1000000 / 18446744073709551616) (e2 : lo = x * 1000000 % 18446744073709551616) (w : World) :
    Calls Try.prog 126 #[.int .u64 x, .int .u64 1000000] w fun e w' => e = .returned (.tuple #[.int .u64 hi, .int .u64 lo]) ∧ w = w' := by
  subst e1 e2; exact mulM_any x hx w
theorem divN_at (N y hi lo q r : Nat) (hN : N / 18446744073709551616 < y) (hy : y < 18446744073709551616) (e1 : hi = N / 18446744073709551616) (e2 : lo = N % 18446744073709551616) (e3 : q = N / y) (e4 : r = N % y) (w : World) :
    Calls Try.prog 128 #[.int .u64 hi, .int .u64 lo, .int .u64 y] w fun e w' => e = .returned (.tuple #[.int .u64 q, .int .u64 r]) ∧ Below w.heap.size w w' := by
  subst e1 e2 e3 e4; exact divN_any N y hN hy w
theorem mul64_at (x y hi lo : Nat) (hx : x < 18446744073709551616) (hy : y < 18446744073709551616) (e1 : hi = x * y / 18446744073709551616) (e2 : lo = x * y % 18446744073709551616) (w : World) :
    Calls Try.prog 126 #[.int .u64 x, .int .u64 y] w fun e w' => e = .returned (.tuple #[.int .u64 hi, .int .u64 lo]) ∧ w = w' := by
  subst e1 e2
  refine (mul64_any x y hx hy w).mono ?_
  rintro e w' ⟨rfl, rfl⟩
  exact ⟨rfl, rfl⟩
end Go.Proofs.Ytmcjabodkjlkgaa
