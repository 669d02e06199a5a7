/-
  The contract of the library function Div64 of math/bits, for every high word below the divisor.
-/
import Derived.Test.YtokddngcfkimlaaDoorDiv
namespace Go.Proofs.YtokddngcfkimlaaDoor
open Go.RowKit

/-- the high word being 0 -/
theorem div64_low (l y : Nat) (h0 : 1 ≤ y) (hl : l < 18446744073709551616) (hy : y < 18446744073709551616) (w : World) :
    Calls Tryd.prog 29 #[.int .u64 0, .int .u64 l, .int .u64 y] w fun e w' => e = .returned (.tuple #[.int .u64 ((l / y : Nat) : Int), .int .u64 ((l % y : Nat) : Int)]) ∧ Below w.heap.size w w' := by
  have e1 : IntKind.u64.wrap ((l : Int) / (y : Int)) = ((l / y : Nat) : Int) := by rw [← Int.natCast_ediv]; exact Mul64.wrapN _ (Nat.lt_of_le_of_lt (Nat.div_le_self _ _) hl)
  have e2 : (l : Int).tmod (y : Int) = ((l % y : Nat) : Int) := rfl
  obtain ⟨A, HA⟩ := named (l / y)
  obtain ⟨B, HB⟩ := named (l % y)
  rw [← HA.out] at e1
  rw [← HB.out] at e2
  rw [← HA.out, ← HB.out]
  go_enter Tryd.func29, Tryd.ntmps29
  go_wp2
  have hne : Nonempty (ExtW w) := ⟨⟨_, Below.refl _ _⟩⟩
  refine wp_region_ext (by kernel_rfl) (by kernel_rfl) ?_
  repeat (first | go_big_quiet_step ((first | fail)) | quiet_step ((first | fail)))
  refine wpQuiet_nil ?_
  rintro w1 ⟨⟨_, hb⟩, rfl⟩
  obtain ⟨hc, hf⟩ := bcell hb
  have hsz := hb.size
  (try simp at hsz)
  (try have hy0 : w.heap.size < w1.heap.size := by omega)
  (try have hy1 : w.heap.size + 1 < w1.heap.size := by omega)
  (try have hy2 : w.heap.size + 2 < w1.heap.size := by omega)
  (try have hyS : ws.heap.size < w1.heap.size := by omega)
  (try have hyG : wg.heap.size < w1.heap.size := by omega)
  go_wp2
  go_ret2
  exact ⟨ret_uu (by first | rfl | exact e1) (by first | rfl | exact e2), by (repeat' (first | (with_reducible exact Below.refl _ _) | (with_reducible assumption) | (with_reducible refine xAlloc ?_ _) | (with_reducible refine Below.drew ?_) | (with_reducible refine xDrewN ?_ _) | (with_reducible refine xThen ?_ (by with_reducible assumption)) | (with_reducible refine Below.setCell ?_ (by first | omega | (simp; omega) | simp) _) | exact Below.refl _ _))⟩
/-- every high word below the divisor -/
theorem div64_all (h l y : Nat) (hhy : h < y) (hl : l < 18446744073709551616) (hy : y < 18446744073709551616) (w : World) :
    Calls Tryd.prog 29 #[.int .u64 h, .int .u64 l, .int .u64 y] w fun e w' => e = .returned (.tuple #[.int .u64 (((h * 18446744073709551616 + l) / y : Nat) : Int), .int .u64 (((h * 18446744073709551616 + l) % y : Nat) : Int)]) ∧ Below w.heap.size w w' := by
  rcases Nat.eq_zero_or_pos h with rfl | h1
  · refine (div64_low l y (by omega) hl hy w).mono ?_
    rintro e w' ⟨rfl, hb⟩
    exact ⟨by simp, hb⟩
  · refine (div64_any h l y h1 hhy hl hy w).mono ?_
    rintro e w' ⟨rfl, rfl⟩
    exact ⟨rfl, Below.refl _ _⟩
end Go.Proofs.YtokddngcfkimlaaDoor
