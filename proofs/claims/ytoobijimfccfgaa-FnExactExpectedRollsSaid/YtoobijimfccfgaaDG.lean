/-
  Contracts of the library functions Len64, LeadingZeros64 and Mul64 of math/bits, for all arguments.
-/
import Derived.Test.YtoobijimfccfgaaIn
import Derived.Test.YtoobijimfccfgaaLen
import Derived.Lib.Walk
import Derived.Lib.BitFns
import Derived.Lib.Mul64
import Derived.Shelf.Bits.Mul64
namespace Go.Proofs.Ytoobijimfccfgaa
open Go.RowKit

theorem bitLen_le64 (x : Int) (h0 : 0 ≤ x) (h1 : x ≤ 18446744073709551615) : Lib.bitLen x.toNat ≤ 64 := Lib.bitLen_le x.toNat 64 (by omega) (by omega)

theorem lz64_any (x : Int) (w : World) (h0 : 0 ≤ x) (h1 : x ≤ 18446744073709551615) :
    Calls Try.prog 84 #[.int .u64 x] w fun e w' => e = .returned (.int .i64 (64 - (Lib.bitLen x.toNat : Int))) ∧ w' = w := by
  have l := bitLen_le64 x h0 h1
  have e8 : (64 - (Lib.bitLen x.toNat : Int) + 9223372036854775808) % 18446744073709551616 - 9223372036854775808 = 64 - (Lib.bitLen x.toNat : Int) := by omega
  go_enter Try.func84, Try.ntmps84
  go_wp2_with (go_at_call 87; refine (len64_any x _ h0 h1).mono ?_; rintro e w' ⟨rfl, rfl⟩)
  go_ret
  refine ⟨?_, rfl⟩
  rw [← e8]
  rfl

set_option maxHeartbeats 1000000 in
theorem mul64_any (x y : Nat) (hx : x < 18446744073709551616) (hy : y < 18446744073709551616) (w : World) :
    Calls Try.prog 74 #[.int .u64 x, .int .u64 y] w fun e w' => e = .returned (.tuple #[.int .u64 ((x * y / 18446744073709551616 : Nat) : Int), .int .u64 ((x * y % 18446744073709551616 : Nat) : Int)]) ∧ w' = w := by
  obtain ⟨bd, bt, bw, hhi⟩ := Lib.mul64_hi x y hx hy
  have ba := Lib.half_mul_le (a := x / 4294967296) (b := y / 4294967296) (by omega) (by omega)
  have bb := Lib.half_mul_le (a := x / 4294967296) (b := y % 4294967296) (by omega) (by omega)
  have bc := Lib.half_mul_le (a := x % 4294967296) (b := y / 4294967296) (by omega) (by omega)
  have ba' : x / 4294967296 * (y / 4294967296) < 18446744073709551616 := by omega
  have bb' : x / 4294967296 * (y % 4294967296) < 18446744073709551616 := by omega
  have bc' : x % 4294967296 * (y / 4294967296) < 18446744073709551616 := by omega
  have bh1 : x / 4294967296 * (y / 4294967296) + (x / 4294967296 * (y % 4294967296) + x % 4294967296 * (y % 4294967296) / 4294967296) / 4294967296 < 18446744073709551616 := by omega
  have bh : x / 4294967296 * (y / 4294967296) + (x / 4294967296 * (y % 4294967296) + x % 4294967296 * (y % 4294967296) / 4294967296) / 4294967296 + ((x / 4294967296 * (y % 4294967296) + x % 4294967296 * (y % 4294967296) / 4294967296) % 4294967296 + x % 4294967296 * (y / 4294967296)) / 4294967296 < 18446744073709551616 := by omega
  go_enter Try.func74, Try.ntmps74
  go_wp2
  simp only [Mul64.maskN x hx, Mul64.maskN y hy, Mul64.divN, Mul64.mulN, Mul64.addN, Mul64.wrapN _ bd, Mul64.wrapN _ bb', Mul64.wrapN _ bt, Mul64.maskN _ bt, Mul64.wrapN _ bc', Mul64.wrapN _ bw, Mul64.wrapN _ ba', Mul64.wrapN _ bh1, Mul64.wrapN _ bh, Mul64.wrapM (x * y)]
  rw [hhi]
  go_ret2
  exact ⟨rfl, rfl⟩
end Go.Proofs.Ytoobijimfccfgaa

/-
  Plain arithmetic: the division of a number of two words by one word, digit by digit.
-/
namespace Go.Proofs.Ytoobijimfccfgaa

theorem bitLen_zero {y : Nat} (hy : y < 2 ^ 64) (h : Lib.bitLen y = 0) : y = 0 := by
  by_cases h0 : y = 0
  · exact h0
  · have := Lib.bitLen_half y h0 hy; omega
theorem bitLen_range : ∀ n y, y < 2 ^ 64 → Lib.bitLen y = n + 1 → 2 ^ n ≤ y ∧ y < 2 ^ (n + 1)
  | 0, y, hy, h => by
    have h0 : y ≠ 0 := by rintro rfl; revert h; decide
    have h1 := Lib.bitLen_half y h0 hy
    have h2 := bitLen_zero (y := y / 2) (by omega) (by omega)
    omega
  | n + 1, y, hy, h => by
    have h0 : y ≠ 0 := by rintro rfl; revert h; have : Lib.bitLen 0 = 0 := by decide
                          omega
    have h1 := Lib.bitLen_half y h0 hy
    have h2 := bitLen_range n (y / 2) (by omega) (by omega)
    have e1 : 2 ^ (n + 1) = 2 * 2 ^ n := by rw [Nat.pow_succ, Nat.mul_comm]
    have e2 : 2 ^ (n + 1 + 1) = 2 * 2 ^ (n + 1) := by rw [Nat.pow_succ, Nat.mul_comm]
    omega

theorem norm_range {y s : Nat} (h0 : 1 ≤ y) (hy : y < 18446744073709551616) (hs : s + Lib.bitLen y = 64) : 9223372036854775808 ≤ y * 2 ^ s ∧ y * 2 ^ s < 18446744073709551616 ∧ s ≤ 63 := by
  obtain ⟨n, hn⟩ : ∃ n, Lib.bitLen y = n + 1 := by
    cases h : Lib.bitLen y with
    | zero => have := bitLen_zero (y := y) (by simpa using hy) h; omega
    | succ n => exact ⟨n, rfl⟩
  obtain ⟨h1, h2⟩ := bitLen_range n y (by simpa using hy) hn
  have e : n + s = 63 := by omega
  have p1 : 2 ^ n * 2 ^ s = 9223372036854775808 := by rw [← Nat.pow_add, e]
  have p2 : 2 ^ (n + 1) * 2 ^ s = 18446744073709551616 := by rw [← Nat.pow_add, show n + 1 + s = 64 by omega]
  have hp : 0 < 2 ^ s := Nat.two_pow_pos s
  have m1 := Nat.mul_le_mul_right (2 ^ s) h1
  have m2 := (Nat.mul_lt_mul_right hp).2 h2
  omega

/-- the two words, shifted -/
theorem shift_words {h l y s : Nat} (hl : l < 18446744073709551616) (hs : s ≤ 63) (hh : h < y) (hY : y * 2 ^ s < 18446744073709551616) :
    h * 2 ^ s + l / 2 ^ (64 - s) < y * 2 ^ s ∧ (h * 18446744073709551616 + l) * 2 ^ s = (h * 2 ^ s + l / 2 ^ (64 - s)) * 18446744073709551616 + l * 2 ^ s % 18446744073709551616 ∧ l / 2 ^ (64 - s) < 2 ^ s ∧ h * 2 ^ s < 18446744073709551616 := by
  have hp : 0 < 2 ^ s := Nat.two_pow_pos s
  have hq : 0 < 2 ^ (64 - s) := Nat.two_pow_pos _
  have e : 2 ^ (64 - s) * 2 ^ s = 18446744073709551616 := by rw [← Nat.pow_add, show 64 - s + s = 64 by omega]
  have h1 : l / 2 ^ (64 - s) < 2 ^ s := by
    rw [Nat.div_lt_iff_lt_mul hq, Nat.mul_comm, e]; exact hl
  have h2 : l * 2 ^ s / 18446744073709551616 = l / 2 ^ (64 - s) := by
    rw [← e]; exact Nat.mul_div_mul_right _ _ hp
  have h3 := Nat.div_add_mod (l * 2 ^ s) 18446744073709551616
  rw [h2] at h3
  have h4 : (h + 1) * 2 ^ s ≤ y * 2 ^ s := Nat.mul_le_mul_right _ (by omega)
  rw [Nat.add_mul, Nat.one_mul] at h4
  refine ⟨by omega, ?_, h1, by omega⟩
  rw [Nat.add_mul, Nat.mul_right_comm]
  omega

/-- one digit: q and r in the loop -/
structure Dig (U e Y : Nat) (q r : Nat) : Prop where
  sum : q * (Y / 4294967296) + r = U
  low : (U * 4294967296 + e) / Y ≤ q
  high : q ≤ 4294967297
  rest : r < 4294967296

theorem dig_facts {U e Y : Nat} (hY : 9223372036854775808 ≤ Y) (hY2 : Y < 18446744073709551616) (hU : U < Y) (he : e < 4294967296) :
    (U * 4294967296 + e) / Y ≤ 4294967295 ∧ (U * 4294967296 + e) / Y * Y ≤ U * 4294967296 + e ∧ U * 4294967296 + e < ((U * 4294967296 + e) / Y + 1) * Y := by
  have hp : 0 < Y := by omega
  refine ⟨?_, Nat.div_mul_le_self _ _, ?_⟩
  · have : (U * 4294967296 + e) / Y < 4294967296 := by
      rw [Nat.div_lt_iff_lt_mul hp]
      omega
    omega
  · rw [Nat.mul_comm (_ + 1) Y]; exact Nat.lt_mul_div_succ _ hp

theorem mul_split (q Y : Nat) : q * Y = q * (Y / 4294967296) * 4294967296 + q * (Y % 4294967296) := by
  have : Y = Y / 4294967296 * 4294967296 + Y % 4294967296 := by omega
  calc q * Y = q * (Y / 4294967296 * 4294967296 + Y % 4294967296) := by rw [← this]
    _ = _ := by rw [Nat.mul_add, Nat.mul_assoc]

theorem dig_start {U e Y : Nat} (hY : 9223372036854775808 ≤ Y) (hY2 : Y < 18446744073709551616) (hU : U < Y) (he : e < 4294967296) : Dig U e Y (U / (Y / 4294967296)) (U % (Y / 4294967296)) := by
  have h1 := Nat.div_add_mod U (Y / 4294967296)
  have hp : 0 < Y / 4294967296 := by omega
  have h2 := Nat.mod_lt U hp
  obtain ⟨f1, f2, f3⟩ := dig_facts hY hY2 hU he
  refine ⟨by rw [Nat.mul_comm]; exact h1, ?_, ?_, by omega⟩
  · rw [Nat.le_div_iff_mul_le hp]
    have := mul_split ((U * 4294967296 + e) / Y) Y
    omega
  · have : U / (Y / 4294967296) < 4294967298 := by
      rw [Nat.div_lt_iff_lt_mul hp]
      omega
    omega

theorem dig_stop {U e Y q r : Nat} (hY : 9223372036854775808 ≤ Y) (h : Dig U e Y q r) (hle : q * (Y % 4294967296) ≤ 4294967296 * r + e) :
    q = (U * 4294967296 + e) / Y := by
  have hp : 0 < Y := by omega
  have h1 := mul_split q Y
  have h2 := h.sum
  have h3 : q ≤ (U * 4294967296 + e) / Y := by
    rw [Nat.le_div_iff_mul_le hp]
    omega
  exact Nat.le_antisymm h3 h.low
theorem dig_more {U e Y q r : Nat} (hY : 9223372036854775808 ≤ Y) (hY2 : Y < 18446744073709551616) (hU : U < Y) (he : e < 4294967296) (h : Dig U e Y q r) (hgt : 4294967296 ≤ q ∨ 4294967296 * r + e < q * (Y % 4294967296)) :
    1 ≤ q ∧ (U * 4294967296 + e) / Y ≤ q - 1 ∧ (q - 1) * (Y / 4294967296) + (r + Y / 4294967296) = U := by
  have hp : 0 < Y := by omega
  obtain ⟨f1, f2, f3⟩ := dig_facts hY hY2 hU he
  have h1 := mul_split q Y
  have h2 := h.sum
  have h3 : (U * 4294967296 + e) / Y < q := by
    rcases hgt with h' | h'
    · omega
    · rw [Nat.div_lt_iff_lt_mul hp]
      omega
  have h4 : 1 ≤ q := Nat.lt_of_le_of_lt (Nat.zero_le _) h3
  refine ⟨h4, Nat.le_sub_one_of_lt h3, ?_⟩
  obtain ⟨k, rfl⟩ : ∃ k, q = k + 1 := ⟨q - 1, by omega⟩
  rw [Nat.add_mul, Nat.one_mul] at h2
  simp only [Nat.add_sub_cancel]
  omega
theorem dig_next {U e Y q r : Nat} (hY : 9223372036854775808 ≤ Y) (hY2 : Y < 18446744073709551616) (hU : U < Y) (he : e < 4294967296) (h : Dig U e Y q r) (hgt : 4294967296 ≤ q ∨ 4294967296 * r + e < q * (Y % 4294967296))
    (hr : r + Y / 4294967296 < 4294967296) : Dig U e Y (q - 1) (r + Y / 4294967296) := by
  obtain ⟨h1, h2, h3⟩ := dig_more hY hY2 hU he h hgt
  exact ⟨h3, h2, by have := h.high; omega, hr⟩
theorem dig_break {U e Y q r : Nat} (hY : 9223372036854775808 ≤ Y) (hY2 : Y < 18446744073709551616) (hU : U < Y) (he : e < 4294967296) (h : Dig U e Y q r) (hgt : 4294967296 ≤ q ∨ 4294967296 * r + e < q * (Y % 4294967296))
    (hr : 4294967296 ≤ r + Y / 4294967296) : q - 1 = (U * 4294967296 + e) / Y := by
  obtain ⟨h1, h2, h3⟩ := dig_more hY hY2 hU he h hgt
  have hp : 0 < Y := by omega
  have h4 := mul_split (q - 1) Y
  have h5 : (q - 1) * (Y % 4294967296) ≤ 4294967296 * 4294967295 := Nat.mul_le_mul (by have := h.high; omega) (by omega)
  have h6 : q - 1 ≤ (U * 4294967296 + e) / Y := by
    rw [Nat.le_div_iff_mul_le hp]
    omega
  exact Nat.le_antisymm h6 h2

theorem two_wordsK {K U L A B R1 R0 a b : Nat} (h1 : U * K + a = A + R1) (h0 : R1 * K + b = B + R0) (d : K * a + b = L) : U * (K * K) + L = A * K + B + R0 := by
  rw [← d, ← Nat.mul_assoc, Nat.mul_comm K a, ← Nat.add_assoc, ← Nat.add_mul, h1, Nat.add_mul, Nat.add_assoc, h0, ← Nat.add_assoc]
theorem two_words {U L A B R1 R0 : Nat} (h1 : U * 4294967296 + L / 4294967296 = A + R1) (h0 : R1 * 4294967296 + L % 4294967296 = B + R0) : U * 18446744073709551616 + L = A * 4294967296 + B + R0 :=
  two_wordsK h1 h0 (Nat.div_add_mod L 4294967296)
/-- both digits -/
theorem two_digits {N y s U L Q1 R1 Q0 R0 : Nat} (hp : 1 ≤ y) (hN : N * 2 ^ s = U * 18446744073709551616 + L) (h1 : U * 4294967296 + L / 4294967296 = Q1 * (y * 2 ^ s) + R1)
    (h0 : R1 * 4294967296 + L % 4294967296 = Q0 * (y * 2 ^ s) + R0) (hR : R0 < y * 2 ^ s) : N / y = Q1 * 4294967296 + Q0 ∧ N % y = R0 / 2 ^ s := by
  have hs : 0 < 2 ^ s := Nat.two_pow_pos s
  have e1 : N * 2 ^ s = (Q1 * 4294967296 + Q0) * (y * 2 ^ s) + R0 := by
    rw [hN, Nat.add_mul, Nat.mul_right_comm]
    exact two_words h1 h0
  have e2 : N * 2 ^ s = ((Q1 * 4294967296 + Q0) * y) * 2 ^ s + R0 := by rw [e1, Nat.mul_assoc]
  have hle : (Q1 * 4294967296 + Q0) * y ≤ N := Nat.le_of_mul_le_mul_right (by omega) hs
  obtain ⟨t, rfl⟩ := Nat.exists_eq_add_of_le hle
  have e3 : R0 = t * 2 ^ s := by rw [Nat.add_mul] at e2; omega
  have ht : t < y := by rw [e3] at hR; exact Nat.lt_of_mul_lt_mul_right hR
  rw [e3, Nat.mul_div_cancel _ hs]
  constructor
  · rw [Nat.add_comm, Nat.add_mul_div_right _ _ (by omega), Nat.div_eq_of_lt ht, Nat.zero_add]
  · rw [Nat.add_comm, Nat.add_mul_mod_self_right, Nat.mod_eq_of_lt ht]
end Go.Proofs.Ytoobijimfccfgaa

/-
  Slices of int64 in memory, and the contracts of the laws' own copy and comparison of such slices; sizes up to 2^20 elements.
-/
namespace Go.Proofs.Ytoobijimfccfgaa
open Go.RowKit

/-- the slice value v has the elements zs in the world w -/
def IntsAt (w : World) (v : Value) (zs : List Int) : Prop :=
  ∃ a cap, v = .slice a zs.length cap ∧ zs.length ≤ 1048576 ∧ (zs = [] ∨ ∃ b off, a = some ⟨b, off, none⟩ ∧ ∀ i, i < zs.length → w.cell? ⟨b, off + i, none⟩ = some (.int .i64 (zs.getD i 0)))

def I64 (n : Int) : Prop := -9223372036854775808 ≤ n ∧ n ≤ 9223372036854775807
theorem I64.bd {n : Int} (h : I64 n) : -9223372036854775808 ≤ n ∧ n ≤ 9223372036854775807 := h
theorem I64.of_wf {n : Int} (h : (Lit.int .i64 n).wf = true) : I64 n := by
  simpa [Lit.wf, IntKind.min, IntKind.max, IntKind.signed, IntKind.bits, I64] using h
def I64s (zs : List Int) : Prop := ∀ i, I64 (zs.getD i 0)
theorem I64s.at {zs : List Int} (h : I64s zs) (i : Nat) : -9223372036854775808 ≤ zs.getD i 0 ∧ zs.getD i 0 ≤ 9223372036854775807 := h i

theorem cell_block {w : World} {b o : Nat} {v : Value} (h : w.cell? ⟨b, o, none⟩ = some v) : b < w.heap.size := by
  unfold World.cell? at h
  split at h
  · next hh => exact (Array.getElem?_eq_some_iff.1 hh).1
  · simp at h

theorem IntsAt.mono {w w1 : World} {v : Value} {zs : List Int} (h : IntsAt w v zs) (hb : Below w.heap.size w w1) : IntsAt w1 v zs := by
  obtain ⟨a, cap, rfl, hm, hz⟩ := h
  refine ⟨a, cap, rfl, hm, hz.imp id ?_⟩
  rintro ⟨b, off, rfl, hc⟩
  exact ⟨b, off, rfl, fun i hi => (hb.cell (p := ⟨b, off + i, none⟩) (cell_block (hc i hi))).trans (hc i hi)⟩
theorem IntsAt.alloc {w : World} {v : Value} {zs : List Int} (h : IntsAt w v zs) (o : Obj) : IntsAt (w.alloc o) v zs := h.mono (xAlloc (Below.refl _ _) o)
theorem IntsAt.drew {w : World} {v : Value} {zs : List Int} (h : IntsAt w v zs) : IntsAt w.drew v zs := h.mono (Below.refl _ _).drew
theorem IntsAt.drewN {w : World} {v : Value} {zs : List Int} (h : IntsAt w v zs) (n : Nat) : IntsAt (w.drewN n) v zs := h.mono (xDrewN (Below.refl _ _) n)
theorem IntsAt.nil (w : World) (cap : Nat) (a : Option Addr) : IntsAt w (.slice a 0 cap) [] := ⟨a, cap, rfl, by decide, .inl rfl⟩

/-- a world that has grown from w -/
structure ExtW (w : World) where
  u : World
  b : Below w.heap.size w u
theorem ExtW.cell {w : World} (x : ExtW w) {a : Addr} {v : Value} (h : w.cell? a = some v) : x.u.cell? a = some v := by
  have hs := World.cell?_spot h
  obtain ⟨b, o, sp⟩ := a
  subst hs
  exact (x.b.cell (p := ⟨b, o, none⟩) (cell_block h)).trans h
/-- a region that draws its order, whose operations read or call what lets old memory be: one walk in the order of the text -/
theorem wp_region_ext {P : Program} {id : Nat} {Q : Exit → Act → World → Prop} {a : Act} {w : World} {l : List Oper} (hm : P.follows .mixedOrders = true) (hB : Region.lexB .any l.toArray = true)
    (h : wpQuiet P l.toArray (fun w' => ∃ x : ExtW w, w' = x.u) (fun a' => ∀ w', (∃ x : ExtW w, w' = x.u) → Q .normal a' w') l a) : (Code.region id l.toArray true).wp P Q a w :=
  wp_region_quiet (C := fun w' => ∃ x : ExtW w, w' = x.u) hm hB ⟨⟨w.drew, (Below.refl _ _).drew⟩, rfl⟩ (by simpa using h)
theorem ext_call {P : Program} {f : FuncId} {args : Array Value} {w : World} {x : ExtW w} {v : Value}
    (h : Calls P f args x.u fun e w' => e = .returned v ∧ Below x.u.heap.size x.u w') : Calls P f args x.u fun e w'' => e = .returned v ∧ ∃ y : ExtW w, w'' = y.u :=
  h.mono fun _ w' ⟨he, hb⟩ => ⟨he, ⟨w', xThen x.b hb⟩, rfl⟩
theorem ext_call0 {P : Program} {f : FuncId} {args : Array Value} {w : World} {x : ExtW w} {v : Value}
    (h : Calls P f args x.u fun e w' => e = .returned v ∧ x.u = w') : Calls P f args x.u fun e w'' => e = .returned v ∧ ∃ y : ExtW w, w'' = y.u :=
  h.mono fun _ _ ⟨he, hb⟩ => ⟨he, x, hb.symm⟩

/-- the cells of a copy after k elements -/
def copied (zs : List Int) (k : Nat) : Array Value := ((zs.take k).map (Value.int .i64) ++ List.replicate (zs.length - k) (Value.int .i64 0)).toArray

theorem copied_zero (zs : List Int) : madeCells #[Value.int .i64 0] zs.length = copied zs 0 := by
  apply Array.ext
  · simp [madeCells, copied]
  · intro i h1 h2
    simp [madeCells, copied, Nat.mod_one]
theorem copied_step (zs : List Int) (k : Nat) (h : k < zs.length) : (copied zs k).setIfInBounds k (.int .i64 (zs.getD k 0)) = copied zs (k + 1) := by
  apply Array.ext
  · simp [copied]; omega
  · intro i h1 h2
    simp [copied] at h1 h2 ⊢
    rw [List.getElem_set]
    split
    · next e =>
      subst e
      rw [List.getElem_append_left (by simp; omega)]
      simp [h]
    · next e =>
      by_cases hlt : i < k
      · rw [List.getElem_append_left (by simp; omega), List.getElem_append_left (by simp; omega)]
        simp
      · rw [List.getElem_append_right (by simp; omega), List.getElem_append_right (by simp; omega)]
        simp
theorem copied_old (zs : List Int) (k : Nat) (h : k < zs.length) : (copied zs k)[k]? = some (.int .i64 0) := by
  simp [copied]
  rw [List.getElem?_append_right (by simp; omega)]
  have : k - min k zs.length < zs.length - k := by omega
  simp [this]
theorem copied_all (zs : List Int) : copied zs zs.length = (zs.map (Value.int .i64)).toArray := by simp [copied]

theorem IntsAt.made (w : World) (zs : List Int) (hm : zs.length ≤ 1048576) (t : TypeId) : IntsAt (w.alloc (.cells (zs.map (Value.int .i64)).toArray t)) (.slice (some ⟨w.heap.size, 0, none⟩) zs.length zs.length) zs := by
  refine ⟨_, _, rfl, hm, .inr ⟨_, _, rfl, fun i hi => ?_⟩⟩
  simp [go_sem]
  simp [hi]

theorem info_int64 : (Try.prog.info? 2).map (fun i => (i.zero, i.size, i.bytes)) = some (some (.int .i64 0), 1, 8) := by kernel_rfl

set_option maxHeartbeats 400000 in
theorem toInts_any (v : Value) (zs : List Int) (w : World) (hI : IntsAt w v zs) :
    Calls Try.prog 6 #[v] w fun e w' => e = .returned (.slice (some ⟨w.heap.size, 0, none⟩) zs.length zs.length) ∧ w' = w.alloc (.cells (zs.map (Value.int .i64)).toArray 2) := by
  obtain ⟨a, cap, rfl, hm, hz⟩ := hI
  obtain ⟨i0, hi, hz0, hz1, hz2⟩ := info_parts info_int64
  have hmk : ∀ u : World, (Instr.makeSlice 24 (.int .i64 (zs.length : Int)) (.int .i64 (zs.length : Int))).run Try.prog u =
      .ok (.slice (some ⟨u.heap.size, 0, none⟩) zs.length zs.length) (u.alloc (.cells (copied zs 0) 2)) := fun u => by
    have h := run_make (P := Try.prog) u 24 2 i0 (.int .i64 0) Try.underlying24 hi hz0 .i64 .i64 (zs.length : Int) (zs.length : Int) (by omega) (Int.le_refl _) (by rw [hz2]; omega) (by omega)
    rw [← copied_zero]
    simpa [hz1, Value.cells] using h
  go_enter Try.func6, Try.ntmps6
  go_wp2
  go_loopw [4] (fun i wr => ∃ k : Nat, k ≤ zs.length ∧ i = .int .i64 k ∧ wr = w.alloc (.cells (copied zs k) 2)) (fun i _ => zs.length - (intOf i).toNat)
  case atStart => exact ⟨0, by omega, rfl, rfl⟩
  case round =>
    obtain ⟨k, hk, rfl, rfl⟩ := hrel
    by_cases hlt : k < zs.length
    · obtain ⟨b, off, rfl, hcell⟩ := hz.resolve_left (by rintro rfl; simp at hlt)
      have hck := hcell k hlt
      have hbb := cell_block hck
      have hold := copied_old zs k hlt
      have hst := hid (copied_step zs k hlt)
      clear hcell hz
      go_wp2
      go_roundw
      case rel => exact ⟨k + 1, by omega, by go_num, by have := hst.out; simp [hlt] at this; rw [this]⟩
      case measure => simp [intOf]; omega
    · go_wp2
      have : k = zs.length := by omega
      subst this
      go_ret
      exact ⟨rfl, by rw [copied_all]⟩

/-- a value kept under a name of its own -/
theorem named {α : Type} (x : α) : ∃ y, Hid (y = x) := ⟨x, rfl⟩

def PreEq (xs ys : List Int) (k : Nat) : Prop := ∀ j, j < k → xs.getD j 0 = ys.getD j 0
theorem PreEq.all {xs ys : List Int} (h : PreEq xs ys xs.length) (hl : xs.length = ys.length) : xs = ys := by
  apply List.ext_getElem hl
  intro i h1 h2
  have := h i h1
  simpa [h1, h2] using this

set_option maxHeartbeats 400000 in
theorem eqInts_any (v1 v2 : Value) (xs ys : List Int) (w : World) (h1 : IntsAt w v1 xs) (h2 : IntsAt w v2 ys) :
    Calls Try.prog 9 #[v1, v2] w fun e w' => e = .returned (.bool (decide (xs = ys))) ∧ ∃ n, w' = w.drewN n := by
  obtain ⟨a, cap, rfl, hm, hz⟩ := h1
  obtain ⟨a', cap', rfl, hm', hz'⟩ := h2
  by_cases hl : xs.length = ys.length
  · have hb : ((xs.length : Int) != ys.length) = false := by simp [hl]
    have l1 : xs.length ≤ ys.length := by omega
    have l2 : ys.length ≤ xs.length := by omega
    have HL := hid hl
    clear hl
    go_enter Try.func9, Try.ntmps9
    go_wp2
    go_loopw [5] (fun i wr => ∃ k n : Nat, k ≤ xs.length ∧ i = .int .i64 k ∧ wr = w.drewN n ∧ PreEq xs ys k) (fun i _ => xs.length - (intOf i).toNat)
    case atStart => exact ⟨0, 0, by omega, rfl, rfl, fun j h => by omega⟩
    case round =>
      obtain ⟨k, n, hk, rfl, rfl, hp⟩ := hrel
      have HP := hid hp
      clear hp
      by_cases hlt : k < xs.length
      · obtain ⟨b, off, rfl, hcell⟩ := hz.resolve_left (by rintro rfl; simp at hlt)
        obtain ⟨b', off', rfl, hcell'⟩ := hz'.resolve_left (by rintro rfl; simp at l1; simp [l1] at hlt)
        have hx := hcell k hlt
        have hy := hcell' k (by omega)
        obtain ⟨x, HX⟩ := named (xs.getD k 0)
        obtain ⟨y, HY⟩ := named (ys.getD k 0)
        rw [← HX.out] at hx
        rw [← HY.out] at hy
        have i1 : (k : Int) < (xs.length : Int) := by omega
        have i2 : (k : Int) < (ys.length : Int) := by omega
        clear hcell hz hcell' hz'
        by_cases hxy : x = y
        · have hne : (x != y) = false := by simpa using hxy
          have HE := hid hxy
          clear hxy
          go_wp2
          go_quiet (fail)
          go_wp2
          go_roundw
          case rel => exact ⟨k + 1, n + nq, by omega, by go_num, rfl, fun j hj => by
            by_cases e : j = k
            · rw [e, ← HX.out, ← HY.out, HE.out]
            · exact HP.out j (by omega)⟩
          case measure => simp [intOf]; omega
        · have hne : (x != y) = true := by simpa using hxy
          have HE := hid hxy
          clear hxy
          go_wp2
          go_quiet (fail)
          go_wp2
          go_ret
          exact ⟨ret_bool (by
            symm; simp; intro h; apply HE.out; rw [HX.out, HY.out, h]), ⟨n + nq, by simp⟩⟩
      · go_wp2
        go_ret
        have : k = xs.length := by omega
        subst this
        exact ⟨ret_bool (by symm; simp; exact HP.out.all HL.out), ⟨_, rfl⟩⟩
  · have hb : ((xs.length : Int) != ys.length) = true := by simp; omega
    go_enter Try.func9, Try.ntmps9
    go_wp2
    go_ret
    exact ⟨ret_bool (by symm; simp; intro h; exact hl (by rw [h])), ⟨0, rfl⟩⟩

theorem isRow_ints {w : World} {a : Option Addr} {len cap : Nat} {z : List Int} (h : IsRow .i64 w a len cap z) (hl : len ≤ 1048576) :
    ∃ zs : List Int, zs.length = len ∧ IntsAt w (.slice a len cap) zs ∧ I64s zs := by
  rcases h with ⟨rfl, rfl, rfl, rfl⟩ | ⟨x, rfl, hlc, hm, hz, hcell, hwz⟩
  · exact ⟨[], rfl, IntsAt.nil _ _ _, fun i => by simp [I64]⟩
  · have e : (z.take len).length = len := by simp; omega
    refine ⟨z.take len, e, ⟨some x, cap, by rw [e], by omega, ?_⟩, fun i => ?_⟩
    · by_cases h0 : len = 0
      · exact .inl (by simp [h0])
      · refine .inr ?_
        obtain ⟨b, off, spot⟩ := x
        have hc := hcell 0 (by omega)
        have hspot : spot = none := by simpa [Addr.add] using World.cell?_spot hc
        subst hspot
        refine ⟨b, off, rfl, fun i hi => ?_⟩
        rw [e] at hi
        have := hcell i (by omega)
        have ea : (⟨b, off, none⟩ : Addr).add i = ⟨b, off + i, none⟩ := by
          unfold Addr.add
          split
          · next h => subst h; rfl
          · rfl
        rw [ea] at this
        rw [this]
        simp [hi]
    · by_cases hi : i < len
      · have hi' : i < z.length := by omega
        have := I64.of_wf (hwz z[i] (List.getElem_mem hi'))
        simpa [List.getElem?_take, hi, hi'] using this
      · simp [List.getElem?_take, hi, I64]
end Go.Proofs.Ytoobijimfccfgaa

/-
  The contract of the library function Div64 of math/bits.
-/
namespace Go.Proofs.Ytoobijimfccfgaa
open Go.RowKit

theorem lzN_any (y s : Nat) (hs : s + Lib.bitLen y = 64) (hy : y < 18446744073709551616) (w : World) :
    Calls Try.prog 84 #[.int .u64 y] w fun e w' => e = .returned (.int .i64 s) ∧ w' = w := by
  refine (lz64_any y w (by omega) (by omega)).mono ?_
  rintro e w' ⟨rfl, rfl⟩
  have : (64 - (Lib.bitLen (y : Int).toNat : Int)) = (s : Int) := by rw [Int.toNat_natCast]; omega
  exact ⟨by rw [this], rfl⟩

theorem wrapU (a : Int) : IntKind.u64.wrap a = a % 18446744073709551616 := by rw [IntKind.wrap_u64]
theorem sub_digits {U e Q Y R : Nat} (h : U * 4294967296 + e = Q * Y + R) (hR : R < 18446744073709551616) :
    IntKind.u64.wrap (IntKind.u64.wrap (IntKind.u64.wrap ((U : Int) * 4294967296) + (e : Int)) - IntKind.u64.wrap ((Q : Int) * (Y : Int))) = (R : Int) := by
  rw [Mul64.mulN, wrapU, wrapU, wrapU, wrapU]
  generalize Q * Y = B at *
  omega
theorem div_digit {U Y1 : Nat} : (U : Int).tdiv (Y1 : Int) = ((U / Y1 : Nat) : Int) := rfl
theorem mul_word {a b : Nat} (h : a * b < 18446744073709551616) : IntKind.u64.wrap ((a : Int) * (b : Int)) = ((a * b : Nat) : Int) := by
  rw [Mul64.mulN]; exact Mul64.wrapN _ h
theorem shl_word {a s : Nat} : IntKind.u64.wrap ((a : Int) * 2 ^ s) = ((a * 2 ^ s % 18446744073709551616 : Nat) : Int) := by
  have : (a : Int) * 2 ^ s = ((a * 2 ^ s : Nat) : Int) := by rw [Int.natCast_mul, Int.natCast_pow]; rfl
  rw [this, Mul64.wrapM]
theorem or_word {h l s : Nat} (hl : l / 2 ^ (64 - s) < 2 ^ s) (hh : h * 2 ^ s < 18446744073709551616) (hl2 : l < 18446744073709551616) :
    bits .or .u64 (IntKind.u64.wrap ((h : Int) * 2 ^ s)) ((l : Int) / 2 ^ (64 - s)) = ((h * 2 ^ s + l / 2 ^ (64 - s) : Nat) : Int) := by
  have e1 : IntKind.u64.wrap ((h : Int) * 2 ^ s) = ((h * 2 ^ s : Nat) : Int) := by rw [shl_word, Nat.mod_eq_of_lt hh]
  have e2 : (l : Int) / 2 ^ (64 - s) = ((l / 2 ^ (64 - s) : Nat) : Int) := by rw [Int.natCast_ediv, Int.natCast_pow]; rfl
  have hb : l / 2 ^ (64 - s) < 18446744073709551616 := Nat.lt_of_le_of_lt (Nat.div_le_self _ _) hl2
  rw [e1, e2, bits_or_u64_nat _ _ hh hb, ← Nat.shiftLeft_eq, Nat.shiftLeft_add_eq_or_of_lt hl]

set_option maxHeartbeats 4000000 in
theorem ret_uu {a b a' b' : Int} (h1 : a = a') (h2 : b = b') : Ending.returned (.tuple #[.int .u64 a, .int .u64 b]) = Ending.returned (.tuple #[.int .u64 a', .int .u64 b']) := by rw [h1, h2]

set_option maxHeartbeats 4000000 in
set_option maxRecDepth 100000 in
theorem div64_any (h l y : Nat) (hh : 1 ≤ h) (hhy : h < y) (hl : l < 18446744073709551616) (hy : y < 18446744073709551616) (w : World) :
    Calls Try.prog 75 #[.int .u64 h, .int .u64 l, .int .u64 y] w fun e w' => e = .returned (.tuple #[.int .u64 (((h * 18446744073709551616 + l) / y : Nat) : Int), .int .u64 (((h * 18446744073709551616 + l) % y : Nat) : Int)]) ∧ w' = w := by
  obtain ⟨s, hs⟩ : ∃ s, s + Lib.bitLen y = 64 := ⟨64 - Lib.bitLen y, by have := bitLen_le64 y (by omega) (by omega); rw [Int.toNat_natCast] at this; omega⟩
  have HS := hid hs
  obtain ⟨n1, n2, hs63⟩ := norm_range (by omega) hy hs
  obtain ⟨x1, x2, x3, x4⟩ := shift_words (h := h) hl hs63 hhy n2
  have EY : IntKind.u64.wrap ((y : Int) * 2 ^ s) = ((y * 2 ^ s : Nat) : Int) := by rw [shl_word, Nat.mod_eq_of_lt n2]
  have EL := shl_word (a := l) (s := s)
  have EU := or_word x3 x4 hl
  obtain ⟨Y, HY⟩ := named (y * 2 ^ s)
  obtain ⟨U, HU⟩ := named (h * 2 ^ s + l / 2 ^ (64 - s))
  obtain ⟨L, HL⟩ := named (l * 2 ^ s % 18446744073709551616)
  have hL : L < 18446744073709551616 := by rw [HL.out]; exact Nat.mod_lt _ (by omega)
  rw [← HY.out] at EY n1 n2 x1
  rw [← HU.out] at EU x1 x2
  rw [← HL.out] at EL x2
  have X2 := hid x2
  have EY1 := Mul64.divN Y
  have EY0 := Mul64.maskN Y n2
  have EL1 := Mul64.divN L
  have EL0 := Mul64.maskN L hL
  have D1 := hid (dig_start n1 n2 x1 (e := L / 4294967296) (by omega))
  have F1 := hid (dig_facts n1 n2 x1 (e := L / 4294967296) (by omega))
  have b1 : 2147483648 ≤ Y / 4294967296 := by omega
  have b2 : Y / 4294967296 < 4294967296 := by omega
  have b3 : Y % 4294967296 < 4294967296 := by omega
  have b4 : L / 4294967296 < 4294967296 := by omega
  have b5 : L % 4294967296 < 4294967296 := by omega
  obtain ⟨Y1, HY1⟩ := named (Y / 4294967296)
  obtain ⟨Y0, HY0⟩ := named (Y % 4294967296)
  obtain ⟨L1, HL1⟩ := named (L / 4294967296)
  obtain ⟨L0, HL0⟩ := named (L % 4294967296)
  rw [← HY1.out] at EY1 b1 b2 D1
  rw [← HY0.out] at EY0 b3
  rw [← HL1.out] at EL1 b4 D1 F1
  rw [← HL0.out] at EL0 b5
  have EQ := div_digit (U := U) (Y1 := Y1)
  have a1 := Nat.div_mul_le_self U Y1
  have a2 := Nat.div_add_mod U Y1
  have a3 : U % Y1 < 4294967296 := by have := Nat.mod_lt U (show 0 < Y1 by omega); omega
  have a4 := D1.out.high
  obtain ⟨q, HQ⟩ := named (U / Y1)
  obtain ⟨r, HR⟩ := named (U % Y1)
  rw [← HQ.out] at EQ a1 a2 a4 D1
  rw [← HR.out] at a2 a3 D1
  have EA := mul_word (a := q) (b := Y1) (by omega)
  obtain ⟨A, HA⟩ := named (q * Y1)
  rw [← HA.out] at EA a1
  have a5 : A + r = U := by have := HA.out; rw [Nat.mul_comm] at this; omega
  have g1 := Nat.div_add_mod (U * 4294967296 + L1) Y
  have x5 := Nat.mod_lt (U * 4294967296 + L1) (show 0 < Y by omega)
  have g3 := F1.out.1
  obtain ⟨Q1, HQ1⟩ := named ((U * 4294967296 + L1) / Y)
  obtain ⟨R1, HR1⟩ := named ((U * 4294967296 + L1) % Y)
  rw [← HQ1.out] at g1 g3
  rw [← HR1.out] at g1 x5
  rw [Nat.mul_comm Y Q1] at g1
  have E21 := sub_digits g1.symm (by omega)
  have D2 := hid (dig_start n1 n2 x5 b5)
  have F2 := hid (dig_facts n1 n2 x5 b5)
  rw [← HY1.out] at D2
  have EQ2 := div_digit (U := R1) (Y1 := Y1)
  have p1 := Nat.div_mul_le_self R1 Y1
  have p2 := Nat.div_add_mod R1 Y1
  have p3 : R1 % Y1 < 4294967296 := by have := Nat.mod_lt R1 (show 0 < Y1 by omega); omega
  have p4 := D2.out.high
  obtain ⟨q2, HQ2⟩ := named (R1 / Y1)
  obtain ⟨r2, HR2⟩ := named (R1 % Y1)
  rw [← HQ2.out] at EQ2 p1 p2 p4 D2
  rw [← HR2.out] at p2 p3 D2
  have EA2 := mul_word (a := q2) (b := Y1) (by omega)
  obtain ⟨A2, HA2⟩ := named (q2 * Y1)
  rw [← HA2.out] at EA2 p1
  have p5 : A2 + r2 = R1 := by have := HA2.out; rw [Nat.mul_comm] at this; omega
  have g4 := Nat.div_add_mod (R1 * 4294967296 + L0) Y
  have x6 := Nat.mod_lt (R1 * 4294967296 + L0) (show 0 < Y by omega)
  have g6 := F2.out.1
  obtain ⟨Q0, HQ0⟩ := named ((R1 * 4294967296 + L0) / Y)
  obtain ⟨R0, HR0⟩ := named ((R1 * 4294967296 + L0) % Y)
  rw [← HQ0.out] at g4 g6
  rw [← HR0.out] at g4 x6
  rw [Nat.mul_comm Y Q0] at g4
  have E22 := sub_digits g4.symm (by omega)
  have T := hid (two_digits (N := h * 18446744073709551616 + l) (y := y) (s := s) (U := U) (L := L) (Q1 := Q1) (R1 := R1) (Q0 := Q0) (R0 := R0) (by omega) x2 (by rw [← HY.out, ← HL1.out]; exact g1.symm) (by rw [← HY.out, ← HL0.out]; exact g4.symm) (by rw [← HY.out]; exact x6))
  clear hs x2 a2 x3 x4 g1 p2 g4
  obtain ⟨QQ, HQQ⟩ := named ((h * 18446744073709551616 + l) / y)
  obtain ⟨RR, HRR⟩ := named ((h * 18446744073709551616 + l) % y)
  rw [← HQQ.out, ← HRR.out] at T
  rw [← HQQ.out, ← HRR.out]
  go_enter Try.func75, Try.ntmps75
  go_wp2_with (go_at_call 84; refine (lzN_any y s HS.out hy _).mono ?_; rintro e w' ⟨rfl, rfl⟩)
  go_loop [15, 16] (fun qv rv => ∃ qn rn : Nat, qv = .int .u64 qn ∧ rv = .int .u64 rn ∧ Dig U L1 Y qn rn) (fun qv _ => (intOf qv).toNat)
  case atStart => exact ⟨q, r, rfl, num (by omega), D1.out⟩
  case round =>
    obtain ⟨qn, rn, rfl, rfl, hD⟩ := hrel
    have HD := hid hD
    have d1 := hD.high
    have d2 := hD.rest
    clear hD EY EL EU EY1 EY0 EL1 EL0 EQ EA a1 a3 a4 a5
    by_cases c1 : (4294967296 : Int) ≤ (qn : Int)
    · have d3 : 1 ≤ qn := by omega
      by_cases c3 : (4294967296 : Int) ≤ (rn : Int) + (Y1 : Int)
      · have HBK := hid (dig_break n1 n2 x1 b4 HD.out (.inl (by omega)) (by rw [← HY1.out]; omega))
        have EX : (qn : Int) - 1 = (Q1 : Int) := by have := HBK.out; rw [← HQ1.out] at this; omega
        go_wp2
        clear EX HBK HD c1 c3 d1 d2
        go_loop [18, 16] (fun qv rv => ∃ qn rn : Nat, qv = .int .u64 qn ∧ rv = .int .u64 rn ∧ Dig R1 L0 Y qn rn) (fun qv _ => (intOf qv).toNat)
        case atStart => exact ⟨q2, r2, rfl, num (by omega), D2.out⟩
        case round =>
          obtain ⟨qn, rn, rfl, rfl, hD⟩ := hrel
          have HD := hid hD
          have d1 := hD.high
          have d2 := hD.rest
          clear hD 
          by_cases c1 : (4294967296 : Int) ≤ (qn : Int)
          · have d3 : 1 ≤ qn := by omega
            by_cases c3 : (4294967296 : Int) ≤ (rn : Int) + (Y1 : Int)
            · have HBK := hid (dig_break n1 n2 x5 b5 HD.out (.inl (by omega)) (by rw [← HY1.out]; omega))
              have EX : (qn : Int) - 1 = (Q0 : Int) := by have := HBK.out; rw [← HQ0.out] at this; omega
              go_wp2
              go_ret2
              exact ⟨ret_uu (by have := T.out.1; omega) (by rw [T.out.2, Int.natCast_ediv, Int.natCast_pow]; rfl), rfl⟩
            · go_wp2
              go_round
              case rel => exact ⟨qn - 1, rn + Y1, num (by omega), num (by omega), by have := dig_next n1 n2 x5 b5 HD.out (.inl (by omega)) (by rw [← HY1.out]; omega); rw [← HY1.out] at this; exact this⟩
              case measure => simp [intOf]; omega
          · have hm : qn * Y0 < 18446744073709551616 := Nat.lt_of_le_of_lt (Nat.mul_le_mul (show qn ≤ 4294967295 by omega) (show Y0 ≤ 4294967295 by omega)) (by omega)
            have EB := mul_word hm
            obtain ⟨B, HB⟩ := named (qn * Y0)
            rw [← HB.out] at EB hm
            by_cases c2 : 4294967296 * (rn : Int) + (L0 : Int) < (B : Int)
            · have c2' := hid (show 4294967296 ≤ qn ∨ 4294967296 * rn + L0 < qn * (Y % 4294967296) from .inr (by rw [← HY0.out, ← HB.out]; omega))
              have d3 : 1 ≤ qn := (dig_more n1 n2 x5 b5 HD.out c2'.out).1
              by_cases c3 : (4294967296 : Int) ≤ (rn : Int) + (Y1 : Int)
              · have HBK := hid (dig_break n1 n2 x5 b5 HD.out c2'.out (by rw [← HY1.out]; omega))
                have EX : (qn : Int) - 1 = (Q0 : Int) := by have := HBK.out; rw [← HQ0.out] at this; omega
                go_wp2
                go_ret2
                exact ⟨ret_uu (by have := T.out.1; omega) (by rw [T.out.2, Int.natCast_ediv, Int.natCast_pow]; rfl), rfl⟩
              · go_wp2
                go_round
                case rel => exact ⟨qn - 1, rn + Y1, num (by omega), num (by omega), by have := dig_next n1 n2 x5 b5 HD.out c2'.out (by rw [← HY1.out]; omega); rw [← HY1.out] at this; exact this⟩
                case measure => simp [intOf]; omega
            · have HBK := hid (dig_stop n1 HD.out (by rw [← HY0.out, ← HB.out]; omega))
              obtain rfl : qn = Q0 := by have := HBK.out; rw [← HQ0.out] at this; exact this
              go_wp2
              go_ret2
              exact ⟨ret_uu (by have := T.out.1; omega) (by rw [T.out.2, Int.natCast_ediv, Int.natCast_pow]; rfl), rfl⟩
      · go_wp2
        go_round
        case rel => exact ⟨qn - 1, rn + Y1, num (by omega), num (by omega), by have := dig_next n1 n2 x1 b4 HD.out (.inl (by omega)) (by rw [← HY1.out]; omega); rw [← HY1.out] at this; exact this⟩
        case measure => simp [intOf]; omega
    · have hm : qn * Y0 < 18446744073709551616 := Nat.lt_of_le_of_lt (Nat.mul_le_mul (show qn ≤ 4294967295 by omega) (show Y0 ≤ 4294967295 by omega)) (by omega)
      have EB := mul_word hm
      obtain ⟨B, HB⟩ := named (qn * Y0)
      rw [← HB.out] at EB hm
      by_cases c2 : 4294967296 * (rn : Int) + (L1 : Int) < (B : Int)
      · have c2' := hid (show 4294967296 ≤ qn ∨ 4294967296 * rn + L1 < qn * (Y % 4294967296) from .inr (by rw [← HY0.out, ← HB.out]; omega))
        have d3 : 1 ≤ qn := (dig_more n1 n2 x1 b4 HD.out c2'.out).1
        by_cases c3 : (4294967296 : Int) ≤ (rn : Int) + (Y1 : Int)
        · have HBK := hid (dig_break n1 n2 x1 b4 HD.out c2'.out (by rw [← HY1.out]; omega))
          have EX : (qn : Int) - 1 = (Q1 : Int) := by have := HBK.out; rw [← HQ1.out] at this; omega
          go_wp2
          clear EX HBK HD c1 c3 d1 d2
          go_loop [18, 16] (fun qv rv => ∃ qn rn : Nat, qv = .int .u64 qn ∧ rv = .int .u64 rn ∧ Dig R1 L0 Y qn rn) (fun qv _ => (intOf qv).toNat)
          case atStart => exact ⟨q2, r2, rfl, num (by omega), D2.out⟩
          case round =>
            obtain ⟨qn, rn, rfl, rfl, hD⟩ := hrel
            have HD := hid hD
            have d1 := hD.high
            have d2 := hD.rest
            clear hD 
            by_cases c1 : (4294967296 : Int) ≤ (qn : Int)
            · have d3 : 1 ≤ qn := by omega
              by_cases c3 : (4294967296 : Int) ≤ (rn : Int) + (Y1 : Int)
              · have HBK := hid (dig_break n1 n2 x5 b5 HD.out (.inl (by omega)) (by rw [← HY1.out]; omega))
                have EX : (qn : Int) - 1 = (Q0 : Int) := by have := HBK.out; rw [← HQ0.out] at this; omega
                go_wp2
                go_ret2
                exact ⟨ret_uu (by have := T.out.1; omega) (by rw [T.out.2, Int.natCast_ediv, Int.natCast_pow]; rfl), rfl⟩
              · go_wp2
                go_round
                case rel => exact ⟨qn - 1, rn + Y1, num (by omega), num (by omega), by have := dig_next n1 n2 x5 b5 HD.out (.inl (by omega)) (by rw [← HY1.out]; omega); rw [← HY1.out] at this; exact this⟩
                case measure => simp [intOf]; omega
            · have hm : qn * Y0 < 18446744073709551616 := Nat.lt_of_le_of_lt (Nat.mul_le_mul (show qn ≤ 4294967295 by omega) (show Y0 ≤ 4294967295 by omega)) (by omega)
              have EB := mul_word hm
              obtain ⟨B, HB⟩ := named (qn * Y0)
              rw [← HB.out] at EB hm
              by_cases c2 : 4294967296 * (rn : Int) + (L0 : Int) < (B : Int)
              · have c2' := hid (show 4294967296 ≤ qn ∨ 4294967296 * rn + L0 < qn * (Y % 4294967296) from .inr (by rw [← HY0.out, ← HB.out]; omega))
                have d3 : 1 ≤ qn := (dig_more n1 n2 x5 b5 HD.out c2'.out).1
                by_cases c3 : (4294967296 : Int) ≤ (rn : Int) + (Y1 : Int)
                · have HBK := hid (dig_break n1 n2 x5 b5 HD.out c2'.out (by rw [← HY1.out]; omega))
                  have EX : (qn : Int) - 1 = (Q0 : Int) := by have := HBK.out; rw [← HQ0.out] at this; omega
                  go_wp2
                  go_ret2
                  exact ⟨ret_uu (by have := T.out.1; omega) (by rw [T.out.2, Int.natCast_ediv, Int.natCast_pow]; rfl), rfl⟩
                · go_wp2
                  go_round
                  case rel => exact ⟨qn - 1, rn + Y1, num (by omega), num (by omega), by have := dig_next n1 n2 x5 b5 HD.out c2'.out (by rw [← HY1.out]; omega); rw [← HY1.out] at this; exact this⟩
                  case measure => simp [intOf]; omega
              · have HBK := hid (dig_stop n1 HD.out (by rw [← HY0.out, ← HB.out]; omega))
                obtain rfl : qn = Q0 := by have := HBK.out; rw [← HQ0.out] at this; exact this
                go_wp2
                go_ret2
                exact ⟨ret_uu (by have := T.out.1; omega) (by rw [T.out.2, Int.natCast_ediv, Int.natCast_pow]; rfl), rfl⟩
        · go_wp2
          go_round
          case rel => exact ⟨qn - 1, rn + Y1, num (by omega), num (by omega), by have := dig_next n1 n2 x1 b4 HD.out c2'.out (by rw [← HY1.out]; omega); rw [← HY1.out] at this; exact this⟩
          case measure => simp [intOf]; omega
      · have HBK := hid (dig_stop n1 HD.out (by rw [← HY0.out, ← HB.out]; omega))
        obtain rfl : qn = Q1 := by have := HBK.out; rw [← HQ1.out] at this; exact this
        go_wp2
        clear HBK HD c1 c2 d1 d2
        go_loop [18, 16] (fun qv rv => ∃ qn rn : Nat, qv = .int .u64 qn ∧ rv = .int .u64 rn ∧ Dig R1 L0 Y qn rn) (fun qv _ => (intOf qv).toNat)
        case atStart => exact ⟨q2, r2, rfl, num (by omega), D2.out⟩
        case round =>
          obtain ⟨qn, rn, rfl, rfl, hD⟩ := hrel
          have HD := hid hD
          have d1 := hD.high
          have d2 := hD.rest
          clear hD 
          by_cases c1 : (4294967296 : Int) ≤ (qn : Int)
          · have d3 : 1 ≤ qn := by omega
            by_cases c3 : (4294967296 : Int) ≤ (rn : Int) + (Y1 : Int)
            · have HBK := hid (dig_break n1 n2 x5 b5 HD.out (.inl (by omega)) (by rw [← HY1.out]; omega))
              have EX : (qn : Int) - 1 = (Q0 : Int) := by have := HBK.out; rw [← HQ0.out] at this; omega
              go_wp2
              go_ret2
              exact ⟨ret_uu (by have := T.out.1; omega) (by rw [T.out.2, Int.natCast_ediv, Int.natCast_pow]; rfl), rfl⟩
            · go_wp2
              go_round
              case rel => exact ⟨qn - 1, rn + Y1, num (by omega), num (by omega), by have := dig_next n1 n2 x5 b5 HD.out (.inl (by omega)) (by rw [← HY1.out]; omega); rw [← HY1.out] at this; exact this⟩
              case measure => simp [intOf]; omega
          · have hm : qn * Y0 < 18446744073709551616 := Nat.lt_of_le_of_lt (Nat.mul_le_mul (show qn ≤ 4294967295 by omega) (show Y0 ≤ 4294967295 by omega)) (by omega)
            have EB := mul_word hm
            obtain ⟨B, HB⟩ := named (qn * Y0)
            rw [← HB.out] at EB hm
            by_cases c2 : 4294967296 * (rn : Int) + (L0 : Int) < (B : Int)
            · have c2' := hid (show 4294967296 ≤ qn ∨ 4294967296 * rn + L0 < qn * (Y % 4294967296) from .inr (by rw [← HY0.out, ← HB.out]; omega))
              have d3 : 1 ≤ qn := (dig_more n1 n2 x5 b5 HD.out c2'.out).1
              by_cases c3 : (4294967296 : Int) ≤ (rn : Int) + (Y1 : Int)
              · have HBK := hid (dig_break n1 n2 x5 b5 HD.out c2'.out (by rw [← HY1.out]; omega))
                have EX : (qn : Int) - 1 = (Q0 : Int) := by have := HBK.out; rw [← HQ0.out] at this; omega
                go_wp2
                go_ret2
                exact ⟨ret_uu (by have := T.out.1; omega) (by rw [T.out.2, Int.natCast_ediv, Int.natCast_pow]; rfl), rfl⟩
              · go_wp2
                go_round
                case rel => exact ⟨qn - 1, rn + Y1, num (by omega), num (by omega), by have := dig_next n1 n2 x5 b5 HD.out c2'.out (by rw [← HY1.out]; omega); rw [← HY1.out] at this; exact this⟩
                case measure => simp [intOf]; omega
            · have HBK := hid (dig_stop n1 HD.out (by rw [← HY0.out, ← HB.out]; omega))
              obtain rfl : qn = Q0 := by have := HBK.out; rw [← HQ0.out] at this; exact this
              go_wp2
              go_ret2
              exact ⟨ret_uu (by have := T.out.1; omega) (by rw [T.out.2, Int.natCast_ediv, Int.natCast_pow]; rfl), rfl⟩
end Go.Proofs.Ytoobijimfccfgaa

/-
  The contract of the library function Div64 of math/bits, for every high word below the divisor.
-/
namespace Go.Proofs.Ytoobijimfccfgaa
open Go.RowKit

/-- the high word being 0 -/
theorem div64_low (l y : Nat) (h0 : 1 ≤ y) (hl : l < 18446744073709551616) (hy : y < 18446744073709551616) (w : World) :
    Calls Try.prog 75 #[.int .u64 0, .int .u64 l, .int .u64 y] w fun e w' => e = .returned (.tuple #[.int .u64 ((l / y : Nat) : Int), .int .u64 ((l % y : Nat) : Int)]) ∧ Below w.heap.size w w' := by
  have e1 : IntKind.u64.wrap ((l : Int) / (y : Int)) = ((l / y : Nat) : Int) := by rw [← Int.natCast_ediv]; exact Mul64.wrapN _ (Nat.lt_of_le_of_lt (Nat.div_le_self _ _) hl)
  have e2 : (l : Int).tmod (y : Int) = ((l % y : Nat) : Int) := rfl
  obtain ⟨A, HA⟩ := named (l / y)
  obtain ⟨B, HB⟩ := named (l % y)
  rw [← HA.out] at e1
  rw [← HB.out] at e2
  rw [← HA.out, ← HB.out]
  go_enter Try.func75, Try.ntmps75
  go_wp2
  have hne : Nonempty (ExtW w) := ⟨⟨_, Below.refl _ _⟩⟩
  refine wp_region_ext (by kernel_rfl) (by kernel_rfl) ?_
  repeat (first | go_big_quiet_step ((first | fail)) | quiet_step ((first | fail)))
  refine wpQuiet_nil ?_
  rintro w1 ⟨⟨_, hb⟩, rfl⟩
  obtain ⟨hc, hf⟩ := bcell hb
  have hsz := hb.size
  (try simp at hsz)
  (try have hy0 : w.heap.size < w1.heap.size := by omega)
  (try have hy1 : w.heap.size + 1 < w1.heap.size := by omega)
  (try have hy2 : w.heap.size + 2 < w1.heap.size := by omega)
  (try have hyS : ws.heap.size < w1.heap.size := by omega)
  (try have hyG : wg.heap.size < w1.heap.size := by omega)
  go_wp2
  go_ret2
  exact ⟨ret_uu (by first | rfl | exact e1) (by first | rfl | exact e2), by (repeat' (first | (with_reducible exact Below.refl _ _) | (with_reducible assumption) | (with_reducible refine xAlloc ?_ _) | (with_reducible refine Below.drew ?_) | (with_reducible refine xDrewN ?_ _) | (with_reducible refine xThen ?_ (by with_reducible assumption)) | (with_reducible refine Below.setCell ?_ (by first | omega | (simp; omega) | simp) _) | exact Below.refl _ _))⟩
/-- every high word below the divisor -/
theorem div64_all (h l y : Nat) (hhy : h < y) (hl : l < 18446744073709551616) (hy : y < 18446744073709551616) (w : World) :
    Calls Try.prog 75 #[.int .u64 h, .int .u64 l, .int .u64 y] w fun e w' => e = .returned (.tuple #[.int .u64 (((h * 18446744073709551616 + l) / y : Nat) : Int), .int .u64 (((h * 18446744073709551616 + l) % y : Nat) : Int)]) ∧ Below w.heap.size w w' := by
  rcases Nat.eq_zero_or_pos h with rfl | h1
  · refine (div64_low l y (by omega) hl hy w).mono ?_
    rintro e w' ⟨rfl, hb⟩
    exact ⟨by simp, hb⟩
  · refine (div64_any h l y h1 hhy hl hy w).mono ?_
    rintro e w' ⟨rfl, rfl⟩
    exact ⟨rfl, Below.refl _ _⟩
end Go.Proofs.Ytoobijimfccfgaa
