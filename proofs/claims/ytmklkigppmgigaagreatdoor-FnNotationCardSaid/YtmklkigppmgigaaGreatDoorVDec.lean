/-
  Contracts: decimal numerals written digit by digit.
-/
import Derived.Test.YtmklkigppmgigaaGreatDoorVText
namespace Go.Proofs.YtmklkigppmgigaaGreatDoor
open Go.RowKit
set_option linter.unusedSimpArgs false
set_option linter.unusedVariables false
/-- the digits that are still to be written -/
def preD (m : Int) : List UInt8 := if m = 0 then [] else Lib.decDigits m.natAbs
def DecI (n m : Int) (ds : List Int) : Prop := ds.length ≤ 30 ∧ ((ds = [] ∧ m = n) ∨ (ds ≠ [] ∧ Lib.decDigits n.natAbs = preD m ++ (strOfNums ds).data.toList))
theorem dd_step (b : Nat) : (if b / 10 = 0 then [] else Lib.decDigits (b / 10)) ++ [UInt8.ofNat (48 + b % 10)] = Lib.decDigits b := by
  by_cases h : b < 10
  · rw [if_pos (by omega), Lib.decDigits_one h, List.nil_append, Nat.mod_eq_of_lt h]
  · rw [if_neg (by omega)]
    conv => rhs; rw [Lib.decDigits, dif_neg (by omega)]
theorem tdv10_abs (m : Int) : (Int.tdiv m 10).natAbs = m.natAbs / 10 := by rw [Int.natAbs_tdiv]; rfl
theorem tmd10_abs (m : Int) : max (Int.tmod m 10) (0 - Int.tmod m 10) = ((m.natAbs % 10 : Nat) : Int) := by
  have h : (Int.tmod m 10).natAbs = m.natAbs % 10 := by rw [Int.natAbs_tmod]; rfl
  omega
theorem preD_step (m : Int) : preD (Int.tdiv m 10) ++ (strOfNums [48 + max (Int.tmod m 10) (0 - Int.tmod m 10)]).data.toList = Lib.decDigits m.natAbs := by
  rw [← dd_step, tmd10_abs, strOfNums_data]
  unfold preD
  rw [tdv10_abs]
  congr 1
  · have := tdv10_abs m
    split <;> split <;> first | rfl | (exfalso; omega)
theorem decI_len {n m : Int} {ds : List Int} (hn : inK .i64 n) (h : DecI n m ds) : ds.length ≤ 21 := by
  rcases h.2 with ⟨h, -⟩ | ⟨-, h⟩
  · rw [h]; decide
  · simp only [inK] at hn
    have h1 := Lib.itoa_length_le n (by omega) (by omega)
    have h2 : (Lib.decDigits n.natAbs).length ≤ (Lib.itoa n).length := by
      unfold Lib.itoa
      split
      · simp
      · rw [show n.toNat = n.natAbs by omega]; exact Nat.le_refl _
    have h3 := congrArg List.length h
    rw [List.length_append, strOfNums_data] at h3
    simp only [List.length_map] at h3
    omega
theorem decI_step {n m : Int} {ds : List Int} (hn : inK .i64 n) (h : DecI n m ds) (hm : m ≠ 0 ∨ ds = []) : DecI n (Int.tdiv m 10) ([48 + max (Int.tmod m 10) (0 - Int.tmod m 10)] ++ ds) := by
  have hs := preD_step m
  rw [strOfNums_data] at hs
  refine ⟨by have := decI_len hn h; simp; omega, .inr ⟨by simp, ?_⟩⟩
  rw [strOfNums_data, List.map_append, ← List.append_assoc, hs]
  rcases h.2 with ⟨h1, h2⟩ | ⟨h1, h2⟩
  · subst h1; subst h2; simp
  · rw [h2, strOfNums_data]
    unfold preD
    rw [if_neg (hm.resolve_right h1)]
theorem decI_done {n : Int} {ds : List Int} (h : DecI n 0 ds) (h0 : ds ≠ []) : Lib.decDigits n.natAbs = (strOfNums ds).data.toList := by
  rcases h.2 with ⟨h1, -⟩ | ⟨-, h2⟩
  · exact absurd h1 h0
  · rw [h2]; unfold preD; rw [if_pos rfl]; rfl
theorem itoa_abs (n : Int) : Lib.itoa n = (if n < 0 then [45] else []) ++ Lib.decDigits n.natAbs := by
  unfold Lib.itoa
  split
  · rfl
  · next h => rw [show n.toNat = n.natAbs by omega]; rfl
end Go.Proofs.YtmklkigppmgigaaGreatDoor
