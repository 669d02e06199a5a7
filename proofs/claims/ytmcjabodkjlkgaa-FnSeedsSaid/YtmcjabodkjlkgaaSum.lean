/-
  Sums of short lists of small numbers, and what fits beside them: contracts of total and l02Sum.
-/
import Derived.Test.YtmcjabodkjlkgaaInts
namespace Go.Proofs.Ytmcjabodkjlkgaa
open Go.RowKit

/-- no element is negative, and the sum is at most left -/
def sits (left : Int) : List Int → Bool
  | [] => true
  | z :: zs => decide (0 ≤ z) && decide (z ≤ left) && sits (left - z) zs
theorem sits_drop (left : Int) (zs : List Int) (k : Nat) (h : k < zs.length) :
    sits left (zs.drop k) = (decide (0 ≤ zs.getD k 0) && decide (zs.getD k 0 ≤ left) && sits (left - zs.getD k 0) (zs.drop (k + 1))) := by
  rw [List.drop_eq_getElem_cons h]
  simp [sits, h]
def sumN (zs : List Int) : Nat → Nat
  | 0 => 0
  | j + 1 => sumN zs j + (zs.getD j 0).toNat
theorem sumN_cons (z : Int) (zs : List Int) : ∀ k, sumN (z :: zs) (k + 1) = z.toNat + sumN zs k
  | 0 => by simp [sumN]
  | k + 1 => by
    have := sumN_cons z zs k
    simp only [sumN] at this ⊢
    rw [this]
    simp
    omega
theorem sits_bd {left : Int} {zs : List Int} (h0 : 0 ≤ left) (h : sits left zs = true) : (sumN zs zs.length : Int) ≤ left ∧ ∀ i, 0 ≤ zs.getD i 0 ∧ zs.getD i 0 ≤ left := by
  induction zs generalizing left with
  | nil => exact ⟨by simpa [sumN] using h0, fun i => by simpa using h0⟩
  | cons z zs ih =>
    simp [sits] at h
    obtain ⟨⟨h1, h2⟩, h3⟩ := h
    obtain ⟨i1, i2⟩ := ih (by omega) h3
    refine ⟨by rw [List.length_cons, sumN_cons]; omega, fun i => ?_⟩
    cases i with
    | zero => exact ⟨h1, h2⟩
    | succ i =>
      have := i2 i
      simp at this ⊢
      omega
theorem sits_of {left : Int} {zs : List Int} (hz : ∀ i, 0 ≤ zs.getD i 0) (hs : (sumN zs zs.length : Int) ≤ left) : sits left zs = true := by
  induction zs generalizing left with
  | nil => rfl
  | cons z zs ih =>
    have h0 := hz 0
    simp at h0
    rw [List.length_cons, sumN_cons] at hs
    have := ih (left := left - z) (fun i => by have := hz (i + 1); simpa using this) (by omega)
    simp [sits, this]
    omega
theorem sumN_le {zs : List Int} (hz : ∀ i, 0 ≤ zs.getD i 0 ∧ zs.getD i 0 ≤ 15) : ∀ k, sumN zs k ≤ 15 * k
  | 0 => by simp [sumN]
  | k + 1 => by
    have := sumN_le hz k
    have := hz k
    simp only [sumN]
    omega

theorem totalS_any (v : Value) (zs : List Int) (w : World) (hI : IntsAt w v zs) (hz : ∀ i, 0 ≤ zs.getD i 0 ∧ zs.getD i 0 ≤ 15) :
    Calls Try.prog 109 #[v] w fun e w' => e = .returned (.int .i64 (sumN zs zs.length)) ∧ w = w' := by
  obtain ⟨a, cap, rfl, hm, ha⟩ := hI
  have HZ := hid hz
  clear hz
  go_enter Try.func109, Try.ntmps109
  go_wp2
  go_loop [3, 5, 8] (fun s _ i => ∃ k : Nat, k ≤ zs.length ∧ i = .int .i64 k ∧ s = .int .i64 (sumN zs k)) (fun _ _ i => zs.length - (intOf i).toNat)
  case atStart => exact ⟨0, by omega, rfl, rfl⟩
  case round =>
    obtain ⟨k, hk, rfl, rfl⟩ := hrel
    by_cases hlt : k < zs.length
    · obtain ⟨b, off, rfl, hcell⟩ := ha.resolve_left (by rintro rfl; simp at hlt)
      have hx := hcell k hlt
      have hs := sumN_le HZ.out k
      have HN : Hid (sumN zs (k + 1) = sumN zs k + (zs.getD k 0).toNat) := rfl
      have hx2 := HZ.out k
      obtain ⟨x, HX⟩ := named (zs.getD k 0)
      rw [← HX.out] at hx hx2 HN
      clear hcell ha
      go_wp2
      go_round
      case rel => exact ⟨k + 1, by omega, by go_num, num (by have := HN.out; omega)⟩
      case measure => simp [intOf]; omega
    · have : k = zs.length := by omega
      go_wp2
      go_ret
      exact ⟨rfl, rfl⟩

theorem l02Sum_any (v : Value) (zs : List Int) (w : World) (hI : IntsAt w v zs) (hz : ∀ i, 0 ≤ zs.getD i 0 ∧ zs.getD i 0 ≤ 15) :
    Calls Try.prog 70 #[v] w fun e w' => e = .returned (.int .i64 (sumN zs zs.length)) ∧ w = w' := by
  obtain ⟨a, cap, rfl, hm, ha⟩ := hI
  have HZ := hid hz
  clear hz
  go_enter Try.func70, Try.ntmps70
  go_wp2
  go_loop [3, 4] (fun s i => ∃ k : Nat, k ≤ zs.length ∧ i = .int .i64 k ∧ s = .int .i64 (sumN zs k)) (fun _ i => zs.length - (intOf i).toNat)
  case atStart => exact ⟨0, by omega, rfl, rfl⟩
  case round =>
    obtain ⟨k, hk, rfl, rfl⟩ := hrel
    by_cases hlt : k < zs.length
    · obtain ⟨b, off, rfl, hcell⟩ := ha.resolve_left (by rintro rfl; simp at hlt)
      have hx := hcell k hlt
      have hs := sumN_le HZ.out k
      have HN : Hid (sumN zs (k + 1) = sumN zs k + (zs.getD k 0).toNat) := rfl
      have hx2 := HZ.out k
      obtain ⟨x, HX⟩ := named (zs.getD k 0)
      rw [← HX.out] at hx hx2 HN
      clear hcell ha
      go_wp2
      go_round
      case rel => exact ⟨k + 1, by omega, by go_num, num (by have := HN.out; omega)⟩
      case measure => simp [intOf]; omega
    · have : k = zs.length := by omega
      go_wp2
      go_ret
      exact ⟨rfl, rfl⟩

/-- the greatest index of a positive element among the first k, or -1 -/
def lastTo (zs : List Int) : Nat → Int
  | 0 => -1
  | k + 1 => if 0 < zs.getD k 0 then (k : Int) else lastTo zs k
theorem lastTo_bd (zs : List Int) : ∀ k, -1 ≤ lastTo zs k ∧ lastTo zs k < k
  | 0 => by simp [lastTo]
  | k + 1 => by
    have := lastTo_bd zs k
    simp only [lastTo]
    split <;> omega

theorem highest_any (v : Value) (zs : List Int) (w : World) (hI : IntsAt w v zs) :
    Calls Try.prog 113 #[v] w fun e w' => e = .returned (.int .i64 (lastTo zs zs.length)) ∧ w = w' := by
  obtain ⟨a, cap, rfl, hm, ha⟩ := hI
  go_enter Try.func113, Try.ntmps113
  go_wp2
  go_loop [3] (fun i => ∃ k : Nat, k ≤ zs.length ∧ i = .int .i64 ((k : Int) - 1) ∧ lastTo zs zs.length = lastTo zs k) (fun i => (intOf i + 1).toNat)
  case atStart => exact ⟨zs.length, by omega, rfl, rfl⟩
  case round =>
    obtain ⟨k, hk, rfl, hl⟩ := hrel
    have HL := hid hl
    clear hl
    cases k with
    | zero =>
      go_wp2
      go_ret
      exact ⟨ret_int (by rw [HL.out]; rfl), rfl⟩
    | succ k =>
      obtain ⟨b, off, rfl, hcell⟩ := ha.resolve_left (by rintro rfl; simp at hk)
      have hx := hcell k (by omega)
      have e1 : ((k + 1 : Nat) : Int) - 1 = (k : Int) := by omega
      have HN : Hid (lastTo zs (k + 1) = if 0 < zs.getD k 0 then (k : Int) else lastTo zs k) := rfl
      obtain ⟨x, HX⟩ := named (zs.getD k 0)
      rw [← HX.out] at hx HN
      rw [e1]
      clear hcell ha e1
      by_cases hp : 0 < x
      · go_wp2
        go_ret
        exact ⟨ret_int (by rw [HL.out, HN.out, if_pos hp]), rfl⟩
      · go_wp2
        go_round
        case rel => exact ⟨k, by omega, num (by omega), by rw [HL.out, HN.out, if_neg hp]⟩
        case measure => simp [intOf]

theorem l02Last_any (v : Value) (zs : List Int) (w : World) (hI : IntsAt w v zs) :
    Calls Try.prog 111 #[v] w fun e w' => e = .returned (.int .i64 (lastTo zs zs.length)) ∧ w = w' := by
  obtain ⟨a, cap, rfl, hm, ha⟩ := hI
  go_enter Try.func111, Try.ntmps111
  go_wp2
  go_loop [3, 4] (fun l i => ∃ k : Nat, k ≤ zs.length ∧ i = .int .i64 k ∧ l = .int .i64 (lastTo zs k)) (fun _ i => zs.length - (intOf i).toNat)
  case atStart => exact ⟨0, by omega, rfl, rfl⟩
  case round =>
    obtain ⟨k, hk, rfl, rfl⟩ := hrel
    by_cases hlt : k < zs.length
    · obtain ⟨b, off, rfl, hcell⟩ := ha.resolve_left (by rintro rfl; simp at hlt)
      have hx := hcell k hlt
      have HN : Hid (lastTo zs (k + 1) = if 0 < zs.getD k 0 then (k : Int) else lastTo zs k) := rfl
      obtain ⟨x, HX⟩ := named (zs.getD k 0)
      rw [← HX.out] at hx HN
      clear hcell ha
      by_cases hp : 0 < x
      all_goals
        go_wp2
        go_round
        case rel => exact ⟨k + 1, by omega, by go_num, num (by rw [HN.out]; simp [hp])⟩
        case measure => simp [intOf]; omega
    · have : k = zs.length := by omega
      go_wp2
      go_ret
      exact ⟨rfl, rfl⟩
end Go.Proofs.Ytmcjabodkjlkgaa
