/-
  Plain: decimal numerals read back.
-/
import Derived.Lib.ItoaLen
import Derived.Lib.ParseIntBTie
import Derived.Lib.Strings
namespace Go.Proofs.YtokddngcfkimlaaDoor
open Go.Lib

theorem decDigits_rec {u : Nat} (h : 10 ≤ u) : decDigits u = decDigits (u / 10) ++ [UInt8.ofNat (48 + u % 10)] := by
  rw [decDigits, dif_neg (by omega)]
theorem byte_dig {d : Nat} (h : d < 10) : (UInt8.ofNat (48 + d)).toNat = 48 + d := by
  rw [UInt8.toNat_ofNat']; omega
theorem decDigits_dig : ∀ (u : Nat) (c : UInt8), c ∈ decDigits u → 48 ≤ c.toNat ∧ c.toNat ≤ 57 := fun u => by
  induction u using Nat.strongRecOn with
  | ind u ih =>
    intro c hc
    by_cases h : u < 10
    · rw [decDigits_one h, List.mem_singleton] at hc
      rw [hc, byte_dig h]; omega
    · rw [decDigits_rec (by omega)] at hc
      rcases List.mem_append.1 hc with hc | hc
      · exact ih (u / 10) (by omega) c hc
      · rw [List.mem_singleton] at hc
        rw [hc, byte_dig (Nat.mod_lt _ (by decide))]; omega
theorem decDigits_ne (u : Nat) : decDigits u ≠ [] := by
  rw [decDigits]; split <;> simp
theorem decDigits_len {k : Nat} : ∀ {u : Nat}, u < 10 ^ (k + 1) → (decDigits u).length ≤ k + 1 := by
  induction k with
  | zero => intro u h; rw [decDigits_one (by simpa using h)]; simp
  | succ k ih =>
    intro u h
    by_cases h1 : u < 10
    · rw [decDigits_one h1]; simp
    · rw [decDigits_rec (by omega), List.length_append, List.length_singleton]
      have := ih (u := u / 10) (by rw [Nat.pow_succ] at h; omega)
      omega
theorem parseUintM_app {M : Nat} : ∀ {l : List UInt8} {acc a : Nat} (r : List UInt8), parseUintM M acc l = .ok a → parseUintM M acc (l ++ r) = parseUintM M a r
  | [], acc, a, r, h => by
    simp only [parseUintM] at h
    cases h; rfl
  | c :: l, acc, a, r, h => by
    simp only [parseUintM, List.cons_append] at h ⊢
    split at h
    · split at h
      · cases h
      · split at h
        · cases h
        · next h1 h2 h3 =>
          rw [if_pos h1, if_neg h2, if_neg h3]
          exact parseUintM_app r h
    · cases h
theorem parseUintM_dec {M : Nat} : ∀ {u : Nat}, u ≤ M → u < 18446744073709551616 → parseUintM M 0 (decDigits u) = .ok u := fun {u} => by
  induction u using Nat.strongRecOn with
  | ind u ih =>
    intro hM hu
    by_cases h : u < 10
    · rw [decDigits_one h]
      simp only [parseUintM, byte_dig h]
      rw [if_pos (by omega), if_neg (by omega), if_neg (by omega)]
      congr 1; omega
    · rw [decDigits_rec (by omega), parseUintM_app _ (ih (u / 10) (by omega) (by omega) (by omega))]
      simp only [parseUintM, byte_dig (Nat.mod_lt u (show 0 < 10 by decide))]
      rw [if_pos (by omega), if_neg (by omega), if_neg (by omega)]
      congr 1; omega
theorem parseIntB_itoa {x : Int} (h0 : -9223372036854775808 ≤ x) (h1 : x ≤ 9223372036854775807) : parseIntB 64 (itoa x) = .ok x := by
  have hB : ∀ u : Nat, u ≤ 9223372036854775808 → parseUintB 64 (decDigits u) = .ok u := fun u h => by
    unfold parseUintB
    rw [if_neg (decDigits_ne u)]
    exact parseUintM_dec (by rw [show 2 ^ 64 - 1 = 18446744073709551615 from rfl]; omega) (by omega)
  have e63 : 2 ^ (64 - 1) = 9223372036854775808 := rfl
  unfold itoa
  split
  · rw [parseIntB_minus, hB _ (by omega), e63]
    simp only [signedC]
    rw [if_neg (by omega)]
    congr 1; omega
  · obtain ⟨c, r, hc⟩ := List.exists_cons_of_ne_nil (decDigits_ne x.toNat)
    have hd := decDigits_dig x.toNat c (by rw [hc]; simp)
    rw [hc, parseIntB_plain _ _ _ (by omega) (by omega), ← hc, hB _ (by omega), e63]
    simp only [signlessC]
    rw [if_neg (by omega)]
    congr 1; omega
end Go.Proofs.YtokddngcfkimlaaDoor
