/-
  Plain: texts cut at a byte that does not lie in their first part.
-/
import Derived.Test.YtokddngcfkimlaaDoorPNum
import Derived.Lib.IndexMore
namespace Go.Proofs.YtokddngcfkimlaaDoor
open Go.Lib

theorem index_no {c : UInt8} : ∀ {l : List UInt8}, c ∉ l → index l [c] = -1
  | [], _ => rfl
  | b :: l, h => by
    simp only [List.mem_cons, not_or] at h
    have ih := index_no h.2
    unfold index
    rw [if_neg (by simp [List.isPrefixOf, h.1]), ih]; rfl
theorem index_at {c : UInt8} {r : List UInt8} : ∀ {p : List UInt8}, c ∉ p → index (p ++ c :: r) [c] = p.length
  | [], _ => by
    rw [List.nil_append]; unfold index
    rw [if_pos (by simp [List.isPrefixOf])]; rfl
  | b :: p, h => by
    simp only [List.mem_cons, not_or] at h
    have ih := index_at (r := r) h.2
    rw [List.cons_append]; unfold index
    rw [if_neg (by simp [List.isPrefixOf, h.1]), ih]
    rw [if_neg (by simp)]
    simp
theorem cut_no {c : UInt8} {l : List UInt8} (h : c ∉ l) : cut l [c] = (l, [], false) := by
  unfold cut; rw [index_no h, if_neg (by decide)]
theorem cut_at {c : UInt8} {p r : List UInt8} (h : c ∉ p) : cut (p ++ c :: r) [c] = (p, r, true) := by
  unfold cut
  rw [index_at h, if_pos (by omega)]
  have e : (p ++ c :: r).drop (p.length + 1) = r := by
    rw [show p ++ c :: r = (p ++ [c]) ++ r by simp]
    exact List.drop_left' (by simp)
  simp [e]
theorem itoa_mem {x : Int} {c : UInt8} (h : c ∈ itoa x) : c = 45 ∨ 48 ≤ c.toNat ∧ c.toNat ≤ 57 := by
  unfold itoa at h
  split at h
  · rcases List.mem_cons.1 h with h | h
    · exact .inl h
    · exact .inr (decDigits_dig _ _ h)
  · exact .inr (decDigits_dig _ _ h)
theorem itoa_not {x : Int} {c : UInt8} (h1 : c ≠ 45) (h2 : c.toNat < 48 ∨ 57 < c.toNat) : c ∉ itoa x := fun h => by
  rcases itoa_mem h with h | h
  · exact h1 h
  · omega
end Go.Proofs.YtokddngcfkimlaaDoor
