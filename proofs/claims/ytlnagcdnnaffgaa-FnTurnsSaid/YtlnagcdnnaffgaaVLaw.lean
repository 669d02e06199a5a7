/-
  Contracts of the laws' own helpers: copies of arguments, sizes, comparisons, marks.
-/
import Derived.Test.YtlnagcdnnaffgaaVBoard2
namespace Go.Proofs.Ytlnagcdnnaffgaa
open Go.RowKit
set_option linter.unusedSimpArgs false
set_option linter.unusedVariables false
/-- the first k elements are copied -/
def CopyTo {α : Type} (zs out : List α) (k : Nat) : Prop := out.length = zs.length ∧ ∀ j, j < k → out[j]? = zs[j]?
theorem CopyTo.zero {α : Type} {zs : List α} {n : Nat} (h : n = zs.length) (z : α) : CopyTo zs (List.replicate n z) 0 := ⟨by simp [h], fun j hj => by omega⟩
theorem CopyTo.step {α : Type} {zs out : List α} {k : Nat} (h : CopyTo zs out k) (hk : k < zs.length) (d : α) : CopyTo zs (out.set k (zs.getD k d)) (k + 1) := by
  refine ⟨by simp [h.1], fun j hj => ?_⟩
  rw [List.getElem?_set]
  split
  · next e => subst e; rw [if_pos (by rw [h.1]; exact hk), List.getD_eq_getElem?_getD, List.getElem?_eq_getElem hk]; rfl
  · exact h.2 j (by omega)
theorem CopyTo.all {α : Type} {zs out : List α} {k : Nat} (h : CopyTo zs out k) (hk : zs.length ≤ k) : out = zs := by
  refine List.ext_getElem? fun j => ?_
  by_cases e : j < k
  · exact h.2 j e
  · rw [List.getElem?_eq_none (by rw [h.1]; omega), List.getElem?_eq_none (by omega)]
/-- the marks k, k + 1, .. -/
def markL (k : Int) (n : Nat) : List Int := (List.range n).map fun i => k + (i : Nat)
theorem markL_length (k : Int) (n : Nat) : (markL k n).length = n := by simp [markL]
theorem markL_at (k : Int) {n i : Nat} (h : i < n) : (markL k n)[i]? = some (k + i) := by simp [markL, h]
def MarkTo (k : Int) (n : Nat) (out : List Int) (i : Nat) : Prop := out.length = n ∧ ∀ j, j < i → out[j]? = some (k + j)
theorem MarkTo.step {k : Int} {n : Nat} {out : List Int} {i : Nat} (h : MarkTo k n out i) (hi : i < n) {z : Int} (hz : z = k + i) : MarkTo k n (out.set i z) (i + 1) := by
  refine ⟨by simp [h.1], fun j hj => ?_⟩
  rw [List.getElem?_set]
  split
  · next e => subst e; rw [if_pos (by rw [h.1]; exact hi), hz]
  · exact h.2 j (by omega)
theorem MarkTo.all {k : Int} {n : Nat} {out : List Int} {i : Nat} (h : MarkTo k n out i) (hi : n ≤ i) : out = markL k n := by
  refine List.ext_getElem? fun j => ?_
  by_cases e : j < n
  · rw [h.2 j (by omega), markL_at k e]
  · rw [List.getElem?_eq_none (by rw [h.1]; omega), List.getElem?_eq_none (by rw [markL_length]; omega)]
def szD (n : Nat) (l : Int) : Int := if l - n < 0 then -1 else l - n
theorem szD_add {m n : Nat} {l : Int} (h : ¬ szD m l < 0) : szD n (szD m l) = szD (m + n) l := by
  unfold szD at h ⊢; grind
theorem szD_neg {m n : Nat} {l : Int} (h : szD m l < 0) : szD (m + n) l = -1 := by
  unfold szD at h ⊢; grind
theorem szD_ge {m : Nat} {l : Int} (h : ¬ szD m l < 0) : (m : Int) ≤ l := by
  unfold szD at h; grind
theorem szD_bd {m : Nat} {l : Int} (hl : l ≤ 1048576) : -1 ≤ szD m l ∧ szD m l ≤ 1048576 := by
  unfold szD; grind
end Go.Proofs.Ytlnagcdnnaffgaa
