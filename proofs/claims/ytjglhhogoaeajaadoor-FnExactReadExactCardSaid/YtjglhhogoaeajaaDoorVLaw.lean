/-
  Contracts of the laws' own helpers: copies of arguments, sizes, comparisons, marks.
-/
import Derived.Test.YtjglhhogoaeajaaDoorVBoard2
namespace Go.Proofs.YtjglhhogoaeajaaDoor
open Go.RowKit
set_option linter.unusedSimpArgs false
set_option linter.unusedVariables false
/-- the first k elements are copied -/
def CopyTo {α : Type} (zs out : List α) (k : Nat) : Prop := out.length = zs.length ∧ ∀ j, j < k → out[j]? = zs[j]?
theorem CopyTo.zero {α : Type} {zs : List α} {n : Nat} (h : n = zs.length) (z : α) : CopyTo zs (List.replicate n z) 0 := ⟨by simp [h], fun j hj => by omega⟩
theorem CopyTo.step {α : Type} {zs out : List α} {k : Nat} (h : CopyTo zs out k) (hk : k < zs.length) (d : α) : CopyTo zs (out.set k (zs.getD k d)) (k + 1) := by
  refine ⟨by simp [h.1], fun j hj => ?_⟩
  rw [List.getElem?_set]
  split
  · next e => subst e; rw [if_pos (by rw [h.1]; exact hk), List.getD_eq_getElem?_getD, List.getElem?_eq_getElem hk]; rfl
  · exact h.2 j (by omega)
theorem CopyTo.all {α : Type} {zs out : List α} {k : Nat} (h : CopyTo zs out k) (hk : zs.length ≤ k) : out = zs := by
  refine List.ext_getElem? fun j => ?_
  by_cases e : j < k
  · exact h.2 j e
  · rw [List.getElem?_eq_none (by rw [h.1]; omega), List.getElem?_eq_none (by omega)]
/-- the marks k, k + 1, .. -/
def markL (k : Int) (n : Nat) : List Int := (List.range n).map fun i => k + (i : Nat)
theorem markL_length (k : Int) (n : Nat) : (markL k n).length = n := by simp [markL]
theorem markL_at (k : Int) {n i : Nat} (h : i < n) : (markL k n)[i]? = some (k + i) := by simp [markL, h]
def MarkTo (k : Int) (n : Nat) (out : List Int) (i : Nat) : Prop := out.length = n ∧ ∀ j, j < i → out[j]? = some (k + j)
theorem MarkTo.step {k : Int} {n : Nat} {out : List Int} {i : Nat} (h : MarkTo k n out i) (hi : i < n) {z : Int} (hz : z = k + i) : MarkTo k n (out.set i z) (i + 1) := by
  refine ⟨by simp [h.1], fun j hj => ?_⟩
  rw [List.getElem?_set]
  split
  · next e => subst e; rw [if_pos (by rw [h.1]; exact hi), hz]
  · exact h.2 j (by omega)
theorem MarkTo.all {k : Int} {n : Nat} {out : List Int} {i : Nat} (h : MarkTo k n out i) (hi : n ≤ i) : out = markL k n := by
  refine List.ext_getElem? fun j => ?_
  by_cases e : j < n
  · rw [h.2 j (by omega), markL_at k e]
  · rw [List.getElem?_eq_none (by rw [h.1]; omega), List.getElem?_eq_none (by rw [markL_length]; omega)]
def szD (n : Nat) (l : Int) : Int := if l - n < 0 then -1 else l - n
theorem szD_add {m n : Nat} {l : Int} (h : ¬ szD m l < 0) : szD n (szD m l) = szD (m + n) l := by
  unfold szD at h ⊢; grind
theorem szD_neg {m n : Nat} {l : Int} (h : szD m l < 0) : szD (m + n) l = -1 := by
  unfold szD at h ⊢; grind
theorem szD_ge {m : Nat} {l : Int} (h : ¬ szD m l < 0) : (m : Int) ≤ l := by
  unfold szD at h; grind
theorem szD_bd {m : Nat} {l : Int} (hl : l ≤ 1048576) : -1 ≤ szD m l ∧ szD m l ≤ 1048576 := by
  unfold szD; grind
def c_laws_toVariant : Con where
  ins := [(true, .v tVar)]
  outs := [(true, .v tVar)]
  sh := false
  pre := fun _ => True
  out := fun x => (x.1, ())
  upd := fun x => x
theorem k_laws_toVariant [B : Base] : ConOk Tryd.prog 5 c_laws_toVariant := by
  refine fn_ok (C := cx Tryd.prog 17 c_laws_toVariant) (cs := []) (res := Tryd.f5.results.toList) (fun _ => ⟨[], [], []⟩) Tryd.func5 (by kernel_rfl) rfl rfl rfl tysOk.look eqTsOk.look (AllCs.ok (l := []) trivial) mixed rfl rfl rfl ?_
  refine of_nf (P := ∀ aPoints : Int, ∀ aCheckers : Int, ∀ aHome : Int, ∀ aSides : Int, (True) → ((lensI c_laws_toVariant.ins ((aPoints, aCheckers, aHome, aSides), ())) → (@Eq (HO c_laws_toVariant.outs) ((aPoints, aCheckers, aHome, aSides), ()) (c_laws_toVariant.out ((aPoints, aCheckers, aHome, aSides), ()))))) (by kernel_rfl) ?_
  rintro aPoints aCheckers aHome aSides hpre hl
  rfl
def c_laws_eqExact : Con where
  ins := [(true, .v tRoll), (true, .v tRoll)]
  outs := [(false, .v .b)]
  sh := false
  pre := fun _ => True
  out := fun x => (decide (x.1 = x.2.1), ())
  upd := fun x => x
theorem k_laws_eqExact [B : Base] : ConOk Tryd.prog 7 c_laws_eqExact := by
  refine fn_ok (C := cx Tryd.prog 15 c_laws_eqExact) (cs := []) (res := Tryd.f7.results.toList) (fun _ => ⟨[], [], []⟩) Tryd.func7 (by kernel_rfl) rfl rfl rfl tysOk.look eqTsOk.look (AllCs.ok (l := []) trivial) mixed rfl rfl rfl ?_
  refine of_nf (P := ∀ aNum : Int, ∀ aDepth : Int, ∀ bNum : Int, ∀ bDepth : Int, (True) → ((lensI c_laws_eqExact.ins ((aNum, aDepth), (bNum, bDepth), ())) → (bsp (decide (aNum ≠ bNum)) (@Eq (HO c_laws_eqExact.outs) (false, ()) (c_laws_eqExact.out ((aNum, aDepth), (bNum, bDepth), ()))) (bsp (decide (aDepth ≠ bDepth)) (@Eq (HO c_laws_eqExact.outs) (false, ()) (c_laws_eqExact.out ((aNum, aDepth), (bNum, bDepth), ()))) (@Eq (HO c_laws_eqExact.outs) (true, ()) (c_laws_eqExact.out ((aNum, aDepth), (bNum, bDepth), ()))))))) (by kernel_rfl) ?_
  rintro aNum aDepth bNum bDepth hpre hl
  simp only [c_laws_eqExact, Prod.mk.injEq, bsp_iff]
  grind
end Go.Proofs.YtjglhhogoaeajaaDoor
