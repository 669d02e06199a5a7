/-
  Contracts: ranges, variants, sums, the last checker.
-/
import Derived.Test.YtokddngcfkimlaaDoorAbT
namespace Go.Proofs.YtokddngcfkimlaaDoor
open Go.RowKit
set_option linter.unusedSimpArgs false
set_option linter.unusedVariables false
theorem bspD {p : Prop} [d : Decidable p] {P Q : Prop} (h1 : p → P) (h2 : ¬ p → Q) : bsp (decide p) P Q := by
  rw [bsp_iff]; exact ⟨fun h => h1 (by simpa using h), fun h => h2 (by simpa using h)⟩
theorem bspB {b : Bool} {P Q : Prop} (h1 : b = true → P) (h2 : b = false → Q) : bsp b P Q := by
  rw [bsp_iff]; exact ⟨h1, h2⟩
def varD (v : DVar) : Bool := inB v.1 2 24 && inB v.2.1 1 15 && inB v.2.2.1 1 v.1 && inB v.2.2.2 1 6
theorem varD_iff {v : DVar} : varD v = true ↔ (2 ≤ v.1 ∧ v.1 ≤ 24) ∧ (1 ≤ v.2.1 ∧ v.2.1 ≤ 15) ∧ (1 ≤ v.2.2.1 ∧ v.2.2.1 ≤ v.1) ∧ 1 ≤ v.2.2.2 ∧ v.2.2.2 ≤ 6 := by
  simp [varD, inB, and_assoc]

/-- numbers of checkers -/
def Bd (zs : List Int) : Prop := zs.length ≤ 1099511627776 ∧ ∀ z, z ∈ zs → 0 ≤ z ∧ z ≤ 15
theorem Bd.at {zs : List Int} (h : Bd zs) (k : Nat) : 0 ≤ zs.getD k 0 ∧ zs.getD k 0 ≤ 15 := by
  by_cases hk : k < zs.length
  · rw [List.getD_eq_getElem?_getD, List.getElem?_eq_getElem hk]; exact h.2 _ (List.getElem_mem hk)
  · rw [List.getD_eq_getElem?_getD, List.getElem?_eq_none (by omega)]; simp
def sumTo (zs : List Int) (k : Nat) : Int := (zs.take k).sum
theorem sumTo_succ {zs : List Int} {k : Nat} (h : k < zs.length) : sumTo zs (k + 1) = sumTo zs k + zs.getD k 0 := by
  unfold sumTo
  rw [List.take_add_one, List.getD_eq_getElem?_getD, List.getElem?_eq_getElem h]
  simp only [Option.toList_some, List.sum_append_int, Option.getD_some]
  simp
theorem sumTo_all (zs : List Int) : sumTo zs zs.length = zs.sum := by simp [sumTo]
theorem sumTo_zero (zs : List Int) : sumTo zs 0 = 0 := by simp [sumTo]
theorem sumTo_bd {zs : List Int} (h : Bd zs) : ∀ k, k ≤ zs.length → 0 ≤ sumTo zs k ∧ sumTo zs k ≤ 15 * k
  | 0, _ => by simp [sumTo]
  | k + 1, hk => by
    have := sumTo_bd h k (by omega)
    have := h.at k
    rw [sumTo_succ (by omega)]
    omega
theorem Bd.sum {zs : List Int} (h : Bd zs) : 0 ≤ zs.sum ∧ zs.sum ≤ 15 * zs.length := by
  rw [← sumTo_all]; exact sumTo_bd h _ (Nat.le_refl _)
/-- the greatest index below k with a checker, -1 if there is none -/
def topTo (zs : List Int) : Nat → Int
  | 0 => -1
  | k + 1 => if 0 < zs.getD k 0 then k else topTo zs k
def topD (zs : List Int) : Int := topTo zs zs.length
theorem topTo_bd (zs : List Int) : ∀ k, -1 ≤ topTo zs k ∧ topTo zs k < k
  | 0 => by simp [topTo]
  | k + 1 => by have := topTo_bd zs k; simp only [topTo]; split <;> omega
theorem topD_bd (zs : List Int) : -1 ≤ topD zs ∧ topD zs < zs.length := topTo_bd zs _
def c_impl_within : Con where
  ins := [(false, .v tI), (false, .v tI), (false, .v tI)]
  outs := [(false, .v .b)]
  sh := false
  pre := fun _ => True
  out := fun x => (inB x.1 x.2.1 x.2.2.1, ())
  upd := fun x => x
theorem k_impl_within [B : Base] : ConOk Tryd.prog 24 c_impl_within := by
  refine fn_ok (C := cx Tryd.prog 15 c_impl_within) (cs := []) (res := Tryd.f24.results.toList) (fun _ => ⟨[], [], []⟩) Tryd.func24 (by kernel_rfl) rfl rfl rfl tysOk.look eqTsOk.look (AllCs.ok (l := []) trivial) mixed rfl rfl rfl ?_
  refine of_nf (P := ∀ n : Int, ∀ lo : Int, ∀ hi : Int, (True) → ((lensI c_impl_within.ins (n, lo, hi, ())) → (bsp (decide (lo ≤ n)) (@Eq (HO c_impl_within.outs) ((decide (n ≤ hi)), ()) (c_impl_within.out (n, lo, hi, ()))) (@Eq (HO c_impl_within.outs) (false, ()) (c_impl_within.out (n, lo, hi, ())))))) (by kernel_rfl) ?_
  grind [inB, bsp_iff, c_impl_within]
def c_spec_l01In : Con where
  ins := [(false, .v tI), (false, .v tI), (false, .v tI)]
  outs := [(false, .v .b)]
  sh := false
  pre := fun _ => True
  out := fun x => (inB x.1 x.2.1 x.2.2.1, ())
  upd := fun x => x
theorem k_spec_l01In [B : Base] : ConOk Tryd.prog 32 c_spec_l01In := by
  refine fn_ok (C := cx Tryd.prog 15 c_spec_l01In) (cs := []) (res := Tryd.f32.results.toList) (fun _ => ⟨[], [], []⟩) Tryd.func32 (by kernel_rfl) rfl rfl rfl tysOk.look eqTsOk.look (AllCs.ok (l := []) trivial) mixed rfl rfl rfl ?_
  refine of_nf (P := ∀ n : Int, ∀ lo : Int, ∀ hi : Int, (True) → ((lensI c_spec_l01In.ins (n, lo, hi, ())) → (bsp (decide (lo ≤ n)) (@Eq (HO c_spec_l01In.outs) ((decide (n ≤ hi)), ()) (c_spec_l01In.out (n, lo, hi, ()))) (@Eq (HO c_spec_l01In.outs) (false, ()) (c_spec_l01In.out (n, lo, hi, ())))))) (by kernel_rfl) ?_
  grind [inB, bsp_iff, c_spec_l01In]
def c_impl_IsVariant : Con where
  ins := [(true, .v tVar)]
  outs := [(false, .v .b)]
  sh := false
  pre := fun _ => True
  out := fun x => (varD x.1, ())
  upd := fun x => x
theorem k_impl_IsVariant [B : Base] : ConOk Tryd.prog 19 c_impl_IsVariant := by
  refine fn_ok (C := cx Tryd.prog 23 c_impl_IsVariant) (cs := [(24, c_impl_within)]) (res := Tryd.f19.results.toList) (fun _ => ⟨[], [], []⟩) Tryd.func19 (by kernel_rfl) rfl rfl rfl tysOk.look eqTsOk.look (AllCs.ok (l := [(24, c_impl_within)]) ⟨k_impl_within, trivial⟩) mixed rfl rfl rfl ?_
  refine of_nf (P := ∀ vPoints : Int, ∀ vCheckers : Int, ∀ vHome : Int, ∀ vSides : Int, (True) → ((lensI c_impl_IsVariant.ins ((vPoints, vCheckers, vHome, vSides), ())) → (True ∧ (bsp (inB vPoints (2 : Int) (24 : Int)) (True ∧ (bsp (inB vCheckers (1 : Int) (15 : Int)) (True ∧ (bsp (inB vHome (1 : Int) vPoints) (True ∧ (@Eq (HO c_impl_IsVariant.outs) (inB vSides (1 : Int) (6 : Int), ()) (c_impl_IsVariant.out ((vPoints, vCheckers, vHome, vSides), ())))) (@Eq (HO c_impl_IsVariant.outs) (false, ()) (c_impl_IsVariant.out ((vPoints, vCheckers, vHome, vSides), ()))))) (@Eq (HO c_impl_IsVariant.outs) (false, ()) (c_impl_IsVariant.out ((vPoints, vCheckers, vHome, vSides), ()))))) (@Eq (HO c_impl_IsVariant.outs) (false, ()) (c_impl_IsVariant.out ((vPoints, vCheckers, vHome, vSides), ()))))))) (by kernel_rfl) ?_
  grind [varD, bsp_iff, c_impl_IsVariant]
def c_spec_IsVariant : Con where
  ins := [(true, .v tVar)]
  outs := [(false, .v .b)]
  sh := false
  pre := fun _ => True
  out := fun x => (varD x.1, ())
  upd := fun x => x
theorem k_spec_IsVariant [B : Base] : ConOk Tryd.prog 17 c_spec_IsVariant := by
  refine fn_ok (C := cx Tryd.prog 23 c_spec_IsVariant) (cs := [(32, c_spec_l01In)]) (res := Tryd.f17.results.toList) (fun _ => ⟨[], [], []⟩) Tryd.func17 (by kernel_rfl) rfl rfl rfl tysOk.look eqTsOk.look (AllCs.ok (l := [(32, c_spec_l01In)]) ⟨k_spec_l01In, trivial⟩) mixed rfl rfl rfl ?_
  refine of_nf (P := ∀ vPoints : Int, ∀ vCheckers : Int, ∀ vHome : Int, ∀ vSides : Int, (True) → ((lensI c_spec_IsVariant.ins ((vPoints, vCheckers, vHome, vSides), ())) → (True ∧ (bsp (inB vPoints (2 : Int) (24 : Int)) (True ∧ (bsp (inB vCheckers (1 : Int) (15 : Int)) (True ∧ (bsp (inB vHome (1 : Int) vPoints) (True ∧ (@Eq (HO c_spec_IsVariant.outs) (inB vSides (1 : Int) (6 : Int), ()) (c_spec_IsVariant.out ((vPoints, vCheckers, vHome, vSides), ())))) (@Eq (HO c_spec_IsVariant.outs) (false, ()) (c_spec_IsVariant.out ((vPoints, vCheckers, vHome, vSides), ()))))) (@Eq (HO c_spec_IsVariant.outs) (false, ()) (c_spec_IsVariant.out ((vPoints, vCheckers, vHome, vSides), ()))))) (@Eq (HO c_spec_IsVariant.outs) (false, ()) (c_spec_IsVariant.out ((vPoints, vCheckers, vHome, vSides), ()))))))) (by kernel_rfl) ?_
  grind [varD, bsp_iff, c_spec_IsVariant]
end Go.Proofs.YtokddngcfkimlaaDoor
