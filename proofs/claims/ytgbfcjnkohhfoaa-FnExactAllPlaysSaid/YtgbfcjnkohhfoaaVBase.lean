/-
  Contracts: ranges, variants, sums, the last checker.
-/
import Derived.Test.YtgbfcjnkohhfoaaAbT
namespace Go.Proofs.Ytgbfcjnkohhfoaa
open Go.RowKit
set_option linter.unusedSimpArgs false
set_option linter.unusedVariables false
theorem bspD {p : Prop} [d : Decidable p] {P Q : Prop} (h1 : p → P) (h2 : ¬ p → Q) : bsp (decide p) P Q := by
  rw [bsp_iff]; exact ⟨fun h => h1 (by simpa using h), fun h => h2 (by simpa using h)⟩
theorem bspB {b : Bool} {P Q : Prop} (h1 : b = true → P) (h2 : b = false → Q) : bsp b P Q := by
  rw [bsp_iff]; exact ⟨h1, h2⟩
def varD (v : DVar) : Bool := inB v.1 2 24 && inB v.2.1 1 15 && inB v.2.2.1 1 v.1 && inB v.2.2.2 1 6
theorem varD_iff {v : DVar} : varD v = true ↔ (2 ≤ v.1 ∧ v.1 ≤ 24) ∧ (1 ≤ v.2.1 ∧ v.2.1 ≤ 15) ∧ (1 ≤ v.2.2.1 ∧ v.2.2.1 ≤ v.1) ∧ 1 ≤ v.2.2.2 ∧ v.2.2.2 ≤ 6 := by
  simp [varD, inB, and_assoc]

/-- numbers of checkers -/
def Bd (zs : List Int) : Prop := zs.length ≤ 1099511627776 ∧ ∀ z, z ∈ zs → 0 ≤ z ∧ z ≤ 15
theorem Bd.at {zs : List Int} (h : Bd zs) (k : Nat) : 0 ≤ zs.getD k 0 ∧ zs.getD k 0 ≤ 15 := by
  by_cases hk : k < zs.length
  · rw [List.getD_eq_getElem?_getD, List.getElem?_eq_getElem hk]; exact h.2 _ (List.getElem_mem hk)
  · rw [List.getD_eq_getElem?_getD, List.getElem?_eq_none (by omega)]; simp
def sumTo (zs : List Int) (k : Nat) : Int := (zs.take k).sum
theorem sumTo_succ {zs : List Int} {k : Nat} (h : k < zs.length) : sumTo zs (k + 1) = sumTo zs k + zs.getD k 0 := by
  unfold sumTo
  rw [List.take_add_one, List.getD_eq_getElem?_getD, List.getElem?_eq_getElem h]
  simp only [Option.toList_some, List.sum_append_int, Option.getD_some]
  simp
theorem sumTo_all (zs : List Int) : sumTo zs zs.length = zs.sum := by simp [sumTo]
theorem sumTo_zero (zs : List Int) : sumTo zs 0 = 0 := by simp [sumTo]
theorem sumTo_bd {zs : List Int} (h : Bd zs) : ∀ k, k ≤ zs.length → 0 ≤ sumTo zs k ∧ sumTo zs k ≤ 15 * k
  | 0, _ => by simp [sumTo]
  | k + 1, hk => by
    have := sumTo_bd h k (by omega)
    have := h.at k
    rw [sumTo_succ (by omega)]
    omega
theorem Bd.sum {zs : List Int} (h : Bd zs) : 0 ≤ zs.sum ∧ zs.sum ≤ 15 * zs.length := by
  rw [← sumTo_all]; exact sumTo_bd h _ (Nat.le_refl _)
/-- the greatest index below k with a checker, -1 if there is none -/
def topTo (zs : List Int) : Nat → Int
  | 0 => -1
  | k + 1 => if 0 < zs.getD k 0 then k else topTo zs k
def topD (zs : List Int) : Int := topTo zs zs.length
theorem topTo_bd (zs : List Int) : ∀ k, -1 ≤ topTo zs k ∧ topTo zs k < k
  | 0 => by simp [topTo]
  | k + 1 => by have := topTo_bd zs k; simp only [topTo]; split <;> omega
theorem topD_bd (zs : List Int) : -1 ≤ topD zs ∧ topD zs < zs.length := topTo_bd zs _
def c_impl_within : Con where
  ins := [(false, .v tI), (false, .v tI), (false, .v tI)]
  outs := [(false, .v .b)]
  sh := false
  pre := fun _ => True
  out := fun x => (inB x.1 x.2.1 x.2.2.1, ())
  upd := fun x => x
  eat := false
theorem k_impl_within [B : Base] : ConOk Try.prog 41 c_impl_within := by
  refine fn_ok (C := cx Try.prog 15 c_impl_within) (cs := []) (res := Try.f41.results.toList) (fun _ => ⟨[], [], []⟩) Try.func41 (by kernel_rfl) rfl rfl rfl tysOk.look eqTsOk.look (AllCs.ok (l := []) trivial) mixed rfl rfl rfl rfl ?_
  refine @of_nf (∀ n : Int, ∀ lo : Int, ∀ hi : Int, (True) → ((lensI c_impl_within.ins (n, lo, hi, ())) → (bsp (decide (lo ≤ n)) (@Eq (HO c_impl_within.outs) ((decide (n ≤ hi)), ()) (c_impl_within.out (n, lo, hi, ()))) (@Eq (HO c_impl_within.outs) (false, ()) (c_impl_within.out (n, lo, hi, ())))))) _ (by kernel_rfl) ?_
  grind [inB, bsp_iff, c_impl_within]
def c_spec_l01In : Con where
  ins := [(false, .v tI), (false, .v tI), (false, .v tI)]
  outs := [(false, .v .b)]
  sh := false
  pre := fun _ => True
  out := fun x => (inB x.1 x.2.1 x.2.2.1, ())
  upd := fun x => x
  eat := false
theorem k_spec_l01In [B : Base] : ConOk Try.prog 35 c_spec_l01In := by
  refine fn_ok (C := cx Try.prog 15 c_spec_l01In) (cs := []) (res := Try.f35.results.toList) (fun _ => ⟨[], [], []⟩) Try.func35 (by kernel_rfl) rfl rfl rfl tysOk.look eqTsOk.look (AllCs.ok (l := []) trivial) mixed rfl rfl rfl rfl ?_
  refine @of_nf (∀ n : Int, ∀ lo : Int, ∀ hi : Int, (True) → ((lensI c_spec_l01In.ins (n, lo, hi, ())) → (bsp (decide (lo ≤ n)) (@Eq (HO c_spec_l01In.outs) ((decide (n ≤ hi)), ()) (c_spec_l01In.out (n, lo, hi, ()))) (@Eq (HO c_spec_l01In.outs) (false, ()) (c_spec_l01In.out (n, lo, hi, ())))))) _ (by kernel_rfl) ?_
  grind [inB, bsp_iff, c_spec_l01In]
def c_impl_IsVariant : Con where
  ins := [(true, .v tVar)]
  outs := [(false, .v .b)]
  sh := false
  pre := fun _ => True
  out := fun x => (varD x.1, ())
  upd := fun x => x
  eat := false
theorem k_impl_IsVariant [B : Base] : ConOk Try.prog 69 c_impl_IsVariant := by
  refine fn_ok (C := cx Try.prog 23 c_impl_IsVariant) (cs := [(41, c_impl_within)]) (res := Try.f69.results.toList) (fun _ => ⟨[], [], []⟩) Try.func69 (by kernel_rfl) rfl rfl rfl tysOk.look eqTsOk.look (AllCs.ok (l := [(41, c_impl_within)]) ⟨k_impl_within, trivial⟩) mixed rfl rfl rfl rfl ?_
  refine of_nf (P := ∀ vPoints : Int, ∀ vCheckers : Int, ∀ vHome : Int, ∀ vSides : Int, (True) → ((lensI c_impl_IsVariant.ins ((vPoints, vCheckers, vHome, vSides), ())) → (True ∧ (bsp (inB vPoints (2 : Int) (24 : Int)) (True ∧ (bsp (inB vCheckers (1 : Int) (15 : Int)) (True ∧ (bsp (inB vHome (1 : Int) vPoints) (True ∧ (@Eq (HO c_impl_IsVariant.outs) (inB vSides (1 : Int) (6 : Int), ()) (c_impl_IsVariant.out ((vPoints, vCheckers, vHome, vSides), ())))) (@Eq (HO c_impl_IsVariant.outs) (false, ()) (c_impl_IsVariant.out ((vPoints, vCheckers, vHome, vSides), ()))))) (@Eq (HO c_impl_IsVariant.outs) (false, ()) (c_impl_IsVariant.out ((vPoints, vCheckers, vHome, vSides), ()))))) (@Eq (HO c_impl_IsVariant.outs) (false, ()) (c_impl_IsVariant.out ((vPoints, vCheckers, vHome, vSides), ()))))))) (by kernel_rfl) ?_
  grind [varD, bsp_iff, c_impl_IsVariant]
def c_spec_IsVariant : Con where
  ins := [(true, .v tVar)]
  outs := [(false, .v .b)]
  sh := false
  pre := fun _ => True
  out := fun x => (varD x.1, ())
  upd := fun x => x
  eat := false
theorem k_spec_IsVariant [B : Base] : ConOk Try.prog 60 c_spec_IsVariant := by
  refine fn_ok (C := cx Try.prog 23 c_spec_IsVariant) (cs := [(35, c_spec_l01In)]) (res := Try.f60.results.toList) (fun _ => ⟨[], [], []⟩) Try.func60 (by kernel_rfl) rfl rfl rfl tysOk.look eqTsOk.look (AllCs.ok (l := [(35, c_spec_l01In)]) ⟨k_spec_l01In, trivial⟩) mixed rfl rfl rfl rfl ?_
  refine of_nf (P := ∀ vPoints : Int, ∀ vCheckers : Int, ∀ vHome : Int, ∀ vSides : Int, (True) → ((lensI c_spec_IsVariant.ins ((vPoints, vCheckers, vHome, vSides), ())) → (True ∧ (bsp (inB vPoints (2 : Int) (24 : Int)) (True ∧ (bsp (inB vCheckers (1 : Int) (15 : Int)) (True ∧ (bsp (inB vHome (1 : Int) vPoints) (True ∧ (@Eq (HO c_spec_IsVariant.outs) (inB vSides (1 : Int) (6 : Int), ()) (c_spec_IsVariant.out ((vPoints, vCheckers, vHome, vSides), ())))) (@Eq (HO c_spec_IsVariant.outs) (false, ()) (c_spec_IsVariant.out ((vPoints, vCheckers, vHome, vSides), ()))))) (@Eq (HO c_spec_IsVariant.outs) (false, ()) (c_spec_IsVariant.out ((vPoints, vCheckers, vHome, vSides), ()))))) (@Eq (HO c_spec_IsVariant.outs) (false, ()) (c_spec_IsVariant.out ((vPoints, vCheckers, vHome, vSides), ()))))))) (by kernel_rfl) ?_
  grind [varD, bsp_iff, c_spec_IsVariant]
def c_impl_total : Con where
  ins := [(false, .v tSI)]
  outs := [(false, .v tI)]
  sh := false
  pre := fun x => Bd x.1
  out := fun x => (List.sum x.1, ())
  upd := fun x => x
  eat := false
theorem k_impl_total [B : Base] : ConOk Try.prog 82 c_impl_total := by
  refine fn_ok (C := cx Try.prog 17 c_impl_total) (cs := []) (res := Try.f82.results.toList) (fun x => ⟨[{ sh := ⟨[(3, .one (.i .i64)), (6, .one (.ref 0)), (7, .one (.i .i64)), (8, .one (.i .i64))], [(0, .imm tI false)]⟩, nx := 1, I := fun _ dat_ => ((x.1.length : Int) = dat_.1.2.2.1 ∧ x.1 = dat_.2.1) ∧ (dat_.1.1 = sumTo x.1 (Int.toNat dat_.1.2.2.2.1) ∧ 0 ≤ dat_.1.2.2.2.1 ∧ dat_.1.2.2.2.1 ≤ (List.length x.1 : Int)), mu := fun dat_ => Int.toNat ((List.length x.1 : Int) - dat_.1.2.2.2.1) }], [], []⟩) Try.func82 (by kernel_rfl) rfl rfl rfl tysOk.look eqTsOk.look (AllCs.ok (l := []) trivial) mixed rfl rfl rfl rfl ?_
  refine @of_nf (∀ zs : List Int, (Bd zs) → ((lensI c_impl_total.ins (zs, ())) → ((((zs.length : Int) = (zs.length : Int) ∧ zs = zs) ∧ ((0 : Int) = sumTo zs (Int.toNat (0 : Int)) ∧ 0 ≤ (0 : Int) ∧ (0 : Int) ≤ (List.length zs : Int))) ∧ (∀ s : Int, ∀ t7 : Int, ∀ i : Int, ∀ l : List Int, (((zs.length : Int) = t7 ∧ zs = l) ∧ (s = sumTo zs (Int.toNat i) ∧ 0 ≤ i ∧ i ≤ (List.length zs : Int))) → (bsp (decide (i < t7)) ((0 ≤ i ∧ i < (l.length : Int)) ∧ ((i.toNat < l.length) ∧ ((inK .i64 (s + (l.getD i.toNat 0))) ∧ ((inK .i64 (i + 1)) ∧ ((((zs.length : Int) = t7 ∧ zs = l) ∧ ((s + (l.getD i.toNat 0)) = sumTo zs (Int.toNat (i + 1)) ∧ 0 ≤ (i + 1) ∧ (i + 1) ≤ (List.length zs : Int))) ∧ ((Int.toNat ((List.length zs : Int) - (i + 1)) : Nat) < Int.toNat ((List.length zs : Int) - i))))))) (@Eq (HO c_impl_total.outs) (s, ()) (c_impl_total.out (zs, ())))))))) _ (by kernel_rfl) ?_
  rintro zs hpre hl
  refine ⟨by simp [sumTo], ?_⟩
  rintro s t7 i l ⟨⟨rfl, rfl⟩, ⟨hs, h0, h1⟩⟩
  have hlen : zs.length ≤ 1099511627776 := hpre.1
  refine bspD (fun hlt => ?_) (fun hge => ?_)
  · obtain ⟨k, rfl⟩ : ∃ k : Nat, i = k := ⟨i.toNat, by omega⟩
    have hb := sumTo_bd hpre k (by omega)
    have ha := hpre.at k
    have hs1 := sumTo_succ (zs := zs) (k := k) (by omega)
    simp only [Int.toNat_natCast] at hs ⊢
    subst hs
    refine ⟨⟨by omega, by omega⟩, by omega, by simp only [inK]; omega, by simp only [inK]; omega, ⟨by simp, ?_, by omega, by omega⟩, by omega⟩
    rw [show ((k : Int) + 1).toNat = k + 1 by omega, hs1]
  · have : i.toNat = zs.length := by omega
    rw [this, sumTo_all] at hs
    subst hs; rfl
def c_spec_l02Sum : Con where
  ins := [(false, .v tSI)]
  outs := [(false, .v tI)]
  sh := false
  pre := fun x => Bd x.1
  out := fun x => (List.sum x.1, ())
  upd := fun x => x
  eat := false
theorem k_spec_l02Sum [B : Base] : ConOk Try.prog 78 c_spec_l02Sum := by
  refine fn_ok (C := cx Try.prog 18 c_spec_l02Sum) (cs := []) (res := Try.f78.results.toList) (fun x => ⟨[{ sh := ⟨[(0, .one (.ref 0)), (3, .one (.i .i64)), (4, .one (.i .i64))], [(0, .imm tI false)]⟩, nx := 1, I := fun _ dat_ => (x.1 = dat_.2.1) ∧ (dat_.1.2.1 = sumTo x.1 (Int.toNat dat_.1.2.2.1) ∧ 0 ≤ dat_.1.2.2.1 ∧ dat_.1.2.2.1 ≤ (List.length x.1 : Int)), mu := fun dat_ => Int.toNat ((List.length x.1 : Int) - dat_.1.2.2.1) }], [], []⟩) Try.func78 (by kernel_rfl) rfl rfl rfl tysOk.look eqTsOk.look (AllCs.ok (l := []) trivial) mixed rfl rfl rfl rfl ?_
  refine @of_nf (∀ zs : List Int, (Bd zs) → ((lensI c_spec_l02Sum.ins (zs, ())) → (((zs = zs) ∧ ((0 : Int) = sumTo zs (Int.toNat (0 : Int)) ∧ 0 ≤ (0 : Int) ∧ (0 : Int) ≤ (List.length zs : Int))) ∧ (∀ s : Int, ∀ i : Int, ∀ l : List Int, ((zs = l) ∧ (s = sumTo zs (Int.toNat i) ∧ 0 ≤ i ∧ i ≤ (List.length zs : Int))) → (bsp (decide (i < (l.length : Int))) ((0 ≤ i ∧ i < (l.length : Int)) ∧ ((i.toNat < l.length) ∧ ((inK .i64 (s + (l.getD i.toNat 0))) ∧ ((inK .i64 (i + 1)) ∧ (((zs = l) ∧ ((s + (l.getD i.toNat 0)) = sumTo zs (Int.toNat (i + 1)) ∧ 0 ≤ (i + 1) ∧ (i + 1) ≤ (List.length zs : Int))) ∧ ((Int.toNat ((List.length zs : Int) - (i + 1)) : Nat) < Int.toNat ((List.length zs : Int) - i))))))) (@Eq (HO c_spec_l02Sum.outs) (s, ()) (c_spec_l02Sum.out (zs, ())))))))) _ (by kernel_rfl) ?_
  rintro zs hpre hl
  refine ⟨by simp [sumTo], ?_⟩
  rintro s i l ⟨rfl, ⟨hs, h0, h1⟩⟩
  have hlen : zs.length ≤ 1099511627776 := hpre.1
  refine bspD (fun hlt => ?_) (fun hge => ?_)
  · obtain ⟨k, rfl⟩ : ∃ k : Nat, i = k := ⟨i.toNat, by omega⟩
    have hb := sumTo_bd hpre k (by omega)
    have ha := hpre.at k
    have hs1 := sumTo_succ (zs := zs) (k := k) (by omega)
    simp only [Int.toNat_natCast] at hs ⊢
    subst hs
    refine ⟨⟨by omega, by omega⟩, by omega, by simp only [inK]; omega, by simp only [inK]; omega, ⟨by simp, ?_, by omega, by omega⟩, by omega⟩
    rw [show ((k : Int) + 1).toNat = k + 1 by omega, hs1]
  · have : i.toNat = zs.length := by omega
    rw [this, sumTo_all] at hs
    subst hs; rfl
def c_impl_highest : Con where
  ins := [(false, .v tSI)]
  outs := [(false, .v tI)]
  sh := false
  pre := fun _ => True
  out := fun x => (topD x.1, ())
  upd := fun x => x
  eat := false
theorem k_impl_highest [B : Base] : ConOk Try.prog 92 c_impl_highest := by
  refine fn_ok (C := cx Try.prog 17 c_impl_highest) (cs := []) (res := Try.f92.results.toList) (fun x => ⟨[{ sh := ⟨[(0, .one (.ref 0)), (3, .one (.i .i64))], [(0, .imm tI false)]⟩, nx := 1, I := fun _ dat_ => (x.1 = dat_.2.1) ∧ (topD x.1 = topTo x.1 (Int.toNat (dat_.1.2.1 + 1)) ∧ -1 ≤ dat_.1.2.1 ∧ dat_.1.2.1 < (List.length x.1 : Int)), mu := fun dat_ => Int.toNat (dat_.1.2.1 + 1) }], [], []⟩) Try.func92 (by kernel_rfl) rfl rfl rfl tysOk.look eqTsOk.look (AllCs.ok (l := []) trivial) mixed rfl rfl rfl rfl ?_
  refine @of_nf (∀ zs : List Int, (True) → ((lensI c_impl_highest.ins (zs, ())) → ((inK .i64 ((zs.length : Int) - 1)) ∧ (((zs = zs) ∧ (topD zs = topTo zs (Int.toNat (((zs.length : Int) - 1) + 1)) ∧ -1 ≤ ((zs.length : Int) - 1) ∧ ((zs.length : Int) - 1) < (List.length zs : Int))) ∧ (∀ i : Int, ∀ l : List Int, ((zs = l) ∧ (topD zs = topTo zs (Int.toNat (i + 1)) ∧ -1 ≤ i ∧ i < (List.length zs : Int))) → (bsp (decide ((0 : Int) ≤ i)) ((0 ≤ i ∧ i < (l.length : Int)) ∧ ((i.toNat < l.length) ∧ (bsp (decide ((0 : Int) < (l.getD i.toNat 0))) (@Eq (HO c_impl_highest.outs) (i, ()) (c_impl_highest.out (zs, ()))) ((inK .i64 (i - 1)) ∧ (((zs = l) ∧ (topD zs = topTo zs (Int.toNat ((i - 1) + 1)) ∧ -1 ≤ (i - 1) ∧ (i - 1) < (List.length zs : Int))) ∧ ((Int.toNat ((i - 1) + 1) : Nat) < Int.toNat (i + 1))))))) (@Eq (HO c_impl_highest.outs) ((-1), ()) (c_impl_highest.out (zs, ()))))))))) _ (by kernel_rfl) ?_
  rintro zs hpre hl
  have hlen : zs.length ≤ 9223372036854775807 := hl.1.1
  refine ⟨by simp only [inK]; omega, ⟨rfl, by simp [topD], by omega, by omega⟩, ?_⟩
  rintro i l ⟨rfl, ⟨hs, h0, h1⟩⟩
  refine bspD (fun hlt => ?_) (fun hge => ?_)
  · obtain ⟨k, rfl⟩ : ∃ k : Nat, i = k := ⟨i.toNat, by omega⟩
    rw [show ((k : Int) + 1).toNat = k + 1 by omega, topTo] at hs
    simp only [Int.toNat_natCast]
    refine ⟨⟨by omega, by omega⟩, by omega, bspD (fun hp => ?_) (fun hp => ?_)⟩
    · rw [if_pos hp] at hs
      simp only [c_impl_highest, hs]
    · rw [if_neg hp] at hs
      refine ⟨by simp only [inK]; omega, ⟨trivial, ?_, by omega, by omega⟩, by omega⟩
      rw [hs]; congr 1; omega
  · have : i = -1 := by omega
    subst this
    rw [show topTo zs (-1 + 1 : Int).toNat = -1 from rfl] at hs
    simp only [c_impl_highest, hs]
def c_spec_l02Last : Con where
  ins := [(false, .v tSI)]
  outs := [(false, .v tI)]
  sh := false
  pre := fun _ => True
  out := fun x => (topD x.1, ())
  upd := fun x => x
  eat := false
theorem k_spec_l02Last [B : Base] : ConOk Try.prog 88 c_spec_l02Last := by
  refine fn_ok (C := cx Try.prog 18 c_spec_l02Last) (cs := []) (res := Try.f88.results.toList) (fun x => ⟨[{ sh := ⟨[(0, .one (.ref 0)), (3, .one (.i .i64)), (4, .one (.i .i64))], [(0, .imm tI false)]⟩, nx := 1, I := fun _ dat_ => (x.1 = dat_.2.1) ∧ (dat_.1.2.1 = topTo x.1 (Int.toNat dat_.1.2.2.1) ∧ 0 ≤ dat_.1.2.2.1 ∧ dat_.1.2.2.1 ≤ (List.length x.1 : Int)), mu := fun dat_ => Int.toNat ((List.length x.1 : Int) - dat_.1.2.2.1) }], [], []⟩) Try.func88 (by kernel_rfl) rfl rfl rfl tysOk.look eqTsOk.look (AllCs.ok (l := []) trivial) mixed rfl rfl rfl rfl ?_
  refine @of_nf (∀ zs : List Int, (True) → ((lensI c_spec_l02Last.ins (zs, ())) → (((zs = zs) ∧ ((-1 : Int) = topTo zs (Int.toNat (0 : Int)) ∧ 0 ≤ (0 : Int) ∧ (0 : Int) ≤ (List.length zs : Int))) ∧ (∀ m : Int, ∀ i : Int, ∀ l : List Int, ((zs = l) ∧ (m = topTo zs (Int.toNat i) ∧ 0 ≤ i ∧ i ≤ (List.length zs : Int))) → (bsp (decide (i < (l.length : Int))) ((0 ≤ i ∧ i < (l.length : Int)) ∧ ((i.toNat < l.length) ∧ (bsp (decide ((0 : Int) < (l.getD i.toNat 0))) ((inK .i64 (i + 1)) ∧ (((zs = l) ∧ (i = topTo zs (Int.toNat (i + 1)) ∧ 0 ≤ (i + 1) ∧ (i + 1) ≤ (List.length zs : Int))) ∧ ((Int.toNat ((List.length zs : Int) - (i + 1)) : Nat) < Int.toNat ((List.length zs : Int) - i)))) ((inK .i64 (i + 1)) ∧ (((zs = l) ∧ (m = topTo zs (Int.toNat (i + 1)) ∧ 0 ≤ (i + 1) ∧ (i + 1) ≤ (List.length zs : Int))) ∧ ((Int.toNat ((List.length zs : Int) - (i + 1)) : Nat) < Int.toNat ((List.length zs : Int) - i))))))) (@Eq (HO c_spec_l02Last.outs) (m, ()) (c_spec_l02Last.out (zs, ())))))))) _ (by kernel_rfl) ?_
  rintro zs hpre hl
  have hlen : zs.length ≤ 9223372036854775807 := hl.1.1
  refine ⟨⟨rfl, by simp [topTo], by omega, by omega⟩, ?_⟩
  rintro m i l ⟨rfl, ⟨hs, h0, h1⟩⟩
  refine bspD (fun hlt => ?_) (fun hge => ?_)
  · obtain ⟨k, rfl⟩ : ∃ k : Nat, i = k := ⟨i.toNat, by omega⟩
    simp only [Int.toNat_natCast] at hs ⊢
    subst hs
    refine ⟨⟨by omega, by omega⟩, by omega, bspD (fun hp => ?_) (fun hp => ?_)⟩ <;>
      refine ⟨by simp only [inK]; omega, ⟨trivial, ?_, by omega, by omega⟩, by omega⟩ <;>
      rw [show ((k : Int) + 1).toNat = k + 1 by omega, topTo]
    · rw [if_pos hp]
    · rw [if_neg hp]
  · have : i.toNat = zs.length := by omega
    rw [this] at hs
    subst hs; rfl
end Go.Proofs.Ytgbfcjnkohhfoaa
