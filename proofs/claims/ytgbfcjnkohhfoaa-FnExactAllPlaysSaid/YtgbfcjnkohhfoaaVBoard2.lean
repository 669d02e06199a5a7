/-
  Contracts: copies and comparisons of boards, results.
-/
import Derived.Test.YtgbfcjnkohhfoaaVBoard
namespace Go.Proofs.Ytgbfcjnkohhfoaa
open Go.RowKit
set_option linter.unusedSimpArgs false
set_option linter.unusedVariables false
theorem eq_of_upto {xs ys : List Int} (hl : xs.length = ys.length) (h : ∀ j, j < xs.length → xs.getD j 0 = ys.getD j 0) : xs = ys := by
  refine List.ext_getElem hl fun i h1 h2 => ?_
  have := h i h1
  rwa [List.getD_eq_getElem?_getD, List.getElem?_eq_getElem h1, List.getD_eq_getElem?_getD, List.getElem?_eq_getElem h2] at this
def sameD (a b : DBoard) : Bool := decide (a.1 = b.1) && decide (a.2 = b.2)
def c_slices_Clone_int64_int64_ : Con where
  ins := [(false, .v tSI)]
  outs := [(false, .own 2 tI)]
  sh := false
  pre := fun x => x.1 ≠ [] ∧ List.length x.1 ≤ 1099511627776
  out := fun x => (x.1, ())
  upd := fun x => x
  eat := false
theorem k_slices_Clone_int64_int64_ [B : Base] : ConOk Try.prog 85 c_slices_Clone_int64_int64_ := by
  refine fn_ok (C := cx Try.prog 8 c_slices_Clone_int64_int64_) (cs := []) (res := Try.f85.results.toList) (fun _ => ⟨[], [], []⟩) Try.func85 (by kernel_rfl) rfl rfl rfl tysOk.look eqTsOk.look (AllCs.ok (l := []) trivial) mixed rfl rfl rfl rfl ?_
  refine @of_nf (∀ zs : List Int, (zs ≠ [] ∧ List.length zs ≤ 1099511627776) → ((lensI c_slices_Clone_int64_int64_.ins (zs, ())) → (((zs.length) ≠ 0) ∧ ((([] : List Int).length + zs.length ≤ AB) ∧ (@Eq (HO c_slices_Clone_int64_int64_.outs) ((([] : List Int) ++ zs), ()) (c_slices_Clone_int64_int64_.out (zs, ()))))))) _ (by kernel_rfl) ?_
  rintro zs hpre hl
  have : zs.length ≠ 0 := by simpa using hpre.1
  exact ⟨this, by simp [AB]; omega, rfl⟩
def c_spec_l02Own : Con where
  ins := [(false, .v tSI)]
  outs := [(false, .own 2 tI)]
  sh := false
  pre := fun x => List.length x.1 ≤ 1099511627776
  out := fun x => (x.1, ())
  upd := fun x => x
  eat := false
theorem k_spec_l02Own [B : Base] : ConOk Try.prog 67 c_spec_l02Own := by
  refine fn_ok (C := cx Try.prog 6 c_spec_l02Own) (cs := []) (res := Try.f67.results.toList) (fun _ => ⟨[], [], []⟩) Try.func67 (by kernel_rfl) rfl rfl rfl tysOk.look eqTsOk.look (AllCs.ok (l := []) trivial) mixed rfl rfl rfl rfl ?_
  refine @of_nf (∀ zs : List Int, (List.length zs ≤ 1099511627776) → ((lensI c_spec_l02Own.ins (zs, ())) → ((([] : List Int).length + zs.length ≤ AB) ∧ (@Eq (HO c_spec_l02Own.outs) ((([] : List Int) ++ zs), ()) (c_spec_l02Own.out (zs, ())))))) _ (by kernel_rfl) ?_
  rintro zs hpre hl
  exact ⟨by simp [AB]; omega, rfl⟩
def c_slices_Equal_int64_int64_ : Con where
  ins := [(false, .v tSI), (false, .v tSI)]
  outs := [(false, .v .b)]
  sh := false
  pre := fun _ => True
  out := fun x => (decide (x.1 = x.2.1), ())
  upd := fun x => x
  eat := false
theorem k_slices_Equal_int64_int64_ [B : Base] : ConOk Try.prog 102 c_slices_Equal_int64_int64_ := by
  refine fn_ok (C := cx Try.prog 26 c_slices_Equal_int64_int64_) (cs := []) (res := Try.f102.results.toList) (fun x => ⟨[{ sh := ⟨[(0, .one (.ref 0)), (1, .one (.ref 1)), (12, .one (.i .i64)), (13, .one (.i .i64))], [(0, .imm tI false), (1, .imm tI false)]⟩, nx := 2, I := fun _ dat_ => ((x.1.length : Int) = dat_.1.2.2.1 ∧ x.1 = dat_.2.1 ∧ x.2.1 = dat_.2.2.1) ∧ ((∀ j, j < Int.toNat dat_.1.2.2.2.1 → List.getD x.1 j 0 = List.getD x.2.1 j 0) ∧ 0 ≤ dat_.1.2.2.2.1 ∧ dat_.1.2.2.2.1 ≤ (List.length x.1 : Int) ∧ List.length x.1 = List.length x.2.1), mu := fun dat_ => Int.toNat ((List.length x.1 : Int) - dat_.1.2.2.2.1) }], [(6, ⟨[[], [], [0, 1], [0, 1, 2], [], [], [4, 5], [4, 5, 6], [0, 1, 2, 3, 4, 5, 6, 7]], [[1, 4, 5, 6, 7], [0, 4, 5, 6, 7], [4, 5, 6, 7], [4, 5, 6, 7], [0, 1, 2, 3, 5], [0, 1, 2, 3, 4], [0, 1, 2, 3], [0, 1, 2, 3], []], []⟩)], []⟩) Try.func102 (by kernel_rfl) rfl rfl rfl tysOk.look eqTsOk.look (AllCs.ok (l := []) trivial) mixed rfl rfl rfl rfl ?_
  refine @of_nf (∀ xs : List Int, ∀ ys : List Int, (True) → ((lensI c_slices_Equal_int64_int64_.ins (xs, ys, ())) → (bsp (decide ((xs.length : Int) ≠ (ys.length : Int))) (@Eq (HO c_slices_Equal_int64_int64_.outs) (false, ()) (c_slices_Equal_int64_int64_.out (xs, ys, ()))) ((((xs.length : Int) = (xs.length : Int) ∧ xs = xs ∧ ys = ys) ∧ ((∀ j, j < Int.toNat (0 : Int) → List.getD xs j 0 = List.getD ys j 0) ∧ 0 ≤ (0 : Int) ∧ (0 : Int) ≤ (List.length xs : Int) ∧ List.length xs = List.length ys)) ∧ (∀ n : Int, ∀ i : Int, ∀ a : List Int, ∀ b : List Int, (((xs.length : Int) = n ∧ xs = a ∧ ys = b) ∧ ((∀ j, j < Int.toNat i → List.getD xs j 0 = List.getD ys j 0) ∧ 0 ≤ i ∧ i ≤ (List.length xs : Int) ∧ List.length xs = List.length ys)) → (bsp (decide (i < n)) ((0 ≤ i ∧ i < (a.length : Int)) ∧ ((i.toNat < a.length) ∧ ((0 ≤ i ∧ i < (b.length : Int)) ∧ ((i.toNat < b.length) ∧ (bsp (decide ((a.getD i.toNat 0) ≠ (b.getD i.toNat 0))) (@Eq (HO c_slices_Equal_int64_int64_.outs) (false, ()) (c_slices_Equal_int64_int64_.out (xs, ys, ()))) ((inK .i64 (i + 1)) ∧ ((((xs.length : Int) = n ∧ xs = a ∧ ys = b) ∧ ((∀ j, j < Int.toNat (i + 1) → List.getD xs j 0 = List.getD ys j 0) ∧ 0 ≤ (i + 1) ∧ (i + 1) ≤ (List.length xs : Int) ∧ List.length xs = List.length ys)) ∧ ((Int.toNat ((List.length xs : Int) - (i + 1)) : Nat) < Int.toNat ((List.length xs : Int) - i))))))))) (@Eq (HO c_slices_Equal_int64_int64_.outs) (true, ()) (c_slices_Equal_int64_int64_.out (xs, ys, ()))))))))) _ (by kernel_rfl) ?_
  rintro xs ys hpre hl
  have hlen : xs.length ≤ 9223372036854775807 := hl.1.1
  refine bspD (fun hne => ?_) (fun heq => ?_)
  · have : xs ≠ ys := by rintro rfl; exact hne rfl
    simp [c_slices_Equal_int64_int64_, this]
  · simp only [ne_eq, Decidable.not_not] at heq
    refine ⟨⟨(by first | trivial | rfl | (and_intros <;> rfl)), by simp, by omega, by omega, by omega⟩, ?_⟩
    rintro n i a b ⟨⟨rfl, rfl, rfl⟩, ⟨hs, h0, h1, h2⟩⟩
    refine bspD (fun hlt => ?_) (fun hge => ?_)
    · refine ⟨⟨by omega, by omega⟩, by omega, ⟨by omega, by omega⟩, by omega, bspD (fun hd => ?_) (fun hd => ?_)⟩
      · have : xs ≠ ys := by rintro rfl; exact hd rfl
        simp [c_slices_Equal_int64_int64_, this]
      · simp only [ne_eq, Decidable.not_not] at hd
        refine ⟨by simp only [inK]; omega, ⟨(by first | trivial | rfl | (and_intros <;> rfl)), fun j hj => ?_, by omega, by omega, h2⟩, by omega⟩
        by_cases e : j = i.toNat
        · subst e; exact hd
        · exact hs j (by omega)
    · have : xs = ys := eq_of_upto h2 fun j hj => hs j (by omega)
      simp [c_slices_Equal_int64_int64_, this]
def NeL (zs : List Int) : Prop := zs ≠ [] ∧ zs.length ≤ 1099511627776
def NeB (b : DBoard) : Prop := NeL b.1 ∧ NeL b.2
def c_impl_cloneBoard : Con where
  ins := [(true, .v tBoard)]
  outs := [(true, .pr (.own 2 tI) (.own 2 tI))]
  sh := false
  pre := fun x => NeB x.1
  out := fun x => (x.1, ())
  upd := fun x => x
  eat := false
theorem k_impl_cloneBoard [B : Base] : ConOk Try.prog 57 c_impl_cloneBoard := by
  refine fn_ok (C := cx Try.prog 10 c_impl_cloneBoard) (cs := [(85, c_slices_Clone_int64_int64_)]) (res := Try.f57.results.toList) (fun _ => ⟨[], [(1, ⟨[[], [0], [0, 1], [], [3], [0, 1, 2, 3, 4], [0, 1, 2, 3, 4, 5], [0, 1, 2, 3, 4, 5, 6]], [[3, 4], [3, 4], [3, 4], [0, 1, 2], [0, 1, 2], [], [], []], []⟩)], []⟩) Try.func57 (by kernel_rfl) rfl rfl rfl tysOk.look eqTsOk.look (AllCs.ok (l := [(85, c_slices_Clone_int64_int64_)]) ⟨k_slices_Clone_int64_int64_, trivial⟩) mixed rfl rfl rfl rfl ?_
  refine of_nf (P := ∀ bOwn : List Int, ∀ bOther : List Int, (NeB (bOwn, bOther)) → ((lensI c_impl_cloneBoard.ins ((bOwn, bOther), ())) → ((bOwn ≠ [] ∧ List.length bOwn ≤ 1099511627776) ∧ ((bOther ≠ [] ∧ List.length bOther ≤ 1099511627776) ∧ (@Eq (HO c_impl_cloneBoard.outs) ((bOwn, bOther), ()) (c_impl_cloneBoard.out ((bOwn, bOther), ()))))))) (by kernel_rfl) ?_
  rintro bOwn bOther ⟨h1, h2⟩ hl
  exact ⟨h1, h2, rfl⟩
def c_impl_swapped : Con where
  ins := [(true, .v tBoard)]
  outs := [(true, .pr (.own 2 tI) (.own 2 tI))]
  sh := false
  pre := fun x => NeB x.1
  out := fun x => ((x.1.2, x.1.1), ())
  upd := fun x => x
  eat := false
theorem k_impl_swapped [B : Base] : ConOk Try.prog 76 c_impl_swapped := by
  refine fn_ok (C := cx Try.prog 10 c_impl_swapped) (cs := [(85, c_slices_Clone_int64_int64_)]) (res := Try.f76.results.toList) (fun _ => ⟨[], [(1, ⟨[[], [0], [0, 1], [], [3], [0, 1, 2, 3, 4], [0, 1, 2, 3, 4, 5], [0, 1, 2, 3, 4, 5, 6]], [[3, 4], [3, 4], [3, 4], [0, 1, 2], [0, 1, 2], [], [], []], []⟩)], []⟩) Try.func76 (by kernel_rfl) rfl rfl rfl tysOk.look eqTsOk.look (AllCs.ok (l := [(85, c_slices_Clone_int64_int64_)]) ⟨k_slices_Clone_int64_int64_, trivial⟩) mixed rfl rfl rfl rfl ?_
  refine of_nf (P := ∀ bOwn : List Int, ∀ bOther : List Int, (NeB (bOwn, bOther)) → ((lensI c_impl_swapped.ins ((bOwn, bOther), ())) → ((bOther ≠ [] ∧ List.length bOther ≤ 1099511627776) ∧ ((bOwn ≠ [] ∧ List.length bOwn ≤ 1099511627776) ∧ (@Eq (HO c_impl_swapped.outs) ((bOther, bOwn), ()) (c_impl_swapped.out ((bOwn, bOther), ()))))))) (by kernel_rfl) ?_
  rintro bOwn bOther ⟨h1, h2⟩ hl
  exact ⟨h2, h1, rfl⟩
def c_spec_l02Swap : Con where
  ins := [(true, .v tBoard)]
  outs := [(true, .pr (.own 2 tI) (.own 2 tI))]
  sh := false
  pre := fun x => List.length x.1.1 ≤ 1099511627776 ∧ List.length x.1.2 ≤ 1099511627776
  out := fun x => ((x.1.2, x.1.1), ())
  upd := fun x => x
  eat := false
theorem k_spec_l02Swap [B : Base] : ConOk Try.prog 65 c_spec_l02Swap := by
  refine fn_ok (C := cx Try.prog 10 c_spec_l02Swap) (cs := [(67, c_spec_l02Own)]) (res := Try.f65.results.toList) (fun _ => ⟨[], [(1, ⟨[[], [0], [0, 1], [], [3], [0, 1, 2, 3, 4], [0, 1, 2, 3, 4, 5], [0, 1, 2, 3, 4, 5, 6]], [[3, 4], [3, 4], [3, 4], [0, 1, 2], [0, 1, 2], [], [], []], []⟩)], []⟩) Try.func65 (by kernel_rfl) rfl rfl rfl tysOk.look eqTsOk.look (AllCs.ok (l := [(67, c_spec_l02Own)]) ⟨k_spec_l02Own, trivial⟩) mixed rfl rfl rfl rfl ?_
  refine of_nf (P := ∀ bOwn : List Int, ∀ bOther : List Int, (List.length (bOwn, bOther).1 ≤ 1099511627776 ∧ List.length (bOwn, bOther).2 ≤ 1099511627776) → ((lensI c_spec_l02Swap.ins ((bOwn, bOther), ())) → ((List.length bOther ≤ 1099511627776) ∧ ((List.length bOwn ≤ 1099511627776) ∧ (@Eq (HO c_spec_l02Swap.outs) ((bOther, bOwn), ()) (c_spec_l02Swap.out ((bOwn, bOther), ()))))))) (by kernel_rfl) ?_
  rintro bOwn bOther ⟨h1, h2⟩ hl
  exact ⟨h2, h1, rfl⟩
def c_impl_sameBoard : Con where
  ins := [(true, .v tBoard), (true, .v tBoard)]
  outs := [(false, .v .b)]
  sh := false
  pre := fun _ => True
  out := fun x => (sameD x.1 x.2.1, ())
  upd := fun x => x
  eat := false
theorem k_impl_sameBoard [B : Base] : ConOk Try.prog 98 c_impl_sameBoard := by
  refine fn_ok (C := cx Try.prog 17 c_impl_sameBoard) (cs := [(102, c_slices_Equal_int64_int64_)]) (res := Try.f98.results.toList) (fun _ => ⟨[], [], []⟩) Try.func98 (by kernel_rfl) rfl rfl rfl tysOk.look eqTsOk.look (AllCs.ok (l := [(102, c_slices_Equal_int64_int64_)]) ⟨k_slices_Equal_int64_int64_, trivial⟩) mixed rfl rfl rfl rfl ?_
  refine of_nf (P := ∀ aOwn : List Int, ∀ aOther : List Int, ∀ bOwn : List Int, ∀ bOther : List Int, (True) → ((lensI c_impl_sameBoard.ins ((aOwn, aOther), (bOwn, bOther), ())) → (True ∧ (bsp (decide (aOwn = bOwn)) (True ∧ (@Eq (HO c_impl_sameBoard.outs) (decide (aOther = bOther), ()) (c_impl_sameBoard.out ((aOwn, aOther), (bOwn, bOther), ())))) (@Eq (HO c_impl_sameBoard.outs) (false, ()) (c_impl_sameBoard.out ((aOwn, aOther), (bOwn, bOther), ()))))))) (by kernel_rfl) ?_
  rintro aOwn aOther bOwn bOther hpre hl
  refine ⟨trivial, bspD (fun h => ⟨trivial, ?_⟩) (fun h => ?_)⟩ <;> simp [c_impl_sameBoard, sameD, h]
def c_spec_l05Same : Con where
  ins := [(true, .v tBoard), (true, .v tBoard)]
  outs := [(false, .v .b)]
  sh := false
  pre := fun _ => True
  out := fun x => (sameD x.1 x.2.1, ())
  upd := fun x => x
  eat := false
theorem k_spec_l05Same [B : Base] : ConOk Try.prog 80 c_spec_l05Same := by
  refine fn_ok (C := cx Try.prog 59 c_spec_l05Same) (cs := []) (res := Try.f80.results.toList) (fun x => ⟨[{ sh := ⟨[(2, .one (.ref 0)), (3, .one (.ref 1)), (5, .one (.i .i64))], [(0, .box [.ref 2, .ref 3]), (1, .box [.ref 4, .ref 5]), (2, .imm tI false), (3, .imm tI false), (4, .imm tI false), (5, .imm tI false)]⟩, nx := 6, I := fun _ dat_ => (x.1.1 = dat_.2.2.2.1 ∧ x.1.2 = dat_.2.2.2.2.1 ∧ x.2.1.1 = dat_.2.2.2.2.2.1 ∧ x.2.1.2 = dat_.2.2.2.2.2.2.1) ∧ ((∀ j, j < Int.toNat dat_.1.2.2.1 → List.getD (x.1.1, x.1.2).1 j 0 = List.getD (x.2.1.1, x.2.1.2).1 j 0) ∧ 0 ≤ dat_.1.2.2.1 ∧ dat_.1.2.2.1 ≤ (List.length (x.1.1, x.1.2).1 : Int) ∧ List.length (x.1.1, x.1.2).1 = List.length (x.2.1.1, x.2.1.2).1 ∧ List.length (x.1.1, x.1.2).2 = List.length (x.2.1.1, x.2.1.2).2), mu := fun dat_ => Int.toNat ((List.length (x.1.1, x.1.2).1 : Int) - dat_.1.2.2.1) }, { sh := ⟨[(2, .one (.ref 0)), (3, .one (.ref 1)), (6, .one (.i .i64))], [(0, .box [.ref 2, .ref 3]), (1, .box [.ref 4, .ref 5]), (2, .imm tI false), (3, .imm tI false), (4, .imm tI false), (5, .imm tI false)]⟩, nx := 6, I := fun _ dat_ => (x.1.1 = dat_.2.2.2.1 ∧ x.1.2 = dat_.2.2.2.2.1 ∧ x.2.1.1 = dat_.2.2.2.2.2.1 ∧ x.2.1.2 = dat_.2.2.2.2.2.2.1) ∧ ((∀ j, j < Int.toNat dat_.1.2.2.1 → List.getD (x.1.1, x.1.2).2 j 0 = List.getD (x.2.1.1, x.2.1.2).2 j 0) ∧ 0 ≤ dat_.1.2.2.1 ∧ dat_.1.2.2.1 ≤ (List.length (x.1.1, x.1.2).2 : Int) ∧ List.length (x.1.1, x.1.2).1 = List.length (x.2.1.1, x.2.1.2).1 ∧ List.length (x.1.1, x.1.2).2 = List.length (x.2.1.1, x.2.1.2).2 ∧ (x.1.1, x.1.2).1 = (x.2.1.1, x.2.1.2).1), mu := fun dat_ => Int.toNat ((List.length (x.1.1, x.1.2).2 : Int) - dat_.1.2.2.1) }], [(6, ⟨[[], [0], [], [0, 1, 2], [0, 1, 2, 3], [], [5], [], [5, 6, 7], [5, 6, 7, 8], [0, 1, 2, 3, 4, 5, 6, 7, 8, 9]], [[2, 5, 6, 7, 8, 9], [2, 5, 6, 7, 8, 9], [0, 1, 5, 6, 7, 8, 9], [5, 6, 7, 8, 9], [5, 6, 7, 8, 9], [0, 1, 2, 3, 4, 7], [0, 1, 2, 3, 4, 7], [0, 1, 2, 3, 4, 5, 6], [0, 1, 2, 3, 4], [0, 1, 2, 3, 4], []], []⟩), (11, ⟨[[], [0], [], [0, 1, 2], [0, 1, 2, 3], [], [5], [], [5, 6, 7], [5, 6, 7, 8], [0, 1, 2, 3, 4, 5, 6, 7, 8, 9]], [[2, 5, 6, 7, 8, 9], [2, 5, 6, 7, 8, 9], [0, 1, 5, 6, 7, 8, 9], [5, 6, 7, 8, 9], [5, 6, 7, 8, 9], [0, 1, 2, 3, 4, 7], [0, 1, 2, 3, 4, 7], [0, 1, 2, 3, 4, 5, 6], [0, 1, 2, 3, 4], [0, 1, 2, 3, 4], []], []⟩)], [(3, { sh := ⟨[(2, .one (.ref 0)), (3, .one (.ref 1))], [(0, .box [.ref 2, .ref 3]), (1, .box [.ref 4, .ref 5]), (2, .imm tI false), (3, .imm tI false), (4, .imm tI false), (5, .imm tI false)]⟩, nx := 6, I := fun _ dat_ => (x.1.1 = dat_.2.2.2.1 ∧ x.1.2 = dat_.2.2.2.2.1 ∧ x.2.1.1 = dat_.2.2.2.2.2.1 ∧ x.2.1.2 = dat_.2.2.2.2.2.2.1) ∧ (List.length (x.1.1, x.1.2).1 = List.length (x.2.1.1, x.2.1.2).1 ∧ List.length (x.1.1, x.1.2).2 = List.length (x.2.1.1, x.2.1.2).2), mu := fun dat_ => 0 })]⟩) Try.func80 (by kernel_rfl) rfl rfl rfl tysOk.look eqTsOk.look (AllCs.ok (l := []) trivial) mixed rfl rfl rfl rfl ?_
  refine @of_nf (∀ aOwn : List Int, ∀ aOther : List Int, ∀ bOwn : List Int, ∀ bOther : List Int, (True) → ((lensI c_spec_l05Same.ins ((aOwn, aOther), (bOwn, bOther), ())) → ((bsp (decide ((aOwn.length : Int) ≠ (bOwn.length : Int))) (@Eq (HO c_spec_l05Same.outs) (false, ()) (c_spec_l05Same.out ((aOwn, aOther), (bOwn, bOther), ()))) (bsp (decide ((aOther.length : Int) ≠ (bOther.length : Int))) (@Eq (HO c_spec_l05Same.outs) (false, ()) (c_spec_l05Same.out ((aOwn, aOther), (bOwn, bOther), ()))) ((aOwn = aOwn ∧ aOther = aOther ∧ bOwn = bOwn ∧ bOther = bOther) ∧ (List.length (aOwn, aOther).1 = List.length (bOwn, bOther).1 ∧ List.length (aOwn, aOther).2 = List.length (bOwn, bOther).2)))) ∧ (∀ t2_0 : List Int, ∀ t2_1 : List Int, ∀ t3_0 : List Int, ∀ t3_1 : List Int, ((aOwn = t2_0 ∧ aOther = t2_1 ∧ bOwn = t3_0 ∧ bOther = t3_1) ∧ (List.length (aOwn, aOther).1 = List.length (bOwn, bOther).1 ∧ List.length (aOwn, aOther).2 = List.length (bOwn, bOther).2)) → (((aOwn = t2_0 ∧ aOther = t2_1 ∧ bOwn = t3_0 ∧ bOther = t3_1) ∧ ((∀ j, j < Int.toNat (0 : Int) → List.getD (aOwn, aOther).1 j 0 = List.getD (bOwn, bOther).1 j 0) ∧ 0 ≤ (0 : Int) ∧ (0 : Int) ≤ (List.length (aOwn, aOther).1 : Int) ∧ List.length (aOwn, aOther).1 = List.length (bOwn, bOther).1 ∧ List.length (aOwn, aOther).2 = List.length (bOwn, bOther).2)) ∧ (∀ i : Int, ∀ t2_0x1 : List Int, ∀ t2_1x1 : List Int, ∀ t3_0x1 : List Int, ∀ t3_1x1 : List Int, ((aOwn = t2_0x1 ∧ aOther = t2_1x1 ∧ bOwn = t3_0x1 ∧ bOther = t3_1x1) ∧ ((∀ j, j < Int.toNat i → List.getD (aOwn, aOther).1 j 0 = List.getD (bOwn, bOther).1 j 0) ∧ 0 ≤ i ∧ i ≤ (List.length (aOwn, aOther).1 : Int) ∧ List.length (aOwn, aOther).1 = List.length (bOwn, bOther).1 ∧ List.length (aOwn, aOther).2 = List.length (bOwn, bOther).2)) → (bsp (decide (i < (t2_0x1.length : Int))) ((0 ≤ i ∧ i < (t2_0x1.length : Int)) ∧ ((i.toNat < t2_0x1.length) ∧ ((0 ≤ i ∧ i < (t3_0x1.length : Int)) ∧ ((i.toNat < t3_0x1.length) ∧ (bsp (decide ((t2_0x1.getD i.toNat 0) ≠ (t3_0x1.getD i.toNat 0))) (@Eq (HO c_spec_l05Same.outs) (false, ()) (c_spec_l05Same.out ((aOwn, aOther), (bOwn, bOther), ()))) ((inK .i64 (i + 1)) ∧ (((aOwn = t2_0x1 ∧ aOther = t2_1x1 ∧ bOwn = t3_0x1 ∧ bOther = t3_1x1) ∧ ((∀ j, j < Int.toNat (i + 1) → List.getD (aOwn, aOther).1 j 0 = List.getD (bOwn, bOther).1 j 0) ∧ 0 ≤ (i + 1) ∧ (i + 1) ≤ (List.length (aOwn, aOther).1 : Int) ∧ List.length (aOwn, aOther).1 = List.length (bOwn, bOther).1 ∧ List.length (aOwn, aOther).2 = List.length (bOwn, bOther).2)) ∧ ((Int.toNat ((List.length (aOwn, aOther).1 : Int) - (i + 1)) : Nat) < Int.toNat ((List.length (aOwn, aOther).1 : Int) - i))))))))) (((aOwn = t2_0x1 ∧ aOther = t2_1x1 ∧ bOwn = t3_0x1 ∧ bOther = t3_1x1) ∧ ((∀ j, j < Int.toNat (0 : Int) → List.getD (aOwn, aOther).2 j 0 = List.getD (bOwn, bOther).2 j 0) ∧ 0 ≤ (0 : Int) ∧ (0 : Int) ≤ (List.length (aOwn, aOther).2 : Int) ∧ List.length (aOwn, aOther).1 = List.length (bOwn, bOther).1 ∧ List.length (aOwn, aOther).2 = List.length (bOwn, bOther).2 ∧ (aOwn, aOther).1 = (bOwn, bOther).1)) ∧ (∀ q : Int, ∀ t2_0x2 : List Int, ∀ t2_1x2 : List Int, ∀ t3_0x2 : List Int, ∀ t3_1x2 : List Int, ((aOwn = t2_0x2 ∧ aOther = t2_1x2 ∧ bOwn = t3_0x2 ∧ bOther = t3_1x2) ∧ ((∀ j, j < Int.toNat q → List.getD (aOwn, aOther).2 j 0 = List.getD (bOwn, bOther).2 j 0) ∧ 0 ≤ q ∧ q ≤ (List.length (aOwn, aOther).2 : Int) ∧ List.length (aOwn, aOther).1 = List.length (bOwn, bOther).1 ∧ List.length (aOwn, aOther).2 = List.length (bOwn, bOther).2 ∧ (aOwn, aOther).1 = (bOwn, bOther).1)) → (bsp (decide (q < (t2_1x2.length : Int))) ((0 ≤ q ∧ q < (t2_1x2.length : Int)) ∧ ((q.toNat < t2_1x2.length) ∧ ((0 ≤ q ∧ q < (t3_1x2.length : Int)) ∧ ((q.toNat < t3_1x2.length) ∧ (bsp (decide ((t2_1x2.getD q.toNat 0) ≠ (t3_1x2.getD q.toNat 0))) (@Eq (HO c_spec_l05Same.outs) (false, ()) (c_spec_l05Same.out ((aOwn, aOther), (bOwn, bOther), ()))) ((inK .i64 (q + 1)) ∧ (((aOwn = t2_0x2 ∧ aOther = t2_1x2 ∧ bOwn = t3_0x2 ∧ bOther = t3_1x2) ∧ ((∀ j, j < Int.toNat (q + 1) → List.getD (aOwn, aOther).2 j 0 = List.getD (bOwn, bOther).2 j 0) ∧ 0 ≤ (q + 1) ∧ (q + 1) ≤ (List.length (aOwn, aOther).2 : Int) ∧ List.length (aOwn, aOther).1 = List.length (bOwn, bOther).1 ∧ List.length (aOwn, aOther).2 = List.length (bOwn, bOther).2 ∧ (aOwn, aOther).1 = (bOwn, bOther).1)) ∧ ((Int.toNat ((List.length (aOwn, aOther).2 : Int) - (q + 1)) : Nat) < Int.toNat ((List.length (aOwn, aOther).2 : Int) - q))))))))) (@Eq (HO c_spec_l05Same.outs) (true, ()) (c_spec_l05Same.out ((aOwn, aOther), (bOwn, bOther), ()))))))))))))) _ (by kernel_rfl) ?_
  rintro aOwn aOther bOwn bOther hpre hl
  have l1 : aOwn.length ≤ 9223372036854775807 := hl.1.1.1
  have l2 : aOther.length ≤ 9223372036854775807 := hl.1.2.1
  refine ⟨bspD (fun h1 => ?_) (fun h1 => bspD (fun h2 => ?_) (fun h2 => ⟨(by first | trivial | rfl | (and_intros <;> rfl)), by dsimp only; omega, by dsimp only; omega⟩)), ?_⟩
  · have : aOwn ≠ bOwn := by rintro rfl; exact h1 rfl
    simp [c_spec_l05Same, sameD, this]
  · have : aOther ≠ bOther := by rintro rfl; exact h2 rfl
    simp [c_spec_l05Same, sameD, this]
  rintro t2_0 t2_1 t3_0 t3_1 ⟨⟨rfl, rfl, rfl, rfl⟩, ⟨e1, e2⟩⟩
  dsimp only at e1 e2
  refine ⟨⟨(by first | trivial | rfl | (and_intros <;> rfl)), by simp, by omega, by omega, by dsimp only; omega, by dsimp only; omega⟩, ?_⟩
  rintro i t2_0x1 t2_1x1 t3_0x1 t3_1x1 ⟨⟨rfl, rfl, rfl, rfl⟩, ⟨hs, h0, h1, -, -⟩⟩
  dsimp only at hs h1
  refine bspD (fun hlt => ?_) (fun hge => ?_)
  · refine ⟨⟨by omega, by omega⟩, by omega, ⟨by omega, by omega⟩, by omega, bspD (fun hd => ?_) (fun hd => ?_)⟩
    · have : aOwn ≠ bOwn := by rintro rfl; exact hd rfl
      simp [c_spec_l05Same, sameD, this]
    · simp only [ne_eq, Decidable.not_not] at hd
      refine ⟨by simp only [inK]; omega, ⟨(by first | trivial | rfl | (and_intros <;> rfl)), fun j hj => ?_, by omega, by dsimp only; omega, by dsimp only; omega, by dsimp only; omega⟩, by dsimp only; omega⟩
      dsimp only
      by_cases e : j = i.toNat
      · subst e; exact hd
      · exact hs j (by omega)
  · have eq1 : aOwn = bOwn := eq_of_upto e1 fun j hj => hs j (by omega)
    refine ⟨⟨(by first | trivial | rfl | (and_intros <;> rfl)), by simp, by omega, by dsimp only; omega, by dsimp only; omega, by dsimp only; omega, eq1⟩, ?_⟩
    rintro q t2_0x2 t2_1x2 t3_0x2 t3_1x2 ⟨⟨rfl, rfl, rfl, rfl⟩, ⟨hs, h0, h1, -⟩⟩
    dsimp only at hs h1
    refine bspD (fun hlt => ?_) (fun hge => ?_)
    · refine ⟨⟨by omega, by omega⟩, by omega, ⟨by omega, by omega⟩, by omega, bspD (fun hd => ?_) (fun hd => ?_)⟩
      · have : aOther ≠ bOther := by rintro rfl; exact hd rfl
        simp [c_spec_l05Same, sameD, this]
      · simp only [ne_eq, Decidable.not_not] at hd
        refine ⟨by simp only [inK]; omega, ⟨(by first | trivial | rfl | (and_intros <;> rfl)), fun j hj => ?_, by omega, by dsimp only; omega, by dsimp only; omega, by dsimp only; omega, eq1⟩, by dsimp only; omega⟩
        dsimp only
        by_cases e : j = q.toNat
        · subst e; exact hd
        · exact hs j (by omega)
    · have eq2 : aOther = bOther := eq_of_upto e2 fun j hj => hs j (by omega)
      simp [c_spec_l05Same, sameD, eq1, eq2]
def c_impl_boardOver : Con where
  ins := [(true, .v tBoard)]
  outs := [(false, .v .b)]
  sh := false
  pre := fun x => Bd x.1.1 ∧ Bd x.1.2
  out := fun x => (overD x.1, ())
  upd := fun x => x
  eat := false
theorem k_impl_boardOver [B : Base] : ConOk Try.prog 74 c_impl_boardOver := by
  refine fn_ok (C := cx Try.prog 13 c_impl_boardOver) (cs := [(82, c_impl_total)]) (res := Try.f74.results.toList) (fun _ => ⟨[], [], []⟩) Try.func74 (by kernel_rfl) rfl rfl rfl tysOk.look eqTsOk.look (AllCs.ok (l := [(82, c_impl_total)]) ⟨k_impl_total, trivial⟩) mixed rfl rfl rfl rfl ?_
  refine of_nf (P := ∀ bOwn : List Int, ∀ bOther : List Int, (Bd (bOwn, bOther).1 ∧ Bd (bOwn, bOther).2) → ((lensI c_impl_boardOver.ins ((bOwn, bOther), ())) → ((Bd bOwn) ∧ (bsp (decide ((List.sum bOwn) = (0 : Int))) (@Eq (HO c_impl_boardOver.outs) (true, ()) (c_impl_boardOver.out ((bOwn, bOther), ()))) ((Bd bOther) ∧ (@Eq (HO c_impl_boardOver.outs) ((decide ((List.sum bOther) = (0 : Int))), ()) (c_impl_boardOver.out ((bOwn, bOther), ())))))))) (by kernel_rfl) ?_
  rintro bOwn bOther ⟨h1, h2⟩ hl
  refine ⟨h1, bspD (fun h => ?_) (fun h => ⟨h2, ?_⟩)⟩ <;> simp [c_impl_boardOver, overD, h]
def c_spec_l02Over : Con where
  ins := [(true, .v tBoard)]
  outs := [(false, .v .b)]
  sh := false
  pre := fun x => Bd x.1.1 ∧ Bd x.1.2
  out := fun x => (overD x.1, ())
  upd := fun x => x
  eat := false
theorem k_spec_l02Over [B : Base] : ConOk Try.prog 66 c_spec_l02Over := by
  refine fn_ok (C := cx Try.prog 13 c_spec_l02Over) (cs := [(78, c_spec_l02Sum)]) (res := Try.f66.results.toList) (fun _ => ⟨[], [], []⟩) Try.func66 (by kernel_rfl) rfl rfl rfl tysOk.look eqTsOk.look (AllCs.ok (l := [(78, c_spec_l02Sum)]) ⟨k_spec_l02Sum, trivial⟩) mixed rfl rfl rfl rfl ?_
  refine of_nf (P := ∀ bOwn : List Int, ∀ bOther : List Int, (Bd (bOwn, bOther).1 ∧ Bd (bOwn, bOther).2) → ((lensI c_spec_l02Over.ins ((bOwn, bOther), ())) → ((Bd bOwn) ∧ (bsp (decide ((List.sum bOwn) = (0 : Int))) (@Eq (HO c_spec_l02Over.outs) (true, ()) (c_spec_l02Over.out ((bOwn, bOther), ()))) ((Bd bOther) ∧ (@Eq (HO c_spec_l02Over.outs) ((decide ((List.sum bOther) = (0 : Int))), ()) (c_spec_l02Over.out ((bOwn, bOther), ())))))))) (by kernel_rfl) ?_
  rintro bOwn bOther ⟨h1, h2⟩ hl
  refine ⟨h1, bspD (fun h => ?_) (fun h => ⟨h2, ?_⟩)⟩ <;> simp [c_spec_l02Over, overD, h]
def loserD (b : DBoard) : List Int := if b.1.sum = 0 then b.2 else b.1
def resD (v : DVar) (b : DBoard) : Int := if (loserD b).sum < v.2.1 then 1 else if v.1 - v.2.2.1 ≤ topD (loserD b) then 3 else 2
def c_impl_resultOf : Con where
  ins := [(true, .v tVar), (true, .v tBoard)]
  outs := [(false, .v tI)]
  sh := false
  pre := fun x => varD x.1 = true ∧ Bd x.2.1.1 ∧ Bd x.2.1.2
  out := fun x => (resD x.1 x.2.1, ())
  upd := fun x => x
  eat := false
theorem k_impl_resultOf [B : Base] : ConOk Try.prog 75 c_impl_resultOf := by
  refine fn_ok (C := cx Try.prog 27 c_impl_resultOf) (cs := [(82, c_impl_total), (92, c_impl_highest)]) (res := Try.f75.results.toList) (fun _ => ⟨[], [(4, ⟨[[], [0], [], [2], [0, 1, 2, 3]], [[2, 3], [2, 3], [0, 1], [0, 1], []], []⟩), (6, ⟨[[], [0], [], [2], [], [4], [2, 3, 4, 5], [0, 1, 2, 3, 4, 5, 6]], [[2, 3, 4, 5, 6], [2, 3, 4, 5, 6], [0, 1, 4, 5], [0, 1, 4, 5], [0, 1, 2, 3], [0, 1, 2, 3], [0, 1], []], []⟩)], []⟩) Try.func75 (by kernel_rfl) rfl rfl rfl tysOk.look eqTsOk.look (AllCs.ok (l := [(82, c_impl_total), (92, c_impl_highest)]) ⟨k_impl_total, k_impl_highest, trivial⟩) mixed rfl rfl rfl rfl ?_
  refine of_nf (P := ∀ vPoints : Int, ∀ vCheckers : Int, ∀ vHome : Int, ∀ vSides : Int, ∀ bOwn : List Int, ∀ bOther : List Int, (varD (vPoints, vCheckers, vHome, vSides) = true ∧ Bd (bOwn, bOther).1 ∧ Bd (bOwn, bOther).2) → ((lensI c_impl_resultOf.ins ((vPoints, vCheckers, vHome, vSides), (bOwn, bOther), ())) → ((Bd bOwn) ∧ (bsp (decide ((List.sum bOwn) = (0 : Int))) ((Bd bOther) ∧ (bsp (decide ((List.sum bOther) < vCheckers)) (@Eq (HO c_impl_resultOf.outs) (1, ()) (c_impl_resultOf.out ((vPoints, vCheckers, vHome, vSides), (bOwn, bOther), ()))) (True ∧ ((inK .i64 (vPoints - vHome)) ∧ (bsp (decide ((vPoints - vHome) ≤ (topD bOther))) (@Eq (HO c_impl_resultOf.outs) (3, ()) (c_impl_resultOf.out ((vPoints, vCheckers, vHome, vSides), (bOwn, bOther), ()))) (@Eq (HO c_impl_resultOf.outs) (2, ()) (c_impl_resultOf.out ((vPoints, vCheckers, vHome, vSides), (bOwn, bOther), ())))))))) ((Bd bOwn) ∧ (bsp (decide ((List.sum bOwn) < vCheckers)) (@Eq (HO c_impl_resultOf.outs) (1, ()) (c_impl_resultOf.out ((vPoints, vCheckers, vHome, vSides), (bOwn, bOther), ()))) (True ∧ ((inK .i64 (vPoints - vHome)) ∧ (bsp (decide ((vPoints - vHome) ≤ (topD bOwn))) (@Eq (HO c_impl_resultOf.outs) (3, ()) (c_impl_resultOf.out ((vPoints, vCheckers, vHome, vSides), (bOwn, bOther), ()))) (@Eq (HO c_impl_resultOf.outs) (2, ()) (c_impl_resultOf.out ((vPoints, vCheckers, vHome, vSides), (bOwn, bOther), ())))))))))))) (by kernel_rfl) ?_
  rintro vPoints vCheckers vHome vSides bOwn bOther ⟨hv, h1, h2⟩ hl
  obtain ⟨⟨v1, v2⟩, ⟨v3, v4⟩, ⟨v5, v6⟩, _⟩ := varD_iff.1 hv
  dsimp only at v1 v2 v3 v4 v5 v6 h1 h2
  have out : ∀ r, resD (vPoints, vCheckers, vHome, vSides) (bOwn, bOther) = r → @Eq (HO c_impl_resultOf.outs) (r, ()) (c_impl_resultOf.out ((vPoints, vCheckers, vHome, vSides), (bOwn, bOther), ())) := fun r h => by subst h; rfl
  refine ⟨h1, bspD (fun h => ⟨h2, bspD (fun g => out _ ?_) (fun g => ⟨trivial, by simp only [inK]; omega, bspD (fun t => out _ ?_) (fun t => out _ ?_)⟩)⟩) (fun h => ⟨h1, bspD (fun g => out _ ?_) (fun g => ⟨trivial, by simp only [inK]; omega, bspD (fun t => out _ ?_) (fun t => out _ ?_)⟩)⟩)⟩ <;>
    simp only [resD, loserD, h, if_true, if_false] <;> simp only [*, if_true, if_false]
def c_spec_l08Result : Con where
  ins := [(true, .v tVar), (true, .v tBoard)]
  outs := [(false, .v tI)]
  sh := false
  pre := fun x => varD x.1 = true ∧ Bd x.2.1.1 ∧ Bd x.2.1.2
  out := fun x => (resD x.1 x.2.1, ())
  upd := fun x => x
  eat := false
theorem k_spec_l08Result [B : Base] : ConOk Try.prog 68 c_spec_l08Result := by
  refine fn_ok (C := cx Try.prog 27 c_spec_l08Result) (cs := [(78, c_spec_l02Sum), (88, c_spec_l02Last)]) (res := Try.f68.results.toList) (fun _ => ⟨[], [(4, ⟨[[], [0], [], [2], [0, 1, 2, 3]], [[2, 3], [2, 3], [0, 1], [0, 1], []], []⟩), (6, ⟨[[], [0], [], [2], [], [4], [2, 3, 4, 5], [0, 1, 2, 3, 4, 5, 6]], [[2, 3, 4, 5, 6], [2, 3, 4, 5, 6], [0, 1, 4, 5], [0, 1, 4, 5], [0, 1, 2, 3], [0, 1, 2, 3], [0, 1], []], []⟩)], []⟩) Try.func68 (by kernel_rfl) rfl rfl rfl tysOk.look eqTsOk.look (AllCs.ok (l := [(78, c_spec_l02Sum), (88, c_spec_l02Last)]) ⟨k_spec_l02Sum, k_spec_l02Last, trivial⟩) mixed rfl rfl rfl rfl ?_
  refine of_nf (P := ∀ vPoints : Int, ∀ vCheckers : Int, ∀ vHome : Int, ∀ vSides : Int, ∀ bOwn : List Int, ∀ bOther : List Int, (varD (vPoints, vCheckers, vHome, vSides) = true ∧ Bd (bOwn, bOther).1 ∧ Bd (bOwn, bOther).2) → ((lensI c_spec_l08Result.ins ((vPoints, vCheckers, vHome, vSides), (bOwn, bOther), ())) → ((Bd bOwn) ∧ (bsp (decide ((List.sum bOwn) = (0 : Int))) ((Bd bOther) ∧ (bsp (decide ((List.sum bOther) < vCheckers)) (@Eq (HO c_spec_l08Result.outs) (1, ()) (c_spec_l08Result.out ((vPoints, vCheckers, vHome, vSides), (bOwn, bOther), ()))) (True ∧ ((inK .i64 (vPoints - vHome)) ∧ (bsp (decide ((vPoints - vHome) ≤ (topD bOther))) (@Eq (HO c_spec_l08Result.outs) (3, ()) (c_spec_l08Result.out ((vPoints, vCheckers, vHome, vSides), (bOwn, bOther), ()))) (@Eq (HO c_spec_l08Result.outs) (2, ()) (c_spec_l08Result.out ((vPoints, vCheckers, vHome, vSides), (bOwn, bOther), ())))))))) ((Bd bOwn) ∧ (bsp (decide ((List.sum bOwn) < vCheckers)) (@Eq (HO c_spec_l08Result.outs) (1, ()) (c_spec_l08Result.out ((vPoints, vCheckers, vHome, vSides), (bOwn, bOther), ()))) (True ∧ ((inK .i64 (vPoints - vHome)) ∧ (bsp (decide ((vPoints - vHome) ≤ (topD bOwn))) (@Eq (HO c_spec_l08Result.outs) (3, ()) (c_spec_l08Result.out ((vPoints, vCheckers, vHome, vSides), (bOwn, bOther), ()))) (@Eq (HO c_spec_l08Result.outs) (2, ()) (c_spec_l08Result.out ((vPoints, vCheckers, vHome, vSides), (bOwn, bOther), ())))))))))))) (by kernel_rfl) ?_
  rintro vPoints vCheckers vHome vSides bOwn bOther ⟨hv, h1, h2⟩ hl
  obtain ⟨⟨v1, v2⟩, ⟨v3, v4⟩, ⟨v5, v6⟩, _⟩ := varD_iff.1 hv
  dsimp only at v1 v2 v3 v4 v5 v6 h1 h2
  have out : ∀ r, resD (vPoints, vCheckers, vHome, vSides) (bOwn, bOther) = r → @Eq (HO c_spec_l08Result.outs) (r, ()) (c_spec_l08Result.out ((vPoints, vCheckers, vHome, vSides), (bOwn, bOther), ())) := fun r h => by subst h; rfl
  refine ⟨h1, bspD (fun h => ⟨h2, bspD (fun g => out _ ?_) (fun g => ⟨trivial, by simp only [inK]; omega, bspD (fun t => out _ ?_) (fun t => out _ ?_)⟩)⟩) (fun h => ⟨h1, bspD (fun g => out _ ?_) (fun g => ⟨trivial, by simp only [inK]; omega, bspD (fun t => out _ ?_) (fun t => out _ ?_)⟩)⟩)⟩ <;>
    simp only [resD, loserD, h, if_true, if_false] <;> simp only [*, if_true, if_false]
end Go.Proofs.Ytgbfcjnkohhfoaa
