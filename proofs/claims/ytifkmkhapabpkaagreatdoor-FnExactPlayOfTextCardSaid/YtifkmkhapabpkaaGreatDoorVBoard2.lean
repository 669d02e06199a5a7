/-
  Contracts: copies and comparisons of boards, results.
-/
import Derived.Test.YtifkmkhapabpkaaGreatDoorVBoard
namespace Go.Proofs.YtifkmkhapabpkaaGreatDoor
open Go.RowKit
set_option linter.unusedSimpArgs false
set_option linter.unusedVariables false
theorem eq_of_upto {xs ys : List Int} (hl : xs.length = ys.length) (h : ∀ j, j < xs.length → xs.getD j 0 = ys.getD j 0) : xs = ys := by
  refine List.ext_getElem hl fun i h1 h2 => ?_
  have := h i h1
  rwa [List.getD_eq_getElem?_getD, List.getElem?_eq_getElem h1, List.getD_eq_getElem?_getD, List.getElem?_eq_getElem h2] at this
def sameD (a b : DBoard) : Bool := decide (a.1 = b.1) && decide (a.2 = b.2)
def c_slices_Clone_int64_int64_ : Con where
  ins := [(false, .v tSI)]
  outs := [(false, .own 2 tI)]
  sh := false
  pre := fun x => x.1 ≠ [] ∧ List.length x.1 ≤ 1099511627776
  out := fun x => (x.1, ())
  upd := fun x => x
theorem k_slices_Clone_int64_int64_ [B : Base] : ConOk Tryz.prog 97 c_slices_Clone_int64_int64_ := by
  refine fn_ok (C := cx Tryz.prog 8 c_slices_Clone_int64_int64_) (cs := []) (res := Tryz.f97.results.toList) (fun _ => ⟨[], [], []⟩) Tryz.func97 (by kernel_rfl) rfl rfl rfl tysOk.look eqTsOk.look (AllCs.ok (l := []) trivial) mixed rfl rfl rfl ?_
  refine of_nf (P := ∀ zs : List Int, (zs ≠ [] ∧ List.length zs ≤ 1099511627776) → ((lensI c_slices_Clone_int64_int64_.ins (zs, ())) → (((zs.length) ≠ 0) ∧ ((([] : List Int).length + zs.length ≤ AB) ∧ (@Eq (HO c_slices_Clone_int64_int64_.outs) ((([] : List Int) ++ zs), ()) (c_slices_Clone_int64_int64_.out (zs, ()))))))) (by kernel_rfl) ?_
  rintro zs hpre hl
  have : zs.length ≠ 0 := by simpa using hpre.1
  exact ⟨this, by simp [AB]; omega, rfl⟩
def c_spec_l02Own : Con where
  ins := [(false, .v tSI)]
  outs := [(false, .own 2 tI)]
  sh := false
  pre := fun x => List.length x.1 ≤ 1099511627776
  out := fun x => (x.1, ())
  upd := fun x => x
theorem k_spec_l02Own [B : Base] : ConOk Tryz.prog 47 c_spec_l02Own := by
  refine fn_ok (C := cx Tryz.prog 6 c_spec_l02Own) (cs := []) (res := Tryz.f47.results.toList) (fun _ => ⟨[], [], []⟩) Tryz.func47 (by kernel_rfl) rfl rfl rfl tysOk.look eqTsOk.look (AllCs.ok (l := []) trivial) mixed rfl rfl rfl ?_
  refine of_nf (P := ∀ zs : List Int, (List.length zs ≤ 1099511627776) → ((lensI c_spec_l02Own.ins (zs, ())) → ((([] : List Int).length + zs.length ≤ AB) ∧ (@Eq (HO c_spec_l02Own.outs) ((([] : List Int) ++ zs), ()) (c_spec_l02Own.out (zs, ())))))) (by kernel_rfl) ?_
  rintro zs hpre hl
  exact ⟨by simp [AB]; omega, rfl⟩
def NeL (zs : List Int) : Prop := zs ≠ [] ∧ zs.length ≤ 1099511627776
def NeB (b : DBoard) : Prop := NeL b.1 ∧ NeL b.2
def c_impl_cloneBoard : Con where
  ins := [(true, .v tBoard)]
  outs := [(true, .pr (.own 2 tI) (.own 2 tI))]
  sh := false
  pre := fun x => NeB x.1
  out := fun x => (x.1, ())
  upd := fun x => x
theorem k_impl_cloneBoard [B : Base] : ConOk Tryz.prog 83 c_impl_cloneBoard := by
  refine fn_ok (C := cx Tryz.prog 10 c_impl_cloneBoard) (cs := [(97, c_slices_Clone_int64_int64_)]) (res := Tryz.f83.results.toList) (fun _ => ⟨[], [(1, ⟨[[], [0], [0, 1], [], [3], [0, 1, 2, 3, 4], [0, 1, 2, 3, 4, 5], [0, 1, 2, 3, 4, 5, 6]], [[3, 4], [3, 4], [3, 4], [0, 1, 2], [0, 1, 2], [], [], []], []⟩)], []⟩) Tryz.func83 (by kernel_rfl) rfl rfl rfl tysOk.look eqTsOk.look (AllCs.ok (l := [(97, c_slices_Clone_int64_int64_)]) ⟨k_slices_Clone_int64_int64_, trivial⟩) mixed rfl rfl rfl ?_
  refine of_nf (P := ∀ bOwn : List Int, ∀ bOther : List Int, (NeB (bOwn, bOther)) → ((lensI c_impl_cloneBoard.ins ((bOwn, bOther), ())) → ((bOwn ≠ [] ∧ List.length bOwn ≤ 1099511627776) ∧ ((bOther ≠ [] ∧ List.length bOther ≤ 1099511627776) ∧ (@Eq (HO c_impl_cloneBoard.outs) ((bOwn, bOther), ()) (c_impl_cloneBoard.out ((bOwn, bOther), ()))))))) (by kernel_rfl) ?_
  rintro bOwn bOther ⟨h1, h2⟩ hl
  exact ⟨h1, h2, rfl⟩
def c_spec_l05Same : Con where
  ins := [(true, .v tBoard), (true, .v tBoard)]
  outs := [(false, .v .b)]
  sh := false
  pre := fun _ => True
  out := fun x => (sameD x.1 x.2.1, ())
  upd := fun x => x
theorem k_spec_l05Same [B : Base] : ConOk Tryz.prog 100 c_spec_l05Same := by
  refine fn_ok (C := cx Tryz.prog 59 c_spec_l05Same) (cs := []) (res := Tryz.f100.results.toList) (fun x => ⟨[{ sh := ⟨[(2, .one (.ref 0)), (3, .one (.ref 1)), (5, .one (.i .i64))], [(0, .box [.ref 2, .ref 3]), (1, .box [.ref 4, .ref 5]), (2, .imm tI false), (3, .imm tI false), (4, .imm tI false), (5, .imm tI false)]⟩, nx := 6, I := fun _ dat_ => (x.1.1 = dat_.2.2.2.1 ∧ x.1.2 = dat_.2.2.2.2.1 ∧ x.2.1.1 = dat_.2.2.2.2.2.1 ∧ x.2.1.2 = dat_.2.2.2.2.2.2.1) ∧ ((∀ j, j < Int.toNat dat_.1.2.2.1 → List.getD (x.1.1, x.1.2).1 j 0 = List.getD (x.2.1.1, x.2.1.2).1 j 0) ∧ 0 ≤ dat_.1.2.2.1 ∧ dat_.1.2.2.1 ≤ (List.length (x.1.1, x.1.2).1 : Int) ∧ List.length (x.1.1, x.1.2).1 = List.length (x.2.1.1, x.2.1.2).1 ∧ List.length (x.1.1, x.1.2).2 = List.length (x.2.1.1, x.2.1.2).2), mu := fun dat_ => Int.toNat ((List.length (x.1.1, x.1.2).1 : Int) - dat_.1.2.2.1) }, { sh := ⟨[(2, .one (.ref 0)), (3, .one (.ref 1)), (6, .one (.i .i64))], [(0, .box [.ref 2, .ref 3]), (1, .box [.ref 4, .ref 5]), (2, .imm tI false), (3, .imm tI false), (4, .imm tI false), (5, .imm tI false)]⟩, nx := 6, I := fun _ dat_ => (x.1.1 = dat_.2.2.2.1 ∧ x.1.2 = dat_.2.2.2.2.1 ∧ x.2.1.1 = dat_.2.2.2.2.2.1 ∧ x.2.1.2 = dat_.2.2.2.2.2.2.1) ∧ ((∀ j, j < Int.toNat dat_.1.2.2.1 → List.getD (x.1.1, x.1.2).2 j 0 = List.getD (x.2.1.1, x.2.1.2).2 j 0) ∧ 0 ≤ dat_.1.2.2.1 ∧ dat_.1.2.2.1 ≤ (List.length (x.1.1, x.1.2).2 : Int) ∧ List.length (x.1.1, x.1.2).1 = List.length (x.2.1.1, x.2.1.2).1 ∧ List.length (x.1.1, x.1.2).2 = List.length (x.2.1.1, x.2.1.2).2 ∧ (x.1.1, x.1.2).1 = (x.2.1.1, x.2.1.2).1), mu := fun dat_ => Int.toNat ((List.length (x.1.1, x.1.2).2 : Int) - dat_.1.2.2.1) }], [(6, ⟨[[], [0], [], [0, 1, 2], [0, 1, 2, 3], [], [5], [], [5, 6, 7], [5, 6, 7, 8], [0, 1, 2, 3, 4, 5, 6, 7, 8, 9]], [[2, 5, 6, 7, 8, 9], [2, 5, 6, 7, 8, 9], [0, 1, 5, 6, 7, 8, 9], [5, 6, 7, 8, 9], [5, 6, 7, 8, 9], [0, 1, 2, 3, 4, 7], [0, 1, 2, 3, 4, 7], [0, 1, 2, 3, 4, 5, 6], [0, 1, 2, 3, 4], [0, 1, 2, 3, 4], []], []⟩), (11, ⟨[[], [0], [], [0, 1, 2], [0, 1, 2, 3], [], [5], [], [5, 6, 7], [5, 6, 7, 8], [0, 1, 2, 3, 4, 5, 6, 7, 8, 9]], [[2, 5, 6, 7, 8, 9], [2, 5, 6, 7, 8, 9], [0, 1, 5, 6, 7, 8, 9], [5, 6, 7, 8, 9], [5, 6, 7, 8, 9], [0, 1, 2, 3, 4, 7], [0, 1, 2, 3, 4, 7], [0, 1, 2, 3, 4, 5, 6], [0, 1, 2, 3, 4], [0, 1, 2, 3, 4], []], []⟩)], [(3, { sh := ⟨[(2, .one (.ref 0)), (3, .one (.ref 1))], [(0, .box [.ref 2, .ref 3]), (1, .box [.ref 4, .ref 5]), (2, .imm tI false), (3, .imm tI false), (4, .imm tI false), (5, .imm tI false)]⟩, nx := 6, I := fun _ dat_ => (x.1.1 = dat_.2.2.2.1 ∧ x.1.2 = dat_.2.2.2.2.1 ∧ x.2.1.1 = dat_.2.2.2.2.2.1 ∧ x.2.1.2 = dat_.2.2.2.2.2.2.1) ∧ (List.length (x.1.1, x.1.2).1 = List.length (x.2.1.1, x.2.1.2).1 ∧ List.length (x.1.1, x.1.2).2 = List.length (x.2.1.1, x.2.1.2).2), mu := fun dat_ => 0 })]⟩) Tryz.func100 (by kernel_rfl) rfl rfl rfl tysOk.look eqTsOk.look (AllCs.ok (l := []) trivial) mixed rfl rfl rfl ?_
  refine of_nf (P := ∀ aOwn : List Int, ∀ aOther : List Int, ∀ bOwn : List Int, ∀ bOther : List Int, (True) → ((lensI c_spec_l05Same.ins ((aOwn, aOther), (bOwn, bOther), ())) → ((bsp (decide ((aOwn.length : Int) ≠ (bOwn.length : Int))) (@Eq (HO c_spec_l05Same.outs) (false, ()) (c_spec_l05Same.out ((aOwn, aOther), (bOwn, bOther), ()))) (bsp (decide ((aOther.length : Int) ≠ (bOther.length : Int))) (@Eq (HO c_spec_l05Same.outs) (false, ()) (c_spec_l05Same.out ((aOwn, aOther), (bOwn, bOther), ()))) ((aOwn = aOwn ∧ aOther = aOther ∧ bOwn = bOwn ∧ bOther = bOther) ∧ (List.length (aOwn, aOther).1 = List.length (bOwn, bOther).1 ∧ List.length (aOwn, aOther).2 = List.length (bOwn, bOther).2)))) ∧ (∀ t2_0 : List Int, ∀ t2_1 : List Int, ∀ t3_0 : List Int, ∀ t3_1 : List Int, ((aOwn = t2_0 ∧ aOther = t2_1 ∧ bOwn = t3_0 ∧ bOther = t3_1) ∧ (List.length (aOwn, aOther).1 = List.length (bOwn, bOther).1 ∧ List.length (aOwn, aOther).2 = List.length (bOwn, bOther).2)) → (((aOwn = t2_0 ∧ aOther = t2_1 ∧ bOwn = t3_0 ∧ bOther = t3_1) ∧ ((∀ j, j < Int.toNat (0 : Int) → List.getD (aOwn, aOther).1 j 0 = List.getD (bOwn, bOther).1 j 0) ∧ 0 ≤ (0 : Int) ∧ (0 : Int) ≤ (List.length (aOwn, aOther).1 : Int) ∧ List.length (aOwn, aOther).1 = List.length (bOwn, bOther).1 ∧ List.length (aOwn, aOther).2 = List.length (bOwn, bOther).2)) ∧ (∀ i : Int, ∀ t2_0x1 : List Int, ∀ t2_1x1 : List Int, ∀ t3_0x1 : List Int, ∀ t3_1x1 : List Int, ((aOwn = t2_0x1 ∧ aOther = t2_1x1 ∧ bOwn = t3_0x1 ∧ bOther = t3_1x1) ∧ ((∀ j, j < Int.toNat i → List.getD (aOwn, aOther).1 j 0 = List.getD (bOwn, bOther).1 j 0) ∧ 0 ≤ i ∧ i ≤ (List.length (aOwn, aOther).1 : Int) ∧ List.length (aOwn, aOther).1 = List.length (bOwn, bOther).1 ∧ List.length (aOwn, aOther).2 = List.length (bOwn, bOther).2)) → (bsp (decide (i < (t2_0x1.length : Int))) ((0 ≤ i ∧ i < (t2_0x1.length : Int)) ∧ ((i.toNat < t2_0x1.length) ∧ ((0 ≤ i ∧ i < (t3_0x1.length : Int)) ∧ ((i.toNat < t3_0x1.length) ∧ (bsp (decide ((t2_0x1.getD i.toNat 0) ≠ (t3_0x1.getD i.toNat 0))) (@Eq (HO c_spec_l05Same.outs) (false, ()) (c_spec_l05Same.out ((aOwn, aOther), (bOwn, bOther), ()))) ((inK .i64 (i + 1)) ∧ (((aOwn = t2_0x1 ∧ aOther = t2_1x1 ∧ bOwn = t3_0x1 ∧ bOther = t3_1x1) ∧ ((∀ j, j < Int.toNat (i + 1) → List.getD (aOwn, aOther).1 j 0 = List.getD (bOwn, bOther).1 j 0) ∧ 0 ≤ (i + 1) ∧ (i + 1) ≤ (List.length (aOwn, aOther).1 : Int) ∧ List.length (aOwn, aOther).1 = List.length (bOwn, bOther).1 ∧ List.length (aOwn, aOther).2 = List.length (bOwn, bOther).2)) ∧ ((Int.toNat ((List.length (aOwn, aOther).1 : Int) - (i + 1)) : Nat) < Int.toNat ((List.length (aOwn, aOther).1 : Int) - i))))))))) (((aOwn = t2_0x1 ∧ aOther = t2_1x1 ∧ bOwn = t3_0x1 ∧ bOther = t3_1x1) ∧ ((∀ j, j < Int.toNat (0 : Int) → List.getD (aOwn, aOther).2 j 0 = List.getD (bOwn, bOther).2 j 0) ∧ 0 ≤ (0 : Int) ∧ (0 : Int) ≤ (List.length (aOwn, aOther).2 : Int) ∧ List.length (aOwn, aOther).1 = List.length (bOwn, bOther).1 ∧ List.length (aOwn, aOther).2 = List.length (bOwn, bOther).2 ∧ (aOwn, aOther).1 = (bOwn, bOther).1)) ∧ (∀ q : Int, ∀ t2_0x2 : List Int, ∀ t2_1x2 : List Int, ∀ t3_0x2 : List Int, ∀ t3_1x2 : List Int, ((aOwn = t2_0x2 ∧ aOther = t2_1x2 ∧ bOwn = t3_0x2 ∧ bOther = t3_1x2) ∧ ((∀ j, j < Int.toNat q → List.getD (aOwn, aOther).2 j 0 = List.getD (bOwn, bOther).2 j 0) ∧ 0 ≤ q ∧ q ≤ (List.length (aOwn, aOther).2 : Int) ∧ List.length (aOwn, aOther).1 = List.length (bOwn, bOther).1 ∧ List.length (aOwn, aOther).2 = List.length (bOwn, bOther).2 ∧ (aOwn, aOther).1 = (bOwn, bOther).1)) → (bsp (decide (q < (t2_1x2.length : Int))) ((0 ≤ q ∧ q < (t2_1x2.length : Int)) ∧ ((q.toNat < t2_1x2.length) ∧ ((0 ≤ q ∧ q < (t3_1x2.length : Int)) ∧ ((q.toNat < t3_1x2.length) ∧ (bsp (decide ((t2_1x2.getD q.toNat 0) ≠ (t3_1x2.getD q.toNat 0))) (@Eq (HO c_spec_l05Same.outs) (false, ()) (c_spec_l05Same.out ((aOwn, aOther), (bOwn, bOther), ()))) ((inK .i64 (q + 1)) ∧ (((aOwn = t2_0x2 ∧ aOther = t2_1x2 ∧ bOwn = t3_0x2 ∧ bOther = t3_1x2) ∧ ((∀ j, j < Int.toNat (q + 1) → List.getD (aOwn, aOther).2 j 0 = List.getD (bOwn, bOther).2 j 0) ∧ 0 ≤ (q + 1) ∧ (q + 1) ≤ (List.length (aOwn, aOther).2 : Int) ∧ List.length (aOwn, aOther).1 = List.length (bOwn, bOther).1 ∧ List.length (aOwn, aOther).2 = List.length (bOwn, bOther).2 ∧ (aOwn, aOther).1 = (bOwn, bOther).1)) ∧ ((Int.toNat ((List.length (aOwn, aOther).2 : Int) - (q + 1)) : Nat) < Int.toNat ((List.length (aOwn, aOther).2 : Int) - q))))))))) (@Eq (HO c_spec_l05Same.outs) (true, ()) (c_spec_l05Same.out ((aOwn, aOther), (bOwn, bOther), ()))))))))))))) (by kernel_rfl) ?_
  rintro aOwn aOther bOwn bOther hpre hl
  have l1 : aOwn.length ≤ 9223372036854775807 := hl.1.1.1
  have l2 : aOther.length ≤ 9223372036854775807 := hl.1.2.1
  refine ⟨bspD (fun h1 => ?_) (fun h1 => bspD (fun h2 => ?_) (fun h2 => ⟨(by first | trivial | rfl | (and_intros <;> rfl)), by dsimp only; omega, by dsimp only; omega⟩)), ?_⟩
  · have : aOwn ≠ bOwn := by rintro rfl; exact h1 rfl
    simp [c_spec_l05Same, sameD, this]
  · have : aOther ≠ bOther := by rintro rfl; exact h2 rfl
    simp [c_spec_l05Same, sameD, this]
  rintro t2_0 t2_1 t3_0 t3_1 ⟨⟨rfl, rfl, rfl, rfl⟩, ⟨e1, e2⟩⟩
  dsimp only at e1 e2
  refine ⟨⟨(by first | trivial | rfl | (and_intros <;> rfl)), by simp, by omega, by omega, by dsimp only; omega, by dsimp only; omega⟩, ?_⟩
  rintro i t2_0x1 t2_1x1 t3_0x1 t3_1x1 ⟨⟨rfl, rfl, rfl, rfl⟩, ⟨hs, h0, h1, -, -⟩⟩
  dsimp only at hs h1
  refine bspD (fun hlt => ?_) (fun hge => ?_)
  · refine ⟨⟨by omega, by omega⟩, by omega, ⟨by omega, by omega⟩, by omega, bspD (fun hd => ?_) (fun hd => ?_)⟩
    · have : aOwn ≠ bOwn := by rintro rfl; exact hd rfl
      simp [c_spec_l05Same, sameD, this]
    · simp only [ne_eq, Decidable.not_not] at hd
      refine ⟨by simp only [inK]; omega, ⟨(by first | trivial | rfl | (and_intros <;> rfl)), fun j hj => ?_, by omega, by dsimp only; omega, by dsimp only; omega, by dsimp only; omega⟩, by dsimp only; omega⟩
      dsimp only
      by_cases e : j = i.toNat
      · subst e; exact hd
      · exact hs j (by omega)
  · have eq1 : aOwn = bOwn := eq_of_upto e1 fun j hj => hs j (by omega)
    refine ⟨⟨(by first | trivial | rfl | (and_intros <;> rfl)), by simp, by omega, by dsimp only; omega, by dsimp only; omega, by dsimp only; omega, eq1⟩, ?_⟩
    rintro q t2_0x2 t2_1x2 t3_0x2 t3_1x2 ⟨⟨rfl, rfl, rfl, rfl⟩, ⟨hs, h0, h1, -⟩⟩
    dsimp only at hs h1
    refine bspD (fun hlt => ?_) (fun hge => ?_)
    · refine ⟨⟨by omega, by omega⟩, by omega, ⟨by omega, by omega⟩, by omega, bspD (fun hd => ?_) (fun hd => ?_)⟩
      · have : aOther ≠ bOther := by rintro rfl; exact hd rfl
        simp [c_spec_l05Same, sameD, this]
      · simp only [ne_eq, Decidable.not_not] at hd
        refine ⟨by simp only [inK]; omega, ⟨(by first | trivial | rfl | (and_intros <;> rfl)), fun j hj => ?_, by omega, by dsimp only; omega, by dsimp only; omega, by dsimp only; omega, eq1⟩, by dsimp only; omega⟩
        dsimp only
        by_cases e : j = q.toNat
        · subst e; exact hd
        · exact hs j (by omega)
    · have eq2 : aOther = bOther := eq_of_upto e2 fun j hj => hs j (by omega)
      simp [c_spec_l05Same, sameD, eq1, eq2]
def c_impl_boardOver : Con where
  ins := [(true, .v tBoard)]
  outs := [(false, .v .b)]
  sh := false
  pre := fun x => Bd x.1.1 ∧ Bd x.1.2
  out := fun x => (overD x.1, ())
  upd := fun x => x
theorem k_impl_boardOver [B : Base] : ConOk Tryz.prog 98 c_impl_boardOver := by
  refine fn_ok (C := cx Tryz.prog 13 c_impl_boardOver) (cs := [(51, c_impl_total)]) (res := Tryz.f98.results.toList) (fun _ => ⟨[], [], []⟩) Tryz.func98 (by kernel_rfl) rfl rfl rfl tysOk.look eqTsOk.look (AllCs.ok (l := [(51, c_impl_total)]) ⟨k_impl_total, trivial⟩) mixed rfl rfl rfl ?_
  refine of_nf (P := ∀ bOwn : List Int, ∀ bOther : List Int, (Bd (bOwn, bOther).1 ∧ Bd (bOwn, bOther).2) → ((lensI c_impl_boardOver.ins ((bOwn, bOther), ())) → ((Bd bOwn) ∧ (bsp (decide ((List.sum bOwn) = (0 : Int))) (@Eq (HO c_impl_boardOver.outs) (true, ()) (c_impl_boardOver.out ((bOwn, bOther), ()))) ((Bd bOther) ∧ (@Eq (HO c_impl_boardOver.outs) ((decide ((List.sum bOther) = (0 : Int))), ()) (c_impl_boardOver.out ((bOwn, bOther), ())))))))) (by kernel_rfl) ?_
  rintro bOwn bOther ⟨h1, h2⟩ hl
  refine ⟨h1, bspD (fun h => ?_) (fun h => ⟨h2, ?_⟩)⟩ <;> simp [c_impl_boardOver, overD, h]
def c_spec_l02Over : Con where
  ins := [(true, .v tBoard)]
  outs := [(false, .v .b)]
  sh := false
  pre := fun x => Bd x.1.1 ∧ Bd x.1.2
  out := fun x => (overD x.1, ())
  upd := fun x => x
theorem k_spec_l02Over [B : Base] : ConOk Tryz.prog 69 c_spec_l02Over := by
  refine fn_ok (C := cx Tryz.prog 13 c_spec_l02Over) (cs := [(40, c_spec_l02Sum)]) (res := Tryz.f69.results.toList) (fun _ => ⟨[], [], []⟩) Tryz.func69 (by kernel_rfl) rfl rfl rfl tysOk.look eqTsOk.look (AllCs.ok (l := [(40, c_spec_l02Sum)]) ⟨k_spec_l02Sum, trivial⟩) mixed rfl rfl rfl ?_
  refine of_nf (P := ∀ bOwn : List Int, ∀ bOther : List Int, (Bd (bOwn, bOther).1 ∧ Bd (bOwn, bOther).2) → ((lensI c_spec_l02Over.ins ((bOwn, bOther), ())) → ((Bd bOwn) ∧ (bsp (decide ((List.sum bOwn) = (0 : Int))) (@Eq (HO c_spec_l02Over.outs) (true, ()) (c_spec_l02Over.out ((bOwn, bOther), ()))) ((Bd bOther) ∧ (@Eq (HO c_spec_l02Over.outs) ((decide ((List.sum bOther) = (0 : Int))), ()) (c_spec_l02Over.out ((bOwn, bOther), ())))))))) (by kernel_rfl) ?_
  rintro bOwn bOther ⟨h1, h2⟩ hl
  refine ⟨h1, bspD (fun h => ?_) (fun h => ⟨h2, ?_⟩)⟩ <;> simp [c_spec_l02Over, overD, h]
def loserD (b : DBoard) : List Int := if b.1.sum = 0 then b.2 else b.1
def resD (v : DVar) (b : DBoard) : Int := if (loserD b).sum < v.2.1 then 1 else if v.1 - v.2.2.1 ≤ topD (loserD b) then 3 else 2
end Go.Proofs.YtifkmkhapabpkaaGreatDoor
