/-
  Contracts: copies and comparisons of boards, results.
-/
import Derived.Test.YtoobijimfccfgaaVBoard
namespace Go.Proofs.Ytoobijimfccfgaa
open Go.RowKit
set_option linter.unusedSimpArgs false
set_option linter.unusedVariables false
theorem eq_of_upto {xs ys : List Int} (hl : xs.length = ys.length) (h : ∀ j, j < xs.length → xs.getD j 0 = ys.getD j 0) : xs = ys := by
  refine List.ext_getElem hl fun i h1 h2 => ?_
  have := h i h1
  rwa [List.getD_eq_getElem?_getD, List.getElem?_eq_getElem h1, List.getD_eq_getElem?_getD, List.getElem?_eq_getElem h2] at this
def sameD (a b : DBoard) : Bool := decide (a.1 = b.1) && decide (a.2 = b.2)
def c_slices_Clone_int64_int64_ : Con where
  ins := [(false, .v tSI)]
  outs := [(false, .own 2 tI)]
  sh := false
  pre := fun x => x.1 ≠ [] ∧ List.length x.1 ≤ 1099511627776
  out := fun x => (x.1, ())
  upd := fun x => x
  eat := false
theorem k_slices_Clone_int64_int64_ [B : Base] : ConOk Try.prog 70 c_slices_Clone_int64_int64_ := by
  refine fn_ok (C := cx Try.prog 8 c_slices_Clone_int64_int64_) (cs := []) (res := Try.f70.results.toList) (fun _ => ⟨[], [], []⟩) Try.func70 (by kernel_rfl) rfl rfl rfl tysOk.look eqTsOk.look (AllCs.ok (l := []) trivial) mixed rfl rfl rfl rfl ?_
  refine of_nf (P := ∀ zs : List Int, (zs ≠ [] ∧ List.length zs ≤ 1099511627776) → ((lensI c_slices_Clone_int64_int64_.ins (zs, ())) → (((zs.length) ≠ 0) ∧ ((([] : List Int).length + zs.length ≤ AB) ∧ (@Eq (HO c_slices_Clone_int64_int64_.outs) ((([] : List Int) ++ zs), ()) (c_slices_Clone_int64_int64_.out (zs, ()))))))) (by kernel_rfl) ?_
  rintro zs hpre hl
  have : zs.length ≠ 0 := by simpa using hpre.1
  exact ⟨this, by simp [AB]; omega, rfl⟩
def c_slices_Equal_int64_int64_ : Con where
  ins := [(false, .v tSI), (false, .v tSI)]
  outs := [(false, .v .b)]
  sh := false
  pre := fun _ => True
  out := fun x => (decide (x.1 = x.2.1), ())
  upd := fun x => x
  eat := false
theorem k_slices_Equal_int64_int64_ [B : Base] : ConOk Try.prog 83 c_slices_Equal_int64_int64_ := by
  refine fn_ok (C := cx Try.prog 26 c_slices_Equal_int64_int64_) (cs := []) (res := Try.f83.results.toList) (fun x => ⟨[{ sh := ⟨[(0, .one (.ref 0)), (1, .one (.ref 1)), (12, .one (.i .i64)), (13, .one (.i .i64))], [(0, .imm tI false), (1, .imm tI false)]⟩, nx := 2, I := fun _ dat_ => ((x.1.length : Int) = dat_.1.2.2.1 ∧ x.1 = dat_.2.1 ∧ x.2.1 = dat_.2.2.1) ∧ ((∀ j, j < Int.toNat dat_.1.2.2.2.1 → List.getD x.1 j 0 = List.getD x.2.1 j 0) ∧ 0 ≤ dat_.1.2.2.2.1 ∧ dat_.1.2.2.2.1 ≤ (List.length x.1 : Int) ∧ List.length x.1 = List.length x.2.1), mu := fun dat_ => Int.toNat ((List.length x.1 : Int) - dat_.1.2.2.2.1) }], [(6, ⟨[[], [], [0, 1], [0, 1, 2], [], [], [4, 5], [4, 5, 6], [0, 1, 2, 3, 4, 5, 6, 7]], [[1, 4, 5, 6, 7], [0, 4, 5, 6, 7], [4, 5, 6, 7], [4, 5, 6, 7], [0, 1, 2, 3, 5], [0, 1, 2, 3, 4], [0, 1, 2, 3], [0, 1, 2, 3], []], []⟩)], []⟩) Try.func83 (by kernel_rfl) rfl rfl rfl tysOk.look eqTsOk.look (AllCs.ok (l := []) trivial) mixed rfl rfl rfl rfl ?_
  refine of_nf (P := ∀ xs : List Int, ∀ ys : List Int, (True) → ((lensI c_slices_Equal_int64_int64_.ins (xs, ys, ())) → (bsp (decide ((xs.length : Int) ≠ (ys.length : Int))) (@Eq (HO c_slices_Equal_int64_int64_.outs) (false, ()) (c_slices_Equal_int64_int64_.out (xs, ys, ()))) ((((xs.length : Int) = (xs.length : Int) ∧ xs = xs ∧ ys = ys) ∧ ((∀ j, j < Int.toNat (0 : Int) → List.getD xs j 0 = List.getD ys j 0) ∧ 0 ≤ (0 : Int) ∧ (0 : Int) ≤ (List.length xs : Int) ∧ List.length xs = List.length ys)) ∧ (∀ n : Int, ∀ i : Int, ∀ a : List Int, ∀ b : List Int, (((xs.length : Int) = n ∧ xs = a ∧ ys = b) ∧ ((∀ j, j < Int.toNat i → List.getD xs j 0 = List.getD ys j 0) ∧ 0 ≤ i ∧ i ≤ (List.length xs : Int) ∧ List.length xs = List.length ys)) → (bsp (decide (i < n)) ((0 ≤ i ∧ i < (a.length : Int)) ∧ ((i.toNat < a.length) ∧ ((0 ≤ i ∧ i < (b.length : Int)) ∧ ((i.toNat < b.length) ∧ (bsp (decide ((a.getD i.toNat 0) ≠ (b.getD i.toNat 0))) (@Eq (HO c_slices_Equal_int64_int64_.outs) (false, ()) (c_slices_Equal_int64_int64_.out (xs, ys, ()))) ((inK .i64 (i + 1)) ∧ ((((xs.length : Int) = n ∧ xs = a ∧ ys = b) ∧ ((∀ j, j < Int.toNat (i + 1) → List.getD xs j 0 = List.getD ys j 0) ∧ 0 ≤ (i + 1) ∧ (i + 1) ≤ (List.length xs : Int) ∧ List.length xs = List.length ys)) ∧ ((Int.toNat ((List.length xs : Int) - (i + 1)) : Nat) < Int.toNat ((List.length xs : Int) - i))))))))) (@Eq (HO c_slices_Equal_int64_int64_.outs) (true, ()) (c_slices_Equal_int64_int64_.out (xs, ys, ()))))))))) (by kernel_rfl) ?_
  rintro xs ys hpre hl
  have hlen : xs.length ≤ 9223372036854775807 := hl.1.1
  refine bspD (fun hne => ?_) (fun heq => ?_)
  · have : xs ≠ ys := by rintro rfl; exact hne rfl
    simp [c_slices_Equal_int64_int64_, this]
  · simp only [ne_eq, Decidable.not_not] at heq
    refine ⟨⟨(by first | trivial | rfl | (and_intros <;> rfl)), by simp, by omega, by omega, by omega⟩, ?_⟩
    rintro n i a b ⟨⟨rfl, rfl, rfl⟩, ⟨hs, h0, h1, h2⟩⟩
    refine bspD (fun hlt => ?_) (fun hge => ?_)
    · refine ⟨⟨by omega, by omega⟩, by omega, ⟨by omega, by omega⟩, by omega, bspD (fun hd => ?_) (fun hd => ?_)⟩
      · have : xs ≠ ys := by rintro rfl; exact hd rfl
        simp [c_slices_Equal_int64_int64_, this]
      · simp only [ne_eq, Decidable.not_not] at hd
        refine ⟨by simp only [inK]; omega, ⟨(by first | trivial | rfl | (and_intros <;> rfl)), fun j hj => ?_, by omega, by omega, h2⟩, by omega⟩
        by_cases e : j = i.toNat
        · subst e; exact hd
        · exact hs j (by omega)
    · have : xs = ys := eq_of_upto h2 fun j hj => hs j (by omega)
      simp [c_slices_Equal_int64_int64_, this]
def NeL (zs : List Int) : Prop := zs ≠ [] ∧ zs.length ≤ 1099511627776
def NeB (b : DBoard) : Prop := NeL b.1 ∧ NeL b.2
def loserD (b : DBoard) : List Int := if b.1.sum = 0 then b.2 else b.1
def resD (v : DVar) (b : DBoard) : Int := if (loserD b).sum < v.2.1 then 1 else if v.1 - v.2.2.1 ≤ topD (loserD b) then 3 else 2
end Go.Proofs.Ytoobijimfccfgaa
