/-
  Contracts: bear-off positions: their numbers' parts, their validity.
-/
import Derived.Test.YtoobijimfccfgaaVBase
import Derived.Test.YtoobijimfccfgaaAbV
import Derived.Test.YtoobijimfccfgaaMB
namespace Go.Proofs.Ytoobijimfccfgaa
open Go.RowKit
set_option linter.unusedSimpArgs false
set_option linter.unusedVariables false
def c_impl_choose : Con where
  ins := [(false, .v tI), (false, .v tI)]
  outs := [(false, .v tI)]
  sh := false
  pre := fun x => (0 ≤ x.2.1 ∧ x.2.1 ≤ 25) ∧ 0 ≤ x.1 - x.2.1 ∧ x.1 - x.2.1 ≤ 15
  out := fun x => ((chs (Int.toNat (x.1 - x.2.1)) (Int.toNat x.2.1) : Int), ())
  upd := fun x => x
  eat := false
theorem k_impl_choose [B : Base] : ConOk Try.prog 56 c_impl_choose := by
  refine fn_ok (C := cx Try.prog 29 c_impl_choose) (cs := []) (res := Try.f56.results.toList) (fun x => ⟨[{ sh := ⟨[(0, .one (.i .i64)), (1, .one (.i .i64)), (5, .one (.i .i64)), (6, .one (.i .i64))], []⟩, nx := 0, I := fun _ dat_ => (x.1 = dat_.1.1 ∧ x.2.1 = dat_.1.2.1) ∧ (1 ≤ dat_.1.2.2.2.1 ∧ dat_.1.2.2.2.1 ≤ x.2.1 + 1 ∧ dat_.1.2.2.1 = (chs (Int.toNat (x.1 - x.2.1)) (Int.toNat (dat_.1.2.2.2.1 - 1)) : Int)), mu := fun dat_ => Int.toNat (x.2.1 + 1 - dat_.1.2.2.2.1) }], [], []⟩) Try.func56 (by kernel_rfl) rfl rfl rfl tysOk.look eqTsOk.look (AllCs.ok (l := []) trivial) mixed rfl rfl rfl rfl ?_
  refine of_nf (P := ∀ n : Int, ∀ k : Int, ((0 ≤ k ∧ k ≤ 25) ∧ 0 ≤ n - k ∧ n - k ≤ 15) → ((lensI c_impl_choose.ins (n, k, ())) → (bsp (decide (k < (0 : Int))) (@Eq (HO c_impl_choose.outs) (0, ()) (c_impl_choose.out (n, k, ()))) (bsp (decide (n < k)) (@Eq (HO c_impl_choose.outs) (0, ()) (c_impl_choose.out (n, k, ()))) (((n = n ∧ k = k) ∧ (1 ≤ (1 : Int) ∧ (1 : Int) ≤ k + 1 ∧ (1 : Int) = (chs (Int.toNat (n - k)) (Int.toNat ((1 : Int) - 1)) : Int))) ∧ (∀ t0 : Int, ∀ t1 : Int, ∀ o : Int, ∀ i : Int, ((n = t0 ∧ k = t1) ∧ (1 ≤ i ∧ i ≤ k + 1 ∧ o = (chs (Int.toNat (n - k)) (Int.toNat (i - 1)) : Int))) → (bsp (decide (i ≤ t1)) ((inK .i64 (t0 - t1)) ∧ ((inK .i64 ((t0 - t1) + i)) ∧ ((inK .i64 (o * ((t0 - t1) + i))) ∧ ((i ≠ 0) ∧ ((inK .i64 (Int.tdiv (o * ((t0 - t1) + i)) i)) ∧ ((inK .i64 (i + 1)) ∧ (((n = t0 ∧ k = t1) ∧ (1 ≤ (i + 1) ∧ (i + 1) ≤ k + 1 ∧ (Int.tdiv (o * ((t0 - t1) + i)) i) = (chs (Int.toNat (n - k)) (Int.toNat ((i + 1) - 1)) : Int))) ∧ ((Int.toNat (k + 1 - (i + 1)) : Nat) < Int.toNat (k + 1 - i))))))))) (@Eq (HO c_impl_choose.outs) (o, ()) (c_impl_choose.out (n, k, ())))))))))) (by kernel_rfl) ?_
  rintro n k ⟨⟨k0, k1⟩, m0, m1⟩ hl
  obtain ⟨q, rfl⟩ : ∃ q : Nat, k = q := ⟨k.toNat, by omega⟩
  obtain ⟨m, hm⟩ : ∃ m : Nat, n = (q : Int) + m := ⟨(n - q).toNat, by omega⟩
  subst hm
  have e : (q : Int) + m - q = m := by omega
  refine bspD (fun h => absurd h (by omega)) (fun _ => bspD (fun h => absurd h (by omega)) (fun _ => ⟨⟨(by first | trivial | rfl | (and_intros <;> rfl)), by omega, by omega, rfl⟩, ?_⟩))
  rintro t0 t1 o i ⟨⟨rfl, rfl⟩, ⟨i0, i1, ho⟩⟩
  obtain ⟨j, rfl⟩ : ∃ j : Nat, i = (j : Int) + 1 := ⟨(i - 1).toNat, by omega⟩
  rw [show ((j : Int) + 1 - 1).toNat = j by omega, e, Int.toNat_natCast] at ho
  subst ho
  refine bspD (fun hlt => ?_) (fun hge => ?_)
  · obtain ⟨hb0, hb1⟩ := chs_bdI (m := m) (i := j) (by omega) (by omega)
    have hc := chs_pos (m := m) (i := j + 1) (by omega) (by omega)
    have hs := chs_step m j
    rw [e]
    have hq : Int.tdiv ((chs m j : Int) * ((m : Int) + ((j : Int) + 1))) ((j : Int) + 1) = ((chs m (j + 1) : Nat) : Int) := by rw [hs, Int.tdiv_eq_ediv_of_nonneg hb0]
    rw [hq]
    refine ⟨by simp only [inK]; omega, by simp only [inK]; omega, by simp only [inK]; omega, by omega, by simp only [inK]; omega, by simp only [inK]; omega, ⟨(by first | trivial | rfl | (and_intros <;> rfl)), by omega, by omega, ?_⟩, by omega⟩
    rw [show ((j : Int) + 1 + 1 - 1).toNat = j + 1 by omega, Int.toNat_natCast]
  · have : j = q := by omega
    subst this
    simp only [c_impl_choose, e, Int.toNat_natCast]
def c_impl_listsUpTo : Con where
  ins := [(false, .v tI), (false, .v tI)]
  outs := [(false, .v tI)]
  sh := false
  pre := fun x => (0 ≤ x.1 ∧ x.1 ≤ 25) ∧ 0 ≤ x.2.1 ∧ x.2.1 ≤ 15
  out := fun x => ((chs (Int.toNat x.2.1) (Int.toNat x.1) : Int), ())
  upd := fun x => x
  eat := false
theorem k_impl_listsUpTo [B : Base] : ConOk Try.prog 44 c_impl_listsUpTo := by
  refine fn_ok (C := cx Try.prog 10 c_impl_listsUpTo) (cs := [(56, c_impl_choose)]) (res := Try.f44.results.toList) (fun _ => ⟨[], [], []⟩) Try.func44 (by kernel_rfl) rfl rfl rfl tysOk.look eqTsOk.look (AllCs.ok (l := [(56, c_impl_choose)]) ⟨k_impl_choose, trivial⟩) mixed rfl rfl rfl rfl ?_
  refine of_nf (P := ∀ q : Int, ∀ m : Int, ((0 ≤ q ∧ q ≤ 25) ∧ 0 ≤ m ∧ m ≤ 15) → ((lensI c_impl_listsUpTo.ins (q, m, ())) → ((inK .i64 (q + m)) ∧ (((0 ≤ q ∧ q ≤ 25) ∧ 0 ≤ (q + m) - q ∧ (q + m) - q ≤ 15) ∧ (@Eq (HO c_impl_listsUpTo.outs) ((chs (Int.toNat ((q + m) - q)) (Int.toNat q) : Int), ()) (c_impl_listsUpTo.out (q, m, ()))))))) (by kernel_rfl) ?_
  rintro q m ⟨⟨k0, k1⟩, m0, m1⟩ hl
  have e : q + m - q = m := by omega
  rw [e]
  exact ⟨by simp only [inK]; omega, ⟨⟨k0, k1⟩, m0, m1⟩, rfl⟩
def c_spec_l10Ways : Con where
  ins := [(false, .v tI), (false, .v tI)]
  outs := [(false, .v tI)]
  sh := false
  pre := fun x => (0 ≤ x.2.1 ∧ x.2.1 ≤ 25) ∧ 0 ≤ x.1 ∧ x.1 ≤ 15
  out := fun x => (ways (Int.toNat x.1) (Int.toNat x.2.1), ())
  upd := fun x => x
  eat := false
theorem k_spec_l10Ways [B : Base] : ConOk Try.prog 25 c_spec_l10Ways := by
  refine fn_ok (C := cx Try.prog 22 c_spec_l10Ways) (cs := []) (res := Try.f25.results.toList) (fun x => ⟨[{ sh := ⟨[(0, .one (.i .i64)), (1, .one (.i .i64)), (5, .one (.i .i64)), (6, .one (.i .i64))], []⟩, nx := 0, I := fun _ dat_ => (x.1 = dat_.1.1 ∧ x.2.1 = dat_.1.2.1) ∧ (1 ≤ dat_.1.2.2.2.1 ∧ dat_.1.2.2.2.1 ≤ x.2.1 + 1 ∧ dat_.1.2.2.1 = (chs (Int.toNat x.1) (Int.toNat (dat_.1.2.2.2.1 - 1)) : Int) ∧ dat_.1.2.2.1 ≤ 1000000), mu := fun dat_ => Int.toNat (x.2.1 + 1 - dat_.1.2.2.2.1) }], [], []⟩) Try.func25 (by kernel_rfl) rfl rfl rfl tysOk.look eqTsOk.look (AllCs.ok (l := []) trivial) mixed rfl rfl rfl rfl ?_
  refine of_nf (P := ∀ m : Int, ∀ q : Int, ((0 ≤ q ∧ q ≤ 25) ∧ 0 ≤ m ∧ m ≤ 15) → ((lensI c_spec_l10Ways.ins (m, q, ())) → (((m = m ∧ q = q) ∧ (1 ≤ (1 : Int) ∧ (1 : Int) ≤ q + 1 ∧ (1 : Int) = (chs (Int.toNat m) (Int.toNat ((1 : Int) - 1)) : Int) ∧ (1 : Int) ≤ 1000000)) ∧ (∀ t0 : Int, ∀ t1 : Int, ∀ o : Int, ∀ i : Int, ((m = t0 ∧ q = t1) ∧ (1 ≤ i ∧ i ≤ q + 1 ∧ o = (chs (Int.toNat m) (Int.toNat (i - 1)) : Int) ∧ o ≤ 1000000)) → (bsp (decide (i ≤ t1)) ((inK .i64 (t0 + i)) ∧ ((inK .i64 (o * (t0 + i))) ∧ ((i ≠ 0) ∧ ((inK .i64 (Int.tdiv (o * (t0 + i)) i)) ∧ (bsp (decide ((1000000 : Int) < (Int.tdiv (o * (t0 + i)) i))) (@Eq (HO c_spec_l10Ways.outs) ((-1), ()) (c_spec_l10Ways.out (m, q, ()))) ((inK .i64 (i + 1)) ∧ (((m = t0 ∧ q = t1) ∧ (1 ≤ (i + 1) ∧ (i + 1) ≤ q + 1 ∧ (Int.tdiv (o * (t0 + i)) i) = (chs (Int.toNat m) (Int.toNat ((i + 1) - 1)) : Int) ∧ (Int.tdiv (o * (t0 + i)) i) ≤ 1000000)) ∧ ((Int.toNat (q + 1 - (i + 1)) : Nat) < Int.toNat (q + 1 - i))))))))) (@Eq (HO c_spec_l10Ways.outs) (o, ()) (c_spec_l10Ways.out (m, q, ())))))))) (by kernel_rfl) ?_
  rintro m q ⟨⟨k0, k1⟩, m0, m1⟩ hl
  obtain ⟨q, rfl⟩ : ∃ x : Nat, q = x := ⟨q.toNat, by omega⟩
  obtain ⟨m, rfl⟩ : ∃ x : Nat, m = x := ⟨m.toNat, by omega⟩
  refine ⟨⟨(by first | trivial | rfl | (and_intros <;> rfl)), by omega, by omega, rfl, by decide⟩, ?_⟩
  rintro t0 t1 o i ⟨⟨rfl, rfl⟩, ⟨i0, i1, ho, hle⟩⟩
  obtain ⟨j, rfl⟩ : ∃ j : Nat, i = (j : Int) + 1 := ⟨(i - 1).toNat, by omega⟩
  rw [show ((j : Int) + 1 - 1).toNat = j by omega, Int.toNat_natCast] at ho
  subst ho
  refine bspD (fun hlt => ?_) (fun hge => ?_)
  · obtain ⟨hb0, hb1⟩ := chs_bdI (m := m) (i := j) (by omega) (by omega)
    have hc := chs_pos (m := m) (i := j + 1) (by omega) (by omega)
    have hs := chs_step m j
    have hq : Int.tdiv ((chs m j : Int) * ((m : Int) + ((j : Int) + 1))) ((j : Int) + 1) = ((chs m (j + 1) : Nat) : Int) := by rw [hs, Int.tdiv_eq_ediv_of_nonneg hb0]
    rw [hq]
    refine ⟨by simp only [inK]; omega, by simp only [inK]; omega, by omega, by simp only [inK]; omega, bspD (fun hg => ?_) (fun hg => ⟨by simp only [inK]; omega, ⟨(by first | trivial | rfl | (and_intros <;> rfl)), by omega, by omega, ?_, by omega⟩, by omega⟩)⟩
    · have hmo := chs_mono (m := m) (i := j + 1) (j := q) (by omega) (by omega) (by omega)
      simp only [c_spec_l10Ways, ways, Int.toNat_natCast]
      rw [if_neg (by omega)]
    · rw [show ((j : Int) + 1 + 1 - 1).toNat = j + 1 by omega, Int.toNat_natCast]
  · have : j = q := by omega
    subst this
    simp only [c_spec_l10Ways, ways, Int.toNat_natCast]
    rw [if_pos (by omega)]
def countD (v : DVar) : Int := if varD v = true then ways v.2.1.toNat v.2.2.1.toNat else -1
def fitsP (left : Int) : List Int → Bool
  | [] => true
  | z :: zs => decide (0 ≤ z) && decide (z ≤ left) && fitsP (left - z) zs
def bearD (v : DVar) (zs : List Int) : Bool := decide ((zs.length : Int) = v.2.2.1) && fitsP v.2.1 zs
def codeP (v : DVar) (zs : List Int) : Int := if varD v = false then 1 else if bearD v zs = false then 2 else 0
theorem fitsP_drop (left : Int) (zs : List Int) (k : Nat) (h : k < zs.length) :
    fitsP left (zs.drop k) = (decide (0 ≤ zs.getD k 0) && decide (zs.getD k 0 ≤ left) && fitsP (left - zs.getD k 0) (zs.drop (k + 1))) := by
  rw [List.drop_eq_getElem_cons h, List.getD_eq_getElem?_getD, List.getElem?_eq_getElem h]; rfl
def c_impl_BearoffCount : Con where
  ins := [(true, .v tVar)]
  outs := [(false, .v tI)]
  sh := false
  pre := fun _ => True
  out := fun x => (countD x.1, ())
  upd := fun x => x
  eat := false
theorem k_impl_BearoffCount [B : Base] : ConOk Try.prog 28 c_impl_BearoffCount := by
  refine fn_okW (C := cx Try.prog 15 c_impl_BearoffCount) (cs := [(27, c_impl_IsVariant), (44, c_impl_listsUpTo)]) (res := Try.f28.results.toList) (fun _ => ⟨[], [], []⟩) Try.func28 (by kernel_rfl) rfl rfl rfl tysOk.look eqTsOk.look (AllCs.ok (l := [(27, c_impl_IsVariant), (44, c_impl_listsUpTo)]) ⟨k_impl_IsVariant, k_impl_listsUpTo, trivial⟩) mixed rfl rfl rfl rfl ?_
  refine of_nf (P := ∀ v : Int × Int × Int × Int, (True) → ((lensI c_impl_BearoffCount.ins (v, ())) → (True ∧ (bsp (!(varD v)) (@Eq (HO c_impl_BearoffCount.outs) ((-1), ()) (c_impl_BearoffCount.out (v, ()))) (((0 ≤ v.2.2.1 ∧ v.2.2.1 ≤ 25) ∧ 0 ≤ v.2.1 ∧ v.2.1 ≤ 15) ∧ (bsp (decide ((chs (Int.toNat v.2.1) (Int.toNat v.2.2.1) : Int) ≤ (1000000 : Int))) (@Eq (HO c_impl_BearoffCount.outs) ((chs (Int.toNat v.2.1) (Int.toNat v.2.2.1) : Int), ()) (c_impl_BearoffCount.out (v, ()))) (@Eq (HO c_impl_BearoffCount.outs) ((-1), ()) (c_impl_BearoffCount.out (v, ()))))))))) (by kernel_rfl) ?_
  rintro v hp hl
  refine ⟨trivial, bspB (fun h => by simp_all [c_impl_BearoffCount, countD]) (fun h => ?_)⟩
  have hv : varD v = true := by simpa using h
  obtain ⟨⟨g1, g1'⟩, ⟨g2, g2'⟩, ⟨g3, g3'⟩, g4⟩ := varD_iff.1 hv
  refine ⟨⟨⟨by omega, by omega⟩, by omega, by omega⟩, bspD (fun k => ?_) (fun k => ?_)⟩
  · simp only [c_impl_BearoffCount, countD, if_pos hv, ways]; rw [if_pos (by omega)]
  · simp only [c_impl_BearoffCount, countD, if_pos hv, ways]; rw [if_neg (by omega)]
def c_spec_BearoffCount : Con where
  ins := [(true, .v tVar)]
  outs := [(false, .v tI)]
  sh := false
  pre := fun _ => True
  out := fun x => (countD x.1, ())
  upd := fun x => x
  eat := false
theorem k_spec_BearoffCount [B : Base] : ConOk Try.prog 18 c_spec_BearoffCount := by
  refine fn_okW (C := cx Try.prog 11 c_spec_BearoffCount) (cs := [(32, c_spec_IsVariant), (25, c_spec_l10Ways)]) (res := Try.f18.results.toList) (fun _ => ⟨[], [], []⟩) Try.func18 (by kernel_rfl) rfl rfl rfl tysOk.look eqTsOk.look (AllCs.ok (l := [(32, c_spec_IsVariant), (25, c_spec_l10Ways)]) ⟨k_spec_IsVariant, k_spec_l10Ways, trivial⟩) mixed rfl rfl rfl rfl ?_
  refine of_nf (P := ∀ v : Int × Int × Int × Int, (True) → ((lensI c_spec_BearoffCount.ins (v, ())) → (True ∧ (bsp (!(varD v)) (@Eq (HO c_spec_BearoffCount.outs) ((-1), ()) (c_spec_BearoffCount.out (v, ()))) (((0 ≤ v.2.2.1 ∧ v.2.2.1 ≤ 25) ∧ 0 ≤ v.2.1 ∧ v.2.1 ≤ 15) ∧ (@Eq (HO c_spec_BearoffCount.outs) (ways (Int.toNat v.2.1) (Int.toNat v.2.2.1), ()) (c_spec_BearoffCount.out (v, ())))))))) (by kernel_rfl) ?_
  rintro v hp hl
  refine ⟨trivial, bspB (fun h => by simp_all [c_spec_BearoffCount, countD]) (fun h => ?_)⟩
  have hv : varD v = true := by simpa using h
  obtain ⟨⟨g1, g1'⟩, ⟨g2, g2'⟩, ⟨g3, g3'⟩, g4⟩ := varD_iff.1 hv
  exact ⟨⟨⟨by omega, by omega⟩, by omega, by omega⟩, by simp only [c_spec_BearoffCount, countD, if_pos hv]⟩
def c_impl_isBearoff : Con where
  ins := [(true, .v tVar), (false, .v tSI)]
  outs := [(false, .v .b)]
  sh := false
  pre := fun x => varD x.1 = true
  out := fun x => (bearD x.1 x.2.1, ())
  upd := fun x => x
  eat := false
theorem k_impl_isBearoff [B : Base] : ConOk Try.prog 42 c_impl_isBearoff := by
  refine fn_okW (C := cx Try.prog 32 c_impl_isBearoff) (cs := []) (res := Try.f42.results.toList) (fun x => ⟨[{ sh := ⟨[(5, .one (.i .i64)), (15, .one (.ref 0)), (16, .one (.i .i64)), (17, .one (.i .i64))], [(0, .imm tI false)]⟩, nx := 1, I := fun _ dat_ => ((x.2.1.length : Int) = dat_.1.2.2.1 ∧ x.2.1 = dat_.2.1) ∧ (fitsP x.1.2.1 x.2.1 = fitsP dat_.1.1 (List.drop (Int.toNat dat_.1.2.2.2.1) x.2.1) ∧ (0 ≤ dat_.1.1 ∧ dat_.1.1 ≤ 15) ∧ 0 ≤ dat_.1.2.2.2.1 ∧ dat_.1.2.2.2.1 ≤ (List.length x.2.1 : Int)), mu := fun dat_ => Int.toNat ((List.length x.2.1 : Int) - dat_.1.2.2.2.1) }], [], []⟩) Try.func42 (by kernel_rfl) rfl rfl rfl tysOk.look eqTsOk.look (AllCs.ok (l := []) trivial) mixed rfl rfl rfl rfl ?_
  refine of_nf (P := ∀ v : Int × Int × Int × Int, ∀ zs : List Int, (varD v = true) → ((lensI c_impl_isBearoff.ins (v, zs, ())) → (bsp (decide ((zs.length : Int) ≠ v.2.2.1)) (@Eq (HO c_impl_isBearoff.outs) (false, ()) (c_impl_isBearoff.out (v, zs, ()))) ((((zs.length : Int) = (zs.length : Int) ∧ zs = zs) ∧ (fitsP v.2.1 zs = fitsP v.2.1 (List.drop (Int.toNat (0 : Int)) zs) ∧ (0 ≤ v.2.1 ∧ v.2.1 ≤ 15) ∧ 0 ≤ (0 : Int) ∧ (0 : Int) ≤ (List.length zs : Int))) ∧ (∀ left : Int, ∀ n : Int, ∀ i : Int, ∀ l : List Int, (((zs.length : Int) = n ∧ zs = l) ∧ (fitsP v.2.1 zs = fitsP left (List.drop (Int.toNat i) zs) ∧ (0 ≤ left ∧ left ≤ 15) ∧ 0 ≤ i ∧ i ≤ (List.length zs : Int))) → (bsp (decide (i < n)) ((0 ≤ i ∧ i < (l.length : Int)) ∧ ((i.toNat < l.length) ∧ (bsp (decide ((l.getD i.toNat 0) < (0 : Int))) (@Eq (HO c_impl_isBearoff.outs) (false, ()) (c_impl_isBearoff.out (v, zs, ()))) (bsp (decide (left < (l.getD i.toNat 0))) (@Eq (HO c_impl_isBearoff.outs) (false, ()) (c_impl_isBearoff.out (v, zs, ()))) ((inK .i64 (left - (l.getD i.toNat 0))) ∧ ((inK .i64 (i + 1)) ∧ ((((zs.length : Int) = n ∧ zs = l) ∧ (fitsP v.2.1 zs = fitsP (left - (l.getD i.toNat 0)) (List.drop (Int.toNat (i + 1)) zs) ∧ (0 ≤ (left - (l.getD i.toNat 0)) ∧ (left - (l.getD i.toNat 0)) ≤ 15) ∧ 0 ≤ (i + 1) ∧ (i + 1) ≤ (List.length zs : Int))) ∧ ((Int.toNat ((List.length zs : Int) - (i + 1)) : Nat) < Int.toNat ((List.length zs : Int) - i))))))))) (@Eq (HO c_impl_isBearoff.outs) (true, ()) (c_impl_isBearoff.out (v, zs, ()))))))))) (by kernel_rfl) ?_
  rintro v zs hv hl
  have out : ∀ c, bearD v zs = c → @Eq (HO c_impl_isBearoff.outs) (c, ()) (c_impl_isBearoff.out (v, zs, ())) := fun c h => by subst h; rfl
  have hlen : zs.length ≤ 9223372036854775807 := hl.2.1.1
  obtain ⟨⟨g1, g1'⟩, ⟨g2, g2'⟩, ⟨g3, g3'⟩, g4⟩ := varD_iff.1 hv
  refine bspD (fun h => out false (by simp only [bearD, decide_eq_false h, Bool.false_and])) (fun h => ?_)
  have hH : (zs.length : Int) = v.2.2.1 := Decidable.not_not.1 h
  have hB : bearD v zs = fitsP v.2.1 zs := by simp only [bearD, decide_eq_true hH, Bool.true_and]
  rw [hB] at out
  refine ⟨⟨(by first | trivial | rfl | (and_intros <;> rfl)), by simp, by omega, by omega, by omega⟩, ?_⟩
  rintro left n i l ⟨⟨rfl, rfl⟩, ⟨hf, ⟨l0, l1⟩, i0, i1⟩⟩
  obtain ⟨k, rfl⟩ : ∃ k : Nat, i = k := ⟨i.toNat, by omega⟩
  simp only [Int.toNat_natCast, show ((k : Int) + 1).toNat = k + 1 by omega] at hf ⊢
  refine bspD (fun hlt => ?_) (fun hge => out true (by rw [hf, List.drop_eq_nil_of_le (by omega)]; rfl))
  rw [fitsP_drop left zs k (by omega)] at hf
  refine ⟨⟨by omega, by omega⟩, by omega, bspD (fun a => out false (by rw [hf, decide_eq_false (by omega)]; rfl)) (fun a => bspD (fun b => out false (by rw [hf, decide_eq_false (p := _ ≤ left) (by omega), Bool.and_false]; rfl)) (fun b => ?_))⟩
  rw [decide_eq_true (by omega), decide_eq_true (p := _ ≤ left) (by omega), Bool.true_and, Bool.true_and] at hf
  exact ⟨by simp only [inK]; omega, by simp only [inK]; omega, ⟨(by first | trivial | rfl | (and_intros <;> rfl)), hf, by omega, by omega, by omega⟩, by omega⟩
def c_spec_l10Valid : Con where
  ins := [(true, .v tVar), (false, .v tSI)]
  outs := [(false, .v .b)]
  sh := false
  pre := fun x => varD x.1 = true
  out := fun x => (bearD x.1 x.2.1, ())
  upd := fun x => x
  eat := false
theorem k_spec_l10Valid [B : Base] : ConOk Try.prog 33 c_spec_l10Valid := by
  refine fn_okW (C := cx Try.prog 33 c_spec_l10Valid) (cs := [(17, c_spec_l01In)]) (res := Try.f33.results.toList) (fun x => ⟨[{ sh := ⟨[(1, .one (.ref 0)), (5, .one (.i .i64)), (6, .one (.i .i64))], [(0, .imm tI false)]⟩, nx := 1, I := fun _ dat_ => (x.2.1 = dat_.2.1) ∧ (fitsP x.1.2.1 x.2.1 = fitsP dat_.1.2.1 (List.drop (Int.toNat dat_.1.2.2.1) x.2.1) ∧ (0 ≤ dat_.1.2.1 ∧ dat_.1.2.1 ≤ 15) ∧ 0 ≤ dat_.1.2.2.1 ∧ dat_.1.2.2.1 ≤ (List.length x.2.1 : Int)), mu := fun dat_ => Int.toNat ((List.length x.2.1 : Int) - dat_.1.2.2.1) }], [], []⟩) Try.func33 (by kernel_rfl) rfl rfl rfl tysOk.look eqTsOk.look (AllCs.ok (l := [(17, c_spec_l01In)]) ⟨k_spec_l01In, trivial⟩) mixed rfl rfl rfl rfl ?_
  refine of_nf (P := ∀ v : Int × Int × Int × Int, ∀ zs : List Int, (varD v = true) → ((lensI c_spec_l10Valid.ins (v, zs, ())) → (bsp (decide ((zs.length : Int) ≠ v.2.2.1)) (@Eq (HO c_spec_l10Valid.outs) (false, ()) (c_spec_l10Valid.out (v, zs, ()))) (((zs = zs) ∧ (fitsP v.2.1 zs = fitsP v.2.1 (List.drop (Int.toNat (0 : Int)) zs) ∧ (0 ≤ v.2.1 ∧ v.2.1 ≤ 15) ∧ 0 ≤ (0 : Int) ∧ (0 : Int) ≤ (List.length zs : Int))) ∧ (∀ left : Int, ∀ i : Int, ∀ t1 : List Int, ((zs = t1) ∧ (fitsP v.2.1 zs = fitsP left (List.drop (Int.toNat i) zs) ∧ (0 ≤ left ∧ left ≤ 15) ∧ 0 ≤ i ∧ i ≤ (List.length zs : Int))) → (bsp (decide (i < (t1.length : Int))) ((0 ≤ i ∧ i < (t1.length : Int)) ∧ ((i.toNat < t1.length) ∧ (True ∧ (bsp (!(inB (t1.getD i.toNat 0) (0 : Int) left)) (@Eq (HO c_spec_l10Valid.outs) (false, ()) (c_spec_l10Valid.out (v, zs, ()))) ((0 ≤ i ∧ i < (t1.length : Int)) ∧ ((i.toNat < t1.length) ∧ ((inK .i64 (left - (t1.getD i.toNat 0))) ∧ ((inK .i64 (i + 1)) ∧ (((zs = t1) ∧ (fitsP v.2.1 zs = fitsP (left - (t1.getD i.toNat 0)) (List.drop (Int.toNat (i + 1)) zs) ∧ (0 ≤ (left - (t1.getD i.toNat 0)) ∧ (left - (t1.getD i.toNat 0)) ≤ 15) ∧ 0 ≤ (i + 1) ∧ (i + 1) ≤ (List.length zs : Int))) ∧ ((Int.toNat ((List.length zs : Int) - (i + 1)) : Nat) < Int.toNat ((List.length zs : Int) - i))))))))))) (@Eq (HO c_spec_l10Valid.outs) (true, ()) (c_spec_l10Valid.out (v, zs, ()))))))))) (by kernel_rfl) ?_
  rintro v zs hv hl
  have out : ∀ c, bearD v zs = c → @Eq (HO c_spec_l10Valid.outs) (c, ()) (c_spec_l10Valid.out (v, zs, ())) := fun c h => by subst h; rfl
  have hlen : zs.length ≤ 9223372036854775807 := hl.2.1.1
  obtain ⟨⟨g1, g1'⟩, ⟨g2, g2'⟩, ⟨g3, g3'⟩, g4⟩ := varD_iff.1 hv
  refine bspD (fun h => out false (by simp only [bearD, decide_eq_false h, Bool.false_and])) (fun h => ?_)
  have hH : (zs.length : Int) = v.2.2.1 := Decidable.not_not.1 h
  have hB : bearD v zs = fitsP v.2.1 zs := by simp only [bearD, decide_eq_true hH, Bool.true_and]
  rw [hB] at out
  refine ⟨⟨(by first | trivial | rfl | (and_intros <;> rfl)), by simp, by omega, by omega, by omega⟩, ?_⟩
  rintro left i t1 ⟨rfl, ⟨hf, ⟨l0, l1⟩, i0, i1⟩⟩
  obtain ⟨k, rfl⟩ : ∃ k : Nat, i = k := ⟨i.toNat, by omega⟩
  simp only [Int.toNat_natCast, show ((k : Int) + 1).toNat = k + 1 by omega] at hf ⊢
  refine bspD (fun hlt => ?_) (fun hge => out true (by rw [hf, List.drop_eq_nil_of_le (by omega)]; rfl))
  rw [fitsP_drop left zs k (by omega)] at hf
  refine ⟨⟨by omega, by omega⟩, by omega, trivial, bspB (fun a => ?_) (fun a => ?_)⟩
  · have ha : ¬ (0 ≤ zs.getD k 0 ∧ zs.getD k 0 ≤ left) := fun x => by simp only [inB, Bool.not_eq_true', Bool.and_eq_false_iff, decide_eq_false_iff_not] at a; omega
    refine out false ?_
    rw [hf]
    by_cases b : 0 ≤ zs.getD k 0
    · rw [decide_eq_false (p := _ ≤ left) (fun c => ha ⟨b, c⟩), Bool.and_false]; rfl
    · rw [decide_eq_false b]; rfl
  · have ha : 0 ≤ zs.getD k 0 ∧ zs.getD k 0 ≤ left := by simp only [inB, Bool.not_eq_false', Bool.and_eq_true, decide_eq_true_eq] at a; omega
    rw [decide_eq_true ha.1, decide_eq_true ha.2, Bool.true_and, Bool.true_and] at hf
    exact ⟨⟨by omega, by omega⟩, by omega, by simp only [inK]; omega, by simp only [inK]; omega, ⟨(by first | trivial | rfl | (and_intros <;> rfl)), hf, by omega, by omega, by omega⟩, by omega⟩
def c_impl_checkBearoff : Con where
  ins := [(true, .v tVar), (false, .v tSI)]
  outs := [(false, .v tI)]
  sh := false
  pre := fun _ => True
  out := fun x => (codeP x.1 x.2.1, ())
  upd := fun x => x
  eat := false
theorem k_impl_checkBearoff [B : Base] : ConOk Try.prog 26 c_impl_checkBearoff := by
  refine fn_okW (C := cx Try.prog 12 c_impl_checkBearoff) (cs := [(27, c_impl_IsVariant), (42, c_impl_isBearoff)]) (res := Try.f26.results.toList) (fun _ => ⟨[], [], []⟩) Try.func26 (by kernel_rfl) rfl rfl rfl tysOk.look eqTsOk.look (AllCs.ok (l := [(27, c_impl_IsVariant), (42, c_impl_isBearoff)]) ⟨k_impl_IsVariant, k_impl_isBearoff, trivial⟩) mixed rfl rfl rfl rfl ?_
  refine of_nf (P := ∀ v : Int × Int × Int × Int, ∀ zs : List Int, (True) → ((lensI c_impl_checkBearoff.ins (v, zs, ())) → (True ∧ (bsp (!(varD v)) (@Eq (HO c_impl_checkBearoff.outs) (1, ()) (c_impl_checkBearoff.out (v, zs, ()))) ((varD v = true) ∧ (bsp (!(bearD v zs)) (@Eq (HO c_impl_checkBearoff.outs) (2, ()) (c_impl_checkBearoff.out (v, zs, ()))) (@Eq (HO c_impl_checkBearoff.outs) (0, ()) (c_impl_checkBearoff.out (v, zs, ()))))))))) (by kernel_rfl) ?_
  rintro v zs hp hl
  refine ⟨trivial, bspB (fun h => by simp_all [c_impl_checkBearoff, codeP]) (fun h => ?_)⟩
  have hv : varD v = true := by simpa using h
  exact ⟨hv, bspB (fun g => by simp_all [c_impl_checkBearoff, codeP]) (fun g => by simp_all [c_impl_checkBearoff, codeP])⟩
def c_spec_l10Code : Con where
  ins := [(true, .v tVar), (false, .v tSI)]
  outs := [(false, .v tI)]
  sh := false
  pre := fun _ => True
  out := fun x => (codeP x.1 x.2.1, ())
  upd := fun x => x
  eat := false
theorem k_spec_l10Code [B : Base] : ConOk Try.prog 16 c_spec_l10Code := by
  refine fn_okW (C := cx Try.prog 12 c_spec_l10Code) (cs := [(32, c_spec_IsVariant), (33, c_spec_l10Valid)]) (res := Try.f16.results.toList) (fun _ => ⟨[], [], []⟩) Try.func16 (by kernel_rfl) rfl rfl rfl tysOk.look eqTsOk.look (AllCs.ok (l := [(32, c_spec_IsVariant), (33, c_spec_l10Valid)]) ⟨k_spec_IsVariant, k_spec_l10Valid, trivial⟩) mixed rfl rfl rfl rfl ?_
  refine of_nf (P := ∀ v : Int × Int × Int × Int, ∀ zs : List Int, (True) → ((lensI c_spec_l10Code.ins (v, zs, ())) → (True ∧ (bsp (!(varD v)) (@Eq (HO c_spec_l10Code.outs) (1, ()) (c_spec_l10Code.out (v, zs, ()))) ((varD v = true) ∧ (bsp (!(bearD v zs)) (@Eq (HO c_spec_l10Code.outs) (2, ()) (c_spec_l10Code.out (v, zs, ()))) (@Eq (HO c_spec_l10Code.outs) (0, ()) (c_spec_l10Code.out (v, zs, ()))))))))) (by kernel_rfl) ?_
  rintro v zs hp hl
  refine ⟨trivial, bspB (fun h => by simp_all [c_spec_l10Code, codeP]) (fun h => ?_)⟩
  have hv : varD v = true := by simpa using h
  exact ⟨hv, bspB (fun g => by simp_all [c_spec_l10Code, codeP]) (fun g => by simp_all [c_spec_l10Code, codeP])⟩
end Go.Proofs.Ytoobijimfccfgaa
