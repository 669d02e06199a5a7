/-
  Contracts: the number of a bear-off position.
-/
import Derived.Test.YtoobijimfccfgaaVBear
namespace Go.Proofs.Ytoobijimfccfgaa
open Go.RowKit
set_option linter.unusedSimpArgs false
set_option linter.unusedVariables false
/-- the positions with l checkers on the first j points that come before -/
def numE (zs : List Int) : Nat → Nat → Nat
  | 0, _ => 0
  | j + 1, l => skipTo j l (zs.getD j 0).toNat + numE zs j (l - (zs.getD j 0).toNat)
theorem fitsP_sum {zs : List Int} : ∀ {left : Int}, fitsP left zs = true → (∀ j : Nat, 0 ≤ zs.getD j 0 ∧ (j < zs.length → zs.getD j 0 ≤ left)) ∧ (0 ≤ left → zs.sum ≤ left) := by
  induction zs with
  | nil => intro left h; exact ⟨fun j => by simp, fun h => by simpa using h⟩
  | cons z zs ih =>
    intro left h
    simp only [fitsP, Bool.and_eq_true, decide_eq_true_eq] at h
    obtain ⟨⟨h1, h2⟩, h3⟩ := h
    obtain ⟨i1, i2⟩ := ih h3
    refine ⟨fun j => ?_, fun h0 => ?_⟩
    · cases j with
      | zero => exact ⟨h1, fun _ => h2⟩
      | succ j =>
        have := i1 j
        simp only [List.getD_cons_succ, List.length_cons]
        exact ⟨this.1, fun hj => by have := this.2 (by omega); omega⟩
    · have := i2 (by omega)
      simp only [List.sum_cons]; omega
theorem sumTo_le_sum {zs : List Int} (h : ∀ j : Nat, 0 ≤ zs.getD j 0) : ∀ k : Nat, k ≤ zs.length → 0 ≤ sumTo zs k ∧ (∀ m : Nat, k ≤ m → m ≤ zs.length → sumTo zs k ≤ sumTo zs m)
  | 0, _ => ⟨by simp [sumTo_zero], fun m _ hm => by
      induction m with
      | zero => exact Int.le_refl _
      | succ m ih => rw [sumTo_succ (by omega)]; have := h m; have := ih (by omega) (by omega); omega⟩
  | k + 1, hk => by
    obtain ⟨i1, i2⟩ := sumTo_le_sum h k (by omega)
    have := h k
    refine ⟨by rw [sumTo_succ (by omega)]; omega, fun m h1 h2 => ?_⟩
    induction m with
    | zero => omega
    | succ m ih =>
      by_cases e : k + 1 = m + 1
      · rw [e]; exact Int.le_refl _
      · rw [sumTo_succ (zs := zs) (k := m) (by omega)]
        have := h m
        have := ih (by omega) (by omega)
        omega
/-- what numbers and bounds the walk needs -/
structure NumI (v : DVar) (zs : List Int) (n left i : Int) : Prop where
  num : 0 ≤ n ∧ n + numE zs (i + 1).toNat left.toNat = numE zs zs.length v.2.1.toNat
  left : sumTo zs (i + 1).toNat ≤ left ∧ left ≤ 15
  ix : -1 ≤ i ∧ i < (zs.length : Int)
structure NumJ (v : DVar) (zs : List Int) (n left i d : Int) : Prop where
  num : 0 ≤ n ∧ n + (skipTo i.toNat left.toNat (zs.getD i.toNat 0).toNat - skipTo i.toNat left.toNat d.toNat) + numE zs i.toNat (left.toNat - (zs.getD i.toNat 0).toNat) = numE zs zs.length v.2.1.toNat
  left : sumTo zs (i + 1).toNat ≤ left ∧ left ≤ 15
  ix : 0 ≤ i ∧ i < (zs.length : Int)
  d : 0 ≤ d ∧ d ≤ zs.getD i.toNat 0
theorem numE_bd {zs : List Int} (h : ∀ j : Nat, 0 ≤ zs.getD j 0) : ∀ (j l : Nat), j ≤ zs.length → j ≤ 24 → l ≤ 15 → sumTo zs j ≤ (l : Int) → numE zs j l < chs l j
  | 0, l, _, _, _, _ => by simp [numE, chs]
  | j + 1, l, h0, h1, h2, h3 => by
    have hz := h j
    rw [sumTo_succ (by omega)] at h3
    have hs := (sumTo_le_sum h j (by omega)).1
    have ih := numE_bd h j (l - (zs.getD j 0).toNat) (by omega) (by omega) (by omega) (by omega)
    have h4 := skipTo_pascal j l (by omega) h2 (zs.getD j 0).toNat (by omega)
    have h5 := chs_mono1 (m := l - (zs.getD j 0).toNat) (i := j) (by omega) (by omega)
    simp only [numE]
    omega
theorem skipTo_le {j l d e : Nat} (h : d ≤ e) : skipTo j l d ≤ skipTo j l e := by
  induction e with
  | zero => obtain rfl : d = 0 := by omega
            exact Nat.le_refl _
  | succ e ih =>
    rcases Nat.lt_or_ge d (e + 1) with h' | h'
    · have := ih (by omega)
      simp only [skipTo]; omega
    · obtain rfl : d = e + 1 := by omega
      exact Nat.le_refl _
def c_impl_bearoffNumber : Con where
  ins := [(true, .v tVar), (false, .v tSI)]
  outs := [(false, .v tI)]
  sh := false
  pre := fun x => varD x.1 = true ∧ bearD x.1 x.2.1 = true
  out := fun x => ((numE x.2.1 (List.length x.2.1) (Int.toNat x.1.2.1) : Int), ())
  upd := fun x => x
  eat := false
theorem k_impl_bearoffNumber [B : Base] : ConOk Try.prog 30 c_impl_bearoffNumber := by
  refine fn_okW (C := cx Try.prog 40 c_impl_bearoffNumber) (cs := [(44, c_impl_listsUpTo)]) (res := Try.f30.results.toList) (fun x => ⟨[{ sh := ⟨[(1, .one (.ref 0)), (5, .one (.i .i64)), (6, .one (.i .i64)), (7, .one (.i .i64))], [(0, .imm tI false)]⟩, nx := 1, I := fun _ dat_ => (x.2.1 = dat_.2.1) ∧ (NumI x.1 x.2.1 dat_.1.2.1 dat_.1.2.2.1 dat_.1.2.2.2.1), mu := fun dat_ => Int.toNat (dat_.1.2.2.2.1 + 1) }, { sh := ⟨[(1, .one (.ref 0)), (5, .one (.i .i64)), (6, .one (.i .i64)), (7, .one (.i .i64)), (21, .one (.i .i64)), (22, .one (.i .i64))], [(0, .imm tI false)]⟩, nx := 1, I := fun g_ dat_ => ((x.2.1.getD dat_.1.2.2.2.1.toNat 0) = dat_.1.2.2.2.2.1 ∧ x.2.1 = dat_.2.1) ∧ (dat_.1.2.2.2.2.1 = List.getD x.2.1 (Int.toNat dat_.1.2.2.2.1) 0 ∧ NumJ x.1 x.2.1 dat_.1.2.1 dat_.1.2.2.1 dat_.1.2.2.2.1 dat_.1.2.2.2.2.2.1 ∧ (g_.headD 0) = Int.toNat (dat_.1.2.2.2.1 + 1)), mu := fun dat_ => Int.toNat (dat_.1.2.2.2.2.1 - dat_.1.2.2.2.2.2.1) }], [], []⟩) Try.func30 (by kernel_rfl) rfl rfl rfl tysOk.look eqTsOk.look (AllCs.ok (l := [(44, c_impl_listsUpTo)]) ⟨k_impl_listsUpTo, trivial⟩) mixed rfl rfl rfl rfl ?_
  refine of_nf (P := ∀ v : Int × Int × Int × Int, ∀ zs : List Int, (varD v = true ∧ bearD v zs = true) → ((lensI c_impl_bearoffNumber.ins (v, zs, ())) → ((inK .i64 ((zs.length : Int) - 1)) ∧ (((zs = zs) ∧ (NumI v zs (0 : Int) v.2.1 ((zs.length : Int) - 1))) ∧ (∀ n : Int, ∀ left : Int, ∀ i : Int, ∀ t1 : List Int, ((zs = t1) ∧ (NumI v zs n left i)) → (bsp (decide ((0 : Int) ≤ i)) ((0 ≤ i ∧ i < (t1.length : Int)) ∧ ((i.toNat < t1.length) ∧ ((((zs.getD i.toNat 0) = (t1.getD i.toNat 0) ∧ zs = t1) ∧ ((t1.getD i.toNat 0) = List.getD zs (Int.toNat i) 0 ∧ NumJ v zs n left i (0 : Int) ∧ (Int.toNat (i + 1)) = Int.toNat (i + 1))) ∧ (∀ n_1 : Int, ∀ left_1 : Int, ∀ i_1 : Int, ∀ e : Int, ∀ d : Int, ∀ t1x1 : List Int, (((zs.getD i_1.toNat 0) = e ∧ zs = t1x1) ∧ (e = List.getD zs (Int.toNat i_1) 0 ∧ NumJ v zs n_1 left_1 i_1 d ∧ (Int.toNat (i + 1)) = Int.toNat (i_1 + 1))) → (bsp (decide (d < e)) ((inK .i64 (left_1 - d)) ∧ (((0 ≤ i_1 ∧ i_1 ≤ 25) ∧ 0 ≤ (left_1 - d) ∧ (left_1 - d) ≤ 15) ∧ ((inK .i64 (n_1 + (chs (Int.toNat (left_1 - d)) (Int.toNat i_1) : Int))) ∧ ((inK .i64 (d + 1)) ∧ ((((zs.getD i_1.toNat 0) = e ∧ zs = t1x1) ∧ (e = List.getD zs (Int.toNat i_1) 0 ∧ NumJ v zs (n_1 + (chs (Int.toNat (left_1 - d)) (Int.toNat i_1) : Int)) left_1 i_1 (d + 1) ∧ (Int.toNat (i + 1)) = Int.toNat (i_1 + 1))) ∧ ((Int.toNat (e - (d + 1)) : Nat) < Int.toNat (e - d))))))) ((0 ≤ i_1 ∧ i_1 < (t1x1.length : Int)) ∧ ((i_1.toNat < t1x1.length) ∧ ((inK .i64 (left_1 - (t1x1.getD i_1.toNat 0))) ∧ ((inK .i64 (i_1 - 1)) ∧ (((zs = t1x1) ∧ (NumI v zs n_1 (left_1 - (t1x1.getD i_1.toNat 0)) (i_1 - 1))) ∧ ((Int.toNat ((i_1 - 1) + 1) : Nat) < Int.toNat (i + 1)))))))))))) (@Eq (HO c_impl_bearoffNumber.outs) (n, ()) (c_impl_bearoffNumber.out (v, zs, ()))))))))) (by kernel_rfl) ?_
  rintro v zs ⟨hv, hb⟩ hl
  obtain ⟨⟨g1, g1'⟩, ⟨g2, g2'⟩, ⟨g3, g3'⟩, g4⟩ := varD_iff.1 hv
  have hb' := hb
  simp only [bearD, Bool.and_eq_true, decide_eq_true_eq] at hb'
  obtain ⟨hH, hf⟩ := hb'
  obtain ⟨hz', hsum'⟩ := fitsP_sum hf
  have hz : ∀ j : Nat, 0 ≤ zs.getD j 0 := fun j => (hz' j).1
  have hsum : sumTo zs zs.length ≤ v.2.1 := by rw [sumTo_all]; exact hsum' (by omega)
  have hT := numE_bd hz zs.length v.2.1.toNat (Nat.le_refl _) (by omega) (by omega) (by omega)
  have hTb := (chs_pos (m := v.2.1.toNat) (i := zs.length) (by omega) (by omega)).2
  have hn : ∀ i : Int, 0 ≤ i → (i + 1).toNat = i.toNat + 1 := fun i h => by omega
  refine ⟨by simp only [inK]; omega, ⟨(by first | trivial | rfl | (and_intros <;> rfl)), ⟨⟨by omega, ?_⟩, ⟨?_, by omega⟩, by omega, by omega⟩⟩, ?_⟩
  · rw [show ((zs.length : Int) - 1 + 1).toNat = zs.length by omega]; omega
  · rw [show ((zs.length : Int) - 1 + 1).toNat = zs.length by omega]; exact hsum
  rintro n left i t1 ⟨rfl, ⟨⟨n0, hnum⟩, ⟨hl0, hl1⟩, i0, i1⟩⟩
  refine bspD (fun hi => ?_) (fun hi => ?_)
  · rw [hn i hi] at hnum hl0
    have hzi := hz i.toNat
    have hss := sumTo_succ (zs := zs) (k := i.toNat) (by omega)
    have hs0 := (sumTo_le_sum hz i.toNat (by omega)).1
    refine ⟨⟨hi, i1⟩, by omega, ⟨(by first | trivial | rfl | (and_intros <;> rfl)), rfl, ⟨⟨n0, ?_⟩, ⟨by rw [hn i hi]; exact hl0, hl1⟩, ⟨hi, i1⟩, by omega, by omega⟩, rfl⟩, ?_⟩
    · simp only [numE] at hnum
      show n + ((skipTo i.toNat left.toNat (zs.getD i.toNat 0).toNat : Nat) - ((skipTo i.toNat left.toNat (Int.toNat 0) : Nat) : Int)) + _ = _
      have : skipTo i.toNat left.toNat (Int.toNat 0) = 0 := rfl
      rw [this]; omega
    rintro n_1 left_1 i_1 e d t1x1 ⟨⟨rfl, rfl⟩, ⟨-, ⟨⟨n0', hnum'⟩, ⟨hl0', hl1'⟩, ⟨i0', i1'⟩, d0, d1⟩, hG⟩⟩
    rw [hn i_1 i0'] at hl0'
    have hzi' := hz i_1.toNat
    have hss' := sumTo_succ (zs := zs) (k := i_1.toNat) (by omega)
    have hs0' := (sumTo_le_sum hz i_1.toNat (by omega)).1
    refine bspD (fun hd => ?_) (fun hd => ?_)
    · have hsk : skipTo i_1.toNat left_1.toNat (d + 1).toNat = skipTo i_1.toNat left_1.toNat d.toNat + chs (left_1 - d).toNat i_1.toNat := by
        rw [hn d d0, show (left_1 - d).toNat = left_1.toNat - d.toNat by omega]; rfl
      have hle := skipTo_le (j := i_1.toNat) (l := left_1.toNat) (d := (d + 1).toNat) (e := (zs.getD i_1.toNat 0).toNat) (by omega)
      refine ⟨by simp only [inK]; omega, ⟨⟨i0', by omega⟩, by omega, by omega⟩, by simp only [inK]; omega, by simp only [inK]; omega, ⟨(by first | trivial | rfl | (and_intros <;> rfl)), rfl, ⟨⟨by omega, ?_⟩, ⟨by rw [hn i_1 i0']; exact hl0', hl1'⟩, ⟨i0', i1'⟩, by omega, by omega⟩, hG⟩, by omega⟩
      rw [hsk]; omega
    · have hde : d = zs.getD i_1.toNat 0 := by omega
      refine ⟨⟨i0', i1'⟩, by omega, by simp only [inK]; omega, by simp only [inK]; omega, ⟨(by first | trivial | rfl | (and_intros <;> rfl)), ⟨n0', ?_⟩, ⟨?_, by omega⟩, by omega, by omega⟩, by omega⟩
      · rw [show (i_1 - 1 + 1).toNat = i_1.toNat by omega, show (left_1 - zs.getD i_1.toNat 0).toNat = left_1.toNat - (zs.getD i_1.toNat 0).toNat by omega]
        rw [hde] at hnum'; omega
      · rw [show (i_1 - 1 + 1).toNat = i_1.toNat by omega]; omega
  · rw [show (i + 1).toNat = 0 by omega] at hnum
    simp only [numE] at hnum
    simp only [c_impl_bearoffNumber]
    rw [← hnum]; simp
def c_spec_l10Number : Con where
  ins := [(true, .v tVar), (false, .v tSI)]
  outs := [(false, .v tI)]
  sh := false
  pre := fun x => (varD x.1 = true ∧ bearD x.1 x.2.1 = true) ∧ chs (Int.toNat x.1.2.1) (Int.toNat x.1.2.2.1) ≤ 1000000
  out := fun x => ((numE x.2.1 (List.length x.2.1) (Int.toNat x.1.2.1) : Int), ())
  upd := fun x => x
  eat := false
theorem k_spec_l10Number [B : Base] : ConOk Try.prog 19 c_spec_l10Number := by
  refine fn_okW (C := cx Try.prog 40 c_spec_l10Number) (cs := [(25, c_spec_l10Ways)]) (res := Try.f19.results.toList) (fun x => ⟨[{ sh := ⟨[(1, .one (.ref 0)), (5, .one (.i .i64)), (6, .one (.i .i64)), (7, .one (.i .i64))], [(0, .imm tI false)]⟩, nx := 1, I := fun _ dat_ => (x.2.1 = dat_.2.1) ∧ (NumI x.1 x.2.1 dat_.1.2.1 dat_.1.2.2.1 dat_.1.2.2.2.1), mu := fun dat_ => Int.toNat (dat_.1.2.2.2.1 + 1) }, { sh := ⟨[(1, .one (.ref 0)), (5, .one (.i .i64)), (6, .one (.i .i64)), (7, .one (.i .i64)), (8, .one (.i .i64))], [(0, .imm tI false)]⟩, nx := 1, I := fun g_ dat_ => (x.2.1 = dat_.2.1) ∧ (NumJ x.1 x.2.1 dat_.1.2.1 dat_.1.2.2.1 dat_.1.2.2.2.1 dat_.1.2.2.2.2.1 ∧ (g_.headD 0) = Int.toNat (dat_.1.2.2.2.1 + 1)), mu := fun dat_ => Int.toNat (List.getD x.2.1 (Int.toNat dat_.1.2.2.2.1) 0 - dat_.1.2.2.2.2.1) }], [], []⟩) Try.func19 (by kernel_rfl) rfl rfl rfl tysOk.look eqTsOk.look (AllCs.ok (l := [(25, c_spec_l10Ways)]) ⟨k_spec_l10Ways, trivial⟩) mixed rfl rfl rfl rfl ?_
  refine of_nf (P := ∀ v : Int × Int × Int × Int, ∀ zs : List Int, ((varD v = true ∧ bearD v zs = true) ∧ chs (Int.toNat v.2.1) (Int.toNat v.2.2.1) ≤ 1000000) → ((lensI c_spec_l10Number.ins (v, zs, ())) → ((inK .i64 ((zs.length : Int) - 1)) ∧ (((zs = zs) ∧ (NumI v zs (0 : Int) v.2.1 ((zs.length : Int) - 1))) ∧ (∀ n : Int, ∀ left : Int, ∀ i : Int, ∀ t1 : List Int, ((zs = t1) ∧ (NumI v zs n left i)) → (bsp (decide ((0 : Int) ≤ i)) (((zs = t1) ∧ (NumJ v zs n left i (0 : Int) ∧ (Int.toNat (i + 1)) = Int.toNat (i + 1))) ∧ (∀ n_1 : Int, ∀ left_1 : Int, ∀ i_1 : Int, ∀ d : Int, ∀ t1x1 : List Int, ((zs = t1x1) ∧ (NumJ v zs n_1 left_1 i_1 d ∧ (Int.toNat (i + 1)) = Int.toNat (i_1 + 1))) → ((0 ≤ i_1 ∧ i_1 < (t1x1.length : Int)) ∧ ((i_1.toNat < t1x1.length) ∧ (bsp (decide (d < (t1x1.getD i_1.toNat 0))) ((inK .i64 (left_1 - d)) ∧ (((0 ≤ i_1 ∧ i_1 ≤ 25) ∧ 0 ≤ (left_1 - d) ∧ (left_1 - d) ≤ 15) ∧ ((inK .i64 (n_1 + (ways (Int.toNat (left_1 - d)) (Int.toNat i_1)))) ∧ ((inK .i64 (d + 1)) ∧ (((zs = t1x1) ∧ (NumJ v zs (n_1 + (ways (Int.toNat (left_1 - d)) (Int.toNat i_1))) left_1 i_1 (d + 1) ∧ (Int.toNat (i + 1)) = Int.toNat (i_1 + 1))) ∧ ((Int.toNat (List.getD zs (Int.toNat i_1) 0 - (d + 1)) : Nat) < Int.toNat (List.getD zs (Int.toNat i_1) 0 - d))))))) ((0 ≤ i_1 ∧ i_1 < (t1x1.length : Int)) ∧ ((i_1.toNat < t1x1.length) ∧ ((inK .i64 (left_1 - (t1x1.getD i_1.toNat 0))) ∧ ((inK .i64 (i_1 - 1)) ∧ (((zs = t1x1) ∧ (NumI v zs n_1 (left_1 - (t1x1.getD i_1.toNat 0)) (i_1 - 1))) ∧ ((Int.toNat ((i_1 - 1) + 1) : Nat) < Int.toNat (i + 1)))))))))))) (@Eq (HO c_spec_l10Number.outs) (n, ()) (c_spec_l10Number.out (v, zs, ()))))))))) (by kernel_rfl) ?_
  rintro v zs ⟨⟨hv, hb⟩, hC⟩ hl
  obtain ⟨⟨g1, g1'⟩, ⟨g2, g2'⟩, ⟨g3, g3'⟩, g4⟩ := varD_iff.1 hv
  have hb' := hb
  simp only [bearD, Bool.and_eq_true, decide_eq_true_eq] at hb'
  obtain ⟨hH, hf⟩ := hb'
  obtain ⟨hz', hsum'⟩ := fitsP_sum hf
  have hz : ∀ j : Nat, 0 ≤ zs.getD j 0 := fun j => (hz' j).1
  have hsum : sumTo zs zs.length ≤ v.2.1 := by rw [sumTo_all]; exact hsum' (by omega)
  have hT := numE_bd hz zs.length v.2.1.toNat (Nat.le_refl _) (by omega) (by omega) (by omega)
  have hTb := (chs_pos (m := v.2.1.toNat) (i := zs.length) (by omega) (by omega)).2
  have hH' : v.2.2.1.toNat = zs.length := by omega
  rw [hH'] at hC
  have hn : ∀ i : Int, 0 ≤ i → (i + 1).toNat = i.toNat + 1 := fun i h => by omega
  refine ⟨by simp only [inK]; omega, ⟨(by first | trivial | rfl | (and_intros <;> rfl)), ⟨⟨by omega, ?_⟩, ⟨?_, by omega⟩, by omega, by omega⟩⟩, ?_⟩
  · rw [show ((zs.length : Int) - 1 + 1).toNat = zs.length by omega]; omega
  · rw [show ((zs.length : Int) - 1 + 1).toNat = zs.length by omega]; exact hsum
  rintro n left i t1 ⟨rfl, ⟨⟨n0, hnum⟩, ⟨hl0, hl1⟩, i0, i1⟩⟩
  refine bspD (fun hi => ?_) (fun hi => ?_)
  · rw [hn i hi] at hnum hl0
    have hzi := hz i.toNat
    have hss := sumTo_succ (zs := zs) (k := i.toNat) (by omega)
    have hs0 := (sumTo_le_sum hz i.toNat (by omega)).1
    refine ⟨⟨(by first | trivial | rfl | (and_intros <;> rfl)), ⟨⟨n0, ?_⟩, ⟨by rw [hn i hi]; exact hl0, hl1⟩, ⟨hi, i1⟩, by omega, by omega⟩, rfl⟩, ?_⟩
    · simp only [numE] at hnum
      show n + ((skipTo i.toNat left.toNat (zs.getD i.toNat 0).toNat : Nat) - ((skipTo i.toNat left.toNat (Int.toNat 0) : Nat) : Int)) + _ = _
      have : skipTo i.toNat left.toNat (Int.toNat 0) = 0 := rfl
      rw [this]; omega
    rintro n_1 left_1 i_1 d t1x1 ⟨rfl, ⟨⟨⟨n0', hnum'⟩, ⟨hl0', hl1'⟩, ⟨i0', i1'⟩, d0, d1⟩, hG⟩⟩
    rw [hn i_1 i0'] at hl0'
    have hzi' := hz i_1.toNat
    have hss' := sumTo_succ (zs := zs) (k := i_1.toNat) (by omega)
    have hs0' := (sumTo_le_sum hz i_1.toNat (by omega)).1
    refine ⟨⟨i0', i1'⟩, by omega, bspD (fun hd => ?_) (fun hd => ?_)⟩
    · have hsk : skipTo i_1.toNat left_1.toNat (d + 1).toNat = skipTo i_1.toNat left_1.toNat d.toNat + chs (left_1 - d).toNat i_1.toNat := by
        rw [hn d d0, show (left_1 - d).toNat = left_1.toNat - d.toNat by omega]; rfl
      have hle := skipTo_le (j := i_1.toNat) (l := left_1.toNat) (d := (d + 1).toNat) (e := (zs.getD i_1.toNat 0).toNat) (by omega)
      have hw1 := chs_left (m := (left_1 - d).toNat) (n := 15) (i := i_1.toNat) (by omega) (by omega) (by omega)
      have hw : ways (left_1 - d).toNat i_1.toNat = (chs (left_1 - d).toNat i_1.toNat : Int) := by
        unfold ways; rw [if_pos (by omega)]
      rw [hw]
      refine ⟨by simp only [inK]; omega, ⟨⟨i0', by omega⟩, by omega, by omega⟩, by simp only [inK]; omega, by simp only [inK]; omega, ⟨(by first | trivial | rfl | (and_intros <;> rfl)), ⟨⟨by omega, ?_⟩, ⟨by rw [hn i_1 i0']; exact hl0', hl1'⟩, ⟨i0', i1'⟩, by omega, by omega⟩, hG⟩, by omega⟩
      rw [hsk]; omega
    · have hde : d = zs.getD i_1.toNat 0 := by omega
      refine ⟨⟨i0', i1'⟩, by omega, by simp only [inK]; omega, by simp only [inK]; omega, ⟨(by first | trivial | rfl | (and_intros <;> rfl)), ⟨n0', ?_⟩, ⟨?_, by omega⟩, by omega, by omega⟩, by omega⟩
      · rw [show (i_1 - 1 + 1).toNat = i_1.toNat by omega, show (left_1 - zs.getD i_1.toNat 0).toNat = left_1.toNat - (zs.getD i_1.toNat 0).toNat by omega]
        rw [hde] at hnum'; omega
      · rw [show (i_1 - 1 + 1).toNat = i_1.toNat by omega]; omega
  · rw [show (i + 1).toNat = 0 by omega] at hnum
    simp only [numE] at hnum
    simp only [c_spec_l10Number]
    rw [← hnum]; simp
end Go.Proofs.Ytoobijimfccfgaa
