/-
  Contracts: BearoffNumber, BearoffAt.
-/
import Derived.Test.YtghfpidpefdndaaVBearN
namespace Go.Proofs.Ytghfpidpefdndaa
open Go.RowKit
set_option linter.unusedSimpArgs false
set_option linter.unusedVariables false
def numX (v : DVar) (zs : List Int) : Int × Int :=
  if codeP v zs ≠ 0 then (0, codeP v zs) else if countD v < 0 then (0, 3) else ((numE zs zs.length v.2.1.toNat : Int), 0)
theorem codeP_zero {v : DVar} {zs : List Int} (h : codeP v zs = 0) : varD v = true ∧ bearD v zs = true := by
  unfold codeP at h
  split at h
  · omega
  · split at h
    · omega
    · simp_all
theorem countD_ok {v : DVar} (hv : varD v = true) (h : ¬ countD v < 0) : chs v.2.1.toNat v.2.2.1.toNat ≤ 1000000 ∧ countD v = (chs v.2.1.toNat v.2.2.1.toNat : Int) := by
  unfold countD ways at *
  rw [if_pos hv] at h ⊢
  split at h
  · next k => rw [if_pos k]; exact ⟨k, rfl⟩
  · omega
def c_impl_BearoffNumber : Con where
  ins := [(true, .v tVar), (false, .v tSI)]
  outs := [(false, .v tI), (false, .v tI)]
  sh := false
  pre := fun _ => True
  out := fun x => ((numX x.1 x.2.1).1, (numX x.1 x.2.1).2, ())
  upd := fun x => x
theorem k_impl_BearoffNumber : ConOk Try.prog 70 c_impl_BearoffNumber := by
  refine fn_okW (C := cx Try.prog 19 c_impl_BearoffNumber) (cs := [(120, c_impl_checkBearoff), (75, c_impl_BearoffCount), (144, c_impl_bearoffNumber)]) (res := Try.f70.results.toList) (fun _ => ⟨[], [], []⟩) Try.func70 (by kernel_rfl) rfl rfl rfl tysOk.look eqTsOk.look (AllCs.ok (l := [(120, c_impl_checkBearoff), (75, c_impl_BearoffCount), (144, c_impl_bearoffNumber)]) ⟨k_impl_checkBearoff, k_impl_BearoffCount, k_impl_bearoffNumber, trivial⟩) mixed rfl rfl rfl ?_
  refine of_nf (P := ∀ v : Int × Int × Int × Int, ∀ zs : List Int, (True) → ((lensI c_impl_BearoffNumber.ins (v, zs, ())) → (True ∧ (bsp (decide ((codeP v zs) ≠ (0 : Int))) (@Eq (HO c_impl_BearoffNumber.outs) (0, codeP v zs, ()) (c_impl_BearoffNumber.out (v, zs, ()))) (True ∧ (bsp (decide ((countD v) < (0 : Int))) (@Eq (HO c_impl_BearoffNumber.outs) (0, 3, ()) (c_impl_BearoffNumber.out (v, zs, ()))) ((varD v = true ∧ bearD v zs = true) ∧ (@Eq (HO c_impl_BearoffNumber.outs) ((numE zs (List.length zs) (Int.toNat v.2.1) : Int), 0, ()) (c_impl_BearoffNumber.out (v, zs, ())))))))))) (by kernel_rfl) ?_
  rintro v zs hp hl
  have out : ∀ r : Int × Int, numX v zs = r → @Eq (HO c_impl_BearoffNumber.outs) (r.1, r.2, ()) (c_impl_BearoffNumber.out (v, zs, ())) := fun r h => by subst h; rfl
  have hN := numX.eq_1 v zs
  refine ⟨trivial, bspD (fun h => out (0, _) (hN.trans (if_pos h))) (fun h => ?_)⟩
  obtain ⟨hv, hb⟩ := codeP_zero (Decidable.not_not.1 h)
  rw [if_neg h] at hN
  refine ⟨trivial, bspD (fun k => out (0, 3) (hN.trans (if_pos k))) (fun k => ⟨⟨hv, hb⟩, out (_, 0) (hN.trans (if_neg k))⟩)⟩
def c_spec_BearoffNumber : Con where
  ins := [(true, .v tVar), (false, .v tSI)]
  outs := [(false, .v tI), (false, .v tI)]
  sh := false
  pre := fun _ => True
  out := fun x => ((numX x.1 x.2.1).1, (numX x.1 x.2.1).2, ())
  upd := fun x => x
theorem k_spec_BearoffNumber : ConOk Try.prog 71 c_spec_BearoffNumber := by
  refine fn_okW (C := cx Try.prog 19 c_spec_BearoffNumber) (cs := [(117, c_spec_l10Code), (145, c_spec_BearoffCount), (146, c_spec_l10Number)]) (res := Try.f71.results.toList) (fun _ => ⟨[], [], []⟩) Try.func71 (by kernel_rfl) rfl rfl rfl tysOk.look eqTsOk.look (AllCs.ok (l := [(117, c_spec_l10Code), (145, c_spec_BearoffCount), (146, c_spec_l10Number)]) ⟨k_spec_l10Code, k_spec_BearoffCount, k_spec_l10Number, trivial⟩) mixed rfl rfl rfl ?_
  refine of_nf (P := ∀ v : Int × Int × Int × Int, ∀ zs : List Int, (True) → ((lensI c_spec_BearoffNumber.ins (v, zs, ())) → (True ∧ (bsp (decide ((codeP v zs) ≠ (0 : Int))) (@Eq (HO c_spec_BearoffNumber.outs) (0, codeP v zs, ()) (c_spec_BearoffNumber.out (v, zs, ()))) (True ∧ (bsp (decide ((countD v) < (0 : Int))) (@Eq (HO c_spec_BearoffNumber.outs) (0, 3, ()) (c_spec_BearoffNumber.out (v, zs, ()))) (((varD v = true ∧ bearD v zs = true) ∧ chs (Int.toNat v.2.1) (Int.toNat v.2.2.1) ≤ 1000000) ∧ (@Eq (HO c_spec_BearoffNumber.outs) ((numE zs (List.length zs) (Int.toNat v.2.1) : Int), 0, ()) (c_spec_BearoffNumber.out (v, zs, ())))))))))) (by kernel_rfl) ?_
  rintro v zs hp hl
  have out : ∀ r : Int × Int, numX v zs = r → @Eq (HO c_spec_BearoffNumber.outs) (r.1, r.2, ()) (c_spec_BearoffNumber.out (v, zs, ())) := fun r h => by subst h; rfl
  have hN := numX.eq_1 v zs
  refine ⟨trivial, bspD (fun h => out (0, _) (hN.trans (if_pos h))) (fun h => ?_)⟩
  obtain ⟨hv, hb⟩ := codeP_zero (Decidable.not_not.1 h)
  rw [if_neg h] at hN
  refine ⟨trivial, bspD (fun k => out (0, 3) (hN.trans (if_pos k))) (fun k => ⟨⟨⟨hv, hb⟩, (countD_ok hv k).1⟩, out (_, 0) (hN.trans (if_neg k))⟩)⟩
def AtI (v : DVar) (n0 : Nat) (p : List Int) (num left i : Int) : Prop :=
  ∃ done : List Int, p = halfDone (i + 1).toNat done ∧ posAt (i + 1).toNat left.toNat num.toNat ++ done = posAt v.2.2.1.toNat v.2.1.toNat n0 ∧ (0 ≤ num ∧ num < (chs left.toNat (i + 1).toNat : Int)) ∧ (0 ≤ left ∧ left ≤ 15) ∧ -1 ≤ i ∧ i < v.2.2.1
def AtJ (v : DVar) (n0 : Nat) (p : List Int) (num left i : Int) : Prop :=
  ∃ (done : List Int) (l0 : Int), p = halfDone i.toNat ((l0 - left) :: done) ∧ posAt i.toNat (digL i.toNat left.toNat num.toNat).1 (digL i.toNat left.toNat num.toNat).2 ++ ((l0 - ((digL i.toNat left.toNat num.toNat).1 : Int)) :: done) = posAt v.2.2.1.toNat v.2.1.toNat n0 ∧ (0 ≤ num ∧ num < (chs left.toNat (i.toNat + 1) : Int)) ∧ (0 ≤ left ∧ left ≤ l0 ∧ l0 ≤ 15) ∧ 0 ≤ i ∧ i < v.2.2.1
def c_impl_bearoffAt : Con where
  ins := [(true, .v tVar), (false, .v tI)]
  outs := [(false, .own 2 tI)]
  sh := false
  pre := fun x => varD x.1 = true ∧ 0 ≤ x.2.1 ∧ x.2.1 < (chs (Int.toNat x.1.2.1) (Int.toNat x.1.2.2.1) : Int)
  out := fun x => (posAt (Int.toNat x.1.2.2.1) (Int.toNat x.1.2.1) (Int.toNat x.2.1), ())
  upd := fun x => x
theorem k_impl_bearoffAt : ConOk Try.prog 147 c_impl_bearoffAt := by
  refine fn_okW (C := cx Try.prog 39 c_impl_bearoffAt) (cs := [(150, c_impl_listsUpTo)]) (res := Try.f147.results.toList) (fun x => ⟨[{ sh := ⟨[(1, .one (.i .i64)), (5, .one (.ref 0)), (6, .one (.i .i64)), (7, .one (.i .i64))], [(0, .own 2 tI true)]⟩, nx := 1, I := fun _ dat_ => AtI x.1 (Int.toNat x.2.1) dat_.2.1 dat_.1.1 dat_.1.2.2.1 dat_.1.2.2.2.1, mu := fun dat_ => Int.toNat (dat_.1.2.2.2.1 + 1) }, { sh := ⟨[(1, .one (.i .i64)), (5, .one (.ref 0)), (6, .one (.i .i64)), (7, .one (.i .i64))], [(0, .own 2 tI true)]⟩, nx := 1, I := fun g_ dat_ => AtJ x.1 (Int.toNat x.2.1) dat_.2.1 dat_.1.1 dat_.1.2.2.1 dat_.1.2.2.2.1 ∧ (g_.headD 0) = Int.toNat (dat_.1.2.2.2.1 + 1), mu := fun dat_ => Int.toNat dat_.1.2.2.1 }], [], []⟩) Try.func147 (by kernel_rfl) rfl rfl rfl tysOk.look eqTsOk.look (AllCs.ok (l := [(150, c_impl_listsUpTo)]) ⟨k_impl_listsUpTo, trivial⟩) mixed rfl rfl rfl ?_
  refine of_nf (P := ∀ v : Int × Int × Int × Int, ∀ n : Int, (varD v = true ∧ 0 ≤ n ∧ n < (chs (Int.toNat v.2.1) (Int.toNat v.2.2.1) : Int)) → ((lensI c_impl_bearoffAt.ins (v, n, ())) → ((0 ≤ v.2.2.1 ∧ v.2.2.1 ≤ v.2.2.1 ∧ v.2.2.1 ≤ 1099511627776) ∧ ((inK .i64 (((List.replicate v.2.2.1.toNat (0 : Int)).length : Int) - 1)) ∧ ((AtI v (Int.toNat n) (List.replicate v.2.2.1.toNat (0 : Int)) n v.2.1 (((List.replicate v.2.2.1.toNat (0 : Int)).length : Int) - 1)) ∧ (∀ num : Int, ∀ left : Int, ∀ i : Int, ∀ p : List Int, (AtI v (Int.toNat n) p num left i) → (bsp (decide ((0 : Int) ≤ i)) ((AtJ v (Int.toNat n) p num left i ∧ (Int.toNat (i + 1)) = Int.toNat (i + 1)) ∧ (∀ num_1 : Int, ∀ left_1 : Int, ∀ i_1 : Int, ∀ p_1 : List Int, (AtJ v (Int.toNat n) p_1 num_1 left_1 i_1 ∧ (Int.toNat (i + 1)) = Int.toNat (i_1 + 1)) → (((0 ≤ i_1 ∧ i_1 ≤ 25) ∧ 0 ≤ left_1 ∧ left_1 ≤ 15) ∧ (bsp (decide ((chs (Int.toNat left_1) (Int.toNat i_1) : Int) ≤ num_1)) (((0 ≤ i_1 ∧ i_1 ≤ 25) ∧ 0 ≤ left_1 ∧ left_1 ≤ 15) ∧ ((inK .i64 (num_1 - (chs (Int.toNat left_1) (Int.toNat i_1) : Int))) ∧ ((inK .i64 (left_1 - 1)) ∧ ((0 ≤ i_1 ∧ i_1 < (p_1.length : Int)) ∧ ((i_1.toNat < p_1.length) ∧ ((inK .i64 ((p_1.getD i_1.toNat 0) + 1)) ∧ ((0 ≤ i_1 ∧ i_1 < (p_1.length : Int)) ∧ ((i_1.toNat < p_1.length) ∧ ((AtJ v (Int.toNat n) (p_1.set i_1.toNat ((p_1.getD i_1.toNat 0) + 1)) (num_1 - (chs (Int.toNat left_1) (Int.toNat i_1) : Int)) (left_1 - 1) i_1 ∧ (Int.toNat (i + 1)) = Int.toNat (i_1 + 1)) ∧ ((Int.toNat (left_1 - 1) : Nat) < Int.toNat left_1)))))))))) ((inK .i64 (i_1 - 1)) ∧ ((AtI v (Int.toNat n) p_1 num_1 left_1 (i_1 - 1)) ∧ ((Int.toNat ((i_1 - 1) + 1) : Nat) < Int.toNat (i + 1)))))))) (@Eq (HO c_impl_bearoffAt.outs) (p, ()) (c_impl_bearoffAt.out (v, n, ())))))))))) (by kernel_rfl) ?_
  rintro v n ⟨hv, q0, q1⟩ hl
  obtain ⟨⟨g1, g1'⟩, ⟨g2, g2'⟩, ⟨g3, g3'⟩, g4⟩ := varD_iff.1 hv
  have hn : ∀ i : Int, 0 ≤ i → (i + 1).toNat = i.toNat + 1 := fun i h => by omega
  rw [List.length_replicate]
  have e0 : ((v.2.2.1.toNat : Nat) : Int) - 1 + 1 = v.2.2.1 := by omega
  refine ⟨⟨by omega, by omega, by omega⟩, by simp only [inK]; omega, ⟨[], by rw [e0]; simp [halfDone], by rw [e0]; simp, ⟨q0, by rw [e0]; exact q1⟩, ⟨by omega, by omega⟩, by omega, by omega⟩, ?_⟩
  rintro num left i p ⟨done, hp, hpos, ⟨n0, n1⟩, ⟨l0, l1⟩, i0, i1⟩
  refine bspD (fun hi => ?_) (fun hi => ?_)
  · rw [hn i hi] at hp hpos n1
    refine ⟨⟨⟨done, left, ?_, ?_, ⟨n0, n1⟩, ⟨l0, by omega, l1⟩, hi, i1⟩, rfl⟩, ?_⟩
    · rw [hp, halfDone_succ, Int.sub_self]
    · rw [← hpos]
      simp only [posAt, List.append_assoc, List.singleton_append]
      rw [show ((left.toNat : Nat) : Int) = left by omega]
    rintro num_1 left_1 i_1 p_1 ⟨⟨dn, ll, jp, jpos, ⟨jn0, jn1⟩, ⟨jl0, jl1, jl2⟩, ji0, ji1⟩, hG⟩
    have hlen : p_1.length = i_1.toNat + (dn.length + 1) := by rw [jp, halfDone_length]; rfl
    have hget : p_1.getD i_1.toNat 0 = ll - left_1 := by rw [jp, List.getD_eq_getElem?_getD, halfDone_get]; rfl
    obtain ⟨N, rfl⟩ : ∃ N : Nat, num_1 = N := ⟨num_1.toNat, by omega⟩
    simp only [Int.toNat_natCast] at jpos
    refine ⟨⟨⟨ji0, by omega⟩, jl0, by omega⟩, bspD (fun hc => ?_) (fun hc => ?_)⟩
    · obtain ⟨s1, s2, s3⟩ := digL_step (i := i_1.toNat) (l := left_1.toNat) (n := N) (by omega) (by omega) (by omega) (by omega)
      rw [hget]
      have hcb := (chs_pos (m := left_1.toNat) (i := i_1.toNat) (by omega) (by omega)).2
      have hcb2 := (chs_pos (m := left_1.toNat) (i := i_1.toNat + 1) (by omega) (by omega)).2
      have el : (left_1 - 1).toNat = left_1.toNat - 1 := by omega
      have en : ((N : Int) - (chs left_1.toNat i_1.toNat : Int)).toNat = N - chs left_1.toNat i_1.toNat := by omega
      refine ⟨⟨⟨ji0, by omega⟩, jl0, by omega⟩, by simp only [inK]; omega, by simp only [inK]; omega, ⟨ji0, by omega⟩, by omega, by simp only [inK]; omega, ⟨ji0, by omega⟩, by omega, ⟨⟨dn, ll, ?_, ?_, ⟨by omega, ?_⟩, ⟨by omega, by omega, jl2⟩, ji0, ji1⟩, hG⟩, by omega⟩
      · rw [jp, halfDone_set]; congr 2; omega
      · rw [el, en, ← s2]; exact jpos
      · rw [el]; omega
    · have hs := digL_stop (i := i_1.toNat) (l := left_1.toNat) (n := N) (by omega)
      rw [hs] at jpos
      refine ⟨by simp only [inK]; omega, ⟨(ll - left_1) :: dn, ?_, ?_, ⟨jn0, ?_⟩, ⟨jl0, by omega⟩, by omega, by omega⟩, by omega⟩
      · rw [jp]; congr 1; omega
      · rw [← jpos, show (i_1 - 1 + 1).toNat = i_1.toNat by omega, Int.toNat_natCast]
        dsimp only
        rw [show ((left_1.toNat : Nat) : Int) = left_1 by omega]
      · rw [show (i_1 - 1 + 1).toNat = i_1.toNat by omega]; omega
  · rw [show (i + 1).toNat = 0 by omega] at hp hpos
    simp only [posAt, List.nil_append] at hpos
    simp only [c_impl_bearoffAt]
    rw [hp, ← hpos]; simp [halfDone]
def atX (v : DVar) (n : Int) : List Int × Int :=
  if varD v = false then ([], 1) else if countD v < 0 then ([], 3) else if inB n 0 (countD v - 1) = false then ([], 4) else (posAt v.2.2.1.toNat v.2.1.toNat n.toNat, 0)
def c_impl_BearoffAt : Con where
  ins := [(true, .v tVar), (false, .v tI)]
  outs := [(false, .v tSI), (false, .v tI)]
  sh := false
  pre := fun _ => True
  out := fun x => ((atX x.1 x.2.1).1, (atX x.1 x.2.1).2, ())
  upd := fun x => x
theorem k_impl_BearoffAt : ConOk Try.prog 72 c_impl_BearoffAt := by
  refine fn_okW (C := cx Try.prog 24 c_impl_BearoffAt) (cs := [(141, c_impl_IsVariant), (75, c_impl_BearoffCount), (114, c_impl_within), (147, c_impl_bearoffAt)]) (res := Try.f72.results.toList) (fun _ => ⟨[], [], []⟩) Try.func72 (by kernel_rfl) rfl rfl rfl tysOk.look eqTsOk.look (AllCs.ok (l := [(141, c_impl_IsVariant), (75, c_impl_BearoffCount), (114, c_impl_within), (147, c_impl_bearoffAt)]) ⟨k_impl_IsVariant, k_impl_BearoffCount, k_impl_within, k_impl_bearoffAt, trivial⟩) mixed rfl rfl rfl ?_
  refine of_nf (P := ∀ v : Int × Int × Int × Int, ∀ n : Int, (True) → ((lensI c_impl_BearoffAt.ins (v, n, ())) → (True ∧ (bsp (!(varD v)) (@Eq (HO c_impl_BearoffAt.outs) ([], 1, ()) (c_impl_BearoffAt.out (v, n, ()))) (True ∧ (bsp (decide ((countD v) < (0 : Int))) (@Eq (HO c_impl_BearoffAt.outs) ([], 3, ()) (c_impl_BearoffAt.out (v, n, ()))) (True ∧ ((inK .i64 ((countD v) - 1)) ∧ (True ∧ (bsp (!(inB n (0 : Int) ((countD v) - 1))) (@Eq (HO c_impl_BearoffAt.outs) ([], 4, ()) (c_impl_BearoffAt.out (v, n, ()))) ((varD v = true ∧ 0 ≤ n ∧ n < (chs (Int.toNat v.2.1) (Int.toNat v.2.2.1) : Int)) ∧ (@Eq (HO c_impl_BearoffAt.outs) (posAt (Int.toNat v.2.2.1) (Int.toNat v.2.1) (Int.toNat n), 0, ()) (c_impl_BearoffAt.out (v, n, ())))))))))))))) (by kernel_rfl) ?_
  rintro v n hp hl
  have out : ∀ r : List Int × Int, atX v n = r → @Eq (HO c_impl_BearoffAt.outs) (r.1, r.2, ()) (c_impl_BearoffAt.out (v, n, ())) := fun r h => by subst h; rfl
  have hD := atX.eq_1 v n
  refine ⟨trivial, bspB (fun h => out ([], 1) (hD.trans (if_pos (by simpa using h)))) (fun h => ?_)⟩
  have hv : varD v = true := by simpa using h
  rw [if_neg (by rw [hv]; decide)] at hD
  refine ⟨trivial, bspD (fun k => out ([], 3) (hD.trans (if_pos k))) (fun k => ?_)⟩
  rw [if_neg k] at hD
  obtain ⟨c1, c2⟩ := countD_ok hv k
  refine ⟨trivial, by simp only [inK]; omega, trivial, bspB (fun m => out ([], 4) (hD.trans (if_pos (by simpa using m)))) (fun m => ?_)⟩
  have hm : inB n 0 (countD v - 1) = true := by simpa using m
  rw [if_neg (by rw [hm]; decide)] at hD
  simp only [inB, Bool.and_eq_true, decide_eq_true_eq] at hm
  exact ⟨⟨hv, hm.1, by omega⟩, out (_, 0) hD⟩
end Go.Proofs.Ytghfpidpefdndaa
