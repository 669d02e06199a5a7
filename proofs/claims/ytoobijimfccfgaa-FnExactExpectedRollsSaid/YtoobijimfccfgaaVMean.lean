/-
  Contracts: the mean of exact numbers; the law of MeanExact.
-/
import Derived.Test.YtoobijimfccfgaaVMG
import Derived.Test.YtoobijimfccfgaaVRolls
import Derived.Test.YtoobijimfccfgaaAbL
namespace Go.Proofs.Ytoobijimfccfgaa
open Go.RowKit
set_option linter.unusedSimpArgs false
set_option linter.unusedVariables false
theorem drop_consX {α : Type} {l : List α} {k : Nat} (h : k < l.length) (d : α) : l.drop k = l.getD k d :: l.drop (k + 1) := by
  rw [List.drop_eq_getElem_cons h, List.getD_eq_getElem?_getD, List.getElem?_eq_getElem h]; rfl
def sumD (v : DVar) : List DRoll → List DExact → DExact → DExact × Bool
  | r :: rs, x :: xs, s => if (mkD v (x.1 * wtD r) x.2.toNat).2 = true then (if (addDI v s (mkD v (x.1 * wtD r) x.2.toNat).1).2 = true then sumD v rs xs (addDI v s (mkD v (x.1 * wtD r) x.2.toNat).1).1 else ((0, 0), false)) else ((0, 0), false)
  | _, _, s => (s, true)
def sumA (v : DVar) (l : List DExact) : DExact × Bool := sumD v (rollsTo v.2.2.2.toNat) l (0, 0)
def meanE (v : DVar) (l : List DExact) : DExact × Bool := if (sumA v l).2 = true then mkD v (sumA v l).1.1 ((sumA v l).1.2.toNat + 1) else ((0, 0), false)
def meanX (v : DVar) (l : List DExact) : DExact × Int :=
  if codeX v l ≠ 0 then ((0, 0), codeX v l) else if (l.length : Int) ≠ kindsD v then ((0, 0), 2) else if (meanE v l).2 = true then ((meanE v l).1, 0) else ((0, 0), 3)
theorem sumD_step {v : DVar} {rs : List DRoll} {xs : List DExact} {k : Nat} (h1 : k < rs.length) (h2 : k < xs.length) (s : DExact) :
    sumD v (rs.drop k) (xs.drop k) s = if (mkD v ((xs.getD k (0, 0)).1 * wtD (rs.getD k (0, 0))) (xs.getD k (0, 0)).2.toNat).2 = true then (if (addDI v s (mkD v ((xs.getD k (0, 0)).1 * wtD (rs.getD k (0, 0))) (xs.getD k (0, 0)).2.toNat).1).2 = true then sumD v (rs.drop (k + 1)) (xs.drop (k + 1)) (addDI v s (mkD v ((xs.getD k (0, 0)).1 * wtD (rs.getD k (0, 0))) (xs.getD k (0, 0)).2.toNat).1).1 else ((0, 0), false)) else ((0, 0), false) := by
  rw [drop_consX h1 (0, 0), drop_consX h2 (0, 0), sumD]
theorem add2D_ok {v : DVar} {a c : Int} {d e : Nat} (h : (add2D v a c d e).2 = true) : exD v (add2D v a c d e).1 = true := by
  unfold add2D at h ⊢
  split at h
  · next g => rw [if_pos g]; exact mkD_ok h
  · cases h
theorem addDI_ok {v : DVar} {x y : DExact} (h : (addDI v x y).2 = true) : exD v (addDI v x y).1 = true := by
  unfold addDI at h ⊢
  split at h
  · next g => rw [if_pos g]; exact add2D_ok h
  · next g => rw [if_neg g]; exact add2D_ok h
theorem exD_zero (v : DVar) : exD v (0, 0) = true := by simp [exD, inB]
theorem mean_ref {v : DVar} {s : DExact} (hv : varD v = true) (h : exD v s = true) :
    (Int.tmod s.1 (bsD v) = 0 → mkD v s.1 (s.2.toNat + 1) = ((Int.tdiv s.1 (bsD v), 0), true)) ∧
    (Int.tmod s.1 (bsD v) ≠ 0 → mkD v s.1 (s.2.toNat + 1) = if exD v (s.1, s.2 + 1) = true then ((s.1, s.2 + 1), true) else ((0, 0), false)) := by
  obtain ⟨-, b1, b2, -⟩ := bsD_facts hv
  obtain ⟨⟨⟨x1, x1'⟩, x2, x2'⟩, -, -, x5⟩ := exD_in hv h
  refine ⟨fun h0 => ?_, fun h0 => ?_⟩
  · have e : s.2.toNat = 0 := by rcases x5 with h | h; omega; exact absurd h0 h
    unfold mkD
    rw [strip_step h0, e]
    have ha := tdiv_abs (n := s.1) b1
    have hx : exD v (Int.tdiv s.1 (bsD v), 0) = true := by
      generalize Int.tdiv s.1 (bsD v) = Z at *
      simp [exD, inB]; omega
    show (if exD v (Int.tdiv s.1 (bsD v), 0) = true then ((Int.tdiv s.1 (bsD v), 0), true) else ((0, 0), false)) = _
    rw [if_pos hx]
  · unfold mkD
    rw [strip_stop h0]
    have e : ((s.2.toNat + 1 : Nat) : Int) = s.2 + 1 := by omega
    simp only [e]
theorem mean_end {v : DVar} {l : List DExact} {s : DExact} {k : Nat} (hk : (rollsTo v.2.2.2.toNat).length ≤ k) (h : sumD v ((rollsTo v.2.2.2.toNat).drop k) (l.drop k) s = sumA v l) : meanE v l = mkD v s.1 (s.2.toNat + 1) := by
  rw [List.drop_eq_nil_of_le hk] at h
  unfold meanE
  rw [← h]; simp [sumD]
theorem mean_no {v : DVar} {l : List DExact} (h : ((0, 0), false) = sumA v l) : meanE v l = ((0, 0), false) := by
  unfold meanE; rw [← h]; simp
def c_impl_meanExact : Con where
  ins := [(true, .v tVar), (false, .v (.sl tRoll))]
  outs := [(true, .v tRoll), (false, .v .b)]
  sh := false
  pre := fun x => (varD x.1 = true ∧ allX x.1 x.2.1 = true) ∧ (List.length x.2.1 : Int) = kindsD x.1
  out := fun x => ((meanE x.1 x.2.1).1, (meanE x.1 x.2.1).2, ())
  upd := fun x => x
  eat := false
theorem k_impl_meanExact [B : Base] : ConOk Try.prog 47 c_impl_meanExact := by
  refine fn_okW (C := cx Try.prog 57 c_impl_meanExact) (cs := [(45, c_impl_AllRolls), (61, c_impl_RollWeight), (60, c_impl_scaleExact), (48, c_impl_addExact), (62, c_impl_makeExact)]) (res := Try.f47.results.toList) (fun x => ⟨[{ sh := ⟨[(1, .one (.ref 0)), (2, .one (.ref 1)), (4, .one (.ref 2)), (6, .one (.ref 3)), (14, .one (.ref 4)), (15, .one (.i .i64)), (16, .one (.i .i64))], [(0, .imm tRoll false), (1, .box [.i .i64, .i .i64, .i .i64, .i .i64]), (2, .box [.i .i64, .i .i64]), (3, .box [.i .i64, .i .i64]), (4, .imm tRoll true)]⟩, nx := 5, I := fun _ dat_ => (((if varD x.1 then rollsTo (Int.toNat x.1.2.2.2) else []).length : Int) = dat_.1.2.2.2.2.2.1 ∧ x.2.1 = dat_.2.1 ∧ x.1.1 = dat_.2.2.1.1 ∧ x.1.2.1 = dat_.2.2.1.2.1 ∧ x.1.2.2.1 = dat_.2.2.1.2.2.1 ∧ x.1.2.2.2 = dat_.2.2.1.2.2.2.1 ∧ (0 : Int) = dat_.2.2.2.1.1 ∧ (0 : Int) = dat_.2.2.2.1.2.1 ∧ (if varD x.1 then rollsTo (Int.toNat x.1.2.2.2) else []) = dat_.2.2.2.2.2.1) ∧ ((sumD x.1 (List.drop (Int.toNat dat_.1.2.2.2.2.2.2.1) (rollsTo (Int.toNat x.1.2.2.2))) (List.drop (Int.toNat dat_.1.2.2.2.2.2.2.1) x.2.1) (dat_.2.2.2.2.1.1, dat_.2.2.2.2.1.2.1) = sumA x.1 x.2.1 ∧ exD x.1 (dat_.2.2.2.2.1.1, dat_.2.2.2.2.1.2.1) = true) ∧ 0 ≤ dat_.1.2.2.2.2.2.2.1 ∧ dat_.1.2.2.2.2.2.2.1 ≤ (List.length (rollsTo (Int.toNat x.1.2.2.2)) : Int)), mu := fun dat_ => Int.toNat ((List.length (rollsTo (Int.toNat x.1.2.2.2)) : Int) - dat_.1.2.2.2.2.2.2.1) }], [(5, ⟨[[], [], [], [1, 2], [1, 2, 3], [], [], [5, 6], [0, 1, 2, 3, 4, 5, 6, 7], [0, 1, 2, 3, 4, 5, 6, 7, 8], [0, 1, 2, 3, 4, 5, 6, 7, 8, 9], [0, 1, 2, 3, 4, 5, 6, 7, 8, 9], [], [0, 1, 2, 3, 4, 5, 6, 7, 8, 9, 10, 12], [0, 1, 2, 3, 4, 5, 6, 7, 8, 9, 10, 11, 12, 13]], [[1, 2, 3, 4, 5, 6, 7, 12], [0, 2, 5, 6, 7, 12], [0, 1, 5, 6, 7, 12], [0, 5, 6, 7, 12], [0, 5, 6, 7, 12], [0, 1, 2, 3, 4, 6, 12], [0, 1, 2, 3, 4, 5, 12], [0, 1, 2, 3, 4, 12], [12], [12], [11, 12], [10, 12, 13], [0, 1, 2, 3, 4, 5, 6, 7, 8, 9, 10, 11], [11], []], []⟩)], []⟩) Try.func47 (by kernel_rfl) rfl rfl rfl tysOk.look eqTsOk.look (AllCs.ok (l := [(45, c_impl_AllRolls), (61, c_impl_RollWeight), (60, c_impl_scaleExact), (48, c_impl_addExact), (62, c_impl_makeExact)]) ⟨k_impl_AllRolls, k_impl_RollWeight, k_impl_scaleExact, k_impl_addExact, k_impl_makeExact, trivial⟩) mixed rfl rfl rfl rfl ?_
  refine of_nf (P := ∀ v : Int × Int × Int × Int, ∀ l : List (Int × Int), ((varD v = true ∧ allX v l = true) ∧ (List.length l : Int) = kindsD v) → ((lensI c_impl_meanExact.ins (v, l, ())) → (True ∧ (((((if varD v then rollsTo (Int.toNat v.2.2.2) else []).length : Int) = ((if varD v then rollsTo (Int.toNat v.2.2.2) else []).length : Int) ∧ l = l ∧ v.1 = v.1 ∧ v.2.1 = v.2.1 ∧ v.2.2.1 = v.2.2.1 ∧ v.2.2.2 = v.2.2.2 ∧ (0 : Int) = 0 ∧ (0 : Int) = 0 ∧ (if varD v then rollsTo (Int.toNat v.2.2.2) else []) = (if varD v then rollsTo (Int.toNat v.2.2.2) else [])) ∧ ((sumD v (List.drop (Int.toNat (0 : Int)) (rollsTo (Int.toNat v.2.2.2))) (List.drop (Int.toNat (0 : Int)) l) ((0 : Int), (0 : Int)) = sumA v l ∧ exD v ((0 : Int), (0 : Int)) = true) ∧ 0 ≤ (0 : Int) ∧ (0 : Int) ≤ (List.length (rollsTo (Int.toNat v.2.2.2)) : Int))) ∧ (∀ t15 : Int, ∀ i : Int, ∀ t1 : List (Int × Int), ∀ t2_0 : Int, ∀ t2_1 : Int, ∀ t2_2 : Int, ∀ t2_3 : Int, ∀ t4_0 : Int, ∀ t4_1 : Int, ∀ s_0 : Int, ∀ s_1 : Int, ∀ t14 : List (Int × Int), ((((if varD v then rollsTo (Int.toNat v.2.2.2) else []).length : Int) = t15 ∧ l = t1 ∧ v.1 = t2_0 ∧ v.2.1 = t2_1 ∧ v.2.2.1 = t2_2 ∧ v.2.2.2 = t2_3 ∧ (0 : Int) = t4_0 ∧ (0 : Int) = t4_1 ∧ (if varD v then rollsTo (Int.toNat v.2.2.2) else []) = t14) ∧ ((sumD v (List.drop (Int.toNat i) (rollsTo (Int.toNat v.2.2.2))) (List.drop (Int.toNat i) l) (s_0, s_1) = sumA v l ∧ exD v (s_0, s_1) = true) ∧ 0 ≤ i ∧ i ≤ (List.length (rollsTo (Int.toNat v.2.2.2)) : Int))) → (bsp (decide (i < t15)) ((0 ≤ i ∧ i < (t14.length : Int)) ∧ ((i.toNat < t14.length) ∧ ((0 ≤ i ∧ i < (t1.length : Int)) ∧ ((i.toNat < t1.length) ∧ (True ∧ (((varD (t2_0, t2_1, t2_2, t2_3) = true ∧ exD (t2_0, t2_1, t2_2, t2_3) (t1.getD i.toNat (0, 0)) = true) ∧ -1000 ≤ (weightD (t2_0, t2_1, t2_2, t2_3) (t14.getD i.toNat (0, 0))) ∧ (weightD (t2_0, t2_1, t2_2, t2_3) (t14.getD i.toNat (0, 0))) ≤ 1000) ∧ (bsp (!(mkD (t2_0, t2_1, t2_2, t2_3) ((t1.getD i.toNat (0, 0)).1 * (weightD (t2_0, t2_1, t2_2, t2_3) (t14.getD i.toNat (0, 0)))) (Int.toNat (t1.getD i.toNat (0, 0)).2)).2) (@Eq (HO c_impl_meanExact.outs) ((0, 0), false, ()) (c_impl_meanExact.out (v, l, ()))) ((varD (t2_0, t2_1, t2_2, t2_3) = true ∧ exIn (s_0, s_1) ∧ exIn (mkD (t2_0, t2_1, t2_2, t2_3) ((t1.getD i.toNat (0, 0)).1 * (weightD (t2_0, t2_1, t2_2, t2_3) (t14.getD i.toNat (0, 0)))) (Int.toNat (t1.getD i.toNat (0, 0)).2)).1) ∧ (bsp (!(addDI (t2_0, t2_1, t2_2, t2_3) (s_0, s_1) (mkD (t2_0, t2_1, t2_2, t2_3) ((t1.getD i.toNat (0, 0)).1 * (weightD (t2_0, t2_1, t2_2, t2_3) (t14.getD i.toNat (0, 0)))) (Int.toNat (t1.getD i.toNat (0, 0)).2)).1).2) (@Eq (HO c_impl_meanExact.outs) ((0, 0), false, ()) (c_impl_meanExact.out (v, l, ()))) ((inK .i64 (i + 1)) ∧ (((((if varD v then rollsTo (Int.toNat v.2.2.2) else []).length : Int) = t15 ∧ l = t1 ∧ v.1 = t2_0 ∧ v.2.1 = t2_1 ∧ v.2.2.1 = t2_2 ∧ v.2.2.2 = t2_3 ∧ (0 : Int) = t4_0 ∧ (0 : Int) = t4_1 ∧ (if varD v then rollsTo (Int.toNat v.2.2.2) else []) = t14) ∧ ((sumD v (List.drop (Int.toNat (i + 1)) (rollsTo (Int.toNat v.2.2.2))) (List.drop (Int.toNat (i + 1)) l) ((addDI (t2_0, t2_1, t2_2, t2_3) (s_0, s_1) (mkD (t2_0, t2_1, t2_2, t2_3) ((t1.getD i.toNat (0, 0)).1 * (weightD (t2_0, t2_1, t2_2, t2_3) (t14.getD i.toNat (0, 0)))) (Int.toNat (t1.getD i.toNat (0, 0)).2)).1).1.1, (addDI (t2_0, t2_1, t2_2, t2_3) (s_0, s_1) (mkD (t2_0, t2_1, t2_2, t2_3) ((t1.getD i.toNat (0, 0)).1 * (weightD (t2_0, t2_1, t2_2, t2_3) (t14.getD i.toNat (0, 0)))) (Int.toNat (t1.getD i.toNat (0, 0)).2)).1).1.2) = sumA v l ∧ exD v ((addDI (t2_0, t2_1, t2_2, t2_3) (s_0, s_1) (mkD (t2_0, t2_1, t2_2, t2_3) ((t1.getD i.toNat (0, 0)).1 * (weightD (t2_0, t2_1, t2_2, t2_3) (t14.getD i.toNat (0, 0)))) (Int.toNat (t1.getD i.toNat (0, 0)).2)).1).1.1, (addDI (t2_0, t2_1, t2_2, t2_3) (s_0, s_1) (mkD (t2_0, t2_1, t2_2, t2_3) ((t1.getD i.toNat (0, 0)).1 * (weightD (t2_0, t2_1, t2_2, t2_3) (t14.getD i.toNat (0, 0)))) (Int.toNat (t1.getD i.toNat (0, 0)).2)).1).1.2) = true) ∧ 0 ≤ (i + 1) ∧ (i + 1) ≤ (List.length (rollsTo (Int.toNat v.2.2.2)) : Int))) ∧ ((Int.toNat ((List.length (rollsTo (Int.toNat v.2.2.2)) : Int) - (i + 1)) : Nat) < Int.toNat ((List.length (rollsTo (Int.toNat v.2.2.2)) : Int) - i))))))))))))) ((inK .i64 (s_1 + 1)) ∧ ((varD (t2_0, t2_1, t2_2, t2_3) = true ∧ (-9223372036854775807 ≤ s_0 ∧ s_0 ≤ 9223372036854775807) ∧ 0 ≤ (s_1 + 1) ∧ (s_1 + 1) ≤ 1000) ∧ (@Eq (HO c_impl_meanExact.outs) ((mkD (t2_0, t2_1, t2_2, t2_3) s_0 (Int.toNat (s_1 + 1))).1, (mkD (t2_0, t2_1, t2_2, t2_3) s_0 (Int.toNat (s_1 + 1))).2, ()) (c_impl_meanExact.out (v, l, ()))))))))))) (by kernel_rfl) ?_
  rintro v l ⟨⟨hv, ha⟩, hk⟩ hl
  have hn : l.length = (rollsTo v.2.2.2.toNat).length := by simp only [kindsD, hv, if_true] at hk; omega
  have out : ∀ r : DExact × Bool, meanE v l = r → @Eq (HO c_impl_meanExact.outs) (r.1, r.2, ()) (c_impl_meanExact.out (v, l, ())) := fun r h => by subst h; rfl
  rw [if_pos hv]
  refine ⟨trivial, ⟨(by first | trivial | rfl | (and_intros <;> rfl)), ⟨rfl, exD_zero v⟩, by omega, by omega⟩, ?_⟩
  rintro t15 i t1 t2_0 t2_1 t2_2 t2_3 t4_0 t4_1 s_0 s_1 t14 ⟨⟨rfl, rfl, rfl, rfl, rfl, rfl, rfl, rfl, rfl⟩, ⟨⟨hs, he⟩, i0, i1⟩⟩
  simp only [Prod.eta]
  obtain ⟨k, rfl⟩ : ∃ k : Nat, i = k := ⟨i.toNat, by omega⟩
  simp only [Int.toNat_natCast] at hs ⊢
  refine bspD (fun hlt => ?_) (fun hge => ?_)
  · skip
    have h1 : k < (rollsTo v.2.2.2.toNat).length := by omega
    have h2 : k < l.length := by omega
    have hx := allX_at ha h2
    have hr := rollsTo_ok hv (getD_memX h1 (0, 0))
    have hw : weightD v ((rollsTo v.2.2.2.toNat).getD k (0, 0)) = wtD ((rollsTo v.2.2.2.toNat).getD k (0, 0)) := if_pos hr
    have hwb := wtD_bd ((rollsTo v.2.2.2.toNat).getD k (0, 0))
    rw [sumD_step h1 h2] at hs
    have ek : ((k : Int) + 1).toNat = k + 1 := by omega
    have hr6 := rollsTo_len v.2.2.2.toNat (by have := varD_iff.1 hv; omega)
    have hs6 := (varD_iff.1 hv).2.2.2
    rw [hw]
    refine ⟨⟨by omega, by omega⟩, h1, ⟨by omega, by omega⟩, h2, trivial, ⟨⟨hv, hx⟩, by omega, by omega⟩, bspB (fun hn => ?_) (fun hp => ?_)⟩
    · simp only [Bool.not_eq_true'] at hn
      rw [if_neg (by rw [hn]; decide)] at hs
      exact out ((0, 0), false) (mean_no hs)
    · simp only [Bool.not_eq_false'] at hp
      rw [if_pos hp] at hs
      refine ⟨⟨hv, (exD_in hv he).1, (exD_in hv (mkD_ok hp)).1⟩, bspB (fun hn => ?_) (fun hq => ?_)⟩
      · simp only [Bool.not_eq_true'] at hn
        rw [if_neg (by rw [hn]; decide)] at hs
        exact out ((0, 0), false) (mean_no hs)
      · simp only [Bool.not_eq_false'] at hq
        rw [if_pos hq] at hs
        refine ⟨by simp only [inK]; omega, ⟨(by first | trivial | rfl | (and_intros <;> rfl)), ⟨?_, addDI_ok hq⟩, by omega, by omega⟩, by omega⟩
        rw [ek]; exact hs
  · obtain ⟨⟨⟨x1, x1'⟩, x2, x2'⟩, -, -, -⟩ := exD_in hv he
    dsimp only at x1 x1' x2 x2'
    refine ⟨by simp only [inK]; omega, ⟨hv, ⟨by omega, by omega⟩, by omega, by omega⟩, out _ ?_⟩
    rw [mean_end (by omega) hs, show (s_1 + 1).toNat = s_1.toNat + 1 by omega]
def c_spec_l09Mean : Con where
  ins := [(true, .v tVar), (false, .v (.sl tRoll))]
  outs := [(true, .v tRoll), (false, .v .b)]
  sh := false
  pre := fun x => (varD x.1 = true ∧ allX x.1 x.2.1 = true) ∧ (List.length x.2.1 : Int) = kindsD x.1
  out := fun x => ((meanE x.1 x.2.1).1, (meanE x.1 x.2.1).2, ())
  upd := fun x => x
  eat := false
theorem k_spec_l09Mean [B : Base] : ConOk Try.prog 22 c_spec_l09Mean := by
  refine fn_okW (C := cx Try.prog 83 c_spec_l09Mean) (cs := [(20, c_spec_l09Rolls), (37, c_spec_l09Mul), (23, c_spec_l09Add), (38, c_spec_l09Base), (39, c_spec_l09Valid)]) (res := Try.f22.results.toList) (fun x => ⟨[{ sh := ⟨[(1, .one (.ref 0)), (2, .one (.ref 1)), (4, .one (.ref 2)), (6, .one (.ref 3)), (7, .one (.ref 4)), (8, .one (.i .i64))], [(0, .imm tRoll false), (1, .box [.i .i64, .i .i64, .i .i64, .i .i64]), (2, .box [.i .i64, .i .i64]), (3, .imm tRoll true), (4, .box [.i .i64, .i .i64])]⟩, nx := 5, I := fun _ dat_ => (x.2.1 = dat_.2.1 ∧ x.1.1 = dat_.2.2.1.1 ∧ x.1.2.1 = dat_.2.2.1.2.1 ∧ x.1.2.2.1 = dat_.2.2.1.2.2.1 ∧ x.1.2.2.2 = dat_.2.2.1.2.2.2.1 ∧ (0 : Int) = dat_.2.2.2.1.1 ∧ (0 : Int) = dat_.2.2.2.1.2.1 ∧ rollsTo (Int.toNat x.1.2.2.2) = dat_.2.2.2.2.1) ∧ ((sumD x.1 (List.drop (Int.toNat dat_.1.2.2.2.2.2.1) (rollsTo (Int.toNat x.1.2.2.2))) (List.drop (Int.toNat dat_.1.2.2.2.2.2.1) x.2.1) (dat_.2.2.2.2.2.1.1, dat_.2.2.2.2.2.1.2.1) = sumA x.1 x.2.1 ∧ exD x.1 (dat_.2.2.2.2.2.1.1, dat_.2.2.2.2.2.1.2.1) = true) ∧ 0 ≤ dat_.1.2.2.2.2.2.1 ∧ dat_.1.2.2.2.2.2.1 ≤ (List.length (rollsTo (Int.toNat x.1.2.2.2)) : Int)), mu := fun dat_ => Int.toNat ((List.length (rollsTo (Int.toNat x.1.2.2.2)) : Int) - dat_.1.2.2.2.2.2.1) }], [(7, ⟨[[], [], [0, 1], [0, 1, 2], [0, 1, 2, 3], [], [], [5, 6], [5, 6, 7], [5, 6, 7, 8], [0, 1, 2, 3, 4, 5, 6, 7, 8, 9]], [[1, 5, 6, 7, 8, 9], [0, 5, 6, 7, 8, 9], [5, 6, 7, 8, 9], [5, 6, 7, 8, 9], [5, 6, 7, 8, 9], [0, 1, 2, 3, 4, 6], [0, 1, 2, 3, 4, 5], [0, 1, 2, 3, 4], [0, 1, 2, 3, 4], [0, 1, 2, 3, 4], []], []⟩), (9, ⟨[[], [], [], [1, 2], [1, 2, 3], [], [0, 1, 2, 3, 4, 5], [0, 1, 2, 3, 4, 5, 6], [0, 1, 2, 3, 4, 5, 6, 7], [0, 1, 2, 3, 4, 5, 6, 7], [], [0, 1, 2, 3, 4, 5, 6, 7, 8, 10], [0, 1, 2, 3, 4, 5, 6, 7, 8, 9, 10, 11]], [[1, 2, 3, 4, 5, 10], [0, 2, 5, 10], [0, 1, 5, 10], [0, 5, 10], [0, 5, 10], [0, 1, 2, 3, 4, 10], [10], [10], [9, 10], [8, 10, 11], [0, 1, 2, 3, 4, 5, 6, 7, 8, 9], [9], []], []⟩), (16, ⟨[[], [0], [], [2], [0, 1, 2, 3], [0, 1, 2, 3, 4]], [[2, 3], [2, 3], [0, 1], [0, 1], [], []], []⟩), (17, ⟨[[], [0], [], [2], [0, 1, 2, 3], [0, 1, 2, 3, 4], [0, 1, 2, 3, 4, 5], [0, 1, 2, 3, 4, 5, 6]], [[2, 3], [2, 3], [0, 1], [0, 1], [], [], [], []], []⟩)], []⟩) Try.func22 (by kernel_rfl) rfl rfl rfl tysOk.look eqTsOk.look (AllCs.ok (l := [(20, c_spec_l09Rolls), (37, c_spec_l09Mul), (23, c_spec_l09Add), (38, c_spec_l09Base), (39, c_spec_l09Valid)]) ⟨k_spec_l09Rolls, k_spec_l09Mul, k_spec_l09Add, k_spec_l09Base, k_spec_l09Valid, trivial⟩) mixed rfl rfl rfl rfl ?_
  refine of_nf (P := ∀ v : Int × Int × Int × Int, ∀ l : List (Int × Int), ((varD v = true ∧ allX v l = true) ∧ (List.length l : Int) = kindsD v) → ((lensI c_spec_l09Mean.ins (v, l, ())) → ((0 ≤ v.2.2.2 ∧ v.2.2.2 ≤ 6) ∧ (((l = l ∧ v.1 = v.1 ∧ v.2.1 = v.2.1 ∧ v.2.2.1 = v.2.2.1 ∧ v.2.2.2 = v.2.2.2 ∧ (0 : Int) = 0 ∧ (0 : Int) = 0 ∧ rollsTo (Int.toNat v.2.2.2) = (rollsTo (Int.toNat v.2.2.2))) ∧ ((sumD v (List.drop (Int.toNat (0 : Int)) (rollsTo (Int.toNat v.2.2.2))) (List.drop (Int.toNat (0 : Int)) l) ((0 : Int), (0 : Int)) = sumA v l ∧ exD v ((0 : Int), (0 : Int)) = true) ∧ 0 ≤ (0 : Int) ∧ (0 : Int) ≤ (List.length (rollsTo (Int.toNat v.2.2.2)) : Int))) ∧ (∀ i : Int, ∀ t1 : List (Int × Int), ∀ t2_0 : Int, ∀ t2_1 : Int, ∀ t2_2 : Int, ∀ t2_3 : Int, ∀ t4_0 : Int, ∀ t4_1 : Int, ∀ t6 : List (Int × Int), ∀ s_0 : Int, ∀ s_1 : Int, ((l = t1 ∧ v.1 = t2_0 ∧ v.2.1 = t2_1 ∧ v.2.2.1 = t2_2 ∧ v.2.2.2 = t2_3 ∧ (0 : Int) = t4_0 ∧ (0 : Int) = t4_1 ∧ rollsTo (Int.toNat v.2.2.2) = t6) ∧ ((sumD v (List.drop (Int.toNat i) (rollsTo (Int.toNat v.2.2.2))) (List.drop (Int.toNat i) l) (s_0, s_1) = sumA v l ∧ exD v (s_0, s_1) = true) ∧ 0 ≤ i ∧ i ≤ (List.length (rollsTo (Int.toNat v.2.2.2)) : Int))) → (bsp (decide (i < (t6.length : Int))) ((0 ≤ i ∧ i < (t6.length : Int)) ∧ ((i.toNat < t6.length) ∧ ((0 ≤ i ∧ i < (t6.length : Int)) ∧ ((i.toNat < t6.length) ∧ (bsp (decide ((t6.getD i.toNat (0, 0)).1 = (t6.getD i.toNat (0, 0)).2)) ((0 ≤ i ∧ i < (t1.length : Int)) ∧ ((i.toNat < t1.length) ∧ (((varD (t2_0, t2_1, t2_2, t2_3) = true ∧ exD (t2_0, t2_1, t2_2, t2_3) (t1.getD i.toNat (0, 0)) = true) ∧ -1000 ≤ (1 : Int) ∧ (1 : Int) ≤ 1000) ∧ (bsp (!(mkD (t2_0, t2_1, t2_2, t2_3) ((t1.getD i.toNat (0, 0)).1 * (1 : Int)) (Int.toNat (t1.getD i.toNat (0, 0)).2)).2) (@Eq (HO c_spec_l09Mean.outs) ((0, 0), false, ()) (c_spec_l09Mean.out (v, l, ()))) ((varD (t2_0, t2_1, t2_2, t2_3) = true ∧ exD (t2_0, t2_1, t2_2, t2_3) (s_0, s_1) = true ∧ exD (t2_0, t2_1, t2_2, t2_3) (mkD (t2_0, t2_1, t2_2, t2_3) ((t1.getD i.toNat (0, 0)).1 * (1 : Int)) (Int.toNat (t1.getD i.toNat (0, 0)).2)).1 = true) ∧ (bsp (!(addDI (t2_0, t2_1, t2_2, t2_3) (s_0, s_1) (mkD (t2_0, t2_1, t2_2, t2_3) ((t1.getD i.toNat (0, 0)).1 * (1 : Int)) (Int.toNat (t1.getD i.toNat (0, 0)).2)).1).2) (@Eq (HO c_spec_l09Mean.outs) ((0, 0), false, ()) (c_spec_l09Mean.out (v, l, ()))) ((inK .i64 (i + 1)) ∧ (((l = t1 ∧ v.1 = t2_0 ∧ v.2.1 = t2_1 ∧ v.2.2.1 = t2_2 ∧ v.2.2.2 = t2_3 ∧ (0 : Int) = t4_0 ∧ (0 : Int) = t4_1 ∧ rollsTo (Int.toNat v.2.2.2) = t6) ∧ ((sumD v (List.drop (Int.toNat (i + 1)) (rollsTo (Int.toNat v.2.2.2))) (List.drop (Int.toNat (i + 1)) l) ((addDI (t2_0, t2_1, t2_2, t2_3) (s_0, s_1) (mkD (t2_0, t2_1, t2_2, t2_3) ((t1.getD i.toNat (0, 0)).1 * (1 : Int)) (Int.toNat (t1.getD i.toNat (0, 0)).2)).1).1.1, (addDI (t2_0, t2_1, t2_2, t2_3) (s_0, s_1) (mkD (t2_0, t2_1, t2_2, t2_3) ((t1.getD i.toNat (0, 0)).1 * (1 : Int)) (Int.toNat (t1.getD i.toNat (0, 0)).2)).1).1.2) = sumA v l ∧ exD v ((addDI (t2_0, t2_1, t2_2, t2_3) (s_0, s_1) (mkD (t2_0, t2_1, t2_2, t2_3) ((t1.getD i.toNat (0, 0)).1 * (1 : Int)) (Int.toNat (t1.getD i.toNat (0, 0)).2)).1).1.1, (addDI (t2_0, t2_1, t2_2, t2_3) (s_0, s_1) (mkD (t2_0, t2_1, t2_2, t2_3) ((t1.getD i.toNat (0, 0)).1 * (1 : Int)) (Int.toNat (t1.getD i.toNat (0, 0)).2)).1).1.2) = true) ∧ 0 ≤ (i + 1) ∧ (i + 1) ≤ (List.length (rollsTo (Int.toNat v.2.2.2)) : Int))) ∧ ((Int.toNat ((List.length (rollsTo (Int.toNat v.2.2.2)) : Int) - (i + 1)) : Nat) < Int.toNat ((List.length (rollsTo (Int.toNat v.2.2.2)) : Int) - i)))))))))) ((0 ≤ i ∧ i < (t1.length : Int)) ∧ ((i.toNat < t1.length) ∧ (((varD (t2_0, t2_1, t2_2, t2_3) = true ∧ exD (t2_0, t2_1, t2_2, t2_3) (t1.getD i.toNat (0, 0)) = true) ∧ -1000 ≤ (2 : Int) ∧ (2 : Int) ≤ 1000) ∧ (bsp (!(mkD (t2_0, t2_1, t2_2, t2_3) ((t1.getD i.toNat (0, 0)).1 * (2 : Int)) (Int.toNat (t1.getD i.toNat (0, 0)).2)).2) (@Eq (HO c_spec_l09Mean.outs) ((0, 0), false, ()) (c_spec_l09Mean.out (v, l, ()))) ((varD (t2_0, t2_1, t2_2, t2_3) = true ∧ exD (t2_0, t2_1, t2_2, t2_3) (s_0, s_1) = true ∧ exD (t2_0, t2_1, t2_2, t2_3) (mkD (t2_0, t2_1, t2_2, t2_3) ((t1.getD i.toNat (0, 0)).1 * (2 : Int)) (Int.toNat (t1.getD i.toNat (0, 0)).2)).1 = true) ∧ (bsp (!(addDI (t2_0, t2_1, t2_2, t2_3) (s_0, s_1) (mkD (t2_0, t2_1, t2_2, t2_3) ((t1.getD i.toNat (0, 0)).1 * (2 : Int)) (Int.toNat (t1.getD i.toNat (0, 0)).2)).1).2) (@Eq (HO c_spec_l09Mean.outs) ((0, 0), false, ()) (c_spec_l09Mean.out (v, l, ()))) ((inK .i64 (i + 1)) ∧ (((l = t1 ∧ v.1 = t2_0 ∧ v.2.1 = t2_1 ∧ v.2.2.1 = t2_2 ∧ v.2.2.2 = t2_3 ∧ (0 : Int) = t4_0 ∧ (0 : Int) = t4_1 ∧ rollsTo (Int.toNat v.2.2.2) = t6) ∧ ((sumD v (List.drop (Int.toNat (i + 1)) (rollsTo (Int.toNat v.2.2.2))) (List.drop (Int.toNat (i + 1)) l) ((addDI (t2_0, t2_1, t2_2, t2_3) (s_0, s_1) (mkD (t2_0, t2_1, t2_2, t2_3) ((t1.getD i.toNat (0, 0)).1 * (2 : Int)) (Int.toNat (t1.getD i.toNat (0, 0)).2)).1).1.1, (addDI (t2_0, t2_1, t2_2, t2_3) (s_0, s_1) (mkD (t2_0, t2_1, t2_2, t2_3) ((t1.getD i.toNat (0, 0)).1 * (2 : Int)) (Int.toNat (t1.getD i.toNat (0, 0)).2)).1).1.2) = sumA v l ∧ exD v ((addDI (t2_0, t2_1, t2_2, t2_3) (s_0, s_1) (mkD (t2_0, t2_1, t2_2, t2_3) ((t1.getD i.toNat (0, 0)).1 * (2 : Int)) (Int.toNat (t1.getD i.toNat (0, 0)).2)).1).1.1, (addDI (t2_0, t2_1, t2_2, t2_3) (s_0, s_1) (mkD (t2_0, t2_1, t2_2, t2_3) ((t1.getD i.toNat (0, 0)).1 * (2 : Int)) (Int.toNat (t1.getD i.toNat (0, 0)).2)).1).1.2) = true) ∧ 0 ≤ (i + 1) ∧ (i + 1) ≤ (List.length (rollsTo (Int.toNat v.2.2.2)) : Int))) ∧ ((Int.toNat ((List.length (rollsTo (Int.toNat v.2.2.2)) : Int) - (i + 1)) : Nat) < Int.toNat ((List.length (rollsTo (Int.toNat v.2.2.2)) : Int) - i))))))))))))))) ((varD (t2_0, t2_1, t2_2, t2_3) = true) ∧ (((bsD (t2_0, t2_1, t2_2, t2_3) : Int) ≠ 0) ∧ (bsp (decide ((Int.tmod s_0 (bsD (t2_0, t2_1, t2_2, t2_3) : Int)) = (0 : Int))) ((varD (t2_0, t2_1, t2_2, t2_3) = true) ∧ (((bsD (t2_0, t2_1, t2_2, t2_3) : Int) ≠ 0) ∧ ((inK .i64 (Int.tdiv s_0 (bsD (t2_0, t2_1, t2_2, t2_3) : Int))) ∧ (@Eq (HO c_spec_l09Mean.outs) (((Int.tdiv s_0 (bsD (t2_0, t2_1, t2_2, t2_3) : Int)), 0), true, ()) (c_spec_l09Mean.out (v, l, ())))))) ((inK .i64 (s_1 + 1)) ∧ ((varD (t2_0, t2_1, t2_2, t2_3) = true ∧ (s_0, s_1 + 1).2 ≤ 9223372036854775807) ∧ (bsp (!(exD (t2_0, t2_1, t2_2, t2_3) (s_0, s_1 + 1))) (@Eq (HO c_spec_l09Mean.outs) ((0, 0), false, ()) (c_spec_l09Mean.out (v, l, ()))) (@Eq (HO c_spec_l09Mean.outs) ((s_0, s_1 + 1), true, ()) (c_spec_l09Mean.out (v, l, ()))))))))))))))) (by kernel_rfl) ?_
  rintro v l ⟨⟨hv, ha⟩, hk⟩ hl
  have hn : l.length = (rollsTo v.2.2.2.toNat).length := by simp only [kindsD, hv, if_true] at hk; omega
  obtain ⟨-, b1, b2, s1, s2⟩ := bsD_facts hv
  have out : ∀ r : DExact × Bool, meanE v l = r → @Eq (HO c_spec_l09Mean.outs) (r.1, r.2, ()) (c_spec_l09Mean.out (v, l, ())) := fun r h => by subst h; rfl
  refine ⟨⟨by omega, by omega⟩, ⟨(by first | trivial | rfl | (and_intros <;> rfl)), ⟨rfl, exD_zero v⟩, by omega, by omega⟩, ?_⟩
  rintro i t1 t2_0 t2_1 t2_2 t2_3 t4_0 t4_1 t6 s_0 s_1 ⟨⟨rfl, rfl, rfl, rfl, rfl, rfl, rfl, rfl⟩, ⟨⟨hs, he⟩, i0, i1⟩⟩
  simp only [Prod.eta]
  obtain ⟨k, rfl⟩ : ∃ k : Nat, i = k := ⟨i.toNat, by omega⟩
  simp only [Int.toNat_natCast] at hs ⊢
  refine bspD (fun hlt => ?_) (fun hge => ?_)
  · skip
    have h1 : k < (rollsTo v.2.2.2.toNat).length := by omega
    have h2 : k < l.length := by omega
    have hx := allX_at ha h2
    have hr := rollsTo_ok hv (getD_memX h1 (0, 0))
    have hw : weightD v ((rollsTo v.2.2.2.toNat).getD k (0, 0)) = wtD ((rollsTo v.2.2.2.toNat).getD k (0, 0)) := if_pos hr
    have hwb := wtD_bd ((rollsTo v.2.2.2.toNat).getD k (0, 0))
    rw [sumD_step h1 h2] at hs
    have ek : ((k : Int) + 1).toNat = k + 1 := by omega
    have hr6 := rollsTo_len v.2.2.2.toNat (by have := varD_iff.1 hv; omega)
    have hs6 := (varD_iff.1 hv).2.2.2
    refine ⟨⟨by omega, by omega⟩, h1, ⟨by omega, by omega⟩, h1, bspD (fun hd => ?_) (fun hd => ?_)⟩
    · rw [show wtD ((rollsTo v.2.2.2.toNat).getD k (0, 0)) = 1 from if_pos hd] at hs
      refine ⟨⟨by omega, by omega⟩, h2, ⟨⟨hv, hx⟩, by omega, by omega⟩, bspB (fun hn => ?_) (fun hp => ?_)⟩
      · simp only [Bool.not_eq_true'] at hn
        rw [if_neg (by rw [hn]; decide)] at hs
        exact out ((0, 0), false) (mean_no hs)
      · simp only [Bool.not_eq_false'] at hp
        rw [if_pos hp] at hs
        refine ⟨⟨hv, he, mkD_ok hp⟩, bspB (fun hn => ?_) (fun hq => ?_)⟩
        · simp only [Bool.not_eq_true'] at hn
          rw [if_neg (by rw [hn]; decide)] at hs
          exact out ((0, 0), false) (mean_no hs)
        · simp only [Bool.not_eq_false'] at hq
          rw [if_pos hq] at hs
          refine ⟨by simp only [inK]; omega, ⟨(by first | trivial | rfl | (and_intros <;> rfl)), ⟨?_, addDI_ok hq⟩, by omega, by omega⟩, by omega⟩
          rw [ek]; exact hs
    · rw [show wtD ((rollsTo v.2.2.2.toNat).getD k (0, 0)) = 2 from if_neg hd] at hs
      refine ⟨⟨by omega, by omega⟩, h2, ⟨⟨hv, hx⟩, by omega, by omega⟩, bspB (fun hn => ?_) (fun hp => ?_)⟩
      · simp only [Bool.not_eq_true'] at hn
        rw [if_neg (by rw [hn]; decide)] at hs
        exact out ((0, 0), false) (mean_no hs)
      · simp only [Bool.not_eq_false'] at hp
        rw [if_pos hp] at hs
        refine ⟨⟨hv, he, mkD_ok hp⟩, bspB (fun hn => ?_) (fun hq => ?_)⟩
        · simp only [Bool.not_eq_true'] at hn
          rw [if_neg (by rw [hn]; decide)] at hs
          exact out ((0, 0), false) (mean_no hs)
        · simp only [Bool.not_eq_false'] at hq
          rw [if_pos hq] at hs
          refine ⟨by simp only [inK]; omega, ⟨(by first | trivial | rfl | (and_intros <;> rfl)), ⟨?_, addDI_ok hq⟩, by omega, by omega⟩, by omega⟩
          rw [ek]; exact hs
  · have hend := mean_end (by omega) hs
    obtain ⟨M1, M2⟩ := mean_ref hv he
    obtain ⟨⟨⟨x1, x1'⟩, x2, x2'⟩, -, -, -⟩ := exD_in hv he
    dsimp only at x1 x1' x2 x2' M1 M2 hend
    refine ⟨hv, by omega, bspD (fun h0 => ⟨hv, by omega, ?_, out _ (hend.trans (M1 h0))⟩) (fun h0 => ⟨by simp only [inK]; omega, ⟨hv, by omega⟩, ?_⟩)⟩
    · have ha := tdiv_abs (n := s_0) b1
      simp only [inK]; omega
    · have hM := hend.trans (M2 h0)
      refine bspB (fun hn => out ((0, 0), false) ?_) (fun hy => out ((s_0, s_1 + 1), true) ?_)
      · simp only [Bool.not_eq_true'] at hn
        rw [hM, hn]; rfl
      · simp only [Bool.not_eq_false'] at hy
        rw [hM, hy]; rfl
theorem meanE_bd {v : DVar} {l : List DExact} (h : codeX v l = 0) : varD v = true ∧ allX v l = true := codeX_zero h
end Go.Proofs.Ytoobijimfccfgaa
