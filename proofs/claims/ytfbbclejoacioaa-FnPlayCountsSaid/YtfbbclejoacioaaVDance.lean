/-
  Contracts: the weight of the rolls that dance; the law of DancingWeight.
-/
import Derived.Test.YtfbbclejoacioaaVSeq
import Derived.Test.YtfbbclejoacioaaVRolls
namespace Go.Proofs.Ytfbbclejoacioaa
open Go.RowKit
set_option linter.unusedSimpArgs false
set_option linter.unusedVariables false
def danceS (v : DVar) (b : DBoard) (w : Int) (r : DRoll) : Int := if legalD v b r.1 = [] ∧ legalD v b r.2 = [] then w + wtD r else w
def danceD (v : DVar) (b : DBoard) : Int × Int := if boardD v b = true then ((rollsTo v.2.2.2.toNat).foldl (danceS v b) 0, 0) else (0, 1)
theorem dance_bd (v : DVar) (b : DBoard) (l : List DRoll) : 0 ≤ l.foldl (danceS v b) 0 ∧ l.foldl (danceS v b) 0 ≤ 2 * l.length := by
  have gen : ∀ (l : List DRoll) (m : Int), 0 ≤ m → 0 ≤ l.foldl (danceS v b) m ∧ l.foldl (danceS v b) m ≤ m + 2 * l.length := by
    intro l
    induction l with
    | nil => intro m h; simp; exact h
    | cons r l ih =>
      intro m h
      have h1 : m ≤ danceS v b m r ∧ danceS v b m r ≤ m + 2 := by have := wtD_bd r; unfold danceS; split <;> omega
      have := ih (danceS v b m r) (by omega)
      simp only [List.foldl_cons, List.length_cons]; omega
  have := gen l 0 (by omega)
  omega
theorem nextD_start {v : DVar} {b : DBoard} {d : Int} : nextD v (startP b) d = [] ↔ legalD v b d = [] := by
  unfold nextD startP
  simp only [List.flatMap_cons, List.flatMap_nil, List.append_nil, stepsOf]
  cases h : legalD v b d with
  | nil => simp
  | cons s l =>
    have := (len_foldl_addP (l.map fun s => (([] : List DStep) ++ [s], afterD v b s)) (addP [] ([] ++ [s], afterD v b s))).1
    simp only [List.map_cons, List.foldl_cons]
    refine ⟨fun e => ?_, fun e => by cases e⟩
    rw [e] at this
    simp [addP] at this
theorem usedD_zero {v : DVar} {b : DBoard} {r : DRoll} : usedD v b r = 0 ↔ legalD v b r.1 = [] ∧ legalD v b r.2 = [] := by
  have seq0 : ∀ d ds, ((seqD v (startP b) (d :: ds)).length : Int) ≤ 0 ↔ legalD v b d = [] := fun d ds => by
    rw [← nextD_start]
    simp only [seqD]
    split
    · next h => simp [h]
    · next h => simp only [List.length_cons, h, iff_false]; omega
  unfold usedD usedL ordersD
  split
  · next e =>
    have := seq0 r.1 [r.1, r.1, r.1]
    simp only [List.map_cons, List.map_nil, List.foldl_cons, List.foldl_nil, rowsD, List.length_cons, ← e, and_self]
    rw [← this]; omega
  · have h1 := seq0 r.1 [r.2]
    have h2 := seq0 r.2 [r.1]
    simp only [List.map_cons, List.map_nil, List.foldl_cons, List.foldl_nil, rowsD, List.length_cons]
    rw [← h1, ← h2]; omega
def c_impl_DancingWeight : Con where
  ins := [(true, .v tVar), (true, .v tBoard)]
  outs := [(false, .v tI), (false, .v tI)]
  sh := false
  pre := fun _ => True
  out := fun x => ((danceD x.1 x.2.1).1, (danceD x.1 x.2.1).2, ())
  upd := fun x => x
theorem k_impl_DancingWeight : ConOk Try.prog 10 c_impl_DancingWeight := by
  refine fn_okW (C := cx Try.prog 43 c_impl_DancingWeight) (cs := [(18, c_impl_IsBoard), (9, c_impl_AllRolls), (24, c_impl_legalSteps), (12, c_impl_RollWeight)]) (res := Try.f10.results.toList) (fun x => ⟨[{ sh := ⟨[(2, .one (.ref 0)), (3, .one (.ref 1)), (6, .one (.i .i64)), (14, .one (.ref 2)), (15, .one (.i .i64)), (16, .one (.i .i64))], [(0, .box [.i .i64, .i .i64, .i .i64, .i .i64]), (1, .box [.ref 3, .ref 4]), (2, .imm tRoll true), (3, .imm tI false), (4, .imm tI false)]⟩, nx := 5, I := fun _ dat_ => (((if varD x.1 then rollsTo (Int.toNat x.1.2.2.2) else []).length : Int) = dat_.1.2.2.2.2.1 ∧ x.1.1 = dat_.2.1.1 ∧ x.1.2.1 = dat_.2.1.2.1 ∧ x.1.2.2.1 = dat_.2.1.2.2.1 ∧ x.1.2.2.2 = dat_.2.1.2.2.2.1 ∧ (if varD x.1 then rollsTo (Int.toNat x.1.2.2.2) else []) = dat_.2.2.2.1 ∧ x.2.1.1 = dat_.2.2.2.2.1 ∧ x.2.1.2 = dat_.2.2.2.2.2.1) ∧ (dat_.1.2.2.1 = List.foldl (danceS x.1 x.2.1) 0 (List.take (Int.toNat dat_.1.2.2.2.2.2.1) (rollsTo (Int.toNat x.1.2.2.2))) ∧ 0 ≤ dat_.1.2.2.2.2.2.1 ∧ dat_.1.2.2.2.2.2.1 ≤ (List.length (rollsTo (Int.toNat x.1.2.2.2)) : Int)), mu := fun dat_ => Int.toNat ((List.length (rollsTo (Int.toNat x.1.2.2.2)) : Int) - dat_.1.2.2.2.2.2.1) }], [], []⟩) Try.func10 (by kernel_rfl) rfl rfl rfl tysOk.look eqTsOk.look (AllCs.ok (l := [(18, c_impl_IsBoard), (9, c_impl_AllRolls), (24, c_impl_legalSteps), (12, c_impl_RollWeight)]) ⟨k_impl_IsBoard, k_impl_AllRolls, k_impl_legalSteps, k_impl_RollWeight, trivial⟩) mixed rfl rfl rfl ?_
  refine of_nf (P := ∀ v : Int × Int × Int × Int, ∀ b : (List Int) × List Int, (True) → ((lensI c_impl_DancingWeight.ins (v, b, ())) → (True ∧ (bsp (!(boardD v b)) (@Eq (HO c_impl_DancingWeight.outs) (0, 1, ()) (c_impl_DancingWeight.out (v, b, ()))) (True ∧ (((((if varD v then rollsTo (Int.toNat v.2.2.2) else []).length : Int) = ((if varD v then rollsTo (Int.toNat v.2.2.2) else []).length : Int) ∧ v.1 = v.1 ∧ v.2.1 = v.2.1 ∧ v.2.2.1 = v.2.2.1 ∧ v.2.2.2 = v.2.2.2 ∧ (if varD v then rollsTo (Int.toNat v.2.2.2) else []) = (if varD v then rollsTo (Int.toNat v.2.2.2) else []) ∧ b.1 = b.1 ∧ b.2 = b.2) ∧ ((0 : Int) = List.foldl (danceS v b) 0 (List.take (Int.toNat (0 : Int)) (rollsTo (Int.toNat v.2.2.2))) ∧ 0 ≤ (0 : Int) ∧ (0 : Int) ≤ (List.length (rollsTo (Int.toNat v.2.2.2)) : Int))) ∧ (∀ w : Int, ∀ n : Int, ∀ i : Int, ∀ t2_0 : Int, ∀ t2_1 : Int, ∀ t2_2 : Int, ∀ t2_3 : Int, ∀ rolls : List (Int × Int), ∀ t3_0 : List Int, ∀ t3_1 : List Int, ((((if varD v then rollsTo (Int.toNat v.2.2.2) else []).length : Int) = n ∧ v.1 = t2_0 ∧ v.2.1 = t2_1 ∧ v.2.2.1 = t2_2 ∧ v.2.2.2 = t2_3 ∧ (if varD v then rollsTo (Int.toNat v.2.2.2) else []) = rolls ∧ b.1 = t3_0 ∧ b.2 = t3_1) ∧ (w = List.foldl (danceS v b) 0 (List.take (Int.toNat i) (rollsTo (Int.toNat v.2.2.2))) ∧ 0 ≤ i ∧ i ≤ (List.length (rollsTo (Int.toNat v.2.2.2)) : Int))) → (bsp (decide (i < n)) ((0 ≤ i ∧ i < (rolls.length : Int)) ∧ ((i.toNat < rolls.length) ∧ ((okB (t2_0, t2_1, t2_2, t2_3) (t3_0, t3_1) ∧ 1 ≤ (rolls.getD i.toNat (0, 0)).1 ∧ (rolls.getD i.toNat (0, 0)).1 ≤ 6) ∧ (bsp (decide (((legalD (t2_0, t2_1, t2_2, t2_3) (t3_0, t3_1) (rolls.getD i.toNat (0, 0)).1).length : Int) = (0 : Int))) ((okB (t2_0, t2_1, t2_2, t2_3) (t3_0, t3_1) ∧ 1 ≤ (rolls.getD i.toNat (0, 0)).2 ∧ (rolls.getD i.toNat (0, 0)).2 ≤ 6) ∧ (bsp (decide (((legalD (t2_0, t2_1, t2_2, t2_3) (t3_0, t3_1) (rolls.getD i.toNat (0, 0)).2).length : Int) = (0 : Int))) (True ∧ ((inK .i64 (w + (weightD (t2_0, t2_1, t2_2, t2_3) (rolls.getD i.toNat (0, 0))))) ∧ ((inK .i64 (i + 1)) ∧ (((((if varD v then rollsTo (Int.toNat v.2.2.2) else []).length : Int) = n ∧ v.1 = t2_0 ∧ v.2.1 = t2_1 ∧ v.2.2.1 = t2_2 ∧ v.2.2.2 = t2_3 ∧ (if varD v then rollsTo (Int.toNat v.2.2.2) else []) = rolls ∧ b.1 = t3_0 ∧ b.2 = t3_1) ∧ ((w + (weightD (t2_0, t2_1, t2_2, t2_3) (rolls.getD i.toNat (0, 0)))) = List.foldl (danceS v b) 0 (List.take (Int.toNat (i + 1)) (rollsTo (Int.toNat v.2.2.2))) ∧ 0 ≤ (i + 1) ∧ (i + 1) ≤ (List.length (rollsTo (Int.toNat v.2.2.2)) : Int))) ∧ ((Int.toNat ((List.length (rollsTo (Int.toNat v.2.2.2)) : Int) - (i + 1)) : Nat) < Int.toNat ((List.length (rollsTo (Int.toNat v.2.2.2)) : Int) - i)))))) ((inK .i64 (i + 1)) ∧ (((((if varD v then rollsTo (Int.toNat v.2.2.2) else []).length : Int) = n ∧ v.1 = t2_0 ∧ v.2.1 = t2_1 ∧ v.2.2.1 = t2_2 ∧ v.2.2.2 = t2_3 ∧ (if varD v then rollsTo (Int.toNat v.2.2.2) else []) = rolls ∧ b.1 = t3_0 ∧ b.2 = t3_1) ∧ (w = List.foldl (danceS v b) 0 (List.take (Int.toNat (i + 1)) (rollsTo (Int.toNat v.2.2.2))) ∧ 0 ≤ (i + 1) ∧ (i + 1) ≤ (List.length (rollsTo (Int.toNat v.2.2.2)) : Int))) ∧ ((Int.toNat ((List.length (rollsTo (Int.toNat v.2.2.2)) : Int) - (i + 1)) : Nat) < Int.toNat ((List.length (rollsTo (Int.toNat v.2.2.2)) : Int) - i)))))) ((inK .i64 (i + 1)) ∧ (((((if varD v then rollsTo (Int.toNat v.2.2.2) else []).length : Int) = n ∧ v.1 = t2_0 ∧ v.2.1 = t2_1 ∧ v.2.2.1 = t2_2 ∧ v.2.2.2 = t2_3 ∧ (if varD v then rollsTo (Int.toNat v.2.2.2) else []) = rolls ∧ b.1 = t3_0 ∧ b.2 = t3_1) ∧ (w = List.foldl (danceS v b) 0 (List.take (Int.toNat (i + 1)) (rollsTo (Int.toNat v.2.2.2))) ∧ 0 ≤ (i + 1) ∧ (i + 1) ≤ (List.length (rollsTo (Int.toNat v.2.2.2)) : Int))) ∧ ((Int.toNat ((List.length (rollsTo (Int.toNat v.2.2.2)) : Int) - (i + 1)) : Nat) < Int.toNat ((List.length (rollsTo (Int.toNat v.2.2.2)) : Int) - i)))))))) (@Eq (HO c_impl_DancingWeight.outs) (w, 0, ()) (c_impl_DancingWeight.out (v, b, ()))))))))))) (by kernel_rfl) ?_
  rintro v b hp hl
  refine ⟨trivial, bspB (fun h => by simp_all [c_impl_DancingWeight, danceD]) (fun hbd => ?_)⟩

  have hbo : boardD v b = true := by simpa using hbd
  have hb := okB_of hbo
  have hv := hb.1
  have hn := rollsTo_len v.2.2.2.toNat (by have := hb.facts; omega)
  have hs6 := hb.facts.2.2.2.2.2.2.2.2.2
  simp only [hv, if_true]
  refine ⟨trivial, ⟨(by first | trivial | rfl | (and_intros <;> rfl)), by simp, by omega, by omega⟩, ?_⟩
  rintro w n i t2_0 t2_1 t2_2 t2_3 rolls t3_0 t3_1 ⟨⟨rfl, rfl, rfl, rfl, rfl, rfl, rfl, rfl⟩, ⟨hw, i0, i1⟩⟩
  simp only [Prod.eta]
  refine bspD (fun hlt => ?_) (fun hge => ?_)
  · obtain ⟨k, rfl⟩ : ∃ k : Nat, i = k := ⟨i.toNat, by omega⟩
    simp only [Int.toNat_natCast] at hw ⊢
    have hk : k < (rollsTo v.2.2.2.toNat).length := by omega
    have hro := rollsTo_ok hv (getD_mem hk (0, 0))
    have t := take_fold_succ (danceS v b) 0 hk (0, 0)
    rw [← hw] at t
    have bd := dance_bd v b ((rollsTo v.2.2.2.toNat).take k)
    rw [← hw, List.length_take] at bd
    have hfa := rollD_facts hro
    have hwt := wtD_bd ((rollsTo v.2.2.2.toNat).getD k (0, 0))
    have e : ((k : Int) + 1).toNat = k + 1 := by omega
    rw [e]
    refine ⟨⟨by omega, by omega⟩, hk, ⟨hb, hfa.1⟩, bspD (fun h1 => ⟨⟨hb, hfa.2⟩, bspD (fun h2 => ?_) (fun h2 => ?_)⟩) (fun h1 => ?_)⟩
    · have e2 : danceS v b w ((rollsTo v.2.2.2.toNat).getD k (0, 0)) = w + wtD ((rollsTo v.2.2.2.toNat).getD k (0, 0)) := if_pos ⟨List.length_eq_zero_iff.1 (by omega), List.length_eq_zero_iff.1 (by omega)⟩
      have e3 : weightD v ((rollsTo v.2.2.2.toNat).getD k (0, 0)) = wtD ((rollsTo v.2.2.2.toNat).getD k (0, 0)) := if_pos hro
      rw [e3]
      refine ⟨trivial, by simp only [inK]; omega, by simp only [inK]; omega, ⟨(by first | trivial | rfl | (and_intros <;> rfl)), by rw [t, e2], by omega, by omega⟩, by omega⟩
    · have e2 : danceS v b w ((rollsTo v.2.2.2.toNat).getD k (0, 0)) = w := if_neg fun h => h2 (by rw [h.2]; rfl)
      exact ⟨by simp only [inK]; omega, ⟨(by first | trivial | rfl | (and_intros <;> rfl)), by rw [t, e2], by omega, by omega⟩, by omega⟩
    · have e2 : danceS v b w ((rollsTo v.2.2.2.toNat).getD k (0, 0)) = w := if_neg fun h => h1 (by rw [h.1]; rfl)
      exact ⟨by simp only [inK]; omega, ⟨(by first | trivial | rfl | (and_intros <;> rfl)), by rw [t, e2], by omega, by omega⟩, by omega⟩
  · rw [List.take_of_length_le (by omega)] at hw
    simp only [c_impl_DancingWeight, danceD, hbo, if_true, hw]
end Go.Proofs.Ytfbbclejoacioaa
