/-
  Contracts and laws: AllPlays, IsForced, PlayCounts, FindPlay.
-/
import Derived.Test.YtfbbclejoacioaaVAll
import Derived.Test.YtfbbclejoacioaaAbL
namespace Go.Proofs.Ytfbbclejoacioaa
open Go.RowKit
set_option linter.unusedSimpArgs false
set_option linter.unusedVariables false
def allPlaysD (v : DVar) (b : DBoard) (r : DRoll) : List DPlay × Int :=
  if codeD v b r ≠ 0 then ([], codeD v b r) else if (ordersD r).all (fitsP v b) then (allD v b r, 0) else ([], 3)
def forcedD (v : DVar) (b : DBoard) (r : DRoll) : Bool × Int := (decide (((allPlaysD v b r).1.length : Int) = 1), (allPlaysD v b r).2)
def findPlayD (v : DVar) (b : DBoard) (r : DRoll) (c : DBoard) : Int × Int :=
  if (allPlaysD v b r).2 ≠ 0 then (0, (allPlaysD v b r).2) else if findD (allPlaysD v b r).1 c < 0 then (0, 4) else (findD (allPlaysD v b r).1 c, 0)
def countsD (v : DVar) (b : DBoard) : List Int × Int :=
  if boardD v b = false then ([], 1) else if (rollsTo v.2.2.2.toNat).all (fun r => (ordersD r).all (fitsP v b)) then ((rollsTo v.2.2.2.toNat).map (fun r => ((allD v b r).length : Int)), 0) else ([], 3)
theorem allPlaysD_nil {v : DVar} {b : DBoard} {r : DRoll} (h : (allPlaysD v b r).2 ≠ 0) : (allPlaysD v b r).1 = [] := by
  unfold allPlaysD at h ⊢
  split
  · rfl
  · split
    · next h1 h2 => rw [if_neg h1, if_pos h2] at h; exact absurd rfl h
    · rfl
theorem allPlaysD_len (v : DVar) (b : DBoard) (r : DRoll) : (allPlaysD v b r).1.length ≤ 781250 := by
  unfold allPlaysD
  split
  · simp
  · next h =>
    split
    · have := codeD_ok (by simpa using h : codeD v b r = 0)
      exact allD_len this.1 this.2
    · simp
theorem countsD_len (v : DVar) (b : DBoard) (h : varD v = true → (rollsTo v.2.2.2.toNat).length ≤ 36) : (countsD v b).1.length ≤ 36 := by
  unfold countsD
  split
  · simp
  · next hb =>
    split
    · simp only [List.length_map]
      exact h (boardD_bd (by simpa using hb)).1
    · simp
theorem rolls36 {v : DVar} (hv : varD v = true) : (rollsTo v.2.2.2.toNat).length ≤ 36 := by
  have := (varD_iff.1 hv).2.2.2
  have := rollsTo_len v.2.2.2.toNat (by omega)
  omega
def c_impl_PlayCounts : Con where
  ins := [(true, .v tVar), (true, .v tBoard)]
  outs := [(false, .own 2 tI), (false, .v tI)]
  sh := false
  pre := fun _ => True
  out := fun x => ((countsD x.1 x.2.1).1, (countsD x.1 x.2.1).2, ())
  upd := fun x => x
theorem k_impl_PlayCounts : ConOk Try.prog 6 c_impl_PlayCounts := by
  refine fn_okW (C := cx Try.prog 38 c_impl_PlayCounts) (cs := [(18, c_impl_IsBoard), (9, c_impl_AllRolls), (19, c_impl_allPlays)]) (res := Try.f6.results.toList) (fun x => ⟨[{ sh := ⟨[(2, .one (.ref 0)), (3, .one (.ref 1)), (6, .one (.ref 2)), (16, .one (.ref 3)), (17, .one (.i .i64)), (18, .one (.i .i64))], [(0, .box [.i .i64, .i .i64, .i .i64, .i .i64]), (1, .box [.ref 4, .ref 5]), (2, .own 2 tI true), (3, .imm tRoll true), (4, .imm tI false), (5, .imm tI false)]⟩, nx := 6, I := fun _ dat_ => (((if varD x.1 then rollsTo (Int.toNat x.1.2.2.2) else []).length : Int) = dat_.1.2.2.2.2.1 ∧ x.1.1 = dat_.2.1.1 ∧ x.1.2.1 = dat_.2.1.2.1 ∧ x.1.2.2.1 = dat_.2.1.2.2.1 ∧ x.1.2.2.2 = dat_.2.1.2.2.2.1 ∧ (if varD x.1 then rollsTo (Int.toNat x.1.2.2.2) else []) = dat_.2.2.2.2.1 ∧ x.2.1.1 = dat_.2.2.2.2.2.1 ∧ x.2.1.2 = dat_.2.2.2.2.2.2.1) ∧ ((dat_.2.2.2.1 = List.map (fun r => (List.length (allD x.1 x.2.1 r) : Int)) (List.take (Int.toNat dat_.1.2.2.2.2.2.1) (rollsTo (Int.toNat x.1.2.2.2))) ∧ List.all (List.take (Int.toNat dat_.1.2.2.2.2.2.1) (rollsTo (Int.toNat x.1.2.2.2))) (fun r => List.all (ordersD r) (fitsP x.1 x.2.1)) = true) ∧ 0 ≤ dat_.1.2.2.2.2.2.1 ∧ dat_.1.2.2.2.2.2.1 ≤ (List.length (rollsTo (Int.toNat x.1.2.2.2)) : Int)), mu := fun dat_ => Int.toNat ((List.length (rollsTo (Int.toNat x.1.2.2.2)) : Int) - dat_.1.2.2.2.2.2.1) }], [], []⟩) Try.func6 (by kernel_rfl) rfl rfl rfl tysOk.look eqTsOk.look (AllCs.ok (l := [(18, c_impl_IsBoard), (9, c_impl_AllRolls), (19, c_impl_allPlays)]) ⟨k_impl_IsBoard, k_impl_AllRolls, k_impl_allPlays, trivial⟩) mixed rfl rfl rfl ?_
  refine of_nf (P := ∀ v : Int × Int × Int × Int, ∀ b : (List Int) × List Int, (True) → ((lensI c_impl_PlayCounts.ins (v, b, ())) → (True ∧ (bsp (!(boardD v b)) (@Eq (HO c_impl_PlayCounts.outs) ([], 1, ()) (c_impl_PlayCounts.out (v, b, ()))) (True ∧ (((((if varD v then rollsTo (Int.toNat v.2.2.2) else []).length : Int) = ((if varD v then rollsTo (Int.toNat v.2.2.2) else []).length : Int) ∧ v.1 = v.1 ∧ v.2.1 = v.2.1 ∧ v.2.2.1 = v.2.2.1 ∧ v.2.2.2 = v.2.2.2 ∧ (if varD v then rollsTo (Int.toNat v.2.2.2) else []) = (if varD v then rollsTo (Int.toNat v.2.2.2) else []) ∧ b.1 = b.1 ∧ b.2 = b.2) ∧ (([] = List.map (fun r => (List.length (allD v b r) : Int)) (List.take (Int.toNat (0 : Int)) (rollsTo (Int.toNat v.2.2.2))) ∧ List.all (List.take (Int.toNat (0 : Int)) (rollsTo (Int.toNat v.2.2.2))) (fun r => List.all (ordersD r) (fitsP v b)) = true) ∧ 0 ≤ (0 : Int) ∧ (0 : Int) ≤ (List.length (rollsTo (Int.toNat v.2.2.2)) : Int))) ∧ (∀ n : Int, ∀ i : Int, ∀ t2_0 : Int, ∀ t2_1 : Int, ∀ t2_2 : Int, ∀ t2_3 : Int, ∀ counts : List Int, ∀ rolls : List (Int × Int), ∀ t3_0 : List Int, ∀ t3_1 : List Int, ((((if varD v then rollsTo (Int.toNat v.2.2.2) else []).length : Int) = n ∧ v.1 = t2_0 ∧ v.2.1 = t2_1 ∧ v.2.2.1 = t2_2 ∧ v.2.2.2 = t2_3 ∧ (if varD v then rollsTo (Int.toNat v.2.2.2) else []) = rolls ∧ b.1 = t3_0 ∧ b.2 = t3_1) ∧ ((counts = List.map (fun r => (List.length (allD v b r) : Int)) (List.take (Int.toNat i) (rollsTo (Int.toNat v.2.2.2))) ∧ List.all (List.take (Int.toNat i) (rollsTo (Int.toNat v.2.2.2))) (fun r => List.all (ordersD r) (fitsP v b)) = true) ∧ 0 ≤ i ∧ i ≤ (List.length (rollsTo (Int.toNat v.2.2.2)) : Int))) → (bsp (decide (i < n)) ((0 ≤ i ∧ i < (rolls.length : Int)) ∧ ((i.toNat < rolls.length) ∧ ((okB (t2_0, t2_1, t2_2, t2_3) (t3_0, t3_1) ∧ rollD (t2_0, t2_1, t2_2, t2_3) (rolls.getD i.toNat (0, 0)) = true) ∧ (bsp (!(List.all (ordersD (rolls.getD i.toNat (0, 0))) (fitsP (t2_0, t2_1, t2_2, t2_3) (t3_0, t3_1)))) (@Eq (HO c_impl_PlayCounts.outs) ([], 3, ()) (c_impl_PlayCounts.out (v, b, ()))) ((counts.length + ([((if List.all (ordersD (rolls.getD i.toNat (0, 0))) (fitsP (t2_0, t2_1, t2_2, t2_3) (t3_0, t3_1)) then allD (t2_0, t2_1, t2_2, t2_3) (t3_0, t3_1) (rolls.getD i.toNat (0, 0)) else []).length : Int)] : List Int).length ≤ AB) ∧ ((inK .i64 (i + 1)) ∧ (((((if varD v then rollsTo (Int.toNat v.2.2.2) else []).length : Int) = n ∧ v.1 = t2_0 ∧ v.2.1 = t2_1 ∧ v.2.2.1 = t2_2 ∧ v.2.2.2 = t2_3 ∧ (if varD v then rollsTo (Int.toNat v.2.2.2) else []) = rolls ∧ b.1 = t3_0 ∧ b.2 = t3_1) ∧ (((counts ++ [((if List.all (ordersD (rolls.getD i.toNat (0, 0))) (fitsP (t2_0, t2_1, t2_2, t2_3) (t3_0, t3_1)) then allD (t2_0, t2_1, t2_2, t2_3) (t3_0, t3_1) (rolls.getD i.toNat (0, 0)) else []).length : Int)]) = List.map (fun r => (List.length (allD v b r) : Int)) (List.take (Int.toNat (i + 1)) (rollsTo (Int.toNat v.2.2.2))) ∧ List.all (List.take (Int.toNat (i + 1)) (rollsTo (Int.toNat v.2.2.2))) (fun r => List.all (ordersD r) (fitsP v b)) = true) ∧ 0 ≤ (i + 1) ∧ (i + 1) ≤ (List.length (rollsTo (Int.toNat v.2.2.2)) : Int))) ∧ ((Int.toNat ((List.length (rollsTo (Int.toNat v.2.2.2)) : Int) - (i + 1)) : Nat) < Int.toNat ((List.length (rollsTo (Int.toNat v.2.2.2)) : Int) - i))))))))) (@Eq (HO c_impl_PlayCounts.outs) (counts, 0, ()) (c_impl_PlayCounts.out (v, b, ()))))))))))) (by kernel_rfl) ?_
  rintro v b hp hl
  refine ⟨trivial, bspB (fun h => by simp_all [c_impl_PlayCounts, countsD]) (fun hbd => ?_)⟩
  have hbo : boardD v b = true := by simpa using hbd
  have hb := okB_of hbo
  have hv := hb.1
  have hn := rolls36 hv
  simp only [hv, if_true]
  refine ⟨trivial, ⟨(by first | trivial | rfl | (and_intros <;> rfl)), ⟨by simp, by simp⟩, by omega, by omega⟩, ?_⟩
  rintro n i t2_0 t2_1 t2_2 t2_3 counts rolls t3_0 t3_1 ⟨⟨rfl, rfl, rfl, rfl, rfl, rfl, rfl, rfl⟩, ⟨⟨hc, hf⟩, i0, i1⟩⟩
  simp only [Prod.eta]
  refine bspD (fun hlt => ?_) (fun hge => ?_)
  · obtain ⟨k, rfl⟩ : ∃ k : Nat, i = k := ⟨i.toNat, by omega⟩
    simp only [Int.toNat_natCast] at hc hf ⊢
    have hk : k < (rollsTo v.2.2.2.toNat).length := by omega
    have hro := rollsTo_ok hv (getD_mem hk (0, 0))
    have t1 := take_map_succ (fun r => ((allD v b r).length : Int)) hk (0, 0)
    have t2 := take_all_succ (fun r => (ordersD r).all (fitsP v b)) hk (0, 0)
    rw [← hc] at t1
    rw [hf, Bool.true_and] at t2
    have hlen : counts.length = k := by rw [hc]; simp; omega
    have hal := allD_len hb hro
    have e : ((k : Int) + 1).toNat = k + 1 := by omega
    rw [e]
    have bad : (ordersD ((rollsTo v.2.2.2.toNat).getD k (0, 0))).all (fitsP v b) = false → (rollsTo v.2.2.2.toNat).all (fun r => (ordersD r).all (fitsP v b)) = false := fun h => by
      rw [Bool.eq_false_iff]; intro hall
      have := (List.all_eq_true.1 hall) _ (getD_mem hk (0, 0))
      rw [h] at this; cases this
    refine ⟨⟨by omega, by omega⟩, hk, ⟨hb, hro⟩, bspB (fun g => ?_) (fun g => ?_)⟩
    · simp only [Bool.not_eq_true'] at g
      simp only [c_impl_PlayCounts, countsD, hbo, bad g]; rfl
    · simp only [Bool.not_eq_false'] at g
      simp only [g, if_true]
      exact ⟨by simp [AB]; omega, by simp only [inK]; omega, ⟨(by first | trivial | rfl | (and_intros <;> rfl)), ⟨t1.symm, by rw [t2, g]⟩, by omega, by omega⟩, by omega⟩
  · rw [List.take_of_length_le (by omega)] at hc hf
    simp only [c_impl_PlayCounts, countsD, hbo, hf, hc]; rfl
def c_spec_PlayCounts : Con where
  ins := [(true, .v tVar), (true, .v tBoard)]
  outs := [(false, .own 2 tI), (false, .v tI)]
  sh := false
  pre := fun _ => True
  out := fun x => ((countsD x.1 x.2.1).1, (countsD x.1 x.2.1).2, ())
  upd := fun x => x
theorem k_spec_PlayCounts : ConOk Try.prog 7 c_spec_PlayCounts := by
  refine fn_okW (C := cx Try.prog 44 c_spec_PlayCounts) (cs := [(20, c_spec_IsBoard), (21, c_spec_l07All), (22, c_spec_l05All)]) (res := Try.f7.results.toList) (fun x => ⟨[{ sh := ⟨[(2, .one (.ref 0)), (3, .one (.ref 1)), (6, .one (.ref 2)), (7, .one (.ref 3)), (8, .one (.i .i64))], [(0, .box [.i .i64, .i .i64, .i .i64, .i .i64]), (1, .box [.ref 4, .ref 5]), (2, .own 2 tI true), (3, .imm tRoll true), (4, .imm tI false), (5, .imm tI false)]⟩, nx := 6, I := fun _ dat_ => (x.1.1 = dat_.2.1.1 ∧ x.1.2.1 = dat_.2.1.2.1 ∧ x.1.2.2.1 = dat_.2.1.2.2.1 ∧ x.1.2.2.2 = dat_.2.1.2.2.2.1 ∧ rollsTo (Int.toNat x.1.2.2.2) = dat_.2.2.2.2.1 ∧ x.2.1.1 = dat_.2.2.2.2.2.1 ∧ x.2.1.2 = dat_.2.2.2.2.2.2.1) ∧ ((dat_.2.2.2.1 = List.map (fun r => (List.length (allD x.1 x.2.1 r) : Int)) (List.take (Int.toNat dat_.1.2.2.2.2.1) (rollsTo (Int.toNat x.1.2.2.2))) ∧ List.all (List.take (Int.toNat dat_.1.2.2.2.2.1) (rollsTo (Int.toNat x.1.2.2.2))) (fun r => List.all (ordersD r) (fitsP x.1 x.2.1)) = true) ∧ 0 ≤ dat_.1.2.2.2.2.1 ∧ dat_.1.2.2.2.2.1 ≤ (List.length (rollsTo (Int.toNat x.1.2.2.2)) : Int)), mu := fun dat_ => Int.toNat ((List.length (rollsTo (Int.toNat x.1.2.2.2)) : Int) - dat_.1.2.2.2.2.1) }], [(8, ⟨[[], [], [], [], [2, 3], [2, 3, 4], [0, 1, 2, 3, 4, 5], [0, 1, 2, 3, 4, 5, 6], [0, 1, 2, 3, 4, 5, 6, 7], [0, 1, 2, 3, 4, 5, 6, 7], [0, 1, 2, 3, 4, 5, 6, 7, 8], [0, 1, 2, 3, 4, 5, 6, 7, 8, 9, 10]], [[1, 2, 3, 4, 5], [0, 2, 3, 4, 5], [0, 1, 3], [0, 1, 2], [0, 1], [0, 1], [], [], [9], [8, 10], [9], []], []⟩)], []⟩) Try.func7 (by kernel_rfl) rfl rfl rfl tysOk.look eqTsOk.look (AllCs.ok (l := [(20, c_spec_IsBoard), (21, c_spec_l07All), (22, c_spec_l05All)]) ⟨k_spec_IsBoard, k_spec_l07All, k_spec_l05All, trivial⟩) mixed rfl rfl rfl ?_
  refine of_nf (P := ∀ v : Int × Int × Int × Int, ∀ b : (List Int) × List Int, (True) → ((lensI c_spec_PlayCounts.ins (v, b, ())) → (True ∧ (bsp (!(boardD v b)) (@Eq (HO c_spec_PlayCounts.outs) ([], 1, ()) (c_spec_PlayCounts.out (v, b, ()))) ((varD v = true) ∧ (((v.1 = v.1 ∧ v.2.1 = v.2.1 ∧ v.2.2.1 = v.2.2.1 ∧ v.2.2.2 = v.2.2.2 ∧ rollsTo (Int.toNat v.2.2.2) = (rollsTo (Int.toNat v.2.2.2)) ∧ b.1 = b.1 ∧ b.2 = b.2) ∧ (([] = List.map (fun r => (List.length (allD v b r) : Int)) (List.take (Int.toNat (0 : Int)) (rollsTo (Int.toNat v.2.2.2))) ∧ List.all (List.take (Int.toNat (0 : Int)) (rollsTo (Int.toNat v.2.2.2))) (fun r => List.all (ordersD r) (fitsP v b)) = true) ∧ 0 ≤ (0 : Int) ∧ (0 : Int) ≤ (List.length (rollsTo (Int.toNat v.2.2.2)) : Int))) ∧ (∀ i : Int, ∀ t2_0 : Int, ∀ t2_1 : Int, ∀ t2_2 : Int, ∀ t2_3 : Int, ∀ counts : List Int, ∀ rolls : List (Int × Int), ∀ t3_0 : List Int, ∀ t3_1 : List Int, ((v.1 = t2_0 ∧ v.2.1 = t2_1 ∧ v.2.2.1 = t2_2 ∧ v.2.2.2 = t2_3 ∧ rollsTo (Int.toNat v.2.2.2) = rolls ∧ b.1 = t3_0 ∧ b.2 = t3_1) ∧ ((counts = List.map (fun r => (List.length (allD v b r) : Int)) (List.take (Int.toNat i) (rollsTo (Int.toNat v.2.2.2))) ∧ List.all (List.take (Int.toNat i) (rollsTo (Int.toNat v.2.2.2))) (fun r => List.all (ordersD r) (fitsP v b)) = true) ∧ 0 ≤ i ∧ i ≤ (List.length (rollsTo (Int.toNat v.2.2.2)) : Int))) → (bsp (decide (i < (rolls.length : Int))) ((0 ≤ i ∧ i < (rolls.length : Int)) ∧ ((i.toNat < rolls.length) ∧ ((okB (t2_0, t2_1, t2_2, t2_3) (t3_0, t3_1) ∧ rollD (t2_0, t2_1, t2_2, t2_3) (rolls.getD i.toNat (0, 0)) = true) ∧ (bsp (!(List.all (ordersD (rolls.getD i.toNat (0, 0))) (fitsP (t2_0, t2_1, t2_2, t2_3) (t3_0, t3_1)))) (@Eq (HO c_spec_PlayCounts.outs) ([], 3, ()) (c_spec_PlayCounts.out (v, b, ()))) ((counts.length + ([((allD (t2_0, t2_1, t2_2, t2_3) (t3_0, t3_1) (rolls.getD i.toNat (0, 0))).length : Int)] : List Int).length ≤ AB) ∧ ((inK .i64 (i + 1)) ∧ (((v.1 = t2_0 ∧ v.2.1 = t2_1 ∧ v.2.2.1 = t2_2 ∧ v.2.2.2 = t2_3 ∧ rollsTo (Int.toNat v.2.2.2) = rolls ∧ b.1 = t3_0 ∧ b.2 = t3_1) ∧ (((counts ++ [((allD (t2_0, t2_1, t2_2, t2_3) (t3_0, t3_1) (rolls.getD i.toNat (0, 0))).length : Int)]) = List.map (fun r => (List.length (allD v b r) : Int)) (List.take (Int.toNat (i + 1)) (rollsTo (Int.toNat v.2.2.2))) ∧ List.all (List.take (Int.toNat (i + 1)) (rollsTo (Int.toNat v.2.2.2))) (fun r => List.all (ordersD r) (fitsP v b)) = true) ∧ 0 ≤ (i + 1) ∧ (i + 1) ≤ (List.length (rollsTo (Int.toNat v.2.2.2)) : Int))) ∧ ((Int.toNat ((List.length (rollsTo (Int.toNat v.2.2.2)) : Int) - (i + 1)) : Nat) < Int.toNat ((List.length (rollsTo (Int.toNat v.2.2.2)) : Int) - i))))))))) (@Eq (HO c_spec_PlayCounts.outs) (counts, 0, ()) (c_spec_PlayCounts.out (v, b, ()))))))))))) (by kernel_rfl) ?_
  rintro v b hp hl
  refine ⟨trivial, bspB (fun h => by simp_all [c_spec_PlayCounts, countsD]) (fun hbd => ?_)⟩
  have hbo : boardD v b = true := by simpa using hbd
  have hb := okB_of hbo
  have hv := hb.1
  have hn := rolls36 hv
  refine ⟨hv, ⟨(by first | trivial | rfl | (and_intros <;> rfl)), ⟨by simp, by simp⟩, by omega, by omega⟩, ?_⟩
  rintro i t2_0 t2_1 t2_2 t2_3 counts rolls t3_0 t3_1 ⟨⟨rfl, rfl, rfl, rfl, rfl, rfl, rfl⟩, ⟨⟨hc, hf⟩, i0, i1⟩⟩
  simp only [Prod.eta]
  refine bspD (fun hlt => ?_) (fun hge => ?_)
  · obtain ⟨k, rfl⟩ : ∃ k : Nat, i = k := ⟨i.toNat, by omega⟩
    simp only [Int.toNat_natCast] at hc hf ⊢
    have hk : k < (rollsTo v.2.2.2.toNat).length := by omega
    have hro := rollsTo_ok hv (getD_mem hk (0, 0))
    have t1 := take_map_succ (fun r => ((allD v b r).length : Int)) hk (0, 0)
    have t2 := take_all_succ (fun r => (ordersD r).all (fitsP v b)) hk (0, 0)
    rw [← hc] at t1
    rw [hf, Bool.true_and] at t2
    have hlen : counts.length = k := by rw [hc]; simp; omega
    have hal := allD_len hb hro
    have e : ((k : Int) + 1).toNat = k + 1 := by omega
    rw [e]
    have bad : (ordersD ((rollsTo v.2.2.2.toNat).getD k (0, 0))).all (fitsP v b) = false → (rollsTo v.2.2.2.toNat).all (fun r => (ordersD r).all (fitsP v b)) = false := fun h => by
      rw [Bool.eq_false_iff]; intro hall
      have := (List.all_eq_true.1 hall) _ (getD_mem hk (0, 0))
      rw [h] at this; cases this
    refine ⟨⟨by omega, by omega⟩, hk, ⟨hb, hro⟩, bspB (fun g => ?_) (fun g => ?_)⟩
    · simp only [Bool.not_eq_true'] at g
      simp only [c_spec_PlayCounts, countsD, hbo, bad g]; rfl
    · simp only [Bool.not_eq_false'] at g
      skip
      exact ⟨by simp [AB]; omega, by simp only [inK]; omega, ⟨(by first | trivial | rfl | (and_intros <;> rfl)), ⟨t1.symm, by rw [t2, g]⟩, by omega, by omega⟩, by omega⟩
  · rw [List.take_of_length_le (by omega)] at hc hf
    simp only [c_spec_PlayCounts, countsD, hbo, hf, hc]; rfl
end Go.Proofs.Ytfbbclejoacioaa
