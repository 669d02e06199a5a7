/-
  Contracts and laws: AllPlays, IsForced, PlayCounts, FindPlay.
-/
import Derived.Test.YtnffbihkmnfllaaVAll
import Derived.Test.YtnffbihkmnfllaaAbL
namespace Go.Proofs.Ytnffbihkmnfllaa
open Go.RowKit
set_option linter.unusedSimpArgs false
set_option linter.unusedVariables false
def allPlaysD (v : DVar) (b : DBoard) (r : DRoll) : List DPlay × Int :=
  if codeD v b r ≠ 0 then ([], codeD v b r) else if (ordersD r).all (fitsP v b) then (allD v b r, 0) else ([], 3)
def forcedD (v : DVar) (b : DBoard) (r : DRoll) : Bool × Int := (decide (((allPlaysD v b r).1.length : Int) = 1), (allPlaysD v b r).2)
def findPlayD (v : DVar) (b : DBoard) (r : DRoll) (c : DBoard) : Int × Int :=
  if (allPlaysD v b r).2 ≠ 0 then (0, (allPlaysD v b r).2) else if findD (allPlaysD v b r).1 c < 0 then (0, 4) else (findD (allPlaysD v b r).1 c, 0)
def countsD (v : DVar) (b : DBoard) : List Int × Int :=
  if boardD v b = false then ([], 1) else if (rollsTo v.2.2.2.toNat).all (fun r => (ordersD r).all (fitsP v b)) then ((rollsTo v.2.2.2.toNat).map (fun r => ((allD v b r).length : Int)), 0) else ([], 3)
theorem allPlaysD_nil {v : DVar} {b : DBoard} {r : DRoll} (h : (allPlaysD v b r).2 ≠ 0) : (allPlaysD v b r).1 = [] := by
  unfold allPlaysD at h ⊢
  split
  · rfl
  · split
    · next h1 h2 => rw [if_neg h1, if_pos h2] at h; exact absurd rfl h
    · rfl
theorem allPlaysD_len (v : DVar) (b : DBoard) (r : DRoll) : (allPlaysD v b r).1.length ≤ 781250 := by
  unfold allPlaysD
  split
  · simp
  · next h =>
    split
    · have := codeD_ok (by simpa using h : codeD v b r = 0)
      exact allD_len this.1 this.2
    · simp
theorem countsD_len (v : DVar) (b : DBoard) (h : varD v = true → (rollsTo v.2.2.2.toNat).length ≤ 36) : (countsD v b).1.length ≤ 36 := by
  unfold countsD
  split
  · simp
  · next hb =>
    split
    · simp only [List.length_map]
      exact h (boardD_bd (by simpa using hb)).1
    · simp
theorem rolls36 {v : DVar} (hv : varD v = true) : (rollsTo v.2.2.2.toNat).length ≤ 36 := by
  have := (varD_iff.1 hv).2.2.2
  have := rollsTo_len v.2.2.2.toNat (by omega)
  omega
def c_impl_AllPlays : Con where
  ins := [(true, .v tVar), (true, .v tBoard), (true, .v tRoll)]
  outs := [(false, .v (.sl tPlay)), (false, .v tI)]
  sh := false
  pre := fun _ => True
  out := fun x => ((allPlaysD x.1 x.2.1 x.2.2.1).1, (allPlaysD x.1 x.2.1 x.2.2.1).2, ())
  upd := fun x => x
theorem k_impl_AllPlays : ConOk Try.prog 52 c_impl_AllPlays := by
  refine fn_okW (C := cx Try.prog 28 c_impl_AllPlays) (cs := [(96, c_impl_checkRoll), (100, c_impl_allPlays)]) (res := Try.f52.results.toList) (fun _ => ⟨[], [], []⟩) Try.func52 (by kernel_rfl) rfl rfl rfl tysOk.look eqTsOk.look (AllCs.ok (l := [(96, c_impl_checkRoll), (100, c_impl_allPlays)]) ⟨k_impl_checkRoll, k_impl_allPlays, trivial⟩) mixed rfl rfl rfl ?_
  refine of_nf (P := ∀ v : Int × Int × Int × Int, ∀ b : (List Int) × List Int, ∀ r : Int × Int, (True) → ((lensI c_impl_AllPlays.ins (v, b, r, ())) → (True ∧ (bsp (decide ((codeD v b r) ≠ (0 : Int))) (@Eq (HO c_impl_AllPlays.outs) ([], codeD v b r, ()) (c_impl_AllPlays.out (v, b, r, ()))) ((okB v b ∧ rollD v r = true) ∧ (bsp (!(List.all (ordersD r) (fitsP v b))) (@Eq (HO c_impl_AllPlays.outs) ([], 3, ()) (c_impl_AllPlays.out (v, b, r, ()))) (@Eq (HO c_impl_AllPlays.outs) ((if List.all (ordersD r) (fitsP v b) then allD v b r else []), 0, ()) (c_impl_AllPlays.out (v, b, r, ()))))))))) (by kernel_rfl) ?_
  rintro v b r hp hl
  refine ⟨trivial, bspD (fun h => ?_) (fun h => ?_)⟩
  · simp only [c_impl_AllPlays, allPlaysD, if_pos h]
  · have h0 : codeD v b r = 0 := by simpa using h
    refine ⟨codeD_ok h0, bspB (fun g => ?_) (fun g => ?_)⟩
    · simp only [Bool.not_eq_true'] at g
      simp only [c_impl_AllPlays, allPlaysD, if_neg h, g, if_false]; rfl
    · simp only [Bool.not_eq_false'] at g
      simp only [c_impl_AllPlays, allPlaysD, if_neg h, g, if_true]
def c_spec_AllPlays : Con where
  ins := [(true, .v tVar), (true, .v tBoard), (true, .v tRoll)]
  outs := [(false, .v (.sl tPlay)), (false, .v tI)]
  sh := false
  pre := fun _ => True
  out := fun x => ((allPlaysD x.1 x.2.1 x.2.2.1).1, (allPlaysD x.1 x.2.1 x.2.2.1).2, ())
  upd := fun x => x
theorem k_spec_AllPlays : ConOk Try.prog 51 c_spec_AllPlays := by
  refine fn_okW (C := cx Try.prog 30 c_spec_AllPlays) (cs := [(95, c_spec_l05Code), (99, c_spec_l05All)]) (res := Try.f51.results.toList) (fun _ => ⟨[], [], []⟩) Try.func51 (by kernel_rfl) rfl rfl rfl tysOk.look eqTsOk.look (AllCs.ok (l := [(95, c_spec_l05Code), (99, c_spec_l05All)]) ⟨k_spec_l05Code, k_spec_l05All, trivial⟩) mixed rfl rfl rfl ?_
  refine of_nf (P := ∀ v : Int × Int × Int × Int, ∀ b : (List Int) × List Int, ∀ r : Int × Int, (True) → ((lensI c_spec_AllPlays.ins (v, b, r, ())) → (True ∧ (bsp (decide ((codeD v b r) ≠ (0 : Int))) (@Eq (HO c_spec_AllPlays.outs) ([], codeD v b r, ()) (c_spec_AllPlays.out (v, b, r, ()))) ((okB v b ∧ rollD v r = true) ∧ (bsp (!(List.all (ordersD r) (fitsP v b))) (@Eq (HO c_spec_AllPlays.outs) ([], 3, ()) (c_spec_AllPlays.out (v, b, r, ()))) (@Eq (HO c_spec_AllPlays.outs) (allD v b r, 0, ()) (c_spec_AllPlays.out (v, b, r, ()))))))))) (by kernel_rfl) ?_
  rintro v b r hp hl
  refine ⟨trivial, bspD (fun h => ?_) (fun h => ?_)⟩
  · simp only [c_spec_AllPlays, allPlaysD, if_pos h]
  · have h0 : codeD v b r = 0 := by simpa using h
    refine ⟨codeD_ok h0, bspB (fun g => ?_) (fun g => ?_)⟩
    · simp only [Bool.not_eq_true'] at g
      simp only [c_spec_AllPlays, allPlaysD, if_neg h, g, if_false]; rfl
    · simp only [Bool.not_eq_false'] at g
      simp only [c_spec_AllPlays, allPlaysD, if_neg h, g, if_true]
def c_impl_IsForced : Con where
  ins := [(true, .v tVar), (true, .v tBoard), (true, .v tRoll)]
  outs := [(false, .v .b), (false, .v tI)]
  sh := false
  pre := fun _ => True
  out := fun x => ((forcedD x.1 x.2.1 x.2.2.1).1, (forcedD x.1 x.2.1 x.2.2.1).2, ())
  upd := fun x => x
theorem k_impl_IsForced : ConOk Try.prog 42 c_impl_IsForced := by
  refine fn_okW (C := cx Try.prog 25 c_impl_IsForced) (cs := [(52, c_impl_AllPlays)]) (res := Try.f42.results.toList) (fun _ => ⟨[], [], []⟩) Try.func42 (by kernel_rfl) rfl rfl rfl tysOk.look eqTsOk.look (AllCs.ok (l := [(52, c_impl_AllPlays)]) ⟨k_impl_AllPlays, trivial⟩) mixed rfl rfl rfl ?_
  refine of_nf (P := ∀ v : Int × Int × Int × Int, ∀ b : (List Int) × List Int, ∀ r : Int × Int, (True) → ((lensI c_impl_IsForced.ins (v, b, r, ())) → (True ∧ (bsp (decide ((allPlaysD v b r).2 = (0 : Int))) (@Eq (HO c_impl_IsForced.outs) ((decide (((allPlaysD v b r).1.length : Int) = (1 : Int))), (allPlaysD v b r).2, ()) (c_impl_IsForced.out (v, b, r, ()))) (@Eq (HO c_impl_IsForced.outs) (false, (allPlaysD v b r).2, ()) (c_impl_IsForced.out (v, b, r, ()))))))) (by kernel_rfl) ?_
  rintro v b r hp hl
  refine ⟨trivial, bspD (fun h => ?_) (fun h => ?_)⟩
  · rfl
  · simp only [c_impl_IsForced, forcedD, allPlaysD_nil h]; rfl
def c_spec_IsForced : Con where
  ins := [(true, .v tVar), (true, .v tBoard), (true, .v tRoll)]
  outs := [(false, .v .b), (false, .v tI)]
  sh := false
  pre := fun _ => True
  out := fun x => ((forcedD x.1 x.2.1 x.2.2.1).1, (forcedD x.1 x.2.1 x.2.2.1).2, ())
  upd := fun x => x
theorem k_spec_IsForced : ConOk Try.prog 41 c_spec_IsForced := by
  refine fn_okW (C := cx Try.prog 21 c_spec_IsForced) (cs := [(51, c_spec_AllPlays)]) (res := Try.f41.results.toList) (fun _ => ⟨[], [], []⟩) Try.func41 (by kernel_rfl) rfl rfl rfl tysOk.look eqTsOk.look (AllCs.ok (l := [(51, c_spec_AllPlays)]) ⟨k_spec_AllPlays, trivial⟩) mixed rfl rfl rfl ?_
  refine of_nf (P := ∀ v : Int × Int × Int × Int, ∀ b : (List Int) × List Int, ∀ r : Int × Int, (True) → ((lensI c_spec_IsForced.ins (v, b, r, ())) → (True ∧ (@Eq (HO c_spec_IsForced.outs) ((decide (((allPlaysD v b r).1.length : Int) = (1 : Int))), (allPlaysD v b r).2, ()) (c_spec_IsForced.out (v, b, r, ())))))) (by kernel_rfl) ?_
  rintro v b r hp hl
  exact ⟨trivial, rfl⟩
def c_impl_FindPlay : Con where
  ins := [(true, .v tVar), (true, .v tBoard), (true, .v tRoll), (true, .v tBoard)]
  outs := [(false, .v tI), (false, .v tI)]
  sh := false
  pre := fun _ => True
  out := fun x => ((findPlayD x.1 x.2.1 x.2.2.1 x.2.2.2.1).1, (findPlayD x.1 x.2.1 x.2.2.1 x.2.2.2.1).2, ())
  upd := fun x => x
theorem k_impl_FindPlay : ConOk Try.prog 50 c_impl_FindPlay := by
  refine fn_okW (C := cx Try.prog 37 c_impl_FindPlay) (cs := [(52, c_impl_AllPlays), (102, c_impl_sameBoard)]) (res := Try.f50.results.toList) (fun x => ⟨[{ sh := ⟨[(7, .one (.ref 0)), (24, .one (.ref 1)), (25, .one (.i .i64)), (26, .one (.i .i64))], [(0, .box [.ref 2, .ref 3]), (1, .imm tPlay true), (2, .imm tI false), (3, .imm tI false)]⟩, nx := 4, I := fun _ dat_ => (((allPlaysD x.1 x.2.1 x.2.2.1).1.length : Int) = dat_.1.2.2.1 ∧ (allPlaysD x.1 x.2.1 x.2.2.1).1 = dat_.2.2.1 ∧ x.2.2.2.1.1 = dat_.2.2.2.1 ∧ x.2.2.2.1.2 = dat_.2.2.2.2.1) ∧ ((∀ j, j < Int.toNat dat_.1.2.2.2.1 → (List.getD (allPlaysD x.1 x.2.1 x.2.2.1).1 j ([], [], [])).2 ≠ x.2.2.2.1) ∧ 0 ≤ dat_.1.2.2.2.1 ∧ dat_.1.2.2.2.1 ≤ (List.length (allPlaysD x.1 x.2.1 x.2.2.1).1 : Int)), mu := fun dat_ => Int.toNat ((List.length (allPlaysD x.1 x.2.1 x.2.2.1).1 : Int) - dat_.1.2.2.2.1) }], [], []⟩) Try.func50 (by kernel_rfl) rfl rfl rfl tysOk.look eqTsOk.look (AllCs.ok (l := [(52, c_impl_AllPlays), (102, c_impl_sameBoard)]) ⟨k_impl_AllPlays, k_impl_sameBoard, trivial⟩) mixed rfl rfl rfl ?_
  refine of_nf (P := ∀ v : Int × Int × Int × Int, ∀ b : (List Int) × List Int, ∀ r : Int × Int, ∀ c : (List Int) × List Int, (True) → ((lensI c_impl_FindPlay.ins (v, b, r, c, ())) → (True ∧ (bsp (decide ((allPlaysD v b r).2 ≠ (0 : Int))) (@Eq (HO c_impl_FindPlay.outs) (0, (allPlaysD v b r).2, ()) (c_impl_FindPlay.out (v, b, r, c, ()))) (((((allPlaysD v b r).1.length : Int) = ((allPlaysD v b r).1.length : Int) ∧ (allPlaysD v b r).1 = (allPlaysD v b r).1 ∧ c.1 = c.1 ∧ c.2 = c.2) ∧ ((∀ j, j < Int.toNat (0 : Int) → (List.getD (allPlaysD v b r).1 j ([], [], [])).2 ≠ c) ∧ 0 ≤ (0 : Int) ∧ (0 : Int) ≤ (List.length (allPlaysD v b r).1 : Int))) ∧ (∀ n : Int, ∀ i : Int, ∀ ps : List ((List (Int × Int × Int × Bool)) × (List Int) × List Int), ∀ t7_0 : List Int, ∀ t7_1 : List Int, ((((allPlaysD v b r).1.length : Int) = n ∧ (allPlaysD v b r).1 = ps ∧ c.1 = t7_0 ∧ c.2 = t7_1) ∧ ((∀ j, j < Int.toNat i → (List.getD (allPlaysD v b r).1 j ([], [], [])).2 ≠ c) ∧ 0 ≤ i ∧ i ≤ (List.length (allPlaysD v b r).1 : Int))) → (bsp (decide (i < n)) ((0 ≤ i ∧ i < (ps.length : Int)) ∧ ((i.toNat < ps.length) ∧ (True ∧ (bsp (sameD (ps.getD i.toNat ([], [], [])).2 (t7_0, t7_1)) (@Eq (HO c_impl_FindPlay.outs) (i, 0, ()) (c_impl_FindPlay.out (v, b, r, c, ()))) ((inK .i64 (i + 1)) ∧ (((((allPlaysD v b r).1.length : Int) = n ∧ (allPlaysD v b r).1 = ps ∧ c.1 = t7_0 ∧ c.2 = t7_1) ∧ ((∀ j, j < Int.toNat (i + 1) → (List.getD (allPlaysD v b r).1 j ([], [], [])).2 ≠ c) ∧ 0 ≤ (i + 1) ∧ (i + 1) ≤ (List.length (allPlaysD v b r).1 : Int))) ∧ ((Int.toNat ((List.length (allPlaysD v b r).1 : Int) - (i + 1)) : Nat) < Int.toNat ((List.length (allPlaysD v b r).1 : Int) - i)))))))) (@Eq (HO c_impl_FindPlay.outs) (0, 4, ()) (c_impl_FindPlay.out (v, b, r, c, ())))))))))) (by kernel_rfl) ?_
  rintro v b r c hp hl
  refine ⟨trivial, bspD (fun h => ?_) (fun h => ⟨⟨(by first | trivial | rfl | (and_intros <;> rfl)), fun j hj => by simp at hj, by omega, by omega⟩, ?_⟩)⟩
  · simp only [c_impl_FindPlay, findPlayD, if_pos h]
  have hlen := allPlaysD_len v b r
  rintro n i ps t7_0 t7_1 ⟨⟨rfl, rfl, rfl, rfl⟩, ⟨hs, i0, i1⟩⟩
  simp only [Prod.eta]
  refine bspD (fun hlt => ?_) (fun hge => ?_)
  · obtain ⟨k, rfl⟩ : ∃ k : Nat, i = k := ⟨i.toNat, by omega⟩
    simp only [Int.toNat_natCast] at hs ⊢
    have hk : k < (allPlaysD v b r).1.length := by omega
    refine ⟨⟨by omega, by omega⟩, hk, trivial, ?_⟩
    rw [sameD_iff]
    refine bspD (fun hy => ?_) (fun hn => ⟨by simp only [inK]; omega, ⟨(by first | trivial | rfl | (and_intros <;> rfl)), fun j hj => ?_, by omega, by omega⟩, by omega⟩)
    · have e := findD_some hk hs hy
      simp only [c_impl_FindPlay, findPlayD, if_neg h, e, if_neg (by omega : ¬ ((k : Int) < 0))]
    · by_cases e : j = k
      · subst e; exact hn
      · exact hs j (by omega)
  · have e := findD_none (ps := (allPlaysD v b r).1) (b := c) fun j hj => hs j (by omega)
    simp only [c_impl_FindPlay, findPlayD, if_neg h, e]; rfl
def c_spec_FindPlay : Con where
  ins := [(true, .v tVar), (true, .v tBoard), (true, .v tRoll), (true, .v tBoard)]
  outs := [(false, .v tI), (false, .v tI)]
  sh := false
  pre := fun _ => True
  out := fun x => ((findPlayD x.1 x.2.1 x.2.2.1 x.2.2.2.1).1, (findPlayD x.1 x.2.1 x.2.2.1 x.2.2.2.1).2, ())
  upd := fun x => x
theorem k_spec_FindPlay : ConOk Try.prog 49 c_spec_FindPlay := by
  refine fn_okW (C := cx Try.prog 29 c_spec_FindPlay) (cs := [(51, c_spec_AllPlays), (101, c_spec_l05Find)]) (res := Try.f49.results.toList) (fun _ => ⟨[], [], []⟩) Try.func49 (by kernel_rfl) rfl rfl rfl tysOk.look eqTsOk.look (AllCs.ok (l := [(51, c_spec_AllPlays), (101, c_spec_l05Find)]) ⟨k_spec_AllPlays, k_spec_l05Find, trivial⟩) mixed rfl rfl rfl ?_
  refine of_nf (P := ∀ v : Int × Int × Int × Int, ∀ b : (List Int) × List Int, ∀ r : Int × Int, ∀ c : (List Int) × List Int, (True) → ((lensI c_spec_FindPlay.ins (v, b, r, c, ())) → (True ∧ (bsp (decide ((allPlaysD v b r).2 ≠ (0 : Int))) (@Eq (HO c_spec_FindPlay.outs) (0, (allPlaysD v b r).2, ()) (c_spec_FindPlay.out (v, b, r, c, ()))) (True ∧ (bsp (decide ((findD (allPlaysD v b r).1 c) < (0 : Int))) (@Eq (HO c_spec_FindPlay.outs) (0, 4, ()) (c_spec_FindPlay.out (v, b, r, c, ()))) (@Eq (HO c_spec_FindPlay.outs) (findD (allPlaysD v b r).1 c, 0, ()) (c_spec_FindPlay.out (v, b, r, c, ()))))))))) (by kernel_rfl) ?_
  rintro v b r c hp hl
  refine ⟨trivial, bspD (fun h => ?_) (fun h => ⟨trivial, bspD (fun g => ?_) (fun g => ?_)⟩)⟩
  · simp only [c_spec_FindPlay, findPlayD, if_pos h]
  · simp only [c_spec_FindPlay, findPlayD, if_neg h, if_pos g]
  · simp only [c_spec_FindPlay, findPlayD, if_neg h, if_neg g]
def c_impl_PlayCounts : Con where
  ins := [(true, .v tVar), (true, .v tBoard)]
  outs := [(false, .own 2 tI), (false, .v tI)]
  sh := false
  pre := fun _ => True
  out := fun x => ((countsD x.1 x.2.1).1, (countsD x.1 x.2.1).2, ())
  upd := fun x => x
theorem k_impl_PlayCounts : ConOk Try.prog 44 c_impl_PlayCounts := by
  refine fn_okW (C := cx Try.prog 38 c_impl_PlayCounts) (cs := [(91, c_impl_IsBoard), (92, c_impl_AllRolls), (100, c_impl_allPlays)]) (res := Try.f44.results.toList) (fun x => ⟨[{ sh := ⟨[(2, .one (.ref 0)), (3, .one (.ref 1)), (6, .one (.ref 2)), (16, .one (.ref 3)), (17, .one (.i .i64)), (18, .one (.i .i64))], [(0, .box [.i .i64, .i .i64, .i .i64, .i .i64]), (1, .box [.ref 4, .ref 5]), (2, .own 2 tI true), (3, .imm tRoll true), (4, .imm tI false), (5, .imm tI false)]⟩, nx := 6, I := fun _ dat_ => (((if varD x.1 then rollsTo (Int.toNat x.1.2.2.2) else []).length : Int) = dat_.1.2.2.2.2.1 ∧ x.1.1 = dat_.2.1.1 ∧ x.1.2.1 = dat_.2.1.2.1 ∧ x.1.2.2.1 = dat_.2.1.2.2.1 ∧ x.1.2.2.2 = dat_.2.1.2.2.2.1 ∧ (if varD x.1 then rollsTo (Int.toNat x.1.2.2.2) else []) = dat_.2.2.2.2.1 ∧ x.2.1.1 = dat_.2.2.2.2.2.1 ∧ x.2.1.2 = dat_.2.2.2.2.2.2.1) ∧ ((dat_.2.2.2.1 = List.map (fun r => (List.length (allD x.1 x.2.1 r) : Int)) (List.take (Int.toNat dat_.1.2.2.2.2.2.1) (rollsTo (Int.toNat x.1.2.2.2))) ∧ List.all (List.take (Int.toNat dat_.1.2.2.2.2.2.1) (rollsTo (Int.toNat x.1.2.2.2))) (fun r => List.all (ordersD r) (fitsP x.1 x.2.1)) = true) ∧ 0 ≤ dat_.1.2.2.2.2.2.1 ∧ dat_.1.2.2.2.2.2.1 ≤ (List.length (rollsTo (Int.toNat x.1.2.2.2)) : Int)), mu := fun dat_ => Int.toNat ((List.length (rollsTo (Int.toNat x.1.2.2.2)) : Int) - dat_.1.2.2.2.2.2.1) }], [], []⟩) Try.func44 (by kernel_rfl) rfl rfl rfl tysOk.look eqTsOk.look (AllCs.ok (l := [(91, c_impl_IsBoard), (92, c_impl_AllRolls), (100, c_impl_allPlays)]) ⟨k_impl_IsBoard, k_impl_AllRolls, k_impl_allPlays, trivial⟩) mixed rfl rfl rfl ?_
  refine of_nf (P := ∀ v : Int × Int × Int × Int, ∀ b : (List Int) × List Int, (True) → ((lensI c_impl_PlayCounts.ins (v, b, ())) → (True ∧ (bsp (!(boardD v b)) (@Eq (HO c_impl_PlayCounts.outs) ([], 1, ()) (c_impl_PlayCounts.out (v, b, ()))) (True ∧ (((((if varD v then rollsTo (Int.toNat v.2.2.2) else []).length : Int) = ((if varD v then rollsTo (Int.toNat v.2.2.2) else []).length : Int) ∧ v.1 = v.1 ∧ v.2.1 = v.2.1 ∧ v.2.2.1 = v.2.2.1 ∧ v.2.2.2 = v.2.2.2 ∧ (if varD v then rollsTo (Int.toNat v.2.2.2) else []) = (if varD v then rollsTo (Int.toNat v.2.2.2) else []) ∧ b.1 = b.1 ∧ b.2 = b.2) ∧ (([] = List.map (fun r => (List.length (allD v b r) : Int)) (List.take (Int.toNat (0 : Int)) (rollsTo (Int.toNat v.2.2.2))) ∧ List.all (List.take (Int.toNat (0 : Int)) (rollsTo (Int.toNat v.2.2.2))) (fun r => List.all (ordersD r) (fitsP v b)) = true) ∧ 0 ≤ (0 : Int) ∧ (0 : Int) ≤ (List.length (rollsTo (Int.toNat v.2.2.2)) : Int))) ∧ (∀ n : Int, ∀ i : Int, ∀ t2_0 : Int, ∀ t2_1 : Int, ∀ t2_2 : Int, ∀ t2_3 : Int, ∀ counts : List Int, ∀ rolls : List (Int × Int), ∀ t3_0 : List Int, ∀ t3_1 : List Int, ((((if varD v then rollsTo (Int.toNat v.2.2.2) else []).length : Int) = n ∧ v.1 = t2_0 ∧ v.2.1 = t2_1 ∧ v.2.2.1 = t2_2 ∧ v.2.2.2 = t2_3 ∧ (if varD v then rollsTo (Int.toNat v.2.2.2) else []) = rolls ∧ b.1 = t3_0 ∧ b.2 = t3_1) ∧ ((counts = List.map (fun r => (List.length (allD v b r) : Int)) (List.take (Int.toNat i) (rollsTo (Int.toNat v.2.2.2))) ∧ List.all (List.take (Int.toNat i) (rollsTo (Int.toNat v.2.2.2))) (fun r => List.all (ordersD r) (fitsP v b)) = true) ∧ 0 ≤ i ∧ i ≤ (List.length (rollsTo (Int.toNat v.2.2.2)) : Int))) → (bsp (decide (i < n)) ((0 ≤ i ∧ i < (rolls.length : Int)) ∧ ((i.toNat < rolls.length) ∧ ((okB (t2_0, t2_1, t2_2, t2_3) (t3_0, t3_1) ∧ rollD (t2_0, t2_1, t2_2, t2_3) (rolls.getD i.toNat (0, 0)) = true) ∧ (bsp (!(List.all (ordersD (rolls.getD i.toNat (0, 0))) (fitsP (t2_0, t2_1, t2_2, t2_3) (t3_0, t3_1)))) (@Eq (HO c_impl_PlayCounts.outs) ([], 3, ()) (c_impl_PlayCounts.out (v, b, ()))) ((counts.length + ([((if List.all (ordersD (rolls.getD i.toNat (0, 0))) (fitsP (t2_0, t2_1, t2_2, t2_3) (t3_0, t3_1)) then allD (t2_0, t2_1, t2_2, t2_3) (t3_0, t3_1) (rolls.getD i.toNat (0, 0)) else []).length : Int)] : List Int).length ≤ AB) ∧ ((inK .i64 (i + 1)) ∧ (((((if varD v then rollsTo (Int.toNat v.2.2.2) else []).length : Int) = n ∧ v.1 = t2_0 ∧ v.2.1 = t2_1 ∧ v.2.2.1 = t2_2 ∧ v.2.2.2 = t2_3 ∧ (if varD v then rollsTo (Int.toNat v.2.2.2) else []) = rolls ∧ b.1 = t3_0 ∧ b.2 = t3_1) ∧ (((counts ++ [((if List.all (ordersD (rolls.getD i.toNat (0, 0))) (fitsP (t2_0, t2_1, t2_2, t2_3) (t3_0, t3_1)) then allD (t2_0, t2_1, t2_2, t2_3) (t3_0, t3_1) (rolls.getD i.toNat (0, 0)) else []).length : Int)]) = List.map (fun r => (List.length (allD v b r) : Int)) (List.take (Int.toNat (i + 1)) (rollsTo (Int.toNat v.2.2.2))) ∧ List.all (List.take (Int.toNat (i + 1)) (rollsTo (Int.toNat v.2.2.2))) (fun r => List.all (ordersD r) (fitsP v b)) = true) ∧ 0 ≤ (i + 1) ∧ (i + 1) ≤ (List.length (rollsTo (Int.toNat v.2.2.2)) : Int))) ∧ ((Int.toNat ((List.length (rollsTo (Int.toNat v.2.2.2)) : Int) - (i + 1)) : Nat) < Int.toNat ((List.length (rollsTo (Int.toNat v.2.2.2)) : Int) - i))))))))) (@Eq (HO c_impl_PlayCounts.outs) (counts, 0, ()) (c_impl_PlayCounts.out (v, b, ()))))))))))) (by kernel_rfl) ?_
  rintro v b hp hl
  refine ⟨trivial, bspB (fun h => by simp_all [c_impl_PlayCounts, countsD]) (fun hbd => ?_)⟩
  have hbo : boardD v b = true := by simpa using hbd
  have hb := okB_of hbo
  have hv := hb.1
  have hn := rolls36 hv
  simp only [hv, if_true]
  refine ⟨trivial, ⟨(by first | trivial | rfl | (and_intros <;> rfl)), ⟨by simp, by simp⟩, by omega, by omega⟩, ?_⟩
  rintro n i t2_0 t2_1 t2_2 t2_3 counts rolls t3_0 t3_1 ⟨⟨rfl, rfl, rfl, rfl, rfl, rfl, rfl, rfl⟩, ⟨⟨hc, hf⟩, i0, i1⟩⟩
  simp only [Prod.eta]
  refine bspD (fun hlt => ?_) (fun hge => ?_)
  · obtain ⟨k, rfl⟩ : ∃ k : Nat, i = k := ⟨i.toNat, by omega⟩
    simp only [Int.toNat_natCast] at hc hf ⊢
    have hk : k < (rollsTo v.2.2.2.toNat).length := by omega
    have hro := rollsTo_ok hv (getD_mem hk (0, 0))
    have t1 := take_map_succ (fun r => ((allD v b r).length : Int)) hk (0, 0)
    have t2 := take_all_succ (fun r => (ordersD r).all (fitsP v b)) hk (0, 0)
    rw [← hc] at t1
    rw [hf, Bool.true_and] at t2
    have hlen : counts.length = k := by rw [hc]; simp; omega
    have hal := allD_len hb hro
    have e : ((k : Int) + 1).toNat = k + 1 := by omega
    rw [e]
    have bad : (ordersD ((rollsTo v.2.2.2.toNat).getD k (0, 0))).all (fitsP v b) = false → (rollsTo v.2.2.2.toNat).all (fun r => (ordersD r).all (fitsP v b)) = false := fun h => by
      rw [Bool.eq_false_iff]; intro hall
      have := (List.all_eq_true.1 hall) _ (getD_mem hk (0, 0))
      rw [h] at this; cases this
    refine ⟨⟨by omega, by omega⟩, hk, ⟨hb, hro⟩, bspB (fun g => ?_) (fun g => ?_)⟩
    · simp only [Bool.not_eq_true'] at g
      simp only [c_impl_PlayCounts, countsD, hbo, bad g]; rfl
    · simp only [Bool.not_eq_false'] at g
      simp only [g, if_true]
      exact ⟨by simp [AB]; omega, by simp only [inK]; omega, ⟨(by first | trivial | rfl | (and_intros <;> rfl)), ⟨t1.symm, by rw [t2, g]⟩, by omega, by omega⟩, by omega⟩
  · rw [List.take_of_length_le (by omega)] at hc hf
    simp only [c_impl_PlayCounts, countsD, hbo, hf, hc]; rfl
def c_spec_PlayCounts : Con where
  ins := [(true, .v tVar), (true, .v tBoard)]
  outs := [(false, .own 2 tI), (false, .v tI)]
  sh := false
  pre := fun _ => True
  out := fun x => ((countsD x.1 x.2.1).1, (countsD x.1 x.2.1).2, ())
  upd := fun x => x
theorem k_spec_PlayCounts : ConOk Try.prog 43 c_spec_PlayCounts := by
  refine fn_okW (C := cx Try.prog 44 c_spec_PlayCounts) (cs := [(86, c_spec_IsBoard), (87, c_spec_l07All), (99, c_spec_l05All)]) (res := Try.f43.results.toList) (fun x => ⟨[{ sh := ⟨[(2, .one (.ref 0)), (3, .one (.ref 1)), (6, .one (.ref 2)), (7, .one (.ref 3)), (8, .one (.i .i64))], [(0, .box [.i .i64, .i .i64, .i .i64, .i .i64]), (1, .box [.ref 4, .ref 5]), (2, .own 2 tI true), (3, .imm tRoll true), (4, .imm tI false), (5, .imm tI false)]⟩, nx := 6, I := fun _ dat_ => (x.1.1 = dat_.2.1.1 ∧ x.1.2.1 = dat_.2.1.2.1 ∧ x.1.2.2.1 = dat_.2.1.2.2.1 ∧ x.1.2.2.2 = dat_.2.1.2.2.2.1 ∧ rollsTo (Int.toNat x.1.2.2.2) = dat_.2.2.2.2.1 ∧ x.2.1.1 = dat_.2.2.2.2.2.1 ∧ x.2.1.2 = dat_.2.2.2.2.2.2.1) ∧ ((dat_.2.2.2.1 = List.map (fun r => (List.length (allD x.1 x.2.1 r) : Int)) (List.take (Int.toNat dat_.1.2.2.2.2.1) (rollsTo (Int.toNat x.1.2.2.2))) ∧ List.all (List.take (Int.toNat dat_.1.2.2.2.2.1) (rollsTo (Int.toNat x.1.2.2.2))) (fun r => List.all (ordersD r) (fitsP x.1 x.2.1)) = true) ∧ 0 ≤ dat_.1.2.2.2.2.1 ∧ dat_.1.2.2.2.2.1 ≤ (List.length (rollsTo (Int.toNat x.1.2.2.2)) : Int)), mu := fun dat_ => Int.toNat ((List.length (rollsTo (Int.toNat x.1.2.2.2)) : Int) - dat_.1.2.2.2.2.1) }], [(8, ⟨[[], [], [], [], [2, 3], [2, 3, 4], [0, 1, 2, 3, 4, 5], [0, 1, 2, 3, 4, 5, 6], [0, 1, 2, 3, 4, 5, 6, 7], [0, 1, 2, 3, 4, 5, 6, 7], [0, 1, 2, 3, 4, 5, 6, 7, 8], [0, 1, 2, 3, 4, 5, 6, 7, 8, 9, 10]], [[1, 2, 3, 4, 5], [0, 2, 3, 4, 5], [0, 1, 3], [0, 1, 2], [0, 1], [0, 1], [], [], [9], [8, 10], [9], []], []⟩)], []⟩) Try.func43 (by kernel_rfl) rfl rfl rfl tysOk.look eqTsOk.look (AllCs.ok (l := [(86, c_spec_IsBoard), (87, c_spec_l07All), (99, c_spec_l05All)]) ⟨k_spec_IsBoard, k_spec_l07All, k_spec_l05All, trivial⟩) mixed rfl rfl rfl ?_
  refine of_nf (P := ∀ v : Int × Int × Int × Int, ∀ b : (List Int) × List Int, (True) → ((lensI c_spec_PlayCounts.ins (v, b, ())) → (True ∧ (bsp (!(boardD v b)) (@Eq (HO c_spec_PlayCounts.outs) ([], 1, ()) (c_spec_PlayCounts.out (v, b, ()))) ((varD v = true) ∧ (((v.1 = v.1 ∧ v.2.1 = v.2.1 ∧ v.2.2.1 = v.2.2.1 ∧ v.2.2.2 = v.2.2.2 ∧ rollsTo (Int.toNat v.2.2.2) = (rollsTo (Int.toNat v.2.2.2)) ∧ b.1 = b.1 ∧ b.2 = b.2) ∧ (([] = List.map (fun r => (List.length (allD v b r) : Int)) (List.take (Int.toNat (0 : Int)) (rollsTo (Int.toNat v.2.2.2))) ∧ List.all (List.take (Int.toNat (0 : Int)) (rollsTo (Int.toNat v.2.2.2))) (fun r => List.all (ordersD r) (fitsP v b)) = true) ∧ 0 ≤ (0 : Int) ∧ (0 : Int) ≤ (List.length (rollsTo (Int.toNat v.2.2.2)) : Int))) ∧ (∀ i : Int, ∀ t2_0 : Int, ∀ t2_1 : Int, ∀ t2_2 : Int, ∀ t2_3 : Int, ∀ counts : List Int, ∀ rolls : List (Int × Int), ∀ t3_0 : List Int, ∀ t3_1 : List Int, ((v.1 = t2_0 ∧ v.2.1 = t2_1 ∧ v.2.2.1 = t2_2 ∧ v.2.2.2 = t2_3 ∧ rollsTo (Int.toNat v.2.2.2) = rolls ∧ b.1 = t3_0 ∧ b.2 = t3_1) ∧ ((counts = List.map (fun r => (List.length (allD v b r) : Int)) (List.take (Int.toNat i) (rollsTo (Int.toNat v.2.2.2))) ∧ List.all (List.take (Int.toNat i) (rollsTo (Int.toNat v.2.2.2))) (fun r => List.all (ordersD r) (fitsP v b)) = true) ∧ 0 ≤ i ∧ i ≤ (List.length (rollsTo (Int.toNat v.2.2.2)) : Int))) → (bsp (decide (i < (rolls.length : Int))) ((0 ≤ i ∧ i < (rolls.length : Int)) ∧ ((i.toNat < rolls.length) ∧ ((okB (t2_0, t2_1, t2_2, t2_3) (t3_0, t3_1) ∧ rollD (t2_0, t2_1, t2_2, t2_3) (rolls.getD i.toNat (0, 0)) = true) ∧ (bsp (!(List.all (ordersD (rolls.getD i.toNat (0, 0))) (fitsP (t2_0, t2_1, t2_2, t2_3) (t3_0, t3_1)))) (@Eq (HO c_spec_PlayCounts.outs) ([], 3, ()) (c_spec_PlayCounts.out (v, b, ()))) ((counts.length + ([((allD (t2_0, t2_1, t2_2, t2_3) (t3_0, t3_1) (rolls.getD i.toNat (0, 0))).length : Int)] : List Int).length ≤ AB) ∧ ((inK .i64 (i + 1)) ∧ (((v.1 = t2_0 ∧ v.2.1 = t2_1 ∧ v.2.2.1 = t2_2 ∧ v.2.2.2 = t2_3 ∧ rollsTo (Int.toNat v.2.2.2) = rolls ∧ b.1 = t3_0 ∧ b.2 = t3_1) ∧ (((counts ++ [((allD (t2_0, t2_1, t2_2, t2_3) (t3_0, t3_1) (rolls.getD i.toNat (0, 0))).length : Int)]) = List.map (fun r => (List.length (allD v b r) : Int)) (List.take (Int.toNat (i + 1)) (rollsTo (Int.toNat v.2.2.2))) ∧ List.all (List.take (Int.toNat (i + 1)) (rollsTo (Int.toNat v.2.2.2))) (fun r => List.all (ordersD r) (fitsP v b)) = true) ∧ 0 ≤ (i + 1) ∧ (i + 1) ≤ (List.length (rollsTo (Int.toNat v.2.2.2)) : Int))) ∧ ((Int.toNat ((List.length (rollsTo (Int.toNat v.2.2.2)) : Int) - (i + 1)) : Nat) < Int.toNat ((List.length (rollsTo (Int.toNat v.2.2.2)) : Int) - i))))))))) (@Eq (HO c_spec_PlayCounts.outs) (counts, 0, ()) (c_spec_PlayCounts.out (v, b, ()))))))))))) (by kernel_rfl) ?_
  rintro v b hp hl
  refine ⟨trivial, bspB (fun h => by simp_all [c_spec_PlayCounts, countsD]) (fun hbd => ?_)⟩
  have hbo : boardD v b = true := by simpa using hbd
  have hb := okB_of hbo
  have hv := hb.1
  have hn := rolls36 hv
  refine ⟨hv, ⟨(by first | trivial | rfl | (and_intros <;> rfl)), ⟨by simp, by simp⟩, by omega, by omega⟩, ?_⟩
  rintro i t2_0 t2_1 t2_2 t2_3 counts rolls t3_0 t3_1 ⟨⟨rfl, rfl, rfl, rfl, rfl, rfl, rfl⟩, ⟨⟨hc, hf⟩, i0, i1⟩⟩
  simp only [Prod.eta]
  refine bspD (fun hlt => ?_) (fun hge => ?_)
  · obtain ⟨k, rfl⟩ : ∃ k : Nat, i = k := ⟨i.toNat, by omega⟩
    simp only [Int.toNat_natCast] at hc hf ⊢
    have hk : k < (rollsTo v.2.2.2.toNat).length := by omega
    have hro := rollsTo_ok hv (getD_mem hk (0, 0))
    have t1 := take_map_succ (fun r => ((allD v b r).length : Int)) hk (0, 0)
    have t2 := take_all_succ (fun r => (ordersD r).all (fitsP v b)) hk (0, 0)
    rw [← hc] at t1
    rw [hf, Bool.true_and] at t2
    have hlen : counts.length = k := by rw [hc]; simp; omega
    have hal := allD_len hb hro
    have e : ((k : Int) + 1).toNat = k + 1 := by omega
    rw [e]
    have bad : (ordersD ((rollsTo v.2.2.2.toNat).getD k (0, 0))).all (fitsP v b) = false → (rollsTo v.2.2.2.toNat).all (fun r => (ordersD r).all (fitsP v b)) = false := fun h => by
      rw [Bool.eq_false_iff]; intro hall
      have := (List.all_eq_true.1 hall) _ (getD_mem hk (0, 0))
      rw [h] at this; cases this
    refine ⟨⟨by omega, by omega⟩, hk, ⟨hb, hro⟩, bspB (fun g => ?_) (fun g => ?_)⟩
    · simp only [Bool.not_eq_true'] at g
      simp only [c_spec_PlayCounts, countsD, hbo, bad g]; rfl
    · simp only [Bool.not_eq_false'] at g
      skip
      exact ⟨by simp [AB]; omega, by simp only [inK]; omega, ⟨(by first | trivial | rfl | (and_intros <;> rfl)), ⟨t1.symm, by rw [t2, g]⟩, by omega, by omega⟩, by omega⟩
  · rw [List.take_of_length_le (by omega)] at hc hf
    simp only [c_spec_PlayCounts, countsD, hbo, hf, hc]; rfl
def c_laws_FnExactIsForced : Con where
  ins := [(true, .v tVar), (true, .v tBoard), (true, .v tRoll)]
  outs := [(false, .v .b)]
  sh := false
  pre := fun x => wfD tVar x.1 ∧ wfD tBoard x.2.1 ∧ wfD tRoll x.2.2.1
  out := fun _ => (true, ())
  upd := fun x => x
theorem k_laws_FnExactIsForced : ConOk Try.prog 9 c_laws_FnExactIsForced := by
  refine fn_okW (C := cx Try.prog 52 c_laws_FnExactIsForced) (cs := [(34, c_laws_szBoard), (17, c_laws_toVariant), (36, c_laws_toBoard), (19, c_laws_toRoll), (41, c_spec_IsForced), (42, c_impl_IsForced), (38, c_laws_eqBoard)]) (res := Try.f9.results.toList) (fun _ => ⟨[], [(5, ⟨[[], [0], [], [0, 1, 2], [], [0, 1, 2, 3, 4], [0, 1, 2, 3, 4, 5], [0, 1, 2, 3, 4, 5, 6], [0, 1, 2, 3, 4, 5, 6, 7], [0, 1, 2, 3, 4, 5, 6, 7], [0, 1, 2, 3, 4, 5, 6, 7, 8], [0, 1, 2, 3, 4, 5, 6, 7, 8, 9, 10]], [[2, 4], [2, 4], [0, 1, 4], [4], [0, 1, 2, 3], [], [], [], [9], [8, 10], [9], []], []⟩), (7, ⟨[[], [0], [], [], [0, 1, 3], [0, 1, 2, 3, 4], [0, 1, 2, 3, 4, 5], [0, 1, 2, 3, 4, 5, 6], [0, 1, 2, 3, 4, 5, 6], [0, 1, 2, 3, 4, 5, 6, 7], [0, 1, 2, 3, 4, 5, 6, 7, 8, 9]], [[2, 3], [2, 3], [0, 1, 3, 4], [0, 1, 2], [2], [], [], [8], [7, 9], [8], []], []⟩), (10, ⟨[[], [], [1], [0, 1, 2], [0, 1, 2, 3]], [[1, 2], [0], [0], [], []], []⟩)], []⟩) Try.func9 (by kernel_rfl) rfl rfl rfl tysOk.look eqTsOk.look (AllCs.ok (l := [(34, c_laws_szBoard), (17, c_laws_toVariant), (36, c_laws_toBoard), (19, c_laws_toRoll), (41, c_spec_IsForced), (42, c_impl_IsForced), (38, c_laws_eqBoard)]) ⟨k_laws_szBoard, k_laws_toVariant, k_laws_toBoard, k_laws_toRoll, k_spec_IsForced, k_impl_IsForced, k_laws_eqBoard, trivial⟩) mixed rfl rfl rfl ?_
  refine of_nf (P := ∀ v : Int × Int × Int × Int, ∀ b : (List Int) × List Int, ∀ r : Int × Int, (wfD tVar v ∧ wfD tBoard b ∧ wfD tRoll r) → ((lensI c_laws_FnExactIsForced.ins (v, b, r, ())) → ((-1 ≤ (1048576 : Int) ∧ (1048576 : Int) ≤ 1048576) ∧ (bsp (decide ((szD (List.length b.1 + List.length b.2) (1048576 : Int)) < (0 : Int))) (@Eq (HO c_laws_FnExactIsForced.outs) (true, ()) (c_laws_FnExactIsForced.out (v, b, r, ()))) (True ∧ ((List.length b.1 ≤ 1099511627776 ∧ List.length b.2 ≤ 1099511627776) ∧ (True ∧ (True ∧ ((List.length b.1 ≤ 1099511627776 ∧ List.length b.2 ≤ 1099511627776) ∧ (True ∧ (True ∧ (True ∧ (bsp ((forcedD v b r).1 != (forcedD v b r).1) (@Eq (HO c_laws_FnExactIsForced.outs) (false, ()) (c_laws_FnExactIsForced.out (v, b, r, ()))) (bsp (decide ((forcedD v b r).2 ≠ (forcedD v b r).2)) (@Eq (HO c_laws_FnExactIsForced.outs) (false, ()) (c_laws_FnExactIsForced.out (v, b, r, ()))) ((List.length b.1 ≤ 1099511627776 ∧ List.length b.2 ≤ 1099511627776) ∧ (True ∧ (bsp (!(decide (b = b))) (@Eq (HO c_laws_FnExactIsForced.outs) (false, ()) (c_laws_FnExactIsForced.out (v, b, r, ()))) (@Eq (HO c_laws_FnExactIsForced.outs) (true, ()) (c_laws_FnExactIsForced.out (v, b, r, ())))))))))))))))))))) (by kernel_rfl) ?_
  rintro v b r hw hl
  refine ⟨by omega, bspD (fun _ => rfl) (fun hs => ?_)⟩
  have hle := szD_ge hs
  clear hl hw hs

  repeat' first
    | exact rfl
    | refine ⟨trivial, ?_⟩
    | refine bspB (fun h => absurd h (by first | simp; done | (simp [markL_length]; done) | (simp [markL_length]; omega))) (fun _ => ?_)
    | refine ⟨(by first | omega | (simp [markL_length]; done) | (simp [markL_length]; omega)), ?_⟩
    | fail
def c_laws_FnExactFindPlay : Con where
  ins := [(true, .v tVar), (true, .v tBoard), (true, .v tRoll), (true, .v tBoard)]
  outs := [(false, .v .b)]
  sh := false
  pre := fun x => wfD tVar x.1 ∧ wfD tBoard x.2.1 ∧ wfD tRoll x.2.2.1 ∧ wfD tBoard x.2.2.2.1
  out := fun _ => (true, ())
  upd := fun x => x
theorem k_laws_FnExactFindPlay : ConOk Try.prog 11 c_laws_FnExactFindPlay := by
  refine fn_okW (C := cx Try.prog 70 c_laws_FnExactFindPlay) (cs := [(34, c_laws_szBoard), (17, c_laws_toVariant), (36, c_laws_toBoard), (19, c_laws_toRoll), (49, c_spec_FindPlay), (50, c_impl_FindPlay), (38, c_laws_eqBoard)]) (res := Try.f11.results.toList) (fun _ => ⟨[], [(8, ⟨[[], [0], [], [0, 1, 2], [], [0, 1, 2, 3, 4], [], [0, 1, 2, 3, 4, 5, 6], [0, 1, 2, 3, 4, 5, 6, 7], [0, 1, 2, 3, 4, 5, 6, 7, 8], [0, 1, 2, 3, 4, 5, 6, 7, 8, 9], [0, 1, 2, 3, 4, 5, 6, 7, 8, 9], [0, 1, 2, 3, 4, 5, 6, 7, 8, 9, 10], [0, 1, 2, 3, 4, 5, 6, 7, 8, 9, 10, 11, 12]], [[2, 4, 6], [2, 4, 6], [0, 1, 4, 6], [4, 6], [0, 1, 2, 3, 6], [6], [0, 1, 2, 3, 4, 5], [], [], [], [11], [10, 12], [11], []], []⟩), (11, ⟨[[], [0], [], [], [0, 1, 3], [], [0, 1, 2, 3, 4, 5], [0, 1, 2, 3, 4, 5, 6], [0, 1, 2, 3, 4, 5, 6, 7], [0, 1, 2, 3, 4, 5, 6, 7], [0, 1, 2, 3, 4, 5, 6, 7, 8], [0, 1, 2, 3, 4, 5, 6, 7, 8, 9, 10]], [[2, 3, 5], [2, 3, 5], [0, 1, 3, 4, 5], [0, 1, 2, 5], [2, 5], [0, 1, 2, 3, 4], [], [], [9], [8, 10], [9], []], []⟩), (14, ⟨[[], [], [1], [0, 1, 2], [0, 1, 2, 3]], [[1, 2], [0], [0], [], []], []⟩), (16, ⟨[[], [], [1], [0, 1, 2], [0, 1, 2, 3]], [[1, 2], [0], [0], [], []], []⟩)], []⟩) Try.func11 (by kernel_rfl) rfl rfl rfl tysOk.look eqTsOk.look (AllCs.ok (l := [(34, c_laws_szBoard), (17, c_laws_toVariant), (36, c_laws_toBoard), (19, c_laws_toRoll), (49, c_spec_FindPlay), (50, c_impl_FindPlay), (38, c_laws_eqBoard)]) ⟨k_laws_szBoard, k_laws_toVariant, k_laws_toBoard, k_laws_toRoll, k_spec_FindPlay, k_impl_FindPlay, k_laws_eqBoard, trivial⟩) mixed rfl rfl rfl ?_
  refine of_nf (P := ∀ v : Int × Int × Int × Int, ∀ b : (List Int) × List Int, ∀ r : Int × Int, ∀ c : (List Int) × List Int, (wfD tVar v ∧ wfD tBoard b ∧ wfD tRoll r ∧ wfD tBoard c) → ((lensI c_laws_FnExactFindPlay.ins (v, b, r, c, ())) → ((-1 ≤ (1048576 : Int) ∧ (1048576 : Int) ≤ 1048576) ∧ (bsp (decide ((szD (List.length b.1 + List.length b.2) (1048576 : Int)) < (0 : Int))) (@Eq (HO c_laws_FnExactFindPlay.outs) (true, ()) (c_laws_FnExactFindPlay.out (v, b, r, c, ()))) ((-1 ≤ (szD (List.length b.1 + List.length b.2) (1048576 : Int)) ∧ (szD (List.length b.1 + List.length b.2) (1048576 : Int)) ≤ 1048576) ∧ (bsp (decide ((szD (List.length c.1 + List.length c.2) (szD (List.length b.1 + List.length b.2) (1048576 : Int))) < (0 : Int))) (@Eq (HO c_laws_FnExactFindPlay.outs) (true, ()) (c_laws_FnExactFindPlay.out (v, b, r, c, ()))) (True ∧ ((List.length b.1 ≤ 1099511627776 ∧ List.length b.2 ≤ 1099511627776) ∧ (True ∧ ((List.length c.1 ≤ 1099511627776 ∧ List.length c.2 ≤ 1099511627776) ∧ (True ∧ ((List.length b.1 ≤ 1099511627776 ∧ List.length b.2 ≤ 1099511627776) ∧ ((List.length c.1 ≤ 1099511627776 ∧ List.length c.2 ≤ 1099511627776) ∧ (True ∧ (True ∧ (True ∧ (bsp (decide ((findPlayD v b r c).1 ≠ (findPlayD v b r c).1)) (@Eq (HO c_laws_FnExactFindPlay.outs) (false, ()) (c_laws_FnExactFindPlay.out (v, b, r, c, ()))) (bsp (decide ((findPlayD v b r c).2 ≠ (findPlayD v b r c).2)) (@Eq (HO c_laws_FnExactFindPlay.outs) (false, ()) (c_laws_FnExactFindPlay.out (v, b, r, c, ()))) ((List.length b.1 ≤ 1099511627776 ∧ List.length b.2 ≤ 1099511627776) ∧ (True ∧ (bsp (!(decide (b = b))) (@Eq (HO c_laws_FnExactFindPlay.outs) (false, ()) (c_laws_FnExactFindPlay.out (v, b, r, c, ()))) ((List.length c.1 ≤ 1099511627776 ∧ List.length c.2 ≤ 1099511627776) ∧ (True ∧ (bsp (!(decide (c = c))) (@Eq (HO c_laws_FnExactFindPlay.outs) (false, ()) (c_laws_FnExactFindPlay.out (v, b, r, c, ()))) (@Eq (HO c_laws_FnExactFindPlay.outs) (true, ()) (c_laws_FnExactFindPlay.out (v, b, r, c, ()))))))))))))))))))))))))))) (by kernel_rfl) ?_
  rintro v b r c hw hl
  have hb := szD_bd (m := b.1.length + b.2.length) (l := 1048576) (by omega)
  refine ⟨by omega, bspD (fun _ => rfl) (fun hs => ⟨hb, bspD (fun _ => rfl) (fun hs2 => ?_)⟩)⟩
  have hle := szD_ge hs
  have hle2 := szD_ge hs2
  have hle3 : szD (b.1.length + b.2.length) 1048576 ≤ 1048576 := hb.2
  clear hl hw hs hs2

  repeat' first
    | exact rfl
    | refine ⟨trivial, ?_⟩
    | refine bspB (fun h => absurd h (by first | simp; done | (simp [markL_length]; done) | (simp [markL_length]; omega))) (fun _ => ?_)
    | refine ⟨(by first | omega | (simp [markL_length]; done) | (simp [markL_length]; omega)), ?_⟩
    | fail
def c_laws_FnExactPlayCounts : Con where
  ins := [(true, .v tVar), (true, .v tBoard)]
  outs := [(false, .v .b)]
  sh := false
  pre := fun x => wfD tVar x.1 ∧ wfD tBoard x.2.1
  out := fun _ => (true, ())
  upd := fun x => x
theorem k_laws_FnExactPlayCounts : ConOk Try.prog 10 c_laws_FnExactPlayCounts := by
  refine fn_okW (C := cx Try.prog 104 c_laws_FnExactPlayCounts) (cs := [(34, c_laws_szBoard), (17, c_laws_toVariant), (36, c_laws_toBoard), (43, c_spec_PlayCounts), (44, c_impl_PlayCounts), (45, c_laws_eqInt64S), (38, c_laws_eqBoard), (46, c_laws_markBoard), (47, c_laws_markInt64S), (48, c_laws_heldInt64S)]) (res := Try.f10.results.toList) (fun _ => ⟨[], [(5, ⟨[[], [0], [], [0, 1, 2], [0, 1, 2, 3], [0, 1, 2, 3, 4], [0, 1, 2, 3, 4, 5], [0, 1, 2, 3, 4, 5], [0, 1, 2, 3, 4, 5, 6], [0, 1, 2, 3, 4, 5, 6, 7, 8]], [[2], [2], [0, 1], [], [], [], [7], [6, 8], [7], []], []⟩), (7, ⟨[[], [0], [], [0, 1, 2], [0, 1, 2, 3], [0, 1, 2, 3, 4], [0, 1, 2, 3, 4], [0, 1, 2, 3, 4, 5], [0, 1, 2, 3, 4, 5, 6, 7]], [[2], [2], [0, 1], [], [], [6], [5, 7], [6], []], []⟩), (10, ⟨[[], [], [1], [0, 1, 2], [0, 1, 2, 3]], [[1, 2], [0], [0], [], []], []⟩), (24, ⟨[[], [0], [], [0, 1, 2], [0, 1, 2, 3], [0, 1, 2, 3, 4], [0, 1, 2, 3, 4, 5], [0, 1, 2, 3, 4, 5], [0, 1, 2, 3, 4, 5, 6], [0, 1, 2, 3, 4, 5, 6, 7, 8]], [[2], [2], [0, 1], [], [], [], [7], [6, 8], [7], []], []⟩)], []⟩) Try.func10 (by kernel_rfl) rfl rfl rfl tysOk.look eqTsOk.look (AllCs.ok (l := [(34, c_laws_szBoard), (17, c_laws_toVariant), (36, c_laws_toBoard), (43, c_spec_PlayCounts), (44, c_impl_PlayCounts), (45, c_laws_eqInt64S), (38, c_laws_eqBoard), (46, c_laws_markBoard), (47, c_laws_markInt64S), (48, c_laws_heldInt64S)]) ⟨k_laws_szBoard, k_laws_toVariant, k_laws_toBoard, k_spec_PlayCounts, k_impl_PlayCounts, k_laws_eqInt64S, k_laws_eqBoard, k_laws_markBoard, k_laws_markInt64S, k_laws_heldInt64S, trivial⟩) mixed rfl rfl rfl ?_
  refine of_nf (P := ∀ v : Int × Int × Int × Int, ∀ b : (List Int) × List Int, (wfD tVar v ∧ wfD tBoard b) → ((lensI c_laws_FnExactPlayCounts.ins (v, b, ())) → ((-1 ≤ (1048576 : Int) ∧ (1048576 : Int) ≤ 1048576) ∧ (bsp (decide ((szD (List.length b.1 + List.length b.2) (1048576 : Int)) < (0 : Int))) (@Eq (HO c_laws_FnExactPlayCounts.outs) (true, ()) (c_laws_FnExactPlayCounts.out (v, b, ()))) (True ∧ ((List.length b.1 ≤ 1099511627776 ∧ List.length b.2 ≤ 1099511627776) ∧ (True ∧ ((List.length b.1 ≤ 1099511627776 ∧ List.length b.2 ≤ 1099511627776) ∧ (True ∧ (True ∧ (True ∧ (bsp (!(decide ((countsD v b).1 = (countsD v b).1))) (@Eq (HO c_laws_FnExactPlayCounts.outs) (false, ()) (c_laws_FnExactPlayCounts.out (v, b, ()))) (bsp (decide ((countsD v b).2 ≠ (countsD v b).2)) (@Eq (HO c_laws_FnExactPlayCounts.outs) (false, ()) (c_laws_FnExactPlayCounts.out (v, b, ()))) ((List.length b.1 ≤ 1099511627776 ∧ List.length b.2 ≤ 1099511627776) ∧ (True ∧ (bsp (!(decide (b = b))) (@Eq (HO c_laws_FnExactPlayCounts.outs) (false, ()) (c_laws_FnExactPlayCounts.out (v, b, ()))) ((0 ≤ (1 : Int) ∧ (1 : Int) + (List.length b.1 : Int) ≤ 1099511627776 ∧ List.length b.2 ≤ 1099511627776) ∧ (bsp (decide (((1 : Int) + (List.length b.1 : Int) + (List.length b.2 : Int)) < (0 : Int))) (@Eq (HO c_laws_FnExactPlayCounts.outs) (false, ()) (c_laws_FnExactPlayCounts.out (v, b, ()))) (True ∧ (bsp (!(decide ((countsD v b).1 = (countsD v b).1))) (@Eq (HO c_laws_FnExactPlayCounts.outs) (false, ()) (c_laws_FnExactPlayCounts.out (v, b, ()))) (bsp (decide ((countsD v b).2 ≠ (countsD v b).2)) (@Eq (HO c_laws_FnExactPlayCounts.outs) (false, ()) (c_laws_FnExactPlayCounts.out (v, b, ()))) ((0 ≤ (1 : Int) ∧ (1 : Int) ≤ 1099511627776 ∧ List.length (countsD v b).1 ≤ 1099511627776) ∧ (((markL (1 : Int) (List.length (countsD v b).1)) = markL (1 : Int) (List.length (markL (1 : Int) (List.length (countsD v b).1))) ∧ 0 ≤ (1 : Int) ∧ (1 : Int) ≤ 1099511627776 ∧ List.length (markL (1 : Int) (List.length (countsD v b).1)) ≤ 1099511627776) ∧ (bsp (decide (((1 : Int) + (List.length (markL (1 : Int) (List.length (countsD v b).1)) : Int)) < (0 : Int))) (@Eq (HO c_laws_FnExactPlayCounts.outs) (false, ()) (c_laws_FnExactPlayCounts.out (v, b, ()))) (bsp (decide (((1 : Int) + (List.length (markL (1 : Int) (List.length (countsD v b).1)) : Int)) ≠ ((1 : Int) + (List.length (countsD v b).1 : Int)))) (@Eq (HO c_laws_FnExactPlayCounts.outs) (false, ()) (c_laws_FnExactPlayCounts.out (v, b, ()))) (True ∧ ((List.length b.1 ≤ 1099511627776 ∧ List.length b.2 ≤ 1099511627776) ∧ (True ∧ (True ∧ (bsp (!(decide ((countsD v b).1 = (countsD v b).1))) (@Eq (HO c_laws_FnExactPlayCounts.outs) (false, ()) (c_laws_FnExactPlayCounts.out (v, b, ()))) (bsp (decide ((countsD v b).2 ≠ (countsD v b).2)) (@Eq (HO c_laws_FnExactPlayCounts.outs) (false, ()) (c_laws_FnExactPlayCounts.out (v, b, ()))) (((markL (1 : Int) (List.length (countsD v b).1)) = markL (1 : Int) (List.length (markL (1 : Int) (List.length (countsD v b).1))) ∧ 0 ≤ (1 : Int) ∧ (1 : Int) ≤ 1099511627776 ∧ List.length (markL (1 : Int) (List.length (countsD v b).1)) ≤ 1099511627776) ∧ (bsp (decide (((1 : Int) + (List.length (markL (1 : Int) (List.length (countsD v b).1)) : Int)) < (0 : Int))) (@Eq (HO c_laws_FnExactPlayCounts.outs) (false, ()) (c_laws_FnExactPlayCounts.out (v, b, ()))) (bsp (decide (((1 : Int) + (List.length (markL (1 : Int) (List.length (countsD v b).1)) : Int)) ≠ ((1 : Int) + (List.length (countsD v b).1 : Int)))) (@Eq (HO c_laws_FnExactPlayCounts.outs) (false, ()) (c_laws_FnExactPlayCounts.out (v, b, ()))) (@Eq (HO c_laws_FnExactPlayCounts.outs) (true, ()) (c_laws_FnExactPlayCounts.out (v, b, ()))))))))))))))))))))))))))))))))))))) (by kernel_rfl) ?_
  rintro v b hw hl
  refine ⟨by omega, bspD (fun _ => rfl) (fun hs => ?_)⟩
  have hle := szD_ge hs
  have hX := countsD_len v b rolls36
  revert hX
  generalize countsD v b = X
  intro hX
  clear hl hw hs

  repeat' first
    | exact rfl
    | refine ⟨trivial, ?_⟩
    | refine bspB (fun h => absurd h (by first | simp; done | (simp [markL_length]; done) | (simp [markL_length]; omega))) (fun _ => ?_)
    | refine ⟨(by first | omega | (simp [markL_length]; done) | (simp [markL_length]; omega)), ?_⟩
    | fail
end Go.Proofs.Ytnffbihkmnfllaa
