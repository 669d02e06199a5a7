/-
  Contracts and laws: AllPlays, IsForced, PlayCounts, FindPlay.
-/
import Derived.Test.YtgbfcjnkohhfoaaVAll
import Derived.Test.YtgbfcjnkohhfoaaAbL
namespace Go.Proofs.Ytgbfcjnkohhfoaa
open Go.RowKit
set_option linter.unusedSimpArgs false
set_option linter.unusedVariables false
def allPlaysD (v : DVar) (b : DBoard) (r : DRoll) : List DPlay × Int :=
  if codeD v b r ≠ 0 then ([], codeD v b r) else if (ordersD r).all (fitsP v b) then (allD v b r, 0) else ([], 3)
def forcedD (v : DVar) (b : DBoard) (r : DRoll) : Bool × Int := (decide (((allPlaysD v b r).1.length : Int) = 1), (allPlaysD v b r).2)
def findPlayD (v : DVar) (b : DBoard) (r : DRoll) (c : DBoard) : Int × Int :=
  if (allPlaysD v b r).2 ≠ 0 then (0, (allPlaysD v b r).2) else if findD (allPlaysD v b r).1 c < 0 then (0, 4) else (findD (allPlaysD v b r).1 c, 0)
def countsD (v : DVar) (b : DBoard) : List Int × Int :=
  if boardD v b = false then ([], 1) else if (rollsTo v.2.2.2.toNat).all (fun r => (ordersD r).all (fitsP v b)) then ((rollsTo v.2.2.2.toNat).map (fun r => ((allD v b r).length : Int)), 0) else ([], 3)
theorem allPlaysD_nil {v : DVar} {b : DBoard} {r : DRoll} (h : (allPlaysD v b r).2 ≠ 0) : (allPlaysD v b r).1 = [] := by
  unfold allPlaysD at h ⊢
  split
  · rfl
  · split
    · next h1 h2 => rw [if_neg h1, if_pos h2] at h; exact absurd rfl h
    · rfl
theorem allPlaysD_len (v : DVar) (b : DBoard) (r : DRoll) : (allPlaysD v b r).1.length ≤ 781250 := by
  unfold allPlaysD
  split
  · simp
  · next h =>
    split
    · have := codeD_ok (by simpa using h : codeD v b r = 0)
      exact allD_len this.1 this.2
    · simp
theorem countsD_len (v : DVar) (b : DBoard) (h : varD v = true → (rollsTo v.2.2.2.toNat).length ≤ 36) : (countsD v b).1.length ≤ 36 := by
  unfold countsD
  split
  · simp
  · next hb =>
    split
    · simp only [List.length_map]
      exact h (boardD_bd (by simpa using hb)).1
    · simp
theorem rolls36 {v : DVar} (hv : varD v = true) : (rollsTo v.2.2.2.toNat).length ≤ 36 := by
  have := (varD_iff.1 hv).2.2.2
  have := rollsTo_len v.2.2.2.toNat (by omega)
  omega
def c_impl_AllPlays : Con where
  ins := [(true, .v tVar), (true, .v tBoard), (true, .v tRoll)]
  outs := [(false, .v (.sl tPlay)), (false, .v tI)]
  sh := false
  pre := fun _ => True
  out := fun x => ((allPlaysD x.1 x.2.1 x.2.2.1).1, (allPlaysD x.1 x.2.1 x.2.2.1).2, ())
  upd := fun x => x
  eat := false
theorem k_impl_AllPlays [B : Base] : ConOk Try.prog 10 c_impl_AllPlays := by
  refine fn_okW (C := cx Try.prog 28 c_impl_AllPlays) (cs := [(25, c_impl_checkRoll), (26, c_impl_allPlays)]) (res := Try.f10.results.toList) (fun _ => ⟨[], [], []⟩) Try.func10 (by kernel_rfl) rfl rfl rfl tysOk.look eqTsOk.look (AllCs.ok (l := [(25, c_impl_checkRoll), (26, c_impl_allPlays)]) ⟨k_impl_checkRoll, k_impl_allPlays, trivial⟩) mixed rfl rfl rfl rfl ?_
  refine of_nf (P := ∀ v : Int × Int × Int × Int, ∀ b : (List Int) × List Int, ∀ r : Int × Int, (True) → ((lensI c_impl_AllPlays.ins (v, b, r, ())) → (True ∧ (bsp (decide ((codeD v b r) ≠ (0 : Int))) (@Eq (HO c_impl_AllPlays.outs) ([], codeD v b r, ()) (c_impl_AllPlays.out (v, b, r, ()))) ((okB v b ∧ rollD v r = true) ∧ (bsp (!(List.all (ordersD r) (fitsP v b))) (@Eq (HO c_impl_AllPlays.outs) ([], 3, ()) (c_impl_AllPlays.out (v, b, r, ()))) (@Eq (HO c_impl_AllPlays.outs) ((if List.all (ordersD r) (fitsP v b) then allD v b r else []), 0, ()) (c_impl_AllPlays.out (v, b, r, ()))))))))) (by kernel_rfl) ?_
  rintro v b r hp hl
  refine ⟨trivial, bspD (fun h => ?_) (fun h => ?_)⟩
  · simp only [c_impl_AllPlays, allPlaysD, if_pos h]
  · have h0 : codeD v b r = 0 := by simpa using h
    refine ⟨codeD_ok h0, bspB (fun g => ?_) (fun g => ?_)⟩
    · simp only [Bool.not_eq_true'] at g
      simp only [c_impl_AllPlays, allPlaysD, if_neg h, g, if_false]; rfl
    · simp only [Bool.not_eq_false'] at g
      simp only [c_impl_AllPlays, allPlaysD, if_neg h, g, if_true]
def c_spec_AllPlays : Con where
  ins := [(true, .v tVar), (true, .v tBoard), (true, .v tRoll)]
  outs := [(false, .v (.sl tPlay)), (false, .v tI)]
  sh := false
  pre := fun _ => True
  out := fun x => ((allPlaysD x.1 x.2.1 x.2.2.1).1, (allPlaysD x.1 x.2.1 x.2.2.1).2, ())
  upd := fun x => x
  eat := false
theorem k_spec_AllPlays [B : Base] : ConOk Try.prog 6 c_spec_AllPlays := by
  refine fn_okW (C := cx Try.prog 30 c_spec_AllPlays) (cs := [(22, c_spec_l05Code), (23, c_spec_l05All)]) (res := Try.f6.results.toList) (fun _ => ⟨[], [], []⟩) Try.func6 (by kernel_rfl) rfl rfl rfl tysOk.look eqTsOk.look (AllCs.ok (l := [(22, c_spec_l05Code), (23, c_spec_l05All)]) ⟨k_spec_l05Code, k_spec_l05All, trivial⟩) mixed rfl rfl rfl rfl ?_
  refine of_nf (P := ∀ v : Int × Int × Int × Int, ∀ b : (List Int) × List Int, ∀ r : Int × Int, (True) → ((lensI c_spec_AllPlays.ins (v, b, r, ())) → (True ∧ (bsp (decide ((codeD v b r) ≠ (0 : Int))) (@Eq (HO c_spec_AllPlays.outs) ([], codeD v b r, ()) (c_spec_AllPlays.out (v, b, r, ()))) ((okB v b ∧ rollD v r = true) ∧ (bsp (!(List.all (ordersD r) (fitsP v b))) (@Eq (HO c_spec_AllPlays.outs) ([], 3, ()) (c_spec_AllPlays.out (v, b, r, ()))) (@Eq (HO c_spec_AllPlays.outs) (allD v b r, 0, ()) (c_spec_AllPlays.out (v, b, r, ()))))))))) (by kernel_rfl) ?_
  rintro v b r hp hl
  refine ⟨trivial, bspD (fun h => ?_) (fun h => ?_)⟩
  · simp only [c_spec_AllPlays, allPlaysD, if_pos h]
  · have h0 : codeD v b r = 0 := by simpa using h
    refine ⟨codeD_ok h0, bspB (fun g => ?_) (fun g => ?_)⟩
    · simp only [Bool.not_eq_true'] at g
      simp only [c_spec_AllPlays, allPlaysD, if_neg h, g, if_false]; rfl
    · simp only [Bool.not_eq_false'] at g
      simp only [c_spec_AllPlays, allPlaysD, if_neg h, g, if_true]
end Go.Proofs.Ytgbfcjnkohhfoaa
