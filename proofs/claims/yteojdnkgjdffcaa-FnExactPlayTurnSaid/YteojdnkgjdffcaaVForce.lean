/-
  Contracts and laws: AllPlays, IsForced, PlayCounts, FindPlay.
-/
import Derived.Test.YteojdnkgjdffcaaVAll
import Derived.Test.YteojdnkgjdffcaaAbL
namespace Go.Proofs.Yteojdnkgjdffcaa
open Go.RowKit
set_option linter.unusedSimpArgs false
set_option linter.unusedVariables false
def allPlaysD (v : DVar) (b : DBoard) (r : DRoll) : List DPlay × Int :=
  if codeD v b r ≠ 0 then ([], codeD v b r) else if (ordersD r).all (fitsP v b) then (allD v b r, 0) else ([], 3)
def forcedD (v : DVar) (b : DBoard) (r : DRoll) : Bool × Int := (decide (((allPlaysD v b r).1.length : Int) = 1), (allPlaysD v b r).2)
def findPlayD (v : DVar) (b : DBoard) (r : DRoll) (c : DBoard) : Int × Int :=
  if (allPlaysD v b r).2 ≠ 0 then (0, (allPlaysD v b r).2) else if findD (allPlaysD v b r).1 c < 0 then (0, 4) else (findD (allPlaysD v b r).1 c, 0)
def countsD (v : DVar) (b : DBoard) : List Int × Int :=
  if boardD v b = false then ([], 1) else if (rollsTo v.2.2.2.toNat).all (fun r => (ordersD r).all (fitsP v b)) then ((rollsTo v.2.2.2.toNat).map (fun r => ((allD v b r).length : Int)), 0) else ([], 3)
theorem allPlaysD_nil {v : DVar} {b : DBoard} {r : DRoll} (h : (allPlaysD v b r).2 ≠ 0) : (allPlaysD v b r).1 = [] := by
  unfold allPlaysD at h ⊢
  split
  · rfl
  · split
    · next h1 h2 => rw [if_neg h1, if_pos h2] at h; exact absurd rfl h
    · rfl
theorem allPlaysD_len (v : DVar) (b : DBoard) (r : DRoll) : (allPlaysD v b r).1.length ≤ 781250 := by
  unfold allPlaysD
  split
  · simp
  · next h =>
    split
    · have := codeD_ok (by simpa using h : codeD v b r = 0)
      exact allD_len this.1 this.2
    · simp
theorem countsD_len (v : DVar) (b : DBoard) (h : varD v = true → (rollsTo v.2.2.2.toNat).length ≤ 36) : (countsD v b).1.length ≤ 36 := by
  unfold countsD
  split
  · simp
  · next hb =>
    split
    · simp only [List.length_map]
      exact h (boardD_bd (by simpa using hb)).1
    · simp
theorem rolls36 {v : DVar} (hv : varD v = true) : (rollsTo v.2.2.2.toNat).length ≤ 36 := by
  have := (varD_iff.1 hv).2.2.2
  have := rollsTo_len v.2.2.2.toNat (by omega)
  omega
end Go.Proofs.Yteojdnkgjdffcaa
