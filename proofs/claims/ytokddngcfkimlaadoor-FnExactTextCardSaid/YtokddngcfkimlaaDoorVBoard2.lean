/-
  Contracts: copies and comparisons of boards, results.
-/
import Derived.Test.YtokddngcfkimlaaDoorVBoard
namespace Go.Proofs.YtokddngcfkimlaaDoor
open Go.RowKit
set_option linter.unusedSimpArgs false
set_option linter.unusedVariables false
theorem eq_of_upto {xs ys : List Int} (hl : xs.length = ys.length) (h : ∀ j, j < xs.length → xs.getD j 0 = ys.getD j 0) : xs = ys := by
  refine List.ext_getElem hl fun i h1 h2 => ?_
  have := h i h1
  rwa [List.getD_eq_getElem?_getD, List.getElem?_eq_getElem h1, List.getD_eq_getElem?_getD, List.getElem?_eq_getElem h2] at this
def sameD (a b : DBoard) : Bool := decide (a.1 = b.1) && decide (a.2 = b.2)
def NeL (zs : List Int) : Prop := zs ≠ [] ∧ zs.length ≤ 1099511627776
def NeB (b : DBoard) : Prop := NeL b.1 ∧ NeL b.2
def loserD (b : DBoard) : List Int := if b.1.sum = 0 then b.2 else b.1
def resD (v : DVar) (b : DBoard) : Int := if (loserD b).sum < v.2.1 then 1 else if v.1 - v.2.2.1 ≤ topD (loserD b) then 3 else 2
end Go.Proofs.YtokddngcfkimlaaDoor
