/-
  Walks of the comparisons that a sort of positions uses: slices.Equal, its closure, compareBearoffs; they only read and draw.
-/
import Derived.Test.YtgbfcjnkohhfoaaAbT
import Derived.Test.YtgbfcjnkohhfoaaMathRes
import Derived.Deep.LoopGhost
import Derived.Shelf.RegionOpenPlain
import Derived.Sort.WalkB12
import Derived.Lib.SliceRun
namespace Go.Proofs.Ytgbfcjnkohhfoaa
open Go.RowKit

theorem named {α : Type} (x : α) : ∃ y, Hid (y = x) := ⟨x, rfl⟩
/-- the integers zs lie at block b, from cell o on -/
def CellsI (w : World) (b o : Nat) (zs : List Int) : Prop := ∀ j, j < zs.length → w.cell? ⟨b, o + j, none⟩ = some (.int .i64 (zs.getD j 0))
def PreEqI (xs ys : List Int) (k : Nat) : Prop := ∀ j, j < k → xs.getD j 0 = ys.getD j 0
theorem PreEqI.all {xs ys : List Int} (h : PreEqI xs ys xs.length) (hl : xs.length = ys.length) : xs = ys := by
  refine List.ext_getElem hl fun j h1 h2 => ?_
  have := h j h1
  rwa [List.getD_eq_getElem?_getD, List.getD_eq_getElem?_getD, List.getElem?_eq_getElem h1, List.getElem?_eq_getElem h2] at this
set_option maxHeartbeats 1000000 in
theorem eqW (b1 o1 c1 b2 o2 c2 : Nat) (xs ys : List Int) (w : World) (hl : xs.length = ys.length) (hm : xs.length < 4611686018427387904) (h1 : CellsI w b1 o1 xs) (h2 : CellsI w b2 o2 ys) :
    Calls Try.prog 102 #[.slice (some ⟨b1, o1, none⟩) xs.length c1, .slice (some ⟨b2, o2, none⟩) ys.length c2] w fun e w' => e = .returned (.bool (decide (xs = ys))) ∧ ∃ n, w' = w.drewN n := by
  have hb : ((xs.length : Int) != ys.length) = false := by simp [hl]
  have l1 : xs.length ≤ ys.length := by omega
  have HL := hid hl
  clear hl
  go_enter Try.func102, Try.ntmps102
  go_wp2
  go_loopw [13, 5] (fun i _ wr => ∃ k n : Nat, k ≤ xs.length ∧ i = .int .i64 k ∧ wr = w.drewN n ∧ PreEqI xs ys k) (fun i _ _ => xs.length - (intOf i).toNat)
  case atStart => exact ⟨0, 0, by omega, rfl, rfl, fun j h => by omega⟩
  case round =>
    obtain ⟨k, n, hk, rfl, rfl, hp⟩ := hrel
    have HP := hid hp
    clear hp
    by_cases hlt : k < xs.length
    · have hx := h1 k hlt
      have hy := h2 k (by omega)
      obtain ⟨x, HX⟩ := named (xs.getD k 0)
      obtain ⟨y, HY⟩ := named (ys.getD k 0)
      rw [← HX.out] at hx
      rw [← HY.out] at hy
      have i1 : (k : Int) < (xs.length : Int) := by omega
      have i2 : (k : Int) < (ys.length : Int) := by omega
      clear h1 h2
      by_cases hxy : x = y
      · have hne : (x != y) = false := by simpa using hxy
        have HE := hid hxy
        clear hxy
        go_wp2
        go_quiet (fail)
        go_wp2
        go_roundw
        case rel => exact ⟨k + 1, n + nq, by omega, by go_num, rfl, fun j hj => by
          by_cases e : j = k
          · rw [e, ← HX.out, ← HY.out, HE.out]
          · exact HP.out j (by omega)⟩
        case measure => simp [intOf]; omega
      · have hne : (x != y) = true := by simpa using hxy
        have HE := hid hxy
        clear hxy
        go_wp2
        go_quiet (fail)
        go_wp2
        go_ret
        exact ⟨ret_bool (by
          symm; simp; intro h; apply HE.out; rw [HX.out, HY.out, h]), n + nq, by simp only [World.drewN_drewN]⟩
    · go_wp2
      go_ret
      have : k = xs.length := by omega
      subst this
      exact ⟨ret_bool (by symm; simp; exact HP.out.all HL.out), _, rfl⟩

end Go.Proofs.Ytgbfcjnkohhfoaa
