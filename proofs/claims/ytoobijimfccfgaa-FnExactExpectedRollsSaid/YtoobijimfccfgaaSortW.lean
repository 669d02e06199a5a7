/-
  Walks of the comparisons that a sort of positions uses: slices.Equal, its closure, compareBearoffs; they only read and draw.
-/
import Derived.Test.YtoobijimfccfgaaAbT
import Derived.Test.YtoobijimfccfgaaMB
import Derived.Deep.LoopGhost
import Derived.Shelf.RegionOpenPlain
import Derived.Sort.WalkB12
import Derived.Lib.SliceRun
namespace Go.Proofs.Ytoobijimfccfgaa
open Go.RowKit

theorem named {α : Type} (x : α) : ∃ y, Hid (y = x) := ⟨x, rfl⟩
/-- the integers zs lie at block b, from cell o on -/
def CellsI (w : World) (b o : Nat) (zs : List Int) : Prop := ∀ j, j < zs.length → w.cell? ⟨b, o + j, none⟩ = some (.int .i64 (zs.getD j 0))
def PreEqI (xs ys : List Int) (k : Nat) : Prop := ∀ j, j < k → xs.getD j 0 = ys.getD j 0
theorem PreEqI.all {xs ys : List Int} (h : PreEqI xs ys xs.length) (hl : xs.length = ys.length) : xs = ys := by
  refine List.ext_getElem hl fun j h1 h2 => ?_
  have := h j h1
  rwa [List.getD_eq_getElem?_getD, List.getD_eq_getElem?_getD, List.getElem?_eq_getElem h1, List.getElem?_eq_getElem h2] at this
set_option maxHeartbeats 1000000 in
theorem eqW (b1 o1 c1 b2 o2 c2 : Nat) (xs ys : List Int) (w : World) (hl : xs.length = ys.length) (hm : xs.length < 4611686018427387904) (h1 : CellsI w b1 o1 xs) (h2 : CellsI w b2 o2 ys) :
    Calls Try.prog 83 #[.slice (some ⟨b1, o1, none⟩) xs.length c1, .slice (some ⟨b2, o2, none⟩) ys.length c2] w fun e w' => e = .returned (.bool (decide (xs = ys))) ∧ ∃ n, w' = w.drewN n := by
  have hb : ((xs.length : Int) != ys.length) = false := by simp [hl]
  have l1 : xs.length ≤ ys.length := by omega
  have HL := hid hl
  clear hl
  go_enter Try.func83, Try.ntmps83
  go_wp2
  go_loopw [13, 5] (fun i _ wr => ∃ k n : Nat, k ≤ xs.length ∧ i = .int .i64 k ∧ wr = w.drewN n ∧ PreEqI xs ys k) (fun i _ _ => xs.length - (intOf i).toNat)
  case atStart => exact ⟨0, 0, by omega, rfl, rfl, fun j h => by omega⟩
  case round =>
    obtain ⟨k, n, hk, rfl, rfl, hp⟩ := hrel
    have HP := hid hp
    clear hp
    by_cases hlt : k < xs.length
    · have hx := h1 k hlt
      have hy := h2 k (by omega)
      obtain ⟨x, HX⟩ := named (xs.getD k 0)
      obtain ⟨y, HY⟩ := named (ys.getD k 0)
      rw [← HX.out] at hx
      rw [← HY.out] at hy
      have i1 : (k : Int) < (xs.length : Int) := by omega
      have i2 : (k : Int) < (ys.length : Int) := by omega
      clear h1 h2
      by_cases hxy : x = y
      · have hne : (x != y) = false := by simpa using hxy
        have HE := hid hxy
        clear hxy
        go_wp2
        go_quiet (fail)
        go_wp2
        go_roundw
        case rel => exact ⟨k + 1, n + nq, by omega, by go_num, rfl, fun j hj => by
          by_cases e : j = k
          · rw [e, ← HX.out, ← HY.out, HE.out]
          · exact HP.out j (by omega)⟩
        case measure => simp [intOf]; omega
      · have hne : (x != y) = true := by simpa using hxy
        have HE := hid hxy
        clear hxy
        go_wp2
        go_quiet (fail)
        go_wp2
        go_ret
        exact ⟨ret_bool (by
          symm; simp; intro h; apply HE.out; rw [HX.out, HY.out, h]), n + nq, by simp only [World.drewN_drewN]⟩
    · go_wp2
      go_ret
      have : k = xs.length := by omega
      subst this
      exact ⟨ret_bool (by symm; simp; exact HP.out.all HL.out), _, rfl⟩

theorem eqC0 (u v : Value) (r : Bool) (w : World) (hcon : Calls Try.prog 83 #[u, v] w fun e w' => e = .returned (.bool r) ∧ ∃ n, w' = w.drewN n) :
    Calls Try.prog 82 #[u, v] w fun e w' => e = .returned (.bool r) ∧ ∃ n, w' = w.drewN n := by
  go_enter Try.func82, Try.ntmps82
  go_wp2_with fail
  refine hcon.mono ?_
  rintro e w' ⟨rfl, n, rfl⟩
  go_wp2
  go_ret
  exact ⟨rfl, _, rfl⟩
theorem eqC (b1 o1 c1 b2 o2 c2 : Nat) (xs ys : List Int) (w : World) (hl : xs.length = ys.length) (hm : xs.length < 4611686018427387904) (h1 : CellsI w b1 o1 xs) (h2 : CellsI w b2 o2 ys) :
    Calls Try.prog 82 #[.slice (some ⟨b1, o1, none⟩) xs.length c1, .slice (some ⟨b2, o2, none⟩) ys.length c2] w fun e w' => e = .returned (.bool (decide (xs = ys))) ∧ ∃ n, w' = w.drewN n :=
  eqC0 _ _ _ w (eqW b1 o1 c1 b2 o2 c2 xs ys w hl hm h1 h2)

set_option maxHeartbeats 1000000 in
theorem cmpW (b1 o1 c1 b2 o2 c2 : Nat) (xs ys : List Int) (w : World) (hl : xs.length = ys.length) (h1 : CellsI w b1 o1 xs) (h2 : CellsI w b2 o2 ys) (hm : xs.length < 4611686018427387904) (hx : ∀ j, 0 ≤ xs.getD j 0 ∧ xs.getD j 0 ≤ 100) (hy : ∀ j, 0 ≤ ys.getD j 0 ∧ ys.getD j 0 ≤ 100) :
    Calls Try.prog 80 #[.slice (some ⟨b1, o1, none⟩) xs.length c1, .slice (some ⟨b2, o2, none⟩) ys.length c2] w fun e w' => e = .returned (.int .i64 (cmpTo xs ys xs.length)) ∧ ∃ n, w' = w.drewN n := by
  have HL := hid hl
  clear hl
  have HX0 := hid hx
  have HY0 := hid hy
  clear hx hy
  go_enter Try.func80, Try.ntmps80
  go_wp2
  go_loopw [5] (fun i wr => ∃ k n : Nat, k ≤ xs.length ∧ i = .int .i64 ((k : Int) - 1) ∧ wr = w.drewN n ∧ cmpTo xs ys xs.length = cmpTo xs ys k) (fun i _ => (intOf i + 1).toNat)
  case atStart => exact ⟨xs.length, 0, by omega, rfl, rfl, rfl⟩
  case round =>
    obtain ⟨k, n, hk, rfl, rfl, hp⟩ := hrel
    have HP := hid hp
    clear hp
    cases k with
    | zero =>
      go_wp2
      go_ret
      exact ⟨ret_int (by rw [HP.out]; rfl), _, rfl⟩
    | succ k =>
      have hcx := h1 k (by omega)
      have hcy := h2 k (by have := HL.out; omega)
      obtain ⟨x, HX⟩ := named (xs.getD k 0)
      obtain ⟨y, HY⟩ := named (ys.getD k 0)
      rw [← HX.out] at hcx
      rw [← HY.out] at hcy
      have e1 : ((k + 1 : Nat) : Int) - 1 = (k : Int) := by omega
      have i1 : (k : Int) < (xs.length : Int) := by omega
      have i2 : (k : Int) < (ys.length : Int) := by have := HL.out; omega
      have hbx := HX0.out k
      have hby := HY0.out k
      rw [← HX.out] at hbx
      rw [← HY.out] at hby
      have hw : IntKind.i64.wrap (x - y) = x - y := by simp [IntKind.wrap, IntKind.bits, IntKind.signed]; omega
      clear h1 h2
      by_cases hxy : x = y
      · have hne : (x != y) = false := by simpa using hxy
        have HE := hid hxy
        clear hxy
        go_wp2
        go_quiet (fail)
        go_wp2
        go_roundw
        case rel => exact ⟨k, n + nq, by omega, by go_num, rfl, by rw [HP.out]; simp only [cmpTo]; rw [if_pos (by rw [← HX.out, ← HY.out, HE.out])]⟩
        case measure => simp [intOf]
      · have hne : (x != y) = true := by simpa using hxy
        have HE := hid hxy
        clear hxy
        go_wp2
        go_quiet (fail)
        obtain ⟨nq1, hq1⟩ : ∃ m, m = nq := ⟨_, rfl⟩
        rw [← hq1]
        clear hq1
        go_wp2
        go_quiet (fail)
        go_wp2
        go_ret
        exact ⟨ret_int (by rw [HP.out]; simp only [cmpTo]; rw [if_neg (by rw [← HX.out, ← HY.out]; exact HE.out), ← HX.out, ← HY.out]), n + nq1 + nq, by simp only [World.drewN_drewN]⟩
end Go.Proofs.Ytoobijimfccfgaa
