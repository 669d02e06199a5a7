/-
  The contract of AllRolls for valid variants: all rolls, the higher die first.
-/
import Derived.Test.YtmcjabodkjlkgaaStrat
import Derived.Test.YtmcjabodkjlkgaaStratP
import Derived.Test.YtmcjabodkjlkgaaApp
namespace Go.Proofs.Ytmcjabodkjlkgaa
open Go.RowKit

def rowR (i j : Nat) : List (Int × Int) := (List.range j).map fun (j : Nat) => ((i : Int) + 1, (j : Int) + 1)
theorem rowR_succ (i j : Nat) : rowR i (j + 1) = rowR i j ++ [((i : Int) + 1, (j : Int) + 1)] := by simp [rowR, List.range_succ]
theorem allR_succ (i : Nat) : allR (i + 1) = allR i ++ rowR i (i + 1) := by simp [allR, rowR, List.range_succ]
theorem rowR_len (i j : Nat) : (rowR i j).length = j := by simp [rowR]
theorem allR_len : ∀ i, i ≤ 6 → (allR i).length ≤ 21 := by decide

set_option maxRecDepth 100000 in
set_option maxHeartbeats 2000000 in
theorem allRolls_any (p c h : Int) (s : Nat) (w : World) (hv : varB p c h s = true) :
    Calls Try.prog 51 #[.agg #[.int .i64 p, .int .i64 c, .int .i64 h, .int .i64 s]] w fun e w' => ∃ v, e = .returned v ∧ FreshRolls w' w.heap.size v (allR s) ∧ Below w.heap.size w w' := by
  have hr := varB_true hv
  have hs1 : 1 ≤ s := by omega
  have hs6 : s ≤ 6 := by omega
  have HV := hid hv
  clear hv
  obtain ⟨j0, hj, hy0, hy1, hy2⟩ := info_parts info_roll
  have B0 := hid (blk_new w (.cells #[.int .i64 p, .int .i64 c, .int .i64 h, .int .i64 s] 29 (0, 0)))
  go_enter Try.func51, Try.ntmps51
  go_wp2_with fail
  refine (isVariant_any _ _ _ _ _).mono ?_
  rw [HV.out]
  rintro e w1 ⟨rfl, hb⟩
  have B2 := hid (blk_mono hb B0.out)
  have B4 : Below w.heap.size w w1 := by (repeat' (first | (with_reducible exact Below.refl _ _) | (with_reducible assumption) | (with_reducible refine xAlloc ?_ _) | (with_reducible refine Below.drew ?_) | (with_reducible refine xDrewN ?_ _) | (with_reducible refine xThen ?_ (by with_reducible assumption)) | (with_reducible refine Below.setCell ?_ (by first | omega | (simp; omega) | simp) _) | exact Below.refl _ _))
  have B5 := hb.size
  simp at B5
  clear B0 hb
  go_wp2
  go_loopw [3, 4, 5] (fun lv iv _ wr => ∃ (i q : Nat) (a : Option Addr) (cap : Nat), i ≤ s ∧ q = (allR i).length ∧ iv = .int .i64 ((i : Int) + 1) ∧ lv = .slice a q cap ∧ wr.ownsRow (w.heap.size + 1) 42 2 (.slice a q cap) q (rollCells (allR i)) ∧ wr.heap[w.heap.size]? = some (.cells #[.int .i64 p, .int .i64 c, .int .i64 h, .int .i64 s] 29 (0, 0)) ∧ Below w.heap.size w wr ∧ w.heap.size + 1 ≤ wr.heap.size) (fun _ iv _ _ => s + 1 - (intOf iv).toNat)
  case atStart => exact ⟨0, 0, none, 0, by omega, by simp [allR], rfl, rfl, by simpa [allR, rollCells] using World.ownsRow_nil _ _ _ _, B2.out, B4, by omega⟩
  case round =>
    clear B2 B4 B5
    obtain ⟨i, q, a, cap, hi, hq, rfl, rfl, hown, hbx, hbw, hsz⟩ := hrel
    have HOWN := hid hown
    have HX := hid hbx
    have HB := hid hbw
    have HQ := hid hq
    have hq21 : q ≤ 21 := by rw [hq]; exact allR_len i (by omega)
    have kx : wr.cell? ⟨w.heap.size, 3, none⟩ = some (.int .i64 s) := cell_at HX.out
    clear hown hbx hbw hq
    by_cases hlt : i < s
    · have i1 : (i : Int) + 1 ≤ (s : Int) := by omega
      go_wp2
      clear kx
      go_loopw [3, 5] (fun lv jv wr => ∃ (j : Nat) (a2 : Option Addr) (cap2 : Nat), j ≤ i + 1 ∧ jv = .int .i64 ((j : Int) + 1) ∧ lv = .slice a2 (q + j) cap2 ∧ wr.ownsRow (w.heap.size + 1) 42 2 (.slice a2 (q + j) cap2) (q + j) (rollCells (allR i ++ rowR i j)) ∧ wr.heap[w.heap.size]? = some (.cells #[.int .i64 p, .int .i64 c, .int .i64 h, .int .i64 s] 29 (0, 0)) ∧ Below w.heap.size w wr ∧ w.heap.size + 1 ≤ wr.heap.size) (fun _ jv _ => i + 2 - (intOf jv).toNat)
      case atStart => exact ⟨0, a, cap, by omega, rfl, rfl, by simpa [rowR] using HOWN.out, HX.out, HB.out, hsz⟩
      case round =>
        clear HOWN HX HB
        obtain ⟨j, a2, cap2, hj2, rfl, rfl, hown, hbx, hbw, hsz2⟩ := hrel
        have HOWN := hid hown
        have HX := hid hbx
        have HB := hid hbw
        clear hown hbx hbw
        by_cases hlt2 : j < i + 1
        · have i2 : (j : Int) + 1 ≤ (i : Int) + 1 := by omega
          go_wp2_with (at_builtin; refine wpList_append_lands _ rfl _ _ 66 rfl (w.heap.size + 1) 42 j0 (.agg #[.int .i64 0, .int .i64 0]) 2 16 Try.underlying66 hj hy0 hy1 hy2 rfl (by decide) _ _ _ rfl (HOWN.out.alloc _) ⟨wr.heap.size, 0, none⟩ 1 1 [.int .i64 ((i : Int) + 1), .int .i64 ((j : Int) + 1)] rfl rfl ?c1 ?c2 ?c3 ?c4 ?c5 ?_)
          case c1 => exact cells_new wr #[.int .i64 ((i : Int) + 1), .int .i64 ((j : Int) + 1)] _
          case c2 => intro u hu; simp at hu; rcases hu with rfl | rfl <;> rfl
          case c3 => unfold maxLen; omega
          case c4 => omega
          case c5 => simp; omega
          intro v' w3 hown3 hgrow _
          obtain ⟨a', cap', rfl, _⟩ := owns_slice hown3
          have HOWN3 := hid hown3
          have HG := hid hgrow
          have hne : ∀ k, (Value.slice a2 (q + j) cap2).ownBlock = some k → w.heap.size + 1 ≤ k := fun k hk => (HOWN.out.lt k hk).1
          have HNE2 := hid hne
          clear hown3 hgrow hne
          go_wp2
          have HEQ : Hid (rollCells (allR i ++ rowR i (j + 1)) = rollCells (allR i ++ rowR i j) ++ [.int .i64 ((i : Int) + 1), .int .i64 ((j : Int) + 1)]) := hid (by rw [rowR_succ, ← List.append_assoc, rollCells_append (allR i ++ rowR i j)]; rfl)
          go_roundw
          case rel =>
            refine ⟨j + 1, a', cap', by omega, by go_num, rfl, ?_, ?_, ?_, ?_⟩
            · rw [HEQ.out]; exact HOWN3.out
            · exact grown_blk HG.out (blk_old HX.out) (fun e => by have := HNE2.out _ e; omega)
            · exact (HB.out.alloc HB.out.size _).grown HG.out (by simp; omega) (fun k hk => by have := HNE2.out _ hk; omega)
            · exact Nat.le_trans (by simp; omega) HG.out.size
          case measure => simp [intOf]; omega
        · obtain rfl : j = i + 1 := by omega
          have i2 : ¬ (((i + 1 : Nat) : Int) + 1 ≤ (i : Int) + 1) := by omega
          go_wp2
          have hl : q + (i + 1) = (allR (i + 1)).length := by rw [allR_succ, List.length_append, rowR_len, HQ.out]
          have HL := hid hl
          clear hl
          go_roundw
          case rel => exact ⟨i + 1, q + (i + 1), a2, cap2, by omega, HL.out, by go_num, rfl, by rw [allR_succ]; exact HOWN.out, HX.out, HB.out, hsz2⟩
          case measure => simp [intOf]; omega
    · obtain rfl : i = s := by omega
      have i1 : ¬ ((i : Int) + 1 ≤ (i : Int)) := by omega
      go_wp2
      go_ret
      refine ⟨_, rfl, (FreshRolls.of_owns (lo := w.heap.size + 1) (by rw [← HQ.out]; omega) ?_).low (by omega), HB.out⟩
      rw [← HQ.out]
      exact HOWN.out
end Go.Proofs.Ytmcjabodkjlkgaa
