/-
  Contracts of both RollsFrom functions, for every variant, seed and number.
-/
import Derived.Test.YtmcjabodkjlkgaaRollF
import Derived.Test.YtmcjabodkjlkgaaStratW
namespace Go.Proofs.Ytmcjabodkjlkgaa
open Go.RowKit

def seedN (x : Int) : Nat → Int
  | 0 => x
  | k + 1 => nextS (nextS (seedN x k))
def fromL (s x : Int) (n : Nat) : List (Int × Int) := (List.range n).map fun i => (rollX s (seedN x i), rollY s (seedN x i))
theorem fromL_succ (s x : Int) (n : Nat) : fromL s x (n + 1) = fromL s x n ++ [(rollX s (seedN x n), rollY s (seedN x n))] := by simp [fromL, List.range_succ]
theorem fromL_len (s x : Int) (n : Nat) : (fromL s x n).length = n := by simp [fromL]
theorem seedN_bd (x : Int) (h0 : 0 ≤ x) (h1 : x ≤ 2147483647) : ∀ n, 0 ≤ seedN x n ∧ seedN x n ≤ 2147483647
  | 0 => ⟨h0, h1⟩
  | n + 1 => by have := nextS_bd (nextS (seedN x n)); simp only [seedN]; omega
def fromZ (p c h s x n : Int) : List (Int × Int) := if codeR (varB p c h s) x n = 0 then fromL s x n.toNat else []

set_option maxRecDepth 100000 in
set_option maxHeartbeats 4000000 in
theorem implFrom_any (p c h s x n : Int) (w : World) :
    Calls Try.prog 46 #[.agg #[.int .i64 p, .int .i64 c, .int .i64 h, .int .i64 s], .int .i64 x, .int .i64 n] w (RetRolls w (fromZ p c h s x n) (codeR (varB p c h s) x n)) := by
  by_cases hc : codeR (varB p c h s) x n = 0
  · obtain ⟨hv, s0, s1, n0, n1⟩ := codeR_zero hc
    have hr := varB_true hv
    obtain ⟨k, rfl⟩ := Int.eq_ofNat_of_zero_le n0
    have HZ : Hid (fromZ p c h s x k = fromL s x k) := hid (by simp [fromZ, hc])
    have HC := hid hc
    obtain ⟨j0, hj, hy0, hy1, hy2⟩ := info_parts info_roll
    have B0 := hid (blk_new w (.cells #[.int .i64 p, .int .i64 c, .int .i64 h, .int .i64 s] 29 (0, 0)))
    clear hc hv
    go_enter Try.func46, Try.ntmps46
    go_wp2_with fail
    refine (checkRolls_any _ _ _ _ _ _ _).mono ?_
    rw [HC.out]
    rintro e w1 ⟨rfl, hb⟩
    have B2 := hid (blk_mono hb B0.out)
    have B4 : Below w.heap.size w w1 := by (repeat' (first | (with_reducible exact Below.refl _ _) | (with_reducible assumption) | (with_reducible refine xAlloc ?_ _) | (with_reducible refine Below.drew ?_) | (with_reducible refine xDrewN ?_ _) | (with_reducible refine xThen ?_ (by with_reducible assumption)) | (with_reducible refine Below.setCell ?_ (by first | omega | (simp; omega) | simp) _) | exact Below.refl _ _))
    have B5 := hb.size
    simp at B5
    clear B0 hb
    go_wp2
    go_loopw [9, 1, 20, 10, 11] (fun lv sd cv _ _ wr => ∃ (j : Nat) (a : Option Addr) (cap : Nat), j ≤ k ∧ lv = .slice a j cap ∧ sd = .int .i64 (seedN x j) ∧ cv = .int .i64 j ∧ wr.ownsRow (w.heap.size + 1) 42 2 (.slice a j cap) j (rollCells (fromL s x j)) ∧ wr.heap[w.heap.size]? = some (.cells #[.int .i64 p, .int .i64 c, .int .i64 h, .int .i64 s] 29 (0, 0)) ∧ Below w.heap.size w wr ∧ w.heap.size + 1 ≤ wr.heap.size) (fun _ _ cv _ _ _ => k - (intOf cv).toNat)
    case atStart => exact ⟨0, none, 0, by omega, rfl, rfl, rfl, by simpa [fromL, rollCells] using World.ownsRow_nil _ _ _ _, B2.out, B4, by omega⟩
    case round =>
      clear B2 B4 B5
      obtain ⟨j, a, cap, hjn, rfl, rfl, rfl, hown, hbx, hbw, hsz⟩ := hrel
      have HOWN := hid hown
      have HX := hid hbx
      have HB := hid hbw
      have hsd := seedN_bd x (by omega) (by omega) j
      obtain ⟨sv, HSV⟩ := named (seedN x j)
      rw [← HSV.out] at hsd ⊢
      clear hown hbx hbw
      by_cases hlt : j < k
      · have i1 : (j : Int) < (k : Int) := by omega
        have kx0 : wr.cell? ⟨w.heap.size, 0, none⟩ = some (.int .i64 p) := cell_at HX.out
        have kx1 : wr.cell? ⟨w.heap.size, 1, none⟩ = some (.int .i64 c) := cell_at HX.out
        have kx2 : wr.cell? ⟨w.heap.size, 2, none⟩ = some (.int .i64 h) := cell_at HX.out
        have kx3 : wr.cell? ⟨w.heap.size, 3, none⟩ = some (.int .i64 s) := cell_at HX.out
        obtain ⟨X, HXX⟩ := named (rollX s sv)
        obtain ⟨Y, HYY⟩ := named (rollY s sv)
        obtain ⟨sw, HSW⟩ := named (nextS (nextS sv))
        go_wp2_with (go_at_call 99; refine (rollFrom_any p c h s sv (by omega) (by omega) (by omega) (by omega) _).mono ?_; rw [← HXX.out, ← HYY.out, ← HSW.out]; rintro e w2 ⟨rfl, hb⟩; have HO1 := hid (owns_below HOWN.out hb); have HX2 := hid (blk_mono hb HX.out); have HB1 := hid (xThen HB.out hb); have hs2 : w.heap.size + 1 ≤ w2.heap.size := Nat.le_trans hsz hb.size; clear kx0 kx1 kx2 kx3 hb; refine Hid.out ?_)
        refine hid ?_
        go_wp2_with (at_builtin; refine wpList_append_lands _ rfl _ _ 66 rfl (w.heap.size + 1) 42 j0 (.agg #[.int .i64 0, .int .i64 0]) 2 16 Try.underlying66 hj hy0 hy1 hy2 rfl (by decide) _ _ _ rfl ((HO1.out.alloc _).alloc _) ⟨w2.heap.size + 1, 0, none⟩ 1 1 [.int .i64 X, .int .i64 Y] rfl rfl ?c1 ?c2 ?c3 ?c4 ?c5 ?_)
        case c1 => have := cells_new (w2.alloc (.cells #[.int .i64 X, .int .i64 Y] 42 (0, 0))) #[.int .i64 X, .int .i64 Y] 42; simpa using this
        case c2 => intro u hu; simp at hu; rcases hu with rfl | rfl <;> rfl
        case c3 => unfold maxLen; omega
        case c4 => omega
        case c5 => simp; omega
        intro v' w3 hown3 hgrow _
        obtain ⟨a', cap', rfl, _⟩ := owns_slice hown3
        have HOWN3 := hid hown3
        have HG := hid hgrow
        have hne : ∀ k, (Value.slice a j cap).ownBlock = some k → w.heap.size + 1 ≤ k := fun k hk => (HO1.out.lt k hk).1
        have HNE2 := hid hne
        clear hown3 hgrow hne
        go_wp2
        have HEQ : Hid (rollCells (fromL s x (j + 1)) = rollCells (fromL s x j) ++ [.int .i64 X, .int .i64 Y]) := hid (by rw [fromL_succ, rollCells_append, HXX.out, HYY.out, HSV.out]; rfl)
        have HSE : Hid (seedN x (j + 1) = sw) := hid (by rw [HSW.out, HSV.out]; rfl)
        have hrel : ∃ (j' : Nat) (a2 : Option Addr) (cap2 : Nat), j' ≤ k ∧ Value.slice a' (j + 1) cap' = .slice a2 j' cap2 ∧ Value.int .i64 sw = .int .i64 (seedN x j') ∧ Value.int .i64 ((j : Int) + 1) = .int .i64 (j' : Int) ∧ w3.ownsRow (w.heap.size + 1) 42 2 (.slice a2 j' cap2) j' (rollCells (fromL s x j')) ∧ w3.heap[w.heap.size]? = some (.cells #[.int .i64 p, .int .i64 c, .int .i64 h, .int .i64 s] 29 (0, 0)) ∧ Below w.heap.size w w3 ∧ w.heap.size + 1 ≤ w3.heap.size := by
          refine ⟨j + 1, a', cap', by omega, rfl, by rw [HSE.out], by go_num, ?_, ?_, ?_, ?_⟩
          · rw [HEQ.out]; exact HOWN3.out
          · exact grown_blk HG.out (blk_old (blk_old HX2.out)) (fun e => by have := HNE2.out _ e; omega)
          · exact ((HB1.out.alloc HB1.out.size _).alloc (HB1.out.alloc HB1.out.size _).size _).grown HG.out (by simp; omega) (fun k hk => by have := HNE2.out _ hk; omega)
          · exact Nat.le_trans (by simp; omega) HG.out.size
        have HREL := hid hrel
        clear hrel
        go_roundw
        case rel => first | exact HREL.out | ((repeat apply Exists.intro); exact ⟨HREL.out, rfl⟩)
        case measure => simp [intOf]; omega
      · obtain rfl : j = k := by omega
        have i1 : ¬ ((j : Int) < (j : Int)) := by omega
        go_wp2
        go_ret2
        refine ⟨_, by rw [HC.out]; rfl, ?_, HB.out⟩
        rw [HZ.out]
        refine (FreshRolls.of_owns (lo := w.heap.size + 1) (by rw [fromL_len]; omega) ?_).low (by omega)
        rw [fromL_len]
        exact HOWN.out

  · have hb0 : (codeR (varB p c h s) x n != 0) = true := by simpa using hc
    have HZ : Hid (fromZ p c h s x n = []) := hid (by simp [fromZ, hc])
    clear hc
    go_enter Try.func46, Try.ntmps46
    go_wp2_with (go_at_call 94; refine (checkRolls_any _ _ _ _ _ _ _).mono ?_; rintro e w1 ⟨rfl, hb⟩; obtain ⟨hc, hf⟩ := bcell hb; have hsz := hb.size; (try simp at hsz); (try have hy0 : w.heap.size < w1.heap.size := by omega); (try have hy1 : w.heap.size + 1 < w1.heap.size := by omega); (try have hy2 : w.heap.size + 2 < w1.heap.size := by omega); (try have hyS : ws.heap.size < w1.heap.size := by omega); (try have hyG : wg.heap.size < w1.heap.size := by omega))
    go_ret2
    exact ⟨_, rfl, by rw [HZ.out]; exact FreshRolls.nil _ _, by (repeat' (first | (with_reducible exact Below.refl _ _) | (with_reducible assumption) | (with_reducible refine xAlloc ?_ _) | (with_reducible refine Below.drew ?_) | (with_reducible refine xDrewN ?_ _) | (with_reducible refine xThen ?_ (by with_reducible assumption)) | (with_reducible refine Below.setCell ?_ (by first | omega | (simp; omega) | simp) _) | exact Below.refl _ _))⟩

set_option maxRecDepth 100000 in
set_option maxHeartbeats 4000000 in
theorem specFrom_any (p c h s x n : Int) (w : World) :
    Calls Try.prog 47 #[.agg #[.int .i64 p, .int .i64 c, .int .i64 h, .int .i64 s], .int .i64 x, .int .i64 n] w (RetRolls w (fromZ p c h s x n) (codeR (varB p c h s) x n)) := by
  by_cases hc : codeR (varB p c h s) x n = 0
  · obtain ⟨hv, s0, s1, n0, n1⟩ := codeR_zero hc
    have hr := varB_true hv
    obtain ⟨k, rfl⟩ := Int.eq_ofNat_of_zero_le n0
    have HZ : Hid (fromZ p c h s x k = fromL s x k) := hid (by simp [fromZ, hc])
    have HC := hid hc
    obtain ⟨j0, hj, hy0, hy1, hy2⟩ := info_parts info_roll
    have B0 := hid (blk_old (o' := .cells #[] 42) (blk_new w (.cells #[.int .i64 p, .int .i64 c, .int .i64 h, .int .i64 s] 29 (0, 0))))
    have B1 := hid (World.ownsRow_made (base := w.heap.size + 1) (e := 42) (size := 2) (w.alloc (.cells #[.int .i64 p, .int .i64 c, .int .i64 h, .int .i64 s] 29 (0, 0))) #[] 0 (by simp) (Nat.zero_le _) rfl)
    clear hc hv
    go_enter Try.func47, Try.ntmps47
    go_wp2_with fail
    refine (l07Code_any _ _ _ _ _ _ _).mono ?_
    rw [HC.out]
    rintro e w1 ⟨rfl, hb⟩
    have B2 := hid (blk_mono hb B0.out)
    have B3 := hid (owns_below B1.out hb)
    have B4 : Below w.heap.size w w1 := by (repeat' (first | (with_reducible exact Below.refl _ _) | (with_reducible assumption) | (with_reducible refine xAlloc ?_ _) | (with_reducible refine Below.drew ?_) | (with_reducible refine xDrewN ?_ _) | (with_reducible refine xThen ?_ (by with_reducible assumption)) | (with_reducible refine Below.setCell ?_ (by first | omega | (simp; omega) | simp) _) | exact Below.refl _ _))
    have B5 := hb.size
    simp at B5
    clear B0 B1 hb
    go_wp2
    go_loopw [8, 1, 2, 10, 11] (fun lv sd cv _ _ wr => ∃ (j : Nat) (a : Option Addr) (cap : Nat), j ≤ k ∧ lv = .slice a j cap ∧ sd = .int .i64 (seedN x j) ∧ cv = .int .i64 ((k : Int) - j) ∧ wr.ownsRow (w.heap.size + 1) 42 2 (.slice a j cap) j (rollCells (fromL s x j)) ∧ wr.heap[w.heap.size]? = some (.cells #[.int .i64 p, .int .i64 c, .int .i64 h, .int .i64 s] 29 (0, 0)) ∧ Below w.heap.size w wr ∧ w.heap.size + 1 ≤ wr.heap.size) (fun _ _ cv _ _ _ => (intOf cv).toNat)
    case atStart => exact ⟨0, some ⟨w.heap.size + 1, 0, none⟩, 0, by omega, rfl, rfl, by simp, by simpa [fromL, rollCells] using B3.out, B2.out, B4, by omega⟩
    case round =>
      clear B2 B3 B4 B5
      obtain ⟨j, a, cap, hjn, rfl, rfl, rfl, hown, hbx, hbw, hsz⟩ := hrel
      have HOWN := hid hown
      have HX := hid hbx
      have HB := hid hbw
      have hsd := seedN_bd x (by omega) (by omega) j
      obtain ⟨sv, HSV⟩ := named (seedN x j)
      rw [← HSV.out] at hsd ⊢
      clear hown hbx hbw
      by_cases hlt : j < k
      · have i1 : 0 < (k : Int) - (j : Int) := by omega
        have kx0 : wr.cell? ⟨w.heap.size, 0, none⟩ = some (.int .i64 p) := cell_at HX.out
        have kx1 : wr.cell? ⟨w.heap.size, 1, none⟩ = some (.int .i64 c) := cell_at HX.out
        have kx2 : wr.cell? ⟨w.heap.size, 2, none⟩ = some (.int .i64 h) := cell_at HX.out
        have kx3 : wr.cell? ⟨w.heap.size, 3, none⟩ = some (.int .i64 s) := cell_at HX.out
        obtain ⟨X, HXX⟩ := named (rollX s sv)
        obtain ⟨Y, HYY⟩ := named (rollY s sv)
        obtain ⟨sw, HSW⟩ := named (nextS (nextS sv))
        go_wp2_with (go_at_call 100; refine (l07From_any p c h s sv (by omega) (by omega) (by omega) (by omega) _).mono ?_; rw [← HXX.out, ← HYY.out, ← HSW.out]; rintro e w2 ⟨rfl, hb⟩; have HO1 := hid (owns_below HOWN.out hb); have HX2 := hid (blk_mono hb HX.out); have HB1 := hid (xThen HB.out hb); have hs2 : w.heap.size + 1 ≤ w2.heap.size := Nat.le_trans hsz hb.size; clear kx0 kx1 kx2 kx3 hb; refine Hid.out ?_)
        refine hid ?_
        go_wp2_with (at_builtin; refine wpList_append_lands _ rfl _ _ 66 rfl (w.heap.size + 1) 42 j0 (.agg #[.int .i64 0, .int .i64 0]) 2 16 Try.underlying66 hj hy0 hy1 hy2 rfl (by decide) _ _ _ rfl ((HO1.out.alloc _).alloc _) ⟨w2.heap.size + 1, 0, none⟩ 1 1 [.int .i64 X, .int .i64 Y] rfl rfl ?c1 ?c2 ?c3 ?c4 ?c5 ?_)
        case c1 => have := cells_new (w2.alloc (.cells #[.int .i64 X, .int .i64 Y] 42 (0, 0))) #[.int .i64 X, .int .i64 Y] 42; simpa using this
        case c2 => intro u hu; simp at hu; rcases hu with rfl | rfl <;> rfl
        case c3 => unfold maxLen; omega
        case c4 => omega
        case c5 => simp; omega
        intro v' w3 hown3 hgrow _
        obtain ⟨a', cap', rfl, _⟩ := owns_slice hown3
        have HOWN3 := hid hown3
        have HG := hid hgrow
        have hne : ∀ k, (Value.slice a j cap).ownBlock = some k → w.heap.size + 1 ≤ k := fun k hk => (HO1.out.lt k hk).1
        have HNE2 := hid hne
        clear hown3 hgrow hne
        go_wp2
        have HEQ : Hid (rollCells (fromL s x (j + 1)) = rollCells (fromL s x j) ++ [.int .i64 X, .int .i64 Y]) := hid (by rw [fromL_succ, rollCells_append, HXX.out, HYY.out, HSV.out]; rfl)
        have HSE : Hid (seedN x (j + 1) = sw) := hid (by rw [HSW.out, HSV.out]; rfl)
        have hrel : ∃ (j' : Nat) (a2 : Option Addr) (cap2 : Nat), j' ≤ k ∧ Value.slice a' (j + 1) cap' = .slice a2 j' cap2 ∧ Value.int .i64 sw = .int .i64 (seedN x j') ∧ Value.int .i64 ((k : Int) - j - 1) = .int .i64 ((k : Int) - j') ∧ w3.ownsRow (w.heap.size + 1) 42 2 (.slice a2 j' cap2) j' (rollCells (fromL s x j')) ∧ w3.heap[w.heap.size]? = some (.cells #[.int .i64 p, .int .i64 c, .int .i64 h, .int .i64 s] 29 (0, 0)) ∧ Below w.heap.size w w3 ∧ w.heap.size + 1 ≤ w3.heap.size := by
          refine ⟨j + 1, a', cap', by omega, rfl, by rw [HSE.out], by congr 1; omega, ?_, ?_, ?_, ?_⟩
          · rw [HEQ.out]; exact HOWN3.out
          · exact grown_blk HG.out (blk_old (blk_old HX2.out)) (fun e => by have := HNE2.out _ e; omega)
          · exact ((HB1.out.alloc HB1.out.size _).alloc (HB1.out.alloc HB1.out.size _).size _).grown HG.out (by simp; omega) (fun k hk => by have := HNE2.out _ hk; omega)
          · exact Nat.le_trans (by simp; omega) HG.out.size
        have HREL := hid hrel
        clear hrel
        go_roundw
        case rel => first | exact HREL.out | ((repeat apply Exists.intro); exact ⟨HREL.out, rfl⟩)
        case measure => simp [intOf]; omega
      · obtain rfl : j = k := by omega
        have i1 : ¬ (0 < (j : Int) - (j : Int)) := by omega
        go_wp2
        go_ret2
        refine ⟨_, by rw [HC.out]; rfl, ?_, HB.out⟩
        rw [HZ.out]
        refine (FreshRolls.of_owns (lo := w.heap.size + 1) (by rw [fromL_len]; omega) ?_).low (by omega)
        rw [fromL_len]
        exact HOWN.out

  · have hb0 : (codeR (varB p c h s) x n != 0) = true := by simpa using hc
    have HZ : Hid (fromZ p c h s x n = []) := hid (by simp [fromZ, hc])
    clear hc
    obtain ⟨j0, hj, hy0, hy1, hy2⟩ := info_parts info_roll
    have B1 := hid (World.ownsRow_made (base := w.heap.size + 1) (e := 42) (size := 2) (w.alloc (.cells #[.int .i64 p, .int .i64 c, .int .i64 h, .int .i64 s] 29 (0, 0))) #[] 0 (by simp) (Nat.zero_le _) rfl)
    go_enter Try.func47, Try.ntmps47
    go_wp2_with fail
    refine (l07Code_any _ _ _ _ _ _ _).mono ?_
    rintro e w1 ⟨rfl, hb⟩
    have B3 := hid (owns_below B1.out hb)
    have B4 : Below w.heap.size w w1 := by (repeat' (first | (with_reducible exact Below.refl _ _) | (with_reducible assumption) | (with_reducible refine xAlloc ?_ _) | (with_reducible refine Below.drew ?_) | (with_reducible refine xDrewN ?_ _) | (with_reducible refine xThen ?_ (by with_reducible assumption)) | (with_reducible refine Below.setCell ?_ (by first | omega | (simp; omega) | simp) _) | exact Below.refl _ _))
    clear B1 hb
    go_wp2_with fail
    go_ret2
    exact ⟨.slice (some ⟨w.heap.size + 1, 0, none⟩) 0 0, rfl, by rw [HZ.out]; exact (FreshRolls.of_owns (rs := []) (by simp) (by simpa [rollCells] using B3.out)).low (by omega), B4⟩
end Go.Proofs.Ytmcjabodkjlkgaa
