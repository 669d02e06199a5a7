/-
  Contract of impl.addExact where the first number has the greater depth.
-/
import Derived.Test.YtdifaojcjcnokaaAdd
namespace Go.Proofs.Ytdifaojcjcnokaa
open Go.RowKit

set_option maxHeartbeats 1600000 in
theorem addExact_hi (p c h s x y : Int) (b dx dy : Nat) (hBs : Base s b) (hle : dx < dy) (hx : x.natAbs ≤ 1000000000000000000) (hy : y.natAbs ≤ 1000000000000000000) (hyb : dy = 0 ∨ y.tmod b ≠ 0) (hD : b ^ dy ≤ 1000000000000000) (h60 : dy ≤ 60) (w : World) :
    Calls Try.prog 77 #[.agg #[.int .i64 p, .int .i64 c, .int .i64 h, .int .i64 s], .agg #[.int .i64 y, .int .i64 dy], .agg #[.int .i64 x, .int .i64 dx]] w fun e w' =>
      e = .returned (.tuple #[.agg #[.int .i64 (add1N b x y (dy - dx) dy), .int .i64 (add1D b x y (dy - dx) dy)], .bool (add1Ok b x y (dy - dx) dy)]) ∧ Below w.heap.size w w' := by
  have HBs := hid hBs
  have b1 : 1 ≤ b := hBs.2.2.2.1
  have b2 : b ≤ 36 := hBs.2.2.2.2
  have bz : ¬ b = 0 := by omega
  have hlt0 : (dx : Int) < (dy : Int) := by omega
  have hsub : (dy : Int) - (dx : Int) = ((dy - dx : Nat) : Int) := by omega
  obtain ⟨ee, HEE⟩ := named (dy - dx)
  have hee : ee ≤ dy := by rw [HEE.out]; omega
  have HYB := hid hyb
  have HD := hid hD
  rw [← HEE.out] at hsub ⊢
  clear hBs hyb hD
  go_enter Try.func77, Try.ntmps77
  go_wp2
  go_loopw [20] (fun i wr => ∃ (j : Nat) (X : Int), i = .int .i64 j ∧ j ≤ ee ∧ X = x * (b : Int) ^ j ∧ X.natAbs ≤ 4000000000000000000 ∧
      wr.heap[w.heap.size]? = some (.cells #[.int .i64 p, .int .i64 c, .int .i64 h, .int .i64 s] 25 (0, 0)) ∧ wr.heap[w.heap.size + 1]? = some (.cells #[.int .i64 X, .int .i64 dx] 36 (0, 0)) ∧
      wr.heap[w.heap.size + 2]? = some (.cells #[.int .i64 y, .int .i64 dy] 36 (0, 0)) ∧ wr.heap[w.heap.size + 3]? = some (.cells #[.int .i64 0, .int .i64 0] 36 (0, 0)) ∧ Below w.heap.size w wr) (fun i _ => ee - (intOf i).toNat)
  case atStart =>
    have h4 := alloc4 w (.cells #[.int .i64 p, .int .i64 c, .int .i64 h, .int .i64 s] 25) (.cells #[.int .i64 x, .int .i64 dx] 36) (.cells #[.int .i64 y, .int .i64 dy] 36) (.cells #[.int .i64 0, .int .i64 0] 36)
    exact ⟨0, x, rfl, by omega, by simp, by omega, h4.1, h4.2.1, h4.2.2.1, h4.2.2.2, by (repeat' (first | exact Below.refl _ _ | (with_reducible assumption) | (with_reducible refine xAlloc ?_ _) | (with_reducible refine Below.drew ?_) | (with_reducible refine xDrewN ?_ _) | (with_reducible refine xThen ?_ (by with_reducible assumption)) | (with_reducible refine Below.setCell ?_ (by first | omega | (simp; omega) | simp) _)))⟩
  case round =>
    obtain ⟨j, X, rfl, hj, hX, hXb, hv, hbx, hby, hbr, hbel⟩ := hrel
    have HX := hid hX
    have HV := hid hv
    have HBX := hid hbx
    have HBY := hid hby
    have HBR := hid hbr
    have hs3 := blk_lt hbr
    have cv0 : wr.cell? ⟨w.heap.size, 0, none⟩ = some (.int .i64 p) := cell_at hv
    have cv1 : wr.cell? ⟨w.heap.size, 1, none⟩ = some (.int .i64 c) := cell_at hv
    have cv2 : wr.cell? ⟨w.heap.size, 2, none⟩ = some (.int .i64 h) := cell_at hv
    have cv3 : wr.cell? ⟨w.heap.size, 3, none⟩ = some (.int .i64 s) := cell_at hv
    have cx0 : wr.cell? ⟨w.heap.size + 1, 0, none⟩ = some (.int .i64 X) := cell_at hbx
    have cx1 : wr.cell? ⟨w.heap.size + 1, 1, none⟩ = some (.int .i64 (dx:Int)) := cell_at hbx
    have cy0 : wr.cell? ⟨w.heap.size + 2, 0, none⟩ = some (.int .i64 y) := cell_at hby
    have cy1 : wr.cell? ⟨w.heap.size + 2, 1, none⟩ = some (.int .i64 (dy:Int)) := cell_at hby
    have cr0 : wr.cell? ⟨w.heap.size + 3, 0, none⟩ = some (.int .i64 (0:Int)) := cell_at hbr
    have cr1 : wr.cell? ⟨w.heap.size + 3, 1, none⟩ = some (.int .i64 (0:Int)) := cell_at hbr
    clear hX hv hbx hby hbr
    by_cases hlt : j < ee
    · by_cases hg : X.natAbs * b ≤ 4000000000000000000
      · obtain ⟨Q, HQ⟩ := named (4000000000000000000 / b)
        have hq4 := quo4 HQ.out
        have hQl : X.natAbs ≤ Q := by rw [HQ.out]; exact (Nat.le_div_iff_mul_le b1).2 hg
        have hQi : ¬ ((Q : Int) < (X.natAbs : Int)) := by omega
        obtain ⟨X2, HX2⟩ := named (X * (b : Int))
        have hX2b : X2.natAbs ≤ 4000000000000000000 := by rw [HX2.out, Int.natAbs_mul]; simpa using hg
        have hq5 : IntKind.i64.wrap (X * (b : Int)) = X2 := by rw [← HX2.out]; exact IntWalk.i64_in _ (by omega)
        go_wp2
        have hk0 : ∀ xe : ExtW wr, xe.u.cell? ⟨w.heap.size, 0, none⟩ = some (.int .i64 p) := fun xe => xe.cell (by go_simp)
        have hk1 : ∀ xe : ExtW wr, xe.u.cell? ⟨w.heap.size, 1, none⟩ = some (.int .i64 c) := fun xe => xe.cell (by go_simp)
        have hk2 : ∀ xe : ExtW wr, xe.u.cell? ⟨w.heap.size, 2, none⟩ = some (.int .i64 h) := fun xe => xe.cell (by go_simp)
        have hk3 : ∀ xe : ExtW wr, xe.u.cell? ⟨w.heap.size, 3, none⟩ = some (.int .i64 s) := fun xe => xe.cell (by go_simp)
        have hk4 : ∀ xe : ExtW wr, xe.u.cell? ⟨w.heap.size + 1, 0, none⟩ = some (.int .i64 X) := fun xe => xe.cell (by go_simp)
        have hne : Nonempty (ExtW wr) := ⟨⟨_, Below.refl _ _⟩⟩
        refine wp_region_ext (by kernel_rfl) (by kernel_rfl) ?_
        repeat (quiet_step ((first | (go_at_call 78; exact ext_call0 (absolute_any _ (by omega) _)) | (go_at_call 84; exact ext_call (baseOf_any _ _ _ _ b HBs.out _)))))
        refine wpQuiet_nil ?_
        rintro w1 ⟨⟨_, hb⟩, rfl⟩
        obtain ⟨hc, hf⟩ := bcell hb
        have hsz := hb.size
        (try simp at hsz)
        (try have hy0 : w.heap.size < w1.heap.size := by omega)
        (try have hy1 : w.heap.size + 1 < w1.heap.size := by omega)
        (try have hy2 : w.heap.size + 2 < w1.heap.size := by omega)
        (try have hyS : ws.heap.size < w1.heap.size := by omega)
        (try have hyG : wg.heap.size < w1.heap.size := by omega)
        have KV := hid (blk_mono hb HV.out)
        have KBX := hid (blk_mono hb HBX.out)
        have KBY := hid (blk_mono hb HBY.out)
        have KBR := hid (blk_mono hb HBR.out)
        have hv := KV.out
        have hbx := KBX.out
        clear hc hf hk0 hk1 hk2 hk3 hk4
        have dv0 : w1.cell? ⟨w.heap.size, 0, none⟩ = some (.int .i64 p) := cell_at hv
        have dv1 : w1.cell? ⟨w.heap.size, 1, none⟩ = some (.int .i64 c) := cell_at hv
        have dv2 : w1.cell? ⟨w.heap.size, 2, none⟩ = some (.int .i64 h) := cell_at hv
        have dv3 : w1.cell? ⟨w.heap.size, 3, none⟩ = some (.int .i64 s) := cell_at hv
        have dxx0 : w1.cell? ⟨w.heap.size + 1, 0, none⟩ = some (.int .i64 X) := cell_at hbx
        have dxx1 : w1.cell? ⟨w.heap.size + 1, 1, none⟩ = some (.int .i64 (dx:Int)) := cell_at hbx
        have dfx : w1.frozen? ⟨w.heap.size + 1, 0, none⟩ = false := frozen_at hbx
        clear hv hbx
        go_wp2
        go_region_with (go_at_call 84; refine (baseOf_any _ _ _ _ b HBs.out _).mono ?_; rintro e w2 ⟨rfl, hb2⟩; have q0 : w2.cell? ⟨w.heap.size + 1, 0, none⟩ = some (.int .i64 X) := xcell hb2 dxx0; have q1 : w2.frozen? ⟨w.heap.size + 1, 0, none⟩ = false := xfroz hb2 dxx0 dfx)
        all_goals
          go_wp2
          go_roundw
          case rel => exact ⟨j + 1, X2, by go_num, by omega, by rw [HX2.out, HX.out, Int.pow_succ, Int.mul_assoc], hX2b, blk_set (blk_mono hb2 KV.out) (by omega), heap_setCell_at (blk_mono hb2 KBX.out), blk_set (blk_mono hb2 KBY.out) (by omega), blk_set (blk_mono hb2 KBR.out) (by omega), by (repeat' (first | exact Below.refl _ _ | (with_reducible assumption) | (with_reducible refine xAlloc ?_ _) | (with_reducible refine Below.drew ?_) | (with_reducible refine xDrewN ?_ _) | (with_reducible refine xThen ?_ (by with_reducible assumption)) | (with_reducible refine Below.setCell ?_ (by first | omega | (simp; omega) | simp) _)))⟩
          case measure => simp [intOf]; omega
      · obtain ⟨Q, HQ⟩ := named (4000000000000000000 / b)
        have hq4 := quo4 HQ.out
        have hQi : (Q : Int) < (X.natAbs : Int) := by
          have : ¬ X.natAbs ≤ Q := by rw [HQ.out]; intro h; exact hg ((Nat.le_div_iff_mul_le b1).1 h)
          omega
        go_wp2
        have hk0 : ∀ xe : ExtW wr, xe.u.cell? ⟨w.heap.size, 0, none⟩ = some (.int .i64 p) := fun xe => xe.cell (by go_simp)
        have hk1 : ∀ xe : ExtW wr, xe.u.cell? ⟨w.heap.size, 1, none⟩ = some (.int .i64 c) := fun xe => xe.cell (by go_simp)
        have hk2 : ∀ xe : ExtW wr, xe.u.cell? ⟨w.heap.size, 2, none⟩ = some (.int .i64 h) := fun xe => xe.cell (by go_simp)
        have hk3 : ∀ xe : ExtW wr, xe.u.cell? ⟨w.heap.size, 3, none⟩ = some (.int .i64 s) := fun xe => xe.cell (by go_simp)
        have hk4 : ∀ xe : ExtW wr, xe.u.cell? ⟨w.heap.size + 1, 0, none⟩ = some (.int .i64 X) := fun xe => xe.cell (by go_simp)
        have hne : Nonempty (ExtW wr) := ⟨⟨_, Below.refl _ _⟩⟩
        refine wp_region_ext (by kernel_rfl) (by kernel_rfl) ?_
        repeat (quiet_step ((first | (go_at_call 78; exact ext_call0 (absolute_any _ (by omega) _)) | (go_at_call 84; exact ext_call (baseOf_any _ _ _ _ b HBs.out _)))))
        refine wpQuiet_nil ?_
        rintro w1 ⟨⟨_, hb⟩, rfl⟩
        obtain ⟨hc, hf⟩ := bcell hb
        have hsz := hb.size
        (try simp at hsz)
        (try have hy0 : w.heap.size < w1.heap.size := by omega)
        (try have hy1 : w.heap.size + 1 < w1.heap.size := by omega)
        (try have hy2 : w.heap.size + 2 < w1.heap.size := by omega)
        (try have hyS : ws.heap.size < w1.heap.size := by omega)
        (try have hyG : wg.heap.size < w1.heap.size := by omega)
        have KBR := hid (blk_mono hb HBR.out)
        clear hc hf hk0 hk1 hk2 hk3 hk4
        have hbr := KBR.out
        have dr0 : w1.cell? ⟨w.heap.size + 3, 0, none⟩ = some (.int .i64 (0:Int)) := cell_at hbr
        have dr1 : w1.cell? ⟨w.heap.size + 3, 1, none⟩ = some (.int .i64 (0:Int)) := cell_at hbr
        have dfr0 : w1.frozen? ⟨w.heap.size + 3, 0, none⟩ = false := frozen_at hbr
        have dfr1 : w1.frozen? ⟨w.heap.size + 3, 1, none⟩ = false := frozen_at hbr
        clear hbr
        go_wp2
        have r0 : w1.cell? ⟨w.heap.size + 3, 0, none⟩ = some (.int .i64 0) := by go_simp
        have r1 : w1.cell? ⟨w.heap.size + 3, 1, none⟩ = some (.int .i64 0) := by go_simp
        have rne : ¬ w.heap.size + 3 = w1.heap.size := by omega
        refine bodyPost_ret (v := .tuple #[.agg #[.int .i64 (0), .int .i64 (0)], .bool false]) (by simp only [results, Try.results77]; go_simp) rfl ?_
        have hst := addLoop_stop (b := b) (x := x) (y := y) (e := ee) (d := dy) (j := j) b1 hlt (by
          have : X.natAbs = x.natAbs * b ^ j := by rw [HX.out, Int.natAbs_mul, Int.natAbs_pow]; simp
          rw [Nat.pow_succ, ← Nat.mul_assoc, ← this]; exact hg)
        exact ⟨by simp [add1N, add1D, hst], by (repeat' (first | exact Below.refl _ _ | (with_reducible assumption) | (with_reducible refine xAlloc ?_ _) | (with_reducible refine Below.drew ?_) | (with_reducible refine xDrewN ?_ _) | (with_reducible refine xThen ?_ (by with_reducible assumption)) | (with_reducible refine Below.setCell ?_ (by first | omega | (simp; omega) | simp) _)))⟩
    · have hje : j = ee := by omega
      have hXl : -4000000000000000000 ≤ X ∧ X ≤ 4000000000000000000 := by omega
      have hyl : -1000000000000000000 ≤ y ∧ y ≤ 1000000000000000000 := by omega
      have HJE := hid hje
      have hfr0 : wr.frozen? ⟨w.heap.size + 3, 0, none⟩ = false := frozen_at HBR.out
      have hfr1 : wr.frozen? ⟨w.heap.size + 3, 1, none⟩ = false := frozen_at HBR.out
      clear hje
      go_wp2_with (go_at_call 66; refine (makeExact_any _ _ _ _ _ b dy HBs.out (by omega) (by omega) _).mono ?_; rintro e w1 ⟨rfl, hb⟩; have KBR := hid (blk_mono hb HBR.out); have dr0 : w1.cell? ⟨w.heap.size + 3, 0, none⟩ = some (.int .i64 0) := cell_at KBR.out; have dr1 : w1.cell? ⟨w.heap.size + 3, 1, none⟩ = some (.int .i64 0) := cell_at KBR.out; have dfr0 : w1.frozen? ⟨w.heap.size + 3, 0, none⟩ = false := frozen_at KBR.out; have dfr1 : w1.frozen? ⟨w.heap.size + 3, 1, none⟩ = false := frozen_at KBR.out; have hsz := hb.size)
      have r0 : w1.cell? ⟨w.heap.size + 3, 0, none⟩ = some (.int .i64 0) := by go_simp
      have r1 : w1.cell? ⟨w.heap.size + 3, 1, none⟩ = some (.int .i64 0) := by go_simp
      have rne : ¬ w.heap.size + 3 = w1.heap.size := by omega
      refine bodyPost_ret (v := .tuple #[.agg #[.int .i64 (mkNum b dy (X + y)), .int .i64 (mkDep b dy (X + y))], .bool (mkOk b dy (X + y))]) (by simp only [results, Try.results77]; go_simp) rfl ?_
      have hen := addLoop_end (b := b) (x := x) (y := y) (e := ee) (d := dy) b1 HD.out hee hx hy HYB.out (by
        have h1 : X.natAbs = x.natAbs * b ^ j := by rw [HX.out, Int.natAbs_mul, Int.natAbs_pow]; simp
        rw [← HJE.out, ← h1]; exact hXb)
      have hX : X = x * (b : Int) ^ ee := by rw [HX.out, HJE.out]
      exact ⟨by rw [mkNum, mkDep, add1N, add1D, hX, hen], by (repeat' (first | exact Below.refl _ _ | (with_reducible assumption) | (with_reducible refine xAlloc ?_ _) | (with_reducible refine Below.drew ?_) | (with_reducible refine xDrewN ?_ _) | (with_reducible refine xThen ?_ (by with_reducible assumption)) | (with_reducible refine Below.setCell ?_ (by first | omega | (simp; omega) | simp) _)))⟩
end Go.Proofs.Ytdifaojcjcnokaa
