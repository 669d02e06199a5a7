/-
  RollFrom and NextSeed for valid seeds; the draw of what RollsFrom takes.
-/
import Derived.Test.YtmcjabodkjlkgaaFromL
import Derived.Test.YtmcjabodkjlkgaaStratQ
namespace Go.Proofs.Ytmcjabodkjlkgaa
open Go.RowKit

theorem nextS_pos (x : Int) (h0 : 1 ≤ x) (h1 : x ≤ 2147483646) : 1 ≤ nextS x ∧ nextS x ≤ 2147483646 := by
  have hb := nextS_bd x
  refine ⟨?_, by omega⟩
  rcases Int.lt_or_le 0 (nextS x) with h | h
  · omega
  · have h0' : 48271 * x % 2147483647 = 0 := by have : nextS x = 0 := by omega
                                                exact this
    have hd := Int.mul_ediv_add_emod (48271 * x) 2147483647
    rw [h0'] at hd
    generalize 48271 * x / 2147483647 = k at hd
    exfalso
    have : x = 2147483647 * (1899818559 * k - 42704 * x) := by omega
    generalize 1899818559 * k - 42704 * x = y at this
    omega
theorem seedN_pos (x : Int) (h0 : 1 ≤ x) (h1 : x ≤ 2147483646) : ∀ n, 1 ≤ seedN x n ∧ seedN x n ≤ 2147483646
  | 0 => ⟨h0, h1⟩
  | n + 1 => by
    have h := seedN_pos x h0 h1 n
    have h2 := nextS_pos _ h.1 h.2
    exact nextS_pos _ h2.1 h2.2

theorem nextSeedV_any (x : Int) (h0 : 1 ≤ x) (h1 : x ≤ 2147483646) (w : World) :
    Calls Try.prog 49 #[.int .i64 x] w fun e w' => e = .returned (.int .i64 (nextS x)) ∧ Below w.heap.size w w' := by
  have hs : inB x 1 2147483646 = true := by unfold inB; simp; omega
  have HS := hid hs
  clear hs
  go_enter Try.func49, Try.ntmps49
  go_wp2_with (first | (go_at_call 101; (with_reducible refine (isSeed_any _ _).mono ?_); rw [HS.out]; rintro e w2 ⟨rfl, rfl⟩) | (go_at_call 102; refine (nextSeed_any x _ (by omega) (by omega)).mono ?_; rintro e w2 ⟨rfl, rfl⟩))
  go_ret
  exact ⟨rfl, Below.refl _ _⟩

set_option maxHeartbeats 1000000 in
theorem rollFromV_any (p c h s x : Int) (hv : varB p c h s = true) (x0 : 1 ≤ x) (x1 : x ≤ 2147483646) (w : World) :
    Calls Try.prog 48 #[.agg #[.int .i64 p, .int .i64 c, .int .i64 h, .int .i64 s], .int .i64 x] w fun e w' => e = .returned (.tuple #[.agg #[.int .i64 (rollX s x), .int .i64 (rollY s x)], .int .i64 (nextS (nextS x)), .bool true]) ∧ Below w.heap.size w w' := by
  have hr := varB_true hv
  have hs : inB x 1 2147483646 = true := by unfold inB; simp; omega
  have HS := hid hs
  have HV := hid hv
  clear hs hv
  obtain ⟨X, HXX⟩ := named (rollX s x)
  obtain ⟨Y, HYY⟩ := named (rollY s x)
  obtain ⟨sw, HSW⟩ := named (nextS (nextS x))
  rw [← HXX.out, ← HYY.out, ← HSW.out]
  go_enter Try.func48, Try.ntmps48
  go_wp2_with fail
  refine (isVariant_any _ _ _ _ _).mono ?_
  rw [HV.out]
  rintro e w1 ⟨rfl, hb⟩
  have HRB := hid (blk_mono hb (blk_new (w.alloc (.cells #[.int .i64 p, .int .i64 c, .int .i64 h, .int .i64 s] 29 (0, 0))) (.cells #[.int .i64 0, .int .i64 0] 42 (0, 0))))
  have HVB := hid (blk_mono hb (blk_old (o' := .cells #[.int .i64 0, .int .i64 0] 42 (0, 0)) (blk_new w (.cells #[.int .i64 p, .int .i64 c, .int .i64 h, .int .i64 s] 29 (0, 0)))))
  have B1 : Below w.heap.size w w1 := by (repeat' (first | (with_reducible exact Below.refl _ _) | (with_reducible assumption) | (with_reducible refine xAlloc ?_ _) | (with_reducible refine Below.drew ?_) | (with_reducible refine xDrewN ?_ _) | (with_reducible refine xThen ?_ (by with_reducible assumption)) | (with_reducible refine Below.setCell ?_ (by first | omega | (simp; omega) | simp) _) | exact Below.refl _ _))
  have hsz1 := hb.size
  simp at HRB hsz1
  clear hb
  have kx0 : w1.cell? ⟨w.heap.size, 0, none⟩ = some (.int .i64 p) := cell_at HVB.out
  have kx1 : w1.cell? ⟨w.heap.size, 1, none⟩ = some (.int .i64 c) := cell_at HVB.out
  have kx2 : w1.cell? ⟨w.heap.size, 2, none⟩ = some (.int .i64 h) := cell_at HVB.out
  have kx3 : w1.cell? ⟨w.heap.size, 3, none⟩ = some (.int .i64 s) := cell_at HVB.out
  go_wp2_with (go_at_call 101; (with_reducible refine (isSeed_any _ _).mono ?_); rw [HS.out]; rintro e w2 ⟨rfl, rfl⟩)
  refine (rollFrom_any p c h s x (by omega) (by omega) (by omega) (by omega) _).mono ?_
  rw [← HXX.out, ← HYY.out, ← HSW.out]
  rintro e w2 ⟨rfl, hb⟩
  have HRB2 := hid (blk_mono hb HRB.out)
  have B2 := xThen B1 hb
  have hsz2 := hb.size
  have hlt : w.heap.size + 1 < w2.heap.size := by omega
  clear hb kx0 kx1 kx2 kx3
  have z0 : w2.cell? ⟨w.heap.size + 1, 0, none⟩ = some (.int .i64 0) := cell_at HRB2.out
  have z1 : w2.cell? ⟨w.heap.size + 1, 1, none⟩ = some (.int .i64 0) := cell_at HRB2.out
  have e0 : w2.frozen? ⟨w.heap.size + 1, 0, none⟩ = false := frozen_at HRB2.out
  have e1 : w2.frozen? ⟨w.heap.size + 1, 1, none⟩ = false := frozen_at HRB2.out
  go_wp2
  refine bodyPost_ret (v := ?_) ?_ rfl ?_
  rotate_left
  · simp only [results, Try.results48]
    go_simp
    exact rfl
  exact ⟨rfl, by (repeat' (first | (with_reducible exact Below.refl _ _) | (with_reducible assumption) | (with_reducible refine xAlloc ?_ _) | (with_reducible refine Below.drew ?_) | (with_reducible refine xDrewN ?_ _) | (with_reducible refine xThen ?_ (by with_reducible assumption)) | (with_reducible refine Below.setCell ?_ (by first | omega | (simp; omega) | simp) _) | exact Below.refl _ _))⟩

set_option maxHeartbeats 2000000 in
theorem drawFrom_any (a : Option Addr) (len cap : Nat) (w : World) (hb0 : BytesAt w a len) (hl : len ≤ 4096) :
    Calls Try.prog 45 #[.slice a len cap] w fun e w' => ∃ p c h s x n : Int, e = .returned (.tuple #[.agg #[.int .i64 p, .int .i64 c, .int .i64 h, .int .i64 s], .int .i64 x, .int .i64 n]) ∧ Below w.heap.size w w' := by
  go_enter Try.func45, Try.ntmps45
  go_wp2_with fail
  refine (from_any a len cap _ (BytesAt.mono hb0 (xAlloc (Below.refl _ _) _)) hl).mono ?_
  rintro e w1 ⟨g, rfl, hg, hs, hb⟩
  have HRB := hid (blk_mono hb (blk_new w (.cells #[.int .i64 0, .int .i64 0, .int .i64 0, .int .i64 0] 29 (0, 0))))
  have B1 : Below w.heap.size w w1 := by (repeat' (first | (with_reducible exact Below.refl _ _) | (with_reducible assumption) | (with_reducible refine xAlloc ?_ _) | (with_reducible refine Below.drew ?_) | (with_reducible refine xDrewN ?_ _) | (with_reducible refine xThen ?_ (by with_reducible assumption)) | (with_reducible refine Below.setCell ?_ (by first | omega | (simp; omega) | simp) _) | exact Below.refl _ _))
  have hsz := hb.size
  have hs1 := hs.at (by have := hs.blk; omega)
  simp at hg hsz
  have hrl : w.heap.size < w1.heap.size := by omega
  have hgw : ¬ w.heap.size = g := by omega
  clear hb hs
  go_wp2_with fail
  refine (drawAny_any _ g w1 _ hs1).mono ?_
  rintro e w2 ⟨p, c, h, s, rfl, -, -, -, -, hs2⟩
  go_wp2_with fail
  refine (drawSeed_any _ g w1 _ hs2).mono ?_
  rintro e w3 ⟨x, rfl, -, hs3⟩
  go_wp2_with fail
  refine (drawMany_any _ g w1 _ hs3).mono ?_
  rintro e w4 ⟨n, rfl, -, hs4⟩
  have HRB := hid (carry hs4.grown HRB.out hrl hgw)
  have z0 := cell_at (o := 0) HRB.out
  have z1 := cell_at (o := 1) HRB.out
  have z2 := cell_at (o := 2) HRB.out
  have z3 := cell_at (o := 3) HRB.out
  simp at z0 z1 z2 z3
  have e0 := frozen_at (o := 0) HRB.out
  have e1 := frozen_at (o := 1) HRB.out
  have e2 := frozen_at (o := 2) HRB.out
  have e3 := frozen_at (o := 3) HRB.out
  have B4 := grown_to_below hs4.grown B1 (by omega)
  clear hs4 hs3 hs2 B1
  go_wp2
  refine bodyPost_ret (v := ?_) ?_ rfl ?_
  rotate_left
  · simp only [results, Try.results45]
    go_simp
    exact rfl
  exact ⟨_, _, _, _, _, _, rfl, by (repeat' (first | (with_reducible exact Below.refl _ _) | (with_reducible assumption) | (with_reducible refine xAlloc ?_ _) | (with_reducible refine Below.drew ?_) | (with_reducible refine xDrewN ?_ _) | (with_reducible refine xThen ?_ (by with_reducible assumption)) | (with_reducible refine Below.setCell ?_ (by first | omega | (simp; omega) | simp) _) | exact Below.refl _ _))⟩
end Go.Proofs.Ytmcjabodkjlkgaa
