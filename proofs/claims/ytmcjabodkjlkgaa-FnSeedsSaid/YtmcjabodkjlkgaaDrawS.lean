/-
  The reference draws variants, seeds and numbers of rolls: some integers. No condition on the source's bytes.
-/
import Derived.Test.YtmcjabodkjlkgaaDraw3
namespace Go.Proofs.Ytmcjabodkjlkgaa
open Go.RowKit

def B1k (x : Int) : Prop := -1000 ≤ x ∧ x ≤ 1000

set_option maxHeartbeats 2000000 in
theorem drawSmall_any (m g : Nat) (w0 w : World) (hs0 : SrcAt m g w0 w) :
    Calls Try.prog 141 #[.pointer (some ⟨g, 0, none⟩)] w fun e w' => ∃ p c h s : Int, e = .returned (.agg #[.int .i64 p, .int .i64 c, .int .i64 h, .int .i64 s]) ∧ B1k p ∧ B1k c ∧ B1k h ∧ B1k s ∧ SrcAt m g w0 w' := by
  have hs : SrcAt m g w w := ⟨hs0.src, hs0.lt, Nat.le_trans hs0.le hs0.grown.size, grown_refl _ _⟩
  have hgl : g < w.heap.size := Nat.lt_of_lt_of_le hs.lt hs.le
  have hgw : ¬ w.heap.size = g := by omega
  obtain ⟨rb, hrb⟩ := named w.heap.size
  go_enter Try.func141, Try.ntmps141
  go_wp2_with (go_at_call 68; refine (nextAt1 m g _ (by decide) w _ (by first | (with_reducible exact hs) | (with_reducible exact hs.alloc _) | (with_reducible exact hs1))).mono ?_; rintro e w1 ⟨r, rfl, hr0, hr1, hs1, hg1⟩; have hsz := hg1.size; (try simp at hsz); (try have HRB := hid ((hg1.block _ (by simp) (by simpa using hgw)).trans (blk_new w (.cells #[.int .i64 0, .int .i64 0, .int .i64 0, .int .i64 0] 29 (0, 0)))); have hrl : w.heap.size < w1.heap.size := by omega); (try have HRB := hid ((hg1.block _ hrl (by simpa using hgw)).trans HRB.out)); (try have hrl := Nat.lt_of_lt_of_le hrl hg1.size))
  refine calls_named (fun V hV => ?_)
  have HBX := hid (of_allocD hV)
  have HRB := hid (old_alloc hV HRB.out)
  have hs1 : SrcAt m g w V := hV ▸ hs1.alloc _
  have hbl : w1.heap.size < V.heap.size := by rw [← hV]; simp
  have hrl : w.heap.size < V.heap.size := by omega
  have hbne : ¬ w1.heap.size = g := by omega
  have hrb' : ¬ w1.heap.size = w.heap.size := by omega
  have hbw : w.heap.size ≤ w1.heap.size := by omega
  clear hV hsz
  refine (nextAt1 m g _ (by omega) w _ hs1).mono ?_
  rintro e w1 ⟨r, rfl, hr0, hr1, hs1, hg1⟩
  have HBX := hid (carry hg1 HBX.out hbl hbne)
  have HRB := hid (carry hg1 HRB.out hrl hgw)
  have hbl := Nat.lt_of_lt_of_le hbl hg1.size
  have hrl := Nat.lt_of_lt_of_le hrl hg1.size
  have p0 := cell_at (o := 0) HBX.out
  have p1 := cell_at (o := 1) HBX.out
  have p2 := cell_at (o := 2) HBX.out
  have p3 := cell_at (o := 3) HBX.out
  have z0 := cell_at (o := 0) HRB.out
  have z1 := cell_at (o := 1) HRB.out
  have z2 := cell_at (o := 2) HRB.out
  have z3 := cell_at (o := 3) HRB.out
  simp at p0 p1 p2 p3 z0 z1 z2 z3
  have f0 := frozen_at (o := 0) HBX.out
  have f1 := frozen_at (o := 1) HBX.out
  have f2 := frozen_at (o := 2) HBX.out
  have f3 := frozen_at (o := 3) HBX.out
  have e0 := frozen_at (o := 0) HRB.out
  have e1 := frozen_at (o := 1) HRB.out
  have e2 := frozen_at (o := 2) HRB.out
  have e3 := frozen_at (o := 3) HRB.out
  go_wp2
  all_goals
    refine bodyPost_ret (v := ?_) ?_ rfl ?_
    rotate_left
    · simp only [results, Try.results141]
      go_simp
      exact rfl
    refine ⟨_, _, _, _, rfl, by unfold B1k; omega, by unfold B1k; omega, by unfold B1k; omega, by unfold B1k; omega, hs0.lift ?_⟩
    repeat' (first | (with_reducible exact hs1) | (with_reducible refine SrcAt.alloc ?_ _) | (with_reducible refine SrcAt.set ?_ _ _ _ (by first | (with_reducible exact hbw) | (with_reducible exact Nat.le_refl _))) | (with_reducible refine SrcAt.drewN ?_ _))
theorem SrcAt.self {m g : Nat} {w0 w : World} (h : SrcAt m g w0 w) : SrcAt m g w w := ⟨h.src, h.lt, Nat.le_trans h.le h.grown.size, grown_refl _ _⟩
theorem fullV_any (w : World) :
    Calls Try.prog 140 #[] w fun e w' => ∃ p c h s : Int, e = .returned (.agg #[.int .i64 p, .int .i64 c, .int .i64 h, .int .i64 s]) ∧ B1k p ∧ B1k c ∧ B1k h ∧ B1k s ∧ Below w.heap.size w w' := by
  go_enter Try.func140, Try.ntmps140
  go_wp2
  refine bodyPost_ret (v := ?_) ?_ rfl ?_
  rotate_left
  · simp only [results, Try.results140]
    go_simp
    exact rfl
  exact ⟨_, _, _, _, rfl, by unfold B1k; omega, by unfold B1k; omega, by unfold B1k; omega, by unfold B1k; omega, by (repeat' (first | (with_reducible exact Below.refl _ _) | (with_reducible assumption) | (with_reducible refine xAlloc ?_ _) | (with_reducible refine Below.drew ?_) | (with_reducible refine xDrewN ?_ _) | (with_reducible refine xThen ?_ (by with_reducible assumption)) | (with_reducible refine Below.setCell ?_ (by first | omega | (simp; omega) | simp) _) | exact Below.refl _ _))⟩
set_option maxHeartbeats 2000000 in
theorem drawValid_any (m g : Nat) (w0 w : World) (hs0 : SrcAt m g w0 w) :
    Calls Try.prog 114 #[.pointer (some ⟨g, 0, none⟩)] w fun e w' => ∃ p c h s : Int, e = .returned (.agg #[.int .i64 p, .int .i64 c, .int .i64 h, .int .i64 s]) ∧ B1k p ∧ B1k c ∧ B1k h ∧ B1k s ∧ SrcAt m g w0 w' := by
  have hs : SrcAt m g w w := hs0.self
  have hgl : g < w.heap.size := Nat.lt_of_lt_of_le hs.lt hs.le
  have hgw : ¬ w.heap.size = g := by omega
  obtain ⟨rb, hrb⟩ := named w.heap.size
  go_enter Try.func114, Try.ntmps114
  go_wp2_with fail
  refine (nextAt1 m g _ (by decide) w _ (hs.alloc _)).mono ?_
  rintro e u ⟨r0, rfl, hr0, hr1, hs1, hg1⟩
  have HRB := hid ((hg1.block _ (by simp) (by simpa using hgw)).trans (blk_new w (.cells #[.int .i64 0, .int .i64 0, .int .i64 0, .int .i64 0] 29 (0, 0))))
  have hrl : w.heap.size < u.heap.size := by have := hg1.size; simp at this; omega
  clear hg1
  by_cases c0 : r0 = 0
  · subst c0
    go_wp2_with fail
    refine (fullV_any u).mono ?_
    rintro e w1 ⟨p, c, h, s, rfl, hp, hc, hh, hss, hb⟩
    have HRB := hid (blk_mono hb HRB.out)
    have hs1 := hs1.below hb
    have z0 := cell_at (o := 0) HRB.out
    have z1 := cell_at (o := 1) HRB.out
    have z2 := cell_at (o := 2) HRB.out
    have z3 := cell_at (o := 3) HRB.out
    simp at z0 z1 z2 z3
    have e0 := frozen_at (o := 0) HRB.out
    have e1 := frozen_at (o := 1) HRB.out
    have e2 := frozen_at (o := 2) HRB.out
    have e3 := frozen_at (o := 3) HRB.out
    go_wp2
    refine bodyPost_ret (v := ?_) ?_ rfl ?_
    rotate_left
    · simp only [results, Try.results114]
      go_simp
      exact rfl
    refine ⟨_, _, _, _, rfl, hp, hc, hh, hss, hs0.lift ?_⟩
    repeat' (first | (with_reducible exact hs1) | (with_reducible refine SrcAt.alloc ?_ _) | (with_reducible refine SrcAt.set ?_ _ _ _ (by first | (with_reducible exact hbw) | (with_reducible exact Nat.le_refl _))) | (with_reducible refine SrcAt.drewN ?_ _))
  · by_cases c1 : r0 = 1
    · subst c1
      go_wp2_with (go_at_call 68; refine (nextAt1 m g _ (by decide) w _ hs1).mono ?_; rintro e w1 ⟨r, rfl, hr0, hr1, hs1, hg1⟩; have HRB := hid (carry hg1 HRB.out hrl hgw); have hrl := Nat.lt_of_lt_of_le hrl hg1.size)
      refine calls_named (fun V hV => ?_)
      have HBX := hid (of_allocD hV)
      have HRB := hid (old_alloc hV HRB.out)
      have hs1 : SrcAt m g w V := hV ▸ hs1.alloc _
      have hbl : w1.heap.size < V.heap.size := by rw [← hV]; simp
      have hrl : w.heap.size < V.heap.size := by omega
      have hbne : ¬ w1.heap.size = g := by omega
      have hrb' : ¬ w1.heap.size = w.heap.size := by omega
      have hbw : w.heap.size ≤ w1.heap.size := by omega
      clear hV
      refine (nextAt1 m g _ (by omega) w _ hs1).mono ?_
      rintro e w1 ⟨r, rfl, hr0, hr1, hs1, hg1⟩
      have HBX := hid (carry hg1 HBX.out hbl hbne)
      have HRB := hid (carry hg1 HRB.out hrl hgw)
      have hbl := Nat.lt_of_lt_of_le hbl hg1.size
      have hrl := Nat.lt_of_lt_of_le hrl hg1.size
      have p0 := cell_at (o := 0) HBX.out
      have p1 := cell_at (o := 1) HBX.out
      have p2 := cell_at (o := 2) HBX.out
      have p3 := cell_at (o := 3) HBX.out
      simp at p0 p1 p2 p3
      have z0 := cell_at (o := 0) HRB.out
      have z1 := cell_at (o := 1) HRB.out
      have z2 := cell_at (o := 2) HRB.out
      have z3 := cell_at (o := 3) HRB.out
      simp at z0 z1 z2 z3
      have e0 := frozen_at (o := 0) HRB.out
      have e1 := frozen_at (o := 1) HRB.out
      have e2 := frozen_at (o := 2) HRB.out
      have e3 := frozen_at (o := 3) HRB.out
      have f0 := frozen_at (o := 0) HBX.out
      have f1 := frozen_at (o := 1) HBX.out
      have f2 := frozen_at (o := 2) HBX.out
      have f3 := frozen_at (o := 3) HBX.out
      go_wp2
      refine bodyPost_ret (v := ?_) ?_ rfl ?_
      rotate_left
      · simp only [results, Try.results114]
        go_simp
        exact rfl
      refine ⟨_, _, _, _, rfl, by unfold B1k; omega, by unfold B1k; omega, by unfold B1k; omega, by unfold B1k; omega, hs0.lift ?_⟩
      repeat' (first | (with_reducible exact hs1) | (with_reducible refine SrcAt.alloc ?_ _) | (with_reducible refine SrcAt.set ?_ _ _ _ (by first | (with_reducible exact hbw) | (with_reducible exact Nat.le_refl _))) | (with_reducible refine SrcAt.drewN ?_ _))
    · go_wp2_with fail
      refine (drawSmall_any m g u u hs1.self).mono ?_
      rintro e w1 ⟨p, c, h, s, rfl, hp, hc, hh, hss, hd⟩
      have HRB := hid (carry hd.grown HRB.out hrl hgw)
      have hs1 := hs1.lift hd
      have z0 := cell_at (o := 0) HRB.out
      have z1 := cell_at (o := 1) HRB.out
      have z2 := cell_at (o := 2) HRB.out
      have z3 := cell_at (o := 3) HRB.out
      simp at z0 z1 z2 z3
      have e0 := frozen_at (o := 0) HRB.out
      have e1 := frozen_at (o := 1) HRB.out
      have e2 := frozen_at (o := 2) HRB.out
      have e3 := frozen_at (o := 3) HRB.out
      go_wp2
      refine bodyPost_ret (v := ?_) ?_ rfl ?_
      rotate_left
      · simp only [results, Try.results114]
        go_simp
        exact rfl
      refine ⟨_, _, _, _, rfl, hp, hc, hh, hss, hs0.lift ?_⟩
      repeat' (first | (with_reducible exact hs1) | (with_reducible refine SrcAt.alloc ?_ _) | (with_reducible refine SrcAt.set ?_ _ _ _ (by first | (with_reducible exact hbw) | (with_reducible exact Nat.le_refl _))) | (with_reducible refine SrcAt.drewN ?_ _))
end Go.Proofs.Ytmcjabodkjlkgaa
