/-
  The reference draws any variant: some integers, valid or not.
-/
import Derived.Test.YtmcjabodkjlkgaaDrawS
namespace Go.Proofs.Ytmcjabodkjlkgaa
open Go.RowKit

set_option maxHeartbeats 4000000 in
theorem drawAny_any (m g : Nat) (w0 w : World) (hs0 : SrcAt m g w0 w) :
    Calls Try.prog 96 #[.pointer (some ⟨g, 0, none⟩)] w fun e w' => ∃ p c h s : Int, e = .returned (.agg #[.int .i64 p, .int .i64 c, .int .i64 h, .int .i64 s]) ∧ I64 p ∧ I64 c ∧ I64 h ∧ I64 s ∧ SrcAt m g w0 w' := by
  have hs : SrcAt m g w w := hs0.self
  have hgl : g < w.heap.size := Nat.lt_of_lt_of_le hs.lt hs.le
  have hgw : ¬ w.heap.size = g := by omega
  obtain ⟨rb, hrb⟩ := named w.heap.size
  go_enter Try.func96, Try.ntmps96
  go_wp2_with fail
  refine (drawValid_any m g _ _ (hs.alloc _).self).mono ?_
  rintro e w1 ⟨p, c, h, s, rfl, hp, hc, hh, hss, hd⟩
  have HRB := hid ((hd.grown.block _ (by simp) (by simpa using hgw)).trans (blk_new w (.cells #[.int .i64 0, .int .i64 0, .int .i64 0, .int .i64 0] 29 (0, 0))))
  have hrl : w.heap.size < w1.heap.size := by have := hd.grown.size; simp at this; omega
  have hs1 : SrcAt m g w w1 := (hs.alloc _).lift hd
  clear hd
  go_wp2_with fail
  refine calls_named (fun V hV => ?_)
  have HBX := hid (of_allocD hV)
  have HRB := hid (old_alloc hV HRB.out)
  have hs1 : SrcAt m g w V := hV ▸ hs1.alloc _
  have hbl : w1.heap.size < V.heap.size := by rw [← hV]; simp
  have hrl : w.heap.size < V.heap.size := by omega
  have hbne : ¬ w1.heap.size = g := by omega
  have hrb' : ¬ w1.heap.size = w.heap.size := by omega
  have hbw : w.heap.size ≤ w1.heap.size := by omega
  clear hV
  refine (nextAt1 m g _ (by decide) w _ hs1).mono ?_
  rintro e u ⟨q, rfl, hq0, hq1, hs1, hg1⟩
  have HBX := hid (carry hg1 HBX.out hbl hbne)
  have HRB := hid (carry hg1 HRB.out hrl hgw)
  have hbl := Nat.lt_of_lt_of_le hbl hg1.size
  have hrl := Nat.lt_of_lt_of_le hrl hg1.size
  clear hg1
  by_cases c0 : q = 0
  · subst c0
    go_wp2_with fail
    refine calls_named (fun V hV => ?_)
    have HBX := hid (old_alloc hV HBX.out)
    have HRB := hid (old_alloc hV HRB.out)
    have HAR := hid (of_allocD hV)
    have hs1 : SrcAt m g w V := hV ▸ hs1.alloc _
    have hal : u.heap.size < V.heap.size := by rw [← hV]; simp
    have hane : ¬ u.heap.size = g := by omega
    have hbl : w1.heap.size < V.heap.size := by omega
    have hrl : w.heap.size < V.heap.size := by omega
    clear hV
    refine (nextAt1 m g _ (by decide) w _ hs1).mono ?_
    rintro e w2 ⟨r, rfl, hr0, hr1, hs1, hg1⟩
    have HBX := hid (carry hg1 HBX.out hbl hbne)
    have HRB := hid (carry hg1 HRB.out hrl hgw)
    have HAR := hid (carry hg1 HAR.out hal hane)
    clear hg1
    have hr : r = 0 ∨ r = 1 ∨ r = 2 ∨ r = 3 := by omega
    have z0 := cell_at (o := 0) HRB.out
    have z1 := cell_at (o := 1) HRB.out
    have z2 := cell_at (o := 2) HRB.out
    have z3 := cell_at (o := 3) HRB.out
    simp at z0 z1 z2 z3
    have e0 := frozen_at (o := 0) HRB.out
    have e1 := frozen_at (o := 1) HRB.out
    have e2 := frozen_at (o := 2) HRB.out
    have e3 := frozen_at (o := 3) HRB.out
    have p0 := cell_at (o := 0) HBX.out
    have p1 := cell_at (o := 1) HBX.out
    have p2 := cell_at (o := 2) HBX.out
    have p3 := cell_at (o := 3) HBX.out
    simp at p0 p1 p2 p3
    have f0 := frozen_at (o := 0) HBX.out
    have f1 := frozen_at (o := 1) HBX.out
    have f2 := frozen_at (o := 2) HBX.out
    have f3 := frozen_at (o := 3) HBX.out
    rcases hr with rfl | rfl | rfl | rfl
    all_goals
      have a0 := cell_at (o := 0) HAR.out
      have a1 := cell_at (o := 1) HAR.out
      have a2 := cell_at (o := 2) HAR.out
      have a3 := cell_at (o := 3) HAR.out
      simp at a0 a1 a2 a3
      go_wp2
      refine bodyPost_ret (v := ?_) ?_ rfl ?_
      rotate_left
      · simp only [results, Try.results96]
        go_simp
        exact rfl
      refine ⟨_, _, _, _, rfl, by unfold B1k at hp hc hh hss; unfold I64; omega, by unfold B1k at hp hc hh hss; unfold I64; omega, by unfold B1k at hp hc hh hss; unfold I64; omega, by unfold B1k at hp hc hh hss; unfold I64; omega, hs0.lift ?_⟩
      repeat' (first | (with_reducible exact hs1) | (with_reducible refine SrcAt.alloc ?_ _) | (with_reducible refine SrcAt.set ?_ _ _ _ (by first | (with_reducible exact hbw) | (with_reducible exact Nat.le_refl _))) | (with_reducible refine SrcAt.drewN ?_ _))
  · by_cases c1 : q = 1
    · subst c1
      go_wp2_with fail
      refine (nextAt1 m g _ (by decide) w _ hs1).mono ?_
      rintro e w2 ⟨r, rfl, hr0, hr1, hs1, hg1⟩
      have HBX := hid (carry hg1 HBX.out hbl hbne)
      have HRB := hid (carry hg1 HRB.out hrl hgw)
      clear hg1
      have z0 := cell_at (o := 0) HRB.out
      have z1 := cell_at (o := 1) HRB.out
      have z2 := cell_at (o := 2) HRB.out
      have z3 := cell_at (o := 3) HRB.out
      simp at z0 z1 z2 z3
      have e0 := frozen_at (o := 0) HRB.out
      have e1 := frozen_at (o := 1) HRB.out
      have e2 := frozen_at (o := 2) HRB.out
      have e3 := frozen_at (o := 3) HRB.out
      have p0 := cell_at (o := 0) HBX.out
      have p1 := cell_at (o := 1) HBX.out
      have p2 := cell_at (o := 2) HBX.out
      have p3 := cell_at (o := 3) HBX.out
      simp at p0 p1 p2 p3
      have f0 := frozen_at (o := 0) HBX.out
      have f1 := frozen_at (o := 1) HBX.out
      have f2 := frozen_at (o := 2) HBX.out
      have f3 := frozen_at (o := 3) HBX.out
      go_wp2
      refine bodyPost_ret (v := ?_) ?_ rfl ?_
      rotate_left
      · simp only [results, Try.results96]
        go_simp
        exact rfl
      refine ⟨_, _, _, _, rfl, by unfold B1k at hp hc hh hss; unfold I64; omega, by unfold B1k at hp hc hh hss; unfold I64; omega, by unfold B1k at hp hc hh hss; unfold I64; omega, by unfold B1k at hp hc hh hss; unfold I64; omega, hs0.lift ?_⟩
      repeat' (first | (with_reducible exact hs1) | (with_reducible refine SrcAt.alloc ?_ _) | (with_reducible refine SrcAt.set ?_ _ _ _ (by first | (with_reducible exact hbw) | (with_reducible exact Nat.le_refl _))) | (with_reducible refine SrcAt.drewN ?_ _))
    · by_cases c2 : q = 2
      · subst c2
        have z0 := cell_at (o := 0) HRB.out
        have z1 := cell_at (o := 1) HRB.out
        have z2 := cell_at (o := 2) HRB.out
        have z3 := cell_at (o := 3) HRB.out
        simp at z0 z1 z2 z3
        have e0 := frozen_at (o := 0) HRB.out
        have e1 := frozen_at (o := 1) HRB.out
        have e2 := frozen_at (o := 2) HRB.out
        have e3 := frozen_at (o := 3) HRB.out
        have p0 := cell_at (o := 0) HBX.out
        have p1 := cell_at (o := 1) HBX.out
        have p2 := cell_at (o := 2) HBX.out
        have p3 := cell_at (o := 3) HBX.out
        simp at p0 p1 p2 p3
        have f0 := frozen_at (o := 0) HBX.out
        have f1 := frozen_at (o := 1) HBX.out
        have f2 := frozen_at (o := 2) HBX.out
        have f3 := frozen_at (o := 3) HBX.out
        unfold B1k at hp
        have : -9223372036854775808 ≤ p + 1 ∧ p + 1 ≤ 9223372036854775807 := by omega
        go_wp2
        refine bodyPost_ret (v := ?_) ?_ rfl ?_
        rotate_left
        · simp only [results, Try.results96]
          go_simp
          exact rfl
        refine ⟨_, _, _, _, rfl, by unfold B1k at hc hh hss; unfold I64; omega, by unfold B1k at hc hh hss; unfold I64; omega, by unfold B1k at hc hh hss; unfold I64; omega, by unfold B1k at hc hh hss; unfold I64; omega, hs0.lift ?_⟩
        repeat' (first | (with_reducible exact hs1) | (with_reducible refine SrcAt.alloc ?_ _) | (with_reducible refine SrcAt.set ?_ _ _ _ (by first | (with_reducible exact hbw) | (with_reducible exact Nat.le_refl _))) | (with_reducible refine SrcAt.drewN ?_ _))
      · by_cases c3 : q = 3
        · subst c3
          go_wp2_with fail
          refine (nextAt1 m g _ (by decide) w _ hs1).mono ?_
          rintro e w2 ⟨r, rfl, hr0, hr1, hs1, hg1⟩
          have HBX := hid (carry hg1 HBX.out hbl hbne)
          have HRB := hid (carry hg1 HRB.out hrl hgw)
          clear hg1
          have z0 := cell_at (o := 0) HRB.out
          have z1 := cell_at (o := 1) HRB.out
          have z2 := cell_at (o := 2) HRB.out
          have z3 := cell_at (o := 3) HRB.out
          simp at z0 z1 z2 z3
          have e0 := frozen_at (o := 0) HRB.out
          have e1 := frozen_at (o := 1) HRB.out
          have e2 := frozen_at (o := 2) HRB.out
          have e3 := frozen_at (o := 3) HRB.out
          have p0 := cell_at (o := 0) HBX.out
          have p1 := cell_at (o := 1) HBX.out
          have p2 := cell_at (o := 2) HBX.out
          have p3 := cell_at (o := 3) HBX.out
          simp at p0 p1 p2 p3
          have f0 := frozen_at (o := 0) HBX.out
          have f1 := frozen_at (o := 1) HBX.out
          have f2 := frozen_at (o := 2) HBX.out
          have f3 := frozen_at (o := 3) HBX.out
          go_wp2
          refine bodyPost_ret (v := ?_) ?_ rfl ?_
          rotate_left
          · simp only [results, Try.results96]
            go_simp
            exact rfl
          refine ⟨_, _, _, _, rfl, by unfold B1k at hp hc hh hss; unfold I64; omega, by unfold B1k at hp hc hh hss; unfold I64; omega, by unfold B1k at hp hc hh hss; unfold I64; omega, by unfold B1k at hp hc hh hss; unfold I64; omega, hs0.lift ?_⟩
          repeat' (first | (with_reducible exact hs1) | (with_reducible refine SrcAt.alloc ?_ _) | (with_reducible refine SrcAt.set ?_ _ _ _ (by first | (with_reducible exact hbw) | (with_reducible exact Nat.le_refl _))) | (with_reducible refine SrcAt.drewN ?_ _))
        · have z0 := cell_at (o := 0) HRB.out
          have z1 := cell_at (o := 1) HRB.out
          have z2 := cell_at (o := 2) HRB.out
          have z3 := cell_at (o := 3) HRB.out
          simp at z0 z1 z2 z3
          have e0 := frozen_at (o := 0) HRB.out
          have e1 := frozen_at (o := 1) HRB.out
          have e2 := frozen_at (o := 2) HRB.out
          have e3 := frozen_at (o := 3) HRB.out
          have p0 := cell_at (o := 0) HBX.out
          have p1 := cell_at (o := 1) HBX.out
          have p2 := cell_at (o := 2) HBX.out
          have p3 := cell_at (o := 3) HBX.out
          simp at p0 p1 p2 p3
          have f0 := frozen_at (o := 0) HBX.out
          have f1 := frozen_at (o := 1) HBX.out
          have f2 := frozen_at (o := 2) HBX.out
          have f3 := frozen_at (o := 3) HBX.out
          go_wp2
          refine bodyPost_ret (v := ?_) ?_ rfl ?_
          rotate_left
          · simp only [results, Try.results96]
            go_simp
            exact rfl
          refine ⟨_, _, _, _, rfl, by unfold B1k at hp hc hh hss; unfold I64; omega, by unfold B1k at hp hc hh hss; unfold I64; omega, by unfold B1k at hp hc hh hss; unfold I64; omega, by unfold B1k at hp hc hh hss; unfold I64; omega, hs0.lift ?_⟩
          repeat' (first | (with_reducible exact hs1) | (with_reducible refine SrcAt.alloc ?_ _) | (with_reducible refine SrcAt.set ?_ _ _ _ (by first | (with_reducible exact hbw) | (with_reducible exact Nat.le_refl _))) | (with_reducible refine SrcAt.drewN ?_ _))
end Go.Proofs.Ytmcjabodkjlkgaa
