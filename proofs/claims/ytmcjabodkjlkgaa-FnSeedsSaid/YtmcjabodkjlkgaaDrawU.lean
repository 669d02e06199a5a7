/-
  The reference draws what StratifiedRolls takes: some integers. No condition on the bytes.
-/
import Derived.Test.YtmcjabodkjlkgaaDrawT
namespace Go.Proofs.Ytmcjabodkjlkgaa
open Go.RowKit

set_option maxHeartbeats 2000000 in
theorem drawSeed_any (m g : Nat) (w0 w : World) (hs0 : SrcAt m g w0 w) :
    Calls Try.prog 97 #[.pointer (some ⟨g, 0, none⟩)] w fun e w' => ∃ x : Int, e = .returned (.int .i64 x) ∧ I64 x ∧ SrcAt m g w0 w' := by
  have hs : SrcAt m g w w := hs0.self
  have hgl : g < w.heap.size := Nat.lt_of_lt_of_le hs.lt hs.le
  go_enter Try.func97, Try.ntmps97
  go_wp2_with fail
  refine (nextAt1 m g _ (by decide) w _ hs).mono ?_
  rintro e u ⟨q, rfl, hq0, hq1, hs1, hg1⟩
  have hgu := Nat.lt_of_lt_of_le hgl hg1.size
  clear hg1
  by_cases c0 : q = 0
  · subst c0
    go_wp2_with fail
    refine calls_named (fun V hV => ?_)
    have HAR := hid (of_allocD hV)
    have hs1 : SrcAt m g w V := hV ▸ hs1.alloc _
    have hal : u.heap.size < V.heap.size := by rw [← hV]; simp
    have hane : ¬ u.heap.size = g := by omega
    clear hV
    refine (nextAt1 m g _ (by decide) w _ hs1).mono ?_
    rintro e w2 ⟨r, rfl, hr0, hr1, hs1, hg1⟩
    have HAR := hid (carry hg1 HAR.out hal hane)
    clear hg1
    have hr : r = 0 ∨ r = 1 ∨ r = 2 ∨ r = 3 ∨ r = 4 := by omega
    rcases hr with rfl | rfl | rfl | rfl | rfl
    all_goals
      have a0 := cell_at (o := 0) HAR.out
      have a1 := cell_at (o := 1) HAR.out
      have a2 := cell_at (o := 2) HAR.out
      have a3 := cell_at (o := 3) HAR.out
      have a4 := cell_at (o := 4) HAR.out
      simp at a0 a1 a2 a3 a4
      go_wp2
      go_ret
      exact ⟨_, rfl, by unfold I64; omega, hs0.lift hs1⟩
  · go_wp2_with fail
    refine (nextAt m g _ (by unfold I64; omega) w _ hs1).mono ?_
    rintro e w2 ⟨r, rfl, hr0, hr1, hs1, hg1⟩
    have hr2 : r ≤ 2147483646 := by omega
    go_wp2
    go_ret
    exact ⟨_, rfl, by unfold I64; omega, hs0.lift hs1⟩

set_option maxHeartbeats 2000000 in
theorem drawMany_any (m g : Nat) (w0 w : World) (hs0 : SrcAt m g w0 w) :
    Calls Try.prog 98 #[.pointer (some ⟨g, 0, none⟩)] w fun e w' => ∃ x : Int, e = .returned (.int .i64 x) ∧ I64 x ∧ SrcAt m g w0 w' := by
  have hs : SrcAt m g w w := hs0.self
  have hgl : g < w.heap.size := Nat.lt_of_lt_of_le hs.lt hs.le
  go_enter Try.func98, Try.ntmps98
  go_wp2_with fail
  refine (nextAt1 m g _ (by decide) w _ hs).mono ?_
  rintro e u ⟨q, rfl, hq0, hq1, hs1, hg1⟩
  have hgu := Nat.lt_of_lt_of_le hgl hg1.size
  clear hg1
  by_cases c0 : q = 0
  · subst c0
    go_wp2_with fail
    refine calls_named (fun V hV => ?_)
    have HAR := hid (of_allocD hV)
    have hs1 : SrcAt m g w V := hV ▸ hs1.alloc _
    have hal : u.heap.size < V.heap.size := by rw [← hV]; simp
    have hane : ¬ u.heap.size = g := by omega
    clear hV
    refine (nextAt1 m g _ (by decide) w _ hs1).mono ?_
    rintro e w2 ⟨r, rfl, hr0, hr1, hs1, hg1⟩
    have HAR := hid (carry hg1 HAR.out hal hane)
    clear hg1
    have hr : r = 0 ∨ r = 1 ∨ r = 2 := by omega
    rcases hr with rfl | rfl | rfl
    all_goals
      have a0 := cell_at (o := 0) HAR.out
      have a1 := cell_at (o := 1) HAR.out
      have a2 := cell_at (o := 2) HAR.out
      simp at a0 a1 a2
      go_wp2
      go_ret
      exact ⟨_, rfl, by unfold I64; omega, hs0.lift hs1⟩
  · go_wp2_with fail
    refine (nextAt m g _ (by unfold I64; omega) w _ hs1).mono ?_
    rintro e w2 ⟨r, rfl, hr0, hr1, hs1, hg1⟩
    have hr2 : r ≤ 80 := by omega
    go_wp2
    go_ret
    exact ⟨_, rfl, by unfold I64; omega, hs0.lift hs1⟩

theorem BytesAt.mono {w w1 : World} {a : Option Addr} {len : Nat} (h : BytesAt w a len) (hb : Below w.heap.size w w1) : BytesAt w1 a len := by
  refine Or.imp id ?_ h
  rintro ⟨b, off, rfl, hz⟩
  exact ⟨b, off, rfl, fun i hi => by obtain ⟨z, h1, h2⟩ := hz i hi; exact ⟨z, h1, xcell hb h2⟩⟩
theorem SrcOk.up {m m' : Nat} {w : World} {g : Nat} (h : SrcOk m w g) (hm : m ≤ m') : SrcOk m' w g := by
  obtain ⟨a, len, cap, at_, seed, hh, h1, h2, h3, h4, h5, h6⟩ := h
  refine ⟨a, len, cap, at_, seed, hh, h1, h2, h3, h4, h5, h6.imp id ?_⟩
  rintro ⟨b, off, rfl, hbg, hbn, hz⟩
  exact ⟨b, off, rfl, hbg, by omega, hz⟩
theorem SrcOk.blk {m : Nat} {w : World} {g : Nat} (h : SrcOk m w g) : g < w.heap.size := by
  obtain ⟨a, len, cap, at_, seed, hh, _⟩ := h
  exact blk_lt hh
theorem grown_to_below {w w1 w2 : World} {g : Nat} (h : w1.grownBy w2 (some g)) (hb : Below w.heap.size w w1) (hg : w.heap.size ≤ g) : Below w.heap.size w w2 :=
  hb.grown h hb.size (fun k hk => by have := Option.some.inj hk; omega)
theorem SrcOk.at {m : Nat} {w : World} {g : Nat} (h : SrcOk m w g) (hm : m ≤ w.heap.size) : SrcAt w.heap.size g w w := ⟨h.up hm, h.blk, Nat.le_refl _, grown_refl _ _⟩

set_option maxHeartbeats 2000000 in
theorem drawStrat_any (a : Option Addr) (len cap : Nat) (w : World) (hb0 : BytesAt w a len) (hl : len ≤ 4096) :
    Calls Try.prog 50 #[.slice a len cap] w fun e w' => ∃ p c h s x n : Int, e = .returned (.tuple #[.agg #[.int .i64 p, .int .i64 c, .int .i64 h, .int .i64 s], .int .i64 x, .int .i64 n]) ∧ Below w.heap.size w w' := by
  go_enter Try.func50, Try.ntmps50
  go_wp2_with fail
  refine (from_any a len cap _ (BytesAt.mono hb0 (xAlloc (Below.refl _ _) _)) hl).mono ?_
  rintro e w1 ⟨g, rfl, hg, hs, hb⟩
  have HRB := hid (blk_mono hb (blk_new w (.cells #[.int .i64 0, .int .i64 0, .int .i64 0, .int .i64 0] 29 (0, 0))))
  have B1 : Below w.heap.size w w1 := by (repeat' (first | (with_reducible exact Below.refl _ _) | (with_reducible assumption) | (with_reducible refine xAlloc ?_ _) | (with_reducible refine Below.drew ?_) | (with_reducible refine xDrewN ?_ _) | (with_reducible refine xThen ?_ (by with_reducible assumption)) | (with_reducible refine Below.setCell ?_ (by first | omega | (simp; omega) | simp) _) | exact Below.refl _ _))
  have hsz := hb.size
  have hs1 := hs.at (by have := hs.blk; omega)
  simp at hg hsz
  have hrl : w.heap.size < w1.heap.size := by omega
  have hgw : ¬ w.heap.size = g := by omega
  clear hb hs
  go_wp2_with fail
  refine (drawAny_any _ g w1 _ hs1).mono ?_
  rintro e w2 ⟨p, c, h, s, rfl, -, -, -, -, hs2⟩
  go_wp2_with fail
  refine (drawSeed_any _ g w1 _ hs2).mono ?_
  rintro e w3 ⟨x, rfl, -, hs3⟩
  go_wp2_with fail
  refine (drawMany_any _ g w1 _ hs3).mono ?_
  rintro e w4 ⟨n, rfl, -, hs4⟩
  have HRB := hid (carry hs4.grown HRB.out hrl hgw)
  have z0 := cell_at (o := 0) HRB.out
  have z1 := cell_at (o := 1) HRB.out
  have z2 := cell_at (o := 2) HRB.out
  have z3 := cell_at (o := 3) HRB.out
  simp at z0 z1 z2 z3
  have e0 := frozen_at (o := 0) HRB.out
  have e1 := frozen_at (o := 1) HRB.out
  have e2 := frozen_at (o := 2) HRB.out
  have e3 := frozen_at (o := 3) HRB.out
  have B4 := grown_to_below hs4.grown B1 (by omega)
  clear hs4 hs3 hs2 B1
  go_wp2
  refine bodyPost_ret (v := ?_) ?_ rfl ?_
  rotate_left
  · simp only [results, Try.results50]
    go_simp
    exact rfl
  exact ⟨_, _, _, _, _, _, rfl, by (repeat' (first | (with_reducible exact Below.refl _ _) | (with_reducible assumption) | (with_reducible refine xAlloc ?_ _) | (with_reducible refine Below.drew ?_) | (with_reducible refine xDrewN ?_ _) | (with_reducible refine xThen ?_ (by with_reducible assumption)) | (with_reducible refine Below.setCell ?_ (by first | omega | (simp; omega) | simp) _) | exact Below.refl _ _))⟩
end Go.Proofs.Ytmcjabodkjlkgaa
