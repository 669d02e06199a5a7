/-
  The laws' own functions over games: comparison, marks and the look whether they are held; for boards whose sides have at most 2^20 elements.
-/
import Derived.Test.YtmcjabodkjlkgaaStart
import Derived.Test.YtmcjabodkjlkgaaResB
import Derived.Test.YtmcjabodkjlkgaaBoardS
namespace Go.Proofs.Ytmcjabodkjlkgaa
open Go.RowKit

/-- a game's value -/
def gameV (v1 v2 : Value) (pl a b ph wi re tu : Int) : Value := .agg #[v1, v2, .int .i64 pl, .int .i64 a, .int .i64 b, .int .i64 ph, .int .i64 wi, .int .i64 re, .int .i64 tu]

theorem eqRoll_any (a b : Int) (w : World) :
    Calls Try.prog 76 #[.agg #[.int .i64 a, .int .i64 b], .agg #[.int .i64 a, .int .i64 b]] w fun e w' => e = .returned (.bool true) ∧ Below w.heap.size w w' := by
  go_enter Try.func76, Try.ntmps76
  go_wp2
  go_ret
  exact ⟨rfl, by (repeat' (first | (with_reducible exact Below.refl _ _) | (with_reducible assumption) | (with_reducible refine xAlloc ?_ _) | (with_reducible refine Below.drew ?_) | (with_reducible refine xDrewN ?_ _) | (with_reducible refine xThen ?_ (by with_reducible assumption)) | (with_reducible refine Below.setCell ?_ (by first | omega | (simp; omega) | simp) _) | exact Below.refl _ _))⟩

set_option maxHeartbeats 1000000 in
theorem eqGame_any (v1 v2 u1 u2 : Value) (zs ys : List Int) (pl a b ph wi re tu : Int) (w : World) (I1 : IntsAt w v1 zs) (I2 : IntsAt w v2 ys) (J1 : IntsAt w u1 zs) (J2 : IntsAt w u2 ys) :
    Calls Try.prog 26 #[gameV v1 v2 pl a b ph wi re tu, gameV u1 u2 pl a b ph wi re tu] w fun e w' => e = .returned (.bool true) ∧ Below w.heap.size w w' := by
  unfold gameV
  obtain ⟨a1, c1, rfl, _⟩ := id I1
  obtain ⟨a2, c2, rfl, _⟩ := id I2
  obtain ⟨a3, c3, rfl, _⟩ := id J1
  obtain ⟨a4, c4, rfl, _⟩ := id J2
  go_enter Try.func26, Try.ntmps26
  go_wp2_with (first | (go_at_call 18; (with_reducible refine (eqBoard_any _ _ _ _ zs ys _ (by (repeat (first | (with_reducible exact IntsAt.made _ _ (by omega) _) | (with_reducible assumption) | (with_reducible refine IntsAt.alloc ?_ _) | (with_reducible refine IntsAt.drew ?_) | (with_reducible refine IntsAt.drewN ?_ _) | (with_reducible refine IntsAt.mono ?_ (by with_reducible assumption))))) (by (repeat (first | (with_reducible exact IntsAt.made _ _ (by omega) _) | (with_reducible assumption) | (with_reducible refine IntsAt.alloc ?_ _) | (with_reducible refine IntsAt.drew ?_) | (with_reducible refine IntsAt.drewN ?_ _) | (with_reducible refine IntsAt.mono ?_ (by with_reducible assumption))))) (by (repeat (first | (with_reducible exact IntsAt.made _ _ (by omega) _) | (with_reducible assumption) | (with_reducible refine IntsAt.alloc ?_ _) | (with_reducible refine IntsAt.drew ?_) | (with_reducible refine IntsAt.drewN ?_ _) | (with_reducible refine IntsAt.mono ?_ (by with_reducible assumption))))) (by (repeat (first | (with_reducible exact IntsAt.made _ _ (by omega) _) | (with_reducible assumption) | (with_reducible refine IntsAt.alloc ?_ _) | (with_reducible refine IntsAt.drew ?_) | (with_reducible refine IntsAt.drewN ?_ _) | (with_reducible refine IntsAt.mono ?_ (by with_reducible assumption)))))).mono ?_); rintro e w1 ⟨rfl, hb⟩; obtain ⟨hc, hf⟩ := bcell hb; have hsz := hb.size; (try simp at hsz); (try have hy0 : w.heap.size < w1.heap.size := by omega); (try have hy1 : w.heap.size + 1 < w1.heap.size := by omega); (try have hy2 : w.heap.size + 2 < w1.heap.size := by omega); (try have hyS : ws.heap.size < w1.heap.size := by omega); (try have hyG : wg.heap.size < w1.heap.size := by omega)) | (go_at_call 76; (with_reducible refine (eqRoll_any _ _ _).mono ?_); rintro e w1 ⟨rfl, hb⟩; obtain ⟨hc, hf⟩ := bcell hb; have hsz := hb.size; (try simp at hsz); (try have hy0 : w.heap.size < w1.heap.size := by omega); (try have hy1 : w.heap.size + 1 < w1.heap.size := by omega); (try have hy2 : w.heap.size + 2 < w1.heap.size := by omega); (try have hyS : ws.heap.size < w1.heap.size := by omega); (try have hyG : wg.heap.size < w1.heap.size := by omega)))
  go_ret
  exact ⟨rfl, by (repeat' (first | (with_reducible exact Below.refl _ _) | (with_reducible assumption) | (with_reducible refine xAlloc ?_ _) | (with_reducible refine Below.drew ?_) | (with_reducible refine xDrewN ?_ _) | (with_reducible refine xThen ?_ (by with_reducible assumption)) | (with_reducible refine Below.setCell ?_ (by first | omega | (simp; omega) | simp) _) | exact Below.refl _ _))⟩

/-- w' is w but for the block of the slice v -/
structure WroteV (v : Value) (w w' : World) : Prop where
  os : w'.os = w.os
  tape : w'.tape = w.tape
  output : w'.output = w.output
  size : w'.heap.size = w.heap.size
  block : ∀ k, (∀ a n c, v = .slice (some a) n c → k ≠ a.block) → w'.heap[k]? = w.heap[k]?
theorem WroteV.fresh {v u : Value} {w w' : World} {lo : Nat} {zs : List Int} (hw : WroteV v w w') (h : FreshInts w lo u zs) (ha : Apart v u) : FreshInts w' lo u zs := by
  obtain ⟨hm, hn, h⟩ := h
  refine ⟨hm, hn, h.imp id ?_⟩
  rintro ⟨g', cap, cur, hv, hg', hh, r⟩
  exact ⟨g', cap, cur, hv, hg', (hw.block g' (fun a n c e => Ne.symm (ha _ _ _ _ _ _ e hv))).trans hh, r⟩
theorem WroteV.held {v u : Value} {w w' : World} {k : Int} {n : Nat} (hw : WroteV v w w') (h : HeldAs w u k n) (ha : Apart u v) : HeldAs w' u k n := by
  refine h.imp id ?_
  rintro ⟨g, cap, cur, hv, hh, hn⟩
  exact ⟨g, cap, cur, hv, (hw.block g (fun a n c e => ha _ _ _ _ _ _ hv e)).trans hh, hn⟩
theorem WroteV.below {v : Value} {w w' : World} {B lo : Nat} {zs : List Int} (hw : WroteV v w w') (h : FreshInts w lo v zs) (hB : B ≤ lo) : Below B w w' :=
  ⟨hw.os, hw.tape, hw.output, Nat.le_of_eq hw.size.symm, fun k hk => hw.block k (fun a n c e => by
    rcases h.cases with ⟨rfl, _⟩ | ⟨g, cap, cur, rfl, hg, _⟩
    · cases e
    · injection e with e
      injection e with e
      subst e
      simp
      omega)⟩
theorem WroteV.cell {v x : Value} {w w' : World} {b o lo : Nat} {zs : List Int} (hw : WroteV v w w') (h : FreshInts w lo v zs) (hc : w.cell? ⟨b, o, none⟩ = some x) (hb : b < lo) : w'.cell? ⟨b, o, none⟩ = some x :=
  ((hw.below h (Nat.le_refl _)).cell (p := ⟨b, o, none⟩) hb).trans hc

theorem markV_any (lo : Nat) (v : Value) (k : Int) (zs : List Int) (w : World) (h : FreshInts w lo v zs) (k0 : 0 ≤ k) (k1 : k ≤ 1099511627776) :
    Calls Try.prog 119 #[v, .int .i64 k] w fun e w' => e = .returned (.int .i64 (k + zs.length)) ∧ HeldAs w' v k zs.length ∧ WroteV v w w' := by
  have hm := h.1
  rcases h.cases with ⟨rfl, rfl⟩ | ⟨g, cap, cur, rfl, hg, hs, hh, h1, h2, h4⟩
  · refine (mark_nil k w).mono ?_
    rintro e w' ⟨rfl, rfl⟩
    exact ⟨by simp, .inl ⟨rfl, rfl⟩, ⟨rfl, rfl, rfl, rfl, fun _ _ => rfl⟩⟩
  · refine (mark_any g zs.length cap k cur w hh h1 hm k0 k1).mono ?_
    rintro e w' ⟨rfl, hw, hh'⟩
    exact ⟨rfl, .inr ⟨g, cap, cur, rfl, hh', h1⟩, ⟨hw.os, hw.tape, hw.output, hw.size, fun k hk => hw.block k (by simpa using hk _ _ _ rfl)⟩⟩

theorem FreshInts.below_size {w : World} {lo : Nat} {v : Value} {zs : List Int} (h : FreshInts w lo v zs) : ∀ a n c, v = .slice (some a) n c → a.block < w.heap.size := by
  intro a n c e
  rcases h.cases with ⟨rfl, _⟩ | ⟨g, cap, cur, rfl, hg, hs, _⟩
  · cases e
  · injection e with e
    injection e with e
    subst e
    exact hs
theorem WroteV.new {v x : Value} {w u w' : World} {b o lo : Nat} {zs : List Int} (hw : WroteV v u w') (h : FreshInts w lo v zs) (hc : u.cell? ⟨b, o, none⟩ = some x) (hb : w.heap.size ≤ b) : w'.cell? ⟨b, o, none⟩ = some x :=
  (World.cell?_of_block (w := u) (a := ⟨b, o, none⟩) (hw.block b (fun a n c e => by have := h.below_size a n c e; omega))).trans hc

/-- the two slices of a board hold the marks from k on -/
def HeldB (w : World) (v1 v2 : Value) (k : Int) (n m : Nat) : Prop := HeldAs w v1 k n ∧ HeldAs w v2 (k + n) m
theorem HeldB.mono {w w' : World} {v1 v2 : Value} {k : Int} {n m : Nat} (h : HeldB w v1 v2 k n m) (hb : Below w.heap.size w w') : HeldB w' v1 v2 k n m := ⟨h.1.mono hb, h.2.mono hb⟩
theorem Apart.symm {v1 v2 : Value} (h : Apart v1 v2) : Apart v2 v1 := fun _ _ _ _ _ _ e1 e2 => Ne.symm (h _ _ _ _ _ _ e2 e1)

/-- w' is w, grown, but for the blocks of the two slices -/
structure MarkedB (v1 v2 : Value) (w w' : World) : Prop where
  os : w'.os = w.os
  tape : w'.tape = w.tape
  output : w'.output = w.output
  size : w.heap.size ≤ w'.heap.size
  block : ∀ k, k < w.heap.size → (∀ a n c, v1 = .slice (some a) n c → k ≠ a.block) → (∀ a n c, v2 = .slice (some a) n c → k ≠ a.block) → w'.heap[k]? = w.heap[k]?
theorem MarkedB.below {v1 v2 : Value} {w w' : World} {B lo : Nat} {zs ys : List Int} (hw : MarkedB v1 v2 w w') (h : FreshBoard w lo v1 v2 zs ys) (hB : B ≤ lo) (hlo : lo ≤ w.heap.size) : Below B w w' :=
  ⟨hw.os, hw.tape, hw.output, hw.size, fun k hk => hw.block k (by omega) (fun a n c e => by
    rcases h.one.cases with ⟨rfl, _⟩ | ⟨g, cap, cur, rfl, hg, _⟩
    · cases e
    · injection e with e
      injection e with e
      subst e
      simp
      omega) (fun a n c e => by
    rcases h.two.cases with ⟨rfl, _⟩ | ⟨g, cap, cur, rfl, hg, _⟩
    · cases e
    · injection e with e
      injection e with e
      subst e
      simp
      omega)⟩
theorem MarkedB.new {v1 v2 x : Value} {w u w' : World} {b o lo : Nat} {zs ys : List Int} (hw : MarkedB v1 v2 u w') (h : FreshBoard w lo v1 v2 zs ys) (hc : u.cell? ⟨b, o, none⟩ = some x) (hb : w.heap.size ≤ b) : w'.cell? ⟨b, o, none⟩ = some x :=
  (World.cell?_of_block (w := u) (a := ⟨b, o, none⟩) (hw.block b (cell_block hc) (fun a n c e => by have := h.one.below_size a n c e; omega) (fun a n c e => by have := h.two.below_size a n c e; omega))).trans hc

set_option maxHeartbeats 1000000 in
theorem markBoard_any (lo : Nat) (v1 v2 : Value) (k : Int) (zs ys : List Int) (w : World) (h : FreshBoard w lo v1 v2 zs ys) (k0 : 0 ≤ k) (k1 : k ≤ 1000000000) :
    Calls Try.prog 77 #[.agg #[v1, v2], .int .i64 k] w fun e w' => e = .returned (.int .i64 (k + zs.length + ys.length)) ∧ HeldB w' v1 v2 k zs.length ys.length ∧ MarkedB v1 v2 w w' := by
  obtain ⟨hf1, hf2, hap⟩ := h
  have m1 := hf1.1
  have m2 := hf2.1
  have H1 := hid hf1
  have H2 := hid hf2
  obtain ⟨a1, c1, rfl, _⟩ := hf1.ints
  obtain ⟨a2, c2, rfl, _⟩ := hf2.ints
  have HA := hid hap
  clear hf1 hf2 hap
  go_enter Try.func77, Try.ntmps77
  go_wp2_with fail
  refine calls_named (fun X hX0 => ?_)
  have hX := hid hX0
  clear hX0
  have bX : Below w.heap.size w X := by rw [← hX.out]; (repeat' (first | (with_reducible exact Below.refl _ _) | (with_reducible assumption) | (with_reducible refine xAlloc ?_ _) | (with_reducible refine Below.drew ?_) | (with_reducible refine xDrewN ?_ _) | (with_reducible refine xThen ?_ (by with_reducible assumption)) | (with_reducible refine Below.setCell ?_ (by first | omega | (simp; omega) | simp) _) | exact Below.refl _ _))
  have kX0 : X.cell? ⟨w.heap.size, 0, none⟩ = some (.slice a1 zs.length c1) := by rw [← hX.out]; go_simp
  have kX1 : X.cell? ⟨w.heap.size, 1, none⟩ = some (.slice a2 ys.length c2) := by rw [← hX.out]; go_simp
  have sX : w.heap.size < X.heap.size := by rw [← hX.out]; simp
  have HX1 := hid (H1.out.mono bX)
  have HX2 := hid (H2.out.mono bX)
  clear hX
  refine (markV_any lo _ k zs X HX1.out k0 (by omega)).mono ?_
  rintro e w1 ⟨rfl, hh1, hw1⟩
  have hq0 := hw1.new H1.out kX0 (Nat.le_refl _)
  have hq1 := hw1.new H1.out kX1 (Nat.le_refl _)
  have HW1 := hid hw1
  have HH1 := hid hh1
  have HX3 := hid (hw1.fresh HX2.out HA.out)
  clear kX0 kX1 hw1 hh1
  go_wp2_with fail
  refine (markV_any lo _ (k + zs.length) ys w1 HX3.out (by omega) (by omega)).mono ?_
  rintro e w2 ⟨rfl, hh2, hw2⟩
  have HW2 := hid hw2
  have HH2 := hid hh2
  clear hh2 hw2 hq0 hq1
  go_wp2
  go_ret
  exact ⟨rfl, ⟨HW2.out.held HH1.out HA.out, HH2.out⟩, ⟨HW2.out.os.trans (HW1.out.os.trans bX.os), HW2.out.tape.trans (HW1.out.tape.trans bX.tape), HW2.out.output.trans (HW1.out.output.trans bX.output), by rw [HW2.out.size, HW1.out.size]; exact bX.size, fun k hk h1 h2 => ((HW2.out.block k h2).trans (HW1.out.block k h1)).trans (bX.block k hk)⟩⟩

set_option maxHeartbeats 1000000 in
theorem heldBoard_any (v1 v2 : Value) (k : Int) (n m : Nat) (w : World) (h : HeldB w v1 v2 k n m) (hn : n ≤ 1048576) (hm : m ≤ 1048576) (k0 : 0 ≤ k) (k1 : k ≤ 1000000000) :
    Calls Try.prog 78 #[.agg #[v1, v2], .int .i64 k] w fun e w' => e = .returned (.int .i64 (k + n + m)) ∧ Below w.heap.size w w' := by
  have HH := hid h
  have e1 : ∃ a c, v1 = .slice a n c := by
    rcases h.1 with ⟨rfl, rfl⟩ | ⟨g, cap, cur, rfl, _⟩
    · exact ⟨_, _, rfl⟩
    · exact ⟨_, _, rfl⟩
  have e2 : ∃ a c, v2 = .slice a m c := by
    rcases h.2 with ⟨rfl, rfl⟩ | ⟨g, cap, cur, rfl, _⟩
    · exact ⟨_, _, rfl⟩
    · exact ⟨_, _, rfl⟩
  obtain ⟨a1, c1, rfl⟩ := e1
  obtain ⟨a2, c2, rfl⟩ := e2
  have n1 : ¬ k + (n : Int) < 0 := by omega
  have n2 : ¬ k + (n : Int) + (m : Int) < 0 := by omega
  clear h
  go_enter Try.func78, Try.ntmps78
  go_wp2_with fail
  refine (heldF_any _ k n _ (HH.out.1.mono (by (repeat' (first | (with_reducible exact Below.refl _ _) | (with_reducible assumption) | (with_reducible refine xAlloc ?_ _) | (with_reducible refine Below.drew ?_) | (with_reducible refine xDrewN ?_ _) | (with_reducible refine xThen ?_ (by with_reducible assumption)) | (with_reducible refine Below.setCell ?_ (by first | omega | (simp; omega) | simp) _) | exact Below.refl _ _)))) hn k0 (by omega)).mono ?_
  rintro e _ ⟨rfl, rfl⟩
  go_wp2_with fail
  refine (heldF_any _ (k + n) m _ (HH.out.2.mono (by (repeat' (first | (with_reducible exact Below.refl _ _) | (with_reducible assumption) | (with_reducible refine xAlloc ?_ _) | (with_reducible refine Below.drew ?_) | (with_reducible refine xDrewN ?_ _) | (with_reducible refine xThen ?_ (by with_reducible assumption)) | (with_reducible refine Below.setCell ?_ (by first | omega | (simp; omega) | simp) _) | exact Below.refl _ _)))) hm (by omega) (by omega)).mono ?_
  rintro e _ ⟨rfl, rfl⟩
  go_wp2
  go_ret
  exact ⟨rfl, by (repeat' (first | (with_reducible exact Below.refl _ _) | (with_reducible assumption) | (with_reducible refine xAlloc ?_ _) | (with_reducible refine Below.drew ?_) | (with_reducible refine xDrewN ?_ _) | (with_reducible refine xThen ?_ (by with_reducible assumption)) | (with_reducible refine Below.setCell ?_ (by first | omega | (simp; omega) | simp) _) | exact Below.refl _ _))⟩

set_option maxHeartbeats 1000000 in
theorem markGame_any (lo : Nat) (v1 v2 : Value) (k : Int) (zs ys : List Int) (pl a b ph wi re tu : Int) (w : World) (h : FreshBoard w lo v1 v2 zs ys) (k0 : 0 ≤ k) (k1 : k ≤ 1000000000) :
    Calls Try.prog 27 #[gameV v1 v2 pl a b ph wi re tu, .int .i64 k] w fun e w' => e = .returned (.int .i64 (k + zs.length + ys.length)) ∧ HeldB w' v1 v2 k zs.length ys.length ∧ MarkedB v1 v2 w w' := by
  have H := hid h
  have m1 := h.one.1
  have m2 := h.two.1
  unfold gameV
  obtain ⟨a1, c1, rfl, _⟩ := h.one.ints
  obtain ⟨a2, c2, rfl, _⟩ := h.two.ints
  clear h
  go_enter Try.func27, Try.ntmps27
  go_wp2_with fail
  refine (markBoard_any lo _ _ k zs ys _ (H.out.mono (by (repeat' (first | (with_reducible exact Below.refl _ _) | (with_reducible assumption) | (with_reducible refine xAlloc ?_ _) | (with_reducible refine Below.drew ?_) | (with_reducible refine xDrewN ?_ _) | (with_reducible refine xThen ?_ (by with_reducible assumption)) | (with_reducible refine Below.setCell ?_ (by first | omega | (simp; omega) | simp) _) | exact Below.refl _ _)))) k0 k1).mono ?_
  rintro e w1 ⟨rfl, hh, hb⟩
  have HH := hid hh
  clear hh
  go_wp2
  go_ret
  have hx := xAlloc (Below.refl w.heap.size w) (.cells #[.slice a1 zs.length c1, .slice a2 ys.length c2, .int .i64 pl, .int .i64 a, .int .i64 b, .int .i64 ph, .int .i64 wi, .int .i64 re, .int .i64 tu] 44 (0, 0))
  exact ⟨rfl, HH.out, ⟨hb.os.trans hx.os, hb.tape.trans hx.tape, hb.output.trans hx.output, Nat.le_trans hx.size hb.size, fun k hk h1 h2 => (hb.block k (Nat.lt_of_lt_of_le hk hx.size) h1 h2).trans (hx.block k hk)⟩⟩

set_option maxHeartbeats 1000000 in
theorem heldGame_any (v1 v2 : Value) (k : Int) (n m : Nat) (pl a b ph wi re tu : Int) (w : World) (h : HeldB w v1 v2 k n m) (hn : n ≤ 1048576) (hm : m ≤ 1048576) (k0 : 0 ≤ k) (k1 : k ≤ 1000000000) :
    Calls Try.prog 28 #[gameV v1 v2 pl a b ph wi re tu, .int .i64 k] w fun e w' => e = .returned (.int .i64 (k + n + m)) ∧ Below w.heap.size w w' := by
  have HH := hid h
  unfold gameV
  have e1 : ∃ a c, v1 = .slice a n c := by
    rcases h.1 with ⟨rfl, rfl⟩ | ⟨g, cap, cur, rfl, _⟩
    · exact ⟨_, _, rfl⟩
    · exact ⟨_, _, rfl⟩
  have e2 : ∃ a c, v2 = .slice a m c := by
    rcases h.2 with ⟨rfl, rfl⟩ | ⟨g, cap, cur, rfl, _⟩
    · exact ⟨_, _, rfl⟩
    · exact ⟨_, _, rfl⟩
  obtain ⟨a1, c1, rfl⟩ := e1
  obtain ⟨a2, c2, rfl⟩ := e2
  have n2 : ¬ k + (n : Int) + (m : Int) < 0 := by omega
  clear h
  go_enter Try.func28, Try.ntmps28
  go_wp2_with fail
  refine (heldBoard_any _ _ k n m _ (HH.out.mono (by (repeat' (first | (with_reducible exact Below.refl _ _) | (with_reducible assumption) | (with_reducible refine xAlloc ?_ _) | (with_reducible refine Below.drew ?_) | (with_reducible refine xDrewN ?_ _) | (with_reducible refine xThen ?_ (by with_reducible assumption)) | (with_reducible refine Below.setCell ?_ (by first | omega | (simp; omega) | simp) _) | exact Below.refl _ _)))) hn hm k0 k1).mono ?_
  rintro e w1 ⟨rfl, hb⟩
  go_wp2
  go_ret
  exact ⟨rfl, by (repeat' (first | (with_reducible exact Below.refl _ _) | (with_reducible assumption) | (with_reducible refine xAlloc ?_ _) | (with_reducible refine Below.drew ?_) | (with_reducible refine xDrewN ?_ _) | (with_reducible refine xThen ?_ (by with_reducible assumption)) | (with_reducible refine Below.setCell ?_ (by first | omega | (simp; omega) | simp) _) | exact Below.refl _ _))⟩
end Go.Proofs.Ytmcjabodkjlkgaa
