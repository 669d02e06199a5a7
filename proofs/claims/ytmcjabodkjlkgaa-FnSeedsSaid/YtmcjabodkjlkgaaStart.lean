/-
  Contracts of both functions that make the first board of a game, for every valid variant of at least four points.
-/
import Derived.Test.YtmcjabodkjlkgaaHeld
import Derived.Test.YtmcjabodkjlkgaaTailB
import Derived.Test.YtmcjabodkjlkgaaBlk
import Derived.Test.YtmcjabodkjlkgaaTail
import Derived.Laws.StructEq
namespace Go.Proofs.Ytmcjabodkjlkgaa
open Go.RowKit

/-- two slices that do not lie in one block -/
def Apart (v1 v2 : Value) : Prop := ∀ a1 n1 c1 a2 n2 c2, v1 = .slice (some a1) n1 c1 → v2 = .slice (some a2) n2 c2 → a1.block ≠ a2.block
def fullB (p c h s : Int) : Bool := decide (p = 24) && decide (c = 15) && decide (h = 6) && decide (s = 6)
def startL (p c h s : Int) : List Int :=
  if fullB p c h s then [0, 0, 0, 0, 0, 5, 0, 3, 0, 0, 0, 0, 5, 0, 0, 0, 0, 0, 0, 0, 0, 0, 0, 2, 0]
  else ((List.replicate (p + 1).toNat (0 : Int)).set (p - 1).toNat (c / 2)).set (p / 2 - 1).toNat (c - c / 2)

theorem madeInts (n : Nat) : madeCells #[Value.int .i64 0] n = ((List.replicate n (0 : Int)).map (Value.int .i64)).toArray := by
  apply Array.ext
  · simp [madeCells]
  · intro i h1 h2
    simp [madeCells, Nat.mod_one]
theorem fresh_made (w : World) (n : Nat) (hn : n ≤ 1048576) : FreshInts (w.alloc (.cells (madeCells #[Value.int .i64 0] n) 2)) w.heap.size (.slice (some ⟨w.heap.size, 0, none⟩) n n) (List.replicate n 0) := by
  have := FreshInts.mk (w := w.alloc (.cells (madeCells #[Value.int .i64 0] n) 2)) (lo := w.heap.size) (g := w.heap.size) (zs := List.replicate n 0) (cur := madeCells #[Value.int .i64 0] n) (by simpa using hn) (Nat.le_refl _)
    (blk_new _ _) (by simp [madeCells]) (by simp [madeCells, maxLen]; omega) (by rw [madeInts]; simp)
  simpa [madeCells] using this
theorem makeInts_run (n : Nat) (hn : n ≤ 1048576) (u : World) : (Instr.makeSlice 24 (.int .i64 (n : Int)) (.int .i64 (n : Int))).run Try.prog u =
      .ok (.slice (some ⟨u.heap.size, 0, none⟩) n n) (u.alloc (.cells (madeCells #[Value.int .i64 0] n) 2)) := by
  obtain ⟨i0, hi, hz0, hz1, hz2⟩ := info_parts info_int64
  have h := run_make (P := Try.prog) u 24 2 i0 (.int .i64 0) Try.underlying24 hi hz0 .i64 .i64 (n : Int) (n : Int) (by omega) (Int.le_refl _) (by rw [hz2]; omega) (by omega)
  simpa [hz1, Value.cells] using h

theorem eqVar_run (p c h s p' c' h' s' : Int) (w : World) : (binOp .eql 29 (.agg #[.int .i64 p, .int .i64 c, .int .i64 h, .int .i64 s]) (.agg #[.int .i64 p', .int .i64 c', .int .i64 h', .int .i64 s'])).run Try.prog w =
    .ok (.bool (p == p' && c == c' && h == h' && s == s')) w := by
  have u := Try.underlying2
  rw [run_eql_struct, run_equalIn_agg _ _ _ _ _ (by kernel_rfl) (by kernel_rfl)]
  simp [Program.fieldsOf, Try.underlying29, Op.eqFields, go_sem, u]
  by_cases h1 : p = p' <;> by_cases h2 : c = c' <;> by_cases h3 : h = h' <;> by_cases h4 : s = s' <;> simp [h1, h2, h3, h4]

theorem implFull_any (w : World) :
    Calls Try.prog 118 #[] w fun e w' => e = .returned (.agg #[.int .i64 24, .int .i64 15, .int .i64 6, .int .i64 6]) ∧ Below w.heap.size w w' := by
  go_enter Try.func118, Try.ntmps118
  go_wp2
  go_returns
  exact ⟨rfl, by (repeat' (first | exact Below.refl _ _ | (with_reducible assumption) | (with_reducible refine xAlloc ?_ _) | (with_reducible refine Below.drew ?_) | (with_reducible refine xDrewN ?_ _) | (with_reducible refine xThen ?_ (by with_reducible assumption)) | (with_reducible refine Below.setCell ?_ (by first | omega | (simp; omega) | simp) _)))⟩
theorem specFull_any (w : World) :
    Calls Try.prog 140 #[] w fun e w' => e = .returned (.agg #[.int .i64 24, .int .i64 15, .int .i64 6, .int .i64 6]) ∧ Below w.heap.size w w' := by
  go_enter Try.func140, Try.ntmps140
  go_wp2
  go_returns
  exact ⟨rfl, by (repeat' (first | exact Below.refl _ _ | (with_reducible assumption) | (with_reducible refine xAlloc ?_ _) | (with_reducible refine Below.drew ?_) | (with_reducible refine xDrewN ?_ _) | (with_reducible refine xThen ?_ (by with_reducible assumption)) | (with_reducible refine Below.setCell ?_ (by first | omega | (simp; omega) | simp) _)))⟩

theorem specEmpty_any (n : Nat) (c h s : Int) (w : World) (hn : n ≤ 24) :
    Calls Try.prog 69 #[.agg #[.int .i64 n, .int .i64 c, .int .i64 h, .int .i64 s]] w fun e w' => e = .returned (.slice (some ⟨w.heap.size + 1, 0, none⟩) (n + 1) (n + 1)) ∧ FreshInts w' (w.heap.size + 1) (.slice (some ⟨w.heap.size + 1, 0, none⟩) (n + 1) (n + 1)) (List.replicate (n + 1) 0) ∧ Below w.heap.size w w' := by
  have hmk := makeInts_run (n + 1) (by omega)
  have ec : ((n + 1 : Nat) : Int) = (n : Int) + 1 := by omega
  rw [ec] at hmk
  have HF := fresh_made (w.alloc (.cells #[.int .i64 n, .int .i64 c, .int .i64 h, .int .i64 s] 29 (0, 0))) (n + 1) (by omega)
  have HF := hid HF
  clear ec
  go_enter Try.func69, Try.ntmps69
  go_wp2
  go_ret
  exact ⟨by simp, by simpa using HF.out, by (repeat' (first | exact Below.refl _ _ | (with_reducible assumption) | (with_reducible refine xAlloc ?_ _) | (with_reducible refine Below.drew ?_) | (with_reducible refine xDrewN ?_ _) | (with_reducible refine xThen ?_ (by with_reducible assumption)) | (with_reducible refine Below.setCell ?_ (by first | omega | (simp; omega) | simp) _)))⟩

set_option maxHeartbeats 1000000 in
theorem specStart_any (n : Nat) (c h s : Int) (w : World) (hn4 : 4 ≤ n) (hn : n ≤ 24) (hc0 : 1 ≤ c) (hc1 : c ≤ 15) :
    Calls Try.prog 117 #[.agg #[.int .i64 n, .int .i64 c, .int .i64 h, .int .i64 s]] w fun e w' => ∃ g, e = .returned (.slice (some ⟨g, 0, none⟩) (n + 1) (n + 1)) ∧ FreshInts w' w.heap.size (.slice (some ⟨g, 0, none⟩) (n + 1) (n + 1)) (startL n c h s) ∧ Below w.heap.size w w' := by
  cases hf : fullB n c h s
  · have hne0 : ((n : Int) == 24 && c == 15 && h == 6 && s == 6) = false := by simpa [fullB, Bool.and_assoc] using hf
    obtain ⟨m, HM⟩ := named (n - 1)
    obtain ⟨q, HQ⟩ := named (n / 2 - 1)
    have HL : Hid (startL n c h s = ((List.replicate (n + 1) (0 : Int)).set m (c / 2)).set q (c - c / 2)) := by
      show startL n c h s = _
      unfold startL
      rw [hf, HM.out, HQ.out]
      have e1 : ((n : Int) + 1).toNat = n + 1 := by omega
      have e2 : ((n : Int) - 1).toNat = n - 1 := by omega
      have e3 : ((n : Int) / 2 - 1).toNat = n / 2 - 1 := by omega
      rw [e1, e2, e3]
      rfl
    have E1 : (n : Int) - 1 = (m : Int) := by have := HM.out; omega
    have E2 : (n : Int) / 2 - 1 = (q : Int) := by have := HQ.out; omega
    have m1 : (m : Int) < (n : Int) + 1 := by omega
    have q1 : (q : Int) < (n : Int) + 1 := by omega
    have mn : m < n + 1 := by omega
    have qn : q < n + 1 := by omega
    go_enter Try.func117, Try.ntmps117
    go_wp2_with fail
    refine calls_named (fun W hW0 => ?_)
    have hW := hid hW0
    clear hW0
    have sW : W.heap.size = w.heap.size + 1 := by rw [← hW.out]; simp
    have bW : Below w.heap.size w W := by rw [← hW.out]; (repeat' (first | exact Below.refl _ _ | (with_reducible assumption) | (with_reducible refine xAlloc ?_ _) | (with_reducible refine Below.drew ?_) | (with_reducible refine xDrewN ?_ _) | (with_reducible refine xThen ?_ (by with_reducible assumption)) | (with_reducible refine Below.setCell ?_ (by first | omega | (simp; omega) | simp) _)))
    have lW0 : w.heap.size < W.heap.size := by omega
    have kW0 : W.cell? ⟨w.heap.size, 0, none⟩ = some (.int .i64 n) := by rw [← hW.out]; go_simp
    have kW1 : W.cell? ⟨w.heap.size, 1, none⟩ = some (.int .i64 c) := by rw [← hW.out]; go_simp
    have kW2 : W.cell? ⟨w.heap.size, 2, none⟩ = some (.int .i64 h) := by rw [← hW.out]; go_simp
    have kW3 : W.cell? ⟨w.heap.size, 3, none⟩ = some (.int .i64 s) := by rw [← hW.out]; go_simp
    clear hW sW
    refine (specEmpty_any n c h s _ hn).mono ?_
    rintro e w1 ⟨rfl, hF, hb⟩
    have kA0 := xcell hb kW0
    have kA1 := xcell hb kW1
    have kA2 := xcell hb kW2
    have kA3 := xcell hb kW3
    have BA := xThen bW hb
    have HF := hid hF
    have hgl : W.heap.size + 1 < w1.heap.size := by
      obtain ⟨_, cur, _, hh, _⟩ := hF.row
      exact blk_lt hh
    clear kW0 kW1 kW2 kW3 hF
    obtain ⟨g, HG⟩ := named (W.heap.size + 1)
    have gW : w.heap.size ≤ g := by have := HG.out; have := bW.size; omega
    rw [← HG.out] at HF hgl ⊢
    go_wp2_with fail
    have heq : ∀ u : World, (binOp .eql 29 (.agg #[.int .i64 n, .int .i64 c, .int .i64 h, .int .i64 s]) (.agg #[.int .i64 24, .int .i64 15, .int .i64 6, .int .i64 6])).run Try.prog u = .ok (.bool false) u := fun u => by rw [eqVar_run, hne0]
    have hk0 : ∀ xe : ExtW w1, xe.u.cell? ⟨w.heap.size, 0, none⟩ = some (.int .i64 n) := fun xe => xe.cell (by go_simp)
    have hk1 : ∀ xe : ExtW w1, xe.u.cell? ⟨w.heap.size, 1, none⟩ = some (.int .i64 c) := fun xe => xe.cell (by go_simp)
    have hk2 : ∀ xe : ExtW w1, xe.u.cell? ⟨w.heap.size, 2, none⟩ = some (.int .i64 h) := fun xe => xe.cell (by go_simp)
    have hk3 : ∀ xe : ExtW w1, xe.u.cell? ⟨w.heap.size, 3, none⟩ = some (.int .i64 s) := fun xe => xe.cell (by go_simp)
    have hne : Nonempty (ExtW w1) := ⟨⟨_, Below.refl _ _⟩⟩
    refine wp_region_ext (by kernel_rfl) (by kernel_rfl) ?_
    repeat (quiet_step ((first | (go_at_call 140; exact ext_call (specFull_any _)))))
    refine wpQuiet_nil ?_
    rintro w1 ⟨⟨_, hb⟩, rfl⟩
    obtain ⟨hc, hf⟩ := bcell hb
    have hsz := hb.size
    (try simp at hsz)
    (try have hy0 : w.heap.size < w1.heap.size := by omega)
    (try have hy1 : w.heap.size + 1 < w1.heap.size := by omega)
    (try have hy2 : w.heap.size + 2 < w1.heap.size := by omega)
    (try have hyS : ws.heap.size < w1.heap.size := by omega)
    (try have hyG : wg.heap.size < w1.heap.size := by omega)
    have kB0 := xcell hb kA0
    have kB1 := xcell hb kA1
    have kB2 := xcell hb kA2
    have kB3 := xcell hb kA3
    have HF1 := hid (HF.out.mono hb)
    have kc1 := HF1.out.cell (i := m) (by simpa using mn)
    have kc2 := HF1.out.cell (i := q) (by simpa using qn)
    have kf1 := HF1.out.froz m
    have kf2 := HF1.out.froz q
    have BB : Below w.heap.size w w1 := xThen BA hb
    clear kA0 kA1 kA2 kA3 hc hf heq
    go_wp2
    go_ret
    exact ⟨g, rfl, by rw [HL.out]; exact ((HF1.out.set m _).set q _).low (by omega), ((BB.setCell (by omega) _).setCell (by omega) _)⟩
  · obtain ⟨⟨⟨e1, e2⟩, e3⟩, e4⟩ : (((n : Int) = 24 ∧ c = 15) ∧ h = 6) ∧ s = 6 := by simpa [fullB] using hf
    obtain rfl : n = 24 := by omega
    subst e2 e3 e4
    clear e1 hf hn hn4 hc0 hc1
    go_enter Try.func117, Try.ntmps117
    go_wp2_with fail
    refine calls_named (fun W hW0 => ?_)
    have hW := hid hW0
    clear hW0
    have sW : W.heap.size = w.heap.size + 1 := by rw [← hW.out]; simp
    have bW : Below w.heap.size w W := by rw [← hW.out]; (repeat' (first | exact Below.refl _ _ | (with_reducible assumption) | (with_reducible refine xAlloc ?_ _) | (with_reducible refine Below.drew ?_) | (with_reducible refine xDrewN ?_ _) | (with_reducible refine xThen ?_ (by with_reducible assumption)) | (with_reducible refine Below.setCell ?_ (by first | omega | (simp; omega) | simp) _)))
    have lW0 : w.heap.size < W.heap.size := by omega
    have kW0 : W.cell? ⟨w.heap.size, 0, none⟩ = some (.int .i64 24) := by rw [← hW.out]; go_simp
    have kW1 : W.cell? ⟨w.heap.size, 1, none⟩ = some (.int .i64 15) := by rw [← hW.out]; go_simp
    have kW2 : W.cell? ⟨w.heap.size, 2, none⟩ = some (.int .i64 6) := by rw [← hW.out]; go_simp
    have kW3 : W.cell? ⟨w.heap.size, 3, none⟩ = some (.int .i64 6) := by rw [← hW.out]; go_simp
    clear hW sW
    refine (specEmpty_any 24 15 6 6 _ (by omega)).mono ?_
    rintro e w1 ⟨rfl, hF, hb⟩
    have kA0 := xcell hb kW0
    have kA1 := xcell hb kW1
    have kA2 := xcell hb kW2
    have kA3 := xcell hb kW3
    have BA := xThen bW hb
    have HF := hid hF
    have hgl : W.heap.size + 1 < w1.heap.size := by
      obtain ⟨_, cur, _, hh, _⟩ := hF.row
      exact blk_lt hh
    clear kW0 kW1 kW2 kW3 hF
    obtain ⟨g, HG⟩ := named (W.heap.size + 1)
    have gW : w.heap.size ≤ g := by have := HG.out; have := bW.size; omega
    rw [← HG.out] at HF hgl ⊢
    go_wp2_with fail
    have heq : ∀ u : World, (binOp .eql 29 (.agg #[.int .i64 24, .int .i64 15, .int .i64 6, .int .i64 6]) (.agg #[.int .i64 24, .int .i64 15, .int .i64 6, .int .i64 6])).run Try.prog u = .ok (.bool true) u := fun u => by rw [eqVar_run]; rfl
    have hk0 : ∀ xe : ExtW w1, xe.u.cell? ⟨w.heap.size, 0, none⟩ = some (.int .i64 24) := fun xe => xe.cell (by go_simp)
    have hk1 : ∀ xe : ExtW w1, xe.u.cell? ⟨w.heap.size, 1, none⟩ = some (.int .i64 15) := fun xe => xe.cell (by go_simp)
    have hk2 : ∀ xe : ExtW w1, xe.u.cell? ⟨w.heap.size, 2, none⟩ = some (.int .i64 6) := fun xe => xe.cell (by go_simp)
    have hk3 : ∀ xe : ExtW w1, xe.u.cell? ⟨w.heap.size, 3, none⟩ = some (.int .i64 6) := fun xe => xe.cell (by go_simp)
    have hne : Nonempty (ExtW w1) := ⟨⟨_, Below.refl _ _⟩⟩
    refine wp_region_ext (by kernel_rfl) (by kernel_rfl) ?_
    repeat (quiet_step ((first | (go_at_call 140; exact ext_call (specFull_any _)))))
    refine wpQuiet_nil ?_
    rintro w1 ⟨⟨_, hb⟩, rfl⟩
    obtain ⟨hc, hf⟩ := bcell hb
    have hsz := hb.size
    (try simp at hsz)
    (try have hy0 : w.heap.size < w1.heap.size := by omega)
    (try have hy1 : w.heap.size + 1 < w1.heap.size := by omega)
    (try have hy2 : w.heap.size + 2 < w1.heap.size := by omega)
    (try have hyS : ws.heap.size < w1.heap.size := by omega)
    (try have hyG : wg.heap.size < w1.heap.size := by omega)
    have HF1 := hid (HF.out.mono hb)
    have kc1 := HF1.out.cell (i := 5) (by simp)
    have kc2 := HF1.out.cell (i := 7) (by simp)
    have kc3 := HF1.out.cell (i := 12) (by simp)
    have kc4 := HF1.out.cell (i := 23) (by simp)
    have kf1 := HF1.out.froz 5
    have kf2 := HF1.out.froz 7
    have kf3 := HF1.out.froz 12
    have kf4 := HF1.out.froz 23
    have BB : Below w.heap.size w w1 := xThen BA hb
    clear kA0 kA1 kA2 kA3 hc hf heq
    go_wp2
    go_ret
    exact ⟨g, rfl, (((((HF1.out.set 5 _).set 7 _).set 12 _).set 23 _).low (by omega)), ((((BB.setCell (by omega) _).setCell (by omega) _).setCell (by omega) _).setCell (by omega) _)⟩

/-- a fresh board: two fresh slices, apart -/
structure FreshBoard (w : World) (lo : Nat) (v1 v2 : Value) (zs ys : List Int) : Prop where
  one : FreshInts w lo v1 zs
  two : FreshInts w lo v2 ys
  apart : Apart v1 v2
theorem FreshBoard.mono {w w1 : World} {lo : Nat} {v1 v2 : Value} {zs ys : List Int} (h : FreshBoard w lo v1 v2 zs ys) (hb : Below w.heap.size w w1) : FreshBoard w1 lo v1 v2 zs ys := ⟨h.one.mono hb, h.two.mono hb, h.apart⟩
theorem FreshBoard.low {w : World} {lo lo' : Nat} {v1 v2 : Value} {zs ys : List Int} (h : FreshBoard w lo v1 v2 zs ys) (hl : lo' ≤ lo) : FreshBoard w lo' v1 v2 zs ys := ⟨h.one.low hl, h.two.low hl, h.apart⟩
theorem FreshBoard.wrote {g : Nat} {w w1 : World} {lo : Nat} {v1 v2 : Value} {zs ys : List Int} (h : FreshBoard w lo v1 v2 zs ys) (hw : Wrote g w w1) (hg : g < lo) : FreshBoard w1 lo v1 v2 zs ys := ⟨h.one.wrote hw hg, h.two.wrote hw hg, h.apart⟩
theorem FreshBoard.nil (w : World) (lo : Nat) : FreshBoard w lo (.slice none 0 0) (.slice none 0 0) [] [] := ⟨FreshInts.nil _ _, FreshInts.nil _ _, by intro a1 n1 c1 a2 n2 c2 h1; cases h1⟩
/-- the second slice lies behind all that the first world held -/
theorem apart_of {w1 w2 : World} {lo : Nat} {v1 v2 : Value} {zs ys : List Int} (h1 : FreshInts w1 lo v1 zs) (h2 : FreshInts w2 w1.heap.size v2 ys) : Apart v1 v2 := by
  intro a1 n1 c1 a2 n2 c2 e1 e2
  rcases h1.cases with ⟨rfl, _⟩ | ⟨g, cap, cur, rfl, _, hg, _⟩
  · cases e1
  · rcases h2.cases with ⟨rfl, _⟩ | ⟨g', cap', cur', rfl, hg', _, _⟩
    · cases e2
    · injection e1 with e1
      injection e1 with e1
      injection e2 with e2
      injection e2 with e2
      subst e1 e2
      simp
      omega
theorem startL_len (n : Nat) (c h s : Int) : (startL n c h s).length = n + 1 := by
  unfold startL
  cases hf : fullB n c h s
  · simp
  · obtain ⟨⟨⟨e1, e2⟩, e3⟩, e4⟩ : (((n : Int) = 24 ∧ c = 15) ∧ h = 6) ∧ s = 6 := by simpa [fullB] using hf
    obtain rfl : n = 24 := by omega
    simp

set_option maxHeartbeats 1000000 in
theorem implStart_any (n : Nat) (c h s : Int) (w : World) (hv : varB n c h s = true) (hn4 : 4 ≤ n) :
    Calls Try.prog 75 #[.agg #[.int .i64 n, .int .i64 c, .int .i64 h, .int .i64 s]] w fun e w' => ∃ v1 v2, e = .returned (.tuple #[.agg #[v1, v2], .bool true]) ∧ FreshBoard w' w.heap.size v1 v2 (startL n c h s) (startL n c h s) ∧ Below w.heap.size w w' := by
  have hvr := varB_true hv
  have HV := hid hv
  clear hv
  cases hf : fullB n c h s
  · have hne0 : ((n : Int) == 24 && c == 15 && h == 6 && s == 6) = false := by simpa [fullB, Bool.and_assoc] using hf
    obtain ⟨m, HM⟩ := named (n - 1)
    obtain ⟨q, HQ⟩ := named (n / 2 - 1)
    have HL : Hid (startL n c h s = ((List.replicate (n + 1) (0 : Int)).set m (c / 2)).set q (c - c / 2)) := by
      show startL n c h s = _
      unfold startL
      rw [hf, HM.out, HQ.out]
      have e1 : ((n : Int) + 1).toNat = n + 1 := by omega
      have e2 : ((n : Int) - 1).toNat = n - 1 := by omega
      have e3 : ((n : Int) / 2 - 1).toNat = n / 2 - 1 := by omega
      rw [e1, e2, e3]
      rfl
    have E1 : (n : Int) - 1 = (m : Int) := by have := HM.out; omega
    have E2 : (n : Int) / 2 - 1 = (q : Int) := by have := HQ.out; omega
    have m1 : (m : Int) < (n : Int) + 1 := by omega
    have q1 : (q : Int) < (n : Int) + 1 := by omega
    have mn : m < n + 1 := by omega
    have qn : q < n + 1 := by omega
    have qm : ¬ q = m := by have := HM.out; have := HQ.out; omega
    have hmk := makeInts_run (n + 1) (by omega)
    have ec : ((n + 1 : Nat) : Int) = (n : Int) + 1 := by omega
    rw [ec] at hmk
    clear ec
    go_enter Try.func75, Try.ntmps75
    go_wp2_with (go_at_call 74; (with_reducible refine (isVariant_any _ _ _ _ _).mono ?_); rw [HV.out]; rintro e w1 ⟨rfl, hb⟩; obtain ⟨hc, hf⟩ := bcell hb; have hsz := hb.size; (try simp at hsz); (try have hy0 : w.heap.size < w1.heap.size := by omega); (try have hy1 : w.heap.size + 1 < w1.heap.size := by omega); (try have hy2 : w.heap.size + 2 < w1.heap.size := by omega); (try have hyS : ws.heap.size < w1.heap.size := by omega); (try have hyG : wg.heap.size < w1.heap.size := by omega))
    have hU1 := fresh_made w1 (n + 1) (by omega)
    have hU2 : w1.heap.size < (w1.alloc (.cells (madeCells #[Value.int .i64 0] (n + 1)) 2)).heap.size := by simp
    refine wp_named (fun U hU0 => ?_)
    have hU := hid hU0
    clear hU0
    have bU : Below w.heap.size w U := by rw [← hU.out]; (repeat' (first | exact Below.refl _ _ | (with_reducible assumption) | (with_reducible refine xAlloc ?_ _) | (with_reducible refine Below.drew ?_) | (with_reducible refine xDrewN ?_ _) | (with_reducible refine xThen ?_ (by with_reducible assumption)) | (with_reducible refine Below.setCell ?_ (by first | omega | (simp; omega) | simp) _)))
    have kU0 : U.cell? ⟨w.heap.size, 0, none⟩ = some (.int .i64 n) := by rw [← hU.out]; go_simp
    have kU1 : U.cell? ⟨w.heap.size, 1, none⟩ = some (.int .i64 c) := by rw [← hU.out]; go_simp
    have kU2 : U.cell? ⟨w.heap.size, 2, none⟩ = some (.int .i64 h) := by rw [← hU.out]; go_simp
    have kU3 : U.cell? ⟨w.heap.size, 3, none⟩ = some (.int .i64 s) := by rw [← hU.out]; go_simp
    have kU4 : U.cell? ⟨w.heap.size + 1, 0, none⟩ = some (.slice none 0 0) := by rw [← hU.out]; go_simp
    have kU5 : U.cell? ⟨w.heap.size + 1, 1, none⟩ = some (.slice none 0 0) := by rw [← hU.out]; go_simp
    have fU0 : U.frozen? ⟨w.heap.size + 1, 0, none⟩ = false := by rw [← hU.out]; go_simp
    have fU1 : U.frozen? ⟨w.heap.size + 1, 1, none⟩ = false := by rw [← hU.out]; go_simp
    rw [hU.out] at hU1 hU2
    have HF := hid hU1
    obtain ⟨g, HG⟩ := named w1.heap.size
    have gW : w.heap.size + 1 < g := by have := HG.out; omega
    rw [← HG.out] at HF hU2 ⊢
    clear hU hU1 hb hc hf hsz hy0 hy1
    have heq : ∀ u : World, (binOp .eql 29 (.agg #[.int .i64 n, .int .i64 c, .int .i64 h, .int .i64 s]) (.agg #[.int .i64 24, .int .i64 15, .int .i64 6, .int .i64 6])).run Try.prog u = .ok (.bool false) u := fun u => by rw [eqVar_run, hne0]
    have hk0 : ∀ xe : ExtW U, xe.u.cell? ⟨w.heap.size, 0, none⟩ = some (.int .i64 n) := fun xe => xe.cell (by go_simp)
    have hk1 : ∀ xe : ExtW U, xe.u.cell? ⟨w.heap.size, 1, none⟩ = some (.int .i64 c) := fun xe => xe.cell (by go_simp)
    have hk2 : ∀ xe : ExtW U, xe.u.cell? ⟨w.heap.size, 2, none⟩ = some (.int .i64 h) := fun xe => xe.cell (by go_simp)
    have hk3 : ∀ xe : ExtW U, xe.u.cell? ⟨w.heap.size, 3, none⟩ = some (.int .i64 s) := fun xe => xe.cell (by go_simp)
    have hne : Nonempty (ExtW U) := ⟨⟨_, Below.refl _ _⟩⟩
    refine wp_region_ext (by kernel_rfl) (by kernel_rfl) ?_
    repeat (quiet_step ((first | (go_at_call 118; exact ext_call (implFull_any _)))))
    refine wpQuiet_nil ?_
    rintro w1 ⟨⟨_, hb⟩, rfl⟩
    obtain ⟨hc, hf⟩ := bcell hb
    have hsz := hb.size
    (try simp at hsz)
    (try have hy0 : w.heap.size < w1.heap.size := by omega)
    (try have hy1 : w.heap.size + 1 < w1.heap.size := by omega)
    (try have hy2 : w.heap.size + 2 < w1.heap.size := by omega)
    (try have hyS : ws.heap.size < w1.heap.size := by omega)
    (try have hyG : wg.heap.size < w1.heap.size := by omega)
    have HF1 := hid (HF.out.mono hb)
    have kc1 := HF1.out.cell (i := m) (by simpa using mn)
    have kf1 := HF1.out.froz m
    have kA0 := xcell hb kU0
    have kA1 := xcell hb kU1
    have kA2 := xcell hb kU2
    have kA3 := xcell hb kU3
    have kA4 := xcell hb kU4
    have kA5 := xcell hb kU5
    have fA0 := xfroz hb kU4 fU0
    have fA1 := xfroz hb kU5 fU1
    have BA : Below w.heap.size w w1 := xThen bU hb
    have gA : g < w1.heap.size := Nat.lt_of_lt_of_le hU2 hb.size
    clear kU0 kU1 kU2 kU3 kU4 kU5 fU0 fU1 hc hf hb heq hk0 hk1 hk2 hk3 hne bU hU2 HF
    go_wp2
    have gn0 : ¬ w.heap.size = g := by omega
    have gn1 : ¬ w.heap.size + 1 = g := by omega
    have HF2 := HF1.out.set m (c / 2)
    refine wp_named (fun V hV0 => ?_)
    have hV := hid hV0
    clear hV0
    have bV : Below w.heap.size w V := by rw [← hV.out]; (repeat' (first | exact Below.refl _ _ | (with_reducible assumption) | (with_reducible refine xAlloc ?_ _) | (with_reducible refine Below.drew ?_) | (with_reducible refine xDrewN ?_ _) | (with_reducible refine xThen ?_ (by with_reducible assumption)) | (with_reducible refine Below.setCell ?_ (by first | omega | (simp; omega) | simp) _)))
    have kV0 : V.cell? ⟨w.heap.size, 0, none⟩ = some (.int .i64 n) := by rw [← hV.out]; go_simp
    have kV1 : V.cell? ⟨w.heap.size, 1, none⟩ = some (.int .i64 c) := by rw [← hV.out]; go_simp
    have kV2 : V.cell? ⟨w.heap.size + 1, 0, none⟩ = some (.slice none 0 0) := by rw [← hV.out]; go_simp
    have kV3 : V.cell? ⟨w.heap.size + 1, 1, none⟩ = some (.slice none 0 0) := by rw [← hV.out]; go_simp
    have fV0 : V.frozen? ⟨w.heap.size + 1, 0, none⟩ = false := by rw [← hV.out]; go_simp
    have fV1 : V.frozen? ⟨w.heap.size + 1, 1, none⟩ = false := by rw [← hV.out]; go_simp
    have gV : g < V.heap.size := by rw [← hV.out]; simpa [World.setCell] using gA
    rw [hV.out] at HF2
    have kq := HF2.cell (i := q) (by simpa using qn)
    have eq0 : ((List.replicate (n + 1) (0 : Int)).set m (c / 2)).getD q 0 = 0 := by
      rw [List.getD_eq_getElem?_getD, List.getElem?_set_ne (by omega)]
      simp [qn]
    rw [eq0] at kq
    have HF3 := hid HF2
    clear hV HF1 HF2 kc1 kf1 kA0 kA1 kA2 kA3 kA4 kA5 fA0 fA1 BA eq0 qm
    have ew1 : IntKind.i64.wrap ((n : Int) / 2) = (n : Int) / 2 := IntWalk.i64_in _ (by omega)
    have ew2 : IntKind.i64.wrap (q : Int) = (q : Int) := IntWalk.i64_in _ (by omega)
    have ew3 : IntKind.i64.wrap (c / 2) = c / 2 := IntWalk.i64_in _ (by omega)
    have ew4 : IntKind.i64.wrap (c - c / 2) = c - c / 2 := IntWalk.i64_in _ (by omega)
    have hk0 : ∀ xe : ExtW V, xe.u.cell? ⟨w.heap.size, 0, none⟩ = some (.int .i64 n) := fun xe => xe.cell (by go_simp)
    have hk1 : ∀ xe : ExtW V, xe.u.cell? ⟨w.heap.size, 1, none⟩ = some (.int .i64 c) := fun xe => xe.cell (by go_simp)
    have hk2 : ∀ xe : ExtW V, xe.u.cell? ⟨g, q, none⟩ = some (.int .i64 0) := fun xe => xe.cell (by go_simp)
    have hne : Nonempty (ExtW V) := ⟨⟨_, Below.refl _ _⟩⟩
    refine wp_region_ext_tail 15 (by kernel_rfl) (by kernel_rfl) ?_
    simp only [List.take_succ_cons, List.take_zero, List.drop_succ_cons, List.drop_zero]
    repeat (quiet_step ((first | fail)))
    refine wpQuiet_nil ?_
    rintro w1 ⟨⟨_, hb⟩, rfl⟩
    obtain ⟨hc, hf⟩ := bcell hb
    have hsz := hb.size
    (try simp at hsz)
    (try have hy0 : w.heap.size < w1.heap.size := by omega)
    (try have hy1 : w.heap.size + 1 < w1.heap.size := by omega)
    (try have hy2 : w.heap.size + 2 < w1.heap.size := by omega)
    (try have hyS : ws.heap.size < w1.heap.size := by omega)
    (try have hyG : wg.heap.size < w1.heap.size := by omega)
    clear ew1 ew2 ew3 ew4
    have HF4 := hid (HF3.out.mono hb)
    have kc1 := HF4.out.cell (i := q) (by simpa using qn)
    have kf1 := HF4.out.froz q
    have kA0 := xcell hb kV0
    have kA1 := xcell hb kV1
    have kA2 := xcell hb kV2
    have kA3 := xcell hb kV3
    have fA0 := xfroz hb kV2 fV0
    have fA1 := xfroz hb kV3 fV1
    have BA : Below w.heap.size w w1 := xThen bV hb
    have gA : g < w1.heap.size := Nat.lt_of_lt_of_le gV hb.size
    clear kV0 kV1 kV2 kV3 fV0 fV1 hc hf hb hk0 hk1 hk2 hne bV gV HF3 kq
    go_wp2_with fail
    have HF5 := HF4.out.set q (c - c / 2)
    rw [← HL.out] at HF5
    refine calls_named (fun X hX0 => ?_)
    have hX := hid hX0
    clear hX0
    have bX : Below w.heap.size w X := by rw [← hX.out]; (repeat' (first | exact Below.refl _ _ | (with_reducible assumption) | (with_reducible refine xAlloc ?_ _) | (with_reducible refine Below.drew ?_) | (with_reducible refine xDrewN ?_ _) | (with_reducible refine xThen ?_ (by with_reducible assumption)) | (with_reducible refine Below.setCell ?_ (by first | omega | (simp; omega) | simp) _)))
    have kX0 : X.cell? ⟨w.heap.size + 1, 0, none⟩ = some (.slice none 0 0) := by rw [← hX.out]; go_simp
    have kX1 : X.cell? ⟨w.heap.size + 1, 1, none⟩ = some (.slice none 0 0) := by rw [← hX.out]; go_simp
    have fX0 : X.frozen? ⟨w.heap.size + 1, 0, none⟩ = false := by rw [← hX.out]; go_simp
    have fX1 : X.frozen? ⟨w.heap.size + 1, 1, none⟩ = false := by rw [← hX.out]; go_simp
    have gX : g < X.heap.size := by rw [← hX.out]; simpa [World.setCell] using gA
    rw [hX.out] at HF5
    have hcl := clone_any g 0 (n + 1) (startL n c h s) X HF5.1 (fun i hi => by simpa using HF5.cell hi)
    rw [startL_len] at hcl
    have HF6 := hid HF5
    have hL1 := startL_len n c h s
    have hL0 : startL n c h s ≠ [] := by intro h0; rw [h0] at hL1; simp at hL1
    have HL1 := hid hL1
    have HL0 := hid hL0
    clear hX kA0 kA1 kA2 kA3 fA0 fA1 BA gA HF4 HF5 kc1 kf1 hL1 hL0
    refine hcl.mono ?_
    rintro e w2 ⟨v2, rfl, hG, hb⟩
    obtain ⟨g2, cap2, rfl, hg2, hg2'⟩ := hG.addr HL0.out
    rw [HL1.out] at hG ⊢
    have HF7 := hid (HF6.out.mono hb)
    have kZ0 := xcell hb kX0
    have kZ1 := xcell hb kX1
    have fZ0 := xfroz hb kX0 fX0
    have fZ1 := xfroz hb kX1 fX1
    have BZ : Below w.heap.size w w2 := xThen bX hb
    have rl : w.heap.size + 1 < w2.heap.size := by omega
    have HG := hid hG
    clear kX0 kX1 fX0 fX1 hb hG hcl
    go_wp2
    have hap : g ≠ g2 := by omega
    have hw1 := ((Wrote.refl (w.heap.size + 1) w2).setCell 0 (.slice (some ⟨g, 0, none⟩) (n + 1) (n + 1))).setCell 1 (.slice (some ⟨g2, 0, none⟩) (n + 1) cap2)
    refine bodyPost_ret (v := .tuple #[.agg #[.slice (some ⟨g, 0, none⟩) (n + 1) (n + 1), .slice (some ⟨g2, 0, none⟩) (n + 1) cap2], .bool true]) (by simp only [results, Try.results75]; go_simp) rfl ?_
    refine ⟨_, _, rfl, ⟨(HF7.out.wrote hw1 (by omega)).low (by omega), (HG.out.wrote hw1 (by omega)).low (by omega), ?_⟩, ((BZ.setCell (by simp) _).setCell (by simp) _)⟩
    intro a1 n1 c1 a2 n2 c2 e1 e2
    injection e1 with e1
    injection e1 with e1
    injection e2 with e2
    injection e2 with e2
    subst e1 e2
    simpa using hap
  · have hne0 : ((n : Int) == 24 && c == 15 && h == 6 && s == 6) = true := by simpa [fullB, Bool.and_assoc] using hf
    obtain ⟨⟨⟨e1, e2⟩, e3⟩, e4⟩ : (((n : Int) = 24 ∧ c = 15) ∧ h = 6) ∧ s = 6 := by simpa [fullB] using hf
    have HL : Hid (startL n c h s = ((((List.replicate (n + 1) (0 : Int)).set 5 5).set 7 3).set 12 5).set 23 2) := by
      obtain rfl : n = 24 := by omega
      subst e2 e3 e4
      rfl
    have n24 : 24 ≤ n := by omega
    have hmk := makeInts_run (n + 1) (by omega)
    have ec : ((n + 1 : Nat) : Int) = (n : Int) + 1 := by omega
    rw [ec] at hmk
    clear ec e1 e2 e3 e4 hf
    go_enter Try.func75, Try.ntmps75
    go_wp2_with (go_at_call 74; (with_reducible refine (isVariant_any _ _ _ _ _).mono ?_); rw [HV.out]; rintro e w1 ⟨rfl, hb⟩; obtain ⟨hc, hf⟩ := bcell hb; have hsz := hb.size; (try simp at hsz); (try have hy0 : w.heap.size < w1.heap.size := by omega); (try have hy1 : w.heap.size + 1 < w1.heap.size := by omega); (try have hy2 : w.heap.size + 2 < w1.heap.size := by omega); (try have hyS : ws.heap.size < w1.heap.size := by omega); (try have hyG : wg.heap.size < w1.heap.size := by omega))
    have hU1 := fresh_made w1 (n + 1) (by omega)
    have hU2 : w1.heap.size < (w1.alloc (.cells (madeCells #[Value.int .i64 0] (n + 1)) 2)).heap.size := by simp
    refine wp_named (fun U hU0 => ?_)
    have hU := hid hU0
    clear hU0
    have bU : Below w.heap.size w U := by rw [← hU.out]; (repeat' (first | exact Below.refl _ _ | (with_reducible assumption) | (with_reducible refine xAlloc ?_ _) | (with_reducible refine Below.drew ?_) | (with_reducible refine xDrewN ?_ _) | (with_reducible refine xThen ?_ (by with_reducible assumption)) | (with_reducible refine Below.setCell ?_ (by first | omega | (simp; omega) | simp) _)))
    have kU0 : U.cell? ⟨w.heap.size, 0, none⟩ = some (.int .i64 n) := by rw [← hU.out]; go_simp
    have kU1 : U.cell? ⟨w.heap.size, 1, none⟩ = some (.int .i64 c) := by rw [← hU.out]; go_simp
    have kU2 : U.cell? ⟨w.heap.size, 2, none⟩ = some (.int .i64 h) := by rw [← hU.out]; go_simp
    have kU3 : U.cell? ⟨w.heap.size, 3, none⟩ = some (.int .i64 s) := by rw [← hU.out]; go_simp
    have kU4 : U.cell? ⟨w.heap.size + 1, 0, none⟩ = some (.slice none 0 0) := by rw [← hU.out]; go_simp
    have kU5 : U.cell? ⟨w.heap.size + 1, 1, none⟩ = some (.slice none 0 0) := by rw [← hU.out]; go_simp
    have fU0 : U.frozen? ⟨w.heap.size + 1, 0, none⟩ = false := by rw [← hU.out]; go_simp
    have fU1 : U.frozen? ⟨w.heap.size + 1, 1, none⟩ = false := by rw [← hU.out]; go_simp
    rw [hU.out] at hU1 hU2
    have HF := hid hU1
    obtain ⟨g, HG⟩ := named w1.heap.size
    have gW : w.heap.size + 1 < g := by have := HG.out; omega
    rw [← HG.out] at HF hU2 ⊢
    clear hU hU1 hb hc hf hsz hy0 hy1
    have heq : ∀ u : World, (binOp .eql 29 (.agg #[.int .i64 n, .int .i64 c, .int .i64 h, .int .i64 s]) (.agg #[.int .i64 24, .int .i64 15, .int .i64 6, .int .i64 6])).run Try.prog u = .ok (.bool true) u := fun u => by rw [eqVar_run, hne0]
    have hk0 : ∀ xe : ExtW U, xe.u.cell? ⟨w.heap.size, 0, none⟩ = some (.int .i64 n) := fun xe => xe.cell (by go_simp)
    have hk1 : ∀ xe : ExtW U, xe.u.cell? ⟨w.heap.size, 1, none⟩ = some (.int .i64 c) := fun xe => xe.cell (by go_simp)
    have hk2 : ∀ xe : ExtW U, xe.u.cell? ⟨w.heap.size, 2, none⟩ = some (.int .i64 h) := fun xe => xe.cell (by go_simp)
    have hk3 : ∀ xe : ExtW U, xe.u.cell? ⟨w.heap.size, 3, none⟩ = some (.int .i64 s) := fun xe => xe.cell (by go_simp)
    have hne : Nonempty (ExtW U) := ⟨⟨_, Below.refl _ _⟩⟩
    refine wp_region_ext (by kernel_rfl) (by kernel_rfl) ?_
    repeat (quiet_step ((first | (go_at_call 118; exact ext_call (implFull_any _)))))
    refine wpQuiet_nil ?_
    rintro w1 ⟨⟨_, hb⟩, rfl⟩
    obtain ⟨hc, hf⟩ := bcell hb
    have hsz := hb.size
    (try simp at hsz)
    (try have hy0 : w.heap.size < w1.heap.size := by omega)
    (try have hy1 : w.heap.size + 1 < w1.heap.size := by omega)
    (try have hy2 : w.heap.size + 2 < w1.heap.size := by omega)
    (try have hyS : ws.heap.size < w1.heap.size := by omega)
    (try have hyG : wg.heap.size < w1.heap.size := by omega)
    have HF1 := hid (HF.out.mono hb)
    have kA0 := xcell hb kU0
    have kA1 := xcell hb kU1
    have kA2 := xcell hb kU2
    have kA3 := xcell hb kU3
    have kA4 := xcell hb kU4
    have kA5 := xcell hb kU5
    have fA0 := xfroz hb kU4 fU0
    have fA1 := xfroz hb kU5 fU1
    have BA : Below w.heap.size w w1 := xThen bU hb
    have gA : g < w1.heap.size := Nat.lt_of_lt_of_le hU2 hb.size
    have kc1 := HF1.out.cell (i := 5) (by simp; omega)
    have kc2 := HF1.out.cell (i := 7) (by simp; omega)
    have kc3 := HF1.out.cell (i := 12) (by simp; omega)
    have kc4 := HF1.out.cell (i := 23) (by simp; omega)
    have kf1 := HF1.out.froz 5
    have kf2 := HF1.out.froz 7
    have kf3 := HF1.out.froz 12
    have kf4 := HF1.out.froz 23
    have i1 : (5 : Int) < (n : Int) + 1 := by omega
    have i2 : (7 : Int) < (n : Int) + 1 := by omega
    have i3 : (12 : Int) < (n : Int) + 1 := by omega
    have i4 : (23 : Int) < (n : Int) + 1 := by omega
    have gn0 : ¬ w.heap.size = g := by omega
    have gn1 : ¬ w.heap.size + 1 = g := by omega
    clear kU0 kU1 kU2 kU3 kU4 kU5 fU0 fU1 hc hf hb heq hk0 hk1 hk2 hk3 hne bU hU2 HF
    go_wp2_with fail
    have HF5 := (((HF1.out.set 5 5).set 7 3).set 12 5).set 23 2
    rw [← HL.out] at HF5
    refine calls_named (fun X hX0 => ?_)
    have hX := hid hX0
    clear hX0
    have bX : Below w.heap.size w X := by rw [← hX.out]; (repeat' (first | exact Below.refl _ _ | (with_reducible assumption) | (with_reducible refine xAlloc ?_ _) | (with_reducible refine Below.drew ?_) | (with_reducible refine xDrewN ?_ _) | (with_reducible refine xThen ?_ (by with_reducible assumption)) | (with_reducible refine Below.setCell ?_ (by first | omega | (simp; omega) | simp) _)))
    have kX0 : X.cell? ⟨w.heap.size + 1, 0, none⟩ = some (.slice none 0 0) := by rw [← hX.out]; go_simp
    have kX1 : X.cell? ⟨w.heap.size + 1, 1, none⟩ = some (.slice none 0 0) := by rw [← hX.out]; go_simp
    have fX0 : X.frozen? ⟨w.heap.size + 1, 0, none⟩ = false := by rw [← hX.out]; go_simp
    have fX1 : X.frozen? ⟨w.heap.size + 1, 1, none⟩ = false := by rw [← hX.out]; go_simp
    have gX : g < X.heap.size := by rw [← hX.out]; simpa [World.setCell] using gA
    rw [hX.out] at HF5
    have hcl := clone_any g 0 (n + 1) (startL n c h s) X HF5.1 (fun i hi => by simpa using HF5.cell hi)
    rw [startL_len] at hcl
    have HF6 := hid HF5
    have hL1 := startL_len n c h s
    have hL0 : startL n c h s ≠ [] := by intro h0; rw [h0] at hL1; simp at hL1
    have HL1 := hid hL1
    have HL0 := hid hL0
    clear hX kA0 kA1 kA2 kA3 kA4 kA5 fA0 fA1 BA gA HF1 HF5 kc1 kf1 kc2 kf2 kc3 kf3 kc4 kf4 hL1 hL0
    refine hcl.mono ?_
    rintro e w2 ⟨v2, rfl, hG, hb⟩
    obtain ⟨g2, cap2, rfl, hg2, hg2'⟩ := hG.addr HL0.out
    rw [HL1.out] at hG ⊢
    have HF7 := hid (HF6.out.mono hb)
    have kZ0 := xcell hb kX0
    have kZ1 := xcell hb kX1
    have fZ0 := xfroz hb kX0 fX0
    have fZ1 := xfroz hb kX1 fX1
    have BZ : Below w.heap.size w w2 := xThen bX hb
    have rl : w.heap.size + 1 < w2.heap.size := by omega
    have HG := hid hG
    clear kX0 kX1 fX0 fX1 hb hG hcl
    go_wp2
    have hap : g ≠ g2 := by omega
    have hw1 := ((Wrote.refl (w.heap.size + 1) w2).setCell 0 (.slice (some ⟨g, 0, none⟩) (n + 1) (n + 1))).setCell 1 (.slice (some ⟨g2, 0, none⟩) (n + 1) cap2)
    refine bodyPost_ret (v := .tuple #[.agg #[.slice (some ⟨g, 0, none⟩) (n + 1) (n + 1), .slice (some ⟨g2, 0, none⟩) (n + 1) cap2], .bool true]) (by simp only [results, Try.results75]; go_simp) rfl ?_
    refine ⟨_, _, rfl, ⟨(HF7.out.wrote hw1 (by omega)).low (by omega), (HG.out.wrote hw1 (by omega)).low (by omega), ?_⟩, ((BZ.setCell (by simp) _).setCell (by simp) _)⟩
    intro a1 n1 c1 a2 n2 c2 e1 e2
    injection e1 with e1
    injection e1 with e1
    injection e2 with e2
    injection e2 with e2
    subst e1 e2
    simpa using hap
end Go.Proofs.Ytmcjabodkjlkgaa
