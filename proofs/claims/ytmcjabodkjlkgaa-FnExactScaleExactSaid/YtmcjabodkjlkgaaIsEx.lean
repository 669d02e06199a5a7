/-
  Contracts of the validity of an exact number, of the program and of the reference, and of the law over both IsExact functions: it returns true for every variant and number; no condition.
-/
import Derived.Test.YtmcjabodkjlkgaaScale
import Derived.Test.YtmcjabodkjlkgaaBlk
import Derived.Deep.RegionHeld3
namespace Go.Proofs.Ytmcjabodkjlkgaa
open Go.RowKit

/-- a number of a base is valid -/
def exB (b : Nat) (x d : Int) : Bool :=
  decide (0 ≤ d) && inB x (-1000000000000000000) 1000000000000000000 && (decide (d = 0) || (decide (2 ≤ b) && sclB b d && decide (x.tmod b ≠ 0)))

theorem exB_deep {b : Nat} {d : Int} (hb : 2 ≤ b) (h : sclB b d = true) : d ≤ 60 := by
  by_cases hd : d ≤ 60
  · exact hd
  · exfalso
    simp [sclB] at h
    rcases h with (h | h) | h
    · omega
    · omega
    · have h1 : 2 ^ 61 ≤ b ^ d.toNat := Nat.le_trans (Nat.pow_le_pow_left hb 61) (Nat.pow_le_pow_right (by omega) (by omega))
      have : (2 : Nat) ^ 61 = 2305843009213693952 := by decide
      omega

set_option maxHeartbeats 400000 in
theorem isExact_any (p c h s x d : Int) (b : Nat) (hB : Base s b) (hd : I64 d) (hx : I64 x) (w : World) :
    Calls Try.prog 91 #[.agg #[.int .i64 p, .int .i64 c, .int .i64 h, .int .i64 s], .agg #[.int .i64 x, .int .i64 d]] w fun e w' => e = .returned (.bool (exB b x d)) ∧ Below w.heap.size w w' := by
  have HB := hid hB
  obtain ⟨_, _, _, b1, b2⟩ := hB
  obtain ⟨d1, d2⟩ := hd
  obtain ⟨x1, x2⟩ := hx
  by_cases hd0 : d < 0
  · go_enter Try.func91, Try.ntmps91
    go_wp2
    go_ret
    exact ⟨ret_bool (by symm; simp [exB]; omega), by (repeat' (first | exact Below.refl _ _ | (with_reducible assumption) | (with_reducible refine xAlloc ?_ _) | (with_reducible refine Below.drew ?_) | (with_reducible refine xDrewN ?_ _) | (with_reducible refine xThen ?_ (by with_reducible assumption)) | (with_reducible refine Below.setCell ?_ (by first | omega | (simp; omega) | simp) _)))⟩
  · cases hin : inB x (-1000000000000000000) 1000000000000000000
    · go_enter Try.func91, Try.ntmps91
      go_wp2_with (go_at_call 83; refine (within_any _ _ _ _).mono ?_; rintro e w' ⟨rfl, rfl⟩)
      go_ret
      exact ⟨ret_bool (by symm; simp [exB, hin]), by (repeat' (first | exact Below.refl _ _ | (with_reducible assumption) | (with_reducible refine xAlloc ?_ _) | (with_reducible refine Below.drew ?_) | (with_reducible refine xDrewN ?_ _) | (with_reducible refine xThen ?_ (by with_reducible assumption)) | (with_reducible refine Below.setCell ?_ (by first | omega | (simp; omega) | simp) _)))⟩
    · by_cases hdz : d = 0
      · have hdz' : (d == 0) = true := by simpa using hdz
        have HDZ := hid hdz
        clear hdz
        go_enter Try.func91, Try.ntmps91
        go_wp2_with (go_at_call 83; refine (within_any _ _ _ _).mono ?_; rintro e w' ⟨rfl, rfl⟩)
        go_ret
        exact ⟨ret_bool (by symm; simp [exB, hin, HDZ.out]), by (repeat' (first | exact Below.refl _ _ | (with_reducible assumption) | (with_reducible refine xAlloc ?_ _) | (with_reducible refine Below.drew ?_) | (with_reducible refine xDrewN ?_ _) | (with_reducible refine xThen ?_ (by with_reducible assumption)) | (with_reducible refine Below.setCell ?_ (by first | omega | (simp; omega) | simp) _)))⟩
      · have hdz' : (d == 0) = false := by simpa using hdz
        by_cases hb1 : b = 1
        · have hb1' : ((b : Int) == 1) = true := by simp; omega
          have H1 := hid hb1
          clear hb1
          go_enter Try.func91, Try.ntmps91
          go_wp2_with (first | (go_at_call 83; refine (within_any _ _ _ _).mono ?_; rintro e w' ⟨rfl, rfl⟩) | (go_at_call 125; refine (baseOf_any _ _ _ _ b HB.out _).mono ?_; rintro e w1 ⟨rfl, hb⟩; obtain ⟨hc, hf⟩ := bcell hb; have hsz := hb.size; (try simp at hsz); (try have hy0 : w.heap.size < w1.heap.size := by omega); (try have hy1 : w.heap.size + 1 < w1.heap.size := by omega); (try have hy2 : w.heap.size + 2 < w1.heap.size := by omega); (try have hyS : ws.heap.size < w1.heap.size := by omega); (try have hyG : wg.heap.size < w1.heap.size := by omega)))
          go_ret
          exact ⟨ret_bool (by symm; simp [exB, hin, H1.out, hdz]), by (repeat' (first | exact Below.refl _ _ | (with_reducible assumption) | (with_reducible refine xAlloc ?_ _) | (with_reducible refine Below.drew ?_) | (with_reducible refine xDrewN ?_ _) | (with_reducible refine xThen ?_ (by with_reducible assumption)) | (with_reducible refine Below.setCell ?_ (by first | omega | (simp; omega) | simp) _)))⟩
        · have hb1' : ((b : Int) == 1) = false := by simp; omega
          by_cases hd6 : 60 < d
          · go_enter Try.func91, Try.ntmps91
            go_wp2_with (first | (go_at_call 83; refine (within_any _ _ _ _).mono ?_; rintro e w' ⟨rfl, rfl⟩) | (go_at_call 125; refine (baseOf_any _ _ _ _ b HB.out _).mono ?_; rintro e w1 ⟨rfl, hb⟩; obtain ⟨hc, hf⟩ := bcell hb; have hsz := hb.size; (try simp at hsz); (try have hy0 : w.heap.size < w1.heap.size := by omega); (try have hy1 : w.heap.size + 1 < w1.heap.size := by omega); (try have hy2 : w.heap.size + 2 < w1.heap.size := by omega); (try have hyS : ws.heap.size < w1.heap.size := by omega); (try have hyG : wg.heap.size < w1.heap.size := by omega)))
            go_ret
            exact ⟨ret_bool (by
              symm; simp [exB, hin, hdz]; intro _ _ hs
              have := exB_deep (by omega) hs; omega), by (repeat' (first | exact Below.refl _ _ | (with_reducible assumption) | (with_reducible refine xAlloc ?_ _) | (with_reducible refine Below.drew ?_) | (with_reducible refine xDrewN ?_ _) | (with_reducible refine xThen ?_ (by with_reducible assumption)) | (with_reducible refine Below.setCell ?_ (by first | omega | (simp; omega) | simp) _)))⟩
          · cases hs : sclB b d
            · go_enter Try.func91, Try.ntmps91
              go_wp2_with (first | (go_at_call 83; refine (within_any _ _ _ _).mono ?_; rintro e w' ⟨rfl, rfl⟩) | (go_at_call 125; refine (baseOf_any _ _ _ _ b HB.out _).mono ?_; rintro e w1 ⟨rfl, hb⟩; obtain ⟨hc, hf⟩ := bcell hb; have hsz := hb.size; (try simp at hsz); (try have hy0 : w.heap.size < w1.heap.size := by omega); (try have hy1 : w.heap.size + 1 < w1.heap.size := by omega); (try have hy2 : w.heap.size + 2 < w1.heap.size := by omega); (try have hyS : ws.heap.size < w1.heap.size := by omega); (try have hyG : wg.heap.size < w1.heap.size := by omega)) | (go_at_call 132; refine (scaleOf_any _ _ _ _ _ b HB.out (by omega) _).mono ?_; rintro e w1 ⟨rfl, hb⟩; obtain ⟨hc, hf⟩ := bcell hb; have hsz := hb.size; (try simp at hsz); (try have hy0 : w.heap.size < w1.heap.size := by omega); (try have hy1 : w.heap.size + 1 < w1.heap.size := by omega); (try have hy2 : w.heap.size + 2 < w1.heap.size := by omega); (try have hyS : ws.heap.size < w1.heap.size := by omega); (try have hyG : wg.heap.size < w1.heap.size := by omega)))
              go_quiet (fail)
              go_wp2
              go_ret
              exact ⟨ret_bool (by symm; simp [exB, hin, hdz, hs]), by (repeat' (first | exact Below.refl _ _ | (with_reducible assumption) | (with_reducible refine xAlloc ?_ _) | (with_reducible refine Below.drew ?_) | (with_reducible refine xDrewN ?_ _) | (with_reducible refine xThen ?_ (by with_reducible assumption)) | (with_reducible refine Below.setCell ?_ (by first | omega | (simp; omega) | simp) _)))⟩
            · have hb0 : ((b : Int) == 0) = false := by simp; omega
              go_enter Try.func91, Try.ntmps91
              go_wp2_with (first | (go_at_call 83; refine (within_any _ _ _ _).mono ?_; rintro e w' ⟨rfl, rfl⟩) | (go_at_call 125; refine (baseOf_any _ _ _ _ b HB.out _).mono ?_; rintro e w1 ⟨rfl, hb⟩; obtain ⟨hc, hf⟩ := bcell hb; have hsz := hb.size; (try simp at hsz); (try have hy0 : w.heap.size < w1.heap.size := by omega); (try have hy1 : w.heap.size + 1 < w1.heap.size := by omega); (try have hy2 : w.heap.size + 2 < w1.heap.size := by omega); (try have hyS : ws.heap.size < w1.heap.size := by omega); (try have hyG : wg.heap.size < w1.heap.size := by omega)) | (go_at_call 132; refine (scaleOf_any _ _ _ _ _ b HB.out (by omega) _).mono ?_; rintro e wz ⟨rfl, hb⟩; obtain ⟨hc, hf⟩ := bcell hb; have hsz := hb.size; (try simp at hsz); (try have hy0 : w.heap.size < wz.heap.size := by omega); (try have hy1 : w.heap.size + 1 < wz.heap.size := by omega); (try have hy2 : w.heap.size + 2 < wz.heap.size := by omega); (try have hyS : ws.heap.size < wz.heap.size := by omega); (try have hyG : wg.heap.size < wz.heap.size := by omega)))
              have hbz : ¬ b = 0 := by omega
              have hb2 : 2 ≤ b := by omega
              have hk0 : ∀ xe : ExtW wz, xe.u.cell? ⟨w.heap.size, 0, none⟩ = some (.int .i64 p) := fun xe => xe.cell (by go_simp)
              have hk1 : ∀ xe : ExtW wz, xe.u.cell? ⟨w.heap.size, 1, none⟩ = some (.int .i64 c) := fun xe => xe.cell (by go_simp)
              have hk2 : ∀ xe : ExtW wz, xe.u.cell? ⟨w.heap.size, 2, none⟩ = some (.int .i64 h) := fun xe => xe.cell (by go_simp)
              have hk3 : ∀ xe : ExtW wz, xe.u.cell? ⟨w.heap.size, 3, none⟩ = some (.int .i64 s) := fun xe => xe.cell (by go_simp)
              have hk4 : ∀ xe : ExtW wz, xe.u.cell? ⟨w.heap.size + 1, 0, none⟩ = some (.int .i64 x) := fun xe => xe.cell (by go_simp)
              have hne : Nonempty (ExtW wz) := ⟨⟨_, Below.refl _ _⟩⟩
              refine wp_region_ext (by kernel_rfl) (by kernel_rfl) ?_
              repeat (quiet_step ((first | (go_at_call 125; exact ext_call (baseOf_any _ _ _ _ b HB.out _)))))
              refine wpQuiet_nil ?_
              rintro w1 ⟨⟨_, hb⟩, rfl⟩
              obtain ⟨hc, hf⟩ := bcell hb
              have hsz := hb.size
              (try simp at hsz)
              (try have hy0 : w.heap.size < w1.heap.size := by omega)
              (try have hy1 : w.heap.size + 1 < w1.heap.size := by omega)
              (try have hy2 : w.heap.size + 2 < w1.heap.size := by omega)
              (try have hyS : ws.heap.size < w1.heap.size := by omega)
              (try have hyG : wg.heap.size < w1.heap.size := by omega)
              go_wp2
              go_ret
              exact ⟨ret_bool (by rw [Bool.eq_iff_iff]; simp [exB, hin, hdz, hs, hb2]; omega), by (repeat' (first | exact Below.refl _ _ | (with_reducible assumption) | (with_reducible refine xAlloc ?_ _) | (with_reducible refine Below.drew ?_) | (with_reducible refine xDrewN ?_ _) | (with_reducible refine xThen ?_ (by with_reducible assumption)) | (with_reducible refine Below.setCell ?_ (by first | omega | (simp; omega) | simp) _)))⟩

theorem l09Base_one (p c h s : Int) (hB : Base s 1) (w : World) :
    Calls Try.prog 131 #[.agg #[.int .i64 p, .int .i64 c, .int .i64 h, .int .i64 s]] w fun e w' => e = .returned (.int .i64 1) ∧ Below w.heap.size w w' :=
  l09Base_any p c h s 1 hB w

set_option maxHeartbeats 400000 in
theorem l09Valid_any (p c h s x d : Int) (b : Nat) (hB : Base s b) (hd : I64 d) (hx : I64 x) (w : World) :
    Calls Try.prog 88 #[.agg #[.int .i64 p, .int .i64 c, .int .i64 h, .int .i64 s], .agg #[.int .i64 x, .int .i64 d]] w fun e w' => e = .returned (.bool (exB b x d)) ∧ Below w.heap.size w w' := by
  have HB := hid hB
  obtain ⟨_, _, _, b1, b2⟩ := hB
  obtain ⟨d1, d2⟩ := hd
  obtain ⟨x1, x2⟩ := hx
  by_cases hd0 : d < 0
  · go_enter Try.func88, Try.ntmps88
    go_wp2
    go_ret
    exact ⟨ret_bool (by symm; simp [exB]; omega), by (repeat' (first | exact Below.refl _ _ | (with_reducible assumption) | (with_reducible refine xAlloc ?_ _) | (with_reducible refine Below.drew ?_) | (with_reducible refine xDrewN ?_ _) | (with_reducible refine xThen ?_ (by with_reducible assumption)) | (with_reducible refine Below.setCell ?_ (by first | omega | (simp; omega) | simp) _)))⟩
  · cases hin : inB x (-1000000000000000000) 1000000000000000000
    · go_enter Try.func88, Try.ntmps88
      go_wp2_with (go_at_call 80; refine (l01In_any _ _ _ _).mono ?_; rintro e w' ⟨rfl, rfl⟩)
      go_ret
      exact ⟨ret_bool (by symm; simp [exB, hin]), by (repeat' (first | exact Below.refl _ _ | (with_reducible assumption) | (with_reducible refine xAlloc ?_ _) | (with_reducible refine Below.drew ?_) | (with_reducible refine xDrewN ?_ _) | (with_reducible refine xThen ?_ (by with_reducible assumption)) | (with_reducible refine Below.setCell ?_ (by first | omega | (simp; omega) | simp) _)))⟩
    · by_cases hdz : d = 0
      · have hdz' : (d == 0) = true := by simpa using hdz
        have HDZ := hid hdz
        clear hdz
        go_enter Try.func88, Try.ntmps88
        go_wp2_with (go_at_call 80; refine (l01In_any _ _ _ _).mono ?_; rintro e w' ⟨rfl, rfl⟩)
        go_ret
        exact ⟨ret_bool (by symm; simp [exB, hin, HDZ.out]), by (repeat' (first | exact Below.refl _ _ | (with_reducible assumption) | (with_reducible refine xAlloc ?_ _) | (with_reducible refine Below.drew ?_) | (with_reducible refine xDrewN ?_ _) | (with_reducible refine xThen ?_ (by with_reducible assumption)) | (with_reducible refine Below.setCell ?_ (by first | omega | (simp; omega) | simp) _)))⟩
      · have hdz' : (d == 0) = false := by simpa using hdz
        cases hs : sclB b d
        · go_enter Try.func88, Try.ntmps88
          go_wp2_with (first | (go_at_call 80; refine (l01In_any _ _ _ _).mono ?_; rintro e w' ⟨rfl, rfl⟩) | (go_at_call 121; refine (l09Scale_any _ _ _ _ _ b HB.out (by omega) _).mono ?_; rintro e w1 ⟨rfl, hb⟩; obtain ⟨hc, hf⟩ := bcell hb; have hsz := hb.size; (try simp at hsz); (try have hy0 : w.heap.size < w1.heap.size := by omega); (try have hy1 : w.heap.size + 1 < w1.heap.size := by omega); (try have hy2 : w.heap.size + 2 < w1.heap.size := by omega); (try have hyS : ws.heap.size < w1.heap.size := by omega); (try have hyG : wg.heap.size < w1.heap.size := by omega)))
          go_quiet (fail)
          go_wp2
          go_ret
          exact ⟨ret_bool (by symm; simp [exB, hin, hdz, hs]), by (repeat' (first | exact Below.refl _ _ | (with_reducible assumption) | (with_reducible refine xAlloc ?_ _) | (with_reducible refine Below.drew ?_) | (with_reducible refine xDrewN ?_ _) | (with_reducible refine xThen ?_ (by with_reducible assumption)) | (with_reducible refine Below.setCell ?_ (by first | omega | (simp; omega) | simp) _)))⟩
        · by_cases hb1 : (1 : Int) < (b : Int)
          · have hbz : ¬ b = 0 := by omega
            have hb2 : 2 ≤ b := by omega
            go_enter Try.func88, Try.ntmps88
            go_wp2_with (first | (go_at_call 80; refine (l01In_any _ _ _ _).mono ?_; rintro e w' ⟨rfl, rfl⟩) | (go_at_call 121; refine (l09Scale_any _ _ _ _ _ b HB.out (by omega) _).mono ?_; rintro e wz ⟨rfl, hb⟩; obtain ⟨hc, hf⟩ := bcell hb; have hsz := hb.size; (try simp at hsz); (try have hy0 : w.heap.size < wz.heap.size := by omega); (try have hy1 : w.heap.size + 1 < wz.heap.size := by omega); (try have hy2 : w.heap.size + 2 < wz.heap.size := by omega); (try have hyS : ws.heap.size < wz.heap.size := by omega); (try have hyG : wg.heap.size < wz.heap.size := by omega)))
            have hk0 : ∀ xe : ExtW wz, xe.u.cell? ⟨w.heap.size, 0, none⟩ = some (.int .i64 p) := fun xe => xe.cell (by go_simp)
            have hk1 : ∀ xe : ExtW wz, xe.u.cell? ⟨w.heap.size, 1, none⟩ = some (.int .i64 c) := fun xe => xe.cell (by go_simp)
            have hk2 : ∀ xe : ExtW wz, xe.u.cell? ⟨w.heap.size, 2, none⟩ = some (.int .i64 h) := fun xe => xe.cell (by go_simp)
            have hk3 : ∀ xe : ExtW wz, xe.u.cell? ⟨w.heap.size, 3, none⟩ = some (.int .i64 s) := fun xe => xe.cell (by go_simp)
            have hk4 : ∀ xe : ExtW wz, xe.u.cell? ⟨w.heap.size + 1, 0, none⟩ = some (.int .i64 x) := fun xe => xe.cell (by go_simp)
            have hne : Nonempty (ExtW wz) := ⟨⟨_, Below.refl _ _⟩⟩
            refine wp_region_ext (by kernel_rfl) (by kernel_rfl) ?_
            repeat (quiet_step ((first | (go_at_call 131; exact ext_call (l09Base_any _ _ _ _ b HB.out _)))))
            refine wpQuiet_nil ?_
            rintro w1 ⟨⟨_, hb⟩, rfl⟩
            obtain ⟨hc, hf⟩ := bcell hb
            have hsz := hb.size
            (try simp at hsz)
            (try have hy0 : w.heap.size < w1.heap.size := by omega)
            (try have hy1 : w.heap.size + 1 < w1.heap.size := by omega)
            (try have hy2 : w.heap.size + 2 < w1.heap.size := by omega)
            (try have hyS : ws.heap.size < w1.heap.size := by omega)
            (try have hyG : wg.heap.size < w1.heap.size := by omega)
            go_wp2
            go_ret
            exact ⟨ret_bool (by rw [Bool.eq_iff_iff]; simp [exB, hin, hdz, hs, hb2]; omega), by (repeat' (first | exact Below.refl _ _ | (with_reducible assumption) | (with_reducible refine xAlloc ?_ _) | (with_reducible refine Below.drew ?_) | (with_reducible refine xDrewN ?_ _) | (with_reducible refine xThen ?_ (by with_reducible assumption)) | (with_reducible refine Below.setCell ?_ (by first | omega | (simp; omega) | simp) _)))⟩
          · have hdec : decide ((1 : Int) < (b : Int)) = false := by simpa using hb1
            have hbn : b ≤ 1 := by omega
            have hdecN : decide (1 < b) = false := by simpa using hbn
            have HB1 := hid hb1
            clear hb1
            go_enter Try.func88, Try.ntmps88
            go_wp2_with (first | (go_at_call 80; refine (l01In_any _ _ _ _).mono ?_; rintro e w' ⟨rfl, rfl⟩) | (go_at_call 121; refine (l09Scale_any _ _ _ _ _ b HB.out (by omega) _).mono ?_; rintro e wz ⟨rfl, hb⟩; obtain ⟨hc, hf⟩ := bcell hb; have hsz := hb.size; (try simp at hsz); (try have hy0 : w.heap.size < wz.heap.size := by omega); (try have hy1 : w.heap.size + 1 < wz.heap.size := by omega); (try have hy2 : w.heap.size + 2 < wz.heap.size := by omega); (try have hyS : ws.heap.size < wz.heap.size := by omega); (try have hyG : wg.heap.size < wz.heap.size := by omega)))
            have hk0 : ∀ xe : ExtW wz, xe.u.cell? ⟨w.heap.size, 0, none⟩ = some (.int .i64 p) := fun xe => xe.cell (by go_simp)
            have hk1 : ∀ xe : ExtW wz, xe.u.cell? ⟨w.heap.size, 1, none⟩ = some (.int .i64 c) := fun xe => xe.cell (by go_simp)
            have hk2 : ∀ xe : ExtW wz, xe.u.cell? ⟨w.heap.size, 2, none⟩ = some (.int .i64 h) := fun xe => xe.cell (by go_simp)
            have hk3 : ∀ xe : ExtW wz, xe.u.cell? ⟨w.heap.size, 3, none⟩ = some (.int .i64 s) := fun xe => xe.cell (by go_simp)
            have hk4 : ∀ xe : ExtW wz, xe.u.cell? ⟨w.heap.size + 1, 0, none⟩ = some (.int .i64 x) := fun xe => xe.cell (by go_simp)
            have hne : Nonempty (ExtW wz) := ⟨⟨_, Below.refl _ _⟩⟩
            refine wp_region_ext (by kernel_rfl) (by kernel_rfl) ?_
            repeat (quiet_step ((first | (go_at_call 131; exact ext_call (l09Base_any _ _ _ _ b HB.out _)))))
            refine wpQuiet_nil ?_
            rintro w1 ⟨⟨_, hb⟩, rfl⟩
            obtain ⟨hc, hf⟩ := bcell hb
            have hsz := hb.size
            (try simp at hsz)
            (try have hy0 : w.heap.size < w1.heap.size := by omega)
            (try have hy1 : w.heap.size + 1 < w1.heap.size := by omega)
            (try have hy2 : w.heap.size + 2 < w1.heap.size := by omega)
            (try have hyS : ws.heap.size < w1.heap.size := by omega)
            (try have hyG : wg.heap.size < w1.heap.size := by omega)
            go_wp2
            go_ret
            exact ⟨ret_bool (by have := HB1.out; rw [Bool.eq_iff_iff]; simp [exB, hin, hdz]; omega), by (repeat' (first | exact Below.refl _ _ | (with_reducible assumption) | (with_reducible refine xAlloc ?_ _) | (with_reducible refine Below.drew ?_) | (with_reducible refine xDrewN ?_ _) | (with_reducible refine xThen ?_ (by with_reducible assumption)) | (with_reducible refine Below.setCell ?_ (by first | omega | (simp; omega) | simp) _)))⟩

/-- what IsExact returns -/
def isExZ (p c h s x d : Int) : Bool := varB p c h s && exB (s * s).toNat x d
theorem base_toNat {s : Int} {b : Nat} (hB : Base s b) : (s * s).toNat = b := by have := hB.2.2.1; omega

theorem implIsExact_any (p c h s x d : Int) (hd : I64 d) (hx : I64 x) (w : World) :
    Calls Try.prog 39 #[.agg #[.int .i64 p, .int .i64 c, .int .i64 h, .int .i64 s], .agg #[.int .i64 x, .int .i64 d]] w fun e w' => e = .returned (.bool (isExZ p c h s x d)) ∧ Below w.heap.size w w' := by
  cases hv : varB p c h s
  · go_enter Try.func39, Try.ntmps39
    go_wp2_with (go_at_call 74; refine (isVariant_any _ _ _ _ _).mono ?_; rintro e w1 ⟨rfl, hb⟩; obtain ⟨hc, hf⟩ := bcell hb; have hsz := hb.size; (try simp at hsz); (try have hy0 : w.heap.size < w1.heap.size := by omega); (try have hy1 : w.heap.size + 1 < w1.heap.size := by omega); (try have hy2 : w.heap.size + 2 < w1.heap.size := by omega); (try have hyS : ws.heap.size < w1.heap.size := by omega); (try have hyG : wg.heap.size < w1.heap.size := by omega))
    go_ret
    exact ⟨by simp [isExZ, hv], by (repeat' (first | exact Below.refl _ _ | (with_reducible assumption) | (with_reducible refine xAlloc ?_ _) | (with_reducible refine Below.drew ?_) | (with_reducible refine xDrewN ?_ _) | (with_reducible refine xThen ?_ (by with_reducible assumption)) | (with_reducible refine Below.setCell ?_ (by first | omega | (simp; omega) | simp) _)))⟩
  · have hr := varB_true hv
    obtain ⟨b, hB⟩ := base_of (s := s) (by omega)
    have HB := hid hB
    have HD := hid hd
    have HX := hid hx
    clear hB hd hx
    go_enter Try.func39, Try.ntmps39
    go_wp2_with (first | (go_at_call 74; refine (isVariant_any _ _ _ _ _).mono ?_; rintro e w1 ⟨rfl, hb⟩; obtain ⟨hc, hf⟩ := bcell hb; have hsz := hb.size; (try simp at hsz); (try have hy0 : w.heap.size < w1.heap.size := by omega); (try have hy1 : w.heap.size + 1 < w1.heap.size := by omega); (try have hy2 : w.heap.size + 2 < w1.heap.size := by omega); (try have hyS : ws.heap.size < w1.heap.size := by omega); (try have hyG : wg.heap.size < w1.heap.size := by omega)) | (go_at_call 91; refine (isExact_any _ _ _ _ _ _ b HB.out HD.out HX.out _).mono ?_; rintro e w1 ⟨rfl, hb⟩; obtain ⟨hc, hf⟩ := bcell hb; have hsz := hb.size; (try simp at hsz); (try have hy0 : w.heap.size < w1.heap.size := by omega); (try have hy1 : w.heap.size + 1 < w1.heap.size := by omega); (try have hy2 : w.heap.size + 2 < w1.heap.size := by omega); (try have hyS : ws.heap.size < w1.heap.size := by omega); (try have hyG : wg.heap.size < w1.heap.size := by omega)))
    go_ret
    exact ⟨by simp [isExZ, hv, base_toNat HB.out], by (repeat' (first | exact Below.refl _ _ | (with_reducible assumption) | (with_reducible refine xAlloc ?_ _) | (with_reducible refine Below.drew ?_) | (with_reducible refine xDrewN ?_ _) | (with_reducible refine xThen ?_ (by with_reducible assumption)) | (with_reducible refine Below.setCell ?_ (by first | omega | (simp; omega) | simp) _)))⟩

theorem specIsExact_any (p c h s x d : Int) (hd : I64 d) (hx : I64 x) (w : World) :
    Calls Try.prog 35 #[.agg #[.int .i64 p, .int .i64 c, .int .i64 h, .int .i64 s], .agg #[.int .i64 x, .int .i64 d]] w fun e w' => e = .returned (.bool (isExZ p c h s x d)) ∧ Below w.heap.size w w' := by
  cases hv : varB p c h s
  · go_enter Try.func35, Try.ntmps35
    go_wp2_with (go_at_call 67; refine (specIsVariant_any _ _ _ _ _).mono ?_; rintro e w1 ⟨rfl, hb⟩; obtain ⟨hc, hf⟩ := bcell hb; have hsz := hb.size; (try simp at hsz); (try have hy0 : w.heap.size < w1.heap.size := by omega); (try have hy1 : w.heap.size + 1 < w1.heap.size := by omega); (try have hy2 : w.heap.size + 2 < w1.heap.size := by omega); (try have hyS : ws.heap.size < w1.heap.size := by omega); (try have hyG : wg.heap.size < w1.heap.size := by omega))
    go_ret
    exact ⟨by simp [isExZ, hv], by (repeat' (first | exact Below.refl _ _ | (with_reducible assumption) | (with_reducible refine xAlloc ?_ _) | (with_reducible refine Below.drew ?_) | (with_reducible refine xDrewN ?_ _) | (with_reducible refine xThen ?_ (by with_reducible assumption)) | (with_reducible refine Below.setCell ?_ (by first | omega | (simp; omega) | simp) _)))⟩
  · have hr := varB_true hv
    obtain ⟨b, hB⟩ := base_of (s := s) (by omega)
    have HB := hid hB
    have HD := hid hd
    have HX := hid hx
    clear hB hd hx
    go_enter Try.func35, Try.ntmps35
    go_wp2_with (first | (go_at_call 67; refine (specIsVariant_any _ _ _ _ _).mono ?_; rintro e w1 ⟨rfl, hb⟩; obtain ⟨hc, hf⟩ := bcell hb; have hsz := hb.size; (try simp at hsz); (try have hy0 : w.heap.size < w1.heap.size := by omega); (try have hy1 : w.heap.size + 1 < w1.heap.size := by omega); (try have hy2 : w.heap.size + 2 < w1.heap.size := by omega); (try have hyS : ws.heap.size < w1.heap.size := by omega); (try have hyG : wg.heap.size < w1.heap.size := by omega)) | (go_at_call 88; refine (l09Valid_any _ _ _ _ _ _ b HB.out HD.out HX.out _).mono ?_; rintro e w1 ⟨rfl, hb⟩; obtain ⟨hc, hf⟩ := bcell hb; have hsz := hb.size; (try simp at hsz); (try have hy0 : w.heap.size < w1.heap.size := by omega); (try have hy1 : w.heap.size + 1 < w1.heap.size := by omega); (try have hy2 : w.heap.size + 2 < w1.heap.size := by omega); (try have hyS : ws.heap.size < w1.heap.size := by omega); (try have hyG : wg.heap.size < w1.heap.size := by omega)))
    go_ret
    exact ⟨by simp [isExZ, hv, base_toNat HB.out], by (repeat' (first | exact Below.refl _ _ | (with_reducible assumption) | (with_reducible refine xAlloc ?_ _) | (with_reducible refine Below.drew ?_) | (with_reducible refine xDrewN ?_ _) | (with_reducible refine xThen ?_ (by with_reducible assumption)) | (with_reducible refine Below.setCell ?_ (by first | omega | (simp; omega) | simp) _)))⟩

theorem toExact_any (x d : Int) (w : World) :
    Calls Try.prog 30 #[.agg #[.int .i64 x, .int .i64 d]] w fun e w' => e = .returned (.agg #[.int .i64 x, .int .i64 d]) ∧ Below w.heap.size w w' := by
  go_enter Try.func30, Try.ntmps30
  go_wp2
  go_returns
  exact ⟨rfl, by (repeat' (first | exact Below.refl _ _ | (with_reducible assumption) | (with_reducible refine xAlloc ?_ _) | (with_reducible refine Below.drew ?_) | (with_reducible refine xDrewN ?_ _) | (with_reducible refine xThen ?_ (by with_reducible assumption)) | (with_reducible refine Below.setCell ?_ (by first | omega | (simp; omega) | simp) _)))⟩

end Go.Proofs.Ytmcjabodkjlkgaa
