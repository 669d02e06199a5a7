/-
  Contracts of both AddExact functions, for every variant and two numbers.
-/
import Derived.Test.YtdifaojcjcnokaaAdd4
namespace Go.Proofs.Ytdifaojcjcnokaa
open Go.RowKit

theorem ExsAt.two_at (g : Nat) (w : World) (x d y f : Int) (t : TypeId) (cap : Nat) (hg : g = w.heap.size) : ExsAt (w.alloc (.cells #[.int .i64 x, .int .i64 d, .int .i64 y, .int .i64 f] t)) (.slice (some ⟨g, 0, none⟩) 2 cap) [(x, d), (y, f)] := by
  subst hg; exact ExsAt.two w x d y f t cap
theorem ExsAt.one_at (g : Nat) (w : World) (x d : Int) (t : TypeId) (cap : Nat) (hg : g = w.heap.size) : ExsAt (w.alloc (.cells #[.int .i64 x, .int .i64 d] t)) (.slice (some ⟨g, 0, none⟩) 1 cap) [(x, d)] := by
  subst hg; exact ExsAt.one w x d t cap

theorem exB_true {b : Nat} {x d : Int} (h : exB b x d = true) : 0 ≤ d ∧ d ≤ 60 ∧ x.natAbs ≤ 1000000000000000000 ∧ b ^ d.toNat ≤ 1000000000000000 ∧ (d.toNat = 0 ∨ x.tmod b ≠ 0) := by
  simp only [exB, Bool.and_eq_true, Bool.or_eq_true, decide_eq_true_eq] at h
  obtain ⟨⟨h0, h1⟩, h2⟩ := h
  have h1' := inB_true h1
  rcases h2 with h2 | ⟨⟨h2, h3⟩, h4⟩
  · subst h2; simp; omega
  · have := exB_deep h2 h3
    have hp := scl_pow h3
    exact ⟨h0, this, by omega, hp, .inr h4⟩

theorem addExact_any (p c h s x y : Int) (b dx dy : Nat) (hBs : Base s b) (hx : exB b x dx = true) (hy : exB b y dy = true) (w : World) :
    Calls Try.prog 77 #[.agg #[.int .i64 p, .int .i64 c, .int .i64 h, .int .i64 s], .agg #[.int .i64 x, .int .i64 dx], .agg #[.int .i64 y, .int .i64 dy]] w fun e w' =>
      e = .returned (.tuple #[.agg #[.int .i64 (addN b x y dx dy), .int .i64 (addD b x y dx dy)], .bool (addOk b x y dx dy)]) ∧ Below w.heap.size w w' := by
  obtain ⟨_, hx2, hx3, hx4, hx5⟩ := exB_true hx
  obtain ⟨_, hy2, hy3, hy4, hy5⟩ := exB_true hy
  rw [Int.toNat_natCast] at hx4 hx5 hy4 hy5
  by_cases hle : dx ≤ dy
  · have := addExact_lo p c h s x y b dx dy hBs hle hx3 hy3 hy5 hy4 (by omega) w
    simpa only [addN, addD, addOk, if_pos hle] using this
  · have := addExact_hi p c h s y x b dy dx hBs (by omega) hy3 hx3 hx5 hx4 (by omega) w
    simpa only [addN, addD, addOk, if_neg hle] using this

theorem l09Add_any (p c h s x y : Int) (b dx dy : Nat) (hBs : Base s b) (hx : exB b x dx = true) (hy : exB b y dy = true) (w : World) :
    Calls Try.prog 76 #[.agg #[.int .i64 p, .int .i64 c, .int .i64 h, .int .i64 s], .agg #[.int .i64 x, .int .i64 dx], .agg #[.int .i64 y, .int .i64 dy]] w fun e w' =>
      e = .returned (.tuple #[.agg #[.int .i64 (addN b x y dx dy), .int .i64 (addD b x y dx dy)], .bool (addOk b x y dx dy)]) ∧ Below w.heap.size w w' := by
  obtain ⟨_, hx2, hx3, hx4, hx5⟩ := exB_true hx
  obtain ⟨_, hy2, hy3, hy4, hy5⟩ := exB_true hy
  rw [Int.toNat_natCast] at hx4 hx5 hy4 hy5
  by_cases hle : dx ≤ dy
  · have := l09Add_lo p c h s x y b dx dy hBs hle hx3 hy3 hy4 (by omega) w
    simpa only [addN, addD, addOk, if_pos hle] using this
  · have := l09Add_hi p c h s y x b dy dx hBs (by omega) hy3 hx3 hx4 (by omega) w
    simpa only [addN, addD, addOk, if_neg hle] using this

def addCode (p c h s x dx y dy : Int) : Int := if code2 p c h s x dx y dy = 0 then (if addOk (s * s).toNat x y dx.toNat dy.toNat then 0 else 3) else code2 p c h s x dx y dy
def addZN (p c h s x dx y dy : Int) : Int := if addCode p c h s x dx y dy = 0 then addN (s * s).toNat x y dx.toNat dy.toNat else 0
def addZD (p c h s x dx y dy : Int) : Int := if addCode p c h s x dx y dy = 0 then addD (s * s).toNat x y dx.toNat dy.toNat else 0

theorem code2_cases (p c h s x dx y dy : Int) : (code2 p c h s x dx y dy = 1 ∨ code2 p c h s x dx y dy = 2) ∨ (code2 p c h s x dx y dy = 0 ∧ varB p c h s = true ∧ exB (s * s).toNat x dx = true ∧ exB (s * s).toNat y dy = true) := by
  unfold code2
  cases varB p c h s <;> cases exB (s * s).toNat x dx <;> cases exB (s * s).toNat y dy <;> simp

theorem addN_no {b : Nat} {x y : Int} {dx dy : Nat} (h : addOk b x y dx dy = false) : addN b x y dx dy = 0 ∧ addD b x y dx dy = 0 := by
  unfold addOk at h
  unfold addN addD
  split at h
  · next hh => rw [if_pos hh, if_pos hh]; simp [add1N, add1D, h]
  · next hh => rw [if_neg hh, if_neg hh]; simp [add1N, add1D, h]

set_option maxHeartbeats 800000 in
theorem implAdd_any (p c h s x dx y dy : Int) (hx : I64 x) (hdx : I64 dx) (hy : I64 y) (hdy : I64 dy) (w : World) :
    Calls Try.prog 41 #[.agg #[.int .i64 p, .int .i64 c, .int .i64 h, .int .i64 s], .agg #[.int .i64 x, .int .i64 dx], .agg #[.int .i64 y, .int .i64 dy]] w fun e w' =>
      e = .returned (.tuple #[.agg #[.int .i64 (addZN p c h s x dx y dy), .int .i64 (addZD p c h s x dx y dy)], .int .i64 (addCode p c h s x dx y dy)]) ∧ Below w.heap.size w w' := by
  have HI := hid (exI_two hx hdx hy hdy)
  clear hx hdx hy hdy
  rcases code2_cases p c h s x dx y dy with hc | ⟨hc, hv, h1, h2⟩
  · have hn : (code2 p c h s x dx y dy != 0) = true := by simp; omega
    have HC := hid hc
    clear hc
    go_enter Try.func41, Try.ntmps41
    go_wp2_with fail
    refine (checkExs_any p c h s _ [(x, dx), (y, dy)] _ (ExsAt.two_at _ _ _ _ _ _ _ _ (by simp)) HI.out).mono ?_
    rw [code2_eq]
    rintro e w1 ⟨rfl, hb⟩
    obtain ⟨hc, hf⟩ := bcell hb
    have hsz := hb.size
    (try simp at hsz)
    (try have hy0 : w.heap.size < w1.heap.size := by omega)
    (try have hy1 : w.heap.size + 1 < w1.heap.size := by omega)
    (try have hy2 : w.heap.size + 2 < w1.heap.size := by omega)
    (try have hyS : ws.heap.size < w1.heap.size := by omega)
    (try have hyG : wg.heap.size < w1.heap.size := by omega)
    (try have hy3 : w.heap.size + 3 < w1.heap.size := by omega)
    go_wp2
    have r0 : w1.cell? ⟨w.heap.size + 3, 0, none⟩ = some (.int .i64 0) := by go_simp
    have r1 : w1.cell? ⟨w.heap.size + 3, 1, none⟩ = some (.int .i64 0) := by go_simp
    have rne : ¬ w.heap.size + 3 = w1.heap.size := by omega
    refine bodyPost_ret (v := .tuple #[.agg #[.int .i64 (0), .int .i64 (0)], .int .i64 (code2 p c h s x dx y dy)]) (by simp only [results, Try.results41]; go_simp) rfl ?_
    exact ⟨by have := HC.out; have h3 : ¬ code2 p c h s x dx y dy = 0 := by {omega}
              simp [addZN, addZD, addCode, h3], by (repeat' (first | exact Below.refl _ _ | (with_reducible assumption) | (with_reducible refine xAlloc ?_ _) | (with_reducible refine Below.drew ?_) | (with_reducible refine xDrewN ?_ _) | (with_reducible refine xThen ?_ (by with_reducible assumption)) | (with_reducible refine Below.setCell ?_ (by first | omega | (simp; omega) | simp) _)))⟩
  · have hn : (code2 p c h s x dx y dy != 0) = false := by simp [hc]
    have hr := varB_true hv
    obtain ⟨b, hB⟩ := base_of (s := s) (by omega)
    have HB := hid hB
    have hbs := base_toNat hB
    rw [hbs] at h1 h2
    have HBS := hid hbs
    have ht1 := exB_true h1
    have ht2 := exB_true h2
    obtain ⟨dx, rfl⟩ := Int.eq_ofNat_of_zero_le (a := dx) ht1.1
    obtain ⟨dy, rfl⟩ := Int.eq_ofNat_of_zero_le (a := dy) ht2.1
    have HC := hid hc
    have H1 := hid h1
    have H2 := hid h2
    clear hB hbs ht1 ht2 hc h1 h2
    cases hok : addOk b x y dx dy
    · go_enter Try.func41, Try.ntmps41
      go_wp2_with fail
      refine (checkExs_any p c h s _ [(x, (dx : Int)), (y, (dy : Int))] _ (ExsAt.two_at _ _ _ _ _ _ _ _ (by simp)) HI.out).mono ?_
      rw [code2_eq]
      rintro e w1 ⟨rfl, hb⟩
      obtain ⟨hc, hf⟩ := bcell hb
      have hsz := hb.size
      (try simp at hsz)
      (try have hy0 : w.heap.size < w1.heap.size := by omega)
      (try have hy1 : w.heap.size + 1 < w1.heap.size := by omega)
      (try have hy2 : w.heap.size + 2 < w1.heap.size := by omega)
      (try have hyS : ws.heap.size < w1.heap.size := by omega)
      (try have hyG : wg.heap.size < w1.heap.size := by omega)
      (try have hy3 : w.heap.size + 3 < w1.heap.size := by omega)
      go_wp2_with (go_at_call 77; refine (addExact_any _ _ _ _ _ _ b dx dy HB.out H1.out H2.out _).mono ?_; rintro e w1 ⟨rfl, hb⟩; obtain ⟨hc, hf⟩ := bcell hb; have hsz := hb.size; (try simp at hsz); (try have hy0 : w.heap.size < w1.heap.size := by omega); (try have hy1 : w.heap.size + 1 < w1.heap.size := by omega); (try have hy2 : w.heap.size + 2 < w1.heap.size := by omega); (try have hyS : ws.heap.size < w1.heap.size := by omega); (try have hyG : wg.heap.size < w1.heap.size := by omega); (try have hy3 : w.heap.size + 3 < w1.heap.size := by omega))
      have r0 : w1.cell? ⟨w.heap.size + 3, 0, none⟩ = some (.int .i64 0) := by go_simp
      have r1 : w1.cell? ⟨w.heap.size + 3, 1, none⟩ = some (.int .i64 0) := by go_simp
      have rne : ¬ w.heap.size + 3 = w1.heap.size := by omega
      refine bodyPost_ret (v := .tuple #[.agg #[.int .i64 (0), .int .i64 (0)], .int .i64 3]) (by simp only [results, Try.results41]; go_simp) rfl ?_
      exact ⟨by simp [addZN, addZD, addCode, HC.out, HBS.out, hok], by (repeat' (first | exact Below.refl _ _ | (with_reducible assumption) | (with_reducible refine xAlloc ?_ _) | (with_reducible refine Below.drew ?_) | (with_reducible refine xDrewN ?_ _) | (with_reducible refine xThen ?_ (by with_reducible assumption)) | (with_reducible refine Below.setCell ?_ (by first | omega | (simp; omega) | simp) _)))⟩
    · go_enter Try.func41, Try.ntmps41
      go_wp2_with fail
      refine (checkExs_any p c h s _ [(x, (dx : Int)), (y, (dy : Int))] _ (ExsAt.two_at _ _ _ _ _ _ _ _ (by simp)) HI.out).mono ?_
      rw [code2_eq]
      rintro e w1 ⟨rfl, hb⟩
      obtain ⟨hc, hf⟩ := bcell hb
      have hsz := hb.size
      (try simp at hsz)
      (try have hy0 : w.heap.size < w1.heap.size := by omega)
      (try have hy1 : w.heap.size + 1 < w1.heap.size := by omega)
      (try have hy2 : w.heap.size + 2 < w1.heap.size := by omega)
      (try have hyS : ws.heap.size < w1.heap.size := by omega)
      (try have hyG : wg.heap.size < w1.heap.size := by omega)
      (try have hy3 : w.heap.size + 3 < w1.heap.size := by omega)
      go_wp2_with (go_at_call 77; refine (addExact_any _ _ _ _ _ _ b dx dy HB.out H1.out H2.out _).mono ?_; rintro e w1 ⟨rfl, hb⟩; obtain ⟨hc, hf⟩ := bcell hb; have hsz := hb.size; (try simp at hsz); (try have hy0 : w.heap.size < w1.heap.size := by omega); (try have hy1 : w.heap.size + 1 < w1.heap.size := by omega); (try have hy2 : w.heap.size + 2 < w1.heap.size := by omega); (try have hyS : ws.heap.size < w1.heap.size := by omega); (try have hyG : wg.heap.size < w1.heap.size := by omega); (try have hy3 : w.heap.size + 3 < w1.heap.size := by omega))
      have r0 : w1.cell? ⟨w.heap.size + 3, 0, none⟩ = some (.int .i64 0) := by go_simp
      have r1 : w1.cell? ⟨w.heap.size + 3, 1, none⟩ = some (.int .i64 0) := by go_simp
      have rne : ¬ w.heap.size + 3 = w1.heap.size := by omega
      refine bodyPost_ret (v := .tuple #[.agg #[.int .i64 (addN b x y dx dy), .int .i64 (addD b x y dx dy)], .int .i64 0]) (by simp only [results, Try.results41]; go_simp) rfl ?_
      exact ⟨by simp [addZN, addZD, addCode, HC.out, HBS.out, hok], by (repeat' (first | exact Below.refl _ _ | (with_reducible assumption) | (with_reducible refine xAlloc ?_ _) | (with_reducible refine Below.drew ?_) | (with_reducible refine xDrewN ?_ _) | (with_reducible refine xThen ?_ (by with_reducible assumption)) | (with_reducible refine Below.setCell ?_ (by first | omega | (simp; omega) | simp) _)))⟩
set_option maxHeartbeats 800000 in
theorem specAdd_any (p c h s x dx y dy : Int) (hx : I64 x) (hdx : I64 dx) (hy : I64 y) (hdy : I64 dy) (w : World) :
    Calls Try.prog 40 #[.agg #[.int .i64 p, .int .i64 c, .int .i64 h, .int .i64 s], .agg #[.int .i64 x, .int .i64 dx], .agg #[.int .i64 y, .int .i64 dy]] w fun e w' =>
      e = .returned (.tuple #[.agg #[.int .i64 (addZN p c h s x dx y dy), .int .i64 (addZD p c h s x dx y dy)], .int .i64 (addCode p c h s x dx y dy)]) ∧ Below w.heap.size w w' := by
  have HX := hid hx
  have HDX := hid hdx
  have HY := hid hy
  have HDY := hid hdy
  clear hx hdx hy hdy
  rcases code2_cases p c h s x dx y dy with hc | ⟨hc, hv, h1, h2⟩
  · have hn : (code2 p c h s x dx y dy != 0) = true := by simp; omega
    have HC := hid hc
    clear hc
    go_enter Try.func40, Try.ntmps40
    go_wp2_with fail
    refine (l09Code_any p c h s x _ y _ HX.out HDX.out HY.out HDY.out _).mono ?_
    rintro e w1 ⟨rfl, hb⟩
    obtain ⟨hc, hf⟩ := bcell hb
    have hsz := hb.size
    (try simp at hsz)
    (try have hy0 : w.heap.size < w1.heap.size := by omega)
    (try have hy1 : w.heap.size + 1 < w1.heap.size := by omega)
    (try have hy2 : w.heap.size + 2 < w1.heap.size := by omega)
    (try have hyS : ws.heap.size < w1.heap.size := by omega)
    (try have hyG : wg.heap.size < w1.heap.size := by omega)
    (try have hy3 : w.heap.size + 3 < w1.heap.size := by omega)
    go_wp2
    have r0 : w1.cell? ⟨w.heap.size + 3, 0, none⟩ = some (.int .i64 0) := by go_simp
    have r1 : w1.cell? ⟨w.heap.size + 3, 1, none⟩ = some (.int .i64 0) := by go_simp
    have rne : ¬ w.heap.size + 3 = w1.heap.size := by omega
    refine bodyPost_ret (v := .tuple #[.agg #[.int .i64 (0), .int .i64 (0)], .int .i64 (code2 p c h s x dx y dy)]) (by simp only [results, Try.results40]; go_simp) rfl ?_
    exact ⟨by have := HC.out; have h3 : ¬ code2 p c h s x dx y dy = 0 := by {omega}
              simp [addZN, addZD, addCode, h3], by (repeat' (first | exact Below.refl _ _ | (with_reducible assumption) | (with_reducible refine xAlloc ?_ _) | (with_reducible refine Below.drew ?_) | (with_reducible refine xDrewN ?_ _) | (with_reducible refine xThen ?_ (by with_reducible assumption)) | (with_reducible refine Below.setCell ?_ (by first | omega | (simp; omega) | simp) _)))⟩
  · have hn : (code2 p c h s x dx y dy != 0) = false := by simp [hc]
    have hr := varB_true hv
    obtain ⟨b, hB⟩ := base_of (s := s) (by omega)
    have HB := hid hB
    have hbs := base_toNat hB
    rw [hbs] at h1 h2
    have HBS := hid hbs
    have ht1 := exB_true h1
    have ht2 := exB_true h2
    obtain ⟨dx, rfl⟩ := Int.eq_ofNat_of_zero_le (a := dx) ht1.1
    obtain ⟨dy, rfl⟩ := Int.eq_ofNat_of_zero_le (a := dy) ht2.1
    have HC := hid hc
    have H1 := hid h1
    have H2 := hid h2
    clear hB hbs ht1 ht2 hc h1 h2
    cases hok : addOk b x y dx dy
    · go_enter Try.func40, Try.ntmps40
      go_wp2_with fail
      refine (l09Code_any p c h s x _ y _ HX.out HDX.out HY.out HDY.out _).mono ?_
      rintro e w1 ⟨rfl, hb⟩
      obtain ⟨hc, hf⟩ := bcell hb
      have hsz := hb.size
      (try simp at hsz)
      (try have hy0 : w.heap.size < w1.heap.size := by omega)
      (try have hy1 : w.heap.size + 1 < w1.heap.size := by omega)
      (try have hy2 : w.heap.size + 2 < w1.heap.size := by omega)
      (try have hyS : ws.heap.size < w1.heap.size := by omega)
      (try have hyG : wg.heap.size < w1.heap.size := by omega)
      (try have hy3 : w.heap.size + 3 < w1.heap.size := by omega)
      go_wp2_with (go_at_call 76; refine (l09Add_any _ _ _ _ _ _ b dx dy HB.out H1.out H2.out _).mono ?_; rintro e w1 ⟨rfl, hb⟩; obtain ⟨hc, hf⟩ := bcell hb; have hsz := hb.size; (try simp at hsz); (try have hy0 : w.heap.size < w1.heap.size := by omega); (try have hy1 : w.heap.size + 1 < w1.heap.size := by omega); (try have hy2 : w.heap.size + 2 < w1.heap.size := by omega); (try have hyS : ws.heap.size < w1.heap.size := by omega); (try have hyG : wg.heap.size < w1.heap.size := by omega); (try have hy3 : w.heap.size + 3 < w1.heap.size := by omega))
      have r0 : w1.cell? ⟨w.heap.size + 3, 0, none⟩ = some (.int .i64 0) := by go_simp
      have r1 : w1.cell? ⟨w.heap.size + 3, 1, none⟩ = some (.int .i64 0) := by go_simp
      have rne : ¬ w.heap.size + 3 = w1.heap.size := by omega
      refine bodyPost_ret (v := .tuple #[.agg #[.int .i64 (0), .int .i64 (0)], .int .i64 3]) (by simp only [results, Try.results40]; go_simp) rfl ?_
      exact ⟨by simp [addZN, addZD, addCode, HC.out, HBS.out, hok], by (repeat' (first | exact Below.refl _ _ | (with_reducible assumption) | (with_reducible refine xAlloc ?_ _) | (with_reducible refine Below.drew ?_) | (with_reducible refine xDrewN ?_ _) | (with_reducible refine xThen ?_ (by with_reducible assumption)) | (with_reducible refine Below.setCell ?_ (by first | omega | (simp; omega) | simp) _)))⟩
    · go_enter Try.func40, Try.ntmps40
      go_wp2_with fail
      refine (l09Code_any p c h s x _ y _ HX.out HDX.out HY.out HDY.out _).mono ?_
      rintro e w1 ⟨rfl, hb⟩
      obtain ⟨hc, hf⟩ := bcell hb
      have hsz := hb.size
      (try simp at hsz)
      (try have hy0 : w.heap.size < w1.heap.size := by omega)
      (try have hy1 : w.heap.size + 1 < w1.heap.size := by omega)
      (try have hy2 : w.heap.size + 2 < w1.heap.size := by omega)
      (try have hyS : ws.heap.size < w1.heap.size := by omega)
      (try have hyG : wg.heap.size < w1.heap.size := by omega)
      (try have hy3 : w.heap.size + 3 < w1.heap.size := by omega)
      go_wp2_with (go_at_call 76; refine (l09Add_any _ _ _ _ _ _ b dx dy HB.out H1.out H2.out _).mono ?_; rintro e w1 ⟨rfl, hb⟩; obtain ⟨hc, hf⟩ := bcell hb; have hsz := hb.size; (try simp at hsz); (try have hy0 : w.heap.size < w1.heap.size := by omega); (try have hy1 : w.heap.size + 1 < w1.heap.size := by omega); (try have hy2 : w.heap.size + 2 < w1.heap.size := by omega); (try have hyS : ws.heap.size < w1.heap.size := by omega); (try have hyG : wg.heap.size < w1.heap.size := by omega); (try have hy3 : w.heap.size + 3 < w1.heap.size := by omega))
      have r0 : w1.cell? ⟨w.heap.size + 3, 0, none⟩ = some (.int .i64 0) := by go_simp
      have r1 : w1.cell? ⟨w.heap.size + 3, 1, none⟩ = some (.int .i64 0) := by go_simp
      have rne : ¬ w.heap.size + 3 = w1.heap.size := by omega
      refine bodyPost_ret (v := .tuple #[.agg #[.int .i64 (addN b x y dx dy), .int .i64 (addD b x y dx dy)], .int .i64 0]) (by simp only [results, Try.results40]; go_simp) rfl ?_
      exact ⟨by simp [addZN, addZD, addCode, HC.out, HBS.out, hok], by (repeat' (first | exact Below.refl _ _ | (with_reducible assumption) | (with_reducible refine xAlloc ?_ _) | (with_reducible refine Below.drew ?_) | (with_reducible refine xDrewN ?_ _) | (with_reducible refine xThen ?_ (by with_reducible assumption)) | (with_reducible refine Below.setCell ?_ (by first | omega | (simp; omega) | simp) _)))⟩
end Go.Proofs.Ytdifaojcjcnokaa
