/-
  Contracts of both ScaleExact functions and the law over them: it returns true for every variant, number and factor; no condition.
-/
import Derived.Test.YtmcjabodkjlkgaaMulS
namespace Go.Proofs.Ytmcjabodkjlkgaa
open Go.RowKit

def scaleCode (p c h s x d k : Int) : Int := if code2 p c h s x d x d = 0 then (if inB k (-1000) 1000 then (if fitOk (s * s).toNat d.toNat (x * k) then 0 else 3) else 2) else code2 p c h s x d x d
def scaleN (p c h s x d k : Int) : Int := if scaleCode p c h s x d k = 0 then mulN (s * s).toNat d.toNat (x * k) else 0
def scaleD (p c h s x d k : Int) : Int := if scaleCode p c h s x d k = 0 then mulD (s * s).toNat d.toNat (x * k) else 0

set_option maxHeartbeats 2000000 in
theorem implScale_any (p c h s x dx k : Int) (hx : I64 x) (hdx : I64 dx) (w : World) :
    Calls Try.prog 31 #[.agg #[.int .i64 p, .int .i64 c, .int .i64 h, .int .i64 s], .agg #[.int .i64 x, .int .i64 dx], .int .i64 k] w fun e w' =>
      e = .returned (.tuple #[.agg #[.int .i64 (scaleN p c h s x dx k), .int .i64 (scaleD p c h s x dx k)], .int .i64 (scaleCode p c h s x dx k)]) ∧ Below w.heap.size w w' := by
  have HI := hid (exI_one hx hdx)
  have HX := hid hx
  have HDX := hid hdx
  clear hx hdx
  rcases code2_cases p c h s x dx x dx with hc | ⟨hc, hv, h1, _⟩
  · have hn : (code2 p c h s x dx x dx != 0) = true := by simp; omega
    have HC := hid hc
    clear hc
    go_enter Try.func31, Try.ntmps31
    go_wp2_with fail
    refine (checkExs_any p c h s _ [(x, dx)] _ (ExsAt.one_at _ _ _ _ _ _ (by simp)) HI.out).mono ?_
    rw [code1_eq]
    rintro e w1 ⟨rfl, hb⟩
    obtain ⟨hc, hf⟩ := bcell hb
    have hsz := hb.size
    (try simp at hsz)
    (try have hy0 : w.heap.size < w1.heap.size := by omega)
    (try have hy1 : w.heap.size + 1 < w1.heap.size := by omega)
    (try have hy2 : w.heap.size + 2 < w1.heap.size := by omega)
    (try have hyS : ws.heap.size < w1.heap.size := by omega)
    (try have hyG : wg.heap.size < w1.heap.size := by omega)
    (try have hy3 : w.heap.size + 3 < w1.heap.size := by omega)
    go_wp2
    have r0 : w1.cell? ⟨w.heap.size + 2, 0, none⟩ = some (.int .i64 0) := by go_simp
    have r1 : w1.cell? ⟨w.heap.size + 2, 1, none⟩ = some (.int .i64 0) := by go_simp
    have rne : ¬ w.heap.size + 2 = w1.heap.size := by omega
    refine bodyPost_ret (v := .tuple #[.agg #[.int .i64 (0), .int .i64 (0)], .int .i64 (code2 p c h s x dx x dx)]) (by simp only [results, Try.results31]; go_simp) rfl ?_
    exact ⟨by have := HC.out; have h3 : ¬ code2 p c h s x dx x dx = 0 := by {omega}
              simp [scaleN, scaleD, scaleCode, h3], by (repeat' (first | exact Below.refl _ _ | (with_reducible assumption) | (with_reducible refine xAlloc ?_ _) | (with_reducible refine Below.drew ?_) | (with_reducible refine xDrewN ?_ _) | (with_reducible refine xThen ?_ (by with_reducible assumption)) | (with_reducible refine Below.setCell ?_ (by first | omega | (simp; omega) | simp) _)))⟩
  · have hn : (code2 p c h s x dx x dx != 0) = false := by simp [hc]
    have hr := varB_true hv
    obtain ⟨b, hB⟩ := base_of (s := s) (by omega)
    have HB := hid hB
    have hbs := base_toNat hB
    rw [hbs] at h1
    have HBS := hid hbs
    have ht1 := exB_true h1
    obtain ⟨dx, rfl⟩ := Int.eq_ofNat_of_zero_le (a := dx) ht1.1
    have HC := hid hc
    have H1 := hid h1
    clear hB hbs ht1 hc h1
    cases hin : inB k (-1000) 1000
    · go_enter Try.func31, Try.ntmps31
      go_wp2_with fail
      refine (checkExs_any p c h s _ [(x, (dx : Int))] _ (ExsAt.one_at _ _ _ _ _ _ (by simp)) HI.out).mono ?_
      rw [code1_eq]
      rintro e w1 ⟨rfl, hb⟩
      obtain ⟨hc, hf⟩ := bcell hb
      have hsz := hb.size
      (try simp at hsz)
      (try have hy0 : w.heap.size < w1.heap.size := by omega)
      (try have hy1 : w.heap.size + 1 < w1.heap.size := by omega)
      (try have hy2 : w.heap.size + 2 < w1.heap.size := by omega)
      (try have hyS : ws.heap.size < w1.heap.size := by omega)
      (try have hyG : wg.heap.size < w1.heap.size := by omega)
      (try have hy3 : w.heap.size + 3 < w1.heap.size := by omega)
      go_wp2_with (go_at_call 83; (with_reducible refine (within_any _ _ _ _).mono ?_); rintro e w' ⟨rfl, rfl⟩)
      have r0 : w1.cell? ⟨w.heap.size + 2, 0, none⟩ = some (.int .i64 0) := by go_simp
      have r1 : w1.cell? ⟨w.heap.size + 2, 1, none⟩ = some (.int .i64 0) := by go_simp
      have rne : ¬ w.heap.size + 2 = w1.heap.size := by omega
      refine bodyPost_ret (v := .tuple #[.agg #[.int .i64 (0), .int .i64 (0)], .int .i64 2]) (by simp only [results, Try.results31]; go_simp) rfl ?_
      exact ⟨by simp [scaleN, scaleD, scaleCode, HC.out, hin], by (repeat' (first | exact Below.refl _ _ | (with_reducible assumption) | (with_reducible refine xAlloc ?_ _) | (with_reducible refine Below.drew ?_) | (with_reducible refine xDrewN ?_ _) | (with_reducible refine xThen ?_ (by with_reducible assumption)) | (with_reducible refine Below.setCell ?_ (by first | omega | (simp; omega) | simp) _)))⟩
    · have hin' := inB_true hin
      cases hok : fitOk b dx (x * k)
      · have HO := hid hok
        go_enter Try.func31, Try.ntmps31
        go_wp2_with fail
        refine (checkExs_any p c h s _ [(x, (dx : Int))] _ (ExsAt.one_at _ _ _ _ _ _ (by simp)) HI.out).mono ?_
        rw [code1_eq]
        rintro e w1 ⟨rfl, hb⟩
        obtain ⟨hc, hf⟩ := bcell hb
        have hsz := hb.size
        (try simp at hsz)
        (try have hy0 : w.heap.size < w1.heap.size := by omega)
        (try have hy1 : w.heap.size + 1 < w1.heap.size := by omega)
        (try have hy2 : w.heap.size + 2 < w1.heap.size := by omega)
        (try have hyS : ws.heap.size < w1.heap.size := by omega)
        (try have hyG : wg.heap.size < w1.heap.size := by omega)
        (try have hy3 : w.heap.size + 3 < w1.heap.size := by omega)
        go_wp2_with (first | (go_at_call 83; (with_reducible refine (within_any _ _ _ _).mono ?_); rintro e w' ⟨rfl, rfl⟩) | (go_at_call 84; refine (scaleEx_any _ _ _ _ _ _ b dx HB.out H1.out (by omega) _).mono ?_; rintro e w1 ⟨rfl, hb⟩; obtain ⟨hc, hf⟩ := bcell hb; have hsz := hb.size; (try simp at hsz); (try have hy0 : w.heap.size < w1.heap.size := by omega); (try have hy1 : w.heap.size + 1 < w1.heap.size := by omega); (try have hy2 : w.heap.size + 2 < w1.heap.size := by omega); (try have hyS : ws.heap.size < w1.heap.size := by omega); (try have hyG : wg.heap.size < w1.heap.size := by omega); (try have hy3 : w.heap.size + 3 < w1.heap.size := by omega)))
        have r0 : w1.cell? ⟨w.heap.size + 2, 0, none⟩ = some (.int .i64 0) := by go_simp
        have r1 : w1.cell? ⟨w.heap.size + 2, 1, none⟩ = some (.int .i64 0) := by go_simp
        have rne : ¬ w.heap.size + 2 = w1.heap.size := by omega
        refine bodyPost_ret (v := .tuple #[.agg #[.int .i64 (0), .int .i64 (0)], .int .i64 3]) (by simp only [results, Try.results31]; go_simp) rfl ?_
        exact ⟨by simp [scaleN, scaleD, scaleCode, HC.out, HBS.out, HO.out, hin], by (repeat' (first | exact Below.refl _ _ | (with_reducible assumption) | (with_reducible refine xAlloc ?_ _) | (with_reducible refine Below.drew ?_) | (with_reducible refine xDrewN ?_ _) | (with_reducible refine xThen ?_ (by with_reducible assumption)) | (with_reducible refine Below.setCell ?_ (by first | omega | (simp; omega) | simp) _)))⟩
      · have HO := hid hok
        go_enter Try.func31, Try.ntmps31
        go_wp2_with fail
        refine (checkExs_any p c h s _ [(x, (dx : Int))] _ (ExsAt.one_at _ _ _ _ _ _ (by simp)) HI.out).mono ?_
        rw [code1_eq]
        rintro e w1 ⟨rfl, hb⟩
        obtain ⟨hc, hf⟩ := bcell hb
        have hsz := hb.size
        (try simp at hsz)
        (try have hy0 : w.heap.size < w1.heap.size := by omega)
        (try have hy1 : w.heap.size + 1 < w1.heap.size := by omega)
        (try have hy2 : w.heap.size + 2 < w1.heap.size := by omega)
        (try have hyS : ws.heap.size < w1.heap.size := by omega)
        (try have hyG : wg.heap.size < w1.heap.size := by omega)
        (try have hy3 : w.heap.size + 3 < w1.heap.size := by omega)
        go_wp2_with (first | (go_at_call 83; (with_reducible refine (within_any _ _ _ _).mono ?_); rintro e w' ⟨rfl, rfl⟩) | (go_at_call 84; refine (scaleEx_any _ _ _ _ _ _ b dx HB.out H1.out (by omega) _).mono ?_; rintro e w1 ⟨rfl, hb⟩; obtain ⟨hc, hf⟩ := bcell hb; have hsz := hb.size; (try simp at hsz); (try have hy0 : w.heap.size < w1.heap.size := by omega); (try have hy1 : w.heap.size + 1 < w1.heap.size := by omega); (try have hy2 : w.heap.size + 2 < w1.heap.size := by omega); (try have hyS : ws.heap.size < w1.heap.size := by omega); (try have hyG : wg.heap.size < w1.heap.size := by omega); (try have hy3 : w.heap.size + 3 < w1.heap.size := by omega)))
        have r0 : w1.cell? ⟨w.heap.size + 2, 0, none⟩ = some (.int .i64 0) := by go_simp
        have r1 : w1.cell? ⟨w.heap.size + 2, 1, none⟩ = some (.int .i64 0) := by go_simp
        have rne : ¬ w.heap.size + 2 = w1.heap.size := by omega
        refine bodyPost_ret (v := .tuple #[.agg #[.int .i64 (mulN b dx (x * k)), .int .i64 (mulD b dx (x * k))], .int .i64 0]) (by simp only [results, Try.results31]; go_simp) rfl ?_
        exact ⟨by simp [scaleN, scaleD, scaleCode, HC.out, HBS.out, HO.out, hin], by (repeat' (first | exact Below.refl _ _ | (with_reducible assumption) | (with_reducible refine xAlloc ?_ _) | (with_reducible refine Below.drew ?_) | (with_reducible refine xDrewN ?_ _) | (with_reducible refine xThen ?_ (by with_reducible assumption)) | (with_reducible refine Below.setCell ?_ (by first | omega | (simp; omega) | simp) _)))⟩

set_option maxHeartbeats 2000000 in
theorem specScale_any (p c h s x dx k : Int) (hx : I64 x) (hdx : I64 dx) (w : World) :
    Calls Try.prog 29 #[.agg #[.int .i64 p, .int .i64 c, .int .i64 h, .int .i64 s], .agg #[.int .i64 x, .int .i64 dx], .int .i64 k] w fun e w' =>
      e = .returned (.tuple #[.agg #[.int .i64 (scaleN p c h s x dx k), .int .i64 (scaleD p c h s x dx k)], .int .i64 (scaleCode p c h s x dx k)]) ∧ Below w.heap.size w w' := by
  have HI := hid (exI_one hx hdx)
  have HX := hid hx
  have HDX := hid hdx
  clear hx hdx
  rcases code2_cases p c h s x dx x dx with hc | ⟨hc, hv, h1, _⟩
  · have hn : (code2 p c h s x dx x dx != 0) = true := by simp; omega
    have HC := hid hc
    clear hc
    go_enter Try.func29, Try.ntmps29
    go_wp2_with fail
    refine (l09Code_any p c h s x _ x _ HX.out HDX.out HX.out HDX.out _).mono ?_
    rintro e w1 ⟨rfl, hb⟩
    obtain ⟨hc, hf⟩ := bcell hb
    have hsz := hb.size
    (try simp at hsz)
    (try have hy0 : w.heap.size < w1.heap.size := by omega)
    (try have hy1 : w.heap.size + 1 < w1.heap.size := by omega)
    (try have hy2 : w.heap.size + 2 < w1.heap.size := by omega)
    (try have hyS : ws.heap.size < w1.heap.size := by omega)
    (try have hyG : wg.heap.size < w1.heap.size := by omega)
    (try have hy3 : w.heap.size + 3 < w1.heap.size := by omega)
    go_wp2
    have r0 : w1.cell? ⟨w.heap.size + 2, 0, none⟩ = some (.int .i64 0) := by go_simp
    have r1 : w1.cell? ⟨w.heap.size + 2, 1, none⟩ = some (.int .i64 0) := by go_simp
    have rne : ¬ w.heap.size + 2 = w1.heap.size := by omega
    refine bodyPost_ret (v := .tuple #[.agg #[.int .i64 (0), .int .i64 (0)], .int .i64 (code2 p c h s x dx x dx)]) (by simp only [results, Try.results29]; go_simp) rfl ?_
    exact ⟨by have := HC.out; have h3 : ¬ code2 p c h s x dx x dx = 0 := by {omega}
              simp [scaleN, scaleD, scaleCode, h3], by (repeat' (first | exact Below.refl _ _ | (with_reducible assumption) | (with_reducible refine xAlloc ?_ _) | (with_reducible refine Below.drew ?_) | (with_reducible refine xDrewN ?_ _) | (with_reducible refine xThen ?_ (by with_reducible assumption)) | (with_reducible refine Below.setCell ?_ (by first | omega | (simp; omega) | simp) _)))⟩
  · have hn : (code2 p c h s x dx x dx != 0) = false := by simp [hc]
    have hr := varB_true hv
    obtain ⟨b, hB⟩ := base_of (s := s) (by omega)
    have HB := hid hB
    have hbs := base_toNat hB
    rw [hbs] at h1
    have HBS := hid hbs
    have ht1 := exB_true h1
    obtain ⟨dx, rfl⟩ := Int.eq_ofNat_of_zero_le (a := dx) ht1.1
    have HC := hid hc
    have H1 := hid h1
    clear hB hbs ht1 hc h1
    cases hin : inB k (-1000) 1000
    · go_enter Try.func29, Try.ntmps29
      go_wp2_with fail
      refine (l09Code_any p c h s x _ x _ HX.out HDX.out HX.out HDX.out _).mono ?_
      rintro e w1 ⟨rfl, hb⟩
      obtain ⟨hc, hf⟩ := bcell hb
      have hsz := hb.size
      (try simp at hsz)
      (try have hy0 : w.heap.size < w1.heap.size := by omega)
      (try have hy1 : w.heap.size + 1 < w1.heap.size := by omega)
      (try have hy2 : w.heap.size + 2 < w1.heap.size := by omega)
      (try have hyS : ws.heap.size < w1.heap.size := by omega)
      (try have hyG : wg.heap.size < w1.heap.size := by omega)
      (try have hy3 : w.heap.size + 3 < w1.heap.size := by omega)
      go_wp2_with (go_at_call 80; (with_reducible refine (l01In_any _ _ _ _).mono ?_); rintro e w' ⟨rfl, rfl⟩)
      have r0 : w1.cell? ⟨w.heap.size + 2, 0, none⟩ = some (.int .i64 0) := by go_simp
      have r1 : w1.cell? ⟨w.heap.size + 2, 1, none⟩ = some (.int .i64 0) := by go_simp
      have rne : ¬ w.heap.size + 2 = w1.heap.size := by omega
      refine bodyPost_ret (v := .tuple #[.agg #[.int .i64 (0), .int .i64 (0)], .int .i64 2]) (by simp only [results, Try.results29]; go_simp) rfl ?_
      exact ⟨by simp [scaleN, scaleD, scaleCode, HC.out, hin], by (repeat' (first | exact Below.refl _ _ | (with_reducible assumption) | (with_reducible refine xAlloc ?_ _) | (with_reducible refine Below.drew ?_) | (with_reducible refine xDrewN ?_ _) | (with_reducible refine xThen ?_ (by with_reducible assumption)) | (with_reducible refine Below.setCell ?_ (by first | omega | (simp; omega) | simp) _)))⟩
    · have hin' := inB_true hin
      cases hok : fitOk b dx (x * k)
      · have HO := hid hok
        go_enter Try.func29, Try.ntmps29
        go_wp2_with fail
        refine (l09Code_any p c h s x _ x _ HX.out HDX.out HX.out HDX.out _).mono ?_
        rintro e w1 ⟨rfl, hb⟩
        obtain ⟨hc, hf⟩ := bcell hb
        have hsz := hb.size
        (try simp at hsz)
        (try have hy0 : w.heap.size < w1.heap.size := by omega)
        (try have hy1 : w.heap.size + 1 < w1.heap.size := by omega)
        (try have hy2 : w.heap.size + 2 < w1.heap.size := by omega)
        (try have hyS : ws.heap.size < w1.heap.size := by omega)
        (try have hyG : wg.heap.size < w1.heap.size := by omega)
        (try have hy3 : w.heap.size + 3 < w1.heap.size := by omega)
        go_wp2_with (first | (go_at_call 80; (with_reducible refine (l01In_any _ _ _ _).mono ?_); rintro e w' ⟨rfl, rfl⟩) | (go_at_call 81; refine (mulS_any _ _ _ _ _ _ b dx HB.out H1.out (by omega) _).mono ?_; rintro e w1 ⟨rfl, hb⟩; obtain ⟨hc, hf⟩ := bcell hb; have hsz := hb.size; (try simp at hsz); (try have hy0 : w.heap.size < w1.heap.size := by omega); (try have hy1 : w.heap.size + 1 < w1.heap.size := by omega); (try have hy2 : w.heap.size + 2 < w1.heap.size := by omega); (try have hyS : ws.heap.size < w1.heap.size := by omega); (try have hyG : wg.heap.size < w1.heap.size := by omega); (try have hy3 : w.heap.size + 3 < w1.heap.size := by omega)))
        have r0 : w1.cell? ⟨w.heap.size + 2, 0, none⟩ = some (.int .i64 0) := by go_simp
        have r1 : w1.cell? ⟨w.heap.size + 2, 1, none⟩ = some (.int .i64 0) := by go_simp
        have rne : ¬ w.heap.size + 2 = w1.heap.size := by omega
        refine bodyPost_ret (v := .tuple #[.agg #[.int .i64 (0), .int .i64 (0)], .int .i64 3]) (by simp only [results, Try.results29]; go_simp) rfl ?_
        exact ⟨by simp [scaleN, scaleD, scaleCode, HC.out, HBS.out, HO.out, hin], by (repeat' (first | exact Below.refl _ _ | (with_reducible assumption) | (with_reducible refine xAlloc ?_ _) | (with_reducible refine Below.drew ?_) | (with_reducible refine xDrewN ?_ _) | (with_reducible refine xThen ?_ (by with_reducible assumption)) | (with_reducible refine Below.setCell ?_ (by first | omega | (simp; omega) | simp) _)))⟩
      · have HO := hid hok
        go_enter Try.func29, Try.ntmps29
        go_wp2_with fail
        refine (l09Code_any p c h s x _ x _ HX.out HDX.out HX.out HDX.out _).mono ?_
        rintro e w1 ⟨rfl, hb⟩
        obtain ⟨hc, hf⟩ := bcell hb
        have hsz := hb.size
        (try simp at hsz)
        (try have hy0 : w.heap.size < w1.heap.size := by omega)
        (try have hy1 : w.heap.size + 1 < w1.heap.size := by omega)
        (try have hy2 : w.heap.size + 2 < w1.heap.size := by omega)
        (try have hyS : ws.heap.size < w1.heap.size := by omega)
        (try have hyG : wg.heap.size < w1.heap.size := by omega)
        (try have hy3 : w.heap.size + 3 < w1.heap.size := by omega)
        go_wp2_with (first | (go_at_call 80; (with_reducible refine (l01In_any _ _ _ _).mono ?_); rintro e w' ⟨rfl, rfl⟩) | (go_at_call 81; refine (mulS_any _ _ _ _ _ _ b dx HB.out H1.out (by omega) _).mono ?_; rintro e w1 ⟨rfl, hb⟩; obtain ⟨hc, hf⟩ := bcell hb; have hsz := hb.size; (try simp at hsz); (try have hy0 : w.heap.size < w1.heap.size := by omega); (try have hy1 : w.heap.size + 1 < w1.heap.size := by omega); (try have hy2 : w.heap.size + 2 < w1.heap.size := by omega); (try have hyS : ws.heap.size < w1.heap.size := by omega); (try have hyG : wg.heap.size < w1.heap.size := by omega); (try have hy3 : w.heap.size + 3 < w1.heap.size := by omega)))
        have r0 : w1.cell? ⟨w.heap.size + 2, 0, none⟩ = some (.int .i64 0) := by go_simp
        have r1 : w1.cell? ⟨w.heap.size + 2, 1, none⟩ = some (.int .i64 0) := by go_simp
        have rne : ¬ w.heap.size + 2 = w1.heap.size := by omega
        refine bodyPost_ret (v := .tuple #[.agg #[.int .i64 (mulN b dx (x * k)), .int .i64 (mulD b dx (x * k))], .int .i64 0]) (by simp only [results, Try.results29]; go_simp) rfl ?_
        exact ⟨by simp [scaleN, scaleD, scaleCode, HC.out, HBS.out, HO.out, hin], by (repeat' (first | exact Below.refl _ _ | (with_reducible assumption) | (with_reducible refine xAlloc ?_ _) | (with_reducible refine Below.drew ?_) | (with_reducible refine xDrewN ?_ _) | (with_reducible refine xThen ?_ (by with_reducible assumption)) | (with_reducible refine Below.setCell ?_ (by first | omega | (simp; omega) | simp) _)))⟩

set_option maxHeartbeats 4000000 in
theorem lawScale (p c h s : Int) (_ : (Lit.int .i64 p).wf = true) (_ : (Lit.int .i64 c).wf = true) (_ : (Lit.int .i64 h).wf = true) (_ : (Lit.int .i64 s).wf = true) (x dx : Int) (wx : (Lit.int .i64 x).wf = true) (wdx : (Lit.int .i64 dx).wf = true)
    (k : Int) (_ : (Lit.int .i64 k).wf = true) (w : World) :
    Calls Try.prog 6 #[.agg #[.int .i64 p, .int .i64 c, .int .i64 h, .int .i64 s], .agg #[.int .i64 x, .int .i64 dx], .int .i64 k] w fun e w' => e = .returned (.bool true) ∧ Below w.heap.size w w' := by
  have HX := hid (I64.of_wf wx)
  have HDX := hid (I64.of_wf wdx)
  clear wx wdx
  go_enter Try.func6, Try.ntmps6
  go_wp2
  refine wp_named (fun W hW0 => ?_)
  have hW := hid hW0
  clear hW0
  have sW : W.heap.size = w.heap.size + 2 := by rw [← hW.out]; simp
  have bW : Below w.heap.size w W := by rw [← hW.out]; (repeat' (first | exact Below.refl _ _ | (with_reducible assumption) | (with_reducible refine xAlloc ?_ _) | (with_reducible refine Below.drew ?_) | (with_reducible refine xDrewN ?_ _) | (with_reducible refine xThen ?_ (by with_reducible assumption)) | (with_reducible refine Below.setCell ?_ (by first | omega | (simp; omega) | simp) _)))
  have lW0 : w.heap.size < W.heap.size := by omega
  have lW1 : w.heap.size + 1 < W.heap.size := by omega
  have kW0 : W.cell? ⟨w.heap.size, 0, none⟩ = some (.int .i64 p) := by rw [← hW.out]; go_simp
  have kW1 : W.cell? ⟨w.heap.size, 1, none⟩ = some (.int .i64 c) := by rw [← hW.out]; go_simp
  have kW2 : W.cell? ⟨w.heap.size, 2, none⟩ = some (.int .i64 h) := by rw [← hW.out]; go_simp
  have kW3 : W.cell? ⟨w.heap.size, 3, none⟩ = some (.int .i64 s) := by rw [← hW.out]; go_simp
  have kW4 : W.cell? ⟨w.heap.size + 1, 0, none⟩ = some (.int .i64 x) := by rw [← hW.out]; go_simp
  have kW5 : W.cell? ⟨w.heap.size + 1, 1, none⟩ = some (.int .i64 dx) := by rw [← hW.out]; go_simp
  clear hW sW
  have hk0 : ∀ xe : ExtW W, xe.u.cell? ⟨w.heap.size, 0, none⟩ = some (.int .i64 p) := fun xe => xe.cell (by go_simp)
  have hk1 : ∀ xe : ExtW W, xe.u.cell? ⟨w.heap.size, 1, none⟩ = some (.int .i64 c) := fun xe => xe.cell (by go_simp)
  have hk2 : ∀ xe : ExtW W, xe.u.cell? ⟨w.heap.size, 2, none⟩ = some (.int .i64 h) := fun xe => xe.cell (by go_simp)
  have hk3 : ∀ xe : ExtW W, xe.u.cell? ⟨w.heap.size, 3, none⟩ = some (.int .i64 s) := fun xe => xe.cell (by go_simp)
  have hk4 : ∀ xe : ExtW W, xe.u.cell? ⟨w.heap.size + 1, 0, none⟩ = some (.int .i64 x) := fun xe => xe.cell (by go_simp)
  have hk5 : ∀ xe : ExtW W, xe.u.cell? ⟨w.heap.size + 1, 1, none⟩ = some (.int .i64 dx) := fun xe => xe.cell (by go_simp)
  have hne : Nonempty (ExtW W) := ⟨⟨_, Below.refl _ _⟩⟩
  refine wp_region_oth [true, true, true, true, true, true, true, true, true, false, false, true] [9, 10] (by kernel_rfl) (by kernel_rfl) ?_
  simp only [sift]
  repeat (refine wpRel_step (fun K hK => ?_); simp only [relAt]; go_simp; first | (refine hK _ ?_; clear hK K) | (apply Exists.intro; refine ⟨fun _ => ?_, hK _ ?_⟩; ((first | (go_at_call 15; exact toVariant_any _ _ _ _ _) | (go_at_call 30; exact toExact_any _ _ _) | (go_at_call 29; exact specScale_any _ _ _ _ _ _ _ HX.out HDX.out _))); clear hK K))
  refine wpRel_nil ?_
  clear hk0 hk1 hk2 hk3 hk4 hk5 hne
  refine wpOth_box rfl rfl (cs := #[.int .i64 0, .int .i64 0]) (t := 52) (fun _ _ => by go_simp) rfl rfl rfl [.int .i64 (scaleN p c h s x dx k), .int .i64 (scaleD p c h s x dx k)] (cs' := #[.int .i64 (scaleN p c h s x dx k), .int .i64 (scaleD p c h s x dx k)]) rfl (fun g wx hbx => ?_) ?_
  · have c0 : wx.cell? ⟨g, 0, none⟩ = some (.int .i64 0) := cell_at hbx; have f0 : wx.frozen? ⟨g, 0, none⟩ = false := frozen_at hbx; have c1 : wx.cell? ⟨g, 1, none⟩ = some (.int .i64 0) := cell_at hbx; have f1 : wx.frozen? ⟨g, 1, none⟩ = false := frozen_at hbx; clear hbx; go_simp; rfl
  rintro g1 w1 ⟨hb1, box1, new1⟩
  have kA0 := xcell hb1 kW0
  have kA1 := xcell hb1 kW1
  have kA2 := xcell hb1 kW2
  have kA3 := xcell hb1 kW3
  have kA4 := xcell hb1 kW4
  have kA5 := xcell hb1 kW5
  go_wp2
  have hk0 : ∀ xe : ExtW w1, xe.u.cell? ⟨w.heap.size, 0, none⟩ = some (.int .i64 p) := fun xe => xe.cell (by go_simp)
  have hk1 : ∀ xe : ExtW w1, xe.u.cell? ⟨w.heap.size, 1, none⟩ = some (.int .i64 c) := fun xe => xe.cell (by go_simp)
  have hk2 : ∀ xe : ExtW w1, xe.u.cell? ⟨w.heap.size, 2, none⟩ = some (.int .i64 h) := fun xe => xe.cell (by go_simp)
  have hk3 : ∀ xe : ExtW w1, xe.u.cell? ⟨w.heap.size, 3, none⟩ = some (.int .i64 s) := fun xe => xe.cell (by go_simp)
  have hk4 : ∀ xe : ExtW w1, xe.u.cell? ⟨w.heap.size + 1, 0, none⟩ = some (.int .i64 x) := fun xe => xe.cell (by go_simp)
  have hk5 : ∀ xe : ExtW w1, xe.u.cell? ⟨w.heap.size + 1, 1, none⟩ = some (.int .i64 dx) := fun xe => xe.cell (by go_simp)
  have hne : Nonempty (ExtW w1) := ⟨⟨_, Below.refl _ _⟩⟩
  refine wp_region_oth [true, true, true, true, true, true, true, true, true, false, false, true] [9, 10] (by kernel_rfl) (by kernel_rfl) ?_
  simp only [sift]
  repeat (refine wpRel_step (fun K hK => ?_); simp only [relAt]; go_simp; first | (refine hK _ ?_; clear hK K) | (apply Exists.intro; refine ⟨fun _ => ?_, hK _ ?_⟩; ((first | (go_at_call 15; exact toVariant_any _ _ _ _ _) | (go_at_call 30; exact toExact_any _ _ _) | (go_at_call 31; exact implScale_any _ _ _ _ _ _ _ HX.out HDX.out _))); clear hK K))
  refine wpRel_nil ?_
  clear hk0 hk1 hk2 hk3 hk4 hk5 hne
  refine wpOth_box rfl rfl (cs := #[.int .i64 0, .int .i64 0]) (t := 52) (fun _ _ => by go_simp) rfl rfl rfl [.int .i64 (scaleN p c h s x dx k), .int .i64 (scaleD p c h s x dx k)] (cs' := #[.int .i64 (scaleN p c h s x dx k), .int .i64 (scaleD p c h s x dx k)]) rfl (fun g wx hbx => ?_) ?_
  · have c0 : wx.cell? ⟨g, 0, none⟩ = some (.int .i64 0) := cell_at hbx; have f0 : wx.frozen? ⟨g, 0, none⟩ = false := frozen_at hbx; have c1 : wx.cell? ⟨g, 1, none⟩ = some (.int .i64 0) := cell_at hbx; have f1 : wx.frozen? ⟨g, 1, none⟩ = false := frozen_at hbx; clear hbx; go_simp; rfl
  rintro g2 w2 ⟨hb2, box2, new2⟩
  have box1' := blk_mono hb2 box1
  have ca0 : w2.cell? ⟨g1, 0, none⟩ = some (.int .i64 (scaleN p c h s x dx k)) := cell_at box1'
  have ca1 : w2.cell? ⟨g1, 1, none⟩ = some (.int .i64 (scaleD p c h s x dx k)) := cell_at box1'
  have cb0 : w2.cell? ⟨g2, 0, none⟩ = some (.int .i64 (scaleN p c h s x dx k)) := cell_at box2
  have cb1 : w2.cell? ⟨g2, 1, none⟩ = some (.int .i64 (scaleD p c h s x dx k)) := cell_at box2
  go_wp2_with (go_at_call 32; refine (eqExact_same _ _ _).mono ?_; rintro e w1 ⟨rfl, hb⟩; obtain ⟨hc, hf⟩ := bcell hb; have hsz := hb.size; (try simp at hsz); (try have hy0 : w.heap.size < w1.heap.size := by omega); (try have hy1 : w.heap.size + 1 < w1.heap.size := by omega); (try have hy2 : w.heap.size + 2 < w1.heap.size := by omega); (try have hyS : ws.heap.size < w1.heap.size := by omega); (try have hyG : wg.heap.size < w1.heap.size := by omega))
  go_ret
  exact ⟨rfl, by (repeat' (first | exact Below.refl _ _ | (with_reducible assumption) | (with_reducible refine xAlloc ?_ _) | (with_reducible refine Below.drew ?_) | (with_reducible refine xDrewN ?_ _) | (with_reducible refine xThen ?_ (by with_reducible assumption)) | (with_reducible refine Below.setCell ?_ (by first | omega | (simp; omega) | simp) _)))⟩
end Go.Proofs.Ytmcjabodkjlkgaa
