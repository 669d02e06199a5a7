/-
  Contracts of both MakeExact functions and the law over them: it returns true for every variant, number and depth; no condition.
-/
import Derived.Test.YtdifaojcjcnokaaFit2
namespace Go.Proofs.Ytdifaojcjcnokaa
open Go.RowKit

def okN (n : Int) : Bool := inB n (-1000000000000000000) 1000000000000000000
def makeCode (p c h s n d : Int) : Int := if varB p c h s then (if okN n && inB d 0 60 && sclB (s * s).toNat d then 0 else 2) else 1
def makeNum (p c h s n d : Int) : Int := if makeCode p c h s n d = 0 then (strip (s * s).toNat d.toNat n).1 else 0
def makeDep (p c h s n d : Int) : Int := if makeCode p c h s n d = 0 then (strip (s * s).toNat d.toNat n).2 else 0

theorem scl_pow {b : Nat} {d : Int} (h : sclB b d = true) : b ^ d.toNat ≤ 1000000000000000 := by
  simp [sclB] at h
  rcases h with (h | h) | h
  · subst h; simp
  · have : d.toNat = 0 := by omega
    simp [this]
  · exact h

theorem okN_abs {n : Int} : okN n = true ↔ n.natAbs ≤ 1000000000000000000 := by
  simp [okN, inB]; omega
theorem fitOk_of {b D : Nat} {n : Int} (hb : 1 ≤ b) (hn : okN n = true) : fitOk b D n = true := by
  show okN _ = true
  rw [okN_abs] at hn ⊢
  exact Nat.le_trans (strip_abs b hb D n) hn
theorem mkOk_of {b D : Nat} {n : Int} (hb : 1 ≤ b) (hD : b ^ D ≤ 1000000000000000) : mkOk b D n = fitOk b D n := by
  have hk := strip_depth b D n
  have he := strip_end b D n
  have hs := (scl_le (k := (strip b D n).2) hb hk hD).1
  unfold mkOk exB fitOk
  rcases he with h | h
  · simp [h]
  · by_cases h1 : b = 1
    · subst h1; rw [strip_one] at h; simp at h
    · have h2 : 2 ≤ b := by omega
      simp [hs, h, h2]

set_option maxHeartbeats 400000 in
theorem implMake_any (p c h s n d : Int) (w : World) :
    Calls Try.prog 32 #[.agg #[.int .i64 p, .int .i64 c, .int .i64 h, .int .i64 s], .int .i64 n, .int .i64 d] w fun e w' =>
      e = .returned (.tuple #[.agg #[.int .i64 (makeNum p c h s n d), .int .i64 (makeDep p c h s n d)], .int .i64 (makeCode p c h s n d)]) ∧ Below w.heap.size w w' := by
  cases hv : varB p c h s
  · go_enter Try.func32, Try.ntmps32
    go_wp2_with (go_at_call 49; refine (isVariant_any _ _ _ _ _).mono ?_; rintro e w1 ⟨rfl, hb⟩; obtain ⟨hc, hf⟩ := bcell hb; have hsz := hb.size; (try simp at hsz); (try have hy0 : w.heap.size < w1.heap.size := by omega); (try have hy1 : w.heap.size + 1 < w1.heap.size := by omega); (try have hy2 : w.heap.size + 2 < w1.heap.size := by omega); (try have hyS : ws.heap.size < w1.heap.size := by omega); (try have hyG : wg.heap.size < w1.heap.size := by omega))
    have r0 : w1.cell? ⟨w.heap.size + 1, 0, none⟩ = some (.int .i64 0) := by go_simp
    have r1 : w1.cell? ⟨w.heap.size + 1, 1, none⟩ = some (.int .i64 0) := by go_simp
    refine bodyPost_ret (v := .tuple #[.agg #[.int .i64 0, .int .i64 0], .int .i64 1]) (by simp [results, Try.results32, go_sem, r0, r1]) rfl ?_
    exact ⟨by simp [makeNum, makeDep, makeCode, hv], by (repeat' (first | exact Below.refl _ _ | (with_reducible assumption) | (with_reducible refine xAlloc ?_ _) | (with_reducible refine Below.drew ?_) | (with_reducible refine xDrewN ?_ _) | (with_reducible refine xThen ?_ (by with_reducible assumption)) | (with_reducible refine Below.setCell ?_ (by first | omega | (simp; omega) | simp) _)))⟩
  · have hr := varB_true hv
    obtain ⟨b, hB⟩ := base_of (s := s) (by omega)
    have HB := hid hB
    have b1 : 1 ≤ b := hB.2.2.2.1
    have hbs := base_toNat hB
    have HBS := hid hbs
    clear hB hbs
    cases hin : okN n
    · unfold okN at hin
      go_enter Try.func32, Try.ntmps32
      go_wp2_with (first | (go_at_call 49; refine (isVariant_any _ _ _ _ _).mono ?_; rintro e w1 ⟨rfl, hb⟩; obtain ⟨hc, hf⟩ := bcell hb; have hsz := hb.size; (try simp at hsz); (try have hy0 : w.heap.size < w1.heap.size := by omega); (try have hy1 : w.heap.size + 1 < w1.heap.size := by omega); (try have hy2 : w.heap.size + 2 < w1.heap.size := by omega); (try have hyS : ws.heap.size < w1.heap.size := by omega); (try have hyG : wg.heap.size < w1.heap.size := by omega)) | (go_at_call 61; refine (within_any _ _ _ _).mono ?_; rintro e w' ⟨rfl, rfl⟩))
      have r0 : w1.cell? ⟨w.heap.size + 1, 0, none⟩ = some (.int .i64 0) := by go_simp
      have r1 : w1.cell? ⟨w.heap.size + 1, 1, none⟩ = some (.int .i64 0) := by go_simp
      have rne : ¬ w.heap.size + 1 = w1.heap.size := by omega
      refine bodyPost_ret (v := .tuple #[.agg #[.int .i64 (0), .int .i64 (0)], .int .i64 2]) (by simp only [results, Try.results32]; go_simp) rfl ?_
      exact ⟨by simp [makeNum, makeDep, makeCode, hv, okN, hin], by (repeat' (first | exact Below.refl _ _ | (with_reducible assumption) | (with_reducible refine xAlloc ?_ _) | (with_reducible refine Below.drew ?_) | (with_reducible refine xDrewN ?_ _) | (with_reducible refine xThen ?_ (by with_reducible assumption)) | (with_reducible refine Below.setCell ?_ (by first | omega | (simp; omega) | simp) _)))⟩
    · have hin' : inB n (-1000000000000000000) 1000000000000000000 = true := hin
      cases hd : inB d 0 60
      · go_enter Try.func32, Try.ntmps32
        go_wp2_with (first | (go_at_call 49; refine (isVariant_any _ _ _ _ _).mono ?_; rintro e w1 ⟨rfl, hb⟩; obtain ⟨hc, hf⟩ := bcell hb; have hsz := hb.size; (try simp at hsz); (try have hy0 : w.heap.size < w1.heap.size := by omega); (try have hy1 : w.heap.size + 1 < w1.heap.size := by omega); (try have hy2 : w.heap.size + 2 < w1.heap.size := by omega); (try have hyS : ws.heap.size < w1.heap.size := by omega); (try have hyG : wg.heap.size < w1.heap.size := by omega)) | (go_at_call 61; refine (within_any _ _ _ _).mono ?_; rintro e w' ⟨rfl, rfl⟩))
        have r0 : w1.cell? ⟨w.heap.size + 1, 0, none⟩ = some (.int .i64 0) := by go_simp
        have r1 : w1.cell? ⟨w.heap.size + 1, 1, none⟩ = some (.int .i64 0) := by go_simp
        have rne : ¬ w.heap.size + 1 = w1.heap.size := by omega
        refine bodyPost_ret (v := .tuple #[.agg #[.int .i64 (0), .int .i64 (0)], .int .i64 2]) (by simp only [results, Try.results32]; go_simp) rfl ?_
        exact ⟨by simp [makeNum, makeDep, makeCode, hv, hin, hd], by (repeat' (first | exact Below.refl _ _ | (with_reducible assumption) | (with_reducible refine xAlloc ?_ _) | (with_reducible refine Below.drew ?_) | (with_reducible refine xDrewN ?_ _) | (with_reducible refine xThen ?_ (by with_reducible assumption)) | (with_reducible refine Below.setCell ?_ (by first | omega | (simp; omega) | simp) _)))⟩
      · have hd' := inB_true hd
        obtain ⟨D, rfl⟩ := Int.eq_ofNat_of_zero_le (a := d) (by omega)
        cases hs : sclB b (D : Int)
        · go_enter Try.func32, Try.ntmps32
          go_wp2_with (first | (go_at_call 49; refine (isVariant_any _ _ _ _ _).mono ?_; rintro e w1 ⟨rfl, hb⟩; obtain ⟨hc, hf⟩ := bcell hb; have hsz := hb.size; (try simp at hsz); (try have hy0 : w.heap.size < w1.heap.size := by omega); (try have hy1 : w.heap.size + 1 < w1.heap.size := by omega); (try have hy2 : w.heap.size + 2 < w1.heap.size := by omega); (try have hyS : ws.heap.size < w1.heap.size := by omega); (try have hyG : wg.heap.size < w1.heap.size := by omega)) | (go_at_call 61; refine (within_any _ _ _ _).mono ?_; rintro e w' ⟨rfl, rfl⟩) | (go_at_call 65; refine (scaleOf_any _ _ _ _ _ b HB.out (by omega) _).mono ?_; rintro e w1 ⟨rfl, hb⟩; obtain ⟨hc, hf⟩ := bcell hb; have hsz := hb.size; (try simp at hsz); (try have hy0 : w.heap.size < w1.heap.size := by omega); (try have hy1 : w.heap.size + 1 < w1.heap.size := by omega); (try have hy2 : w.heap.size + 2 < w1.heap.size := by omega); (try have hyS : ws.heap.size < w1.heap.size := by omega); (try have hyG : wg.heap.size < w1.heap.size := by omega)))
          have r0 : w1.cell? ⟨w.heap.size + 1, 0, none⟩ = some (.int .i64 0) := by go_simp
          have r1 : w1.cell? ⟨w.heap.size + 1, 1, none⟩ = some (.int .i64 0) := by go_simp
          have rne : ¬ w.heap.size + 1 = w1.heap.size := by omega
          refine bodyPost_ret (v := .tuple #[.agg #[.int .i64 (0), .int .i64 (0)], .int .i64 2]) (by simp only [results, Try.results32]; go_simp) rfl ?_
          exact ⟨by simp [makeNum, makeDep, makeCode, hv, hin, hd, HBS.out, hs], by (repeat' (first | exact Below.refl _ _ | (with_reducible assumption) | (with_reducible refine xAlloc ?_ _) | (with_reducible refine Below.drew ?_) | (with_reducible refine xDrewN ?_ _) | (with_reducible refine xThen ?_ (by with_reducible assumption)) | (with_reducible refine Below.setCell ?_ (by first | omega | (simp; omega) | simp) _)))⟩
        · have hmk : mkOk b D n = true := by
            rw [mkOk_of b1 (by have := scl_pow hs; simpa using this)]
            exact fitOk_of b1 hin
          go_enter Try.func32, Try.ntmps32
          go_wp2_with (first | (go_at_call 49; refine (isVariant_any _ _ _ _ _).mono ?_; rintro e w1 ⟨rfl, hb⟩; obtain ⟨hc, hf⟩ := bcell hb; have hsz := hb.size; (try simp at hsz); (try have hy0 : w.heap.size < w1.heap.size := by omega); (try have hy1 : w.heap.size + 1 < w1.heap.size := by omega); (try have hy2 : w.heap.size + 2 < w1.heap.size := by omega); (try have hyS : ws.heap.size < w1.heap.size := by omega); (try have hyG : wg.heap.size < w1.heap.size := by omega)) | (go_at_call 61; refine (within_any _ _ _ _).mono ?_; rintro e w' ⟨rfl, rfl⟩) | (go_at_call 65; refine (scaleOf_any _ _ _ _ _ b HB.out (by omega) _).mono ?_; rintro e w1 ⟨rfl, hb⟩; obtain ⟨hc, hf⟩ := bcell hb; have hsz := hb.size; (try simp at hsz); (try have hy0 : w.heap.size < w1.heap.size := by omega); (try have hy1 : w.heap.size + 1 < w1.heap.size := by omega); (try have hy2 : w.heap.size + 2 < w1.heap.size := by omega); (try have hyS : ws.heap.size < w1.heap.size := by omega); (try have hyG : wg.heap.size < w1.heap.size := by omega)) | (go_at_call 66; refine (makeExact_any _ _ _ _ _ b D HB.out (by have := inB_true hin'; omega) (by omega) _).mono ?_; rintro e w1 ⟨rfl, hb⟩; obtain ⟨hc, hf⟩ := bcell hb; have hsz := hb.size; (try simp at hsz); (try have hy0 : w.heap.size < w1.heap.size := by omega); (try have hy1 : w.heap.size + 1 < w1.heap.size := by omega); (try have hy2 : w.heap.size + 2 < w1.heap.size := by omega); (try have hyS : ws.heap.size < w1.heap.size := by omega); (try have hyG : wg.heap.size < w1.heap.size := by omega)))
          have r0 : w1.cell? ⟨w.heap.size + 1, 0, none⟩ = some (.int .i64 0) := by go_simp
          have r1 : w1.cell? ⟨w.heap.size + 1, 1, none⟩ = some (.int .i64 0) := by go_simp
          have rne : ¬ w.heap.size + 1 = w1.heap.size := by omega
          refine bodyPost_ret (v := .tuple #[.agg #[.int .i64 (mkNum b D n), .int .i64 (mkDep b D n)], .int .i64 0]) (by simp only [results, Try.results32]; go_simp) rfl ?_
          exact ⟨by simp [makeNum, makeDep, makeCode, hv, hin, hd, HBS.out, hs, mkNum, mkDep, hmk], by (repeat' (first | exact Below.refl _ _ | (with_reducible assumption) | (with_reducible refine xAlloc ?_ _) | (with_reducible refine Below.drew ?_) | (with_reducible refine xDrewN ?_ _) | (with_reducible refine xThen ?_ (by with_reducible assumption)) | (with_reducible refine Below.setCell ?_ (by first | omega | (simp; omega) | simp) _)))⟩

theorem sclB_neg {b : Nat} {d : Int} (h : d ≤ 0) : sclB b d = true := (scl_neg h).1

set_option maxHeartbeats 400000 in
theorem specMake_any (p c h s n d : Int) (w : World) :
    Calls Try.prog 31 #[.agg #[.int .i64 p, .int .i64 c, .int .i64 h, .int .i64 s], .int .i64 n, .int .i64 d] w fun e w' =>
      e = .returned (.tuple #[.agg #[.int .i64 (makeNum p c h s n d), .int .i64 (makeDep p c h s n d)], .int .i64 (makeCode p c h s n d)]) ∧ Below w.heap.size w w' := by
  cases hv : varB p c h s
  · go_enter Try.func31, Try.ntmps31
    go_wp2_with (go_at_call 47; refine (specIsVariant_any _ _ _ _ _).mono ?_; rintro e w1 ⟨rfl, hb⟩; obtain ⟨hc, hf⟩ := bcell hb; have hsz := hb.size; (try simp at hsz); (try have hy0 : w.heap.size < w1.heap.size := by omega); (try have hy1 : w.heap.size + 1 < w1.heap.size := by omega); (try have hy2 : w.heap.size + 2 < w1.heap.size := by omega); (try have hyS : ws.heap.size < w1.heap.size := by omega); (try have hyG : wg.heap.size < w1.heap.size := by omega))
    have r0 : w1.cell? ⟨w.heap.size + 1, 0, none⟩ = some (.int .i64 0) := by go_simp
    have r1 : w1.cell? ⟨w.heap.size + 1, 1, none⟩ = some (.int .i64 0) := by go_simp
    have rne : ¬ w.heap.size + 1 = w1.heap.size := by omega
    refine bodyPost_ret (v := .tuple #[.agg #[.int .i64 (0), .int .i64 (0)], .int .i64 1]) (by simp only [results, Try.results31]; go_simp) rfl ?_
    exact ⟨by simp [makeNum, makeDep, makeCode, hv], by (repeat' (first | exact Below.refl _ _ | (with_reducible assumption) | (with_reducible refine xAlloc ?_ _) | (with_reducible refine Below.drew ?_) | (with_reducible refine xDrewN ?_ _) | (with_reducible refine xThen ?_ (by with_reducible assumption)) | (with_reducible refine Below.setCell ?_ (by first | omega | (simp; omega) | simp) _)))⟩
  · have hr := varB_true hv
    obtain ⟨b, hB⟩ := base_of (s := s) (by omega)
    have HB := hid hB
    have b1 : 1 ≤ b := hB.2.2.2.1
    have hbs := base_toNat hB
    have HBS := hid hbs
    clear hB hbs
    by_cases hd0 : d < 0
    · have hd1 : ¬ 61 < d := by omega
      have hd : inB d 0 60 = false := by simp [inB]; omega
      cases hin : inB n (-1000000000000000000) 1000000000000000000
      all_goals
        go_enter Try.func31, Try.ntmps31
        go_wp2_with (first | (go_at_call 47; refine (specIsVariant_any _ _ _ _ _).mono ?_; rintro e w1 ⟨rfl, hb⟩; obtain ⟨hc, hf⟩ := bcell hb; have hsz := hb.size; (try simp at hsz); (try have hy0 : w.heap.size < w1.heap.size := by omega); (try have hy1 : w.heap.size + 1 < w1.heap.size := by omega); (try have hy2 : w.heap.size + 2 < w1.heap.size := by omega); (try have hyS : ws.heap.size < w1.heap.size := by omega); (try have hyG : wg.heap.size < w1.heap.size := by omega)) | (go_at_call 59; refine (l01In_any _ _ _ _).mono ?_; rintro e w' ⟨rfl, rfl⟩) | (go_at_call 63; refine (l09Scale_any _ _ _ _ _ b HB.out (by omega) _).mono ?_; rintro e w1 ⟨rfl, hb⟩; obtain ⟨hc, hf⟩ := bcell hb; have hsz := hb.size; (try simp at hsz); (try have hy0 : w.heap.size < w1.heap.size := by omega); (try have hy1 : w.heap.size + 1 < w1.heap.size := by omega); (try have hy2 : w.heap.size + 2 < w1.heap.size := by omega); (try have hyS : ws.heap.size < w1.heap.size := by omega); (try have hyG : wg.heap.size < w1.heap.size := by omega)))
        have r0 : w1.cell? ⟨w.heap.size + 1, 0, none⟩ = some (.int .i64 0) := by go_simp
        have r1 : w1.cell? ⟨w.heap.size + 1, 1, none⟩ = some (.int .i64 0) := by go_simp
        have rne : ¬ w.heap.size + 1 = w1.heap.size := by omega
        refine bodyPost_ret (v := .tuple #[.agg #[.int .i64 (0), .int .i64 (0)], .int .i64 2]) (by simp only [results, Try.results31]; go_simp) rfl ?_
        exact ⟨by simp [makeNum, makeDep, makeCode, hv, hd], by (repeat' (first | exact Below.refl _ _ | (with_reducible assumption) | (with_reducible refine xAlloc ?_ _) | (with_reducible refine Below.drew ?_) | (with_reducible refine xDrewN ?_ _) | (with_reducible refine xThen ?_ (by with_reducible assumption)) | (with_reducible refine Below.setCell ?_ (by first | omega | (simp; omega) | simp) _)))⟩
    · by_cases hd6 : 60 < d
      · have hd1 : ¬ d < 0 := hd0
        have hd : inB d 0 60 = false := by simp [inB]; omega
        by_cases hd7 : 61 < d
        all_goals
          cases hin : inB n (-1000000000000000000) 1000000000000000000
          all_goals
            go_enter Try.func31, Try.ntmps31
            go_wp2_with (first | (go_at_call 47; refine (specIsVariant_any _ _ _ _ _).mono ?_; rintro e w1 ⟨rfl, hb⟩; obtain ⟨hc, hf⟩ := bcell hb; have hsz := hb.size; (try simp at hsz); (try have hy0 : w.heap.size < w1.heap.size := by omega); (try have hy1 : w.heap.size + 1 < w1.heap.size := by omega); (try have hy2 : w.heap.size + 2 < w1.heap.size := by omega); (try have hyS : ws.heap.size < w1.heap.size := by omega); (try have hyG : wg.heap.size < w1.heap.size := by omega)) | (go_at_call 59; refine (l01In_any _ _ _ _).mono ?_; rintro e w' ⟨rfl, rfl⟩) | (go_at_call 63; refine (l09Scale_any _ _ _ _ _ b HB.out (by omega) _).mono ?_; rintro e w1 ⟨rfl, hb⟩; obtain ⟨hc, hf⟩ := bcell hb; have hsz := hb.size; (try simp at hsz); (try have hy0 : w.heap.size < w1.heap.size := by omega); (try have hy1 : w.heap.size + 1 < w1.heap.size := by omega); (try have hy2 : w.heap.size + 2 < w1.heap.size := by omega); (try have hyS : ws.heap.size < w1.heap.size := by omega); (try have hyG : wg.heap.size < w1.heap.size := by omega)))
            have r0 : w1.cell? ⟨w.heap.size + 1, 0, none⟩ = some (.int .i64 0) := by go_simp
            have r1 : w1.cell? ⟨w.heap.size + 1, 1, none⟩ = some (.int .i64 0) := by go_simp
            have rne : ¬ w.heap.size + 1 = w1.heap.size := by omega
            refine bodyPost_ret (v := .tuple #[.agg #[.int .i64 (0), .int .i64 (0)], .int .i64 2]) (by simp only [results, Try.results31]; go_simp) rfl ?_
            exact ⟨by simp [makeNum, makeDep, makeCode, hv, hd], by (repeat' (first | exact Below.refl _ _ | (with_reducible assumption) | (with_reducible refine xAlloc ?_ _) | (with_reducible refine Below.drew ?_) | (with_reducible refine xDrewN ?_ _) | (with_reducible refine xThen ?_ (by with_reducible assumption)) | (with_reducible refine Below.setCell ?_ (by first | omega | (simp; omega) | simp) _)))⟩
      · have hd : inB d 0 60 = true := by simp [inB]; omega
        have hd7 : ¬ 61 < d := by omega
        cases hin : inB n (-1000000000000000000) 1000000000000000000
        · have hin' : okN n = false := hin
          rcases Int.lt_or_eq_of_le (show 0 ≤ d by omega) with hd8 | hd8
          · go_enter Try.func31, Try.ntmps31
            go_wp2_with (first | (go_at_call 47; refine (specIsVariant_any _ _ _ _ _).mono ?_; rintro e w1 ⟨rfl, hb⟩; obtain ⟨hc, hf⟩ := bcell hb; have hsz := hb.size; (try simp at hsz); (try have hy0 : w.heap.size < w1.heap.size := by omega); (try have hy1 : w.heap.size + 1 < w1.heap.size := by omega); (try have hy2 : w.heap.size + 2 < w1.heap.size := by omega); (try have hyS : ws.heap.size < w1.heap.size := by omega); (try have hyG : wg.heap.size < w1.heap.size := by omega)) | (go_at_call 59; refine (l01In_any _ _ _ _).mono ?_; rintro e w' ⟨rfl, rfl⟩) | (go_at_call 63; refine (l09Scale_any _ _ _ _ _ b HB.out (by omega) _).mono ?_; rintro e w1 ⟨rfl, hb⟩; obtain ⟨hc, hf⟩ := bcell hb; have hsz := hb.size; (try simp at hsz); (try have hy0 : w.heap.size < w1.heap.size := by omega); (try have hy1 : w.heap.size + 1 < w1.heap.size := by omega); (try have hy2 : w.heap.size + 2 < w1.heap.size := by omega); (try have hyS : ws.heap.size < w1.heap.size := by omega); (try have hyG : wg.heap.size < w1.heap.size := by omega)))
            have r0 : w1.cell? ⟨w.heap.size + 1, 0, none⟩ = some (.int .i64 0) := by go_simp
            have r1 : w1.cell? ⟨w.heap.size + 1, 1, none⟩ = some (.int .i64 0) := by go_simp
            have rne : ¬ w.heap.size + 1 = w1.heap.size := by omega
            refine bodyPost_ret (v := .tuple #[.agg #[.int .i64 (0), .int .i64 (0)], .int .i64 2]) (by simp only [results, Try.results31]; go_simp) rfl ?_
            exact ⟨by simp [makeNum, makeDep, makeCode, hv, hin'], by (repeat' (first | exact Below.refl _ _ | (with_reducible assumption) | (with_reducible refine xAlloc ?_ _) | (with_reducible refine Below.drew ?_) | (with_reducible refine xDrewN ?_ _) | (with_reducible refine xThen ?_ (by with_reducible assumption)) | (with_reducible refine Below.setCell ?_ (by first | omega | (simp; omega) | simp) _)))⟩
          · subst hd8
            go_enter Try.func31, Try.ntmps31
            go_wp2_with (first | (go_at_call 47; refine (specIsVariant_any _ _ _ _ _).mono ?_; rintro e w1 ⟨rfl, hb⟩; obtain ⟨hc, hf⟩ := bcell hb; have hsz := hb.size; (try simp at hsz); (try have hy0 : w.heap.size < w1.heap.size := by omega); (try have hy1 : w.heap.size + 1 < w1.heap.size := by omega); (try have hy2 : w.heap.size + 2 < w1.heap.size := by omega); (try have hyS : ws.heap.size < w1.heap.size := by omega); (try have hyG : wg.heap.size < w1.heap.size := by omega)) | (go_at_call 59; refine (l01In_any _ _ _ _).mono ?_; rintro e w' ⟨rfl, rfl⟩) | (go_at_call 63; refine (l09Scale_any _ _ _ _ _ b HB.out (by omega) _).mono ?_; rintro e w1 ⟨rfl, hb⟩; obtain ⟨hc, hf⟩ := bcell hb; have hsz := hb.size; (try simp at hsz); (try have hy0 : w.heap.size < w1.heap.size := by omega); (try have hy1 : w.heap.size + 1 < w1.heap.size := by omega); (try have hy2 : w.heap.size + 2 < w1.heap.size := by omega); (try have hyS : ws.heap.size < w1.heap.size := by omega); (try have hyG : wg.heap.size < w1.heap.size := by omega)))
            have r0 : w1.cell? ⟨w.heap.size + 1, 0, none⟩ = some (.int .i64 0) := by go_simp
            have r1 : w1.cell? ⟨w.heap.size + 1, 1, none⟩ = some (.int .i64 0) := by go_simp
            have rne : ¬ w.heap.size + 1 = w1.heap.size := by omega
            refine bodyPost_ret (v := .tuple #[.agg #[.int .i64 (0), .int .i64 (0)], .int .i64 2]) (by simp only [results, Try.results31]; go_simp) rfl ?_
            exact ⟨by simp [makeNum, makeDep, makeCode, hv, hin'], by (repeat' (first | exact Below.refl _ _ | (with_reducible assumption) | (with_reducible refine xAlloc ?_ _) | (with_reducible refine Below.drew ?_) | (with_reducible refine xDrewN ?_ _) | (with_reducible refine xThen ?_ (by with_reducible assumption)) | (with_reducible refine Below.setCell ?_ (by first | omega | (simp; omega) | simp) _)))⟩
        · have hin' : okN n = true := hin
          have hnb := inB_true hin
          cases hs : sclB b d
          · have hd8 : 0 < d := by
              rcases Int.lt_or_le 0 d with hh | hh
              · exact hh
              · rw [sclB_neg hh] at hs; simp at hs
            go_enter Try.func31, Try.ntmps31
            go_wp2_with (first | (go_at_call 47; refine (specIsVariant_any _ _ _ _ _).mono ?_; rintro e w1 ⟨rfl, hb⟩; obtain ⟨hc, hf⟩ := bcell hb; have hsz := hb.size; (try simp at hsz); (try have hy0 : w.heap.size < w1.heap.size := by omega); (try have hy1 : w.heap.size + 1 < w1.heap.size := by omega); (try have hy2 : w.heap.size + 2 < w1.heap.size := by omega); (try have hyS : ws.heap.size < w1.heap.size := by omega); (try have hyG : wg.heap.size < w1.heap.size := by omega)) | (go_at_call 59; refine (l01In_any _ _ _ _).mono ?_; rintro e w' ⟨rfl, rfl⟩) | (go_at_call 63; refine (l09Scale_any _ _ _ _ _ b HB.out (by omega) _).mono ?_; rintro e w1 ⟨rfl, hb⟩; obtain ⟨hc, hf⟩ := bcell hb; have hsz := hb.size; (try simp at hsz); (try have hy0 : w.heap.size < w1.heap.size := by omega); (try have hy1 : w.heap.size + 1 < w1.heap.size := by omega); (try have hy2 : w.heap.size + 2 < w1.heap.size := by omega); (try have hyS : ws.heap.size < w1.heap.size := by omega); (try have hyG : wg.heap.size < w1.heap.size := by omega)))
            have r0 : w1.cell? ⟨w.heap.size + 1, 0, none⟩ = some (.int .i64 0) := by go_simp
            have r1 : w1.cell? ⟨w.heap.size + 1, 1, none⟩ = some (.int .i64 0) := by go_simp
            have rne : ¬ w.heap.size + 1 = w1.heap.size := by omega
            refine bodyPost_ret (v := .tuple #[.agg #[.int .i64 (0), .int .i64 (0)], .int .i64 2]) (by simp only [results, Try.results31]; go_simp) rfl ?_
            exact ⟨by simp [makeNum, makeDep, makeCode, hv, hin', hd, HBS.out, hs], by (repeat' (first | exact Below.refl _ _ | (with_reducible assumption) | (with_reducible refine xAlloc ?_ _) | (with_reducible refine Below.drew ?_) | (with_reducible refine xDrewN ?_ _) | (with_reducible refine xThen ?_ (by with_reducible assumption)) | (with_reducible refine Below.setCell ?_ (by first | omega | (simp; omega) | simp) _)))⟩
          · have hsc := scl_bd b1 hs
            have hpw : sclV b d = b ^ d.toNat := scl_ok hs
            have hpD : Hid (b ^ d.toNat ≤ 1000000000000000) := hid (scl_pow hs)
            have hmk : Hid (fitOk b d.toNat n = true) := hid (fitOk_of b1 hin')
            have hfit : Hid (n * (b : Int) ^ d.toNat = n * ((sclV b d : Nat) : Int)) := hid (by rw [hpw, Int.natCast_pow])
            have hn2 : -9223372036854775807 ≤ n ∧ n ≤ 9223372036854775807 := by omega
            have hdn : d.toNat ≤ 1000 := by omega
            clear hpw
            obtain ⟨D, HD⟩ := named d.toNat
            rw [← HD.out] at hpD hmk hfit hdn
            obtain ⟨sc, HSC⟩ := named (sclV b d)
            rw [← HSC.out] at hfit hsc
            rcases Int.lt_or_eq_of_le (show 0 ≤ d by omega) with hd8 | hd8
            · go_enter Try.func31, Try.ntmps31
              go_wp2_with (first | (go_at_call 47; refine (specIsVariant_any _ _ _ _ _).mono ?_; rintro e w1 ⟨rfl, hb⟩; obtain ⟨hc, hf⟩ := bcell hb; have hsz := hb.size; (try simp at hsz); (try have hy0 : w.heap.size < w1.heap.size := by omega); (try have hy1 : w.heap.size + 1 < w1.heap.size := by omega); (try have hy2 : w.heap.size + 2 < w1.heap.size := by omega); (try have hyS : ws.heap.size < w1.heap.size := by omega); (try have hyG : wg.heap.size < w1.heap.size := by omega)) | (go_at_call 59; refine (l01In_any _ _ _ _).mono ?_; rintro e w' ⟨rfl, rfl⟩) | (go_at_call 63; refine (l09Scale_any _ _ _ _ _ b HB.out (by omega) _).mono ?_; rw [← HSC.out]; rintro e w1 ⟨rfl, hb⟩; obtain ⟨hc, hf⟩ := bcell hb; have hsz := hb.size; (try simp at hsz); (try have hy0 : w.heap.size < w1.heap.size := by omega); (try have hy1 : w.heap.size + 1 < w1.heap.size := by omega); (try have hy2 : w.heap.size + 2 < w1.heap.size := by omega); (try have hyS : ws.heap.size < w1.heap.size := by omega); (try have hyG : wg.heap.size < w1.heap.size := by omega)) | (go_at_call 64; refine (l09Fit_any _ _ _ _ n n b sc D HB.out hn2 hsc.1 hsc.2 hfit.out hpD.out hdn _).mono ?_; rintro e w1 ⟨rfl, hb⟩; obtain ⟨hc, hf⟩ := bcell hb; have hsz := hb.size; (try simp at hsz); (try have hy0 : w.heap.size < w1.heap.size := by omega); (try have hy1 : w.heap.size + 1 < w1.heap.size := by omega); (try have hy2 : w.heap.size + 2 < w1.heap.size := by omega); (try have hyS : ws.heap.size < w1.heap.size := by omega); (try have hyG : wg.heap.size < w1.heap.size := by omega)))
              have r0 : w1.cell? ⟨w.heap.size + 1, 0, none⟩ = some (.int .i64 0) := by go_simp
              have r1 : w1.cell? ⟨w.heap.size + 1, 1, none⟩ = some (.int .i64 0) := by go_simp
              have rne : ¬ w.heap.size + 1 = w1.heap.size := by omega
              refine bodyPost_ret (v := .tuple #[.agg #[.int .i64 (fitNum b D n), .int .i64 (fitDep b D n)], .int .i64 0]) (by simp only [results, Try.results31]; go_simp) rfl ?_
              exact ⟨by simp [makeNum, makeDep, makeCode, hv, hin', hd, HBS.out, hs, fitNum, fitDep, ← HD.out, hmk.out], by (repeat' (first | exact Below.refl _ _ | (with_reducible assumption) | (with_reducible refine xAlloc ?_ _) | (with_reducible refine Below.drew ?_) | (with_reducible refine xDrewN ?_ _) | (with_reducible refine xThen ?_ (by with_reducible assumption)) | (with_reducible refine Below.setCell ?_ (by first | omega | (simp; omega) | simp) _)))⟩
            · subst hd8
              go_enter Try.func31, Try.ntmps31
              go_wp2_with (first | (go_at_call 47; refine (specIsVariant_any _ _ _ _ _).mono ?_; rintro e w1 ⟨rfl, hb⟩; obtain ⟨hc, hf⟩ := bcell hb; have hsz := hb.size; (try simp at hsz); (try have hy0 : w.heap.size < w1.heap.size := by omega); (try have hy1 : w.heap.size + 1 < w1.heap.size := by omega); (try have hy2 : w.heap.size + 2 < w1.heap.size := by omega); (try have hyS : ws.heap.size < w1.heap.size := by omega); (try have hyG : wg.heap.size < w1.heap.size := by omega)) | (go_at_call 59; refine (l01In_any _ _ _ _).mono ?_; rintro e w' ⟨rfl, rfl⟩) | (go_at_call 63; refine (l09Scale_any _ _ _ _ _ b HB.out (by omega) _).mono ?_; rw [← HSC.out]; rintro e w1 ⟨rfl, hb⟩; obtain ⟨hc, hf⟩ := bcell hb; have hsz := hb.size; (try simp at hsz); (try have hy0 : w.heap.size < w1.heap.size := by omega); (try have hy1 : w.heap.size + 1 < w1.heap.size := by omega); (try have hy2 : w.heap.size + 2 < w1.heap.size := by omega); (try have hyS : ws.heap.size < w1.heap.size := by omega); (try have hyG : wg.heap.size < w1.heap.size := by omega)) | (go_at_call 64; refine (l09Fit_any _ _ _ _ n n b sc D HB.out hn2 hsc.1 hsc.2 hfit.out hpD.out hdn _).mono ?_; rintro e w1 ⟨rfl, hb⟩; obtain ⟨hc, hf⟩ := bcell hb; have hsz := hb.size; (try simp at hsz); (try have hy0 : w.heap.size < w1.heap.size := by omega); (try have hy1 : w.heap.size + 1 < w1.heap.size := by omega); (try have hy2 : w.heap.size + 2 < w1.heap.size := by omega); (try have hyS : ws.heap.size < w1.heap.size := by omega); (try have hyG : wg.heap.size < w1.heap.size := by omega)))
              have r0 : w1.cell? ⟨w.heap.size + 1, 0, none⟩ = some (.int .i64 0) := by go_simp
              have r1 : w1.cell? ⟨w.heap.size + 1, 1, none⟩ = some (.int .i64 0) := by go_simp
              have rne : ¬ w.heap.size + 1 = w1.heap.size := by omega
              refine bodyPost_ret (v := .tuple #[.agg #[.int .i64 (fitNum b D n), .int .i64 (fitDep b D n)], .int .i64 0]) (by simp only [results, Try.results31]; go_simp) rfl ?_
              exact ⟨by simp [makeNum, makeDep, makeCode, hv, hin', hd, HBS.out, hs, fitNum, fitDep, ← HD.out, hmk.out], by (repeat' (first | exact Below.refl _ _ | (with_reducible assumption) | (with_reducible refine xAlloc ?_ _) | (with_reducible refine Below.drew ?_) | (with_reducible refine xDrewN ?_ _) | (with_reducible refine xThen ?_ (by with_reducible assumption)) | (with_reducible refine Below.setCell ?_ (by first | omega | (simp; omega) | simp) _)))⟩

theorem eqExact_any (x d y f : Int) (w : World) :
    Calls Try.prog 33 #[.agg #[.int .i64 x, .int .i64 d], .agg #[.int .i64 y, .int .i64 f]] w fun e w' => e = .returned (.bool (decide (x = y) && decide (d = f))) ∧ Below w.heap.size w w' := by
  by_cases h1 : x = y
  · have b1 : (x != y) = false := by simpa using h1
    have H1 := hid h1
    clear h1
    by_cases h2 : d = f
    · have b2 : (d != f) = false := by simpa using h2
      have H2 := hid h2
      clear h2
      go_enter Try.func33, Try.ntmps33
      go_wp2
      go_ret
      exact ⟨ret_bool (by simp [H1.out, H2.out]), by (repeat' (first | exact Below.refl _ _ | (with_reducible assumption) | (with_reducible refine xAlloc ?_ _) | (with_reducible refine Below.drew ?_) | (with_reducible refine xDrewN ?_ _) | (with_reducible refine xThen ?_ (by with_reducible assumption)) | (with_reducible refine Below.setCell ?_ (by first | omega | (simp; omega) | simp) _)))⟩
    · have b2 : (d != f) = true := by simpa using h2
      go_enter Try.func33, Try.ntmps33
      go_wp2
      go_ret
      exact ⟨ret_bool (by simp [h2]), by (repeat' (first | exact Below.refl _ _ | (with_reducible assumption) | (with_reducible refine xAlloc ?_ _) | (with_reducible refine Below.drew ?_) | (with_reducible refine xDrewN ?_ _) | (with_reducible refine xThen ?_ (by with_reducible assumption)) | (with_reducible refine Below.setCell ?_ (by first | omega | (simp; omega) | simp) _)))⟩
  · have b1 : (x != y) = true := by simpa using h1
    go_enter Try.func33, Try.ntmps33
    go_wp2
    go_ret
    exact ⟨ret_bool (by simp [h1]), by (repeat' (first | exact Below.refl _ _ | (with_reducible assumption) | (with_reducible refine xAlloc ?_ _) | (with_reducible refine Below.drew ?_) | (with_reducible refine xDrewN ?_ _) | (with_reducible refine xThen ?_ (by with_reducible assumption)) | (with_reducible refine Below.setCell ?_ (by first | omega | (simp; omega) | simp) _)))⟩

theorem eqExact_same (x d : Int) (w : World) :
    Calls Try.prog 33 #[.agg #[.int .i64 x, .int .i64 d], .agg #[.int .i64 x, .int .i64 d]] w fun e w' => e = .returned (.bool true) ∧ Below w.heap.size w w' := by
  have := eqExact_any x d x d w
  simpa using this

end Go.Proofs.Ytdifaojcjcnokaa
