/-
  Contracts of both pip counts, of the checks of a position, and of both BearoffPips functions and the law over them: it returns true for every variant and position; no condition.
-/
import Derived.Test.YtdifaojcjcnokaaBearoff
namespace Go.Proofs.Ytdifaojcjcnokaa
open Go.RowKit

theorem fits_bd {left : Int} {zs : List Int} (h0 : 0 ≤ left) (h : fits left zs = true) : ∀ i, 0 ≤ zs.getD i 0 ∧ zs.getD i 0 ≤ left := by
  induction zs generalizing left with
  | nil => intro i; simpa using h0
  | cons z zs ih =>
    simp [fits] at h
    obtain ⟨⟨h1, h2⟩, h3⟩ := h
    intro i
    cases i with
    | zero => exact ⟨h1, h2⟩
    | succ i =>
      have := ih (by omega) h3 i
      simp at this ⊢
      omega

/-- the pips of the first k points -/
def pipsTo (zs : List Int) : Nat → Int
  | 0 => 0
  | k + 1 => pipsTo zs k + ((k : Int) + 1) * zs.getD k 0

theorem mul_bd {a b : Int} {m n : Int} (a0 : 0 ≤ a) (a1 : a ≤ m) (b0 : 0 ≤ b) (b1 : b ≤ n) : 0 ≤ a * b ∧ a * b ≤ m * n :=
  ⟨Int.mul_nonneg a0 b0, Int.mul_le_mul a1 b1 b0 (by omega)⟩

theorem pipsTo_bd {zs : List Int} (hz : ∀ i, 0 ≤ zs.getD i 0 ∧ zs.getD i 0 ≤ 15) : ∀ k, k ≤ 25 → 0 ≤ pipsTo zs k ∧ pipsTo zs k ≤ 375 * k
  | 0, _ => by simp [pipsTo]
  | k + 1, h => by
    have ih := pipsTo_bd hz k (by omega)
    have := mul_bd (a := (k : Int) + 1) (m := 25) (by omega) (by omega) (hz k).1 (hz k).2
    simp only [pipsTo]
    omega

theorem pips_any (v : Value) (zs : List Int) (w : World) (hI : IntsAt w v zs) (hz : ∀ i, 0 ≤ zs.getD i 0 ∧ zs.getD i 0 ≤ 15) (hl : zs.length ≤ 25) :
    Calls Try.prog 58 #[v] w fun e w' => e = .returned (.int .i64 (pipsTo zs zs.length)) ∧ w = w' := by
  obtain ⟨a, cap, rfl, hm, ha⟩ := hI
  have HZ := hid hz
  clear hz
  go_enter Try.func58, Try.ntmps58
  go_wp2
  go_loop [3, 4, 5, 8] (fun s _ _ i => ∃ k : Nat, k ≤ zs.length ∧ i = .int .i64 k ∧ s = .int .i64 (pipsTo zs k)) (fun _ _ _ i => zs.length - (intOf i).toNat)
  case atStart => exact ⟨0, by omega, rfl, rfl⟩
  case round =>
    obtain ⟨k, hk, rfl, rfl⟩ := hrel
    by_cases hlt : k < zs.length
    · obtain ⟨b, off, rfl, hcell⟩ := ha.resolve_left (by rintro rfl; simp at hlt)
      have hx := hcell k hlt
      have hs := pipsTo_bd HZ.out k (by omega)
      have hp := mul_bd (a := (k : Int) + 1) (m := 25) (by omega) (by omega) (HZ.out k).1 (HZ.out k).2
      have HN : Hid (pipsTo zs (k + 1) = pipsTo zs k + ((k : Int) + 1) * zs.getD k 0) := rfl
      have hx2 := HZ.out k
      obtain ⟨x, HX⟩ := named (zs.getD k 0)
      rw [← HX.out] at hx hp HN hx2
      clear hcell ha
      go_wp2
      go_round
      case rel => exact ⟨k + 1, by omega, by go_num, num HN.out.symm⟩
      case measure => simp [intOf]; omega
    · have : k = zs.length := by omega
      go_wp2
      go_ret
      exact ⟨rfl, rfl⟩

theorem l10Pips_any (v : Value) (zs : List Int) (w : World) (hI : IntsAt w v zs) (hz : ∀ i, 0 ≤ zs.getD i 0 ∧ zs.getD i 0 ≤ 15) (hl : zs.length ≤ 25) :
    Calls Try.prog 56 #[v] w fun e w' => e = .returned (.int .i64 (pipsTo zs zs.length)) ∧ w = w' := by
  obtain ⟨a, cap, rfl, hm, ha⟩ := hI
  have HZ := hid hz
  clear hz
  go_enter Try.func56, Try.ntmps56
  go_wp2
  go_loop [3, 4] (fun s i => ∃ k : Nat, k ≤ zs.length ∧ i = .int .i64 k ∧ s = .int .i64 (pipsTo zs k)) (fun _ i => zs.length - (intOf i).toNat)
  case atStart => exact ⟨0, by omega, rfl, rfl⟩
  case round =>
    obtain ⟨k, hk, rfl, rfl⟩ := hrel
    by_cases hlt : k < zs.length
    · obtain ⟨b, off, rfl, hcell⟩ := ha.resolve_left (by rintro rfl; simp at hlt)
      have hx := hcell k hlt
      have hs := pipsTo_bd HZ.out k (by omega)
      have hp := mul_bd (a := (k : Int) + 1) (m := 25) (by omega) (by omega) (HZ.out k).1 (HZ.out k).2
      have HN : Hid (pipsTo zs (k + 1) = pipsTo zs k + ((k : Int) + 1) * zs.getD k 0) := rfl
      have hx2 := HZ.out k
      obtain ⟨x, HX⟩ := named (zs.getD k 0)
      rw [← HX.out] at hx hp HN hx2
      clear hcell ha
      go_wp2
      go_round
      case rel => exact ⟨k + 1, by omega, by go_num, num HN.out.symm⟩
      case measure => simp [intOf]; omega
    · have : k = zs.length := by omega
      go_wp2
      go_ret
      exact ⟨rfl, rfl⟩

/-- the code of a variant and a position -/
def codeZ (p c h s : Int) (zs : List Int) : Int := if varB p c h s then (if bearB c h zs then 0 else 2) else 1

theorem checkB_any (p c h s : Int) (v : Value) (zs : List Int) (w : World) (hI : IntsAt w v zs) :
    Calls Try.prog 57 #[.agg #[.int .i64 p, .int .i64 c, .int .i64 h, .int .i64 s], v] w fun e w' => e = .returned (.int .i64 (codeZ p c h s zs)) ∧ Below w.heap.size w w' := by
  cases hv : varB p c h s
  · go_enter Try.func57, Try.ntmps57
    go_wp2_with (go_at_call 49; refine (isVariant_any _ _ _ _ _).mono ?_; rintro e w1 ⟨rfl, hb⟩; obtain ⟨hc, hf⟩ := bcell hb; have hsz := hb.size; (try simp at hsz); (try have hy0 : w.heap.size < w1.heap.size := by omega); (try have hy1 : w.heap.size + 1 < w1.heap.size := by omega); (try have hy2 : w.heap.size + 2 < w1.heap.size := by omega); (try have hyS : ws.heap.size < w1.heap.size := by omega); (try have hyG : wg.heap.size < w1.heap.size := by omega))
    go_ret
    exact ⟨by simp [codeZ, hv], by (repeat' (first | exact Below.refl _ _ | (with_reducible assumption) | (with_reducible refine xAlloc ?_ _) | (with_reducible refine Below.drew ?_) | (with_reducible refine xDrewN ?_ _) | (with_reducible refine xThen ?_ (by with_reducible assumption)) | (with_reducible refine Below.setCell ?_ (by first | omega | (simp; omega) | simp) _)))⟩
  · have hr := varB_true hv
    cases hbear : bearB c h zs
    all_goals
      go_enter Try.func57, Try.ntmps57
      go_wp2_with (first | (go_at_call 49; refine (isVariant_any _ _ _ _ _).mono ?_; rintro e w1 ⟨rfl, hb⟩; obtain ⟨hc, hf⟩ := bcell hb; have hsz := hb.size; (try simp at hsz); (try have hy0 : w.heap.size < w1.heap.size := by omega); (try have hy1 : w.heap.size + 1 < w1.heap.size := by omega); (try have hy2 : w.heap.size + 2 < w1.heap.size := by omega); (try have hyS : ws.heap.size < w1.heap.size := by omega); (try have hyG : wg.heap.size < w1.heap.size := by omega)) | (go_at_call 52; refine (implIsB_any _ _ _ _ _ zs _ (by omega) (by omega) (by (repeat (first | (with_reducible exact IntsAt.made _ _ (by omega) _) | (with_reducible assumption) | (with_reducible refine IntsAt.alloc ?_ _) | (with_reducible refine IntsAt.drew ?_) | (with_reducible refine IntsAt.drewN ?_ _) | (with_reducible refine IntsAt.mono ?_ (by with_reducible assumption)))))).mono ?_; rintro e w1 ⟨rfl, hb⟩; obtain ⟨hc, hf⟩ := bcell hb; have hsz := hb.size; (try simp at hsz); (try have hy0 : w.heap.size < w1.heap.size := by omega); (try have hy1 : w.heap.size + 1 < w1.heap.size := by omega); (try have hy2 : w.heap.size + 2 < w1.heap.size := by omega); (try have hyS : ws.heap.size < w1.heap.size := by omega); (try have hyG : wg.heap.size < w1.heap.size := by omega)))
      go_ret
      exact ⟨by simp [codeZ, hv, hbear], by (repeat' (first | exact Below.refl _ _ | (with_reducible assumption) | (with_reducible refine xAlloc ?_ _) | (with_reducible refine Below.drew ?_) | (with_reducible refine xDrewN ?_ _) | (with_reducible refine xThen ?_ (by with_reducible assumption)) | (with_reducible refine Below.setCell ?_ (by first | omega | (simp; omega) | simp) _)))⟩

theorem l10Code_any (p c h s : Int) (v : Value) (zs : List Int) (w : World) (hI : IntsAt w v zs) :
    Calls Try.prog 55 #[.agg #[.int .i64 p, .int .i64 c, .int .i64 h, .int .i64 s], v] w fun e w' => e = .returned (.int .i64 (codeZ p c h s zs)) ∧ Below w.heap.size w w' := by
  cases hv : varB p c h s
  · go_enter Try.func55, Try.ntmps55
    go_wp2_with (go_at_call 47; refine (specIsVariant_any _ _ _ _ _).mono ?_; rintro e w1 ⟨rfl, hb⟩; obtain ⟨hc, hf⟩ := bcell hb; have hsz := hb.size; (try simp at hsz); (try have hy0 : w.heap.size < w1.heap.size := by omega); (try have hy1 : w.heap.size + 1 < w1.heap.size := by omega); (try have hy2 : w.heap.size + 2 < w1.heap.size := by omega); (try have hyS : ws.heap.size < w1.heap.size := by omega); (try have hyG : wg.heap.size < w1.heap.size := by omega))
    go_ret
    exact ⟨by simp [codeZ, hv], by (repeat' (first | exact Below.refl _ _ | (with_reducible assumption) | (with_reducible refine xAlloc ?_ _) | (with_reducible refine Below.drew ?_) | (with_reducible refine xDrewN ?_ _) | (with_reducible refine xThen ?_ (by with_reducible assumption)) | (with_reducible refine Below.setCell ?_ (by first | omega | (simp; omega) | simp) _)))⟩
  · have hr := varB_true hv
    cases hbear : bearB c h zs
    all_goals
      go_enter Try.func55, Try.ntmps55
      go_wp2_with (first | (go_at_call 47; refine (specIsVariant_any _ _ _ _ _).mono ?_; rintro e w1 ⟨rfl, hb⟩; obtain ⟨hc, hf⟩ := bcell hb; have hsz := hb.size; (try simp at hsz); (try have hy0 : w.heap.size < w1.heap.size := by omega); (try have hy1 : w.heap.size + 1 < w1.heap.size := by omega); (try have hy2 : w.heap.size + 2 < w1.heap.size := by omega); (try have hyS : ws.heap.size < w1.heap.size := by omega); (try have hyG : wg.heap.size < w1.heap.size := by omega)) | (go_at_call 51; refine (specIsB_any _ _ _ _ _ zs _ (by omega) (by omega) (by (repeat (first | (with_reducible exact IntsAt.made _ _ (by omega) _) | (with_reducible assumption) | (with_reducible refine IntsAt.alloc ?_ _) | (with_reducible refine IntsAt.drew ?_) | (with_reducible refine IntsAt.drewN ?_ _) | (with_reducible refine IntsAt.mono ?_ (by with_reducible assumption)))))).mono ?_; rintro e w1 ⟨rfl, hb⟩; obtain ⟨hc, hf⟩ := bcell hb; have hsz := hb.size; (try simp at hsz); (try have hy0 : w.heap.size < w1.heap.size := by omega); (try have hy1 : w.heap.size + 1 < w1.heap.size := by omega); (try have hy2 : w.heap.size + 2 < w1.heap.size := by omega); (try have hyS : ws.heap.size < w1.heap.size := by omega); (try have hyG : wg.heap.size < w1.heap.size := by omega)))
      go_ret
      exact ⟨by simp [codeZ, hv, hbear], by (repeat' (first | exact Below.refl _ _ | (with_reducible assumption) | (with_reducible refine xAlloc ?_ _) | (with_reducible refine Below.drew ?_) | (with_reducible refine xDrewN ?_ _) | (with_reducible refine xThen ?_ (by with_reducible assumption)) | (with_reducible refine Below.setCell ?_ (by first | omega | (simp; omega) | simp) _)))⟩

theorem codeZ_cases (p c h s : Int) (zs : List Int) : (codeZ p c h s zs = 1 ∨ codeZ p c h s zs = 2) ∨ (codeZ p c h s zs = 0 ∧ varB p c h s = true ∧ bearB c h zs = true) := by
  unfold codeZ
  cases varB p c h s <;> cases bearB c h zs <;> simp

theorem bearB_true {c h : Int} {zs : List Int} (h0 : 0 ≤ c) (hb : bearB c h zs = true) : (zs.length : Int) = h ∧ fits c zs = true ∧ ∀ i, 0 ≤ zs.getD i 0 ∧ zs.getD i 0 ≤ c := by
  simp [bearB] at hb
  exact ⟨hb.1, hb.2, fits_bd h0 hb.2⟩

/-- what BearoffPips returns -/
def bearPipsZ (p c h s : Int) (zs : List Int) : Int := if codeZ p c h s zs = 0 then pipsTo zs zs.length else 0

theorem implPips_any (p c h s : Int) (v : Value) (zs : List Int) (w : World) (hI : IntsAt w v zs) :
    Calls Try.prog 26 #[.agg #[.int .i64 p, .int .i64 c, .int .i64 h, .int .i64 s], v] w fun e w' => e = .returned (.tuple #[.int .i64 (bearPipsZ p c h s zs), .int .i64 (codeZ p c h s zs)]) ∧ Below w.heap.size w w' := by
  rcases codeZ_cases p c h s zs with hc | ⟨hc, hv, hb⟩
  · have hn : (codeZ p c h s zs != 0) = true := by simp; omega
    have HC := hid hc
    clear hc
    go_enter Try.func26, Try.ntmps26
    go_wp2_with (go_at_call 57; refine (checkB_any _ _ _ _ _ zs _ (by (repeat (first | (with_reducible exact IntsAt.made _ _ (by omega) _) | (with_reducible assumption) | (with_reducible refine IntsAt.alloc ?_ _) | (with_reducible refine IntsAt.drew ?_) | (with_reducible refine IntsAt.drewN ?_ _) | (with_reducible refine IntsAt.mono ?_ (by with_reducible assumption)))))).mono ?_; rintro e w1 ⟨rfl, hb⟩; obtain ⟨hc, hf⟩ := bcell hb; have hsz := hb.size; (try simp at hsz); (try have hy0 : w.heap.size < w1.heap.size := by omega); (try have hy1 : w.heap.size + 1 < w1.heap.size := by omega); (try have hy2 : w.heap.size + 2 < w1.heap.size := by omega); (try have hyS : ws.heap.size < w1.heap.size := by omega); (try have hyG : wg.heap.size < w1.heap.size := by omega))
    go_ret2
    exact ⟨ret_ii (by have := HC.out; simp [bearPipsZ]; omega) rfl, by (repeat' (first | exact Below.refl _ _ | (with_reducible assumption) | (with_reducible refine xAlloc ?_ _) | (with_reducible refine Below.drew ?_) | (with_reducible refine xDrewN ?_ _) | (with_reducible refine xThen ?_ (by with_reducible assumption)) | (with_reducible refine Below.setCell ?_ (by first | omega | (simp; omega) | simp) _)))⟩
  · have hn : (codeZ p c h s zs != 0) = false := by simp; omega
    have hr := varB_true hv
    have hq := bearB_true (by omega) hb
    have HQ := hid hq
    have HC := hid hc
    clear hq hc hb
    go_enter Try.func26, Try.ntmps26
    go_wp2_with (first | (go_at_call 57; refine (checkB_any _ _ _ _ _ zs _ (by (repeat (first | (with_reducible exact IntsAt.made _ _ (by omega) _) | (with_reducible assumption) | (with_reducible refine IntsAt.alloc ?_ _) | (with_reducible refine IntsAt.drew ?_) | (with_reducible refine IntsAt.drewN ?_ _) | (with_reducible refine IntsAt.mono ?_ (by with_reducible assumption)))))).mono ?_; rintro e w1 ⟨rfl, hb⟩; obtain ⟨hc, hf⟩ := bcell hb; have hsz := hb.size; (try simp at hsz); (try have hy0 : w.heap.size < w1.heap.size := by omega); (try have hy1 : w.heap.size + 1 < w1.heap.size := by omega); (try have hy2 : w.heap.size + 2 < w1.heap.size := by omega); (try have hyS : ws.heap.size < w1.heap.size := by omega); (try have hyG : wg.heap.size < w1.heap.size := by omega)) | (go_at_call 58; refine (pips_any _ zs _ (by (repeat (first | (with_reducible exact IntsAt.made _ _ (by omega) _) | (with_reducible assumption) | (with_reducible refine IntsAt.alloc ?_ _) | (with_reducible refine IntsAt.drew ?_) | (with_reducible refine IntsAt.drewN ?_ _) | (with_reducible refine IntsAt.mono ?_ (by with_reducible assumption))))) (fun i => by have := HQ.out.2.2 i; omega) (by have := HQ.out.1; omega)).mono ?_; rintro e w' ⟨rfl, rfl⟩))
    go_ret2
    exact ⟨ret_ii (by simp [bearPipsZ, HC.out]) HC.out.symm, by (repeat' (first | exact Below.refl _ _ | (with_reducible assumption) | (with_reducible refine xAlloc ?_ _) | (with_reducible refine Below.drew ?_) | (with_reducible refine xDrewN ?_ _) | (with_reducible refine xThen ?_ (by with_reducible assumption)) | (with_reducible refine Below.setCell ?_ (by first | omega | (simp; omega) | simp) _)))⟩

theorem specPips_any (p c h s : Int) (v : Value) (zs : List Int) (w : World) (hI : IntsAt w v zs) :
    Calls Try.prog 25 #[.agg #[.int .i64 p, .int .i64 c, .int .i64 h, .int .i64 s], v] w fun e w' => e = .returned (.tuple #[.int .i64 (bearPipsZ p c h s zs), .int .i64 (codeZ p c h s zs)]) ∧ Below w.heap.size w w' := by
  rcases codeZ_cases p c h s zs with hc | ⟨hc, hv, hb⟩
  · have hn : (codeZ p c h s zs != 0) = true := by simp; omega
    have HC := hid hc
    clear hc
    go_enter Try.func25, Try.ntmps25
    go_wp2_with (go_at_call 55; refine (l10Code_any _ _ _ _ _ zs _ (by (repeat (first | (with_reducible exact IntsAt.made _ _ (by omega) _) | (with_reducible assumption) | (with_reducible refine IntsAt.alloc ?_ _) | (with_reducible refine IntsAt.drew ?_) | (with_reducible refine IntsAt.drewN ?_ _) | (with_reducible refine IntsAt.mono ?_ (by with_reducible assumption)))))).mono ?_; rintro e w1 ⟨rfl, hb⟩; obtain ⟨hc, hf⟩ := bcell hb; have hsz := hb.size; (try simp at hsz); (try have hy0 : w.heap.size < w1.heap.size := by omega); (try have hy1 : w.heap.size + 1 < w1.heap.size := by omega); (try have hy2 : w.heap.size + 2 < w1.heap.size := by omega); (try have hyS : ws.heap.size < w1.heap.size := by omega); (try have hyG : wg.heap.size < w1.heap.size := by omega))
    go_ret2
    exact ⟨ret_ii (by have := HC.out; simp [bearPipsZ]; omega) rfl, by (repeat' (first | exact Below.refl _ _ | (with_reducible assumption) | (with_reducible refine xAlloc ?_ _) | (with_reducible refine Below.drew ?_) | (with_reducible refine xDrewN ?_ _) | (with_reducible refine xThen ?_ (by with_reducible assumption)) | (with_reducible refine Below.setCell ?_ (by first | omega | (simp; omega) | simp) _)))⟩
  · have hn : (codeZ p c h s zs != 0) = false := by simp; omega
    have hr := varB_true hv
    have hq := bearB_true (by omega) hb
    have HQ := hid hq
    have HC := hid hc
    clear hq hc hb
    go_enter Try.func25, Try.ntmps25
    go_wp2_with (first | (go_at_call 55; refine (l10Code_any _ _ _ _ _ zs _ (by (repeat (first | (with_reducible exact IntsAt.made _ _ (by omega) _) | (with_reducible assumption) | (with_reducible refine IntsAt.alloc ?_ _) | (with_reducible refine IntsAt.drew ?_) | (with_reducible refine IntsAt.drewN ?_ _) | (with_reducible refine IntsAt.mono ?_ (by with_reducible assumption)))))).mono ?_; rintro e w1 ⟨rfl, hb⟩; obtain ⟨hc, hf⟩ := bcell hb; have hsz := hb.size; (try simp at hsz); (try have hy0 : w.heap.size < w1.heap.size := by omega); (try have hy1 : w.heap.size + 1 < w1.heap.size := by omega); (try have hy2 : w.heap.size + 2 < w1.heap.size := by omega); (try have hyS : ws.heap.size < w1.heap.size := by omega); (try have hyG : wg.heap.size < w1.heap.size := by omega)) | (go_at_call 56; refine (l10Pips_any _ zs _ (by (repeat (first | (with_reducible exact IntsAt.made _ _ (by omega) _) | (with_reducible assumption) | (with_reducible refine IntsAt.alloc ?_ _) | (with_reducible refine IntsAt.drew ?_) | (with_reducible refine IntsAt.drewN ?_ _) | (with_reducible refine IntsAt.mono ?_ (by with_reducible assumption))))) (fun i => by have := HQ.out.2.2 i; omega) (by have := HQ.out.1; omega)).mono ?_; rintro e w' ⟨rfl, rfl⟩))
    go_ret2
    exact ⟨ret_ii (by simp [bearPipsZ, HC.out]) HC.out.symm, by (repeat' (first | exact Below.refl _ _ | (with_reducible assumption) | (with_reducible refine xAlloc ?_ _) | (with_reducible refine Below.drew ?_) | (with_reducible refine xDrewN ?_ _) | (with_reducible refine xThen ?_ (by with_reducible assumption)) | (with_reducible refine Below.setCell ?_ (by first | omega | (simp; omega) | simp) _)))⟩

theorem lawPips (p c h s : Int) (_ : (Lit.int .i64 p).wf = true) (_ : (Lit.int .i64 c).wf = true) (_ : (Lit.int .i64 h).wf = true) (_ : (Lit.int .i64 s).wf = true)
    (a : Option Addr) (len cap : Nat) (z : List Int) (w : World) (hr : IsRow .i64 w a len cap z) :
    Calls Try.prog 6 #[.agg #[.int .i64 p, .int .i64 c, .int .i64 h, .int .i64 s], .slice a len cap] w fun e w' => e = .returned (.bool true) ∧ Below w.heap.size w w' := by
  by_cases hl : len ≤ 1048576
  · obtain ⟨zs, rfl, hI, h64⟩ := isRow_ints hr hl
    clear hr h64
    go_enter Try.func6, Try.ntmps6
    go_wp2_with (first | (go_at_call 16; refine (toVariant_any _ _ _ _ _).mono ?_; rintro e w1 ⟨rfl, hb⟩; obtain ⟨hc, hf⟩ := bcell hb; have hsz := hb.size; (try simp at hsz); (try have hy0 : w.heap.size < w1.heap.size := by omega); (try have hy1 : w.heap.size + 1 < w1.heap.size := by omega); (try have hy2 : w.heap.size + 2 < w1.heap.size := by omega); (try have hyS : ws.heap.size < w1.heap.size := by omega); (try have hyG : wg.heap.size < w1.heap.size := by omega)) | (go_at_call 19; refine (toInts_any _ zs _ (by (repeat (first | (with_reducible exact IntsAt.made _ _ (by omega) _) | (with_reducible assumption) | (with_reducible refine IntsAt.alloc ?_ _) | (with_reducible refine IntsAt.drew ?_) | (with_reducible refine IntsAt.drewN ?_ _) | (with_reducible refine IntsAt.mono ?_ (by with_reducible assumption)))))).mono ?_; rintro e w' ⟨rfl, rfl⟩) | (go_at_call 25; refine (specPips_any _ _ _ _ _ zs _ (by (repeat (first | (with_reducible exact IntsAt.made _ _ (by omega) _) | (with_reducible assumption) | (with_reducible refine IntsAt.alloc ?_ _) | (with_reducible refine IntsAt.drew ?_) | (with_reducible refine IntsAt.drewN ?_ _) | (with_reducible refine IntsAt.mono ?_ (by with_reducible assumption)))))).mono ?_; rintro e w1 ⟨rfl, hb⟩; obtain ⟨hc, hf⟩ := bcell hb; have hsz := hb.size; (try simp at hsz); (try have hy0 : w.heap.size < w1.heap.size := by omega); (try have hy1 : w.heap.size + 1 < w1.heap.size := by omega); (try have hy2 : w.heap.size + 2 < w1.heap.size := by omega); (try have hyS : ws.heap.size < w1.heap.size := by omega); (try have hyG : wg.heap.size < w1.heap.size := by omega)) | (go_at_call 26; refine (implPips_any _ _ _ _ _ zs _ (by (repeat (first | (with_reducible exact IntsAt.made _ _ (by omega) _) | (with_reducible assumption) | (with_reducible refine IntsAt.alloc ?_ _) | (with_reducible refine IntsAt.drew ?_) | (with_reducible refine IntsAt.drewN ?_ _) | (with_reducible refine IntsAt.mono ?_ (by with_reducible assumption)))))).mono ?_; rintro e w1 ⟨rfl, hb⟩; obtain ⟨hc, hf⟩ := bcell hb; have hsz := hb.size; (try simp at hsz); (try have hy0 : w.heap.size < w1.heap.size := by omega); (try have hy1 : w.heap.size + 1 < w1.heap.size := by omega); (try have hy2 : w.heap.size + 2 < w1.heap.size := by omega); (try have hyS : ws.heap.size < w1.heap.size := by omega); (try have hyG : wg.heap.size < w1.heap.size := by omega)) | (go_at_call 21; refine (eqInts_any _ _ zs zs _ (by (repeat (first | (with_reducible exact IntsAt.made _ _ (by omega) _) | (with_reducible assumption) | (with_reducible refine IntsAt.alloc ?_ _) | (with_reducible refine IntsAt.drew ?_) | (with_reducible refine IntsAt.drewN ?_ _) | (with_reducible refine IntsAt.mono ?_ (by with_reducible assumption))))) (by (repeat (first | (with_reducible exact IntsAt.made _ _ (by omega) _) | (with_reducible assumption) | (with_reducible refine IntsAt.alloc ?_ _) | (with_reducible refine IntsAt.drew ?_) | (with_reducible refine IntsAt.drewN ?_ _) | (with_reducible refine IntsAt.mono ?_ (by with_reducible assumption)))))).mono ?_; rintro e w' ⟨rfl, n, rfl⟩))
    go_ret
    exact ⟨rfl, by (repeat' (first | exact Below.refl _ _ | (with_reducible assumption) | (with_reducible refine xAlloc ?_ _) | (with_reducible refine Below.drew ?_) | (with_reducible refine xDrewN ?_ _) | (with_reducible refine xThen ?_ (by with_reducible assumption)) | (with_reducible refine Below.setCell ?_ (by first | omega | (simp; omega) | simp) _)))⟩
  · go_enter Try.func6, Try.ntmps6
    go_wp2
    go_ret
    exact ⟨rfl, by (repeat' (first | exact Below.refl _ _ | (with_reducible assumption) | (with_reducible refine xAlloc ?_ _) | (with_reducible refine Below.drew ?_) | (with_reducible refine xDrewN ?_ _) | (with_reducible refine xThen ?_ (by with_reducible assumption)) | (with_reducible refine Below.setCell ?_ (by first | omega | (simp; omega) | simp) _)))⟩
end Go.Proofs.Ytdifaojcjcnokaa
