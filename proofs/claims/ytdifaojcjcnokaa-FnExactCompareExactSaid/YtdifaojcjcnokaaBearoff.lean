/-
  Contracts of both isBearoff functions and of both IsBearoff functions: they tell whether a list is a bear-off position; for every list of at most 2^20 elements.
-/
import Derived.Test.YtdifaojcjcnokaaInts
namespace Go.Proofs.Ytdifaojcjcnokaa
open Go.RowKit

/-- no element is negative, and the sum is at most left -/
def fits (left : Int) : List Int → Bool
  | [] => true
  | z :: zs => decide (0 ≤ z) && decide (z ≤ left) && fits (left - z) zs

def bearB (c h : Int) (zs : List Int) : Bool := decide ((zs.length : Int) = h) && fits c zs

theorem fits_drop (left : Int) (zs : List Int) (k : Nat) (h : k < zs.length) :
    fits left (zs.drop k) = (decide (0 ≤ zs.getD k 0) && decide (zs.getD k 0 ≤ left) && fits (left - zs.getD k 0) (zs.drop (k + 1))) := by
  rw [List.drop_eq_getElem_cons h]
  simp [fits, h]

theorem implIsB_any (p c h s : Int) (v : Value) (zs : List Int) (w : World) (hc0 : 0 ≤ c) (hc1 : c ≤ 15) (hI : IntsAt w v zs) :
    Calls Try.prog 52 #[.agg #[.int .i64 p, .int .i64 c, .int .i64 h, .int .i64 s], v] w fun e w' => e = .returned (.bool (bearB c h zs)) ∧ Below w.heap.size w w' := by
  obtain ⟨a, cap, rfl, hm, hz⟩ := hI
  by_cases hl : (zs.length : Int) = h
  · have hb : ((zs.length : Int) != h) = false := by simpa using hl
    have HL := hid hl
    clear hl
    go_enter Try.func52, Try.ntmps52
    go_wp2
    go_loop [5, 7, 17] (fun l n i => ∃ (k : Nat) (left : Int), k ≤ zs.length ∧ i = .int .i64 k ∧ l = .int .i64 left ∧ 0 ≤ left ∧ left ≤ 15 ∧ fits c zs = fits left (zs.drop k)) (fun _ _ i => zs.length - (intOf i).toNat)
    case atStart => exact ⟨0, c, by omega, rfl, rfl, by omega, by omega, rfl⟩
    case round =>
      obtain ⟨k, left, hk, rfl, rfl, h0, h1, hf⟩ := hrel
      have HF := hid hf
      clear hf
      by_cases hlt : k < zs.length
      · obtain ⟨b, off, rfl, hcell⟩ := hz.resolve_left (by rintro rfl; simp at hlt)
        have hx := hcell k hlt
        have HB := cell_block hx
        have HD := hid (fits_drop left zs k hlt)
        obtain ⟨x, HX⟩ := named (zs.getD k 0)
        rw [← HX.out] at hx HD
        clear hcell hz
        by_cases x0 : x < 0
        · go_wp2
          go_ret
          exact ⟨ret_bool (by
            simp [bearB, HL.out, HF.out, HD.out]; omega), by (repeat' (first | exact Below.refl _ _ | (with_reducible assumption) | (with_reducible refine xAlloc ?_ _) | (with_reducible refine Below.drew ?_) | (with_reducible refine xDrewN ?_ _) | (with_reducible refine xThen ?_ (by with_reducible assumption)) | (with_reducible refine Below.setCell ?_ (by first | omega | (simp; omega) | simp) _)))⟩
        · by_cases x1 : left < x
          · go_wp2
            go_ret
            exact ⟨ret_bool (by
              simp [bearB, HL.out, HF.out, HD.out]; omega), by (repeat' (first | exact Below.refl _ _ | (with_reducible assumption) | (with_reducible refine xAlloc ?_ _) | (with_reducible refine Below.drew ?_) | (with_reducible refine xDrewN ?_ _) | (with_reducible refine xThen ?_ (by with_reducible assumption)) | (with_reducible refine Below.setCell ?_ (by first | omega | (simp; omega) | simp) _)))⟩
          · go_wp2
            go_round
            case rel => exact ⟨k + 1, left - x, by omega, by go_num, rfl, by omega, by omega, by rw [HF.out, HD.out]; simp; omega⟩
            case measure => simp [intOf]; omega
      · have : k = zs.length := by omega
        go_wp2
        go_ret
        exact ⟨ret_bool (by simp [bearB, HL.out, HF.out, this, fits]), by (repeat' (first | exact Below.refl _ _ | (with_reducible assumption) | (with_reducible refine xAlloc ?_ _) | (with_reducible refine Below.drew ?_) | (with_reducible refine xDrewN ?_ _) | (with_reducible refine xThen ?_ (by with_reducible assumption)) | (with_reducible refine Below.setCell ?_ (by first | omega | (simp; omega) | simp) _)))⟩
  · have hb : ((zs.length : Int) != h) = true := by simpa using hl
    go_enter Try.func52, Try.ntmps52
    go_wp2
    go_ret
    exact ⟨ret_bool (by simp [bearB, hl]), by (repeat' (first | exact Below.refl _ _ | (with_reducible assumption) | (with_reducible refine xAlloc ?_ _) | (with_reducible refine Below.drew ?_) | (with_reducible refine xDrewN ?_ _) | (with_reducible refine xThen ?_ (by with_reducible assumption)) | (with_reducible refine Below.setCell ?_ (by first | omega | (simp; omega) | simp) _)))⟩

theorem specIsB_any (p c h s : Int) (v : Value) (zs : List Int) (w : World) (hc0 : 0 ≤ c) (hc1 : c ≤ 15) (hI : IntsAt w v zs) :
    Calls Try.prog 51 #[.agg #[.int .i64 p, .int .i64 c, .int .i64 h, .int .i64 s], v] w fun e w' => e = .returned (.bool (bearB c h zs)) ∧ Below w.heap.size w w' := by
  obtain ⟨a, cap, rfl, hm, hz⟩ := hI
  by_cases hl : (zs.length : Int) = h
  · have hb : ((zs.length : Int) != h) = false := by simpa using hl
    have HL := hid hl
    clear hl
    go_enter Try.func51, Try.ntmps51
    go_wp2
    go_loop [5, 6] (fun l i => ∃ (k : Nat) (left : Int), k ≤ zs.length ∧ i = .int .i64 k ∧ l = .int .i64 left ∧ 0 ≤ left ∧ left ≤ 15 ∧ fits c zs = fits left (zs.drop k)) (fun _ i => zs.length - (intOf i).toNat)
    case atStart => exact ⟨0, c, by omega, rfl, rfl, by omega, by omega, rfl⟩
    case round =>
      obtain ⟨k, left, hk, rfl, rfl, h0, h1, hf⟩ := hrel
      have HF := hid hf
      clear hf
      by_cases hlt : k < zs.length
      · obtain ⟨b, off, rfl, hcell⟩ := hz.resolve_left (by rintro rfl; simp at hlt)
        have hx := hcell k hlt
        have HB := cell_block hx
        have HD := hid (fits_drop left zs k hlt)
        obtain ⟨x, HX⟩ := named (zs.getD k 0)
        rw [← HX.out] at hx HD
        clear hcell hz
        cases hin : inB x 0 left
        · go_wp2_with (go_at_call 59; refine (l01In_any _ _ _ _).mono ?_; rintro e w' ⟨rfl, rfl⟩)
          go_ret
          exact ⟨ret_bool (by
            have := inB_false hin
            simp [bearB, HL.out, HF.out, HD.out]; omega), by (repeat' (first | exact Below.refl _ _ | (with_reducible assumption) | (with_reducible refine xAlloc ?_ _) | (with_reducible refine Below.drew ?_) | (with_reducible refine xDrewN ?_ _) | (with_reducible refine xThen ?_ (by with_reducible assumption)) | (with_reducible refine Below.setCell ?_ (by first | omega | (simp; omega) | simp) _)))⟩
        · have hin' := inB_true hin
          go_wp2_with (go_at_call 59; refine (l01In_any _ _ _ _).mono ?_; rintro e w' ⟨rfl, rfl⟩)
          go_round
          case rel => exact ⟨k + 1, left - x, by omega, by go_num, rfl, by omega, by omega, by rw [HF.out, HD.out]; simp [hin']⟩
          case measure => simp [intOf]; omega
      · have : k = zs.length := by omega
        go_wp2
        go_ret
        exact ⟨ret_bool (by simp [bearB, HL.out, HF.out, this, fits]), by (repeat' (first | exact Below.refl _ _ | (with_reducible assumption) | (with_reducible refine xAlloc ?_ _) | (with_reducible refine Below.drew ?_) | (with_reducible refine xDrewN ?_ _) | (with_reducible refine xThen ?_ (by with_reducible assumption)) | (with_reducible refine Below.setCell ?_ (by first | omega | (simp; omega) | simp) _)))⟩
  · have hb : ((zs.length : Int) != h) = true := by simpa using hl
    go_enter Try.func51, Try.ntmps51
    go_wp2
    go_ret
    exact ⟨ret_bool (by simp [bearB, hl]), by (repeat' (first | exact Below.refl _ _ | (with_reducible assumption) | (with_reducible refine xAlloc ?_ _) | (with_reducible refine Below.drew ?_) | (with_reducible refine xDrewN ?_ _) | (with_reducible refine xThen ?_ (by with_reducible assumption)) | (with_reducible refine Below.setCell ?_ (by first | omega | (simp; omega) | simp) _)))⟩

/-- what IsBearoff returns -/
def isBearZ (p c h s : Int) (zs : List Int) : Bool := varB p c h s && bearB c h zs

theorem implIsBearoff_any (p c h s : Int) (v : Value) (zs : List Int) (w : World) (hI : IntsAt w v zs) :
    Calls Try.prog 20 #[.agg #[.int .i64 p, .int .i64 c, .int .i64 h, .int .i64 s], v] w fun e w' => e = .returned (.bool (isBearZ p c h s zs)) ∧ Below w.heap.size w w' := by
  cases hv : varB p c h s
  · go_enter Try.func20, Try.ntmps20
    go_wp2_with (go_at_call 49; refine (isVariant_any _ _ _ _ _).mono ?_; rintro e w1 ⟨rfl, hb⟩; obtain ⟨hc, hf⟩ := bcell hb; have hsz := hb.size; (try simp at hsz); (try have hy0 : w.heap.size < w1.heap.size := by omega); (try have hy1 : w.heap.size + 1 < w1.heap.size := by omega); (try have hy2 : w.heap.size + 2 < w1.heap.size := by omega); (try have hyS : ws.heap.size < w1.heap.size := by omega); (try have hyG : wg.heap.size < w1.heap.size := by omega))
    go_ret
    exact ⟨by simp [isBearZ, hv], by (repeat' (first | exact Below.refl _ _ | (with_reducible assumption) | (with_reducible refine xAlloc ?_ _) | (with_reducible refine Below.drew ?_) | (with_reducible refine xDrewN ?_ _) | (with_reducible refine xThen ?_ (by with_reducible assumption)) | (with_reducible refine Below.setCell ?_ (by first | omega | (simp; omega) | simp) _)))⟩
  · have hr := varB_true hv
    go_enter Try.func20, Try.ntmps20
    go_wp2_with (first | (go_at_call 49; refine (isVariant_any _ _ _ _ _).mono ?_; rintro e w1 ⟨rfl, hb⟩; obtain ⟨hc, hf⟩ := bcell hb; have hsz := hb.size; (try simp at hsz); (try have hy0 : w.heap.size < w1.heap.size := by omega); (try have hy1 : w.heap.size + 1 < w1.heap.size := by omega); (try have hy2 : w.heap.size + 2 < w1.heap.size := by omega); (try have hyS : ws.heap.size < w1.heap.size := by omega); (try have hyG : wg.heap.size < w1.heap.size := by omega)) | (go_at_call 52; refine (implIsB_any _ _ _ _ _ zs _ (by omega) (by omega) (by (repeat (first | (with_reducible exact IntsAt.made _ _ (by omega) _) | (with_reducible assumption) | (with_reducible refine IntsAt.alloc ?_ _) | (with_reducible refine IntsAt.drew ?_) | (with_reducible refine IntsAt.drewN ?_ _) | (with_reducible refine IntsAt.mono ?_ (by with_reducible assumption)))))).mono ?_; rintro e w1 ⟨rfl, hb⟩; obtain ⟨hc, hf⟩ := bcell hb; have hsz := hb.size; (try simp at hsz); (try have hy0 : w.heap.size < w1.heap.size := by omega); (try have hy1 : w.heap.size + 1 < w1.heap.size := by omega); (try have hy2 : w.heap.size + 2 < w1.heap.size := by omega); (try have hyS : ws.heap.size < w1.heap.size := by omega); (try have hyG : wg.heap.size < w1.heap.size := by omega)))
    go_ret
    exact ⟨by simp [isBearZ, hv], by (repeat' (first | exact Below.refl _ _ | (with_reducible assumption) | (with_reducible refine xAlloc ?_ _) | (with_reducible refine Below.drew ?_) | (with_reducible refine xDrewN ?_ _) | (with_reducible refine xThen ?_ (by with_reducible assumption)) | (with_reducible refine Below.setCell ?_ (by first | omega | (simp; omega) | simp) _)))⟩

theorem specIsBearoff_any (p c h s : Int) (v : Value) (zs : List Int) (w : World) (hI : IntsAt w v zs) :
    Calls Try.prog 18 #[.agg #[.int .i64 p, .int .i64 c, .int .i64 h, .int .i64 s], v] w fun e w' => e = .returned (.bool (isBearZ p c h s zs)) ∧ Below w.heap.size w w' := by
  cases hv : varB p c h s
  · go_enter Try.func18, Try.ntmps18
    go_wp2_with (go_at_call 47; refine (specIsVariant_any _ _ _ _ _).mono ?_; rintro e w1 ⟨rfl, hb⟩; obtain ⟨hc, hf⟩ := bcell hb; have hsz := hb.size; (try simp at hsz); (try have hy0 : w.heap.size < w1.heap.size := by omega); (try have hy1 : w.heap.size + 1 < w1.heap.size := by omega); (try have hy2 : w.heap.size + 2 < w1.heap.size := by omega); (try have hyS : ws.heap.size < w1.heap.size := by omega); (try have hyG : wg.heap.size < w1.heap.size := by omega))
    go_ret
    exact ⟨by simp [isBearZ, hv], by (repeat' (first | exact Below.refl _ _ | (with_reducible assumption) | (with_reducible refine xAlloc ?_ _) | (with_reducible refine Below.drew ?_) | (with_reducible refine xDrewN ?_ _) | (with_reducible refine xThen ?_ (by with_reducible assumption)) | (with_reducible refine Below.setCell ?_ (by first | omega | (simp; omega) | simp) _)))⟩
  · have hr := varB_true hv
    go_enter Try.func18, Try.ntmps18
    go_wp2_with (first | (go_at_call 47; refine (specIsVariant_any _ _ _ _ _).mono ?_; rintro e w1 ⟨rfl, hb⟩; obtain ⟨hc, hf⟩ := bcell hb; have hsz := hb.size; (try simp at hsz); (try have hy0 : w.heap.size < w1.heap.size := by omega); (try have hy1 : w.heap.size + 1 < w1.heap.size := by omega); (try have hy2 : w.heap.size + 2 < w1.heap.size := by omega); (try have hyS : ws.heap.size < w1.heap.size := by omega); (try have hyG : wg.heap.size < w1.heap.size := by omega)) | (go_at_call 51; refine (specIsB_any _ _ _ _ _ zs _ (by omega) (by omega) (by (repeat (first | (with_reducible exact IntsAt.made _ _ (by omega) _) | (with_reducible assumption) | (with_reducible refine IntsAt.alloc ?_ _) | (with_reducible refine IntsAt.drew ?_) | (with_reducible refine IntsAt.drewN ?_ _) | (with_reducible refine IntsAt.mono ?_ (by with_reducible assumption)))))).mono ?_; rintro e w1 ⟨rfl, hb⟩; obtain ⟨hc, hf⟩ := bcell hb; have hsz := hb.size; (try simp at hsz); (try have hy0 : w.heap.size < w1.heap.size := by omega); (try have hy1 : w.heap.size + 1 < w1.heap.size := by omega); (try have hy2 : w.heap.size + 2 < w1.heap.size := by omega); (try have hyS : ws.heap.size < w1.heap.size := by omega); (try have hyG : wg.heap.size < w1.heap.size := by omega)))
    go_ret
    exact ⟨by simp [isBearZ, hv], by (repeat' (first | exact Below.refl _ _ | (with_reducible assumption) | (with_reducible refine xAlloc ?_ _) | (with_reducible refine Below.drew ?_) | (with_reducible refine xDrewN ?_ _) | (with_reducible refine xThen ?_ (by with_reducible assumption)) | (with_reducible refine Below.setCell ?_ (by first | omega | (simp; omega) | simp) _)))⟩

theorem lawIsBearoff (p c h s : Int) (_ : (Lit.int .i64 p).wf = true) (_ : (Lit.int .i64 c).wf = true) (_ : (Lit.int .i64 h).wf = true) (_ : (Lit.int .i64 s).wf = true)
    (a : Option Addr) (len cap : Nat) (z : List Int) (w : World) (hr : IsRow .i64 w a len cap z) :
    Calls Try.prog 4 #[.agg #[.int .i64 p, .int .i64 c, .int .i64 h, .int .i64 s], .slice a len cap] w fun e w' => e = .returned (.bool true) ∧ Below w.heap.size w w' := by
  by_cases hl : len ≤ 1048576
  · obtain ⟨zs, rfl, hI, h64⟩ := isRow_ints hr hl
    clear hr h64
    go_enter Try.func4, Try.ntmps4
    go_wp2_with (first | (go_at_call 16; refine (toVariant_any _ _ _ _ _).mono ?_; rintro e w1 ⟨rfl, hb⟩; obtain ⟨hc, hf⟩ := bcell hb; have hsz := hb.size; (try simp at hsz); (try have hy0 : w.heap.size < w1.heap.size := by omega); (try have hy1 : w.heap.size + 1 < w1.heap.size := by omega); (try have hy2 : w.heap.size + 2 < w1.heap.size := by omega); (try have hyS : ws.heap.size < w1.heap.size := by omega); (try have hyG : wg.heap.size < w1.heap.size := by omega)) | (go_at_call 19; refine (toInts_any _ zs _ (by (repeat (first | (with_reducible exact IntsAt.made _ _ (by omega) _) | (with_reducible assumption) | (with_reducible refine IntsAt.alloc ?_ _) | (with_reducible refine IntsAt.drew ?_) | (with_reducible refine IntsAt.drewN ?_ _) | (with_reducible refine IntsAt.mono ?_ (by with_reducible assumption)))))).mono ?_; rintro e w' ⟨rfl, rfl⟩) | (go_at_call 18; refine (specIsBearoff_any _ _ _ _ _ zs _ (by (repeat (first | (with_reducible exact IntsAt.made _ _ (by omega) _) | (with_reducible assumption) | (with_reducible refine IntsAt.alloc ?_ _) | (with_reducible refine IntsAt.drew ?_) | (with_reducible refine IntsAt.drewN ?_ _) | (with_reducible refine IntsAt.mono ?_ (by with_reducible assumption)))))).mono ?_; rintro e w1 ⟨rfl, hb⟩; obtain ⟨hc, hf⟩ := bcell hb; have hsz := hb.size; (try simp at hsz); (try have hy0 : w.heap.size < w1.heap.size := by omega); (try have hy1 : w.heap.size + 1 < w1.heap.size := by omega); (try have hy2 : w.heap.size + 2 < w1.heap.size := by omega); (try have hyS : ws.heap.size < w1.heap.size := by omega); (try have hyG : wg.heap.size < w1.heap.size := by omega)) | (go_at_call 20; refine (implIsBearoff_any _ _ _ _ _ zs _ (by (repeat (first | (with_reducible exact IntsAt.made _ _ (by omega) _) | (with_reducible assumption) | (with_reducible refine IntsAt.alloc ?_ _) | (with_reducible refine IntsAt.drew ?_) | (with_reducible refine IntsAt.drewN ?_ _) | (with_reducible refine IntsAt.mono ?_ (by with_reducible assumption)))))).mono ?_; rintro e w1 ⟨rfl, hb⟩; obtain ⟨hc, hf⟩ := bcell hb; have hsz := hb.size; (try simp at hsz); (try have hy0 : w.heap.size < w1.heap.size := by omega); (try have hy1 : w.heap.size + 1 < w1.heap.size := by omega); (try have hy2 : w.heap.size + 2 < w1.heap.size := by omega); (try have hyS : ws.heap.size < w1.heap.size := by omega); (try have hyG : wg.heap.size < w1.heap.size := by omega)) | (go_at_call 21; refine (eqInts_any _ _ zs zs _ (by (repeat (first | (with_reducible exact IntsAt.made _ _ (by omega) _) | (with_reducible assumption) | (with_reducible refine IntsAt.alloc ?_ _) | (with_reducible refine IntsAt.drew ?_) | (with_reducible refine IntsAt.drewN ?_ _) | (with_reducible refine IntsAt.mono ?_ (by with_reducible assumption))))) (by (repeat (first | (with_reducible exact IntsAt.made _ _ (by omega) _) | (with_reducible assumption) | (with_reducible refine IntsAt.alloc ?_ _) | (with_reducible refine IntsAt.drew ?_) | (with_reducible refine IntsAt.drewN ?_ _) | (with_reducible refine IntsAt.mono ?_ (by with_reducible assumption)))))).mono ?_; rintro e w' ⟨rfl, n, rfl⟩))
    go_ret
    exact ⟨rfl, by (repeat' (first | exact Below.refl _ _ | (with_reducible assumption) | (with_reducible refine xAlloc ?_ _) | (with_reducible refine Below.drew ?_) | (with_reducible refine xDrewN ?_ _) | (with_reducible refine xThen ?_ (by with_reducible assumption)) | (with_reducible refine Below.setCell ?_ (by first | omega | (simp; omega) | simp) _)))⟩
  · go_enter Try.func4, Try.ntmps4
    go_wp2
    go_ret
    exact ⟨rfl, by (repeat' (first | exact Below.refl _ _ | (with_reducible assumption) | (with_reducible refine xAlloc ?_ _) | (with_reducible refine Below.drew ?_) | (with_reducible refine xDrewN ?_ _) | (with_reducible refine xThen ?_ (by with_reducible assumption)) | (with_reducible refine Below.setCell ?_ (by first | omega | (simp; omega) | simp) _)))⟩
end Go.Proofs.Ytdifaojcjcnokaa
