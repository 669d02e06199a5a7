/-
  Contracts of both validity tests of a board, for every variant and two lists of at most 2^20 elements.
-/
import Derived.Test.YtmcjabodkjlkgaaSum
import Derived.Test.YtmcjabodkjlkgaaTailA
import Derived.Test.YtmcjabodkjlkgaaBlk
namespace Go.Proofs.Ytmcjabodkjlkgaa
open Go.RowKit

def sideB (p c : Int) (zs : List Int) : Bool := decide ((zs.length : Int) = p + 1) && sits c zs

theorem implSide_any (p c h s : Int) (v : Value) (zs : List Int) (w : World) (hp0 : 0 ≤ p) (hp1 : p ≤ 24) (hc0 : 0 ≤ c) (hc1 : c ≤ 15) (hI : IntsAt w v zs) :
    Calls Try.prog 112 #[.agg #[.int .i64 p, .int .i64 c, .int .i64 h, .int .i64 s], v] w fun e w' => e = .returned (.bool (sideB p c zs)) ∧ Below w.heap.size w w' := by
  obtain ⟨a, cap, rfl, hm, hz⟩ := hI
  by_cases hl : (zs.length : Int) = p + 1
  · have hb : ((zs.length : Int) != p + 1) = false := by simpa using hl
    have HL := hid hl
    clear hl
    go_enter Try.func112, Try.ntmps112
    go_wp2
    go_loop [5, 7, 18] (fun l n i => ∃ (k : Nat) (left : Int), k ≤ zs.length ∧ i = .int .i64 k ∧ l = .int .i64 left ∧ 0 ≤ left ∧ left ≤ 15 ∧ sits c zs = sits left (zs.drop k)) (fun _ _ i => zs.length - (intOf i).toNat)
    case atStart => exact ⟨0, c, by omega, rfl, rfl, by omega, by omega, rfl⟩
    case round =>
      obtain ⟨k, left, hk, rfl, rfl, h0, h1, hf⟩ := hrel
      have HF := hid hf
      clear hf
      by_cases hlt : k < zs.length
      · obtain ⟨b, off, rfl, hcell⟩ := hz.resolve_left (by rintro rfl; simp at hlt)
        have hx := hcell k hlt
        have HB := cell_block hx
        have HD := hid (sits_drop left zs k hlt)
        obtain ⟨x, HX⟩ := named (zs.getD k 0)
        rw [← HX.out] at hx HD
        clear hcell hz
        by_cases x0 : x < 0
        · go_wp2
          go_ret
          exact ⟨ret_bool (by
            simp [sideB, HL.out, HF.out, HD.out]; omega), by (repeat' (first | exact Below.refl _ _ | (with_reducible assumption) | (with_reducible refine xAlloc ?_ _) | (with_reducible refine Below.drew ?_) | (with_reducible refine xDrewN ?_ _) | (with_reducible refine xThen ?_ (by with_reducible assumption)) | (with_reducible refine Below.setCell ?_ (by first | omega | (simp; omega) | simp) _)))⟩
        · by_cases x1 : left < x
          · go_wp2
            go_ret
            exact ⟨ret_bool (by
              simp [sideB, HL.out, HF.out, HD.out]; omega), by (repeat' (first | exact Below.refl _ _ | (with_reducible assumption) | (with_reducible refine xAlloc ?_ _) | (with_reducible refine Below.drew ?_) | (with_reducible refine xDrewN ?_ _) | (with_reducible refine xThen ?_ (by with_reducible assumption)) | (with_reducible refine Below.setCell ?_ (by first | omega | (simp; omega) | simp) _)))⟩
          · go_wp2
            go_round
            case rel => exact ⟨k + 1, left - x, by omega, by go_num, rfl, by omega, by omega, by rw [HF.out, HD.out]; simp; omega⟩
            case measure => simp [intOf]; omega
      · have : k = zs.length := by omega
        go_wp2
        go_ret
        exact ⟨ret_bool (by simp [sideB, HL.out, HF.out, this, sits]), by (repeat' (first | exact Below.refl _ _ | (with_reducible assumption) | (with_reducible refine xAlloc ?_ _) | (with_reducible refine Below.drew ?_) | (with_reducible refine xDrewN ?_ _) | (with_reducible refine xThen ?_ (by with_reducible assumption)) | (with_reducible refine Below.setCell ?_ (by first | omega | (simp; omega) | simp) _)))⟩
  · have hb : ((zs.length : Int) != p + 1) = true := by simpa using hl
    go_enter Try.func112, Try.ntmps112
    go_wp2
    go_ret
    exact ⟨ret_bool (by simp [sideB, hl]), by (repeat' (first | exact Below.refl _ _ | (with_reducible assumption) | (with_reducible refine xAlloc ?_ _) | (with_reducible refine Below.drew ?_) | (with_reducible refine xDrewN ?_ _) | (with_reducible refine xThen ?_ (by with_reducible assumption)) | (with_reducible refine Below.setCell ?_ (by first | omega | (simp; omega) | simp) _)))⟩

theorem specSide_any (p c h s : Int) (v : Value) (zs : List Int) (w : World) (hp0 : 0 ≤ p) (hp1 : p ≤ 24) (hc0 : 0 ≤ c) (hc1 : c ≤ 15) (hI : IntsAt w v zs) :
    Calls Try.prog 71 #[.agg #[.int .i64 p, .int .i64 c, .int .i64 h, .int .i64 s], v] w fun e w' => e = .returned (.bool (sideB p c zs)) ∧ Below w.heap.size w w' := by
  have HI := hid hI
  obtain ⟨a, cap, rfl, hm, hz⟩ := hI
  by_cases hl : (zs.length : Int) = p + 1
  · have hb : ((zs.length : Int) != p + 1) = false := by simpa using hl
    have HL := hid hl
    clear hl
    go_enter Try.func71, Try.ntmps71
    go_wp2
    refine wp_named (fun W hW0 => ?_)
    have hW := hid hW0
    clear hW0
    have sW : W.heap.size = w.heap.size + 1 := by rw [← hW.out]; simp
    have bW : Below w.heap.size w W := by rw [← hW.out]; (repeat' (first | exact Below.refl _ _ | (with_reducible assumption) | (with_reducible refine xAlloc ?_ _) | (with_reducible refine Below.drew ?_) | (with_reducible refine xDrewN ?_ _) | (with_reducible refine xThen ?_ (by with_reducible assumption)) | (with_reducible refine Below.setCell ?_ (by first | omega | (simp; omega) | simp) _)))
    have lW0 : w.heap.size < W.heap.size := by omega
    have kW0 : W.cell? ⟨w.heap.size, 0, none⟩ = some (.int .i64 p) := by rw [← hW.out]; go_simp
    have kW1 : W.cell? ⟨w.heap.size, 1, none⟩ = some (.int .i64 c) := by rw [← hW.out]; go_simp
    have kW2 : W.cell? ⟨w.heap.size, 2, none⟩ = some (.int .i64 h) := by rw [← hW.out]; go_simp
    have kW3 : W.cell? ⟨w.heap.size, 3, none⟩ = some (.int .i64 s) := by rw [← hW.out]; go_simp
    clear hW sW
    have hIW := HI.out.mono bW
    go_loopw [5] (fun i wr => ∃ k : Nat, k ≤ zs.length ∧ i = .int .i64 k ∧ (∀ j, j < k → 0 ≤ zs.getD j 0 ∧ zs.getD j 0 ≤ c) ∧ Below W.heap.size W wr) (fun i _ => zs.length - (intOf i).toNat)
    case atStart => exact ⟨0, by omega, rfl, fun j hj => by omega, Below.refl _ _⟩
    case round =>
      obtain ⟨k, hk, rfl, hall, hbel⟩ := hrel
      have HALL := hid hall
      have kc := xcell hbel kW1
      have B2 := xThen bW hbel
      have hIr := hIW.mono hbel
      clear hall
      by_cases hlt : k < zs.length
      · obtain ⟨b, off, rfl, hcell⟩ := hz.resolve_left (by rintro rfl; simp at hlt)
        have hx := xcell B2 (hcell k hlt)
        obtain ⟨x, HX⟩ := named (zs.getD k 0)
        rw [← HX.out] at hx
        clear hcell hz
        cases hin : inB x 0 c
        · go_wp2
          have hk0 : ∀ xe : ExtW wr, xe.u.cell? ⟨w.heap.size, 1, none⟩ = some (.int .i64 c) := fun xe => xe.cell (by go_simp)
          have hk1 : ∀ xe : ExtW wr, xe.u.cell? ⟨b, off+k, none⟩ = some (.int .i64 x) := fun xe => xe.cell (by go_simp)
          have hne : Nonempty (ExtW wr) := ⟨⟨_, Below.refl _ _⟩⟩
          refine wp_region_ext (by kernel_rfl) (by kernel_rfl) ?_
          repeat (quiet_step ((first | (go_at_call 80; exact ext_call0 (l01In_any _ _ _ _)))))
          refine wpQuiet_nil ?_
          rintro w1 ⟨⟨_, hb⟩, rfl⟩
          obtain ⟨hc, hf⟩ := bcell hb
          have hsz := hb.size
          (try simp at hsz)
          (try have hy0 : w.heap.size < w1.heap.size := by omega)
          (try have hy1 : w.heap.size + 1 < w1.heap.size := by omega)
          (try have hy2 : w.heap.size + 2 < w1.heap.size := by omega)
          (try have hyS : ws.heap.size < w1.heap.size := by omega)
          (try have hyG : wg.heap.size < w1.heap.size := by omega)
          go_wp2
          go_ret
          refine ⟨ret_bool ?_, by (repeat' (first | exact Below.refl _ _ | (with_reducible assumption) | (with_reducible refine xAlloc ?_ _) | (with_reducible refine Below.drew ?_) | (with_reducible refine xDrewN ?_ _) | (with_reducible refine xThen ?_ (by with_reducible assumption)) | (with_reducible refine Below.setCell ?_ (by first | omega | (simp; omega) | simp) _)))⟩
          cases hs : sits c zs
          · simp [sideB, hs]
          · have := (sits_bd hc0 hs).2 k
            rw [← HX.out] at this
            simp [inB] at hin
            omega
        · have hin' := inB_true hin
          have HA1 : Hid (∀ j, j < k + 1 → 0 ≤ zs.getD j 0 ∧ zs.getD j 0 ≤ c) := hid (fun j hj => by
            rcases Nat.lt_or_ge j k with h' | h'
            · exact HALL.out j h'
            · obtain rfl : j = k := by omega
              rw [← HX.out]; exact hin')
          go_wp2
          have hk0 : ∀ xe : ExtW wr, xe.u.cell? ⟨w.heap.size, 1, none⟩ = some (.int .i64 c) := fun xe => xe.cell (by go_simp)
          have hk1 : ∀ xe : ExtW wr, xe.u.cell? ⟨b, off+k, none⟩ = some (.int .i64 x) := fun xe => xe.cell (by go_simp)
          have hne : Nonempty (ExtW wr) := ⟨⟨_, Below.refl _ _⟩⟩
          refine wp_region_ext (by kernel_rfl) (by kernel_rfl) ?_
          repeat (quiet_step ((first | (go_at_call 80; exact ext_call0 (l01In_any _ _ _ _)))))
          refine wpQuiet_nil ?_
          rintro w1 ⟨⟨_, hb⟩, rfl⟩
          obtain ⟨hc, hf⟩ := bcell hb
          have hsz := hb.size
          (try simp at hsz)
          (try have hy0 : w.heap.size < w1.heap.size := by omega)
          (try have hy1 : w.heap.size + 1 < w1.heap.size := by omega)
          (try have hy2 : w.heap.size + 2 < w1.heap.size := by omega)
          (try have hyS : ws.heap.size < w1.heap.size := by omega)
          (try have hyG : wg.heap.size < w1.heap.size := by omega)
          go_wp2
          go_roundw
          case rel => exact ⟨k + 1, by omega, by go_num, HA1.out, xThen hbel hb⟩
          case measure => simp [intOf]; omega
      · obtain rfl : k = zs.length := by omega
        have hz0 : ∀ i, 0 ≤ zs.getD i 0 ∧ zs.getD i 0 ≤ c := fun i => by
          rcases Nat.lt_or_ge i zs.length with h' | h'
          · exact HALL.out i h'
          · simp [List.getD, List.getElem?_eq_none h']; omega
        have HZ := hid hz0
        have HR : Hid (sideB p c zs = decide ((sumN zs zs.length : Int) ≤ c)) := hid (by
          have e : sits c zs = decide ((sumN zs zs.length : Int) ≤ c) := by
            by_cases hs : (sumN zs zs.length : Int) ≤ c
            · rw [sits_of (fun i => (hz0 i).1) hs]; simp [hs]
            · cases h1 : sits c zs
              · simp [hs]
              · exact absurd (sits_bd hc0 h1).1 hs
          simp [sideB, HL.out, e])
        clear hz0 hz
        go_wp2
        have hk0 : ∀ xe : ExtW wr, xe.u.cell? ⟨w.heap.size, 1, none⟩ = some (.int .i64 c) := fun xe => xe.cell (by go_simp)
        have hne : Nonempty (ExtW wr) := ⟨⟨_, Below.refl _ _⟩⟩
        refine wp_region_ext (by kernel_rfl) (by kernel_rfl) ?_
        repeat (quiet_step ((first | (go_at_call 70; exact ext_call0 (l02Sum_any _ zs _ (hIr.mono (ExtW.b _)) (fun i => by have := HZ.out i; omega))))))
        refine wpQuiet_nil ?_
        rintro w1 ⟨⟨_, hb⟩, rfl⟩
        obtain ⟨hc, hf⟩ := bcell hb
        have hsz := hb.size
        (try simp at hsz)
        (try have hy0 : w.heap.size < w1.heap.size := by omega)
        (try have hy1 : w.heap.size + 1 < w1.heap.size := by omega)
        (try have hy2 : w.heap.size + 2 < w1.heap.size := by omega)
        (try have hyS : ws.heap.size < w1.heap.size := by omega)
        (try have hyG : wg.heap.size < w1.heap.size := by omega)
        go_wp2
        go_ret
        exact ⟨by rw [HR.out]; rfl, by (repeat' (first | exact Below.refl _ _ | (with_reducible assumption) | (with_reducible refine xAlloc ?_ _) | (with_reducible refine Below.drew ?_) | (with_reducible refine xDrewN ?_ _) | (with_reducible refine xThen ?_ (by with_reducible assumption)) | (with_reducible refine Below.setCell ?_ (by first | omega | (simp; omega) | simp) _)))⟩
  · have hb : ((zs.length : Int) != p + 1) = true := by simpa using hl
    go_enter Try.func71, Try.ntmps71
    go_wp2
    go_ret
    exact ⟨ret_bool (by simp [sideB, hl]), by (repeat' (first | exact Below.refl _ _ | (with_reducible assumption) | (with_reducible refine xAlloc ?_ _) | (with_reducible refine Below.drew ?_) | (with_reducible refine xDrewN ?_ _) | (with_reducible refine xThen ?_ (by with_reducible assumption)) | (with_reducible refine Below.setCell ?_ (by first | omega | (simp; omega) | simp) _)))⟩

/-- a point with checkers of both players among the first k -/
def clash (zs ys : List Int) (p : Nat) : Nat → Bool
  | 0 => false
  | k + 1 => clash zs ys p k || (decide (0 < zs.getD k 0) && decide (0 < ys.getD (p - 1 - k) 0))
def emptyB (zs ys : List Int) : Bool := decide (sumN zs zs.length = 0) && decide (sumN ys ys.length = 0)
def boardB (p c h s : Int) (zs ys : List Int) : Bool := varB p c h s && sideB p c zs && sideB p c ys && !emptyB zs ys && !clash zs ys p.toNat p.toNat
theorem sideB_true {p c : Int} {zs : List Int} (h0 : 0 ≤ c) (h : sideB p c zs = true) : (zs.length : Int) = p + 1 ∧ (sumN zs zs.length : Int) ≤ c ∧ ∀ i, 0 ≤ zs.getD i 0 ∧ zs.getD i 0 ≤ c := by
  simp [sideB] at h
  exact ⟨h.1, sits_bd h0 h.2⟩
theorem clash_mono {zs ys : List Int} {p : Nat} : ∀ {k n : Nat}, k ≤ n → clash zs ys p k = true → clash zs ys p n = true
  | k, 0, h, hc => by obtain rfl : k = 0 := by omega
                      exact hc
  | k, n + 1, h, hc => by
    rcases Nat.lt_or_ge k (n + 1) with h' | h'
    · simp only [clash, clash_mono (show k ≤ n by omega) hc, Bool.true_or]
    · obtain rfl : k = n + 1 := by omega
      exact hc
end Go.Proofs.Ytmcjabodkjlkgaa
