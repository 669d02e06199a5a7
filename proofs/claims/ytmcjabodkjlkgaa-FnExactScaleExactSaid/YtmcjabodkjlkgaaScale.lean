/-
  Contracts of the base and the scale of a depth, of the program and of the reference, for every valid number of sides and every depth.
-/
import Derived.Test.YtmcjabodkjlkgaaInts
import Derived.Test.YtmcjabodkjlkgaaMathEx
namespace Go.Proofs.Ytmcjabodkjlkgaa
open Go.RowKit

theorem cell_new (w : World) (cs : Array Value) (t : TypeId) (o : Nat) : (w.alloc (.cells cs t)).cell? ⟨w.heap.size, o, none⟩ = cs[o]? := by
  have : (w.alloc (.cells cs t)).heap[w.heap.size]? = some (.cells cs t) := by
    show (w.heap.push _)[w.heap.size]? = _
    simp
  simp only [World.cell?, this]
  rfl

/-- b is the base of s sides -/
def Base (s : Int) (b : Nat) : Prop := 1 ≤ s ∧ s ≤ 6 ∧ s * s = b ∧ 1 ≤ b ∧ b ≤ 36
theorem base_of {s : Int} (h : 1 ≤ s ∧ s ≤ 6) : ∃ b, Base s b := by
  refine ⟨(s * s).toNat, h.1, h.2, ?_⟩
  have : s = 1 ∨ s = 2 ∨ s = 3 ∨ s = 4 ∨ s = 5 ∨ s = 6 := by omega
  rcases this with rfl | rfl | rfl | rfl | rfl | rfl <;> simp

theorem baseOf_any (p c h s : Int) (b : Nat) (hB : Base s b) (w : World) :
    Calls Try.prog 125 #[.agg #[.int .i64 p, .int .i64 c, .int .i64 h, .int .i64 s]] w fun e w' => e = .returned (.int .i64 b) ∧ Below w.heap.size w w' := by
  obtain ⟨h1, h2, h3, h4, h5⟩ := hB
  have H3 := hid h3
  have h6 : s * s ≤ 36 := by omega
  have h7 : 0 ≤ s * s := by omega
  clear h3
  go_enter Try.func125, Try.ntmps125
  go_wp2
  go_ret
  exact ⟨ret_int H3.out, by (repeat' (first | exact Below.refl _ _ | (with_reducible assumption) | (with_reducible refine xAlloc ?_ _) | (with_reducible refine Below.drew ?_) | (with_reducible refine xDrewN ?_ _) | (with_reducible refine xThen ?_ (by with_reducible assumption)) | (with_reducible refine Below.setCell ?_ (by first | omega | (simp; omega) | simp) _)))⟩

theorem l09Base_any (p c h s : Int) (b : Nat) (hB : Base s b) (w : World) :
    Calls Try.prog 131 #[.agg #[.int .i64 p, .int .i64 c, .int .i64 h, .int .i64 s]] w fun e w' => e = .returned (.int .i64 b) ∧ Below w.heap.size w w' := by
  obtain ⟨h1, h2, h3, h4, h5⟩ := hB
  have H3 := hid h3
  have h6 : s * s ≤ 36 := by omega
  have h7 : 0 ≤ s * s := by omega
  clear h3
  go_enter Try.func131, Try.ntmps131
  go_wp2
  go_ret
  exact ⟨ret_int H3.out, by (repeat' (first | exact Below.refl _ _ | (with_reducible assumption) | (with_reducible refine xAlloc ?_ _) | (with_reducible refine Below.drew ?_) | (with_reducible refine xDrewN ?_ _) | (with_reducible refine xThen ?_ (by with_reducible assumption)) | (with_reducible refine Below.setCell ?_ (by first | omega | (simp; omega) | simp) _)))⟩

theorem pow_step_bd {m b : Nat} (hm : m ≤ 1000000000000000) (hb : b ≤ 36) : 0 ≤ (m : Int) * (b : Int) ∧ (m : Int) * (b : Int) ≤ 36000000000000000 := by
  refine ⟨Int.mul_nonneg (by omega) (by omega), ?_⟩
  have : m * b ≤ 1000000000000000 * 36 := Nat.mul_le_mul hm hb
  have h2 : ((m * b : Nat) : Int) ≤ ((36000000000000000 : Nat) : Int) := Int.ofNat_le.2 (by omega)
  rw [Int.natCast_mul] at h2
  omega

set_option maxHeartbeats 400000 in
theorem scaleOf_any (p c h s d : Int) (b : Nat) (hB : Base s b) (hd : d ≤ 9223372036854775807) (w : World) :
    Calls Try.prog 132 #[.agg #[.int .i64 p, .int .i64 c, .int .i64 h, .int .i64 s], .int .i64 d] w fun e w' => e = .returned (.tuple #[.int .i64 (sclV b d), .bool (sclB b d)]) ∧ Below w.heap.size w w' := by
  have HB := hid hB
  obtain ⟨_, _, _, b1, b2⟩ := hB
  by_cases hb1 : b = 1
  · have hb1' : ((b : Int) == 1) = true := by simp; omega
    have H1 := hid hb1
    clear hb1
    go_enter Try.func132, Try.ntmps132
    go_wp2_with (go_at_call 125; refine (baseOf_any _ _ _ _ b HB.out _).mono ?_; rintro e w1 ⟨rfl, hb⟩; obtain ⟨hc, hf⟩ := bcell hb; have hsz := hb.size; (try simp at hsz); (try have hy0 : w.heap.size < w1.heap.size := by omega); (try have hy1 : w.heap.size + 1 < w1.heap.size := by omega); (try have hy2 : w.heap.size + 2 < w1.heap.size := by omega); (try have hyS : ws.heap.size < w1.heap.size := by omega); (try have hyG : wg.heap.size < w1.heap.size := by omega))
    go_ret2
    exact ⟨by rw [H1.out, scl_one.1, scl_one.2]; rfl, by (repeat' (first | exact Below.refl _ _ | (with_reducible assumption) | (with_reducible refine xAlloc ?_ _) | (with_reducible refine Below.drew ?_) | (with_reducible refine xDrewN ?_ _) | (with_reducible refine xThen ?_ (by with_reducible assumption)) | (with_reducible refine Below.setCell ?_ (by first | omega | (simp; omega) | simp) _)))⟩
  · have hb1' : ((b : Int) == 1) = false := by simp; omega
    have hb2 : 2 ≤ b := by omega
    go_enter Try.func132, Try.ntmps132
    go_wp2_with (go_at_call 125; refine (baseOf_any _ _ _ _ b HB.out _).mono ?_; rintro e w1 ⟨rfl, hb⟩; obtain ⟨hc, hf⟩ := bcell hb; have hsz := hb.size; (try simp at hsz); (try have hy0 : w.heap.size < w1.heap.size := by omega); (try have hy1 : w.heap.size + 1 < w1.heap.size := by omega); (try have hy2 : w.heap.size + 2 < w1.heap.size := by omega); (try have hyS : ws.heap.size < w1.heap.size := by omega); (try have hyG : wg.heap.size < w1.heap.size := by omega); have HBB := hid hb)
    go_loopw [6, 11] (fun sc i wr => ∃ (k m : Nat), i = .int .i64 k ∧ sc = .int .i64 m ∧ ((k : Int) ≤ d ∨ k = 0) ∧ m ≤ 1000000000000000 ∧ m = b ^ k ∧ Below w1.heap.size w1 wr) (fun _ i _ => (d - intOf i).toNat)
    case atStart => exact ⟨0, 1, rfl, rfl, by omega, by decide, rfl, Below.refl _ _⟩
    case round =>
      obtain ⟨k, m, rfl, rfl, hk, hm, hmk, hbr⟩ := hrel
      have HMK := hid hmk
      obtain ⟨hcr, hfr⟩ := bcell hbr
      have hyr := hbr.size
      have hyr0 : w.heap.size < wr.heap.size := by omega
      have hst := pow_step_bd hm b2
      clear hmk
      by_cases hlt : (k : Int) < d
      · by_cases hg : (m : Int) * (b : Int) ≤ 1000000000000000
        · go_wp2_with (go_at_call 125; refine (baseOf_any _ _ _ _ b HB.out _).mono ?_; rintro e w1 ⟨rfl, hb⟩; obtain ⟨hc, hf⟩ := bcell hb; have hsz := hb.size; (try simp at hsz); (try have hy0 : w.heap.size < w1.heap.size := by omega); (try have hy1 : w.heap.size + 1 < w1.heap.size := by omega); (try have hy2 : w.heap.size + 2 < w1.heap.size := by omega); (try have hyS : ws.heap.size < w1.heap.size := by omega); (try have hyG : wg.heap.size < w1.heap.size := by omega))
          go_roundw
          case rel => exact ⟨k + 1, m * b, by go_num, num (by rw [Int.natCast_mul]), by omega, by have e : ((m * b : Nat) : Int) = (m : Int) * b := Int.natCast_mul m b; omega, by rw [pow_succ', HMK.out], by (repeat' (first | exact Below.refl _ _ | (with_reducible assumption) | (with_reducible refine xAlloc ?_ _) | (with_reducible refine Below.drew ?_) | (with_reducible refine xDrewN ?_ _) | (with_reducible refine xThen ?_ (by with_reducible assumption)) | (with_reducible refine Below.setCell ?_ (by first | omega | (simp; omega) | simp) _)))⟩
          case measure => simp [intOf]; omega
        · go_wp2_with (go_at_call 125; refine (baseOf_any _ _ _ _ b HB.out _).mono ?_; rintro e w1 ⟨rfl, hb⟩; obtain ⟨hc, hf⟩ := bcell hb; have hsz := hb.size; (try simp at hsz); (try have hy0 : w.heap.size < w1.heap.size := by omega); (try have hy1 : w.heap.size + 1 < w1.heap.size := by omega); (try have hy2 : w.heap.size + 2 < w1.heap.size := by omega); (try have hyS : ws.heap.size < w1.heap.size := by omega); (try have hyG : wg.heap.size < w1.heap.size := by omega))
          go_ret2
          have hno := scl_no (b := b) (k := k) (d := d) hb2 hlt (by
            rw [pow_succ', ← HMK.out]; have e : ((m * b : Nat) : Int) = (m : Int) * b := Int.natCast_mul m b; omega)
          exact ⟨by rw [hno.1, hno.2]; rfl, by (repeat' (first | exact Below.refl _ _ | (with_reducible assumption) | (with_reducible refine xAlloc ?_ _) | (with_reducible refine Below.drew ?_) | (with_reducible refine xDrewN ?_ _) | (with_reducible refine xThen ?_ (by with_reducible assumption)) | (with_reducible refine Below.setCell ?_ (by first | omega | (simp; omega) | simp) _)))⟩
      · go_wp2
        go_ret2
        have hyes : sclB b d = true ∧ sclV b d = m := by
          by_cases hkd : (k : Int) = d
          · have := scl_yes (b := b) (k := k) (d := d) hkd (by rw [← HMK.out]; exact hm)
            exact ⟨this.1, this.2.trans HMK.out.symm⟩
          · have h0 : k = 0 := by omega
            have := scl_neg (b := b) (d := d) (by omega)
            have h1 := HMK.out
            rw [h0] at h1
            exact ⟨this.1, by rw [this.2, h1]; rfl⟩
        exact ⟨by rw [hyes.1, hyes.2]; rfl, by (repeat' (first | exact Below.refl _ _ | (with_reducible assumption) | (with_reducible refine xAlloc ?_ _) | (with_reducible refine Below.drew ?_) | (with_reducible refine xDrewN ?_ _) | (with_reducible refine xThen ?_ (by with_reducible assumption)) | (with_reducible refine Below.setCell ?_ (by first | omega | (simp; omega) | simp) _)))⟩

set_option maxHeartbeats 400000 in
theorem l09Scale_any (p c h s d : Int) (b : Nat) (hB : Base s b) (hd : d ≤ 9223372036854775807) (w : World) :
    Calls Try.prog 121 #[.agg #[.int .i64 p, .int .i64 c, .int .i64 h, .int .i64 s], .int .i64 d] w fun e w' => e = .returned (.tuple #[.int .i64 (sclV b d), .bool (sclB b d)]) ∧ Below w.heap.size w w' := by
  have HB := hid hB
  obtain ⟨_, _, _, b1, b2⟩ := hB
  by_cases hb1 : b = 1
  · have hb1' : ¬ (1 : Int) < (b : Int) := by omega
    have H1 := hid hb1
    clear hb1
    by_cases hd0 : 0 < d
    all_goals
      go_enter Try.func121, Try.ntmps121
      go_wp2
      go_loopw [6, 7] (fun sc i wr => i = .int .i64 0 ∧ sc = .int .i64 1 ∧ wr = w.alloc (.cells #[.int .i64 p, .int .i64 c, .int .i64 h, .int .i64 s] 29)) (fun _ i _ => (d - intOf i).toNat)
      case atStart => exact ⟨rfl, rfl, rfl⟩
      case round =>
        obtain ⟨rfl, rfl, rfl⟩ := hrel
        go_wp2_with (go_at_call 131; refine (l09Base_any _ _ _ _ b HB.out _).mono ?_; rintro e w1 ⟨rfl, hb⟩; obtain ⟨hc, hf⟩ := bcell hb; have hsz := hb.size; (try simp at hsz); (try have hy0 : w.heap.size < w1.heap.size := by omega); (try have hy1 : w.heap.size + 1 < w1.heap.size := by omega); (try have hy2 : w.heap.size + 2 < w1.heap.size := by omega); (try have hyS : ws.heap.size < w1.heap.size := by omega); (try have hyG : wg.heap.size < w1.heap.size := by omega))
        go_ret2
        exact ⟨by rw [H1.out, scl_one.1, scl_one.2]; rfl, by (repeat' (first | exact Below.refl _ _ | (with_reducible assumption) | (with_reducible refine xAlloc ?_ _) | (with_reducible refine Below.drew ?_) | (with_reducible refine xDrewN ?_ _) | (with_reducible refine xThen ?_ (by with_reducible assumption)) | (with_reducible refine Below.setCell ?_ (by first | omega | (simp; omega) | simp) _)))⟩
  · have hb1' : (1 : Int) < (b : Int) := by omega
    have hb2 : 2 ≤ b := by omega
    go_enter Try.func121, Try.ntmps121
    go_wp2
    generalize hW : w.alloc (.cells #[.int .i64 p, .int .i64 c, .int .i64 h, .int .i64 s] 29) = W
    have hc0 : W.cell? ⟨w.heap.size, 0, none⟩ = some (.int .i64 p) := by rw [← hW, cell_new]; rfl
    have hc1 : W.cell? ⟨w.heap.size, 1, none⟩ = some (.int .i64 c) := by rw [← hW, cell_new]; rfl
    have hc2 : W.cell? ⟨w.heap.size, 2, none⟩ = some (.int .i64 h) := by rw [← hW, cell_new]; rfl
    have hc3 : W.cell? ⟨w.heap.size, 3, none⟩ = some (.int .i64 s) := by rw [← hW, cell_new]; rfl
    have hWb : Below w.heap.size w W := by rw [← hW]; exact xAlloc (Below.refl _ _) _
    have hWz : w.heap.size < W.heap.size := by rw [← hW]; simp
    clear hW
    go_loopw [6, 7] (fun sc i wr => ∃ (k m : Nat), i = .int .i64 k ∧ sc = .int .i64 m ∧ ((k : Int) ≤ d ∨ k = 0) ∧ m ≤ 1000000000000000 ∧ m = b ^ k ∧ Below W.heap.size W wr) (fun _ i _ => (d - intOf i).toNat)
    case atStart => exact ⟨0, 1, rfl, rfl, by omega, by decide, rfl, Below.refl _ _⟩
    case round =>
      obtain ⟨k, m, rfl, rfl, hk, hm, hmk, hbr⟩ := hrel
      have HMK := hid hmk
      obtain ⟨hcr, hfr⟩ := bcell hbr
      have hyr := hbr.size
      have hyr0 : w.heap.size < wr.heap.size := by omega
      have hst := pow_step_bd hm b2
      clear hmk
      by_cases hlt : (k : Int) < d
      · by_cases hg : (m : Int) * (b : Int) ≤ 1000000000000000
        · go_wp2_with (go_at_call 131; refine (l09Base_any _ _ _ _ b HB.out _).mono ?_; rintro e w1 ⟨rfl, hb⟩; obtain ⟨hc, hf⟩ := bcell hb; have hsz := hb.size; (try simp at hsz); (try have hy0 : w.heap.size < w1.heap.size := by omega); (try have hy1 : w.heap.size + 1 < w1.heap.size := by omega); (try have hy2 : w.heap.size + 2 < w1.heap.size := by omega); (try have hyS : ws.heap.size < w1.heap.size := by omega); (try have hyG : wg.heap.size < w1.heap.size := by omega))
          go_roundw
          case rel => exact ⟨k + 1, m * b, by go_num, num (by rw [Int.natCast_mul]), by omega, by have e : ((m * b : Nat) : Int) = (m : Int) * b := Int.natCast_mul m b; omega, by rw [pow_succ', HMK.out], by (repeat' (first | exact Below.refl _ _ | (with_reducible assumption) | (with_reducible refine xAlloc ?_ _) | (with_reducible refine Below.drew ?_) | (with_reducible refine xDrewN ?_ _) | (with_reducible refine xThen ?_ (by with_reducible assumption)) | (with_reducible refine Below.setCell ?_ (by first | omega | (simp; omega) | simp) _)))⟩
          case measure => simp [intOf]; omega
        · go_wp2_with (go_at_call 131; refine (l09Base_any _ _ _ _ b HB.out _).mono ?_; rintro e w1 ⟨rfl, hb⟩; obtain ⟨hc, hf⟩ := bcell hb; have hsz := hb.size; (try simp at hsz); (try have hy0 : w.heap.size < w1.heap.size := by omega); (try have hy1 : w.heap.size + 1 < w1.heap.size := by omega); (try have hy2 : w.heap.size + 2 < w1.heap.size := by omega); (try have hyS : ws.heap.size < w1.heap.size := by omega); (try have hyG : wg.heap.size < w1.heap.size := by omega))
          go_ret2
          have hno := scl_no (b := b) (k := k) (d := d) hb2 hlt (by
            rw [pow_succ', ← HMK.out]; have e : ((m * b : Nat) : Int) = (m : Int) * b := Int.natCast_mul m b; omega)
          exact ⟨by rw [hno.1, hno.2]; rfl, by (repeat' (first | exact Below.refl _ _ | (with_reducible assumption) | (with_reducible refine xAlloc ?_ _) | (with_reducible refine Below.drew ?_) | (with_reducible refine xDrewN ?_ _) | (with_reducible refine xThen ?_ (by with_reducible assumption)) | (with_reducible refine Below.setCell ?_ (by first | omega | (simp; omega) | simp) _)))⟩
      · go_wp2
        go_ret2
        have hyes : sclB b d = true ∧ sclV b d = m := by
          by_cases hkd : (k : Int) = d
          · have := scl_yes (b := b) (k := k) (d := d) hkd (by rw [← HMK.out]; exact hm)
            exact ⟨this.1, this.2.trans HMK.out.symm⟩
          · have h0 : k = 0 := by omega
            have := scl_neg (b := b) (d := d) (by omega)
            have h1 := HMK.out
            rw [h0] at h1
            exact ⟨this.1, by rw [this.2, h1]; rfl⟩
        exact ⟨by rw [hyes.1, hyes.2]; rfl, by (repeat' (first | exact Below.refl _ _ | (with_reducible assumption) | (with_reducible refine xAlloc ?_ _) | (with_reducible refine Below.drew ?_) | (with_reducible refine xDrewN ?_ _) | (with_reducible refine xThen ?_ (by with_reducible assumption)) | (with_reducible refine Below.setCell ?_ (by first | omega | (simp; omega) | simp) _)))⟩
end Go.Proofs.Ytmcjabodkjlkgaa
