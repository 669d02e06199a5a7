/-
  Contract of spec.l09Add: the sum of two valid exact numbers, where it has a valid form.
-/
import Derived.Test.YtdifaojcjcnokaaAdd2
namespace Go.Proofs.Ytdifaojcjcnokaa
open Go.RowKit

/-- the sum, whichever depth is greater -/
def addOk (b : Nat) (x y : Int) (dx dy : Nat) : Bool := if dx ≤ dy then add1Ok b x y (dy - dx) dy else add1Ok b y x (dx - dy) dx
def addN (b : Nat) (x y : Int) (dx dy : Nat) : Int := if dx ≤ dy then add1N b x y (dy - dx) dy else add1N b y x (dx - dy) dx
def addD (b : Nat) (x y : Int) (dx dy : Nat) : Int := if dx ≤ dy then add1D b x y (dy - dx) dy else add1D b y x (dx - dy) dx

theorem quo2 {one Q : Nat} (hQ : Q = 2000000000000000000 / one) : IntKind.i64.wrap (Int.tdiv 2000000000000000000 (one : Int)) = (Q : Int) := by
  have h1 : Int.tdiv 2000000000000000000 (one : Int) = (Q : Int) := by
    rw [Int.tdiv_eq_ediv_of_nonneg (by omega), hQ]
    simp
  have h2 : Q ≤ 2000000000000000000 := by rw [hQ]; exact Nat.div_le_self _ _
  rw [h1]
  exact IntWalk.i64_in _ (by omega)

theorem l09Scale_int (p c h s d : Int) (b k D sc : Nat) (hdk : d = (k : Int)) (hB : Base s b) (hk : k ≤ D) (hD : b ^ D ≤ 1000000000000000) (hk64 : k ≤ 60) (e : b ^ k = sc) (w : World) :
    Calls Try.prog 63 #[.agg #[.int .i64 p, .int .i64 c, .int .i64 h, .int .i64 s], .int .i64 d] w fun e w' => e = .returned (.tuple #[.int .i64 sc, .bool true]) ∧ Below w.heap.size w w' := by
  subst hdk
  exact l09Scale_pow p c h s b k D sc hB hk hD (by omega) e w

set_option maxHeartbeats 1600000 in
theorem l09Add_lo (p c h s x y : Int) (b dx dy : Nat) (hBs : Base s b) (hle : dx ≤ dy) (hx : x.natAbs ≤ 1000000000000000000) (hy : y.natAbs ≤ 1000000000000000000) (hD : b ^ dy ≤ 1000000000000000) (h60 : dy ≤ 60) (w : World) :
    Calls Try.prog 76 #[.agg #[.int .i64 p, .int .i64 c, .int .i64 h, .int .i64 s], .agg #[.int .i64 x, .int .i64 dx], .agg #[.int .i64 y, .int .i64 dy]] w fun e w' =>
      e = .returned (.tuple #[.agg #[.int .i64 (add1N b x y (dy - dx) dy), .int .i64 (add1D b x y (dy - dx) dy)], .bool (add1Ok b x y (dy - dx) dy)]) ∧ Below w.heap.size w w' := by
  have HBs := hid hBs
  have b1 : 1 ≤ b := hBs.2.2.2.1
  obtain ⟨ee, HEE⟩ := named (dy - dx)
  have hee : ee ≤ dy := by rw [HEE.out]; omega
  have hsub : Hid ((dy : Int) - (dx : Int) = (ee : Int)) := hid (by rw [HEE.out]; omega)
  obtain ⟨sc, HSC⟩ := named (b ^ dy)
  have hsc1 : 1 ≤ sc := by rw [HSC.out]; exact pow_bd _ b1
  have hsc2 : sc ≤ 1000000000000000 := by rw [HSC.out]; exact hD
  obtain ⟨one, HONE⟩ := named (b ^ ee)
  have hone1 : 1 ≤ one := by rw [HONE.out]; exact pow_bd _ b1
  have hone2 : one ≤ 1000000000000000 := by rw [HONE.out]; exact Nat.le_trans (Nat.pow_le_pow_right b1 hee) hD
  have honez : ¬ one = 0 := by omega
  have HD := hid hD
  have hmx : (if x < -x then -x else x) = (x.natAbs : Int) := by split <;> omega
  have hmy : (if y < -y then -y else y) = (y.natAbs : Int) := by split <;> omega
  have hmaxd : ¬ ((dy : Int) < (dx : Int)) := by omega
  rw [← HEE.out]
  clear hBs hD
  obtain ⟨Q, HQ⟩ := named (2000000000000000000 / one)
  have hq1 := quo2 HQ.out
  have hq2 : IntKind.i64.wrap (Int.tdiv 2000000000000000000 1) = 2000000000000000000 := by decide
  have hyl : ¬ ((2000000000000000000 : Int) < (y.natAbs : Int)) := by omega
  have hxn : IntKind.i64.wrap (-x) = -x := IntWalk.i64_in _ (by omega)
  have hyn : IntKind.i64.wrap (-y) = -y := IntWalk.i64_in _ (by omega)
  by_cases hg : x.natAbs * one ≤ 2000000000000000000
  · have hQl : ¬ ((Q : Int) < (x.natAbs : Int)) := by
      have : x.natAbs ≤ Q := by rw [HQ.out]; exact (Nat.le_div_iff_mul_le hone1).2 hg
      omega
    have hQd : decide (Q < x.natAbs) = false := by simp; omega
    have hyd : decide ((2000000000000000000 : Int) < (y.natAbs : Int)) = false := by simp; omega
    have hydn : decide (2000000000000000000 < y.natAbs) = false := by simp; omega
    have HG := hid hg
    have hxo : -2000000000000000000 ≤ x * (one : Int) ∧ x * (one : Int) ≤ 2000000000000000000 := by
      have h1 : (x * (one : Int)).natAbs = x.natAbs * one := by rw [Int.natAbs_mul]; simp
      omega
    clear hg
    have HEQ : Hid ((x * (one : Int) + y) * (b : Int) ^ dy = (x * (one : Int) + y) * (sc : Int)) := hid (by rw [HSC.out, Int.natCast_pow])
    have honeI : Hid ((one : Int) = (b : Int) ^ ee) := hid (by rw [HONE.out, Int.natCast_pow])
    cases hfit : fitOk b dy (x * (one : Int) + y)
    · rcases Nat.lt_or_eq_of_le hle with hlt | heq
      · go_enter Try.func76, Try.ntmps76
        go_wp2_with fail
        refine (l09Scale_int p c h s _ b dy dy sc (by omega) HBs.out (Nat.le_refl _) HD.out h60 HSC.out.symm _).mono ?_
        rintro e w1 ⟨rfl, hb⟩
        obtain ⟨hc, hf⟩ := bcell hb
        have hsz := hb.size
        simp at hsz
        have hq_w1_0 : w.heap.size < w1.heap.size := by omega
        have hq_w1_1 : w.heap.size + 1 < w1.heap.size := by omega
        have hq_w1_2 : w.heap.size + 2 < w1.heap.size := by omega
        have hq_w1_3 : w.heap.size + 3 < w1.heap.size := by omega
        go_wp2_with fail
        refine (l09Scale_int p c h s _ b ee dy one (by have := hsub.out; omega) HBs.out hee HD.out (by omega) HONE.out.symm _).mono ?_
        rintro e w2 ⟨rfl, hb2⟩
        obtain ⟨hc2, hf2⟩ := bcell hb2
        have hsz2 := hb2.size
        have hq_w2_0 : w.heap.size < w2.heap.size := by omega
        have hq_w2_1 : w.heap.size + 1 < w2.heap.size := by omega
        have hq_w2_2 : w.heap.size + 2 < w2.heap.size := by omega
        have hq_w2_3 : w.heap.size + 3 < w2.heap.size := by omega
        go_wp2_with fail
        refine (l09Scale_int p c h s _ b 0 dy 1 (by omega) HBs.out (by omega) HD.out (by omega) rfl _).mono ?_
        rintro e w3 ⟨rfl, hb3⟩
        obtain ⟨hc3, hf3⟩ := bcell hb3
        have hsz3 := hb3.size
        have hq_w3_0 : w.heap.size < w3.heap.size := by omega
        have hq_w3_1 : w.heap.size + 1 < w3.heap.size := by omega
        have hq_w3_2 : w.heap.size + 2 < w3.heap.size := by omega
        have hq_w3_3 : w.heap.size + 3 < w3.heap.size := by omega
        go_wp2
        go_quiet (fail)
        go_wp2_with fail
        refine (l09Fit_any _ _ _ _ (x * (one : Int) + y) (x * (one : Int) + y) b sc dy HBs.out (by omega) hsc1 hsc2 HEQ.out HD.out (by omega) _).mono ?_
        rintro e w1 ⟨rfl, hb4⟩
        have hsz4 := hb4.size
        have KBR := hid (blk_mono hb4 (show (w3.drewN nq).heap[w.heap.size + 3]? = _ from blk_mono (w1 := w3) hb3 (blk_mono hb2 (blk_mono hb (alloc4 w (.cells #[.int .i64 p, .int .i64 c, .int .i64 h, .int .i64 s] 25) (.cells #[.int .i64 x, .int .i64 dx] 36) (.cells #[.int .i64 y, .int .i64 dy] 36) (.cells #[.int .i64 0, .int .i64 0] 36)).2.2.2))))
        have dr0 : w1.cell? ⟨w.heap.size + 3, 0, none⟩ = some (.int .i64 0) := cell_at KBR.out
        have dr1 : w1.cell? ⟨w.heap.size + 3, 1, none⟩ = some (.int .i64 0) := cell_at KBR.out
        have dfr0 : w1.frozen? ⟨w.heap.size + 3, 0, none⟩ = false := frozen_at KBR.out
        have dfr1 : w1.frozen? ⟨w.heap.size + 3, 1, none⟩ = false := frozen_at KBR.out
        have hlt3 := blk_lt KBR.out
        have hq_w1_0 : w.heap.size < w1.heap.size := by omega
        clear hc3 hf3 hc2 hf2 hc hf
        go_wp2
        have r0 : w1.cell? ⟨w.heap.size + 3, 0, none⟩ = some (.int .i64 0) := by go_simp
        have r1 : w1.cell? ⟨w.heap.size + 3, 1, none⟩ = some (.int .i64 0) := by go_simp
        have rne : ¬ w.heap.size + 3 = w1.heap.size := by omega
        refine bodyPost_ret (v := .tuple #[.agg #[.int .i64 (0), .int .i64 (0)], .bool false]) (by simp only [results, Try.results76]; go_simp) rfl ?_
        exact ⟨by have h1 := honeI.out; have h2 := HG.out; have h3 := HONE.out; simp only [add1N, add1D, add1Ok, addCond, ← h1, ← h3, hfit]; simp [h2], by (repeat' (first | exact Below.refl _ _ | (with_reducible assumption) | (with_reducible refine xAlloc ?_ _) | (with_reducible refine Below.drew ?_) | (with_reducible refine xDrewN ?_ _) | (with_reducible refine xThen ?_ (by with_reducible assumption)) | (with_reducible refine Below.setCell ?_ (by first | omega | (simp; omega) | simp) _)))⟩
      · subst heq
        go_enter Try.func76, Try.ntmps76
        go_wp2_with fail
        refine (l09Scale_int p c h s _ b dx dx sc (by omega) HBs.out (Nat.le_refl _) HD.out h60 HSC.out.symm _).mono ?_
        rintro e w1 ⟨rfl, hb⟩
        obtain ⟨hc, hf⟩ := bcell hb
        have hsz := hb.size
        simp at hsz
        have hq_w1_0 : w.heap.size < w1.heap.size := by omega
        have hq_w1_1 : w.heap.size + 1 < w1.heap.size := by omega
        have hq_w1_2 : w.heap.size + 2 < w1.heap.size := by omega
        have hq_w1_3 : w.heap.size + 3 < w1.heap.size := by omega
        go_wp2_with fail
        refine (l09Scale_int p c h s _ b ee dx one (by have := hsub.out; omega) HBs.out hee HD.out (by omega) HONE.out.symm _).mono ?_
        rintro e w2 ⟨rfl, hb2⟩
        obtain ⟨hc2, hf2⟩ := bcell hb2
        have hsz2 := hb2.size
        have hq_w2_0 : w.heap.size < w2.heap.size := by omega
        have hq_w2_1 : w.heap.size + 1 < w2.heap.size := by omega
        have hq_w2_2 : w.heap.size + 2 < w2.heap.size := by omega
        have hq_w2_3 : w.heap.size + 3 < w2.heap.size := by omega
        go_wp2_with fail
        refine (l09Scale_int p c h s _ b 0 dx 1 (by omega) HBs.out (by omega) HD.out (by omega) rfl _).mono ?_
        rintro e w3 ⟨rfl, hb3⟩
        obtain ⟨hc3, hf3⟩ := bcell hb3
        have hsz3 := hb3.size
        have hq_w3_0 : w.heap.size < w3.heap.size := by omega
        have hq_w3_1 : w.heap.size + 1 < w3.heap.size := by omega
        have hq_w3_2 : w.heap.size + 2 < w3.heap.size := by omega
        have hq_w3_3 : w.heap.size + 3 < w3.heap.size := by omega
        go_wp2
        go_quiet (fail)
        go_wp2_with fail
        refine (l09Fit_any _ _ _ _ (x * (one : Int) + y) (x * (one : Int) + y) b sc dx HBs.out (by omega) hsc1 hsc2 HEQ.out HD.out (by omega) _).mono ?_
        rintro e w1 ⟨rfl, hb4⟩
        have hsz4 := hb4.size
        have KBR := hid (blk_mono hb4 (show (w3.drewN nq).heap[w.heap.size + 3]? = _ from blk_mono (w1 := w3) hb3 (blk_mono hb2 (blk_mono hb (alloc4 w (.cells #[.int .i64 p, .int .i64 c, .int .i64 h, .int .i64 s] 25) (.cells #[.int .i64 x, .int .i64 dx] 36) (.cells #[.int .i64 y, .int .i64 dx] 36) (.cells #[.int .i64 0, .int .i64 0] 36)).2.2.2))))
        have dr0 : w1.cell? ⟨w.heap.size + 3, 0, none⟩ = some (.int .i64 0) := cell_at KBR.out
        have dr1 : w1.cell? ⟨w.heap.size + 3, 1, none⟩ = some (.int .i64 0) := cell_at KBR.out
        have dfr0 : w1.frozen? ⟨w.heap.size + 3, 0, none⟩ = false := frozen_at KBR.out
        have dfr1 : w1.frozen? ⟨w.heap.size + 3, 1, none⟩ = false := frozen_at KBR.out
        have hlt3 := blk_lt KBR.out
        have hq_w1_0 : w.heap.size < w1.heap.size := by omega
        clear hc3 hf3 hc2 hf2 hc hf
        go_wp2
        have r0 : w1.cell? ⟨w.heap.size + 3, 0, none⟩ = some (.int .i64 0) := by go_simp
        have r1 : w1.cell? ⟨w.heap.size + 3, 1, none⟩ = some (.int .i64 0) := by go_simp
        have rne : ¬ w.heap.size + 3 = w1.heap.size := by omega
        refine bodyPost_ret (v := .tuple #[.agg #[.int .i64 (0), .int .i64 (0)], .bool false]) (by simp only [results, Try.results76]; go_simp) rfl ?_
        exact ⟨by have h1 := honeI.out; have h2 := HG.out; have h3 := HONE.out; simp only [add1N, add1D, add1Ok, addCond, ← h1, ← h3, hfit]; simp [h2], by (repeat' (first | exact Below.refl _ _ | (with_reducible assumption) | (with_reducible refine xAlloc ?_ _) | (with_reducible refine Below.drew ?_) | (with_reducible refine xDrewN ?_ _) | (with_reducible refine xThen ?_ (by with_reducible assumption)) | (with_reducible refine Below.setCell ?_ (by first | omega | (simp; omega) | simp) _)))⟩
    · rcases Nat.lt_or_eq_of_le hle with hlt | heq
      · go_enter Try.func76, Try.ntmps76
        go_wp2_with fail
        refine (l09Scale_int p c h s _ b dy dy sc (by omega) HBs.out (Nat.le_refl _) HD.out h60 HSC.out.symm _).mono ?_
        rintro e w1 ⟨rfl, hb⟩
        obtain ⟨hc, hf⟩ := bcell hb
        have hsz := hb.size
        simp at hsz
        have hq_w1_0 : w.heap.size < w1.heap.size := by omega
        have hq_w1_1 : w.heap.size + 1 < w1.heap.size := by omega
        have hq_w1_2 : w.heap.size + 2 < w1.heap.size := by omega
        have hq_w1_3 : w.heap.size + 3 < w1.heap.size := by omega
        go_wp2_with fail
        refine (l09Scale_int p c h s _ b ee dy one (by have := hsub.out; omega) HBs.out hee HD.out (by omega) HONE.out.symm _).mono ?_
        rintro e w2 ⟨rfl, hb2⟩
        obtain ⟨hc2, hf2⟩ := bcell hb2
        have hsz2 := hb2.size
        have hq_w2_0 : w.heap.size < w2.heap.size := by omega
        have hq_w2_1 : w.heap.size + 1 < w2.heap.size := by omega
        have hq_w2_2 : w.heap.size + 2 < w2.heap.size := by omega
        have hq_w2_3 : w.heap.size + 3 < w2.heap.size := by omega
        go_wp2_with fail
        refine (l09Scale_int p c h s _ b 0 dy 1 (by omega) HBs.out (by omega) HD.out (by omega) rfl _).mono ?_
        rintro e w3 ⟨rfl, hb3⟩
        obtain ⟨hc3, hf3⟩ := bcell hb3
        have hsz3 := hb3.size
        have hq_w3_0 : w.heap.size < w3.heap.size := by omega
        have hq_w3_1 : w.heap.size + 1 < w3.heap.size := by omega
        have hq_w3_2 : w.heap.size + 2 < w3.heap.size := by omega
        have hq_w3_3 : w.heap.size + 3 < w3.heap.size := by omega
        go_wp2
        go_quiet (fail)
        go_wp2_with fail
        refine (l09Fit_any _ _ _ _ (x * (one : Int) + y) (x * (one : Int) + y) b sc dy HBs.out (by omega) hsc1 hsc2 HEQ.out HD.out (by omega) _).mono ?_
        rintro e w1 ⟨rfl, hb4⟩
        have hsz4 := hb4.size
        have KBR := hid (blk_mono hb4 (show (w3.drewN nq).heap[w.heap.size + 3]? = _ from blk_mono (w1 := w3) hb3 (blk_mono hb2 (blk_mono hb (alloc4 w (.cells #[.int .i64 p, .int .i64 c, .int .i64 h, .int .i64 s] 25) (.cells #[.int .i64 x, .int .i64 dx] 36) (.cells #[.int .i64 y, .int .i64 dy] 36) (.cells #[.int .i64 0, .int .i64 0] 36)).2.2.2))))
        have dr0 : w1.cell? ⟨w.heap.size + 3, 0, none⟩ = some (.int .i64 0) := cell_at KBR.out
        have dr1 : w1.cell? ⟨w.heap.size + 3, 1, none⟩ = some (.int .i64 0) := cell_at KBR.out
        have dfr0 : w1.frozen? ⟨w.heap.size + 3, 0, none⟩ = false := frozen_at KBR.out
        have dfr1 : w1.frozen? ⟨w.heap.size + 3, 1, none⟩ = false := frozen_at KBR.out
        have hlt3 := blk_lt KBR.out
        have hq_w1_0 : w.heap.size < w1.heap.size := by omega
        clear hc3 hf3 hc2 hf2 hc hf
        go_wp2
        have r0 : w1.cell? ⟨w.heap.size + 3, 0, none⟩ = some (.int .i64 0) := by go_simp
        have r1 : w1.cell? ⟨w.heap.size + 3, 1, none⟩ = some (.int .i64 0) := by go_simp
        have rne : ¬ w.heap.size + 3 = w1.heap.size := by omega
        refine bodyPost_ret (v := .tuple #[.agg #[.int .i64 (fitNum b dy (x * (one : Int) + y)), .int .i64 (fitDep b dy (x * (one : Int) + y))], .bool true]) (by simp only [results, Try.results76]; go_simp) rfl ?_
        exact ⟨by have h1 := honeI.out; have h2 := HG.out; have h3 := HONE.out; simp only [add1N, add1D, add1Ok, addCond, ← h1, ← h3, hfit, fitNum, fitDep]; simp [h2], by (repeat' (first | exact Below.refl _ _ | (with_reducible assumption) | (with_reducible refine xAlloc ?_ _) | (with_reducible refine Below.drew ?_) | (with_reducible refine xDrewN ?_ _) | (with_reducible refine xThen ?_ (by with_reducible assumption)) | (with_reducible refine Below.setCell ?_ (by first | omega | (simp; omega) | simp) _)))⟩
      · subst heq
        go_enter Try.func76, Try.ntmps76
        go_wp2_with fail
        refine (l09Scale_int p c h s _ b dx dx sc (by omega) HBs.out (Nat.le_refl _) HD.out h60 HSC.out.symm _).mono ?_
        rintro e w1 ⟨rfl, hb⟩
        obtain ⟨hc, hf⟩ := bcell hb
        have hsz := hb.size
        simp at hsz
        have hq_w1_0 : w.heap.size < w1.heap.size := by omega
        have hq_w1_1 : w.heap.size + 1 < w1.heap.size := by omega
        have hq_w1_2 : w.heap.size + 2 < w1.heap.size := by omega
        have hq_w1_3 : w.heap.size + 3 < w1.heap.size := by omega
        go_wp2_with fail
        refine (l09Scale_int p c h s _ b ee dx one (by have := hsub.out; omega) HBs.out hee HD.out (by omega) HONE.out.symm _).mono ?_
        rintro e w2 ⟨rfl, hb2⟩
        obtain ⟨hc2, hf2⟩ := bcell hb2
        have hsz2 := hb2.size
        have hq_w2_0 : w.heap.size < w2.heap.size := by omega
        have hq_w2_1 : w.heap.size + 1 < w2.heap.size := by omega
        have hq_w2_2 : w.heap.size + 2 < w2.heap.size := by omega
        have hq_w2_3 : w.heap.size + 3 < w2.heap.size := by omega
        go_wp2_with fail
        refine (l09Scale_int p c h s _ b 0 dx 1 (by omega) HBs.out (by omega) HD.out (by omega) rfl _).mono ?_
        rintro e w3 ⟨rfl, hb3⟩
        obtain ⟨hc3, hf3⟩ := bcell hb3
        have hsz3 := hb3.size
        have hq_w3_0 : w.heap.size < w3.heap.size := by omega
        have hq_w3_1 : w.heap.size + 1 < w3.heap.size := by omega
        have hq_w3_2 : w.heap.size + 2 < w3.heap.size := by omega
        have hq_w3_3 : w.heap.size + 3 < w3.heap.size := by omega
        go_wp2
        go_quiet (fail)
        go_wp2_with fail
        refine (l09Fit_any _ _ _ _ (x * (one : Int) + y) (x * (one : Int) + y) b sc dx HBs.out (by omega) hsc1 hsc2 HEQ.out HD.out (by omega) _).mono ?_
        rintro e w1 ⟨rfl, hb4⟩
        have hsz4 := hb4.size
        have KBR := hid (blk_mono hb4 (show (w3.drewN nq).heap[w.heap.size + 3]? = _ from blk_mono (w1 := w3) hb3 (blk_mono hb2 (blk_mono hb (alloc4 w (.cells #[.int .i64 p, .int .i64 c, .int .i64 h, .int .i64 s] 25) (.cells #[.int .i64 x, .int .i64 dx] 36) (.cells #[.int .i64 y, .int .i64 dx] 36) (.cells #[.int .i64 0, .int .i64 0] 36)).2.2.2))))
        have dr0 : w1.cell? ⟨w.heap.size + 3, 0, none⟩ = some (.int .i64 0) := cell_at KBR.out
        have dr1 : w1.cell? ⟨w.heap.size + 3, 1, none⟩ = some (.int .i64 0) := cell_at KBR.out
        have dfr0 : w1.frozen? ⟨w.heap.size + 3, 0, none⟩ = false := frozen_at KBR.out
        have dfr1 : w1.frozen? ⟨w.heap.size + 3, 1, none⟩ = false := frozen_at KBR.out
        have hlt3 := blk_lt KBR.out
        have hq_w1_0 : w.heap.size < w1.heap.size := by omega
        clear hc3 hf3 hc2 hf2 hc hf
        go_wp2
        have r0 : w1.cell? ⟨w.heap.size + 3, 0, none⟩ = some (.int .i64 0) := by go_simp
        have r1 : w1.cell? ⟨w.heap.size + 3, 1, none⟩ = some (.int .i64 0) := by go_simp
        have rne : ¬ w.heap.size + 3 = w1.heap.size := by omega
        refine bodyPost_ret (v := .tuple #[.agg #[.int .i64 (fitNum b dx (x * (one : Int) + y)), .int .i64 (fitDep b dx (x * (one : Int) + y))], .bool true]) (by simp only [results, Try.results76]; go_simp) rfl ?_
        exact ⟨by have h1 := honeI.out; have h2 := HG.out; have h3 := HONE.out; simp only [add1N, add1D, add1Ok, addCond, ← h1, ← h3, hfit, fitNum, fitDep]; simp [h2], by (repeat' (first | exact Below.refl _ _ | (with_reducible assumption) | (with_reducible refine xAlloc ?_ _) | (with_reducible refine Below.drew ?_) | (with_reducible refine xDrewN ?_ _) | (with_reducible refine xThen ?_ (by with_reducible assumption)) | (with_reducible refine Below.setCell ?_ (by first | omega | (simp; omega) | simp) _)))⟩
  · have hQd : decide (Q < x.natAbs) = true := by
      have : ¬ x.natAbs ≤ Q := by rw [HQ.out]; intro h; exact hg ((Nat.le_div_iff_mul_le hone1).1 h)
      simp; omega
    have hQl : Q < x.natAbs := by simpa using hQd
    have HG := hid hg
    clear hg
    rcases Nat.lt_or_eq_of_le hle with hlt | heq
    · go_enter Try.func76, Try.ntmps76
      go_wp2_with fail
      refine (l09Scale_int p c h s _ b dy dy sc (by omega) HBs.out (Nat.le_refl _) HD.out h60 HSC.out.symm _).mono ?_
      rintro e w1 ⟨rfl, hb⟩
      obtain ⟨hc, hf⟩ := bcell hb
      have hsz := hb.size
      simp at hsz
      have hq_w1_0 : w.heap.size < w1.heap.size := by omega
      have hq_w1_1 : w.heap.size + 1 < w1.heap.size := by omega
      have hq_w1_2 : w.heap.size + 2 < w1.heap.size := by omega
      have hq_w1_3 : w.heap.size + 3 < w1.heap.size := by omega
      go_wp2_with fail
      refine (l09Scale_int p c h s _ b ee dy one (by have := hsub.out; omega) HBs.out hee HD.out (by omega) HONE.out.symm _).mono ?_
      rintro e w2 ⟨rfl, hb2⟩
      obtain ⟨hc2, hf2⟩ := bcell hb2
      have hsz2 := hb2.size
      have hq_w2_0 : w.heap.size < w2.heap.size := by omega
      have hq_w2_1 : w.heap.size + 1 < w2.heap.size := by omega
      have hq_w2_2 : w.heap.size + 2 < w2.heap.size := by omega
      have hq_w2_3 : w.heap.size + 3 < w2.heap.size := by omega
      go_wp2_with fail
      refine (l09Scale_int p c h s _ b 0 dy 1 (by omega) HBs.out (by omega) HD.out (by omega) rfl _).mono ?_
      rintro e w3 ⟨rfl, hb3⟩
      obtain ⟨hc3, hf3⟩ := bcell hb3
      have hsz3 := hb3.size
      have hq_w3_0 : w.heap.size < w3.heap.size := by omega
      have hq_w3_1 : w.heap.size + 1 < w3.heap.size := by omega
      have hq_w3_2 : w.heap.size + 2 < w3.heap.size := by omega
      have hq_w3_3 : w.heap.size + 3 < w3.heap.size := by omega
      go_wp2
      go_quiet (fail)
      generalize hwq : w3.drewN nq = w1
      have KBR : Hid (w1.heap[w.heap.size + 3]? = some (.cells #[.int .i64 0, .int .i64 0] 36 (0, 0))) := hid (by rw [← hwq]; exact blk_mono (w1 := w3) hb3 (blk_mono hb2 (blk_mono hb (alloc4 w (.cells #[.int .i64 p, .int .i64 c, .int .i64 h, .int .i64 s] 25) (.cells #[.int .i64 x, .int .i64 dx] 36) (.cells #[.int .i64 y, .int .i64 dy] 36) (.cells #[.int .i64 0, .int .i64 0] 36)).2.2.2)))
      have dr0 : w1.cell? ⟨w.heap.size + 3, 0, none⟩ = some (.int .i64 0) := cell_at KBR.out
      have dr1 : w1.cell? ⟨w.heap.size + 3, 1, none⟩ = some (.int .i64 0) := cell_at KBR.out
      have dfr0 : w1.frozen? ⟨w.heap.size + 3, 0, none⟩ = false := frozen_at KBR.out
      have dfr1 : w1.frozen? ⟨w.heap.size + 3, 1, none⟩ = false := frozen_at KBR.out
      have hlt3 := blk_lt KBR.out
      have hb5 : Below w3.heap.size w3 w1 := by rw [← hwq]; exact xDrewN (Below.refl _ _) _
      clear hwq hc3 hf3 hc2 hf2 hc hf
      go_wp2
      have r0 : w1.cell? ⟨w.heap.size + 3, 0, none⟩ = some (.int .i64 0) := by go_simp
      have r1 : w1.cell? ⟨w.heap.size + 3, 1, none⟩ = some (.int .i64 0) := by go_simp
      have rne : ¬ w.heap.size + 3 = w1.heap.size := by omega
      refine bodyPost_ret (v := .tuple #[.agg #[.int .i64 (0), .int .i64 (0)], .bool false]) (by simp only [results, Try.results76]; go_simp) rfl ?_
      exact ⟨by have h2 := HG.out; have h3 := HONE.out; simp only [add1N, add1D, add1Ok, addCond, ← h3]; simp [h2], by (repeat' (first | exact Below.refl _ _ | (with_reducible assumption) | (with_reducible refine xAlloc ?_ _) | (with_reducible refine Below.drew ?_) | (with_reducible refine xDrewN ?_ _) | (with_reducible refine xThen ?_ (by with_reducible assumption)) | (with_reducible refine Below.setCell ?_ (by first | omega | (simp; omega) | simp) _)))⟩
    · subst heq
      go_enter Try.func76, Try.ntmps76
      go_wp2_with fail
      refine (l09Scale_int p c h s _ b dx dx sc (by omega) HBs.out (Nat.le_refl _) HD.out h60 HSC.out.symm _).mono ?_
      rintro e w1 ⟨rfl, hb⟩
      obtain ⟨hc, hf⟩ := bcell hb
      have hsz := hb.size
      simp at hsz
      have hq_w1_0 : w.heap.size < w1.heap.size := by omega
      have hq_w1_1 : w.heap.size + 1 < w1.heap.size := by omega
      have hq_w1_2 : w.heap.size + 2 < w1.heap.size := by omega
      have hq_w1_3 : w.heap.size + 3 < w1.heap.size := by omega
      go_wp2_with fail
      refine (l09Scale_int p c h s _ b ee dx one (by have := hsub.out; omega) HBs.out hee HD.out (by omega) HONE.out.symm _).mono ?_
      rintro e w2 ⟨rfl, hb2⟩
      obtain ⟨hc2, hf2⟩ := bcell hb2
      have hsz2 := hb2.size
      have hq_w2_0 : w.heap.size < w2.heap.size := by omega
      have hq_w2_1 : w.heap.size + 1 < w2.heap.size := by omega
      have hq_w2_2 : w.heap.size + 2 < w2.heap.size := by omega
      have hq_w2_3 : w.heap.size + 3 < w2.heap.size := by omega
      go_wp2_with fail
      refine (l09Scale_int p c h s _ b 0 dx 1 (by omega) HBs.out (by omega) HD.out (by omega) rfl _).mono ?_
      rintro e w3 ⟨rfl, hb3⟩
      obtain ⟨hc3, hf3⟩ := bcell hb3
      have hsz3 := hb3.size
      have hq_w3_0 : w.heap.size < w3.heap.size := by omega
      have hq_w3_1 : w.heap.size + 1 < w3.heap.size := by omega
      have hq_w3_2 : w.heap.size + 2 < w3.heap.size := by omega
      have hq_w3_3 : w.heap.size + 3 < w3.heap.size := by omega
      go_wp2
      go_quiet (fail)
      generalize hwq : w3.drewN nq = w1
      have KBR : Hid (w1.heap[w.heap.size + 3]? = some (.cells #[.int .i64 0, .int .i64 0] 36 (0, 0))) := hid (by rw [← hwq]; exact blk_mono (w1 := w3) hb3 (blk_mono hb2 (blk_mono hb (alloc4 w (.cells #[.int .i64 p, .int .i64 c, .int .i64 h, .int .i64 s] 25) (.cells #[.int .i64 x, .int .i64 dx] 36) (.cells #[.int .i64 y, .int .i64 dx] 36) (.cells #[.int .i64 0, .int .i64 0] 36)).2.2.2)))
      have dr0 : w1.cell? ⟨w.heap.size + 3, 0, none⟩ = some (.int .i64 0) := cell_at KBR.out
      have dr1 : w1.cell? ⟨w.heap.size + 3, 1, none⟩ = some (.int .i64 0) := cell_at KBR.out
      have dfr0 : w1.frozen? ⟨w.heap.size + 3, 0, none⟩ = false := frozen_at KBR.out
      have dfr1 : w1.frozen? ⟨w.heap.size + 3, 1, none⟩ = false := frozen_at KBR.out
      have hlt3 := blk_lt KBR.out
      have hb5 : Below w3.heap.size w3 w1 := by rw [← hwq]; exact xDrewN (Below.refl _ _) _
      clear hwq hc3 hf3 hc2 hf2 hc hf
      go_wp2
      have r0 : w1.cell? ⟨w.heap.size + 3, 0, none⟩ = some (.int .i64 0) := by go_simp
      have r1 : w1.cell? ⟨w.heap.size + 3, 1, none⟩ = some (.int .i64 0) := by go_simp
      have rne : ¬ w.heap.size + 3 = w1.heap.size := by omega
      refine bodyPost_ret (v := .tuple #[.agg #[.int .i64 (0), .int .i64 (0)], .bool false]) (by simp only [results, Try.results76]; go_simp) rfl ?_
      exact ⟨by have h2 := HG.out; have h3 := HONE.out; simp only [add1N, add1D, add1Ok, addCond, ← h3]; simp [h2], by (repeat' (first | exact Below.refl _ _ | (with_reducible assumption) | (with_reducible refine xAlloc ?_ _) | (with_reducible refine Below.drew ?_) | (with_reducible refine xDrewN ?_ _) | (with_reducible refine xThen ?_ (by with_reducible assumption)) | (with_reducible refine Below.setCell ?_ (by first | omega | (simp; omega) | simp) _)))⟩
end Go.Proofs.Ytdifaojcjcnokaa
