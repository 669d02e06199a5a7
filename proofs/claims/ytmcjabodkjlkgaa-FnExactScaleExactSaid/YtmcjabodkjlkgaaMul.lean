/-
  The contract of scaleExact: a valid number times a small number.
-/
import Derived.Test.YtmcjabodkjlkgaaMathMul
import Derived.Test.YtmcjabodkjlkgaaMulDiv
import Derived.Test.YtmcjabodkjlkgaaBlk
import Derived.Test.YtmcjabodkjlkgaaMark
namespace Go.Proofs.Ytmcjabodkjlkgaa
open Go.RowKit

def mulN (b d : Nat) (A : Int) : Int := if fitOk b d A then (strip b d A).1 else 0
def mulD (b d : Nat) (A : Int) : Int := if fitOk b d A then (strip b d A).2 else 0

theorem mul_no {b dx n e : Nat} {A : Int} (h : stripN b dx A.natAbs = (n, e)) (hn : 1000000000000000000 < n) : fitOk b dx A = false ∧ mulN b dx A = 0 ∧ mulD b dx A = 0 := by
  have h1 := (strip_abs_eq b dx A).1
  rw [h] at h1
  have h2 : fitOk b dx A = false := by
    simp only [fitOk, inB]
    simp
    omega
  exact ⟨h2, by simp [mulN, h2], by simp [mulD, h2]⟩
theorem mul_yes {b dx n e : Nat} {A : Int} (b1 : 1 ≤ b) (hD : b ^ dx ≤ 1000000000000000) (h : stripN b dx A.natAbs = (n, e)) (hn : n ≤ 1000000000000000000) (z : Int) (hz : (strip b dx A).1 = z) :
    fitOk b dx A = true ∧ mulN b dx A = z ∧ mulD b dx A = e ∧ mkOk b e z = true ∧ mkNum b e z = z ∧ mkDep b e z = e := by
  obtain ⟨h1, h2⟩ := strip_abs_eq b dx A
  have h3 := strip_depth b dx A
  have h4 := strip_twice b dx A
  rw [h] at h1 h2
  simp only at h1 h2
  rw [hz] at h1 h4
  rw [h2] at h3 h4
  have e1 : (strip b dx A) = (z, e) := by rw [← hz, ← h2]
  rw [e1] at h4
  have f1 : fitOk b dx A = true := by
    simp only [fitOk, e1, inB]
    simp
    omega
  have f2 : fitOk b e z = true := by
    simp only [fitOk, h4, inB]
    simp
    omega
  have f3 : mkOk b e z = true := by rw [mkOk_of b1 (Nat.le_trans (Nat.pow_le_pow_right b1 h3) hD)]; exact f2
  exact ⟨f1, by simp [mulN, f1, e1], by simp [mulD, f1, e1], f3, by simp [mkNum, f3, h4], by simp [mkDep, f3, h4]⟩
theorem mul_up {b dx n e : Nat} {x k : Int} (h : stripN b dx (x * k).natAbs = (n, e)) (hs : (0 ≤ x ∧ 0 ≤ k) ∨ (x < 0 ∧ k < 0)) : (strip b dx (x * k)).1 = (n : Int) := by
  have h1 := (strip_abs_eq b dx (x * k)).1
  rw [h] at h1
  have h2 : 0 ≤ x * k := by
    rcases hs with ⟨a, c⟩ | ⟨a, c⟩
    · exact Int.mul_nonneg a c
    · rw [← Int.neg_mul_neg]; exact Int.mul_nonneg (by omega) (by omega)
  have h3 := (strip_sign b dx (x * k)).1 h2
  simp only at h1
  omega
theorem mul_down {b dx n e : Nat} {x k : Int} (h : stripN b dx (x * k).natAbs = (n, e)) (hs : (0 ≤ x ∧ k < 0) ∨ (x < 0 ∧ 0 ≤ k)) : (strip b dx (x * k)).1 = -(n : Int) := by
  have h1 := (strip_abs_eq b dx (x * k)).1
  rw [h] at h1
  have h2 : x * k ≤ 0 := by
    rcases hs with ⟨a, c⟩ | ⟨a, c⟩
    · have : 0 ≤ x * -k := Int.mul_nonneg a (by omega)
      rw [Int.mul_neg] at this; omega
    · have : 0 ≤ -x * k := Int.mul_nonneg (by omega) c
      rw [Int.neg_mul] at this; omega
  have h3 := (strip_sign b dx (x * k)).2 h2
  simp only at h1
  omega

theorem div64_at (hv : Int) (h l y q r : Nat) (ehv : hv = (h : Int)) (hhy : h < y) (hl : l < 18446744073709551616) (hy : y < 18446744073709551616) (e3 : q = (h * 18446744073709551616 + l) / y) (e4 : r = (h * 18446744073709551616 + l) % y) (w : World) :
    Calls Try.prog 128 #[.int .u64 hv, .int .u64 l, .int .u64 y] w fun e w' => e = .returned (.tuple #[.int .u64 q, .int .u64 r]) ∧ Below w.heap.size w w' := by
  subst ehv e3 e4; exact div64_all h l y hhy hl hy w
theorem mk_at (p c h s A dv : Int) (b D : Nat) (hBs : Base s b) (hA : -9223372036854775807 ≤ A ∧ A ≤ 9223372036854775807) (hD64 : D ≤ 1000) (hdv : dv = (D : Int)) (h1 : mkOk b D A = true) (h2 : mkNum b D A = A) (h3 : mkDep b D A = (D : Int)) (w : World) :
    Calls Try.prog 129 #[.agg #[.int .i64 p, .int .i64 c, .int .i64 h, .int .i64 s], .int .i64 A, .int .i64 dv] w fun e w' =>
      e = .returned (.tuple #[.agg #[.int .i64 A, .int .i64 dv], .bool true]) ∧ Below w.heap.size w w' := by
  subst hdv
  have := makeExact_any p c h s A b D hBs hA hD64 w
  rw [h1, h2, h3] at this
  exact this

set_option maxHeartbeats 4000000 in
theorem scaleEx_any (p c h s x k : Int) (b dx : Nat) (hBs : Base s b) (hx : exB b x dx = true) (hk : -1000 ≤ k ∧ k ≤ 1000) (w : World) :
    Calls Try.prog 84 #[.agg #[.int .i64 p, .int .i64 c, .int .i64 h, .int .i64 s], .agg #[.int .i64 x, .int .i64 dx], .int .i64 k] w fun e w' =>
      e = .returned (.tuple #[.agg #[.int .i64 (mulN b dx (x * k)), .int .i64 (mulD b dx (x * k))], .bool (fitOk b dx (x * k))]) ∧ Below w.heap.size w w' := by
  obtain ⟨_, hx2, hx3, hx4, _⟩ := exB_true hx
  rw [Int.toNat_natCast] at hx4
  have HB := hid hBs
  have b1 := hBs.2.2.2.1
  have b2 := hBs.2.2.2.2
  have HX4 := hid hx4
  have hn21 : x.natAbs * k.natAbs ≤ 1000000000000000000 * 1000 := Nat.mul_le_mul hx3 (by omega)
  clear hx hx4 hBs
  have HN21 := hid hn21
  obtain ⟨hi, HHI⟩ := named (x.natAbs * k.natAbs / 18446744073709551616)
  obtain ⟨lo, HLO⟩ := named (x.natAbs * k.natAbs % 18446744073709551616)
  clear hn21
  go_enter Try.func84, Try.ntmps84
  go_wp2_with (first | (go_at_call 125; (with_reducible refine (baseOf_any _ _ _ _ b HB.out _).mono ?_); rintro e w1 ⟨rfl, hb⟩; obtain ⟨hc, hf⟩ := bcell hb; have hsz := hb.size; (try simp at hsz); (try have hy0 : w.heap.size < w1.heap.size := by omega); (try have hy1 : w.heap.size + 1 < w1.heap.size := by omega); (try have hy2 : w.heap.size + 2 < w1.heap.size := by omega); (try have hyS : ws.heap.size < w1.heap.size := by omega); (try have hyG : wg.heap.size < w1.heap.size := by omega)) | (go_at_call 127; (with_reducible refine (absolute_any x (by omega) _).mono ?_); rintro e w' ⟨rfl, rfl⟩) | (go_at_call 127; (with_reducible refine (absolute_any k (by omega) _).mono ?_); rintro e w' ⟨rfl, rfl⟩) | (go_at_call 126; (with_reducible refine (mul64_at x.natAbs k.natAbs hi lo (by omega) (by omega) HHI.out HLO.out _).mono ?_); rintro e w' ⟨rfl, rfl⟩))
  have KV : w1.heap[w.heap.size]? = some (.cells #[.int .i64 p, .int .i64 c, .int .i64 h, .int .i64 s] 29 (0, 0)) := blk_mono hb (blk_old (blk_old (blk_new _ _)))
  have KX : w1.heap[w.heap.size + 1]? = some (.cells #[.int .i64 x, .int .i64 (dx : Int)] 52 (0, 0)) := by
    have := blk_old (o' := .cells #[.int .i64 0, .int .i64 0] 52 (0, 0)) (blk_new (w.alloc (.cells #[.int .i64 p, .int .i64 c, .int .i64 h, .int .i64 s] 29)) (.cells #[.int .i64 x, .int .i64 (dx : Int)] 52 (0, 0)))
    exact blk_mono hb (by simpa using this)
  have KR : w1.heap[w.heap.size + 2]? = some (.cells #[.int .i64 0, .int .i64 0] 52 (0, 0)) := by
    have := blk_new ((w.alloc (.cells #[.int .i64 p, .int .i64 c, .int .i64 h, .int .i64 s] 29)).alloc (.cells #[.int .i64 x, .int .i64 (dx : Int)] 52 (0, 0))) (.cells #[.int .i64 0, .int .i64 0] 52 (0, 0))
    exact blk_mono hb (by simpa using this)
  have B1 : Below w.heap.size w w1 := by (repeat' (first | exact Below.refl _ _ | (with_reducible assumption) | (with_reducible refine xAlloc ?_ _) | (with_reducible refine Below.drew ?_) | (with_reducible refine xDrewN ?_ _) | (with_reducible refine xThen ?_ (by with_reducible assumption)) | (with_reducible refine Below.setCell ?_ (by first | omega | (simp; omega) | simp) _)))
  clear hc hf
  go_loopw [9, 10, 11, 12, 13] (fun hv lv dv _ _ wr => ∃ e n h' l : Nat, dv = .int .i64 e ∧ hv = .int .u64 h' ∧ lv = .int .u64 l ∧ e ≤ dx ∧ l < 18446744073709551616 ∧ h' ≤ 100 ∧ Hid (h' * 18446744073709551616 + l = n) ∧ Hid (stripN b dx (x * k).natAbs = stripN b e n) ∧ Below w1.heap.size w1 wr) (fun _ _ dv _ _ _ => (intOf dv).toNat)
  case atStart =>
    have e0 : (x * k).natAbs = x.natAbs * k.natAbs := Int.natAbs_mul x k
    have d0 := Nat.div_add_mod (x.natAbs * k.natAbs) 18446744073709551616
    rw [← HHI.out, ← HLO.out] at d0
    refine ⟨dx, x.natAbs * k.natAbs, hi, lo, rfl, rfl, rfl, Nat.le_refl _, ?_, ?_, by rw [Nat.mul_comm]; exact d0, by rw [e0]; exact rfl, Below.refl _ _⟩
    · rw [HLO.out]; exact Nat.mod_lt _ (by omega)
    · rw [HHI.out]
      have := HN21.out
      rw [Nat.div_le_iff_le_mul_add_pred (by omega)]
      omega
  case round =>
    obtain ⟨e, n, h', l, rfl, rfl, rfl, he, hl, hh, HNE, HST0, hbel⟩ := hrel
    have K1 := blk_mono hbel KV
    have K2 := blk_mono hbel KX
    have K3 := blk_mono hbel KR
    have ysz := hbel.size
    have yr0 := blk_lt K1
    have yr1 := blk_lt K2
    have yr2 := blk_lt K3
    have qv0 : wr.cell? ⟨w.heap.size, 0, none⟩ = some (.int .i64 p) := cell_at K1
    have qv1 : wr.cell? ⟨w.heap.size, 1, none⟩ = some (.int .i64 c) := cell_at K1
    have qv2 : wr.cell? ⟨w.heap.size, 2, none⟩ = some (.int .i64 h) := cell_at K1
    have qv3 : wr.cell? ⟨w.heap.size, 3, none⟩ = some (.int .i64 s) := cell_at K1
    have qx0 : wr.cell? ⟨w.heap.size + 1, 0, none⟩ = some (.int .i64 x) := cell_at K2
    have qx1 : wr.cell? ⟨w.heap.size + 1, 1, none⟩ = some (.int .i64 (dx:Int)) := cell_at K2
    have qr0 : wr.cell? ⟨w.heap.size + 2, 0, none⟩ = some (.int .i64 0) := cell_at K3
    have qr1 : wr.cell? ⟨w.heap.size + 2, 1, none⟩ = some (.int .i64 0) := cell_at K3
    have fr0 : wr.frozen? ⟨w.heap.size + 2, 0, none⟩ = false := frozen_at K3
    have fr1 : wr.frozen? ⟨w.heap.size + 2, 1, none⟩ = false := frozen_at K3
    have BR := xThen B1 hbel
    clear K1 K2 K3
    cases e with
    | zero =>
      have HST : Hid (stripN b dx (x * k).natAbs = (n, 0)) := hid (by rw [HST0.out]; rfl)
      by_cases g0 : 0 < h'
      · have HF := hid (mul_no (b := b) (dx := dx) HST.out (show 1000000000000000000 < n by have := HNE.out; omega))
        go_wp2
        refine bodyPost_ret (v := .tuple #[.agg #[.int .i64 0, .int .i64 0], .bool false]) (by simp only [results, Try.results84]; go_simp) rfl ?_
        exact ⟨by rw [HF.out.1, HF.out.2.1, HF.out.2.2], by (repeat' (first | exact Below.refl _ _ | (with_reducible assumption) | (with_reducible refine xAlloc ?_ _) | (with_reducible refine Below.drew ?_) | (with_reducible refine xDrewN ?_ _) | (with_reducible refine xThen ?_ (by with_reducible assumption)) | (with_reducible refine Below.setCell ?_ (by first | omega | (simp; omega) | simp) _)))⟩
      · by_cases g1 : 1000000000000000000 < l
        · have HF := hid (mul_no (b := b) (dx := dx) HST.out (show 1000000000000000000 < n by have := HNE.out; omega))
          go_wp2
          refine bodyPost_ret (v := .tuple #[.agg #[.int .i64 0, .int .i64 0], .bool false]) (by simp only [results, Try.results84]; go_simp) rfl ?_
          exact ⟨by rw [HF.out.1, HF.out.2.1, HF.out.2.2], by (repeat' (first | exact Below.refl _ _ | (with_reducible assumption) | (with_reducible refine xAlloc ?_ _) | (with_reducible refine Below.drew ?_) | (with_reducible refine xDrewN ?_ _) | (with_reducible refine xThen ?_ (by with_reducible assumption)) | (with_reducible refine Below.setCell ?_ (by first | omega | (simp; omega) | simp) _)))⟩
        · obtain rfl : h' = 0 := by omega
          obtain rfl : l = n := by have := HNE.out; omega
          by_cases sx : x < 0
          · by_cases sk : k < 0
            · have bx : decide (x < 0) = true := decide_eq_true sx
              have bk : decide (k < 0) = true := decide_eq_true sk
              have HT := hid (mul_yes b1 HX4.out HST.out (by omega) _ (mul_up HST.out (.inr ⟨by omega, by omega⟩)))
              go_wp2_with (go_at_call 129; (with_reducible refine (mk_at _ _ _ _ (l : Int) _ b (0) HB.out (by omega) (by omega) (by omega) HT.out.2.2.2.1 HT.out.2.2.2.2.1 HT.out.2.2.2.2.2 _).mono ?_); rintro e1 w1 ⟨rfl, hb⟩; obtain ⟨hc, hf⟩ := bcell hb; have hsz := hb.size; (try simp at hsz); (try have hy0 : w.heap.size < w1.heap.size := by omega); (try have hy1 : w.heap.size + 1 < w1.heap.size := by omega); (try have hy2 : w.heap.size + 2 < w1.heap.size := by omega); (try have hyS : ws.heap.size < w1.heap.size := by omega); (try have hyG : wg.heap.size < w1.heap.size := by omega))
              have r0 : w1.cell? ⟨w.heap.size + 2, 0, none⟩ = some (.int .i64 0) := by go_simp
              have r1 : w1.cell? ⟨w.heap.size + 2, 1, none⟩ = some (.int .i64 0) := by go_simp
              have rne : ¬ w.heap.size + 2 = w1.heap.size := by omega
              refine bodyPost_ret (v := .tuple #[.agg #[.int .i64 ((l : Int)), .int .i64 ((0 : Nat))], .bool true]) (by simp only [results, Try.results84]; go_simp) rfl ?_
              exact ⟨by rw [HT.out.1, HT.out.2.1, HT.out.2.2.1], by (repeat' (first | exact Below.refl _ _ | (with_reducible assumption) | (with_reducible refine xAlloc ?_ _) | (with_reducible refine Below.drew ?_) | (with_reducible refine xDrewN ?_ _) | (with_reducible refine xThen ?_ (by with_reducible assumption)) | (with_reducible refine Below.setCell ?_ (by first | omega | (simp; omega) | simp) _)))⟩
            · have bx : decide (x < 0) = true := decide_eq_true sx
              have bk : decide (k < 0) = false := decide_eq_false sk
              have HT := hid (mul_yes b1 HX4.out HST.out (by omega) _ (mul_down HST.out (.inr ⟨by omega, by omega⟩)))
              go_wp2_with (go_at_call 129; (with_reducible refine (mk_at _ _ _ _ (-(l : Int)) _ b (0) HB.out (by omega) (by omega) (by omega) HT.out.2.2.2.1 HT.out.2.2.2.2.1 HT.out.2.2.2.2.2 _).mono ?_); rintro e1 w1 ⟨rfl, hb⟩; obtain ⟨hc, hf⟩ := bcell hb; have hsz := hb.size; (try simp at hsz); (try have hy0 : w.heap.size < w1.heap.size := by omega); (try have hy1 : w.heap.size + 1 < w1.heap.size := by omega); (try have hy2 : w.heap.size + 2 < w1.heap.size := by omega); (try have hyS : ws.heap.size < w1.heap.size := by omega); (try have hyG : wg.heap.size < w1.heap.size := by omega))
              have r0 : w1.cell? ⟨w.heap.size + 2, 0, none⟩ = some (.int .i64 0) := by go_simp
              have r1 : w1.cell? ⟨w.heap.size + 2, 1, none⟩ = some (.int .i64 0) := by go_simp
              have rne : ¬ w.heap.size + 2 = w1.heap.size := by omega
              refine bodyPost_ret (v := .tuple #[.agg #[.int .i64 ((-(l : Int))), .int .i64 ((0 : Nat))], .bool true]) (by simp only [results, Try.results84]; go_simp) rfl ?_
              exact ⟨by rw [HT.out.1, HT.out.2.1, HT.out.2.2.1], by (repeat' (first | exact Below.refl _ _ | (with_reducible assumption) | (with_reducible refine xAlloc ?_ _) | (with_reducible refine Below.drew ?_) | (with_reducible refine xDrewN ?_ _) | (with_reducible refine xThen ?_ (by with_reducible assumption)) | (with_reducible refine Below.setCell ?_ (by first | omega | (simp; omega) | simp) _)))⟩
          · by_cases sk : k < 0
            · have bx : decide (x < 0) = false := decide_eq_false sx
              have bk : decide (k < 0) = true := decide_eq_true sk
              have HT := hid (mul_yes b1 HX4.out HST.out (by omega) _ (mul_down HST.out (.inl ⟨by omega, by omega⟩)))
              go_wp2_with (go_at_call 129; (with_reducible refine (mk_at _ _ _ _ (-(l : Int)) _ b (0) HB.out (by omega) (by omega) (by omega) HT.out.2.2.2.1 HT.out.2.2.2.2.1 HT.out.2.2.2.2.2 _).mono ?_); rintro e1 w1 ⟨rfl, hb⟩; obtain ⟨hc, hf⟩ := bcell hb; have hsz := hb.size; (try simp at hsz); (try have hy0 : w.heap.size < w1.heap.size := by omega); (try have hy1 : w.heap.size + 1 < w1.heap.size := by omega); (try have hy2 : w.heap.size + 2 < w1.heap.size := by omega); (try have hyS : ws.heap.size < w1.heap.size := by omega); (try have hyG : wg.heap.size < w1.heap.size := by omega))
              have r0 : w1.cell? ⟨w.heap.size + 2, 0, none⟩ = some (.int .i64 0) := by go_simp
              have r1 : w1.cell? ⟨w.heap.size + 2, 1, none⟩ = some (.int .i64 0) := by go_simp
              have rne : ¬ w.heap.size + 2 = w1.heap.size := by omega
              refine bodyPost_ret (v := .tuple #[.agg #[.int .i64 ((-(l : Int))), .int .i64 ((0 : Nat))], .bool true]) (by simp only [results, Try.results84]; go_simp) rfl ?_
              exact ⟨by rw [HT.out.1, HT.out.2.1, HT.out.2.2.1], by (repeat' (first | exact Below.refl _ _ | (with_reducible assumption) | (with_reducible refine xAlloc ?_ _) | (with_reducible refine Below.drew ?_) | (with_reducible refine xDrewN ?_ _) | (with_reducible refine xThen ?_ (by with_reducible assumption)) | (with_reducible refine Below.setCell ?_ (by first | omega | (simp; omega) | simp) _)))⟩
            · have bx : decide (x < 0) = false := decide_eq_false sx
              have bk : decide (k < 0) = false := decide_eq_false sk
              have HT := hid (mul_yes b1 HX4.out HST.out (by omega) _ (mul_up HST.out (.inl ⟨by omega, by omega⟩)))
              go_wp2_with (go_at_call 129; (with_reducible refine (mk_at _ _ _ _ (l : Int) _ b (0) HB.out (by omega) (by omega) (by omega) HT.out.2.2.2.1 HT.out.2.2.2.2.1 HT.out.2.2.2.2.2 _).mono ?_); rintro e1 w1 ⟨rfl, hb⟩; obtain ⟨hc, hf⟩ := bcell hb; have hsz := hb.size; (try simp at hsz); (try have hy0 : w.heap.size < w1.heap.size := by omega); (try have hy1 : w.heap.size + 1 < w1.heap.size := by omega); (try have hy2 : w.heap.size + 2 < w1.heap.size := by omega); (try have hyS : ws.heap.size < w1.heap.size := by omega); (try have hyG : wg.heap.size < w1.heap.size := by omega))
              have r0 : w1.cell? ⟨w.heap.size + 2, 0, none⟩ = some (.int .i64 0) := by go_simp
              have r1 : w1.cell? ⟨w.heap.size + 2, 1, none⟩ = some (.int .i64 0) := by go_simp
              have rne : ¬ w.heap.size + 2 = w1.heap.size := by omega
              refine bodyPost_ret (v := .tuple #[.agg #[.int .i64 ((l : Int)), .int .i64 ((0 : Nat))], .bool true]) (by simp only [results, Try.results84]; go_simp) rfl ?_
              exact ⟨by rw [HT.out.1, HT.out.2.1, HT.out.2.2.1], by (repeat' (first | exact Below.refl _ _ | (with_reducible assumption) | (with_reducible refine xAlloc ?_ _) | (with_reducible refine Below.drew ?_) | (with_reducible refine xDrewN ?_ _) | (with_reducible refine xThen ?_ (by with_reducible assumption)) | (with_reducible refine Below.setCell ?_ (by first | omega | (simp; omega) | simp) _)))⟩
    | succ e =>
      have hmb := Nat.mod_lt h' (show 0 < b by omega)
      have hqb := Nat.div_le_self h' b
      obtain ⟨w1', w2', w3'⟩ := words_div (hi := h') (b := b) hl b1
      obtain ⟨hm, HM⟩ := named (h' % b)
      obtain ⟨hq, HQ⟩ := named (h' / b)
      obtain ⟨q, HQQ⟩ := named ((h' % b * 18446744073709551616 + l) / b)
      obtain ⟨r, HR⟩ := named ((h' % b * 18446744073709551616 + l) % b)
      have hrb : r < b := by rw [HR.out]; exact Nat.mod_lt _ (by omega)
      have E1 : (h' : Int) % (b : Int) = (hm : Int) := by rw [HM.out]; rfl
      have E1' : (h' : Int).tmod (b : Int) = (hm : Int) := by rw [HM.out]; rfl
      have E2 : (h' : Int) / (b : Int) = (hq : Int) := by rw [HQ.out]; rfl
      have E2' : (h' : Int).tdiv (b : Int) = (hq : Int) := by rw [HQ.out]; rfl
      rw [HNE.out, ← HQ.out, ← HQQ.out] at w1'
      rw [HNE.out, ← HR.out] at w2'
      rw [← HQQ.out] at w3'
      rw [← HM.out] at hmb
      rw [← HQ.out] at hqb
      have W1 := hid w1'
      have W2 := hid w2'
      clear w1' w2'
      by_cases r0 : r = 0
      · have HST1 : Hid (stripN b dx (x * k).natAbs = stripN b e (n / b)) := hid (by rw [HST0.out]; simp only [stripN]; rw [if_pos (by rw [W2.out]; exact r0)])
        subst r0
        go_wp2_with (go_at_call 128; (with_reducible refine (div64_at _ hm l b q 0 (by omega) (by omega) hl (by omega) (by rw [HM.out]; exact HQQ.out) (by rw [HM.out]; exact HR.out) _).mono ?_); rintro e w2 ⟨rfl, hb⟩; obtain ⟨hc, hf⟩ := bcell hb; have hsz := hb.size; (try simp at hsz); (try have hy0 : w.heap.size < w2.heap.size := by omega); (try have hy1 : w.heap.size + 1 < w2.heap.size := by omega); (try have hy2 : w.heap.size + 2 < w2.heap.size := by omega); (try have hyS : ws.heap.size < w2.heap.size := by omega); (try have hyG : wg.heap.size < w2.heap.size := by omega))
        go_roundw
        case rel => exact ⟨e, n / b, hq, q, num (by omega), rfl, rfl, by omega, w3', by omega, hid W1.out.symm, HST1, xThen hbel hb⟩
        case measure => simp [intOf]
      · have HST : Hid (stripN b dx (x * k).natAbs = (n, e + 1)) := hid (by rw [HST0.out]; simp only [stripN]; rw [if_neg (by rw [W2.out]; exact r0)])
        by_cases g0 : 0 < h'
        · have HF := hid (mul_no (b := b) (dx := dx) HST.out (show 1000000000000000000 < n by have := HNE.out; omega))
          go_wp2_with (go_at_call 128; (with_reducible refine (div64_at _ hm l b q r (by omega) (by omega) hl (by omega) (by rw [HM.out]; exact HQQ.out) (by rw [HM.out]; exact HR.out) _).mono ?_); rintro e w2 ⟨rfl, hb⟩; obtain ⟨hc, hf⟩ := bcell hb; have hsz := hb.size; (try simp at hsz); (try have hy0 : w.heap.size < w2.heap.size := by omega); (try have hy1 : w.heap.size + 1 < w2.heap.size := by omega); (try have hy2 : w.heap.size + 2 < w2.heap.size := by omega); (try have hyS : ws.heap.size < w2.heap.size := by omega); (try have hyG : wg.heap.size < w2.heap.size := by omega))
          refine bodyPost_ret (v := .tuple #[.agg #[.int .i64 0, .int .i64 0], .bool false]) (by simp only [results, Try.results84]; go_simp) rfl ?_
          exact ⟨by rw [HF.out.1, HF.out.2.1, HF.out.2.2], by (repeat' (first | exact Below.refl _ _ | (with_reducible assumption) | (with_reducible refine xAlloc ?_ _) | (with_reducible refine Below.drew ?_) | (with_reducible refine xDrewN ?_ _) | (with_reducible refine xThen ?_ (by with_reducible assumption)) | (with_reducible refine Below.setCell ?_ (by first | omega | (simp; omega) | simp) _)))⟩
        · have hm0 : hm = 0 := by
            rw [HM.out, show h' = 0 by omega]
            exact Nat.zero_mod b
          by_cases g1 : 1000000000000000000 < l
          · have HF := hid (mul_no (b := b) (dx := dx) HST.out (show 1000000000000000000 < n by have := HNE.out; omega))
            go_wp2_with (go_at_call 128; (with_reducible refine (div64_at _ hm l b q r (by omega) (by omega) hl (by omega) (by rw [HM.out]; exact HQQ.out) (by rw [HM.out]; exact HR.out) _).mono ?_); rintro e w2 ⟨rfl, hb⟩; obtain ⟨hc, hf⟩ := bcell hb; have hsz := hb.size; (try simp at hsz); (try have hy0 : w.heap.size < w2.heap.size := by omega); (try have hy1 : w.heap.size + 1 < w2.heap.size := by omega); (try have hy2 : w.heap.size + 2 < w2.heap.size := by omega); (try have hyS : ws.heap.size < w2.heap.size := by omega); (try have hyG : wg.heap.size < w2.heap.size := by omega))
            refine bodyPost_ret (v := .tuple #[.agg #[.int .i64 0, .int .i64 0], .bool false]) (by simp only [results, Try.results84]; go_simp) rfl ?_
            exact ⟨by rw [HF.out.1, HF.out.2.1, HF.out.2.2], by (repeat' (first | exact Below.refl _ _ | (with_reducible assumption) | (with_reducible refine xAlloc ?_ _) | (with_reducible refine Below.drew ?_) | (with_reducible refine xDrewN ?_ _) | (with_reducible refine xThen ?_ (by with_reducible assumption)) | (with_reducible refine Below.setCell ?_ (by first | omega | (simp; omega) | simp) _)))⟩
          · obtain rfl : h' = 0 := by omega
            obtain rfl : l = n := by have := HNE.out; omega
            by_cases sx : x < 0
            · by_cases sk : k < 0
              · have bx : decide (x < 0) = true := decide_eq_true sx
                have bk : decide (k < 0) = true := decide_eq_true sk
                have HT := hid (mul_yes b1 HX4.out HST.out (by omega) _ (mul_up HST.out (.inr ⟨by omega, by omega⟩)))
                go_wp2_with (first | (go_at_call 128; (with_reducible refine (div64_at _ hm l b q r (by omega) (by omega) hl (by omega) (by rw [HM.out]; exact HQQ.out) (by rw [HM.out]; exact HR.out) _).mono ?_); rintro e w2 ⟨rfl, hb⟩; obtain ⟨hc, hf⟩ := bcell hb; have hsz := hb.size; (try simp at hsz); (try have hy0 : w.heap.size < w2.heap.size := by omega); (try have hy1 : w.heap.size + 1 < w2.heap.size := by omega); (try have hy2 : w.heap.size + 2 < w2.heap.size := by omega); (try have hyS : ws.heap.size < w2.heap.size := by omega); (try have hyG : wg.heap.size < w2.heap.size := by omega)) | (go_at_call 129; (with_reducible refine (mk_at _ _ _ _ (l : Int) _ b (e + 1) HB.out (by omega) (by omega) (by omega) HT.out.2.2.2.1 HT.out.2.2.2.2.1 HT.out.2.2.2.2.2 _).mono ?_); rintro e1 w1 ⟨rfl, hb⟩; obtain ⟨hc, hf⟩ := bcell hb; have hsz := hb.size; (try simp at hsz); (try have hy0 : w.heap.size < w1.heap.size := by omega); (try have hy1 : w.heap.size + 1 < w1.heap.size := by omega); (try have hy2 : w.heap.size + 2 < w1.heap.size := by omega); (try have hyS : ws.heap.size < w1.heap.size := by omega); (try have hyG : wg.heap.size < w1.heap.size := by omega)))
                have r0 : w1.cell? ⟨w.heap.size + 2, 0, none⟩ = some (.int .i64 0) := by go_simp
                have r1 : w1.cell? ⟨w.heap.size + 2, 1, none⟩ = some (.int .i64 0) := by go_simp
                have rne : ¬ w.heap.size + 2 = w1.heap.size := by omega
                refine bodyPost_ret (v := .tuple #[.agg #[.int .i64 ((l : Int)), .int .i64 ((e + 1 : Nat))], .bool true]) (by simp only [results, Try.results84]; go_simp) rfl ?_
                exact ⟨by rw [HT.out.1, HT.out.2.1, HT.out.2.2.1], by (repeat' (first | exact Below.refl _ _ | (with_reducible assumption) | (with_reducible refine xAlloc ?_ _) | (with_reducible refine Below.drew ?_) | (with_reducible refine xDrewN ?_ _) | (with_reducible refine xThen ?_ (by with_reducible assumption)) | (with_reducible refine Below.setCell ?_ (by first | omega | (simp; omega) | simp) _)))⟩
              · have bx : decide (x < 0) = true := decide_eq_true sx
                have bk : decide (k < 0) = false := decide_eq_false sk
                have HT := hid (mul_yes b1 HX4.out HST.out (by omega) _ (mul_down HST.out (.inr ⟨by omega, by omega⟩)))
                go_wp2_with (first | (go_at_call 128; (with_reducible refine (div64_at _ hm l b q r (by omega) (by omega) hl (by omega) (by rw [HM.out]; exact HQQ.out) (by rw [HM.out]; exact HR.out) _).mono ?_); rintro e w2 ⟨rfl, hb⟩; obtain ⟨hc, hf⟩ := bcell hb; have hsz := hb.size; (try simp at hsz); (try have hy0 : w.heap.size < w2.heap.size := by omega); (try have hy1 : w.heap.size + 1 < w2.heap.size := by omega); (try have hy2 : w.heap.size + 2 < w2.heap.size := by omega); (try have hyS : ws.heap.size < w2.heap.size := by omega); (try have hyG : wg.heap.size < w2.heap.size := by omega)) | (go_at_call 129; (with_reducible refine (mk_at _ _ _ _ (-(l : Int)) _ b (e + 1) HB.out (by omega) (by omega) (by omega) HT.out.2.2.2.1 HT.out.2.2.2.2.1 HT.out.2.2.2.2.2 _).mono ?_); rintro e1 w1 ⟨rfl, hb⟩; obtain ⟨hc, hf⟩ := bcell hb; have hsz := hb.size; (try simp at hsz); (try have hy0 : w.heap.size < w1.heap.size := by omega); (try have hy1 : w.heap.size + 1 < w1.heap.size := by omega); (try have hy2 : w.heap.size + 2 < w1.heap.size := by omega); (try have hyS : ws.heap.size < w1.heap.size := by omega); (try have hyG : wg.heap.size < w1.heap.size := by omega)))
                have r0 : w1.cell? ⟨w.heap.size + 2, 0, none⟩ = some (.int .i64 0) := by go_simp
                have r1 : w1.cell? ⟨w.heap.size + 2, 1, none⟩ = some (.int .i64 0) := by go_simp
                have rne : ¬ w.heap.size + 2 = w1.heap.size := by omega
                refine bodyPost_ret (v := .tuple #[.agg #[.int .i64 ((-(l : Int))), .int .i64 ((e + 1 : Nat))], .bool true]) (by simp only [results, Try.results84]; go_simp) rfl ?_
                exact ⟨by rw [HT.out.1, HT.out.2.1, HT.out.2.2.1], by (repeat' (first | exact Below.refl _ _ | (with_reducible assumption) | (with_reducible refine xAlloc ?_ _) | (with_reducible refine Below.drew ?_) | (with_reducible refine xDrewN ?_ _) | (with_reducible refine xThen ?_ (by with_reducible assumption)) | (with_reducible refine Below.setCell ?_ (by first | omega | (simp; omega) | simp) _)))⟩
            · by_cases sk : k < 0
              · have bx : decide (x < 0) = false := decide_eq_false sx
                have bk : decide (k < 0) = true := decide_eq_true sk
                have HT := hid (mul_yes b1 HX4.out HST.out (by omega) _ (mul_down HST.out (.inl ⟨by omega, by omega⟩)))
                go_wp2_with (first | (go_at_call 128; (with_reducible refine (div64_at _ hm l b q r (by omega) (by omega) hl (by omega) (by rw [HM.out]; exact HQQ.out) (by rw [HM.out]; exact HR.out) _).mono ?_); rintro e w2 ⟨rfl, hb⟩; obtain ⟨hc, hf⟩ := bcell hb; have hsz := hb.size; (try simp at hsz); (try have hy0 : w.heap.size < w2.heap.size := by omega); (try have hy1 : w.heap.size + 1 < w2.heap.size := by omega); (try have hy2 : w.heap.size + 2 < w2.heap.size := by omega); (try have hyS : ws.heap.size < w2.heap.size := by omega); (try have hyG : wg.heap.size < w2.heap.size := by omega)) | (go_at_call 129; (with_reducible refine (mk_at _ _ _ _ (-(l : Int)) _ b (e + 1) HB.out (by omega) (by omega) (by omega) HT.out.2.2.2.1 HT.out.2.2.2.2.1 HT.out.2.2.2.2.2 _).mono ?_); rintro e1 w1 ⟨rfl, hb⟩; obtain ⟨hc, hf⟩ := bcell hb; have hsz := hb.size; (try simp at hsz); (try have hy0 : w.heap.size < w1.heap.size := by omega); (try have hy1 : w.heap.size + 1 < w1.heap.size := by omega); (try have hy2 : w.heap.size + 2 < w1.heap.size := by omega); (try have hyS : ws.heap.size < w1.heap.size := by omega); (try have hyG : wg.heap.size < w1.heap.size := by omega)))
                have r0 : w1.cell? ⟨w.heap.size + 2, 0, none⟩ = some (.int .i64 0) := by go_simp
                have r1 : w1.cell? ⟨w.heap.size + 2, 1, none⟩ = some (.int .i64 0) := by go_simp
                have rne : ¬ w.heap.size + 2 = w1.heap.size := by omega
                refine bodyPost_ret (v := .tuple #[.agg #[.int .i64 ((-(l : Int))), .int .i64 ((e + 1 : Nat))], .bool true]) (by simp only [results, Try.results84]; go_simp) rfl ?_
                exact ⟨by rw [HT.out.1, HT.out.2.1, HT.out.2.2.1], by (repeat' (first | exact Below.refl _ _ | (with_reducible assumption) | (with_reducible refine xAlloc ?_ _) | (with_reducible refine Below.drew ?_) | (with_reducible refine xDrewN ?_ _) | (with_reducible refine xThen ?_ (by with_reducible assumption)) | (with_reducible refine Below.setCell ?_ (by first | omega | (simp; omega) | simp) _)))⟩
              · have bx : decide (x < 0) = false := decide_eq_false sx
                have bk : decide (k < 0) = false := decide_eq_false sk
                have HT := hid (mul_yes b1 HX4.out HST.out (by omega) _ (mul_up HST.out (.inl ⟨by omega, by omega⟩)))
                go_wp2_with (first | (go_at_call 128; (with_reducible refine (div64_at _ hm l b q r (by omega) (by omega) hl (by omega) (by rw [HM.out]; exact HQQ.out) (by rw [HM.out]; exact HR.out) _).mono ?_); rintro e w2 ⟨rfl, hb⟩; obtain ⟨hc, hf⟩ := bcell hb; have hsz := hb.size; (try simp at hsz); (try have hy0 : w.heap.size < w2.heap.size := by omega); (try have hy1 : w.heap.size + 1 < w2.heap.size := by omega); (try have hy2 : w.heap.size + 2 < w2.heap.size := by omega); (try have hyS : ws.heap.size < w2.heap.size := by omega); (try have hyG : wg.heap.size < w2.heap.size := by omega)) | (go_at_call 129; (with_reducible refine (mk_at _ _ _ _ (l : Int) _ b (e + 1) HB.out (by omega) (by omega) (by omega) HT.out.2.2.2.1 HT.out.2.2.2.2.1 HT.out.2.2.2.2.2 _).mono ?_); rintro e1 w1 ⟨rfl, hb⟩; obtain ⟨hc, hf⟩ := bcell hb; have hsz := hb.size; (try simp at hsz); (try have hy0 : w.heap.size < w1.heap.size := by omega); (try have hy1 : w.heap.size + 1 < w1.heap.size := by omega); (try have hy2 : w.heap.size + 2 < w1.heap.size := by omega); (try have hyS : ws.heap.size < w1.heap.size := by omega); (try have hyG : wg.heap.size < w1.heap.size := by omega)))
                have r0 : w1.cell? ⟨w.heap.size + 2, 0, none⟩ = some (.int .i64 0) := by go_simp
                have r1 : w1.cell? ⟨w.heap.size + 2, 1, none⟩ = some (.int .i64 0) := by go_simp
                have rne : ¬ w.heap.size + 2 = w1.heap.size := by omega
                refine bodyPost_ret (v := .tuple #[.agg #[.int .i64 ((l : Int)), .int .i64 ((e + 1 : Nat))], .bool true]) (by simp only [results, Try.results84]; go_simp) rfl ?_
                exact ⟨by rw [HT.out.1, HT.out.2.1, HT.out.2.2.1], by (repeat' (first | exact Below.refl _ _ | (with_reducible assumption) | (with_reducible refine xAlloc ?_ _) | (with_reducible refine Below.drew ?_) | (with_reducible refine xDrewN ?_ _) | (with_reducible refine xThen ?_ (by with_reducible assumption)) | (with_reducible refine Below.setCell ?_ (by first | omega | (simp; omega) | simp) _)))⟩
end Go.Proofs.Ytmcjabodkjlkgaa
