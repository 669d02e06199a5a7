/-
  Contracts of both MillionthsOf functions, for every variant and number.
-/
import Derived.Test.YtdifaojcjcnokaaAdd5
import Derived.Test.YtdifaojcjcnokaaDivAll
import Derived.Test.YtdifaojcjcnokaaTailA
namespace Go.Proofs.Ytdifaojcjcnokaa
open Go.RowKit

def millV (S : Nat) (x : Int) : Int := x * 1000000 / (S : Int)
theorem mill_up {S : Nat} {x : Int} (h : 0 ≤ x) : millV S x = ((x.natAbs * 1000000 / S : Nat) : Int) := by
  obtain ⟨n, rfl⟩ := Int.eq_ofNat_of_zero_le h
  simp [millV]
theorem neg_ediv {N S : Nat} (hS : 1 ≤ S) : -(N : Int) / (S : Int) = -(((N / S : Nat) : Int) + (if N % S = 0 then 0 else 1)) := by
  have hd := Nat.div_add_mod N S
  have hm := Nat.mod_lt N (show 0 < S by omega)
  generalize N / S = q at *
  generalize hr : N % S = r at *
  subst hd
  by_cases h0 : r = 0
  · subst h0
    simp only [if_true, Nat.add_zero]
    refine Int.ediv_eq_of_eq_mul_right (by omega) ?_
    rw [Int.natCast_mul, Int.mul_neg, Int.mul_add]; simp
  · rw [if_neg h0]
    have e3 : -((S * q + r : Nat) : Int) = ((S : Int) - r) + (S : Int) * (-((q : Int) + 1)) := by
      rw [Int.natCast_add, Int.natCast_mul, Int.mul_neg, Int.mul_add]; omega
    rw [e3, Int.add_mul_ediv_left _ _ (by omega), Int.ediv_eq_zero_of_lt (by omega) (by omega)]
    omega
theorem mill_down {S : Nat} {x : Int} (hS : 1 ≤ S) (h : x < 0) : millV S x = -(((x.natAbs * 1000000 / S : Nat) : Int) + (if x.natAbs * 1000000 % S = 0 then 0 else 1)) := by
  rw [← neg_ediv hS]
  obtain ⟨n, rfl⟩ : ∃ n : Nat, x = -(n : Int) := ⟨x.natAbs, by omega⟩
  rw [show (-(n : Int)).natAbs = n by omega, Int.natCast_mul]
  show -(n : Int) * 1000000 / (S : Int) = _
  rw [Int.neg_mul]; rfl

/-- the digits of the millionths -/
def outK (S : Nat) (x : Int) (k : Nat) : Int := x * 10 ^ k / (S : Int)
def restK (S : Nat) (x : Int) (k : Nat) : Int := x * 10 ^ k % (S : Int)
theorem restK_bd {S : Nat} {x : Int} (hS : 1 ≤ S) (k : Nat) : 0 ≤ restK S x k ∧ restK S x k < S :=
  ⟨Int.emod_nonneg _ (by omega), Int.emod_lt_of_pos _ (by omega)⟩
theorem stepK {S : Nat} {x : Int} (hS : 1 ≤ S) (k : Nat) : outK S x (k + 1) = 10 * outK S x k + 10 * restK S x k / (S : Int) ∧ restK S x (k + 1) = 10 * restK S x k % (S : Int) := by
  have h := Int.mul_ediv_add_emod (x * 10 ^ k) (S : Int)
  have e : x * 10 ^ (k + 1) = 10 * restK S x k + (S : Int) * (10 * outK S x k) := by
    rw [Int.pow_succ, ← Int.mul_assoc, Int.mul_left_comm (S : Int) 10]
    unfold outK restK
    generalize x * 10 ^ k = P at *
    generalize (S : Int) * (P / (S : Int)) = A at *
    omega
  constructor
  · show x * 10 ^ (k + 1) / (S : Int) = _
    rw [e, Int.add_mul_ediv_left _ _ (by omega)]; omega
  · show x * 10 ^ (k + 1) % (S : Int) = _
    rw [e, Int.add_mul_emod_self_left]
theorem outK_bd {S : Nat} {x : Int} (hS : 1 ≤ S) (hx : x.natAbs ≤ 1000 * S) : ∀ k, k ≤ 6 → -1000000000 ≤ outK S x k ∧ outK S x k ≤ 1000000000 := by
  intro k hk
  have hp : (0 : Int) < 10 ^ k := Int.pow_pos (by omega)
  have hp2 : (10 : Int) ^ k ≤ 1000000 := by
    rcases (show k = 0 ∨ k = 1 ∨ k = 2 ∨ k = 3 ∨ k = 4 ∨ k = 5 ∨ k = 6 by omega) with rfl | rfl | rfl | rfl | rfl | rfl | rfl <;> simp
  have a1 : (-(1000000000 : Int)) * S ≤ x * 10 ^ k := by
    have h1 : -(x * 10 ^ k) ≤ (1000 * S : Int) * 1000000 := by
      rw [← Int.neg_mul]
      exact Int.mul_le_mul (by omega) hp2 (by omega) (by omega)
    omega
  have a2 : x * 10 ^ k ≤ (1000000000 : Int) * S := by
    have h1 : x * 10 ^ k ≤ (1000 * S : Int) * 1000000 := Int.mul_le_mul (by omega) hp2 (by omega) (by omega)
    omega
  exact ⟨(Int.le_ediv_iff_mul_le (by omega)).2 a1, by
    have := Int.ediv_le_ediv (c := (S : Int)) (by omega) a2
    rw [Int.mul_ediv_cancel _ (by omega)] at this
    exact this⟩

theorem euclid {x : Int} {S : Nat} (hS : 1 ≤ S) : (0 ≤ x.tmod S → x.tdiv S = outK S x 0 ∧ x.tmod S = restK S x 0) ∧ (x.tmod S < 0 → x.tdiv S - 1 = outK S x 0 ∧ x.tmod S + S = restK S x 0) := by
  have h := Int.mul_tdiv_add_tmod x (S : Int)
  have h1 := Int.tmod_lt_of_pos x (show (0 : Int) < S by omega)
  have h2 := Int.lt_tmod_of_pos x (show (0 : Int) < S by omega)
  have key : ∀ q r : Int, (S : Int) * q + r = x → 0 ≤ r → r < S → q = outK S x 0 ∧ r = restK S x 0 := fun q r e r0 r1 => by
    unfold outK restK
    rw [Int.pow_zero, Int.mul_one, ← e, Int.add_comm, Int.add_mul_ediv_left _ _ (by omega), Int.ediv_eq_zero_of_lt r0 r1, Int.add_mul_emod_self_left, Int.emod_eq_of_lt r0 r1]
    exact ⟨by omega, rfl⟩
  refine ⟨fun h0 => key _ _ h h0 h1, fun h0 => key _ _ ?_ (by omega) (by omega)⟩
  rw [Int.mul_sub]
  omega

theorem scaleOf_pow (p c h s : Int) (b k D sc : Nat) (hB : Base s b) (hk : k ≤ D) (hD : b ^ D ≤ 1000000000000000) (hk64 : (k : Int) ≤ 9223372036854775807) (e : b ^ k = sc) (w : World) :
    Calls Try.prog 65 #[.agg #[.int .i64 p, .int .i64 c, .int .i64 h, .int .i64 s], .int .i64 k] w fun e w' => e = .returned (.tuple #[.int .i64 sc, .bool true]) ∧ Below w.heap.size w w' := by
  have hs := scl_le hB.2.2.2.1 hk hD
  have := scaleOf_any p c h s k b hB hk64 w
  rw [hs.1, hs.2, e] at this
  exact this

theorem mulM_any (x : Nat) (hx : x < 18446744073709551616) (w : World) :
    Calls Try.prog 79 #[.int .u64 x, .int .u64 1000000] w fun e w' => e = .returned (.tuple #[.int .u64 ((x * 1000000 / 18446744073709551616 : Nat) : Int), .int .u64 ((x * 1000000 % 18446744073709551616 : Nat) : Int)]) ∧ w = w' := by
  refine (mul64_any x 1000000 hx (by omega) w).mono ?_
  rintro e w' ⟨rfl, rfl⟩
  exact ⟨rfl, rfl⟩
theorem divN_any (N y : Nat) (hN : N / 18446744073709551616 < y) (hy : y < 18446744073709551616) (w : World) :
    Calls Try.prog 80 #[.int .u64 ((N / 18446744073709551616 : Nat) : Int), .int .u64 ((N % 18446744073709551616 : Nat) : Int), .int .u64 y] w fun e w' => e = .returned (.tuple #[.int .u64 ((N / y : Nat) : Int), .int .u64 ((N % y : Nat) : Int)]) ∧ Below w.heap.size w w' := by
  have h := div64_all (N / 18446744073709551616) (N % 18446744073709551616) y hN (Nat.mod_lt _ (by omega)) hy w
  rw [Nat.div_add_mod' N 18446744073709551616] at h
  exact h

theorem mulM_at (x hi lo : Nat) (hx : x < 18446744073709551616) (e1 : hi = x * 1000000 / 18446744073709551616) (e2 : lo = x * 1000000 % 18446744073709551616) (w : World) :
    Calls Try.prog 79 #[.int .u64 x, .int .u64 1000000] w fun e w' => e = .returned (.tuple #[.int .u64 hi, .int .u64 lo]) ∧ w = w' := by
  subst e1 e2; exact mulM_any x hx w
theorem divN_at (N y hi lo q r : Nat) (hN : N / 18446744073709551616 < y) (hy : y < 18446744073709551616) (e1 : hi = N / 18446744073709551616) (e2 : lo = N % 18446744073709551616) (e3 : q = N / y) (e4 : r = N % y) (w : World) :
    Calls Try.prog 80 #[.int .u64 hi, .int .u64 lo, .int .u64 y] w fun e w' => e = .returned (.tuple #[.int .u64 q, .int .u64 r]) ∧ Below w.heap.size w w' := by
  subst e1 e2 e3 e4; exact divN_any N y hN hy w

def millCode (p c h s x d : Int) : Int := if code2 p c h s x d x d = 0 then (if 1000 * ((s * s).toNat ^ d.toNat : Nat) < x.natAbs then 3 else 0) else code2 p c h s x d x d
def millZ (p c h s x d : Int) : Int := if millCode p c h s x d = 0 then millV ((s * s).toNat ^ d.toNat) x else 0

set_option maxHeartbeats 800000 in
theorem specMill_any (p c h s x d : Int) (hx : I64 x) (hd : I64 d) (w : World) :
    Calls Try.prog 42 #[.agg #[.int .i64 p, .int .i64 c, .int .i64 h, .int .i64 s], .agg #[.int .i64 x, .int .i64 d]] w fun e w' =>
      e = .returned (.tuple #[.int .i64 (millZ p c h s x d), .int .i64 (millCode p c h s x d)]) ∧ Below w.heap.size w w' := by
  have HX := hid hx
  have HD := hid hd
  clear hx hd
  rcases code2_cases p c h s x d x d with hc | ⟨hc, hv, h1, _⟩
  · have hn : (code2 p c h s x d x d != 0) = true := by simp; omega
    have HC := hid hc
    clear hc
    go_enter Try.func42, Try.ntmps42
    go_wp2_with (go_at_call 72; refine (l09Code_any p c h s x _ x _ HX.out HD.out HX.out HD.out _).mono ?_; rintro e w1 ⟨rfl, hb⟩; obtain ⟨hc, hf⟩ := bcell hb; have hsz := hb.size; (try simp at hsz); (try have hy0 : w.heap.size < w1.heap.size := by omega); (try have hy1 : w.heap.size + 1 < w1.heap.size := by omega); (try have hy2 : w.heap.size + 2 < w1.heap.size := by omega); (try have hyS : ws.heap.size < w1.heap.size := by omega); (try have hyG : wg.heap.size < w1.heap.size := by omega))
    go_ret2
    have h3 : ¬ code2 p c h s x d x d = 0 := by have := HC.out; omega
    exact ⟨ret_ii (by simp [millZ, millCode, h3]) (by simp [millCode, h3]), by (repeat' (first | exact Below.refl _ _ | (with_reducible assumption) | (with_reducible refine xAlloc ?_ _) | (with_reducible refine Below.drew ?_) | (with_reducible refine xDrewN ?_ _) | (with_reducible refine xThen ?_ (by with_reducible assumption)) | (with_reducible refine Below.setCell ?_ (by first | omega | (simp; omega) | simp) _)))⟩
  · have hn : (code2 p c h s x d x d != 0) = false := by simp [hc]
    have hr := varB_true hv
    obtain ⟨b, hB⟩ := base_of (s := s) (by omega)
    have HB := hid hB
    have hbs := base_toNat hB
    rw [hbs] at h1
    have HBS := hid hbs
    have ht1 := exB_true h1
    obtain ⟨d, rfl⟩ := Int.eq_ofNat_of_zero_le (a := d) ht1.1
    rw [Int.toNat_natCast] at ht1
    have HC := hid hc
    have hS1 : 1 ≤ b ^ d := Nat.pow_pos hB.2.2.2.1
    have hS2 := ht1.2.2.2.1
    have HP := hid hS2
    have hx3 := ht1.2.2.1
    have hd60 := ht1.2.1
    obtain ⟨S, HS⟩ := named (b ^ d)
    rw [← HS.out] at hS1 hS2
    clear hB hbs ht1 hc h1
    by_cases hlim : 1000 * S < x.natAbs
    · have HL := hid hlim
      have hin : inB x (-1000 * (S : Int)) (1000 * (S : Int)) = false := by simp [inB]; omega
      clear hlim
      go_enter Try.func42, Try.ntmps42
      go_wp2_with (first | (go_at_call 72; refine (l09Code_any p c h s x _ x _ HX.out HD.out HX.out HD.out _).mono ?_; rintro e w1 ⟨rfl, hb⟩; obtain ⟨hc, hf⟩ := bcell hb; have hsz := hb.size; (try simp at hsz); (try have hy0 : w.heap.size < w1.heap.size := by omega); (try have hy1 : w.heap.size + 1 < w1.heap.size := by omega); (try have hy2 : w.heap.size + 2 < w1.heap.size := by omega); (try have hyS : ws.heap.size < w1.heap.size := by omega); (try have hyG : wg.heap.size < w1.heap.size := by omega)) | (go_at_call 63; refine (l09Scale_pow _ _ _ _ b d d S HB.out (Nat.le_refl _) HP.out (by omega) HS.out.symm _).mono ?_; rintro e w1 ⟨rfl, hb⟩; obtain ⟨hc, hf⟩ := bcell hb; have hsz := hb.size; (try simp at hsz); (try have hy0 : w.heap.size < w1.heap.size := by omega); (try have hy1 : w.heap.size + 1 < w1.heap.size := by omega); (try have hy2 : w.heap.size + 2 < w1.heap.size := by omega); (try have hyS : ws.heap.size < w1.heap.size := by omega); (try have hyG : wg.heap.size < w1.heap.size := by omega)) | (go_at_call 59; refine (l01In_any _ _ _ _).mono ?_; rintro e w' ⟨rfl, rfl⟩))
      go_ret2
      have h3 : 1000 * ((s * s).toNat ^ d : Nat) < x.natAbs := by rw [HBS.out, ← HS.out]; exact HL.out
      exact ⟨ret_ii (by simp [millZ, millCode, HC.out, h3]) (by simp [millCode, HC.out, h3]), by (repeat' (first | exact Below.refl _ _ | (with_reducible assumption) | (with_reducible refine xAlloc ?_ _) | (with_reducible refine Below.drew ?_) | (with_reducible refine xDrewN ?_ _) | (with_reducible refine xThen ?_ (by with_reducible assumption)) | (with_reducible refine Below.setCell ?_ (by first | omega | (simp; omega) | simp) _)))⟩
    · have hin : inB x (-1000 * (S : Int)) (1000 * (S : Int)) = true := by simp [inB]; omega
      have hxS : x.natAbs ≤ 1000 * S := by omega
      have HXS := hid hxS
      have hE := euclid (x := x) hS1
      have HE := hid hE
      have hm1 := Int.tmod_lt_of_pos x (show (0 : Int) < S by omega)
      obtain ⟨T1, HT1⟩ := named (x.tdiv (S : Int))
      obtain ⟨T2, HT2⟩ := named (x.tmod (S : Int))
      clear hE hlim
      go_enter Try.func42, Try.ntmps42
      go_wp2_with (first | (go_at_call 72; refine (l09Code_any p c h s x _ x _ HX.out HD.out HX.out HD.out _).mono ?_; rintro e w1 ⟨rfl, hb⟩; obtain ⟨hc, hf⟩ := bcell hb; have hsz := hb.size; (try simp at hsz); (try have hy0 : w.heap.size < w1.heap.size := by omega); (try have hy1 : w.heap.size + 1 < w1.heap.size := by omega); (try have hy2 : w.heap.size + 2 < w1.heap.size := by omega); (try have hyS : ws.heap.size < w1.heap.size := by omega); (try have hyG : wg.heap.size < w1.heap.size := by omega)) | (go_at_call 63; refine (l09Scale_pow _ _ _ _ b d d S HB.out (Nat.le_refl _) HP.out (by omega) HS.out.symm _).mono ?_; rintro e w1 ⟨rfl, hb⟩; obtain ⟨hc, hf⟩ := bcell hb; have hsz := hb.size; (try simp at hsz); (try have hy0 : w.heap.size < w1.heap.size := by omega); (try have hy1 : w.heap.size + 1 < w1.heap.size := by omega); (try have hy2 : w.heap.size + 2 < w1.heap.size := by omega); (try have hyS : ws.heap.size < w1.heap.size := by omega); (try have hyG : wg.heap.size < w1.heap.size := by omega)) | (go_at_call 59; refine (l01In_any _ _ _ _).mono ?_; rintro e w' ⟨rfl, rfl⟩))
      · have h0 : x.tmod (S : Int) < 0 := by assumption
        have hE := HE.out.2 h0
        have HE0 := hid hE
        clear hE
        go_loop [9, 10, 11] (fun ov rv kv => ∃ j : Nat, j ≤ 6 ∧ kv = .int .i64 j ∧ ov = .int .i64 (outK S x j) ∧ rv = .int .i64 (restK S x j)) (fun _ _ kv => 6 - (intOf kv).toNat)
        case atStart => exact ⟨0, by omega, rfl, num (by have := outK_bd hS1 HXS.out 0 (by omega); rw [HE0.out.1]; unfold wrap64; omega), num (by have := restK_bd (x := x) hS1 0; rw [HE0.out.2]; unfold wrap64; omega)⟩
        case round =>
          obtain ⟨j, hj, rfl, rfl, rfl⟩ := hrel
          have hob := outK_bd hS1 HXS.out j hj
          have hrb := restK_bd (x := x) hS1 j
          by_cases hlt : j < 6
          · have st := stepK (x := x) hS1 j
            have hob1 := outK_bd hS1 HXS.out (j + 1) (by omega)
            obtain ⟨o, HO⟩ := named (outK S x j)
            obtain ⟨r, HR⟩ := named (restK S x j)
            rw [← HO.out, ← HR.out] at st
            rw [← HO.out] at hob
            rw [← HR.out] at hrb
            rw [← HO.out, ← HR.out]
            have EQ : (10 * r).tdiv (S : Int) = 10 * r / (S : Int) := Int.tdiv_eq_ediv_of_nonneg (by omega)
            have ER : (10 * r).tmod (S : Int) = 10 * r % (S : Int) := Int.tmod_eq_emod_of_nonneg (by omega)
            obtain ⟨Q, HQ⟩ := named (10 * r / (S : Int))
            obtain ⟨R, HR'⟩ := named (10 * r % (S : Int))
            rw [← HQ.out, ← HR'.out] at st
            rw [← HQ.out] at EQ
            rw [← HR'.out] at ER
            rw [st.1] at hob1
            have EQ' : 10 * r / (S : Int) = Q := HQ.out.symm
            have ER' : 10 * r % (S : Int) = R := HR'.out.symm
            have hQ0 : 0 ≤ Q := by rw [HQ.out]; exact Int.ediv_nonneg (by omega) (by omega)
            have hR0 : 0 ≤ R ∧ R < S := by rw [HR'.out]; exact ⟨Int.emod_nonneg _ (by omega), Int.emod_lt_of_pos _ (by omega)⟩
            have ST := hid st
            clear st
            go_wp2
            go_round
            case rel => exact ⟨j + 1, by omega, by go_num, num ST.out.1.symm, num ST.out.2.symm⟩
            case measure => simp [intOf]; omega
          · obtain rfl : j = 6 := by omega
            have hM : outK S x 6 = millV S x := by simp [outK, millV]
            have HM := hid hM
            clear hM
            go_wp2
            go_ret2
            have h3 : ¬ 1000 * ((s * s).toNat ^ d : Nat) < x.natAbs := by rw [HBS.out, ← HS.out]; exact Nat.not_lt.2 HXS.out
            have h4 : millCode p c h s x d = 0 := by simp [millCode, HC.out, h3]
            exact ⟨ret_ii (by rw [HM.out]; simp [millZ, h4, HBS.out, ← HS.out]) h4.symm, by (repeat' (first | exact Below.refl _ _ | (with_reducible assumption) | (with_reducible refine xAlloc ?_ _) | (with_reducible refine Below.drew ?_) | (with_reducible refine xDrewN ?_ _) | (with_reducible refine xThen ?_ (by with_reducible assumption)) | (with_reducible refine Below.setCell ?_ (by first | omega | (simp; omega) | simp) _)))⟩
      · have h0 : 0 ≤ x.tmod (S : Int) := by assumption
        have hE := HE.out.1 h0
        have HE0 := hid hE
        clear hE
        go_loop [9, 10, 11] (fun ov rv kv => ∃ j : Nat, j ≤ 6 ∧ kv = .int .i64 j ∧ ov = .int .i64 (outK S x j) ∧ rv = .int .i64 (restK S x j)) (fun _ _ kv => 6 - (intOf kv).toNat)
        case atStart => exact ⟨0, by omega, rfl, num HE0.out.1, num HE0.out.2⟩
        case round =>
          obtain ⟨j, hj, rfl, rfl, rfl⟩ := hrel
          have hob := outK_bd hS1 HXS.out j hj
          have hrb := restK_bd (x := x) hS1 j
          by_cases hlt : j < 6
          · have st := stepK (x := x) hS1 j
            have hob1 := outK_bd hS1 HXS.out (j + 1) (by omega)
            obtain ⟨o, HO⟩ := named (outK S x j)
            obtain ⟨r, HR⟩ := named (restK S x j)
            rw [← HO.out, ← HR.out] at st
            rw [← HO.out] at hob
            rw [← HR.out] at hrb
            rw [← HO.out, ← HR.out]
            have EQ : (10 * r).tdiv (S : Int) = 10 * r / (S : Int) := Int.tdiv_eq_ediv_of_nonneg (by omega)
            have ER : (10 * r).tmod (S : Int) = 10 * r % (S : Int) := Int.tmod_eq_emod_of_nonneg (by omega)
            obtain ⟨Q, HQ⟩ := named (10 * r / (S : Int))
            obtain ⟨R, HR'⟩ := named (10 * r % (S : Int))
            rw [← HQ.out, ← HR'.out] at st
            rw [← HQ.out] at EQ
            rw [← HR'.out] at ER
            rw [st.1] at hob1
            have EQ' : 10 * r / (S : Int) = Q := HQ.out.symm
            have ER' : 10 * r % (S : Int) = R := HR'.out.symm
            have hQ0 : 0 ≤ Q := by rw [HQ.out]; exact Int.ediv_nonneg (by omega) (by omega)
            have hR0 : 0 ≤ R ∧ R < S := by rw [HR'.out]; exact ⟨Int.emod_nonneg _ (by omega), Int.emod_lt_of_pos _ (by omega)⟩
            have ST := hid st
            clear st
            go_wp2
            go_round
            case rel => exact ⟨j + 1, by omega, by go_num, num ST.out.1.symm, num ST.out.2.symm⟩
            case measure => simp [intOf]; omega
          · obtain rfl : j = 6 := by omega
            have hM : outK S x 6 = millV S x := by simp [outK, millV]
            have HM := hid hM
            clear hM
            go_wp2
            go_ret2
            have h3 : ¬ 1000 * ((s * s).toNat ^ d : Nat) < x.natAbs := by rw [HBS.out, ← HS.out]; exact Nat.not_lt.2 HXS.out
            have h4 : millCode p c h s x d = 0 := by simp [millCode, HC.out, h3]
            exact ⟨ret_ii (by rw [HM.out]; simp [millZ, h4, HBS.out, ← HS.out]) h4.symm, by (repeat' (first | exact Below.refl _ _ | (with_reducible assumption) | (with_reducible refine xAlloc ?_ _) | (with_reducible refine Below.drew ?_) | (with_reducible refine xDrewN ?_ _) | (with_reducible refine xThen ?_ (by with_reducible assumption)) | (with_reducible refine Below.setCell ?_ (by first | omega | (simp; omega) | simp) _)))⟩

theorem code1_eq (p c h s x d : Int) : exsCode p c h s [(x, d)] = code2 p c h s x d x d := by simp [exsCode, code2]

set_option maxHeartbeats 800000 in
theorem implMill_any (p c h s x d : Int) (hx : I64 x) (hd : I64 d) (w : World) :
    Calls Try.prog 43 #[.agg #[.int .i64 p, .int .i64 c, .int .i64 h, .int .i64 s], .agg #[.int .i64 x, .int .i64 d]] w fun e w' =>
      e = .returned (.tuple #[.int .i64 (millZ p c h s x d), .int .i64 (millCode p c h s x d)]) ∧ Below w.heap.size w w' := by
  have HI := hid (exI_one hx hd)
  clear hx hd
  rcases code2_cases p c h s x d x d with hc | ⟨hc, hv, h1, _⟩
  · have hn : (code2 p c h s x d x d != 0) = true := by simp; omega
    have HC := hid hc
    clear hc
    go_enter Try.func43, Try.ntmps43
    go_wp2_with fail
    refine (checkExs_any p c h s _ [(x, d)] _ (ExsAt.one_at _ _ _ _ _ _ (by simp)) HI.out).mono ?_
    rw [code1_eq]
    rintro e w1 ⟨rfl, hb⟩
    obtain ⟨hc, hf⟩ := bcell hb
    have hsz := hb.size
    (try simp at hsz)
    (try have hy0 : w.heap.size < w1.heap.size := by omega)
    (try have hy1 : w.heap.size + 1 < w1.heap.size := by omega)
    (try have hy2 : w.heap.size + 2 < w1.heap.size := by omega)
    (try have hyS : ws.heap.size < w1.heap.size := by omega)
    (try have hyG : wg.heap.size < w1.heap.size := by omega)
    (try have hy3 : w.heap.size + 3 < w1.heap.size := by omega)
    go_wp2
    go_ret2
    have h3 : ¬ code2 p c h s x d x d = 0 := by have := HC.out; omega
    exact ⟨ret_ii (by simp [millZ, millCode, h3]) (by simp [millCode, h3]), by (repeat' (first | exact Below.refl _ _ | (with_reducible assumption) | (with_reducible refine xAlloc ?_ _) | (with_reducible refine Below.drew ?_) | (with_reducible refine xDrewN ?_ _) | (with_reducible refine xThen ?_ (by with_reducible assumption)) | (with_reducible refine Below.setCell ?_ (by first | omega | (simp; omega) | simp) _)))⟩
  · have hn : (code2 p c h s x d x d != 0) = false := by simp [hc]
    have hr := varB_true hv
    obtain ⟨b, hB⟩ := base_of (s := s) (by omega)
    have HB := hid hB
    have hbs := base_toNat hB
    rw [hbs] at h1
    have HBS := hid hbs
    have ht1 := exB_true h1
    obtain ⟨d, rfl⟩ := Int.eq_ofNat_of_zero_le (a := d) ht1.1
    rw [Int.toNat_natCast] at ht1
    have HC := hid hc
    have hS1 : 1 ≤ b ^ d := Nat.pow_pos hB.2.2.2.1
    have hS2 := ht1.2.2.2.1
    have HP := hid hS2
    have hx3 := ht1.2.2.1
    have hd60 := ht1.2.1
    obtain ⟨S, HS⟩ := named (b ^ d)
    rw [← HS.out] at hS1 hS2
    clear hB hbs ht1 hc h1
    by_cases hlim : 1000 * S < x.natAbs
    · have HL := hid hlim
      have hgi : 1000 * (S : Int) < (x.natAbs : Int) := by omega
      clear hlim
      go_enter Try.func43, Try.ntmps43
      go_wp2_with fail
      refine (checkExs_any p c h s _ [(x, (d : Int))] _ (ExsAt.one_at _ _ _ _ _ _ (by simp)) HI.out).mono ?_
      rw [code1_eq]
      rintro e w1 ⟨rfl, hb⟩
      obtain ⟨hc, hf⟩ := bcell hb
      have hsz := hb.size
      (try simp at hsz)
      (try have hy0 : w.heap.size < w1.heap.size := by omega)
      (try have hy1 : w.heap.size + 1 < w1.heap.size := by omega)
      (try have hy2 : w.heap.size + 2 < w1.heap.size := by omega)
      (try have hyS : ws.heap.size < w1.heap.size := by omega)
      (try have hyG : wg.heap.size < w1.heap.size := by omega)
      (try have hy3 : w.heap.size + 3 < w1.heap.size := by omega)
      go_wp2_with (first | (go_at_call 65; refine (scaleOf_pow _ _ _ _ b d d S HB.out (Nat.le_refl _) HP.out (by omega) HS.out.symm _).mono ?_; rintro e w1 ⟨rfl, hb⟩; obtain ⟨hc, hf⟩ := bcell hb; have hsz := hb.size; (try simp at hsz); (try have hy0 : w.heap.size < w1.heap.size := by omega); (try have hy1 : w.heap.size + 1 < w1.heap.size := by omega); (try have hy2 : w.heap.size + 2 < w1.heap.size := by omega); (try have hyS : ws.heap.size < w1.heap.size := by omega); (try have hyG : wg.heap.size < w1.heap.size := by omega)) | (go_at_call 78; refine (absolute_any _ (by omega) _).mono ?_; rintro e w' ⟨rfl, rfl⟩))
      go_ret2
      have h3 : 1000 * ((s * s).toNat ^ d : Nat) < x.natAbs := by rw [HBS.out, ← HS.out]; exact HL.out
      exact ⟨ret_ii (by simp [millZ, millCode, HC.out, h3]) (by simp [millCode, HC.out, h3]), by (repeat' (first | exact Below.refl _ _ | (with_reducible assumption) | (with_reducible refine xAlloc ?_ _) | (with_reducible refine Below.drew ?_) | (with_reducible refine xDrewN ?_ _) | (with_reducible refine xThen ?_ (by with_reducible assumption)) | (with_reducible refine Below.setCell ?_ (by first | omega | (simp; omega) | simp) _)))⟩
    · have hgi : (x.natAbs : Int) ≤ 1000 * (S : Int) := by omega
      have HXS : Hid (x.natAbs ≤ 1000 * S) := hid (by omega)
      have hN1 : x.natAbs * 1000000 / 18446744073709551616 < S := by
        rw [Nat.div_lt_iff_lt_mul (by omega)]; omega
      have hq : x.natAbs * 1000000 / S ≤ 1000000000 := by
        rw [Nat.div_le_iff_le_mul_add_pred (by omega)]; have := HXS.out; omega
      have HN1 := hid hN1
      have hup := @mill_up S x
      have hdn := @mill_down S x hS1
      have hrr := Nat.mod_lt (x.natAbs * 1000000) (show 0 < S by omega)
      obtain ⟨hi, HHI⟩ := named (x.natAbs * 1000000 / 18446744073709551616)
      obtain ⟨lo, HLO⟩ := named (x.natAbs * 1000000 % 18446744073709551616)
      obtain ⟨q, HQ⟩ := named (x.natAbs * 1000000 / S)
      obtain ⟨r, HR⟩ := named (x.natAbs * 1000000 % S)
      rw [← HQ.out] at hq hup hdn
      rw [← HR.out] at hdn hrr
      have HUP := hid hup
      have HDN := hid hdn
      have h3 : ¬ 1000 * ((s * s).toNat ^ d : Nat) < x.natAbs := by rw [HBS.out, ← HS.out]; exact Nat.not_lt.2 HXS.out
      have h4 : Hid (millCode p c h s x d = 0) := hid (by simp [millCode, HC.out, h3])
      have h5 : Hid (millZ p c h s x d = millV S x) := hid (by simp [millZ, h4.out, HBS.out, ← HS.out])
      clear hlim hN1 hup hdn h3
      by_cases hx0 : 0 ≤ x
      all_goals
        go_enter Try.func43, Try.ntmps43
        go_wp2_with fail
        refine (checkExs_any p c h s _ [(x, (d : Int))] _ (ExsAt.one_at _ _ _ _ _ _ (by simp)) HI.out).mono ?_
        rw [code1_eq]
        rintro e w1 ⟨rfl, hb⟩
        obtain ⟨hc, hf⟩ := bcell hb
        have hsz := hb.size
        (try simp at hsz)
        (try have hy0 : w.heap.size < w1.heap.size := by omega)
        (try have hy1 : w.heap.size + 1 < w1.heap.size := by omega)
        (try have hy2 : w.heap.size + 2 < w1.heap.size := by omega)
        (try have hyS : ws.heap.size < w1.heap.size := by omega)
        (try have hyG : wg.heap.size < w1.heap.size := by omega)
        (try have hy3 : w.heap.size + 3 < w1.heap.size := by omega)
        go_wp2_with (first | (go_at_call 65; refine (scaleOf_pow _ _ _ _ b d d S HB.out (Nat.le_refl _) HP.out (by omega) HS.out.symm _).mono ?_; rintro e w1 ⟨rfl, hb⟩; obtain ⟨hc, hf⟩ := bcell hb; have hsz := hb.size; (try simp at hsz); (try have hy0 : w.heap.size < w1.heap.size := by omega); (try have hy1 : w.heap.size + 1 < w1.heap.size := by omega); (try have hy2 : w.heap.size + 2 < w1.heap.size := by omega); (try have hyS : ws.heap.size < w1.heap.size := by omega); (try have hyG : wg.heap.size < w1.heap.size := by omega)) | (go_at_call 78; refine (absolute_any _ (by omega) _).mono ?_; rintro e w' ⟨rfl, rfl⟩) | (go_at_call 79; refine (mulM_at _ hi lo (by omega) HHI.out HLO.out _).mono ?_; rintro e w' ⟨rfl, rfl⟩) | (go_at_call 80; refine (divN_at (x.natAbs * 1000000) S hi lo q r HN1.out (by omega) HHI.out HLO.out HQ.out HR.out _).mono ?_; rintro e w1 ⟨rfl, hb⟩; obtain ⟨hc, hf⟩ := bcell hb; have hsz := hb.size; (try simp at hsz); (try have hy0 : w.heap.size < w1.heap.size := by omega); (try have hy1 : w.heap.size + 1 < w1.heap.size := by omega); (try have hy2 : w.heap.size + 2 < w1.heap.size := by omega); (try have hyS : ws.heap.size < w1.heap.size := by omega); (try have hyG : wg.heap.size < w1.heap.size := by omega)))
      all_goals
        go_ret2
        exact ⟨ret_ii (by first | (rw [h5.out, HUP.out (by omega)]; done) | (rw [h5.out, HDN.out (by omega), if_neg (by omega)]; done) | (rw [h5.out, HDN.out (by omega), if_pos (by omega)]; simp)) h4.out.symm, by (repeat' (first | exact Below.refl _ _ | (with_reducible assumption) | (with_reducible refine xAlloc ?_ _) | (with_reducible refine Below.drew ?_) | (with_reducible refine xDrewN ?_ _) | (with_reducible refine xThen ?_ (by with_reducible assumption)) | (with_reducible refine Below.setCell ?_ (by first | omega | (simp; omega) | simp) _)))⟩

theorem lawMill (p c h s : Int) (_ : (Lit.int .i64 p).wf = true) (_ : (Lit.int .i64 c).wf = true) (_ : (Lit.int .i64 h).wf = true) (_ : (Lit.int .i64 s).wf = true) (x d : Int) (wx : (Lit.int .i64 x).wf = true) (wd : (Lit.int .i64 d).wf = true) (w : World) :
    Calls Try.prog 13 #[.agg #[.int .i64 p, .int .i64 c, .int .i64 h, .int .i64 s], .agg #[.int .i64 x, .int .i64 d]] w fun e w' => e = .returned (.bool true) ∧ Below w.heap.size w w' := by
  have HX := hid (I64.of_wf wx)
  have HD := hid (I64.of_wf wd)
  clear wx wd
  go_enter Try.func13, Try.ntmps13
  go_wp2
  refine wp_named (fun W hW0 => ?_)
  have hW := hid hW0
  clear hW0
  have sW : W.heap.size = w.heap.size + 2 := by rw [← hW.out]; simp
  have bW : Below w.heap.size w W := by rw [← hW.out]; (repeat' (first | exact Below.refl _ _ | (with_reducible assumption) | (with_reducible refine xAlloc ?_ _) | (with_reducible refine Below.drew ?_) | (with_reducible refine xDrewN ?_ _) | (with_reducible refine xThen ?_ (by with_reducible assumption)) | (with_reducible refine Below.setCell ?_ (by first | omega | (simp; omega) | simp) _)))
  have lW0 : w.heap.size < W.heap.size := by omega
  have lW1 : w.heap.size + 1 < W.heap.size := by omega
  have kW0 : W.cell? ⟨w.heap.size, 0, none⟩ = some (.int .i64 p) := by rw [← hW.out]; go_simp
  have kW1 : W.cell? ⟨w.heap.size, 1, none⟩ = some (.int .i64 c) := by rw [← hW.out]; go_simp
  have kW2 : W.cell? ⟨w.heap.size, 2, none⟩ = some (.int .i64 h) := by rw [← hW.out]; go_simp
  have kW3 : W.cell? ⟨w.heap.size, 3, none⟩ = some (.int .i64 s) := by rw [← hW.out]; go_simp
  have kW4 : W.cell? ⟨w.heap.size + 1, 0, none⟩ = some (.int .i64 x) := by rw [← hW.out]; go_simp
  have kW5 : W.cell? ⟨w.heap.size + 1, 1, none⟩ = some (.int .i64 d) := by rw [← hW.out]; go_simp
  clear hW sW
  have hk0 : ∀ xe : ExtW W, xe.u.cell? ⟨w.heap.size, 0, none⟩ = some (.int .i64 p) := fun xe => xe.cell (by go_simp)
  have hk1 : ∀ xe : ExtW W, xe.u.cell? ⟨w.heap.size, 1, none⟩ = some (.int .i64 c) := fun xe => xe.cell (by go_simp)
  have hk2 : ∀ xe : ExtW W, xe.u.cell? ⟨w.heap.size, 2, none⟩ = some (.int .i64 h) := fun xe => xe.cell (by go_simp)
  have hk3 : ∀ xe : ExtW W, xe.u.cell? ⟨w.heap.size, 3, none⟩ = some (.int .i64 s) := fun xe => xe.cell (by go_simp)
  have hk4 : ∀ xe : ExtW W, xe.u.cell? ⟨w.heap.size + 1, 0, none⟩ = some (.int .i64 x) := fun xe => xe.cell (by go_simp)
  have hk5 : ∀ xe : ExtW W, xe.u.cell? ⟨w.heap.size + 1, 1, none⟩ = some (.int .i64 d) := fun xe => xe.cell (by go_simp)
  have hne : Nonempty (ExtW W) := ⟨⟨_, Below.refl _ _⟩⟩
  refine wp_region_ext (by kernel_rfl) (by kernel_rfl) ?_
  repeat (quiet_step ((first | (go_at_call 16; exact ext_call (toVariant_any _ _ _ _ _)) | (go_at_call 23; exact ext_call (toExact_any _ _ _)) | (go_at_call 42; exact ext_call (specMill_any _ _ _ _ _ _ HX.out HD.out _)))))
  refine wpQuiet_nil ?_
  rintro w1 ⟨⟨_, hb⟩, rfl⟩
  obtain ⟨hc, hf⟩ := bcell hb
  have hsz := hb.size
  (try simp at hsz)
  (try have hy0 : w.heap.size < w1.heap.size := by omega)
  (try have hy1 : w.heap.size + 1 < w1.heap.size := by omega)
  (try have hy2 : w.heap.size + 2 < w1.heap.size := by omega)
  (try have hyS : ws.heap.size < w1.heap.size := by omega)
  (try have hyG : wg.heap.size < w1.heap.size := by omega)
  have kV0 := xcell hb kW0
  have kV1 := xcell hb kW1
  have kV2 := xcell hb kW2
  have kV3 := xcell hb kW3
  have kV4 := xcell hb kW4
  have kV5 := xcell hb kW5
  have Bv : Below w.heap.size w w1 := by (repeat' (first | exact Below.refl _ _ | (with_reducible assumption) | (with_reducible refine xAlloc ?_ _) | (with_reducible refine Below.drew ?_) | (with_reducible refine xDrewN ?_ _) | (with_reducible refine xThen ?_ (by with_reducible assumption)) | (with_reducible refine Below.setCell ?_ (by first | omega | (simp; omega) | simp) _)))
  clear hc hf
  go_wp2
  have hk0 : ∀ xe : ExtW w1, xe.u.cell? ⟨w.heap.size, 0, none⟩ = some (.int .i64 p) := fun xe => xe.cell (by go_simp)
  have hk1 : ∀ xe : ExtW w1, xe.u.cell? ⟨w.heap.size, 1, none⟩ = some (.int .i64 c) := fun xe => xe.cell (by go_simp)
  have hk2 : ∀ xe : ExtW w1, xe.u.cell? ⟨w.heap.size, 2, none⟩ = some (.int .i64 h) := fun xe => xe.cell (by go_simp)
  have hk3 : ∀ xe : ExtW w1, xe.u.cell? ⟨w.heap.size, 3, none⟩ = some (.int .i64 s) := fun xe => xe.cell (by go_simp)
  have hk4 : ∀ xe : ExtW w1, xe.u.cell? ⟨w.heap.size + 1, 0, none⟩ = some (.int .i64 x) := fun xe => xe.cell (by go_simp)
  have hk5 : ∀ xe : ExtW w1, xe.u.cell? ⟨w.heap.size + 1, 1, none⟩ = some (.int .i64 d) := fun xe => xe.cell (by go_simp)
  have hne : Nonempty (ExtW w1) := ⟨⟨_, Below.refl _ _⟩⟩
  refine wp_region_ext (by kernel_rfl) (by kernel_rfl) ?_
  repeat (quiet_step ((first | (go_at_call 16; exact ext_call (toVariant_any _ _ _ _ _)) | (go_at_call 23; exact ext_call (toExact_any _ _ _)) | (go_at_call 43; exact ext_call (implMill_any _ _ _ _ _ _ HX.out HD.out _)))))
  refine wpQuiet_nil ?_
  rintro w1 ⟨⟨_, hb⟩, rfl⟩
  obtain ⟨hc, hf⟩ := bcell hb
  have hsz := hb.size
  (try simp at hsz)
  (try have hy0 : w.heap.size < w1.heap.size := by omega)
  (try have hy1 : w.heap.size + 1 < w1.heap.size := by omega)
  (try have hy2 : w.heap.size + 2 < w1.heap.size := by omega)
  (try have hyS : ws.heap.size < w1.heap.size := by omega)
  (try have hyG : wg.heap.size < w1.heap.size := by omega)
  go_wp2
  go_ret
  exact ⟨rfl, by (repeat' (first | exact Below.refl _ _ | (with_reducible assumption) | (with_reducible refine xAlloc ?_ _) | (with_reducible refine Below.drew ?_) | (with_reducible refine xDrewN ?_ _) | (with_reducible refine xThen ?_ (by with_reducible assumption)) | (with_reducible refine Below.setCell ?_ (by first | omega | (simp; omega) | simp) _)))⟩
end Go.Proofs.Ytdifaojcjcnokaa
