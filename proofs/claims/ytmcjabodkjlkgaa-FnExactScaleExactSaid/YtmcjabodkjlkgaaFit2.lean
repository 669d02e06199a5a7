/-
  Contracts of spec.l09Fit and impl.makeExact: the number over a power of the base in lowest depth, where it is valid.
-/
import Derived.Test.YtmcjabodkjlkgaaFit
namespace Go.Proofs.Ytmcjabodkjlkgaa
open Go.RowKit

theorem natAbs_bd {x : Int} (h : x.natAbs ≤ 9223372036854775807) : -9223372036854775807 ≤ x ∧ x ≤ 9223372036854775807 := by omega

def fitOk (b D : Nat) (A : Int) : Bool := inB (strip b D A).1 (-1000000000000000000) 1000000000000000000
def fitNum (b D : Nat) (A : Int) : Int := if fitOk b D A then (strip b D A).1 else 0
def fitDep (b D : Nat) (A : Int) : Int := (strip b D A).2

theorem scl_le {b k D : Nat} (hb : 1 ≤ b) (hk : k ≤ D) (hD : b ^ D ≤ 1000000000000000) : sclB b k = true ∧ sclV b k = b ^ k := by
  have h1 : b ^ k ≤ b ^ D := Nat.pow_le_pow_right hb hk
  exact scl_yes (b := b) (k := k) (d := (k : Int)) rfl (by omega)

theorem l09Scale_pow (p c h s : Int) (b k D sc : Nat) (hB : Base s b) (hk : k ≤ D) (hD : b ^ D ≤ 1000000000000000) (hk64 : (k : Int) ≤ 9223372036854775807) (e : b ^ k = sc) (w : World) :
    Calls Try.prog 121 #[.agg #[.int .i64 p, .int .i64 c, .int .i64 h, .int .i64 s], .int .i64 k] w fun e w' => e = .returned (.tuple #[.int .i64 sc, .bool true]) ∧ Below w.heap.size w w' := by
  have hs := scl_le hB.2.2.2.1 hk hD
  have := l09Scale_any p c h s k b hB hk64 w
  rw [hs.1, hs.2, e] at this
  exact this

theorem l09Gcd_nat (a : Int) (B G : Nat) (ha : -9223372036854775807 ≤ a ∧ a ≤ 9223372036854775807) (hB : B ≤ 9223372036854775807) (hG : Nat.gcd a.natAbs B = G) (w : World) :
    Calls Try.prog 122 #[.int .i64 a, .int .i64 B] w fun e w' => e = .returned (.int .i64 G) ∧ w = w' := by
  have := l09Gcd_any a B ha (by omega) w
  rw [Int.natAbs_natCast, hG] at this
  exact this

theorem timesOk_in (x y : Int) : timesOk x y = inB (x * y) (-1000000000000000000) 1000000000000000000 := by
  have : (x * y).natAbs = x.natAbs * y.natAbs := Int.natAbs_mul x y
  rw [Bool.eq_iff_iff]
  simp [timesOk, inB]
  omega

set_option maxHeartbeats 800000 in
theorem l09Fit_any (p c h s a A : Int) (b B D : Nat) (hBs : Base s b) (ha : -9223372036854775807 ≤ a ∧ a ≤ 9223372036854775807) (hB1 : 1 ≤ B) (hB2 : B ≤ 1000000000000000)
    (heq : a * (b : Int) ^ D = A * B) (hD : b ^ D ≤ 1000000000000000) (hD64 : D ≤ 1000) (w : World) :
    Calls Try.prog 124 #[.agg #[.int .i64 p, .int .i64 c, .int .i64 h, .int .i64 s], .int .i64 a, .int .i64 B] w fun e w' =>
      e = .returned (.tuple #[.agg #[.int .i64 (fitNum b D A), .int .i64 (fitDep b D A)], .bool (fitOk b D A)]) ∧ Below w.heap.size w w' := by
  have HBs := hid hBs
  have haN : a.natAbs ≤ 9223372036854775807 := by omega
  have b1 : 1 ≤ b := hBs.2.2.2.1
  obtain ⟨G, HG⟩ := named (Nat.gcd a.natAbs B)
  have hG1 : 1 ≤ G := by rw [HG.out]; exact Nat.gcd_pos_of_pos_right _ (by omega)
  have hGB : G ∣ B := by rw [HG.out]; exact Nat.gcd_dvd_right _ _
  have hGa : (G : Int) ∣ a := by rw [HG.out]; exact Int.ofNat_dvd_left.2 (Nat.gcd_dvd_left _ _)
  obtain ⟨B1, hB1'⟩ := hGB
  obtain ⟨a1, ha1'⟩ := hGa
  have hB1p : 1 ≤ B1 := by rcases Nat.eq_zero_or_pos B1 with h | h; · subst h; simp at hB1'; omega
                           · exact h
  have hB1l : B1 ≤ B := by rw [hB1']; exact Nat.le_mul_of_pos_left _ (by omega)
  have ha1l : a1.natAbs ≤ a.natAbs := by rw [ha1', Int.natAbs_mul]; exact Nat.le_mul_of_pos_left _ (by simp; omega)
  have hco : Nat.Coprime a1.natAbs B1 := by
    have h1 : a.natAbs = G * a1.natAbs := by rw [ha1', Int.natAbs_mul, Int.natAbs_natCast]
    have h2 : G = G * Nat.gcd a1.natAbs B1 := by rw [← Nat.gcd_mul_left, ← h1, ← hB1']; exact HG.out
    exact Nat.eq_of_mul_eq_mul_left (show 0 < G from hG1) (by rw [← h2, Nat.mul_one])
  have heq1 : a1 * (b : Int) ^ D = A * B1 := by
    have h1 : (G : Int) * (a1 * (b : Int) ^ D) = (G : Int) * (A * B1) := by
      rw [← Int.mul_assoc, ← ha1', heq, hB1', Int.natCast_mul, Int.mul_left_comm]
    exact Int.eq_of_mul_eq_mul_left (by omega) h1
  have hq1 : a.tdiv (G : Int) = a1 := by rw [ha1']; exact Int.mul_tdiv_cancel_left _ (by omega)
  have hq2 : (B : Int) / (G : Int) = (B1 : Int) := by rw [hB1', Int.natCast_mul]; exact Int.mul_ediv_cancel_left _ (by omega)
  have ha1b : -9223372036854775807 ≤ a1 ∧ a1 ≤ 9223372036854775807 := natAbs_bd (Nat.le_trans ha1l haN)
  have hGz : ¬ G = 0 := by omega
  have HCO := hid hco
  have HEQ := hid heq1
  have HEND := hid (fit_ends hco heq1)
  have HD := hid hD
  clear hco heq1 heq ha1' hB1' hD hBs
  go_enter Try.func124, Try.ntmps124
  go_wp2_with (go_at_call 122; refine (l09Gcd_nat _ _ G (by omega) (by omega) HG.out.symm _).mono ?_; rintro e w' ⟨rfl, rfl⟩)
  go_loopw [9, 10, 11, 12, 13] (fun d _ _ _ _ wr => ∃ k : Nat, d = .int .i64 k ∧ k ≤ D ∧ (k = 0 ∨ ¬ B1 ∣ b ^ (k - 1)) ∧ Below ((w.alloc (.cells #[.int .i64 p, .int .i64 c, .int .i64 h, .int .i64 s] 29)).alloc (.cells #[.int .i64 0, .int .i64 0] 52)).heap.size ((w.alloc (.cells #[.int .i64 p, .int .i64 c, .int .i64 h, .int .i64 s] 29)).alloc (.cells #[.int .i64 0, .int .i64 0] 52)) wr) (fun d _ _ _ _ _ => D + 1 - (intOf d).toNat)
  case atStart => exact ⟨0, rfl, by omega, .inl rfl, Below.refl _ _⟩
  case round =>
    obtain ⟨k, rfl, hk, hmin, hbr⟩ := hrel
    have HMIN := hid hmin
    clear hmin
    obtain ⟨hcr, hfr⟩ := bcell hbr
    have hyr := hbr.size
    simp at hyr
    have hyr0 : w.heap.size < wr.heap.size := by omega
    have hyr1 : w.heap.size + 1 < wr.heap.size := by omega
    obtain ⟨sc, HSC⟩ := named (b ^ k)
    have sc1 : 1 ≤ sc := by rw [HSC.out]; exact pow_bd k b1
    have sc2 : sc ≤ 1000000000000000 := by rw [HSC.out]; exact Nat.le_trans (Nat.pow_le_pow_right b1 hk) HD.out
    have hBz : ¬ B1 = 0 := by omega
    by_cases hdv : B1 ∣ sc
    · have hm : ((sc : Int) % (B1 : Int) == 0) = true := by
        have := Nat.mod_eq_zero_of_dvd hdv
        simp; omega
      obtain ⟨m, Hm⟩ := named (sc / B1)
      have hq3 : (sc : Int) / (B1 : Int) = (m : Int) := by rw [Hm.out]; simp
      have m2 : m ≤ 1000000000000000 := by rw [Hm.out]; exact Nat.le_trans (Nat.div_le_self _ _) sc2
      have HST : Hid (strip b D A = (a1 * (m : Int), k)) := hid (by
        rw [Hm.out, HSC.out]; exact fit_find b1 hB1p HCO.out HEQ.out hk (by rw [← HSC.out]; exact hdv) HMIN.out)
      have HDV := hid hdv
      clear hdv
      cases htk : timesOk a1 (m : Int)
      · go_wp2_with (first | (go_at_call 121; refine (l09Scale_pow _ _ _ _ b k D sc HBs.out hk HD.out (by omega) HSC.out.symm _).mono ?_; rintro e w1 ⟨rfl, hb⟩; obtain ⟨hc, hf⟩ := bcell hb; have hsz := hb.size; (try simp at hsz); (try have hy0 : w.heap.size < w1.heap.size := by omega); (try have hy1 : w.heap.size + 1 < w1.heap.size := by omega); (try have hy2 : w.heap.size + 2 < w1.heap.size := by omega); (try have hyS : ws.heap.size < w1.heap.size := by omega); (try have hyG : wg.heap.size < w1.heap.size := by omega)) | (go_at_call 123; refine (l09Times_any _ _ (by omega) (by omega) _).mono ?_; rintro e w' ⟨rfl, rfl⟩))
        refine bodyPost_ret (v := .tuple #[.agg #[.int .i64 (timesV a1 (m : Int)), .int .i64 k], .bool false]) (by simp [results, Try.results124, go_sem, hc, hcr, hyr1]) rfl ?_
        refine ⟨?_, ?_⟩
        · have hin : fitOk b D A = false := by rw [fitOk, HST.out, ← timesOk_in]; exact htk
          rw [fitNum, hin, fitDep, HST.out]
          simp [timesV, htk]
        · (repeat' (first | exact Below.refl _ _ | (with_reducible assumption) | (with_reducible refine xAlloc ?_ _) | (with_reducible refine Below.drew ?_) | (with_reducible refine xDrewN ?_ _) | (with_reducible refine xThen ?_ (by with_reducible assumption)) | (with_reducible refine Below.setCell ?_ (by first | omega | (simp; omega) | simp) _)))
      · have hin : inB (timesV a1 (m : Int)) (-1000000000000000000) 1000000000000000000 = true := by rw [timesV, htk, if_pos rfl, ← timesOk_in]; exact htk
        go_wp2_with (first | (go_at_call 121; refine (l09Scale_pow _ _ _ _ b k D sc HBs.out hk HD.out (by omega) HSC.out.symm _).mono ?_; rintro e w1 ⟨rfl, hb⟩; obtain ⟨hc, hf⟩ := bcell hb; have hsz := hb.size; (try simp at hsz); (try have hy0 : w.heap.size < w1.heap.size := by omega); (try have hy1 : w.heap.size + 1 < w1.heap.size := by omega); (try have hy2 : w.heap.size + 2 < w1.heap.size := by omega); (try have hyS : ws.heap.size < w1.heap.size := by omega); (try have hyG : wg.heap.size < w1.heap.size := by omega)) | (go_at_call 123; refine (l09Times_any _ _ (by omega) (by omega) _).mono ?_; rintro e w' ⟨rfl, rfl⟩) | (go_at_call 80; refine (l01In_any _ _ _ _).mono ?_; rintro e w' ⟨rfl, rfl⟩))
        refine bodyPost_ret (v := .tuple #[.agg #[.int .i64 (timesV a1 (m : Int)), .int .i64 k], .bool true]) (by simp [results, Try.results124, go_sem, hc, hcr, hyr1]) rfl ?_
        refine ⟨?_, ?_⟩
        · have hin : fitOk b D A = true := by rw [fitOk, HST.out, ← timesOk_in]; exact htk
          rw [fitNum, hin, fitDep, HST.out]
          simp [timesV, htk]
        · (repeat' (first | exact Below.refl _ _ | (with_reducible assumption) | (with_reducible refine xAlloc ?_ _) | (with_reducible refine Below.drew ?_) | (with_reducible refine xDrewN ?_ _) | (with_reducible refine xThen ?_ (by with_reducible assumption)) | (with_reducible refine Below.setCell ?_ (by first | omega | (simp; omega) | simp) _)))
    · have hm : ((sc : Int) % (B1 : Int) == 0) = false := by
        simp; intro hh; exact hdv (by exact_mod_cast Int.dvd_of_emod_eq_zero hh)
      have HDV := hid hdv
      clear hdv
      go_wp2_with (first | (go_at_call 121; refine (l09Scale_pow _ _ _ _ b k D sc HBs.out hk HD.out (by omega) HSC.out.symm _).mono ?_; rintro e w1 ⟨rfl, hb⟩; obtain ⟨hc, hf⟩ := bcell hb; have hsz := hb.size; (try simp at hsz); (try have hy0 : w.heap.size < w1.heap.size := by omega); (try have hy1 : w.heap.size + 1 < w1.heap.size := by omega); (try have hy2 : w.heap.size + 2 < w1.heap.size := by omega); (try have hyS : ws.heap.size < w1.heap.size := by omega); (try have hyG : wg.heap.size < w1.heap.size := by omega)))
      have hkD : k < D := by
        rcases Nat.lt_or_ge k D with h | h
        · exact h
        · exfalso
          have e : k = D := by omega
          exact HDV.out (by rw [HSC.out, e]; exact HEND.out)
      go_roundw
      case rel => exact ⟨k + 1, by go_num, by omega, .inr (by simp; rw [← HSC.out]; exact HDV.out), by (repeat' (first | exact Below.refl _ _ | (with_reducible assumption) | (with_reducible refine xAlloc ?_ _) | (with_reducible refine Below.drew ?_) | (with_reducible refine xDrewN ?_ _) | (with_reducible refine xThen ?_ (by with_reducible assumption)) | (with_reducible refine Below.setCell ?_ (by first | omega | (simp; omega) | simp) _)))⟩
      case measure => simp [intOf]; omega

/-- what makeExact returns -/
def mkOk (b D : Nat) (A : Int) : Bool := exB b (strip b D A).1 (strip b D A).2
def mkNum (b D : Nat) (A : Int) : Int := if mkOk b D A then (strip b D A).1 else 0
def mkDep (b D : Nat) (A : Int) : Int := if mkOk b D A then (strip b D A).2 else 0

theorem strip_bd {b D : Nat} (hb : 1 ≤ b) {A : Int} (hA : -9223372036854775807 ≤ A ∧ A ≤ 9223372036854775807) : -9223372036854775807 ≤ (strip b D A).1 ∧ (strip b D A).1 ≤ 9223372036854775807 :=
  natAbs_bd (Nat.le_trans (strip_abs b hb D A) (by omega))

theorem strip_step {b d : Nat} {A : Int} (h : A.tmod b = 0) : strip b (d + 1) A = strip b d (A.tdiv b) := by simp [strip, h]
theorem strip_stop {b d : Nat} {A : Int} (h : ¬ A.tmod b = 0) : strip b (d + 1) A = (A, d + 1) := by simp [strip, h]

set_option maxHeartbeats 800000 in
theorem makeExact_any (p c h s A : Int) (b D : Nat) (hBs : Base s b) (hA : -9223372036854775807 ≤ A ∧ A ≤ 9223372036854775807) (hD64 : D ≤ 1000) (w : World) :
    Calls Try.prog 129 #[.agg #[.int .i64 p, .int .i64 c, .int .i64 h, .int .i64 s], .int .i64 A, .int .i64 D] w fun e w' =>
      e = .returned (.tuple #[.agg #[.int .i64 (mkNum b D A), .int .i64 (mkDep b D A)], .bool (mkOk b D A)]) ∧ Below w.heap.size w w' := by
  have HBs := hid hBs
  have b1 : 1 ≤ b := hBs.2.2.2.1
  have b2 : b ≤ 36 := hBs.2.2.2.2
  have bz : ¬ b = 0 := by omega
  clear hBs
  have hcase : ∃ k0 : Nat, k0 ≤ 1000 ∧ Hid (strip b D A = strip b k0 A) ∧ ((((b : Int) == 1) = true ∧ k0 = 0) ∨ (((b : Int) == 1) = false ∧ k0 = D)) := by
    by_cases hb1 : b = 1
    · exact ⟨0, by omega, hid (by rw [hb1, strip_one]; rfl), .inl ⟨by simp; omega, rfl⟩⟩
    · exact ⟨D, hD64, hid rfl, .inr ⟨by simp; omega, rfl⟩⟩
  obtain ⟨k0, hk0, HK0, hcase⟩ := hcase
  rcases hcase with ⟨hb1', hkd⟩ | ⟨hb1', hkd⟩
  all_goals
    have HKD := hid hkd
    clear hkd
    go_enter Try.func129, Try.ntmps129
    go_wp2_with (go_at_call 125; refine (baseOf_any _ _ _ _ b HBs.out _).mono ?_; rintro e w1 ⟨rfl, hb⟩; obtain ⟨hc, hf⟩ := bcell hb; have hsz := hb.size; (try simp at hsz); (try have hy0 : w.heap.size < w1.heap.size := by omega); (try have hy1 : w.heap.size + 1 < w1.heap.size := by omega); (try have hy2 : w.heap.size + 2 < w1.heap.size := by omega); (try have hyS : ws.heap.size < w1.heap.size := by omega); (try have hyG : wg.heap.size < w1.heap.size := by omega))
    go_loopw [1, 2] (fun n d wr => ∃ (q : Int) (k : Nat), n = .int .i64 q ∧ d = .int .i64 k ∧ k ≤ 1000 ∧ (-9223372036854775807 ≤ q ∧ q ≤ 9223372036854775807) ∧ strip b D A = strip b k q ∧ Below w1.heap.size w1 wr) (fun _ d _ => (intOf d).toNat)
    case atStart => exact ⟨A, k0, rfl, num (by have := HKD.out; omega), hk0, hA, HK0.out, Below.refl _ _⟩
    case round =>
      obtain ⟨q, k, rfl, rfl, hk, hq, hs, hbr⟩ := hrel
      have HS0 := hid hs
      clear hs
      obtain ⟨hcr, hfr⟩ := bcell hbr
      have hyr := hbr.size
      have hyr0 : w.heap.size < wr.heap.size := by omega
      have hyr1 : w.heap.size + 1 < wr.heap.size := by omega
      cases k with
      | zero =>
        have HS : Hid (strip b D A = (q, 0)) := HS0
        cases hex : exB b q 0
        · go_wp2_with (first | (go_at_call 125; refine (baseOf_any _ _ _ _ b HBs.out _).mono ?_; rintro e w1 ⟨rfl, hb⟩; obtain ⟨hc, hf⟩ := bcell hb; have hsz := hb.size; (try simp at hsz); (try have hy0 : w.heap.size < w1.heap.size := by omega); (try have hy1 : w.heap.size + 1 < w1.heap.size := by omega); (try have hy2 : w.heap.size + 2 < w1.heap.size := by omega); (try have hyS : ws.heap.size < w1.heap.size := by omega); (try have hyG : wg.heap.size < w1.heap.size := by omega)) | (go_at_call 91; refine (isExact_any _ _ _ _ _ _ b HBs.out (by unfold I64; omega) (by unfold I64; omega) _).mono ?_; rintro e w1 ⟨rfl, hb⟩; obtain ⟨hc, hf⟩ := bcell hb; have hsz := hb.size; (try simp at hsz); (try have hy0 : w.heap.size < w1.heap.size := by omega); (try have hy1 : w.heap.size + 1 < w1.heap.size := by omega); (try have hy2 : w.heap.size + 2 < w1.heap.size := by omega); (try have hyS : ws.heap.size < w1.heap.size := by omega); (try have hyG : wg.heap.size < w1.heap.size := by omega)))
          have r0 : w1.cell? ⟨w.heap.size + 1, 0, none⟩ = some (.int .i64 0) := by go_simp
          have r1 : w1.cell? ⟨w.heap.size + 1, 1, none⟩ = some (.int .i64 0) := by go_simp
          refine bodyPost_ret (v := .tuple #[.agg #[.int .i64 0, .int .i64 0], .bool false]) (by simp [results, Try.results129, go_sem, r0, r1]) rfl ?_
          exact ⟨by have h1 := HS.out; have h2 : mkOk b D A = false := by {rw [mkOk, h1]; exact hex}
                    rw [mkNum, mkDep, h2]; rfl, by (repeat' (first | exact Below.refl _ _ | (with_reducible assumption) | (with_reducible refine xAlloc ?_ _) | (with_reducible refine Below.drew ?_) | (with_reducible refine xDrewN ?_ _) | (with_reducible refine xThen ?_ (by with_reducible assumption)) | (with_reducible refine Below.setCell ?_ (by first | omega | (simp; omega) | simp) _)))⟩
        · go_wp2_with (first | (go_at_call 125; refine (baseOf_any _ _ _ _ b HBs.out _).mono ?_; rintro e w1 ⟨rfl, hb⟩; obtain ⟨hc, hf⟩ := bcell hb; have hsz := hb.size; (try simp at hsz); (try have hy0 : w.heap.size < w1.heap.size := by omega); (try have hy1 : w.heap.size + 1 < w1.heap.size := by omega); (try have hy2 : w.heap.size + 2 < w1.heap.size := by omega); (try have hyS : ws.heap.size < w1.heap.size := by omega); (try have hyG : wg.heap.size < w1.heap.size := by omega)) | (go_at_call 91; refine (isExact_any _ _ _ _ _ _ b HBs.out (by unfold I64; omega) (by unfold I64; omega) _).mono ?_; rintro e w1 ⟨rfl, hb⟩; obtain ⟨hc, hf⟩ := bcell hb; have hsz := hb.size; (try simp at hsz); (try have hy0 : w.heap.size < w1.heap.size := by omega); (try have hy1 : w.heap.size + 1 < w1.heap.size := by omega); (try have hy2 : w.heap.size + 2 < w1.heap.size := by omega); (try have hyS : ws.heap.size < w1.heap.size := by omega); (try have hyG : wg.heap.size < w1.heap.size := by omega)))
          have r0 : w1.cell? ⟨w.heap.size + 1, 0, none⟩ = some (.int .i64 0) := by go_simp
          have r1 : w1.cell? ⟨w.heap.size + 1, 1, none⟩ = some (.int .i64 0) := by go_simp
          refine bodyPost_ret (v := .tuple #[.agg #[.int .i64 q, .int .i64 0], .bool true]) (by simp [results, Try.results129, go_sem, r0, r1]) rfl ?_
          exact ⟨by have h1 := HS.out; have h2 : mkOk b D A = true := by {rw [mkOk, h1]; exact hex}
                    rw [mkNum, mkDep, h2, h1]; rfl, by (repeat' (first | exact Below.refl _ _ | (with_reducible assumption) | (with_reducible refine xAlloc ?_ _) | (with_reducible refine Below.drew ?_) | (with_reducible refine xDrewN ?_ _) | (with_reducible refine xThen ?_ (by with_reducible assumption)) | (with_reducible refine Below.setCell ?_ (by first | omega | (simp; omega) | simp) _)))⟩
      | succ k =>
        by_cases hz : q.tmod (b : Int) = 0
        · have hz' : (q.tmod (b : Int) == 0) = true := by simpa using hz
          have hqb : -9223372036854775807 ≤ q.tdiv (b : Int) ∧ q.tdiv (b : Int) ≤ 9223372036854775807 := natAbs_bd (Nat.le_trans (tdiv_abs b1) (by omega))
          have HS : Hid (strip b D A = strip b k (q.tdiv b)) := hid (by rw [HS0.out, strip_step hz])
          clear hz
          go_wp2_with (first | (go_at_call 125; refine (baseOf_any _ _ _ _ b HBs.out _).mono ?_; rintro e w1 ⟨rfl, hb⟩; obtain ⟨hc, hf⟩ := bcell hb; have hsz := hb.size; (try simp at hsz); (try have hy0 : w.heap.size < w1.heap.size := by omega); (try have hy1 : w.heap.size + 1 < w1.heap.size := by omega); (try have hy2 : w.heap.size + 2 < w1.heap.size := by omega); (try have hyS : ws.heap.size < w1.heap.size := by omega); (try have hyG : wg.heap.size < w1.heap.size := by omega)))
          go_roundw
          case rel => exact ⟨_, k, rfl, by go_num, by omega, hqb, HS.out, by (repeat' (first | exact Below.refl _ _ | (with_reducible assumption) | (with_reducible refine xAlloc ?_ _) | (with_reducible refine Below.drew ?_) | (with_reducible refine xDrewN ?_ _) | (with_reducible refine xThen ?_ (by with_reducible assumption)) | (with_reducible refine Below.setCell ?_ (by first | omega | (simp; omega) | simp) _)))⟩
          case measure => simp [intOf]
        · have hz' : (q.tmod (b : Int) == 0) = false := by simpa using hz
          have HS : Hid (strip b D A = (q, k + 1)) := hid (by rw [HS0.out, strip_stop hz])
          clear hz
          cases hex : exB b q ((k : Int) + 1)
          · go_wp2_with (first | (go_at_call 125; refine (baseOf_any _ _ _ _ b HBs.out _).mono ?_; rintro e w1 ⟨rfl, hb⟩; obtain ⟨hc, hf⟩ := bcell hb; have hsz := hb.size; (try simp at hsz); (try have hy0 : w.heap.size < w1.heap.size := by omega); (try have hy1 : w.heap.size + 1 < w1.heap.size := by omega); (try have hy2 : w.heap.size + 2 < w1.heap.size := by omega); (try have hyS : ws.heap.size < w1.heap.size := by omega); (try have hyG : wg.heap.size < w1.heap.size := by omega)) | (go_at_call 91; refine (isExact_any _ _ _ _ _ _ b HBs.out (by unfold I64; omega) (by unfold I64; omega) _).mono ?_; rintro e w1 ⟨rfl, hb⟩; obtain ⟨hc, hf⟩ := bcell hb; have hsz := hb.size; (try simp at hsz); (try have hy0 : w.heap.size < w1.heap.size := by omega); (try have hy1 : w.heap.size + 1 < w1.heap.size := by omega); (try have hy2 : w.heap.size + 2 < w1.heap.size := by omega); (try have hyS : ws.heap.size < w1.heap.size := by omega); (try have hyG : wg.heap.size < w1.heap.size := by omega)))
            have r0 : w1.cell? ⟨w.heap.size + 1, 0, none⟩ = some (.int .i64 0) := by go_simp
            have r1 : w1.cell? ⟨w.heap.size + 1, 1, none⟩ = some (.int .i64 0) := by go_simp
            refine bodyPost_ret (v := .tuple #[.agg #[.int .i64 0, .int .i64 0], .bool false]) (by simp [results, Try.results129, go_sem, r0, r1]) rfl ?_
            exact ⟨by have h1 := HS.out; have h2 : mkOk b D A = false := by {rw [mkOk, h1]; exact hex}
                      rw [mkNum, mkDep, h2]; rfl, by (repeat' (first | exact Below.refl _ _ | (with_reducible assumption) | (with_reducible refine xAlloc ?_ _) | (with_reducible refine Below.drew ?_) | (with_reducible refine xDrewN ?_ _) | (with_reducible refine xThen ?_ (by with_reducible assumption)) | (with_reducible refine Below.setCell ?_ (by first | omega | (simp; omega) | simp) _)))⟩
          · go_wp2_with (first | (go_at_call 125; refine (baseOf_any _ _ _ _ b HBs.out _).mono ?_; rintro e w1 ⟨rfl, hb⟩; obtain ⟨hc, hf⟩ := bcell hb; have hsz := hb.size; (try simp at hsz); (try have hy0 : w.heap.size < w1.heap.size := by omega); (try have hy1 : w.heap.size + 1 < w1.heap.size := by omega); (try have hy2 : w.heap.size + 2 < w1.heap.size := by omega); (try have hyS : ws.heap.size < w1.heap.size := by omega); (try have hyG : wg.heap.size < w1.heap.size := by omega)) | (go_at_call 91; refine (isExact_any _ _ _ _ _ _ b HBs.out (by unfold I64; omega) (by unfold I64; omega) _).mono ?_; rintro e w1 ⟨rfl, hb⟩; obtain ⟨hc, hf⟩ := bcell hb; have hsz := hb.size; (try simp at hsz); (try have hy0 : w.heap.size < w1.heap.size := by omega); (try have hy1 : w.heap.size + 1 < w1.heap.size := by omega); (try have hy2 : w.heap.size + 2 < w1.heap.size := by omega); (try have hyS : ws.heap.size < w1.heap.size := by omega); (try have hyG : wg.heap.size < w1.heap.size := by omega)))
            have r0 : w1.cell? ⟨w.heap.size + 1, 0, none⟩ = some (.int .i64 0) := by go_simp
            have r1 : w1.cell? ⟨w.heap.size + 1, 1, none⟩ = some (.int .i64 0) := by go_simp
            refine bodyPost_ret (v := .tuple #[.agg #[.int .i64 q, .int .i64 ((k : Int) + 1)], .bool true]) (by simp [results, Try.results129, go_sem, r0, r1]) rfl ?_
            exact ⟨by have h1 := HS.out; have h2 : mkOk b D A = true := by {rw [mkOk, h1]; exact hex}
                      rw [mkNum, mkDep, h2, h1]; rfl, by (repeat' (first | exact Below.refl _ _ | (with_reducible assumption) | (with_reducible refine xAlloc ?_ _) | (with_reducible refine Below.drew ?_) | (with_reducible refine xDrewN ?_ _) | (with_reducible refine xThen ?_ (by with_reducible assumption)) | (with_reducible refine Below.setCell ?_ (by first | omega | (simp; omega) | simp) _)))⟩
end Go.Proofs.Ytmcjabodkjlkgaa
