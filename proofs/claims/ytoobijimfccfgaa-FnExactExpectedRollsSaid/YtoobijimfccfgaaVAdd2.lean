/-
  Contracts: sums of exact numbers, the reference.
-/
import Derived.Test.YtoobijimfccfgaaVAdd
namespace Go.Proofs.Ytoobijimfccfgaa
open Go.RowKit
set_option linter.unusedSimpArgs false
set_option linter.unusedVariables false
theorem inBx {n lo hi : Int} : inB n lo hi = true ↔ lo ≤ n ∧ n ≤ hi := by simp [inB]
theorem exD_in {v : DVar} {x : DExact} (hv : varD v = true) (h : exD v x = true) : exIn x ∧ bsD v ^ x.2.toNat ≤ 1000000000000000 ∧ sclB (bsD v) x.2 = true ∧ (x.2 = 0 ∨ Int.tmod x.1 (bsD v) ≠ 0) := by
  obtain ⟨-, b1, b2, -⟩ := bsD_facts hv
  simp only [exD, Bool.and_eq_true, Bool.or_eq_true, decide_eq_true_eq, inBx] at h
  obtain ⟨h0, h1, h2⟩ := h
  rcases h2 with h2 | ⟨⟨h2, h3⟩, h4⟩
  · have e : x.2.toNat = 0 := by omega
    refine ⟨⟨h1, by omega, by omega⟩, by rw [e]; simp, (scl_neg (by omega)).1, .inl h2⟩
  · have h6 : x.2 ≤ 60 := by
      rcases Int.lt_or_le 60 x.2 with h | h
      · rw [scl_60 h2 h] at h3; cases h3
      · exact h
    have hb := (scl_bd b1 h3).2
    rw [scl_ok h3] at hb
    exact ⟨⟨h1, h0, h6⟩, hb, h3, .inr h4⟩
theorem mkD_ok {v : DVar} {n : Int} {d : Nat} (h : (mkD v n d).2 = true) : exD v (mkD v n d).1 = true := by
  unfold mkD at h ⊢
  split
  · next g => exact g
  · next g => rw [if_neg g] at h; cases h
theorem mkD_no {v : DVar} {n : Int} {d : Nat} (h : (mkD v n d).2 = false) : mkD v n d = ((0, 0), false) := by
  unfold mkD at h ⊢
  split
  · next g => rw [if_pos g] at h; cases h
  · rfl
/-- lowest terms of a fraction: what makeExact finds -/
theorem fit_core {v : DVar} {A a a1 : Int} {D B B1 : Nat} (hv : varD v = true) (hfa : fitA a B = a1) (hfb : fitB a B = B1) (hB1p : 1 ≤ B1) (hco : Nat.Coprime a1.natAbs B1)
    (heq : a1 * (bsD v : Int) ^ D = A * B1) (hD : D ≤ 60) (hs : bsD v ^ D ≤ 1000000000000000) :
    bsD v ^ D % B1 = 0 ∧ (fitD v a B).2 = (mkD v A D).2 ∧ ((mkD v A D).2 = true → (fitD v a B).1 = (mkD v A D).1) := by
  obtain ⟨-, b1, b2, -⟩ := bsD_facts hv
  have hdv : bsD v ^ D % B1 = 0 := Nat.mod_eq_zero_of_dvd (fit_ends hco heq)
  refine ⟨hdv, ?_⟩
  obtain ⟨K1, K2, K3⟩ := leastK_spec hdv 61 0 (by omega) (by omega) (fun j hj => by omega)
  have hK : fitK v a B = leastK (bsD v) B1 61 0 := by unfold fitK; rw [hfb]
  generalize leastK (bsD v) B1 61 0 = K at *
  have hst := fit_find b1 hB1p hco heq K3 (Nat.dvd_of_mod_eq_zero K1) (by
    by_cases h0 : K = 0
    · exact .inl h0
    · exact .inr fun h => K2 (K - 1) (by omega) (Nat.mod_eq_zero_of_dvd h))
  have hend := strip_end (bsD v) D A
  have ht : timesD a1 ((bsD v ^ K / B1 : Nat) : Int) = inB (a1 * ((bsD v ^ K / B1 : Nat) : Int)) (-1000000000000000000) 1000000000000000000 := by
    unfold timesD
    rw [← Int.natAbs_mul]
    generalize a1 * ((bsD v ^ K / B1 : Nat) : Int) = N
    rw [Bool.eq_iff_iff]; simp [inB]; omega
  have hx : exD v (a1 * ((bsD v ^ K / B1 : Nat) : Int), (K : Int)) = inB (a1 * ((bsD v ^ K / B1 : Nat) : Int)) (-1000000000000000000) 1000000000000000000 := by
    rw [hst] at hend
    generalize a1 * ((bsD v ^ K / B1 : Nat) : Int) = N at *
    have hsc := (scl_yes (b := bsD v) (k := K) (d := (K : Int)) rfl (Nat.le_trans (Nat.pow_le_pow_right b1 K3) hs)).1
    unfold exD
    dsimp only at hend ⊢
    rcases hend with h | h
    · subst h; simp
    · have hb2 : 1 < bsD v := by
        rcases Nat.lt_or_ge 1 (bsD v) with h2 | h2
        · exact h2
        · exfalso
          have : bsD v = 1 := by omega
          rw [this] at h; simp at h
      simp [hsc, hb2, h]
  simp only [fitD, mkD, fitN, hK, hfa, hfb, hst, ht, hx]
  generalize a1 * ((bsD v ^ K / B1 : Nat) : Int) = N
  cases hi : inB N (-1000000000000000000) 1000000000000000000 <;> simp [hi]
theorem fit_mk {v : DVar} {A : Int} {D : Nat} (hv : varD v = true) (hA : A.natAbs ≤ 9223372036854775807) (hD : D ≤ 60) (hs : bsD v ^ D ≤ 1000000000000000) :
    FitP v A ((bsD v ^ D : Nat) : Int) ∧ (fitD v A (bsD v ^ D)).2 = (mkD v A D).2 ∧ ((mkD v A D).2 = true → (fitD v A (bsD v ^ D)).1 = (mkD v A D).1) := by
  obtain ⟨-, b1, b2, -⟩ := bsD_facts hv
  have hP : 1 ≤ bsD v ^ D := Nat.pow_pos b1
  obtain ⟨G, hG⟩ : ∃ G, G = Nat.gcd A.natAbs (bsD v ^ D) := ⟨_, rfl⟩
  have hG1 : 1 ≤ G := by rw [hG]; exact Nat.gcd_pos_of_pos_right _ hP
  obtain ⟨B1, hB1⟩ : G ∣ bsD v ^ D := by rw [hG]; exact Nat.gcd_dvd_right _ _
  obtain ⟨a1, ha1⟩ : (G : Int) ∣ A := by rw [hG]; exact Int.ofNat_dvd_left.2 (Nat.gcd_dvd_left _ _)
  have efB : fitB A (bsD v ^ D) = B1 := by unfold fitB; rw [← hG, hB1]; exact Nat.mul_div_cancel_left _ hG1
  have efA : fitA A (bsD v ^ D) = a1 := by unfold fitA; rw [← hG, ha1]; exact Int.mul_tdiv_cancel_left _ (by omega)
  have hB1p : 1 ≤ B1 := by rcases Nat.eq_zero_or_pos B1 with h | h; · subst h; simp at hB1; omega
                           · exact h
  have hco : Nat.Coprime a1.natAbs B1 := by
    have h1 : A.natAbs = G * a1.natAbs := by rw [ha1, Int.natAbs_mul, Int.natAbs_natCast]
    have h2 : G = G * Nat.gcd a1.natAbs B1 := by rw [← Nat.gcd_mul_left, ← h1, ← hB1]; exact hG
    exact Nat.eq_of_mul_eq_mul_left (show 0 < G from hG1) (by rw [← h2, Nat.mul_one])
  have heq : a1 * (bsD v : Int) ^ D = A * B1 := by
    have h1 : (bsD v : Int) ^ D = (G : Int) * B1 := by
      have := congrArg (fun x : Nat => (x : Int)) hB1
      simpa using this
    rw [h1, ha1, ← Int.mul_assoc, Int.mul_comm a1 _]
  obtain ⟨hdv, h2⟩ := fit_core hv efA efB hB1p hco heq hD hs
  exact ⟨⟨⟨by omega, by omega⟩, ⟨by omega, by omega⟩, D, hD, hs, by rw [Int.toNat_natCast, efB]; exact hdv⟩, h2⟩
/-- the reference's sum, the smaller depth first -/
theorem add_ref {v : DVar} {x y : DExact} (hv : varD v = true) (hex : exD v x = true) (hey : exD v y = true) (hle : x.2 ≤ y.2) :
    (x.1.natAbs * bsD v ^ (y.2 - x.2).toNat ≤ 2000000000000000000 → (x.1 * ((bsD v ^ (y.2 - x.2).toNat : Nat) : Int) + y.1).natAbs ≤ 3000000000000000000 ∧ add1D v x y = mkD v (x.1 * ((bsD v ^ (y.2 - x.2).toNat : Nat) : Int) + y.1) y.2.toNat) ∧
    (2000000000000000000 < x.1.natAbs * bsD v ^ (y.2 - x.2).toNat → add1D v x y = ((0, 0), false)) := by
  obtain ⟨-, b1, b2, -⟩ := bsD_facts hv
  obtain ⟨⟨x1, x2⟩, -, -, -⟩ := exD_in hv hex
  obtain ⟨⟨y1, y2⟩, -, -, y5⟩ := exD_in hv hey
  have hc : ((bsD v ^ (y.2 - x.2).toNat : Nat) : Int) = (bsD v : Int) ^ (y.2 - x.2).toNat := by simp
  have hn : (x.1 * ((bsD v ^ (y.2 - x.2).toNat : Nat) : Int)).natAbs = x.1.natAbs * bsD v ^ (y.2 - x.2).toNat := by rw [Int.natAbs_mul, Int.natAbs_natCast]
  refine ⟨fun h => ⟨by omega, ?_⟩, fun h => ?_⟩
  · unfold add1D add2D
    rw [if_pos (by simp; omega), hc]
  · have he : 1 ≤ (y.2 - x.2).toNat := by
      rcases Nat.eq_zero_or_pos (y.2 - x.2).toNat with h0 | h0
      · rw [h0] at h; simp at h; omega
      · exact h0
    obtain ⟨s1, s2⟩ := add_big (b := bsD v) (x := x.1) (y := y.1) (e := (y.2 - x.2).toNat) (d := y.2.toNat) he (by omega) h (by omega) (by rcases y5 with h | h; omega; exact h)
    unfold add1D add2D
    split
    · have : exD v (x.1 * (bsD v : Int) ^ (y.2 - x.2).toNat + y.1, (y.2.toNat : Int)) = false := by
        simp only [exD]
        have : inB (x.1 * (bsD v : Int) ^ (y.2 - x.2).toNat + y.1) (-1000000000000000000) 1000000000000000000 = false := by
          generalize x.1 * (bsD v : Int) ^ (y.2 - x.2).toNat + y.1 = Z at *
          simp [inB]; omega
        rw [this]; simp
      unfold mkD
      rw [s1, if_neg (by rw [this]; decide)]
    · rfl
theorem add_refI {v : DVar} {x y : DExact} (hv : varD v = true) (hex : exD v x = true) (hey : exD v y = true) :
    (2000000000000000000 < x.1.natAbs * bsD v ^ (max x.2 y.2 - x.2).toNat ∨ 2000000000000000000 < y.1.natAbs * bsD v ^ (max x.2 y.2 - y.2).toNat → addDI v x y = ((0, 0), false)) ∧
    (x.1.natAbs * bsD v ^ (max x.2 y.2 - x.2).toNat ≤ 2000000000000000000 → y.1.natAbs * bsD v ^ (max x.2 y.2 - y.2).toNat ≤ 2000000000000000000 → addDI v x y = mkD v (x.1 * ((bsD v ^ (max x.2 y.2 - x.2).toNat : Nat) : Int) + y.1 * ((bsD v ^ (max x.2 y.2 - y.2).toNat : Nat) : Int)) (max x.2 y.2).toNat) := by
  obtain ⟨⟨x1, x2⟩, -, -, -⟩ := exD_in hv hex
  obtain ⟨⟨y1, y2⟩, -, -, -⟩ := exD_in hv hey
  unfold addDI
  split
  · next h =>
    obtain ⟨a1, a2⟩ := add_ref hv hey hex (by omega)
    rw [show max x.2 y.2 = x.2 by omega, show (x.2 - x.2).toNat = 0 by omega, Nat.pow_zero]
    refine ⟨fun g => a2 (by omega), fun g1 g2 => ?_⟩
    rw [(a1 g2).2]; congr 1; omega
  · next h =>
    obtain ⟨a1, a2⟩ := add_ref hv hex hey (by omega)
    rw [show max x.2 y.2 = y.2 by omega, show (y.2 - y.2).toNat = 0 by omega, Nat.pow_zero]
    refine ⟨fun g => a2 (by omega), fun g1 g2 => ?_⟩
    rw [(a1 g1).2]; congr 1; omega
theorem guard_iff {a : Int} {P : Nat} (hP : 1 ≤ P) : (Int.tdiv 2000000000000000000 (P : Int) < max a (0 - a) ↔ 2000000000000000000 < a.natAbs * P) ∧ 0 ≤ Int.tdiv 2000000000000000000 (P : Int) ∧ Int.tdiv 2000000000000000000 (P : Int) ≤ 2000000000000000000 := by
  have h1 : Int.tdiv (2000000000000000000 : Int) (P : Int) = ((2000000000000000000 / P : Nat) : Int) := by rw [Int.tdiv_eq_ediv_of_nonneg (by omega)]; simp
  have h2 : a.natAbs ≤ 2000000000000000000 / P ↔ a.natAbs * P ≤ 2000000000000000000 := Nat.le_div_iff_mul_le hP
  have h3 := Nat.div_le_self 2000000000000000000 P
  rw [h1]
  generalize 2000000000000000000 / P = T at *
  omega
def c_spec_l09Add : Con where
  ins := [(true, .v tVar), (true, .v tRoll), (true, .v tRoll)]
  outs := [(true, .v tRoll), (false, .v .b)]
  sh := false
  pre := fun x => varD x.1 = true ∧ exD x.1 x.2.1 = true ∧ exD x.1 x.2.2.1 = true
  out := fun x => ((addDI x.1 x.2.1 x.2.2.1).1, (addDI x.1 x.2.1 x.2.2.1).2, ())
  upd := fun x => x
  eat := false
theorem k_spec_l09Add [B : Base] : ConOk Try.prog 23 c_spec_l09Add := by
  refine fn_okW (C := cx Try.prog 86 c_spec_l09Add) (cs := [(40, c_spec_l09Scale), (41, c_spec_l09Fit)]) (res := Try.f23.results.toList) (fun _ => ⟨[], [(5, ⟨[[], [0], [], [2], [2, 3], [0, 1, 2, 3, 4], [], [6], [0, 1, 2, 3, 4, 5, 6, 7], [0, 1, 2, 3, 4, 5, 6, 7, 8], [0, 1, 2, 3, 4, 5, 6, 7, 8, 9], [0, 1, 2, 3, 4, 5, 6, 7, 8, 9, 10], [0, 1, 2, 3, 4, 5, 6, 7, 8, 9], [0, 1, 2, 3, 4, 5, 6, 7, 8, 9, 12], [0, 1, 2, 3, 4, 5, 6, 7, 8, 9, 12, 13], [0, 1, 2, 3, 4, 5, 6, 7, 8, 9, 10, 11, 12, 13, 14], [0, 1, 2, 3, 4, 5, 6, 7, 8, 9], [0, 1, 2, 3, 4, 5, 6, 7, 8, 9, 16], [0, 1, 2, 3, 4, 5, 6, 7, 8, 9, 10, 11, 12, 13, 14, 15, 16, 17], [0, 1, 2, 3, 4, 5, 6, 7, 8, 9, 10, 11, 12, 13, 14, 15, 16, 17, 18]], [[2, 3, 4, 6, 7], [2, 3, 4, 6, 7], [0, 1, 6, 7], [0, 1, 6, 7], [0, 1, 6, 7], [6, 7], [0, 1, 2, 3, 4, 5], [0, 1, 2, 3, 4, 5], [], [], [12, 13, 14, 16, 17], [12, 13, 14, 16, 17], [10, 11, 16, 17], [10, 11, 16, 17], [10, 11, 16, 17], [16, 17], [10, 11, 12, 13, 14, 15], [10, 11, 12, 13, 14, 15], [], []], []⟩)], []⟩) Try.func23 (by kernel_rfl) rfl rfl rfl tysOk.look eqTsOk.look (AllCs.ok (l := [(40, c_spec_l09Scale), (41, c_spec_l09Fit)]) ⟨k_spec_l09Scale, k_spec_l09Fit, trivial⟩) mixed rfl rfl rfl rfl ?_
  refine of_nf (P := ∀ v : Int × Int × Int × Int, ∀ x : Int × Int, ∀ y : Int × Int, (varD v = true ∧ exD v x = true ∧ exD v y = true) → ((lensI c_spec_l09Add.ins (v, x, y, ())) → ((varD v = true ∧ (max x.2 y.2) ≤ 9223372036854775807) ∧ ((inK .i64 ((max x.2 y.2) - x.2)) ∧ ((varD v = true ∧ ((max x.2 y.2) - x.2) ≤ 9223372036854775807) ∧ ((inK .i64 ((max x.2 y.2) - y.2)) ∧ ((varD v = true ∧ ((max x.2 y.2) - y.2) ≤ 9223372036854775807) ∧ ((inK .i64 (0 - x.1)) ∧ (((sclV (bsD v) ((max x.2 y.2) - x.2) : Int) ≠ 0) ∧ ((inK .i64 (Int.tdiv (2000000000000000000 : Int) (sclV (bsD v) ((max x.2 y.2) - x.2) : Int))) ∧ (bsp (decide ((Int.tdiv (2000000000000000000 : Int) (sclV (bsD v) ((max x.2 y.2) - x.2) : Int)) < (max x.1 (0 - x.1)))) (@Eq (HO c_spec_l09Add.outs) ((0, 0), false, ()) (c_spec_l09Add.out (v, x, y, ()))) ((inK .i64 (0 - y.1)) ∧ (((sclV (bsD v) ((max x.2 y.2) - y.2) : Int) ≠ 0) ∧ ((inK .i64 (Int.tdiv (2000000000000000000 : Int) (sclV (bsD v) ((max x.2 y.2) - y.2) : Int))) ∧ (bsp (decide ((Int.tdiv (2000000000000000000 : Int) (sclV (bsD v) ((max x.2 y.2) - y.2) : Int)) < (max y.1 (0 - y.1)))) (@Eq (HO c_spec_l09Add.outs) ((0, 0), false, ()) (c_spec_l09Add.out (v, x, y, ()))) ((inK .i64 (x.1 * (sclV (bsD v) ((max x.2 y.2) - x.2) : Int))) ∧ ((inK .i64 (y.1 * (sclV (bsD v) ((max x.2 y.2) - y.2) : Int))) ∧ ((inK .i64 ((x.1 * (sclV (bsD v) ((max x.2 y.2) - x.2) : Int)) + (y.1 * (sclV (bsD v) ((max x.2 y.2) - y.2) : Int)))) ∧ ((varD v = true ∧ FitP v ((x.1 * (sclV (bsD v) ((max x.2 y.2) - x.2) : Int)) + (y.1 * (sclV (bsD v) ((max x.2 y.2) - y.2) : Int))) (sclV (bsD v) (max x.2 y.2) : Int)) ∧ (bsp (!(fitD v ((x.1 * (sclV (bsD v) ((max x.2 y.2) - x.2) : Int)) + (y.1 * (sclV (bsD v) ((max x.2 y.2) - y.2) : Int))) (Int.toNat (sclV (bsD v) (max x.2 y.2) : Int))).2) (@Eq (HO c_spec_l09Add.outs) ((0, 0), false, ()) (c_spec_l09Add.out (v, x, y, ()))) (@Eq (HO c_spec_l09Add.outs) ((fitD v ((x.1 * (sclV (bsD v) ((max x.2 y.2) - x.2) : Int)) + (y.1 * (sclV (bsD v) ((max x.2 y.2) - y.2) : Int))) (Int.toNat (sclV (bsD v) (max x.2 y.2) : Int))).1, true, ()) (c_spec_l09Add.out (v, x, y, ()))))))))))))))))))))))) (by kernel_rfl) ?_
  rintro v x y ⟨hv, hex, hey⟩ hl
  obtain ⟨-, b1, b2, s1, s2⟩ := bsD_facts hv
  obtain ⟨⟨⟨x1, x1'⟩, x2, x2'⟩, xb, -, -⟩ := exD_in hv hex
  obtain ⟨⟨⟨y1, y1'⟩, y2, y2'⟩, yb, -, -⟩ := exD_in hv hey
  obtain ⟨A1, A2⟩ := add_refI hv hex hey
  have out : ∀ r : DExact × Bool, addDI v x y = r → @Eq (HO c_spec_l09Add.outs) (r.1, r.2, ()) (c_spec_l09Add.out (v, x, y, ())) := fun r h => by subst h; rfl
  have mb : bsD v ^ (max x.2 y.2).toNat ≤ 1000000000000000 := by
    rcases Int.le_total x.2 y.2 with h | h
    · rw [show max x.2 y.2 = y.2 by omega]; exact yb
    · rw [show max x.2 y.2 = x.2 by omega]; exact xb
  have sc : ∀ d : Int, 0 ≤ d → d ≤ max x.2 y.2 → sclV (bsD v) d = bsD v ^ d.toNat ∧ 1 ≤ bsD v ^ d.toNat ∧ bsD v ^ d.toNat ≤ 1000000000000000 := fun d h0 h1 =>
    ⟨(scl_yes (k := d.toNat) (by omega) (Nat.le_trans (Nat.pow_le_pow_right b1 (by omega)) mb)).2, Nat.pow_pos b1, Nat.le_trans (Nat.pow_le_pow_right b1 (by omega)) mb⟩
  have hM : x.2 ≤ max x.2 y.2 ∧ y.2 ≤ max x.2 y.2 ∧ max x.2 y.2 ≤ 60 := by omega
  generalize max x.2 y.2 = M at *
  obtain ⟨e1, p1, p1'⟩ := sc (M - x.2) (by omega) (by omega)
  obtain ⟨e2, p2, p2'⟩ := sc (M - y.2) (by omega) (by omega)
  obtain ⟨e3, p3, p3'⟩ := sc M (by omega) (by omega)
  rw [e1, e2, e3]
  clear sc e1 e2 e3
  simp only [Int.toNat_natCast]
  have hfm := fit_mk (v := v) (A := x.1 * ((bsD v ^ (M - x.2).toNat : Nat) : Int) + y.1 * ((bsD v ^ (M - y.2).toNat : Nat) : Int)) (D := M.toNat) hv
  generalize bsD v ^ M.toNat = C at *
  have gx := guard_iff (a := x.1) p1
  have gy := guard_iff (a := y.1) p2
  have nx : (x.1 * ((bsD v ^ (M - x.2).toNat : Nat) : Int)).natAbs = x.1.natAbs * bsD v ^ (M - x.2).toNat := by rw [Int.natAbs_mul, Int.natAbs_natCast]
  have ny : (y.1 * ((bsD v ^ (M - y.2).toNat : Nat) : Int)).natAbs = y.1.natAbs * bsD v ^ (M - y.2).toNat := by rw [Int.natAbs_mul, Int.natAbs_natCast]
  generalize x.1 * ((bsD v ^ (M - x.2).toNat : Nat) : Int) = X at *
  generalize y.1 * ((bsD v ^ (M - y.2).toNat : Nat) : Int) = Y at *
  generalize x.1.natAbs * bsD v ^ (M - x.2).toNat = X' at *
  generalize y.1.natAbs * bsD v ^ (M - y.2).toNat = Y' at *
  generalize bsD v ^ (M - x.2).toNat = P at *
  generalize bsD v ^ (M - y.2).toNat = Q at *
  refine ⟨⟨hv, by omega⟩, by simp only [inK]; omega, ⟨hv, by omega⟩, by simp only [inK]; omega, ⟨hv, by omega⟩, by simp only [inK]; omega, by omega, by simp only [inK]; omega, bspD (fun h => out _ (A1 (.inl (gx.1.1 h)))) (fun h => ⟨by simp only [inK]; omega, by omega, by simp only [inK]; omega, bspD (fun h' => out _ (A1 (.inr (gy.1.1 h')))) (fun h' => ?_)⟩)⟩
  have hx' : X' ≤ 2000000000000000000 := by have := gx.1; omega
  have hy' : Y' ≤ 2000000000000000000 := by have := gy.1; omega
  have hA := A2 hx' hy'
  obtain ⟨F1, F2, F3⟩ := hfm (by omega) (by omega) p3'
  refine ⟨by simp only [inK]; omega, by simp only [inK]; omega, by simp only [inK]; omega, ⟨hv, F1⟩, bspB (fun hn => out ((0, 0), false) ?_) (fun hy => ?_)⟩
  · rw [hA]
    simp only [Bool.not_eq_true'] at hn
    exact mkD_no (by rw [← F2]; exact hn)
  · simp only [Bool.not_eq_false'] at hy
    rw [F2] at hy
    rw [F3 hy]
    have := out (mkD v (X + Y) M.toNat) hA
    rwa [hy] at this
end Go.Proofs.Ytoobijimfccfgaa
