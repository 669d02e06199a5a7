/-
  Contracts: lowest terms.
-/
import Derived.Test.YtoobijimfccfgaaVExact
namespace Go.Proofs.Ytoobijimfccfgaa
open Go.RowKit
set_option linter.unusedSimpArgs false
set_option linter.unusedVariables false
/-- the least k from here on with B a divisor of b ^ k -/
def leastK (b B : Nat) : Nat → Nat → Nat
  | 0, k => k
  | f + 1, k => if b ^ k % B = 0 then k else leastK b B f (k + 1)
theorem leastK_spec {b B D : Nat} (hD : b ^ D % B = 0) : ∀ (f k : Nat), k ≤ D → D < k + f → (∀ j, j < k → b ^ j % B ≠ 0) → b ^ leastK b B f k % B = 0 ∧ (∀ j, j < leastK b B f k → b ^ j % B ≠ 0) ∧ leastK b B f k ≤ D
  | 0, k, h1, h2, _ => by omega
  | f + 1, k, h1, h2, h3 => by
    simp only [leastK]
    split
    · next h => exact ⟨h, h3, h1⟩
    · next h =>
      have hk : k ≠ D := by rintro rfl; exact h hD
      exact leastK_spec hD f (k + 1) (by omega) (by omega) fun j hj => by
        by_cases e : j = k
        · subst e; exact h
        · exact h3 j (by omega)
def fitA (a : Int) (B : Nat) : Int := Int.tdiv a (Nat.gcd a.natAbs B)
def fitB (a : Int) (B : Nat) : Nat := B / Nat.gcd a.natAbs B
def fitK (v : DVar) (a : Int) (B : Nat) : Nat := leastK (bsD v) (fitB a B) 61 0
def fitN (v : DVar) (a : Int) (B : Nat) : Int := fitA a B * ((bsD v ^ fitK v a B / fitB a B : Nat) : Int)
def fitD (v : DVar) (a : Int) (B : Nat) : DExact × Bool :=
  ((if timesD (fitA a B) ((bsD v ^ fitK v a B / fitB a B : Nat) : Int) then fitN v a B else 0, (fitK v a B : Int)), timesD (fitA a B) ((bsD v ^ fitK v a B / fitB a B : Nat) : Int) && inB (if timesD (fitA a B) ((bsD v ^ fitK v a B / fitB a B : Nat) : Int) then fitN v a B else 0) (-1000000000000000000) 1000000000000000000)
def FitP (v : DVar) (a B : Int) : Prop := (1 ≤ B ∧ B ≤ 1000000000000000) ∧ (-9223372036854775807 ≤ a ∧ a ≤ 9223372036854775807) ∧ ∃ D : Nat, D ≤ 60 ∧ bsD v ^ D ≤ 1000000000000000 ∧ bsD v ^ D % fitB a B.toNat = 0
def c_spec_l09Fit : Con where
  ins := [(true, .v tVar), (false, .v tI), (false, .v tI)]
  outs := [(true, .v tRoll), (false, .v .b)]
  sh := false
  pre := fun x => varD x.1 = true ∧ FitP x.1 x.2.1 x.2.2.1
  out := fun x => ((fitD x.1 x.2.1 (Int.toNat x.2.2.1)).1, (fitD x.1 x.2.1 (Int.toNat x.2.2.1)).2, ())
  upd := fun x => x
  eat := false
theorem k_spec_l09Fit [B : Base] : ConOk Try.prog 41 c_spec_l09Fit := by
  refine fn_okW (C := cx Try.prog 54 c_spec_l09Fit) (cs := [(54, c_spec_l09Gcd), (40, c_spec_l09Scale), (55, c_spec_l09Times), (17, c_spec_l01In)]) (res := Try.f41.results.toList) (fun x => ⟨[{ sh := ⟨[(1, .one (.i .i64)), (2, .one (.i .i64)), (3, .one (.ref 0)), (6, .one (.ref 1)), (9, .one (.i .i64))], [(0, .box [.i .i64, .i .i64, .i .i64, .i .i64]), (1, .box [.i .i64, .i .i64])]⟩, nx := 2, I := fun _ dat_ => ((Int.tdiv x.2.1 (Nat.gcd (Int.natAbs x.2.1) (Int.natAbs x.2.2.1) : Int)) = dat_.1.1 ∧ (Int.tdiv x.2.2.1 (Nat.gcd (Int.natAbs x.2.1) (Int.natAbs x.2.2.1) : Int)) = dat_.1.2.1 ∧ x.1.1 = dat_.2.1.1 ∧ x.1.2.1 = dat_.2.1.2.1 ∧ x.1.2.2.1 = dat_.2.1.2.2.1 ∧ x.1.2.2.2 = dat_.2.1.2.2.2.1 ∧ (0 : Int) = dat_.2.2.1.1 ∧ (0 : Int) = dat_.2.2.1.2.1) ∧ ((dat_.1.1 = fitA x.2.1 (Int.toNat x.2.2.1) ∧ dat_.1.2.1 = (fitB x.2.1 (Int.toNat x.2.2.1) : Int)) ∧ (∀ j, j < Int.toNat dat_.1.2.2.2.2.1 → bsD x.1 ^ j % fitB x.2.1 (Int.toNat x.2.2.1) ≠ 0) ∧ 0 ≤ dat_.1.2.2.2.2.1 ∧ dat_.1.2.2.2.2.1 ≤ 61), mu := fun dat_ => Int.toNat (61 - dat_.1.2.2.2.2.1) }], [], []⟩) Try.func41 (by kernel_rfl) rfl rfl rfl tysOk.look eqTsOk.look (AllCs.ok (l := [(54, c_spec_l09Gcd), (40, c_spec_l09Scale), (55, c_spec_l09Times), (17, c_spec_l01In)]) ⟨k_spec_l09Gcd, k_spec_l09Scale, k_spec_l09Times, k_spec_l01In, trivial⟩) mixed rfl rfl rfl rfl ?_
  refine of_nf (P := ∀ v : Int × Int × Int × Int, ∀ a : Int, ∀ b : Int, (varD v = true ∧ FitP v a b) → ((lensI c_spec_l09Fit.ins (v, a, b, ())) → (((-9223372036854775807 ≤ a ∧ a ≤ 9223372036854775807) ∧ -9223372036854775807 ≤ b ∧ b ≤ 9223372036854775807) ∧ (((Nat.gcd (Int.natAbs a) (Int.natAbs b) : Int) ≠ 0) ∧ ((inK .i64 (Int.tdiv a (Nat.gcd (Int.natAbs a) (Int.natAbs b) : Int))) ∧ (((Nat.gcd (Int.natAbs a) (Int.natAbs b) : Int) ≠ 0) ∧ ((inK .i64 (Int.tdiv b (Nat.gcd (Int.natAbs a) (Int.natAbs b) : Int))) ∧ ((((Int.tdiv a (Nat.gcd (Int.natAbs a) (Int.natAbs b) : Int)) = (Int.tdiv a (Nat.gcd (Int.natAbs a) (Int.natAbs b) : Int)) ∧ (Int.tdiv b (Nat.gcd (Int.natAbs a) (Int.natAbs b) : Int)) = (Int.tdiv b (Nat.gcd (Int.natAbs a) (Int.natAbs b) : Int)) ∧ v.1 = v.1 ∧ v.2.1 = v.2.1 ∧ v.2.2.1 = v.2.2.1 ∧ v.2.2.2 = v.2.2.2 ∧ (0 : Int) = 0 ∧ (0 : Int) = 0) ∧ (((Int.tdiv a (Nat.gcd (Int.natAbs a) (Int.natAbs b) : Int)) = fitA a (Int.toNat b) ∧ (Int.tdiv b (Nat.gcd (Int.natAbs a) (Int.natAbs b) : Int)) = (fitB a (Int.toNat b) : Int)) ∧ (∀ j, j < Int.toNat (0 : Int) → bsD v ^ j % fitB a (Int.toNat b) ≠ 0) ∧ 0 ≤ (0 : Int) ∧ (0 : Int) ≤ 61)) ∧ (∀ p : Int, ∀ q : Int, ∀ i : Int, ∀ t3_0 : Int, ∀ t3_1 : Int, ∀ t3_2 : Int, ∀ t3_3 : Int, ∀ t6_0 : Int, ∀ t6_1 : Int, (((Int.tdiv a (Nat.gcd (Int.natAbs a) (Int.natAbs b) : Int)) = p ∧ (Int.tdiv b (Nat.gcd (Int.natAbs a) (Int.natAbs b) : Int)) = q ∧ v.1 = t3_0 ∧ v.2.1 = t3_1 ∧ v.2.2.1 = t3_2 ∧ v.2.2.2 = t3_3 ∧ (0 : Int) = t6_0 ∧ (0 : Int) = t6_1) ∧ ((p = fitA a (Int.toNat b) ∧ q = (fitB a (Int.toNat b) : Int)) ∧ (∀ j, j < Int.toNat i → bsD v ^ j % fitB a (Int.toNat b) ≠ 0) ∧ 0 ≤ i ∧ i ≤ 61)) → ((varD (t3_0, t3_1, t3_2, t3_3) = true ∧ i ≤ 9223372036854775807) ∧ (bsp (!(sclB (bsD (t3_0, t3_1, t3_2, t3_3)) i)) (@Eq (HO c_spec_l09Fit.outs) ((0, 0), false, ()) (c_spec_l09Fit.out (v, a, b, ()))) ((q ≠ 0) ∧ (bsp (decide ((Int.tmod (sclV (bsD (t3_0, t3_1, t3_2, t3_3)) i : Int) q) = (0 : Int))) ((q ≠ 0) ∧ ((inK .i64 (Int.tdiv (sclV (bsD (t3_0, t3_1, t3_2, t3_3)) i : Int) q)) ∧ (((-9223372036854775807 ≤ p ∧ p ≤ 9223372036854775807) ∧ -9223372036854775807 ≤ (Int.tdiv (sclV (bsD (t3_0, t3_1, t3_2, t3_3)) i : Int) q) ∧ (Int.tdiv (sclV (bsD (t3_0, t3_1, t3_2, t3_3)) i : Int) q) ≤ 9223372036854775807) ∧ (bsp (timesD p (Int.tdiv (sclV (bsD (t3_0, t3_1, t3_2, t3_3)) i : Int) q)) (True ∧ (@Eq (HO c_spec_l09Fit.outs) (((if timesD p (Int.tdiv (sclV (bsD (t3_0, t3_1, t3_2, t3_3)) i : Int) q) then p * (Int.tdiv (sclV (bsD (t3_0, t3_1, t3_2, t3_3)) i : Int) q) else 0), i), inB (if timesD p (Int.tdiv (sclV (bsD (t3_0, t3_1, t3_2, t3_3)) i : Int) q) then p * (Int.tdiv (sclV (bsD (t3_0, t3_1, t3_2, t3_3)) i : Int) q) else 0) (-1000000000000000000 : Int) (1000000000000000000 : Int), ()) (c_spec_l09Fit.out (v, a, b, ())))) (@Eq (HO c_spec_l09Fit.outs) (((if timesD p (Int.tdiv (sclV (bsD (t3_0, t3_1, t3_2, t3_3)) i : Int) q) then p * (Int.tdiv (sclV (bsD (t3_0, t3_1, t3_2, t3_3)) i : Int) q) else 0), i), false, ()) (c_spec_l09Fit.out (v, a, b, ()))))))) ((inK .i64 (i + 1)) ∧ ((((Int.tdiv a (Nat.gcd (Int.natAbs a) (Int.natAbs b) : Int)) = p ∧ (Int.tdiv b (Nat.gcd (Int.natAbs a) (Int.natAbs b) : Int)) = q ∧ v.1 = t3_0 ∧ v.2.1 = t3_1 ∧ v.2.2.1 = t3_2 ∧ v.2.2.2 = t3_3 ∧ (0 : Int) = t6_0 ∧ (0 : Int) = t6_1) ∧ ((p = fitA a (Int.toNat b) ∧ q = (fitB a (Int.toNat b) : Int)) ∧ (∀ j, j < Int.toNat (i + 1) → bsD v ^ j % fitB a (Int.toNat b) ≠ 0) ∧ 0 ≤ (i + 1) ∧ (i + 1) ≤ 61)) ∧ ((Int.toNat (61 - (i + 1)) : Nat) < Int.toNat (61 - i))))))))))))))))) (by kernel_rfl) ?_
  rintro v a b ⟨hv, ⟨hb0, hb1⟩, ⟨ha0, ha1⟩, D, hD, hs, hd⟩ hl
  obtain ⟨-, b1, b2, s1, s2⟩ := bsD_facts hv
  obtain ⟨B, rfl⟩ : ∃ B : Nat, b = B := ⟨b.toNat, by omega⟩
  simp only [Int.toNat_natCast, Int.natAbs_natCast] at hd ⊢
  have hg : 1 ≤ Nat.gcd a.natAbs B := Nat.gcd_pos_of_pos_right _ (by omega)
  have hgle : Nat.gcd a.natAbs B ≤ B := Nat.gcd_le_right _ (by omega)
  have eB : Int.tdiv (B : Int) ((Nat.gcd a.natAbs B : Nat) : Int) = (fitB a B : Int) := by rw [Int.tdiv_eq_ediv_of_nonneg (by omega)]; simp [fitB]
  have eA : Int.tdiv a ((Nat.gcd a.natAbs B : Nat) : Int) = fitA a B := rfl
  have hB1 : 1 ≤ fitB a B := Nat.div_pos hgle hg
  have hB2 : fitB a B ≤ B := Nat.div_le_self _ _
  have hA : (fitA a B).natAbs ≤ a.natAbs := tdiv_abs hg
  rw [eB, eA]
  refine ⟨⟨⟨ha0, ha1⟩, by omega, by omega⟩, by omega, by simp only [inK]; omega, by omega, by simp only [inK]; omega, ⟨(by first | trivial | rfl | (and_intros <;> rfl)), (by first | trivial | rfl | (and_intros <;> rfl)), fun j hj => by simp at hj, by omega, by omega⟩, ?_⟩
  rintro p q i t3_0 t3_1 t3_2 t3_3 t6_0 t6_1 ⟨⟨rfl, rfl, rfl, rfl, rfl, rfl, rfl, rfl⟩, ⟨-, hn, i0, i1⟩⟩
  simp only [Prod.eta]
  obtain ⟨k, rfl⟩ : ∃ k : Nat, i = k := ⟨i.toNat, by omega⟩
  simp only [Int.toNat_natCast] at hn ⊢
  have hkD : k ≤ D := by
    rcases Nat.lt_or_ge D k with h | h
    · exact absurd hd (hn D h)
    · exact h
  have hpk : bsD v ^ k ≤ 1000000000000000 := Nat.le_trans (Nat.pow_le_pow_right b1 hkD) hs
  obtain ⟨sy, sv⟩ := scl_yes (b := bsD v) (k := k) (d := (k : Int)) rfl hpk
  rw [sy, sv]
  have em : Int.tmod ((bsD v ^ k : Nat) : Int) (fitB a B : Int) = ((bsD v ^ k % fitB a B : Nat) : Int) := by rw [Int.tmod_eq_emod_of_nonneg (by omega)]; simp
  have ed : Int.tdiv ((bsD v ^ k : Nat) : Int) (fitB a B : Int) = ((bsD v ^ k / fitB a B : Nat) : Int) := by rw [Int.tdiv_eq_ediv_of_nonneg (by omega)]; simp
  have hq := Nat.div_le_self (bsD v ^ k) (fitB a B)
  obtain ⟨T, hT⟩ : ∃ T, T = bsD v ^ k / fitB a B := ⟨_, rfl⟩
  rw [← hT] at hq ed
  rw [em, ed]
  refine ⟨⟨hv, by omega⟩, bspB (fun h => by cases h) (fun _ => ⟨by omega, bspD (fun hz => ?_) (fun hnz => ?_)⟩)⟩
  · obtain ⟨K1, K2, _⟩ := leastK_spec hd 61 0 (by omega) (by omega) (fun j hj => by omega)
    have hK : fitK v a B = k := by
      rcases Nat.lt_trichotomy (fitK v a B) k with h | h | h
      · exact absurd K1 (hn _ h)
      · exact h
      · exact absurd (by omega : bsD v ^ k % fitB a B = 0) (K2 k h)
    refine ⟨by omega, by simp only [inK]; omega, ⟨⟨by omega, by omega⟩, by omega, by omega⟩, bspB (fun ht => ⟨trivial, ?_⟩) (fun ht => ?_)⟩
    · simp only [c_spec_l09Fit, fitD, fitN, hK, ← hT, ht, if_true, Bool.true_and, Int.toNat_natCast]
    · simp only [c_spec_l09Fit, fitD, fitN, hK, ← hT, ht, Bool.false_and, Int.toNat_natCast]
  · refine ⟨by simp only [inK]; omega, ⟨(by first | trivial | rfl | (and_intros <;> rfl)), (by first | trivial | rfl | (and_intros <;> rfl)), fun j hj => ?_, by omega, by omega⟩, by omega⟩
    by_cases e : j = k
    · subst e; omega
    · exact hn j (by omega)
end Go.Proofs.Ytoobijimfccfgaa
