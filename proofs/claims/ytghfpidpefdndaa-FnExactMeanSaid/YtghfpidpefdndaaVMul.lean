/-
  Contracts: products of exact numbers, the program's.
-/
import Derived.Test.YtghfpidpefdndaaVAdd2
import Derived.Test.YtghfpidpefdndaaMathMu
import Derived.Test.YtghfpidpefdndaaBridge2
namespace Go.Proofs.Ytghfpidpefdndaa
open Go.RowKit
set_option linter.unusedSimpArgs false
set_option linter.unusedVariables false
/-- the number of words; by choice, so that the kernel never counts with it -/
noncomputable def two64 : Nat := Classical.choose (⟨18446744073709551616, rfl⟩ : ∃ n : Nat, n = 18446744073709551616)
theorem two64_eq : two64 = 18446744073709551616 := Classical.choose_spec (⟨18446744073709551616, rfl⟩ : ∃ n : Nat, n = 18446744073709551616)
theorem words_divW {hi lo b : Nat} (hlo : lo < 18446744073709551616) (hb : 1 ≤ b) :
    (hi * two64 + lo) / b = hi / b * two64 + (hi % b * two64 + lo) / b ∧ (hi * two64 + lo) % b = (hi % b * two64 + lo) % b ∧ (hi % b * two64 + lo) / b < 18446744073709551616 := by
  rw [two64_eq]; exact words_div hlo hb
noncomputable section
def hiW (x y : Int) : Int := ((x.toNat * y.toNat / two64 : Nat) : Int)
def loW (x y : Int) : Int := ((x.toNat * y.toNat % two64 : Nat) : Int)
def quW (h l y : Int) : Int := (((h.toNat * two64 + l.toNat) / y.toNat : Nat) : Int)
def reW (h l y : Int) : Int := (((h.toNat * two64 + l.toNat) % y.toNat : Nat) : Int)
def c_math_bits_Mul64 : Con where
  ins := [(false, .v (.i .u64)), (false, .v (.i .u64))]
  outs := [(false, .v (.i .u64)), (false, .v (.i .u64))]
  sh := false
  pre := fun x => (0 ≤ x.1 ∧ x.1 ≤ 18446744073709551615) ∧ 0 ≤ x.2.1 ∧ x.2.1 ≤ 18446744073709551615
  out := fun x => (hiW x.1 x.2.1, loW x.1 x.2.1, ())
  upd := fun x => x
def c_math_bits_Div64 : Con where
  ins := [(false, .v (.i .u64)), (false, .v (.i .u64)), (false, .v (.i .u64))]
  outs := [(false, .v (.i .u64)), (false, .v (.i .u64))]
  sh := false
  pre := fun x => (0 ≤ x.1 ∧ x.1 < x.2.2.1) ∧ (0 ≤ x.2.1 ∧ x.2.1 ≤ 18446744073709551615) ∧ x.2.2.1 ≤ 18446744073709551615
  out := fun x => (quW x.1 x.2.1 x.2.2.1, reW x.1 x.2.1 x.2.2.1, ())
  upd := fun x => x
theorem k_math_bits_Mul64 : ConOk Try.prog 207 c_math_bits_Mul64 :=
  con22 (o := fun a b => (hiW a b, loW a b)) ⟨_, _, Try.func207, by kernel_rfl, rfl⟩ fun a b w hp => by
    obtain ⟨⟨a0, a1⟩, b0, b1⟩ : (0 ≤ a ∧ a ≤ 18446744073709551615) ∧ 0 ≤ b ∧ b ≤ 18446744073709551615 := hp
    obtain ⟨a, rfl⟩ : ∃ n : Nat, a = n := ⟨a.toNat, by omega⟩
    obtain ⟨b, rfl⟩ : ∃ n : Nat, b = n := ⟨b.toNat, by omega⟩
    simp only [hiW, loW, two64_eq, Int.toNat_natCast]
    exact mul64_any a b (by omega) (by omega) w
theorem k_math_bits_Div64 : ConOk Try.prog 210 c_math_bits_Div64 :=
  con32 (o := fun h l y => (quW h l y, reW h l y)) ⟨_, _, Try.func210, by kernel_rfl, rfl⟩ fun h l y w hp => by
    obtain ⟨⟨h0, h1⟩, ⟨l0, l1⟩, y1⟩ : (0 ≤ h ∧ h < y) ∧ (0 ≤ l ∧ l ≤ 18446744073709551615) ∧ y ≤ 18446744073709551615 := hp
    obtain ⟨h, rfl⟩ : ∃ n : Nat, h = n := ⟨h.toNat, by omega⟩
    obtain ⟨l, rfl⟩ : ∃ n : Nat, l = n := ⟨l.toNat, by omega⟩
    obtain ⟨y, rfl⟩ : ∃ n : Nat, y = n := ⟨y.toNat, by omega⟩
    simp only [quW, reW, two64_eq, Int.toNat_natCast]
    exact div64_all h l y (by omega) (by omega) (by omega) w
end
/-- what is left to be divided -/
structure mulI (v : DVar) (x : DExact) (k hi lo dep : Int) : Prop where
  st : stripN (bsD v) x.2.toNat (x.1 * k).natAbs = stripN (bsD v) dep.toNat (hi.toNat * two64 + lo.toNat)
  hi : 0 ≤ hi ∧ hi ≤ 100
  lo : 0 ≤ lo ∧ lo ≤ 18446744073709551615
  dep : 0 ≤ dep ∧ dep ≤ x.2
structure mulJ (v : DVar) (x : DExact) (k hi lo dep : Int) : Prop where
  st : stripN (bsD v) x.2.toNat (x.1 * k).natAbs = (hi.toNat * two64 + lo.toNat, dep.toNat)
  hi : 0 ≤ hi ∧ hi ≤ 100
  lo : 0 ≤ lo ∧ lo ≤ 18446744073709551615
  dep : 0 ≤ dep ∧ dep ≤ x.2
theorem mul_far {v : DVar} {x : DExact} {k : Int} {n e : Nat} (h : stripN (bsD v) x.2.toNat (x.1 * k).natAbs = (n, e)) (hn : 1000000000000000000 < n) : mkD v (x.1 * k) x.2.toNat = ((0, 0), false) := by
  have h1 := (strip_abs_eq (bsD v) x.2.toNat (x.1 * k)).1
  rw [h] at h1
  dsimp only at h1
  unfold mkD
  rw [if_neg]
  have : inB (strip (bsD v) x.2.toNat (x.1 * k)).1 (-1000000000000000000) 1000000000000000000 = false := by
    generalize (strip (bsD v) x.2.toNat (x.1 * k)).1 = Z at *
    simp [inB]; omega
  simp [exD, this]
theorem mul_near {v : DVar} {x : DExact} {k : Int} {n e : Nat} (h : stripN (bsD v) x.2.toNat (x.1 * k).natAbs = (n, e)) {z : Int} (hz : z.natAbs = n) (hs : (0 ≤ x.1 * k → 0 ≤ z) ∧ (x.1 * k ≤ 0 → z ≤ 0)) : mkD v z e = mkD v (x.1 * k) x.2.toNat := by
  obtain ⟨h1, h2⟩ := strip_abs_eq (bsD v) x.2.toNat (x.1 * k)
  obtain ⟨g1, g2⟩ := strip_sign (bsD v) x.2.toNat (x.1 * k)
  have h3 := strip_twice (bsD v) x.2.toNat (x.1 * k)
  rw [h] at h1 h2
  dsimp only at h1 h2
  have e1 : (strip (bsD v) x.2.toNat (x.1 * k)).1 = z := by
    generalize (strip (bsD v) x.2.toNat (x.1 * k)).1 = Z at *
    omega
  rw [e1, h2] at h3
  unfold mkD
  rw [h3]
theorem sign_mul {a k : Int} (h : (decide (a < 0) != decide (k < 0)) = false) : 0 ≤ a * k := by
  by_cases h1 : a < 0
  · have h2 : k < 0 := by simpa [h1] using h
    rw [← Int.neg_mul_neg]; exact Int.mul_nonneg (by omega) (by omega)
  · have h2 : ¬ k < 0 := by simpa [h1] using h
    exact Int.mul_nonneg (by omega) (by omega)
theorem sign_mul' {a k : Int} (h : (decide (a < 0) != decide (k < 0)) = true) : a * k ≤ 0 := by
  by_cases h1 : a < 0
  · have h2 : ¬ k < 0 := by simpa [h1] using h
    have : 0 ≤ -a * k := Int.mul_nonneg (by omega) (by omega)
    rw [Int.neg_mul] at this; omega
  · have h2 : k < 0 := by simpa [h1] using h
    have : 0 ≤ a * -k := Int.mul_nonneg (by omega) (by omega)
    rw [Int.mul_neg] at this; omega
def c_impl_scaleExact : Con where
  ins := [(true, .v tVar), (true, .v tRoll), (false, .v tI)]
  outs := [(true, .v tRoll), (false, .v .b)]
  sh := false
  pre := fun x => (varD x.1 = true ∧ exD x.1 x.2.1 = true) ∧ -1000 ≤ x.2.2.1 ∧ x.2.2.1 ≤ 1000
  out := fun x => ((mkD x.1 (x.2.1.1 * x.2.2.1) (Int.toNat x.2.1.2)).1, (mkD x.1 (x.2.1.1 * x.2.2.1) (Int.toNat x.2.1.2)).2, ())
  upd := fun x => x
theorem k_impl_scaleExact : ConOk Try.prog 136 c_impl_scaleExact := by
  refine fn_okW (C := cx Try.prog 73 c_impl_scaleExact) (cs := [(209, c_impl_baseOf), (208, c_impl_absolute), (207, c_math_bits_Mul64), (210, c_math_bits_Div64), (165, c_impl_makeExact)]) (res := Try.f136.results.toList) (fun x => ⟨[{ sh := ⟨[(2, .one (.i .i64)), (3, .one (.ref 0)), (4, .one (.ref 1)), (6, .one (.ref 2)), (8, .one (.i .u64)), (9, .one (.i .u64)), (10, .one (.i .u64)), (11, .one (.i .i64))], [(0, .box [.i .i64, .i .i64, .i .i64, .i .i64]), (1, .box [.i .i64, .i .i64]), (2, .box [.i .i64, .i .i64])]⟩, nx := 3, I := fun _ dat_ => (x.2.2.1 = dat_.1.1 ∧ (bsD x.1 : Int) = dat_.1.2.2.2.2.1 ∧ x.1.1 = dat_.2.1.1 ∧ x.1.2.1 = dat_.2.1.2.1 ∧ x.1.2.2.1 = dat_.2.1.2.2.1 ∧ x.1.2.2.2 = dat_.2.1.2.2.2.1 ∧ x.2.1.1 = dat_.2.2.1.1 ∧ x.2.1.2 = dat_.2.2.1.2.1 ∧ (0 : Int) = dat_.2.2.2.1.1 ∧ (0 : Int) = dat_.2.2.2.1.2.1) ∧ (mulI x.1 x.2.1 x.2.2.1 dat_.1.2.2.2.2.2.1 dat_.1.2.2.2.2.2.2.1 dat_.1.2.2.2.2.2.2.2.1), mu := fun dat_ => Int.toNat dat_.1.2.2.2.2.2.2.2.1 }], [], [(10, { sh := ⟨[(2, .one (.i .i64)), (3, .one (.ref 0)), (4, .one (.ref 1)), (6, .one (.ref 2)), (9, .one (.i .u64)), (10, .one (.i .u64)), (11, .one (.i .i64))], [(0, .box [.i .i64, .i .i64, .i .i64, .i .i64]), (1, .box [.i .i64, .i .i64]), (2, .box [.i .i64, .i .i64])]⟩, nx := 3, I := fun _ dat_ => (x.2.2.1 = dat_.1.1 ∧ x.1.1 = dat_.2.1.1 ∧ x.1.2.1 = dat_.2.1.2.1 ∧ x.1.2.2.1 = dat_.2.1.2.2.1 ∧ x.1.2.2.2 = dat_.2.1.2.2.2.1 ∧ x.2.1.1 = dat_.2.2.1.1 ∧ x.2.1.2 = dat_.2.2.1.2.1 ∧ (0 : Int) = dat_.2.2.2.1.1 ∧ (0 : Int) = dat_.2.2.2.1.2.1) ∧ (mulJ x.1 x.2.1 x.2.2.1 dat_.1.2.2.2.2.1 dat_.1.2.2.2.2.2.1 dat_.1.2.2.2.2.2.2.1), mu := fun dat_ => 0 })]⟩) Try.func136 (by kernel_rfl) rfl rfl rfl tysOk.look eqTsOk.look (AllCs.ok (l := [(209, c_impl_baseOf), (208, c_impl_absolute), (207, c_math_bits_Mul64), (210, c_math_bits_Div64), (165, c_impl_makeExact)]) ⟨k_impl_baseOf, k_impl_absolute, k_math_bits_Mul64, k_math_bits_Div64, k_impl_makeExact, trivial⟩) mixed rfl rfl rfl ?_
  refine of_nf (P := ∀ v : Int × Int × Int × Int, ∀ x : Int × Int, ∀ k : Int, ((varD v = true ∧ exD v x = true) ∧ -1000 ≤ k ∧ k ≤ 1000) → ((lensI c_impl_scaleExact.ins (v, x, k, ())) → ((varD v = true) ∧ ((inK .u64 (bsD v : Int)) ∧ ((-9223372036854775807 ≤ x.1 ∧ x.1 ≤ 9223372036854775807) ∧ ((inK .u64 (Int.natAbs x.1 : Int)) ∧ ((-9223372036854775807 ≤ k ∧ k ≤ 9223372036854775807) ∧ ((inK .u64 (Int.natAbs k : Int)) ∧ (((0 ≤ (Int.natAbs x.1 : Int) ∧ (Int.natAbs x.1 : Int) ≤ 18446744073709551615) ∧ 0 ≤ (Int.natAbs k : Int) ∧ (Int.natAbs k : Int) ≤ 18446744073709551615) ∧ ((((k = k ∧ (bsD v : Int) = (bsD v : Int) ∧ v.1 = v.1 ∧ v.2.1 = v.2.1 ∧ v.2.2.1 = v.2.2.1 ∧ v.2.2.2 = v.2.2.2 ∧ x.1 = x.1 ∧ x.2 = x.2 ∧ (0 : Int) = 0 ∧ (0 : Int) = 0) ∧ (mulI v x k (hiW (Int.natAbs x.1 : Int) (Int.natAbs k : Int)) (loW (Int.natAbs x.1 : Int) (Int.natAbs k : Int)) x.2)) ∧ (∀ t2 : Int, ∀ t8 : Int, ∀ hi : Int, ∀ lo : Int, ∀ dep : Int, ∀ t3_0 : Int, ∀ t3_1 : Int, ∀ t3_2 : Int, ∀ t3_3 : Int, ∀ t4_0 : Int, ∀ t4_1 : Int, ∀ t6_0 : Int, ∀ t6_1 : Int, ((k = t2 ∧ (bsD v : Int) = t8 ∧ v.1 = t3_0 ∧ v.2.1 = t3_1 ∧ v.2.2.1 = t3_2 ∧ v.2.2.2 = t3_3 ∧ x.1 = t4_0 ∧ x.2 = t4_1 ∧ (0 : Int) = t6_0 ∧ (0 : Int) = t6_1) ∧ (mulI v x k hi lo dep)) → (bsp (decide ((0 : Int) < dep)) ((t8 ≠ 0) ∧ (((0 ≤ (Int.tmod hi t8) ∧ (Int.tmod hi t8) < t8) ∧ (0 ≤ lo ∧ lo ≤ 18446744073709551615) ∧ t8 ≤ 18446744073709551615) ∧ (bsp (decide ((reW (Int.tmod hi t8) lo t8) ≠ (0 : Int))) ((k = t2 ∧ v.1 = t3_0 ∧ v.2.1 = t3_1 ∧ v.2.2.1 = t3_2 ∧ v.2.2.2 = t3_3 ∧ x.1 = t4_0 ∧ x.2 = t4_1 ∧ (0 : Int) = t6_0 ∧ (0 : Int) = t6_1) ∧ (mulJ v x k hi lo dep)) ((t8 ≠ 0) ∧ ((inK .u64 (Int.tdiv hi t8)) ∧ ((inK .i64 (dep - 1)) ∧ (((k = t2 ∧ (bsD v : Int) = t8 ∧ v.1 = t3_0 ∧ v.2.1 = t3_1 ∧ v.2.2.1 = t3_2 ∧ v.2.2.2 = t3_3 ∧ x.1 = t4_0 ∧ x.2 = t4_1 ∧ (0 : Int) = t6_0 ∧ (0 : Int) = t6_1) ∧ (mulI v x k (Int.tdiv hi t8) (quW (Int.tmod hi t8) lo t8) (dep - 1))) ∧ ((Int.toNat (dep - 1) : Nat) < Int.toNat dep)))))))) ((k = t2 ∧ v.1 = t3_0 ∧ v.2.1 = t3_1 ∧ v.2.2.1 = t3_2 ∧ v.2.2.2 = t3_3 ∧ x.1 = t4_0 ∧ x.2 = t4_1 ∧ (0 : Int) = t6_0 ∧ (0 : Int) = t6_1) ∧ (mulJ v x k hi lo dep))))) ∧ (∀ t2x1 : Int, ∀ hi_1 : Int, ∀ lo_1 : Int, ∀ dep_1 : Int, ∀ t3_0x1 : Int, ∀ t3_1x1 : Int, ∀ t3_2x1 : Int, ∀ t3_3x1 : Int, ∀ t4_0x1 : Int, ∀ t4_1x1 : Int, ∀ t6_0x1 : Int, ∀ t6_1x1 : Int, ((k = t2x1 ∧ v.1 = t3_0x1 ∧ v.2.1 = t3_1x1 ∧ v.2.2.1 = t3_2x1 ∧ v.2.2.2 = t3_3x1 ∧ x.1 = t4_0x1 ∧ x.2 = t4_1x1 ∧ (0 : Int) = t6_0x1 ∧ (0 : Int) = t6_1x1) ∧ (mulJ v x k hi_1 lo_1 dep_1)) → (bsp (decide ((0 : Int) < hi_1)) (@Eq (HO c_impl_scaleExact.outs) ((0, 0), false, ()) (c_impl_scaleExact.out (v, x, k, ()))) (bsp (decide ((1000000000000000000 : Int) < lo_1)) (@Eq (HO c_impl_scaleExact.outs) ((0, 0), false, ()) (c_impl_scaleExact.out (v, x, k, ()))) ((inK .i64 lo_1) ∧ (bsp ((decide (t4_0x1 < (0 : Int))) != (decide (t2x1 < (0 : Int)))) ((inK .i64 (0 - lo_1)) ∧ ((varD (t3_0x1, t3_1x1, t3_2x1, t3_3x1) = true ∧ (-9223372036854775807 ≤ (0 - lo_1) ∧ (0 - lo_1) ≤ 9223372036854775807) ∧ 0 ≤ dep_1 ∧ dep_1 ≤ 1000) ∧ (@Eq (HO c_impl_scaleExact.outs) ((mkD (t3_0x1, t3_1x1, t3_2x1, t3_3x1) (0 - lo_1) (Int.toNat dep_1)).1, (mkD (t3_0x1, t3_1x1, t3_2x1, t3_3x1) (0 - lo_1) (Int.toNat dep_1)).2, ()) (c_impl_scaleExact.out (v, x, k, ()))))) ((varD (t3_0x1, t3_1x1, t3_2x1, t3_3x1) = true ∧ (-9223372036854775807 ≤ lo_1 ∧ lo_1 ≤ 9223372036854775807) ∧ 0 ≤ dep_1 ∧ dep_1 ≤ 1000) ∧ (@Eq (HO c_impl_scaleExact.outs) ((mkD (t3_0x1, t3_1x1, t3_2x1, t3_3x1) lo_1 (Int.toNat dep_1)).1, (mkD (t3_0x1, t3_1x1, t3_2x1, t3_3x1) lo_1 (Int.toNat dep_1)).2, ()) (c_impl_scaleExact.out (v, x, k, ()))))))))))))))))))) (by kernel_rfl) ?_
  rintro v x k ⟨⟨hv, hex⟩, k0, k1⟩ hl
  obtain ⟨-, b1, b2, s1, s2⟩ := bsD_facts hv
  obtain ⟨⟨⟨x1, x1'⟩, x2, x2'⟩, xb, -, -⟩ := exD_in hv hex
  have out : ∀ r : DExact × Bool, mkD v (x.1 * k) x.2.toNat = r → @Eq (HO c_impl_scaleExact.outs) (r.1, r.2, ()) (c_impl_scaleExact.out (v, x, k, ())) := fun r h => by subst h; rfl
  have hn21 : x.1.natAbs * k.natAbs ≤ 1000000000000000000 * 1000 := Nat.mul_le_mul (by omega) (by omega)
  have hab : (x.1 * k).natAbs = x.1.natAbs * k.natAbs := Int.natAbs_mul x.1 k
  simp only [hiW, loW, Int.toNat_natCast]
  have d0 := Nat.div_add_mod (x.1.natAbs * k.natAbs) two64
  have d1 := Nat.mod_lt (x.1.natAbs * k.natAbs) (show 0 < two64 by rw [two64_eq]; decide)
  have d2 : x.1.natAbs * k.natAbs / two64 ≤ 100 := by rw [two64_eq]; omega
  have hW := two64_eq
  rw [Nat.mul_comm] at d0
  refine ⟨hv, by simp only [inK]; omega, ⟨by omega, by omega⟩, by simp only [inK]; omega, ⟨by omega, by omega⟩, by simp only [inK]; omega, ⟨⟨by omega, by omega⟩, by omega, by omega⟩, ⟨⟨(by first | trivial | rfl | (and_intros <;> rfl)), ?_⟩, ?_⟩, ?_⟩
  · have g1 : 0 ≤ ((x.1.natAbs * k.natAbs % two64 : Nat) : Int) ∧ ((x.1.natAbs * k.natAbs % two64 : Nat) : Int) ≤ 18446744073709551615 := by rw [hW] at d1 ⊢; omega
    refine ⟨?_, ⟨Int.natCast_nonneg _, Int.ofNat_le.2 d2⟩, g1, by omega, by omega⟩
    simp only [Int.toNat_natCast]
    rw [hab, d0]
  · rintro t2 t8 hi lo dep t3_0 t3_1 t3_2 t3_3 t4_0 t4_1 t6_0 t6_1 ⟨⟨rfl, rfl, rfl, rfl, rfl, rfl, rfl, rfl, rfl, rfl⟩, ⟨hI, ⟨h0, h1⟩, ⟨l0, l1⟩, dp0, dp1⟩⟩
    obtain ⟨H, rfl⟩ : ∃ n : Nat, hi = n := ⟨hi.toNat, by omega⟩
    obtain ⟨L, rfl⟩ : ∃ n : Nat, lo = n := ⟨lo.toNat, by omega⟩
    have em : Int.tmod (H : Int) (bsD v : Int) = ((H % bsD v : Nat) : Int) := by rw [Int.tmod_eq_emod_of_nonneg (by omega)]; simp
    have ed : Int.tdiv (H : Int) (bsD v : Int) = ((H / bsD v : Nat) : Int) := by rw [Int.tdiv_eq_ediv_of_nonneg (by omega)]; simp
    rw [em, ed]
    simp only [quW, reW, Int.toNat_natCast] at hI ⊢
    have hmb := Nat.mod_lt H (show 0 < bsD v by omega)
    have hqb := Nat.div_le_self H (bsD v)
    obtain ⟨w1, w2, w3⟩ := words_divW (hi := H) (b := bsD v) (show L < 18446744073709551616 by omega) b1
    refine bspD (fun hd => ⟨by omega, ⟨⟨by omega, by omega⟩, ⟨by omega, by omega⟩, by omega⟩, bspD (fun hr => ⟨(by first | trivial | rfl | (and_intros <;> rfl)), ?_, ⟨by omega, by omega⟩, ⟨by omega, by omega⟩, ⟨by omega, by omega⟩⟩) (fun hr => ?_)⟩) (fun hd => ⟨(by first | trivial | rfl | (and_intros <;> rfl)), ?_, ⟨by omega, by omega⟩, ⟨by omega, by omega⟩, by omega, by omega⟩)
    · obtain ⟨j, hj⟩ : ∃ j, dep.toNat = j + 1 := ⟨dep.toNat - 1, by omega⟩
      simp only [Int.toNat_natCast]
      have hq : ¬ (H * two64 + L) % bsD v = 0 := by
        rw [w2]; intro h; exact hr (by rw [h]; rfl)
      rw [hI, hj, stripN, if_neg hq]
    · obtain ⟨j, hj⟩ : ∃ j, dep.toNat = j + 1 := ⟨dep.toNat - 1, by omega⟩
      have hq : (H * two64 + L) % bsD v = 0 := by
        rw [w2]; exact Int.ofNat_eq_zero.1 (Decidable.not_not.1 hr)
      rw [hj, stripN, if_pos hq, w1] at hI
      clear hr w1 w2 hq
      obtain ⟨Q, hQ⟩ : ∃ Q, Q = (H % bsD v * two64 + L) / bsD v := ⟨_, rfl⟩
      obtain ⟨Q1, hQ1⟩ : ∃ Q1, Q1 = H / bsD v := ⟨_, rfl⟩
      rw [← hQ, ← hQ1] at hI ⊢
      rw [← hQ] at w3
      rw [← hQ1] at hqb
      clear hQ hQ1
      refine ⟨by omega, by simp only [inK]; omega, by simp only [inK]; omega, ⟨(by first | trivial | rfl | (and_intros <;> rfl)), ?_, ⟨by omega, by omega⟩, ⟨by omega, by omega⟩, by omega, by omega⟩, by omega⟩
      rw [hI, show (dep - 1).toNat = j by omega]
      simp only [Int.toNat_natCast]
    · simp only [Int.toNat_natCast]
      rw [hI, show dep.toNat = 0 by omega, stripN]
  rintro t2x1 hi_1 lo_1 dep_1 t3_0x1 t3_1x1 t3_2x1 t3_3x1 t4_0x1 t4_1x1 t6_0x1 t6_1x1 ⟨⟨rfl, rfl, rfl, rfl, rfl, rfl, rfl, rfl, rfl⟩, ⟨hJ, ⟨h0, h1⟩, ⟨l0, l1⟩, dp0, dp1⟩⟩
  simp only [Prod.eta]
  have hle := stripN_le (bsD v) x.2.toNat (x.1 * k).natAbs
  rw [hJ] at hle
  dsimp only at hle
  rw [hW] at hle
  refine bspD (fun hh => out ((0, 0), false) (mul_far hJ (by rw [hW]; omega))) (fun hh => ?_)
  have e0 : hi_1.toNat = 0 := by omega
  rw [e0, Nat.zero_mul, Nat.zero_add] at hJ
  refine bspD (fun hg => out ((0, 0), false) (mul_far hJ (by omega))) (fun hg => ⟨by simp only [inK]; omega, bspB (fun hs => ⟨by simp only [inK]; omega, ⟨hv, ⟨by omega, by omega⟩, by omega, by omega⟩, out _ ?_⟩) (fun hs => ⟨⟨hv, ⟨by omega, by omega⟩, by omega, by omega⟩, out _ ?_⟩)⟩)
  · have := sign_mul' hs
    exact (mul_near hJ (by omega) ⟨fun h => by omega, fun _ => by omega⟩).symm
  · have := sign_mul hs
    exact (mul_near hJ (by omega) ⟨fun _ => by omega, fun h => by omega⟩).symm
end Go.Proofs.Ytghfpidpefdndaa
