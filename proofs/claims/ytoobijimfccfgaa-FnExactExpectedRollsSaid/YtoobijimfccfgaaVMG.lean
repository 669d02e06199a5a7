/-
  Contracts: products of exact numbers, the program's.
-/
import Derived.Test.YtoobijimfccfgaaVAdd2
import Derived.Test.YtoobijimfccfgaaMA
import Derived.Test.YtoobijimfccfgaaBridge2
namespace Go.Proofs.Ytoobijimfccfgaa
open Go.RowKit
set_option linter.unusedSimpArgs false
set_option linter.unusedVariables false
/-- the number of words; by choice, so that the kernel never counts with it -/
noncomputable def two64 : Nat := Classical.choose (⟨18446744073709551616, rfl⟩ : ∃ n : Nat, n = 18446744073709551616)
theorem two64_eq : two64 = 18446744073709551616 := Classical.choose_spec (⟨18446744073709551616, rfl⟩ : ∃ n : Nat, n = 18446744073709551616)
theorem words_divW {hi lo b : Nat} (hlo : lo < 18446744073709551616) (hb : 1 ≤ b) :
    (hi * two64 + lo) / b = hi / b * two64 + (hi % b * two64 + lo) / b ∧ (hi * two64 + lo) % b = (hi % b * two64 + lo) % b ∧ (hi % b * two64 + lo) / b < 18446744073709551616 := by
  rw [two64_eq]; exact words_div hlo hb
noncomputable section
def hiW (x y : Int) : Int := ((x.toNat * y.toNat / two64 : Nat) : Int)
def loW (x y : Int) : Int := ((x.toNat * y.toNat % two64 : Nat) : Int)
def quW (h l y : Int) : Int := (((h.toNat * two64 + l.toNat) / y.toNat : Nat) : Int)
def reW (h l y : Int) : Int := (((h.toNat * two64 + l.toNat) % y.toNat : Nat) : Int)
def c_math_bits_Mul64 : Con where
  ins := [(false, .v (.i .u64)), (false, .v (.i .u64))]
  outs := [(false, .v (.i .u64)), (false, .v (.i .u64))]
  sh := false
  pre := fun x => (0 ≤ x.1 ∧ x.1 ≤ 18446744073709551615) ∧ 0 ≤ x.2.1 ∧ x.2.1 ≤ 18446744073709551615
  out := fun x => (hiW x.1 x.2.1, loW x.1 x.2.1, ())
  upd := fun x => x
  eat := false
def c_math_bits_Div64 : Con where
  ins := [(false, .v (.i .u64)), (false, .v (.i .u64)), (false, .v (.i .u64))]
  outs := [(false, .v (.i .u64)), (false, .v (.i .u64))]
  sh := false
  pre := fun x => (0 ≤ x.1 ∧ x.1 < x.2.2.1) ∧ (0 ≤ x.2.1 ∧ x.2.1 ≤ 18446744073709551615) ∧ x.2.2.1 ≤ 18446744073709551615
  out := fun x => (quW x.1 x.2.1 x.2.2.1, reW x.1 x.2.1 x.2.2.1, ())
  upd := fun x => x
  eat := false
theorem k_math_bits_Mul64 [B : Base] : ConOk Try.prog 74 c_math_bits_Mul64 :=
  con22 (o := fun a b => (hiW a b, loW a b)) ⟨_, _, Try.func74, by kernel_rfl, rfl⟩ fun a b w hp => by
    obtain ⟨⟨a0, a1⟩, b0, b1⟩ : (0 ≤ a ∧ a ≤ 18446744073709551615) ∧ 0 ≤ b ∧ b ≤ 18446744073709551615 := hp
    obtain ⟨a, rfl⟩ : ∃ n : Nat, a = n := ⟨a.toNat, by omega⟩
    obtain ⟨b, rfl⟩ : ∃ n : Nat, b = n := ⟨b.toNat, by omega⟩
    simp only [hiW, loW, two64_eq, Int.toNat_natCast]
    exact mul64_any a b (by omega) (by omega) w
theorem k_math_bits_Div64 [B : Base] : ConOk Try.prog 75 c_math_bits_Div64 :=
  con32 (o := fun h l y => (quW h l y, reW h l y)) ⟨_, _, Try.func75, by kernel_rfl, rfl⟩ fun h l y w hp => by
    obtain ⟨⟨h0, h1⟩, ⟨l0, l1⟩, y1⟩ : (0 ≤ h ∧ h < y) ∧ (0 ≤ l ∧ l ≤ 18446744073709551615) ∧ y ≤ 18446744073709551615 := hp
    obtain ⟨h, rfl⟩ : ∃ n : Nat, h = n := ⟨h.toNat, by omega⟩
    obtain ⟨l, rfl⟩ : ∃ n : Nat, l = n := ⟨l.toNat, by omega⟩
    obtain ⟨y, rfl⟩ : ∃ n : Nat, y = n := ⟨y.toNat, by omega⟩
    simp only [quW, reW, two64_eq, Int.toNat_natCast]
    exact div64_all h l y (by omega) (by omega) (by omega) w
end
/-- what is left to be divided -/
structure mulI (v : DVar) (x : DExact) (k hi lo dep : Int) : Prop where
  st : stripN (bsD v) x.2.toNat (x.1 * k).natAbs = stripN (bsD v) dep.toNat (hi.toNat * two64 + lo.toNat)
  hi : 0 ≤ hi ∧ hi ≤ 100
  lo : 0 ≤ lo ∧ lo ≤ 18446744073709551615
  dep : 0 ≤ dep ∧ dep ≤ x.2
structure mulJ (v : DVar) (x : DExact) (k hi lo dep : Int) : Prop where
  st : stripN (bsD v) x.2.toNat (x.1 * k).natAbs = (hi.toNat * two64 + lo.toNat, dep.toNat)
  hi : 0 ≤ hi ∧ hi ≤ 100
  lo : 0 ≤ lo ∧ lo ≤ 18446744073709551615
  dep : 0 ≤ dep ∧ dep ≤ x.2
theorem mul_far {v : DVar} {x : DExact} {k : Int} {n e : Nat} (h : stripN (bsD v) x.2.toNat (x.1 * k).natAbs = (n, e)) (hn : 1000000000000000000 < n) : mkD v (x.1 * k) x.2.toNat = ((0, 0), false) := by
  have h1 := (strip_abs_eq (bsD v) x.2.toNat (x.1 * k)).1
  rw [h] at h1
  dsimp only at h1
  unfold mkD
  rw [if_neg]
  have : inB (strip (bsD v) x.2.toNat (x.1 * k)).1 (-1000000000000000000) 1000000000000000000 = false := by
    generalize (strip (bsD v) x.2.toNat (x.1 * k)).1 = Z at *
    simp [inB]; omega
  simp [exD, this]
theorem mul_near {v : DVar} {x : DExact} {k : Int} {n e : Nat} (h : stripN (bsD v) x.2.toNat (x.1 * k).natAbs = (n, e)) {z : Int} (hz : z.natAbs = n) (hs : (0 ≤ x.1 * k → 0 ≤ z) ∧ (x.1 * k ≤ 0 → z ≤ 0)) : mkD v z e = mkD v (x.1 * k) x.2.toNat := by
  obtain ⟨h1, h2⟩ := strip_abs_eq (bsD v) x.2.toNat (x.1 * k)
  obtain ⟨g1, g2⟩ := strip_sign (bsD v) x.2.toNat (x.1 * k)
  have h3 := strip_twice (bsD v) x.2.toNat (x.1 * k)
  rw [h] at h1 h2
  dsimp only at h1 h2
  have e1 : (strip (bsD v) x.2.toNat (x.1 * k)).1 = z := by
    generalize (strip (bsD v) x.2.toNat (x.1 * k)).1 = Z at *
    omega
  rw [e1, h2] at h3
  unfold mkD
  rw [h3]
theorem sign_mul {a k : Int} (h : (decide (a < 0) != decide (k < 0)) = false) : 0 ≤ a * k := by
  by_cases h1 : a < 0
  · have h2 : k < 0 := by simpa [h1] using h
    rw [← Int.neg_mul_neg]; exact Int.mul_nonneg (by omega) (by omega)
  · have h2 : ¬ k < 0 := by simpa [h1] using h
    exact Int.mul_nonneg (by omega) (by omega)
theorem sign_mul' {a k : Int} (h : (decide (a < 0) != decide (k < 0)) = true) : a * k ≤ 0 := by
  by_cases h1 : a < 0
  · have h2 : ¬ k < 0 := by simpa [h1] using h
    have : 0 ≤ -a * k := Int.mul_nonneg (by omega) (by omega)
    rw [Int.neg_mul] at this; omega
  · have h2 : k < 0 := by simpa [h1] using h
    have : 0 ≤ a * -k := Int.mul_nonneg (by omega) (by omega)
    rw [Int.mul_neg] at this; omega
def c_impl_scaleExact : Con where
  ins := [(true, .v tVar), (true, .v tRoll), (false, .v tI)]
  outs := [(true, .v tRoll), (false, .v .b)]
  sh := false
  pre := fun x => (varD x.1 = true ∧ exD x.1 x.2.1 = true) ∧ -1000 ≤ x.2.2.1 ∧ x.2.2.1 ≤ 1000
  out := fun x => ((mkD x.1 (x.2.1.1 * x.2.2.1) (Int.toNat x.2.1.2)).1, (mkD x.1 (x.2.1.1 * x.2.2.1) (Int.toNat x.2.1.2)).2, ())
  upd := fun x => x
  eat := false
theorem k_impl_scaleExact [B : Base] : ConOk Try.prog 60 c_impl_scaleExact := by
  refine fn_okW (C := cx Try.prog 73 c_impl_scaleExact) (cs := [(64, c_impl_baseOf), (63, c_impl_absolute), (74, c_math_bits_Mul64), (75, c_math_bits_Div64), (62, c_impl_makeExact)]) (res := Try.f60.results.toList) (fun x => ⟨[{ sh := ⟨[(2, .one (.i .i64)), (3, .one (.ref 0)), (4, .one (.ref 1)), (6, .one (.ref 2)), (8, .one (.i .u64)), (9, .one (.i .u64)), (10, .one (.i .u64)), (11, .one (.i .i64))], [(0, .box [.i .i64, .i .i64, .i .i64, .i .i64]), (1, .box [.i .i64, .i .i64]), (2, .box [.i .i64, .i .i64])]⟩, nx := 3, I := fun _ dat_ => (x.2.2.1 = dat_.1.1 ∧ (bsD x.1 : Int) = dat_.1.2.2.2.2.1 ∧ x.1.1 = dat_.2.1.1 ∧ x.1.2.1 = dat_.2.1.2.1 ∧ x.1.2.2.1 = dat_.2.1.2.2.1 ∧ x.1.2.2.2 = dat_.2.1.2.2.2.1 ∧ x.2.1.1 = dat_.2.2.1.1 ∧ x.2.1.2 = dat_.2.2.1.2.1 ∧ (0 : Int) = dat_.2.2.2.1.1 ∧ (0 : Int) = dat_.2.2.2.1.2.1) ∧ (mulI x.1 x.2.1 x.2.2.1 dat_.1.2.2.2.2.2.1 dat_.1.2.2.2.2.2.2.1 dat_.1.2.2.2.2.2.2.2.1), mu := fun dat_ => Int.toNat dat_.1.2.2.2.2.2.2.2.1 }], [], [(10, { sh := ⟨[(2, .one (.i .i64)), (3, .one (.ref 0)), (4, .one (.ref 1)), (6, .one (.ref 2)), (9, .one (.i .u64)), (10, .one (.i .u64)), (11, .one (.i .i64))], [(0, .box [.i .i64, .i .i64, .i .i64, .i .i64]), (1, .box [.i .i64, .i .i64]), (2, .box [.i .i64, .i .i64])]⟩, nx := 3, I := fun _ dat_ => (x.2.2.1 = dat_.1.1 ∧ x.1.1 = dat_.2.1.1 ∧ x.1.2.1 = dat_.2.1.2.1 ∧ x.1.2.2.1 = dat_.2.1.2.2.1 ∧ x.1.2.2.2 = dat_.2.1.2.2.2.1 ∧ x.2.1.1 = dat_.2.2.1.1 ∧ x.2.1.2 = dat_.2.2.1.2.1 ∧ (0 : Int) = dat_.2.2.2.1.1 ∧ (0 : Int) = dat_.2.2.2.1.2.1) ∧ (mulJ x.1 x.2.1 x.2.2.1 dat_.1.2.2.2.2.1 dat_.1.2.2.2.2.2.1 dat_.1.2.2.2.2.2.2.1), mu := fun dat_ => 0 })]⟩) Try.func60 (by kernel_rfl) rfl rfl rfl tysOk.look eqTsOk.look (AllCs.ok (l := [(64, c_impl_baseOf), (63, c_impl_absolute), (74, c_math_bits_Mul64), (75, c_math_bits_Div64), (62, c_impl_makeExact)]) ⟨k_impl_baseOf, k_impl_absolute, k_math_bits_Mul64, k_math_bits_Div64, k_impl_makeExact, trivial⟩) mixed rfl rfl rfl rfl ?_
  refine of_nf (P := ∀ v : Int × Int × Int × Int, ∀ x : Int × Int, ∀ k : Int, ((varD v = true ∧ exD v x = true) ∧ -1000 ≤ k ∧ k ≤ 1000) → ((lensI c_impl_scaleExact.ins (v, x, k, ())) → ((varD v = true) ∧ ((inK .u64 (bsD v : Int)) ∧ ((-9223372036854775807 ≤ x.1 ∧ x.1 ≤ 9223372036854775807) ∧ ((inK .u64 (Int.natAbs x.1 : Int)) ∧ ((-9223372036854775807 ≤ k ∧ k ≤ 9223372036854775807) ∧ ((inK .u64 (Int.natAbs k : Int)) ∧ (((0 ≤ (Int.natAbs x.1 : Int) ∧ (Int.natAbs x.1 : Int) ≤ 18446744073709551615) ∧ 0 ≤ (Int.natAbs k : Int) ∧ (Int.natAbs k : Int) ≤ 18446744073709551615) ∧ ((((k = k ∧ (bsD v : Int) = (bsD v : Int) ∧ v.1 = v.1 ∧ v.2.1 = v.2.1 ∧ v.2.2.1 = v.2.2.1 ∧ v.2.2.2 = v.2.2.2 ∧ x.1 = x.1 ∧ x.2 = x.2 ∧ (0 : Int) = 0 ∧ (0 : Int) = 0) ∧ (mulI v x k (hiW (Int.natAbs x.1 : Int) (Int.natAbs k : Int)) (loW (Int.natAbs x.1 : Int) (Int.natAbs k : Int)) x.2)) ∧ (∀ t2 : Int, ∀ t8 : Int, ∀ hi : Int, ∀ lo : Int, ∀ dep : Int, ∀ t3_0 : Int, ∀ t3_1 : Int, ∀ t3_2 : Int, ∀ t3_3 : Int, ∀ t4_0 : Int, ∀ t4_1 : Int, ∀ t6_0 : Int, ∀ t6_1 : Int, ((k = t2 ∧ (bsD v : Int) = t8 ∧ v.1 = t3_0 ∧ v.2.1 = t3_1 ∧ v.2.2.1 = t3_2 ∧ v.2.2.2 = t3_3 ∧ x.1 = t4_0 ∧ x.2 = t4_1 ∧ (0 : Int) = t6_0 ∧ (0 : Int) = t6_1) ∧ (mulI v x k hi lo dep)) → (bsp (decide ((0 : Int) < dep)) ((t8 ≠ 0) ∧ (((0 ≤ (Int.tmod hi t8) ∧ (Int.tmod hi t8) < t8) ∧ (0 ≤ lo ∧ lo ≤ 18446744073709551615) ∧ t8 ≤ 18446744073709551615) ∧ (bsp (decide ((reW (Int.tmod hi t8) lo t8) ≠ (0 : Int))) ((k = t2 ∧ v.1 = t3_0 ∧ v.2.1 = t3_1 ∧ v.2.2.1 = t3_2 ∧ v.2.2.2 = t3_3 ∧ x.1 = t4_0 ∧ x.2 = t4_1 ∧ (0 : Int) = t6_0 ∧ (0 : Int) = t6_1) ∧ (mulJ v x k hi lo dep)) ((t8 ≠ 0) ∧ ((inK .u64 (Int.tdiv hi t8)) ∧ ((inK .i64 (dep - 1)) ∧ (((k = t2 ∧ (bsD v : Int) = t8 ∧ v.1 = t3_0 ∧ v.2.1 = t3_1 ∧ v.2.2.1 = t3_2 ∧ v.2.2.2 = t3_3 ∧ x.1 = t4_0 ∧ x.2 = t4_1 ∧ (0 : Int) = t6_0 ∧ (0 : Int) = t6_1) ∧ (mulI v x k (Int.tdiv hi t8) (quW (Int.tmod hi t8) lo t8) (dep - 1))) ∧ ((Int.toNat (dep - 1) : Nat) < Int.toNat dep)))))))) ((k = t2 ∧ v.1 = t3_0 ∧ v.2.1 = t3_1 ∧ v.2.2.1 = t3_2 ∧ v.2.2.2 = t3_3 ∧ x.1 = t4_0 ∧ x.2 = t4_1 ∧ (0 : Int) = t6_0 ∧ (0 : Int) = t6_1) ∧ (mulJ v x k hi lo dep))))) ∧ (∀ t2x1 : Int, ∀ hi_1 : Int, ∀ lo_1 : Int, ∀ dep_1 : Int, ∀ t3_0x1 : Int, ∀ t3_1x1 : Int, ∀ t3_2x1 : Int, ∀ t3_3x1 : Int, ∀ t4_0x1 : Int, ∀ t4_1x1 : Int, ∀ t6_0x1 : Int, ∀ t6_1x1 : Int, ((k = t2x1 ∧ v.1 = t3_0x1 ∧ v.2.1 = t3_1x1 ∧ v.2.2.1 = t3_2x1 ∧ v.2.2.2 = t3_3x1 ∧ x.1 = t4_0x1 ∧ x.2 = t4_1x1 ∧ (0 : Int) = t6_0x1 ∧ (0 : Int) = t6_1x1) ∧ (mulJ v x k hi_1 lo_1 dep_1)) → (bsp (decide ((0 : Int) < hi_1)) (@Eq (HO c_impl_scaleExact.outs) ((0, 0), false, ()) (c_impl_scaleExact.out (v, x, k, ()))) (bsp (decide ((1000000000000000000 : Int) < lo_1)) (@Eq (HO c_impl_scaleExact.outs) ((0, 0), false, ()) (c_impl_scaleExact.out (v, x, k, ()))) ((inK .i64 lo_1) ∧ (bsp ((decide (t4_0x1 < (0 : Int))) != (decide (t2x1 < (0 : Int)))) ((inK .i64 (0 - lo_1)) ∧ ((varD (t3_0x1, t3_1x1, t3_2x1, t3_3x1) = true ∧ (-9223372036854775807 ≤ (0 - lo_1) ∧ (0 - lo_1) ≤ 9223372036854775807) ∧ 0 ≤ dep_1 ∧ dep_1 ≤ 1000) ∧ (@Eq (HO c_impl_scaleExact.outs) ((mkD (t3_0x1, t3_1x1, t3_2x1, t3_3x1) (0 - lo_1) (Int.toNat dep_1)).1, (mkD (t3_0x1, t3_1x1, t3_2x1, t3_3x1) (0 - lo_1) (Int.toNat dep_1)).2, ()) (c_impl_scaleExact.out (v, x, k, ()))))) ((varD (t3_0x1, t3_1x1, t3_2x1, t3_3x1) = true ∧ (-9223372036854775807 ≤ lo_1 ∧ lo_1 ≤ 9223372036854775807) ∧ 0 ≤ dep_1 ∧ dep_1 ≤ 1000) ∧ (@Eq (HO c_impl_scaleExact.outs) ((mkD (t3_0x1, t3_1x1, t3_2x1, t3_3x1) lo_1 (Int.toNat dep_1)).1, (mkD (t3_0x1, t3_1x1, t3_2x1, t3_3x1) lo_1 (Int.toNat dep_1)).2, ()) (c_impl_scaleExact.out (v, x, k, ()))))))))))))))))))) (by kernel_rfl) ?_
  rintro v x k ⟨⟨hv, hex⟩, k0, k1⟩ hl
  obtain ⟨-, b1, b2, s1, s2⟩ := bsD_facts hv
  obtain ⟨⟨⟨x1, x1'⟩, x2, x2'⟩, xb, -, -⟩ := exD_in hv hex
  have out : ∀ r : DExact × Bool, mkD v (x.1 * k) x.2.toNat = r → @Eq (HO c_impl_scaleExact.outs) (r.1, r.2, ()) (c_impl_scaleExact.out (v, x, k, ())) := fun r h => by subst h; rfl
  have hn21 : x.1.natAbs * k.natAbs ≤ 1000000000000000000 * 1000 := Nat.mul_le_mul (by omega) (by omega)
  have hab : (x.1 * k).natAbs = x.1.natAbs * k.natAbs := Int.natAbs_mul x.1 k
  simp only [hiW, loW, Int.toNat_natCast]
  have d0 := Nat.div_add_mod (x.1.natAbs * k.natAbs) two64
  have d1 := Nat.mod_lt (x.1.natAbs * k.natAbs) (show 0 < two64 by rw [two64_eq]; decide)
  have d2 : x.1.natAbs * k.natAbs / two64 ≤ 100 := by rw [two64_eq]; omega
  have hW := two64_eq
  rw [Nat.mul_comm] at d0
  refine ⟨hv, by simp only [inK]; omega, ⟨by omega, by omega⟩, by simp only [inK]; omega, ⟨by omega, by omega⟩, by simp only [inK]; omega, ⟨⟨by omega, by omega⟩, by omega, by omega⟩, ⟨⟨(by first | trivial | rfl | (and_intros <;> rfl)), ?_⟩, ?_⟩, ?_⟩
  · have g1 : 0 ≤ ((x.1.natAbs * k.natAbs % two64 : Nat) : Int) ∧ ((x.1.natAbs * k.natAbs % two64 : Nat) : Int) ≤ 18446744073709551615 := by rw [hW] at d1 ⊢; omega
    refine ⟨?_, ⟨Int.natCast_nonneg _, Int.ofNat_le.2 d2⟩, g1, by omega, by omega⟩
    simp only [Int.toNat_natCast]
    rw [hab, d0]
  · rintro t2 t8 hi lo dep t3_0 t3_1 t3_2 t3_3 t4_0 t4_1 t6_0 t6_1 ⟨⟨rfl, rfl, rfl, rfl, rfl, rfl, rfl, rfl, rfl, rfl⟩, ⟨hI, ⟨h0, h1⟩, ⟨l0, l1⟩, dp0, dp1⟩⟩
    obtain ⟨H, rfl⟩ : ∃ n : Nat, hi = n := ⟨hi.toNat, by omega⟩
    obtain ⟨L, rfl⟩ : ∃ n : Nat, lo = n := ⟨lo.toNat, by omega⟩
    have em : Int.tmod (H : Int) (bsD v : Int) = ((H % bsD v : Nat) : Int) := by rw [Int.tmod_eq_emod_of_nonneg (by omega)]; simp
    have ed : Int.tdiv (H : Int) (bsD v : Int) = ((H / bsD v : Nat) : Int) := by rw [Int.tdiv_eq_ediv_of_nonneg (by omega)]; simp
    rw [em, ed]
    simp only [quW, reW, Int.toNat_natCast] at hI ⊢
    have hmb := Nat.mod_lt H (show 0 < bsD v by omega)
    have hqb := Nat.div_le_self H (bsD v)
    obtain ⟨w1, w2, w3⟩ := words_divW (hi := H) (b := bsD v) (show L < 18446744073709551616 by omega) b1
    refine bspD (fun hd => ⟨by omega, ⟨⟨by omega, by omega⟩, ⟨by omega, by omega⟩, by omega⟩, bspD (fun hr => ⟨(by first | trivial | rfl | (and_intros <;> rfl)), ?_, ⟨by omega, by omega⟩, ⟨by omega, by omega⟩, ⟨by omega, by omega⟩⟩) (fun hr => ?_)⟩) (fun hd => ⟨(by first | trivial | rfl | (and_intros <;> rfl)), ?_, ⟨by omega, by omega⟩, ⟨by omega, by omega⟩, by omega, by omega⟩)
    · obtain ⟨j, hj⟩ : ∃ j, dep.toNat = j + 1 := ⟨dep.toNat - 1, by omega⟩
      simp only [Int.toNat_natCast]
      have hq : ¬ (H * two64 + L) % bsD v = 0 := by
        rw [w2]; intro h; exact hr (by rw [h]; rfl)
      rw [hI, hj, stripN, if_neg hq]
    · obtain ⟨j, hj⟩ : ∃ j, dep.toNat = j + 1 := ⟨dep.toNat - 1, by omega⟩
      have hq : (H * two64 + L) % bsD v = 0 := by
        rw [w2]; exact Int.ofNat_eq_zero.1 (Decidable.not_not.1 hr)
      rw [hj, stripN, if_pos hq, w1] at hI
      clear hr w1 w2 hq
      obtain ⟨Q, hQ⟩ : ∃ Q, Q = (H % bsD v * two64 + L) / bsD v := ⟨_, rfl⟩
      obtain ⟨Q1, hQ1⟩ : ∃ Q1, Q1 = H / bsD v := ⟨_, rfl⟩
      rw [← hQ, ← hQ1] at hI ⊢
      rw [← hQ] at w3
      rw [← hQ1] at hqb
      clear hQ hQ1
      refine ⟨by omega, by simp only [inK]; omega, by simp only [inK]; omega, ⟨(by first | trivial | rfl | (and_intros <;> rfl)), ?_, ⟨by omega, by omega⟩, ⟨by omega, by omega⟩, by omega, by omega⟩, by omega⟩
      rw [hI, show (dep - 1).toNat = j by omega]
      simp only [Int.toNat_natCast]
    · simp only [Int.toNat_natCast]
      rw [hI, show dep.toNat = 0 by omega, stripN]
  rintro t2x1 hi_1 lo_1 dep_1 t3_0x1 t3_1x1 t3_2x1 t3_3x1 t4_0x1 t4_1x1 t6_0x1 t6_1x1 ⟨⟨rfl, rfl, rfl, rfl, rfl, rfl, rfl, rfl, rfl⟩, ⟨hJ, ⟨h0, h1⟩, ⟨l0, l1⟩, dp0, dp1⟩⟩
  simp only [Prod.eta]
  have hle := stripN_le (bsD v) x.2.toNat (x.1 * k).natAbs
  rw [hJ] at hle
  dsimp only at hle
  rw [hW] at hle
  refine bspD (fun hh => out ((0, 0), false) (mul_far hJ (by rw [hW]; omega))) (fun hh => ?_)
  have e0 : hi_1.toNat = 0 := by omega
  rw [e0, Nat.zero_mul, Nat.zero_add] at hJ
  refine bspD (fun hg => out ((0, 0), false) (mul_far hJ (by omega))) (fun hg => ⟨by simp only [inK]; omega, bspB (fun hs => ⟨by simp only [inK]; omega, ⟨hv, ⟨by omega, by omega⟩, by omega, by omega⟩, out _ ?_⟩) (fun hs => ⟨⟨hv, ⟨by omega, by omega⟩, by omega, by omega⟩, out _ ?_⟩)⟩)
  · have := sign_mul' hs
    exact (mul_near hJ (by omega) ⟨fun h => by omega, fun _ => by omega⟩).symm
  · have := sign_mul hs
    exact (mul_near hJ (by omega) ⟨fun _ => by omega, fun h => by omega⟩).symm
end Go.Proofs.Ytoobijimfccfgaa

/-
  Contracts: products of exact numbers, the reference's.
-/
namespace Go.Proofs.Ytoobijimfccfgaa
open Go.RowKit
set_option linter.unusedSimpArgs false
set_option linter.unusedVariables false
theorem mkD_far {v : DVar} {n : Int} {d : Nat} (h : 1000000000000000000 < (strip (bsD v) d n).1.natAbs) : mkD v n d = ((0, 0), false) := by
  unfold mkD
  rw [if_neg]
  have : inB (strip (bsD v) d n).1 (-1000000000000000000) 1000000000000000000 = false := by
    generalize (strip (bsD v) d n).1 = Z at *
    simp [inB]; omega
  simp [exD, this]
def c_spec_l09Mul : Con where
  ins := [(true, .v tVar), (true, .v tRoll), (false, .v tI)]
  outs := [(true, .v tRoll), (false, .v .b)]
  sh := false
  pre := fun x => (varD x.1 = true ∧ exD x.1 x.2.1 = true) ∧ -1000 ≤ x.2.2.1 ∧ x.2.2.1 ≤ 1000
  out := fun x => ((mkD x.1 (x.2.1.1 * x.2.2.1) (Int.toNat x.2.1.2)).1, (mkD x.1 (x.2.1.1 * x.2.2.1) (Int.toNat x.2.1.2)).2, ())
  upd := fun x => x
  eat := false
theorem k_spec_l09Mul [B : Base] : ConOk Try.prog 37 c_spec_l09Mul := by
  refine fn_okW (C := cx Try.prog 65 c_spec_l09Mul) (cs := [(40, c_spec_l09Scale), (54, c_spec_l09Gcd), (55, c_spec_l09Times), (41, c_spec_l09Fit)]) (res := Try.f37.results.toList) (fun _ => ⟨[], [(3, ⟨[[], [0], [], [2], [], [], [4, 5], [2, 3, 4, 5, 6], [0, 1, 2, 3, 4, 5, 6, 7], [], [], [9, 10], [0, 1, 2, 3, 4, 5, 6, 7, 8, 9, 10, 11], [0, 1, 2, 3, 4, 5, 6, 7, 8, 9, 10, 11, 12], [0, 1, 2, 3, 4, 5, 6, 7, 8, 9, 10, 11, 12, 13], [0, 1, 2, 3, 4, 5, 6, 7, 8, 9, 10, 11, 12, 13], [0, 1, 2, 3, 4, 5, 6, 7, 8, 9, 10, 11, 12, 13, 14], [0, 1, 2, 3, 4, 5, 6, 7, 8, 9, 10, 11, 12, 13, 14, 15, 16]], [[2, 3, 4, 5, 6, 7, 9, 10, 11], [2, 3, 4, 5, 6, 7, 9, 10, 11], [0, 1, 4, 5, 6, 9, 10, 11], [0, 1, 4, 5, 6, 9, 10, 11], [0, 1, 2, 3, 5, 9, 10, 11], [0, 1, 2, 3, 4, 9, 10, 11], [0, 1, 2, 3, 9, 10, 11], [0, 1, 9, 10, 11], [9, 10, 11], [0, 1, 2, 3, 4, 5, 6, 7, 8, 10], [0, 1, 2, 3, 4, 5, 6, 7, 8, 9], [0, 1, 2, 3, 4, 5, 6, 7, 8], [], [], [15], [14, 16], [15], []], []⟩), (6, ⟨[[], [], [], [], [2, 3], [], [5], [], [], [7, 8], [5, 6, 7, 8, 9], [2, 3, 4, 5, 6, 7, 8, 9, 10], [0, 1, 2, 3, 4, 5, 6, 7, 8, 9, 10, 11], [0, 1, 2, 3, 4, 5, 6, 7, 8, 9, 10, 11, 12], [0, 1, 2, 3, 4, 5, 6, 7, 8, 9, 10, 11, 12, 13], [0, 1, 2, 3, 4, 5, 6, 7, 8, 9, 10, 11, 12, 13], [], [0, 1, 2, 3, 4, 5, 6, 7, 8, 9, 10, 11, 12, 13, 14, 16], [0, 1, 2, 3, 4, 5, 6, 7, 8, 9, 10, 11, 12, 13, 14, 15, 16, 17]], [[1, 2, 3, 4, 5, 6, 7, 8, 9, 10, 11, 16], [0, 2, 3, 4, 5, 6, 7, 8, 9, 10, 11, 16], [0, 1, 3, 5, 6, 7, 8, 9, 10, 16], [0, 1, 2, 5, 6, 7, 8, 9, 10, 16], [0, 1, 5, 6, 7, 8, 9, 10, 16], [0, 1, 2, 3, 4, 7, 8, 9, 16], [0, 1, 2, 3, 4, 7, 8, 9, 16], [0, 1, 2, 3, 4, 5, 6, 8, 16], [0, 1, 2, 3, 4, 5, 6, 7, 16], [0, 1, 2, 3, 4, 5, 6, 16], [0, 1, 2, 3, 4, 16], [0, 1, 16], [16], [16], [15, 16], [14, 16, 17], [0, 1, 2, 3, 4, 5, 6, 7, 8, 9, 10, 11, 12, 13, 14, 15], [15], []], []⟩)], []⟩) Try.func37 (by kernel_rfl) rfl rfl rfl tysOk.look eqTsOk.look (AllCs.ok (l := [(40, c_spec_l09Scale), (54, c_spec_l09Gcd), (55, c_spec_l09Times), (41, c_spec_l09Fit)]) ⟨k_spec_l09Scale, k_spec_l09Gcd, k_spec_l09Times, k_spec_l09Fit, trivial⟩) mixed rfl rfl rfl rfl ?_
  refine of_nf (P := ∀ v : Int × Int × Int × Int, ∀ x : Int × Int, ∀ k : Int, ((varD v = true ∧ exD v x = true) ∧ -1000 ≤ k ∧ k ≤ 1000) → ((lensI c_spec_l09Mul.ins (v, x, k, ())) → ((varD v = true ∧ x.2 ≤ 9223372036854775807) ∧ (((-9223372036854775807 ≤ k ∧ k ≤ 9223372036854775807) ∧ -9223372036854775807 ≤ (sclV (bsD v) x.2 : Int) ∧ (sclV (bsD v) x.2 : Int) ≤ 9223372036854775807) ∧ (((max (1 : Int) (Nat.gcd (Int.natAbs k) (Int.natAbs (sclV (bsD v) x.2 : Int)) : Int)) ≠ 0) ∧ ((inK .i64 (Int.tdiv (sclV (bsD v) x.2 : Int) (max (1 : Int) (Nat.gcd (Int.natAbs k) (Int.natAbs (sclV (bsD v) x.2 : Int)) : Int)))) ∧ (((-9223372036854775807 ≤ x.1 ∧ x.1 ≤ 9223372036854775807) ∧ -9223372036854775807 ≤ (Int.tdiv (sclV (bsD v) x.2 : Int) (max (1 : Int) (Nat.gcd (Int.natAbs k) (Int.natAbs (sclV (bsD v) x.2 : Int)) : Int))) ∧ (Int.tdiv (sclV (bsD v) x.2 : Int) (max (1 : Int) (Nat.gcd (Int.natAbs k) (Int.natAbs (sclV (bsD v) x.2 : Int)) : Int))) ≤ 9223372036854775807) ∧ (((Nat.gcd (Int.natAbs x.1) (Int.natAbs (Int.tdiv (sclV (bsD v) x.2 : Int) (max (1 : Int) (Nat.gcd (Int.natAbs k) (Int.natAbs (sclV (bsD v) x.2 : Int)) : Int)))) : Int) ≠ 0) ∧ ((inK .i64 (Int.tdiv x.1 (Nat.gcd (Int.natAbs x.1) (Int.natAbs (Int.tdiv (sclV (bsD v) x.2 : Int) (max (1 : Int) (Nat.gcd (Int.natAbs k) (Int.natAbs (sclV (bsD v) x.2 : Int)) : Int)))) : Int))) ∧ (((max (1 : Int) (Nat.gcd (Int.natAbs k) (Int.natAbs (sclV (bsD v) x.2 : Int)) : Int)) ≠ 0) ∧ ((inK .i64 (Int.tdiv k (max (1 : Int) (Nat.gcd (Int.natAbs k) (Int.natAbs (sclV (bsD v) x.2 : Int)) : Int)))) ∧ (((-9223372036854775807 ≤ (Int.tdiv x.1 (Nat.gcd (Int.natAbs x.1) (Int.natAbs (Int.tdiv (sclV (bsD v) x.2 : Int) (max (1 : Int) (Nat.gcd (Int.natAbs k) (Int.natAbs (sclV (bsD v) x.2 : Int)) : Int)))) : Int)) ∧ (Int.tdiv x.1 (Nat.gcd (Int.natAbs x.1) (Int.natAbs (Int.tdiv (sclV (bsD v) x.2 : Int) (max (1 : Int) (Nat.gcd (Int.natAbs k) (Int.natAbs (sclV (bsD v) x.2 : Int)) : Int)))) : Int)) ≤ 9223372036854775807) ∧ -9223372036854775807 ≤ (Int.tdiv k (max (1 : Int) (Nat.gcd (Int.natAbs k) (Int.natAbs (sclV (bsD v) x.2 : Int)) : Int))) ∧ (Int.tdiv k (max (1 : Int) (Nat.gcd (Int.natAbs k) (Int.natAbs (sclV (bsD v) x.2 : Int)) : Int))) ≤ 9223372036854775807) ∧ (bsp (!(timesD (Int.tdiv x.1 (Nat.gcd (Int.natAbs x.1) (Int.natAbs (Int.tdiv (sclV (bsD v) x.2 : Int) (max (1 : Int) (Nat.gcd (Int.natAbs k) (Int.natAbs (sclV (bsD v) x.2 : Int)) : Int)))) : Int)) (Int.tdiv k (max (1 : Int) (Nat.gcd (Int.natAbs k) (Int.natAbs (sclV (bsD v) x.2 : Int)) : Int))))) (@Eq (HO c_spec_l09Mul.outs) ((0, 0), false, ()) (c_spec_l09Mul.out (v, x, k, ()))) (((max (1 : Int) (Nat.gcd (Int.natAbs k) (Int.natAbs (sclV (bsD v) x.2 : Int)) : Int)) ≠ 0) ∧ ((inK .i64 (Int.tdiv (sclV (bsD v) x.2 : Int) (max (1 : Int) (Nat.gcd (Int.natAbs k) (Int.natAbs (sclV (bsD v) x.2 : Int)) : Int)))) ∧ (((max (1 : Int) (Nat.gcd (Int.natAbs k) (Int.natAbs (sclV (bsD v) x.2 : Int)) : Int)) ≠ 0) ∧ ((inK .i64 (Int.tdiv (sclV (bsD v) x.2 : Int) (max (1 : Int) (Nat.gcd (Int.natAbs k) (Int.natAbs (sclV (bsD v) x.2 : Int)) : Int)))) ∧ (((-9223372036854775807 ≤ x.1 ∧ x.1 ≤ 9223372036854775807) ∧ -9223372036854775807 ≤ (Int.tdiv (sclV (bsD v) x.2 : Int) (max (1 : Int) (Nat.gcd (Int.natAbs k) (Int.natAbs (sclV (bsD v) x.2 : Int)) : Int))) ∧ (Int.tdiv (sclV (bsD v) x.2 : Int) (max (1 : Int) (Nat.gcd (Int.natAbs k) (Int.natAbs (sclV (bsD v) x.2 : Int)) : Int))) ≤ 9223372036854775807) ∧ (((Nat.gcd (Int.natAbs x.1) (Int.natAbs (Int.tdiv (sclV (bsD v) x.2 : Int) (max (1 : Int) (Nat.gcd (Int.natAbs k) (Int.natAbs (sclV (bsD v) x.2 : Int)) : Int)))) : Int) ≠ 0) ∧ ((inK .i64 (Int.tdiv (Int.tdiv (sclV (bsD v) x.2 : Int) (max (1 : Int) (Nat.gcd (Int.natAbs k) (Int.natAbs (sclV (bsD v) x.2 : Int)) : Int))) (Nat.gcd (Int.natAbs x.1) (Int.natAbs (Int.tdiv (sclV (bsD v) x.2 : Int) (max (1 : Int) (Nat.gcd (Int.natAbs k) (Int.natAbs (sclV (bsD v) x.2 : Int)) : Int)))) : Int))) ∧ ((varD v = true ∧ FitP v (if timesD (Int.tdiv x.1 (Nat.gcd (Int.natAbs x.1) (Int.natAbs (Int.tdiv (sclV (bsD v) x.2 : Int) (max (1 : Int) (Nat.gcd (Int.natAbs k) (Int.natAbs (sclV (bsD v) x.2 : Int)) : Int)))) : Int)) (Int.tdiv k (max (1 : Int) (Nat.gcd (Int.natAbs k) (Int.natAbs (sclV (bsD v) x.2 : Int)) : Int))) then (Int.tdiv x.1 (Nat.gcd (Int.natAbs x.1) (Int.natAbs (Int.tdiv (sclV (bsD v) x.2 : Int) (max (1 : Int) (Nat.gcd (Int.natAbs k) (Int.natAbs (sclV (bsD v) x.2 : Int)) : Int)))) : Int)) * (Int.tdiv k (max (1 : Int) (Nat.gcd (Int.natAbs k) (Int.natAbs (sclV (bsD v) x.2 : Int)) : Int))) else 0) (Int.tdiv (Int.tdiv (sclV (bsD v) x.2 : Int) (max (1 : Int) (Nat.gcd (Int.natAbs k) (Int.natAbs (sclV (bsD v) x.2 : Int)) : Int))) (Nat.gcd (Int.natAbs x.1) (Int.natAbs (Int.tdiv (sclV (bsD v) x.2 : Int) (max (1 : Int) (Nat.gcd (Int.natAbs k) (Int.natAbs (sclV (bsD v) x.2 : Int)) : Int)))) : Int))) ∧ (bsp (!(fitD v (if timesD (Int.tdiv x.1 (Nat.gcd (Int.natAbs x.1) (Int.natAbs (Int.tdiv (sclV (bsD v) x.2 : Int) (max (1 : Int) (Nat.gcd (Int.natAbs k) (Int.natAbs (sclV (bsD v) x.2 : Int)) : Int)))) : Int)) (Int.tdiv k (max (1 : Int) (Nat.gcd (Int.natAbs k) (Int.natAbs (sclV (bsD v) x.2 : Int)) : Int))) then (Int.tdiv x.1 (Nat.gcd (Int.natAbs x.1) (Int.natAbs (Int.tdiv (sclV (bsD v) x.2 : Int) (max (1 : Int) (Nat.gcd (Int.natAbs k) (Int.natAbs (sclV (bsD v) x.2 : Int)) : Int)))) : Int)) * (Int.tdiv k (max (1 : Int) (Nat.gcd (Int.natAbs k) (Int.natAbs (sclV (bsD v) x.2 : Int)) : Int))) else 0) (Int.toNat (Int.tdiv (Int.tdiv (sclV (bsD v) x.2 : Int) (max (1 : Int) (Nat.gcd (Int.natAbs k) (Int.natAbs (sclV (bsD v) x.2 : Int)) : Int))) (Nat.gcd (Int.natAbs x.1) (Int.natAbs (Int.tdiv (sclV (bsD v) x.2 : Int) (max (1 : Int) (Nat.gcd (Int.natAbs k) (Int.natAbs (sclV (bsD v) x.2 : Int)) : Int)))) : Int)))).2) (@Eq (HO c_spec_l09Mul.outs) ((0, 0), false, ()) (c_spec_l09Mul.out (v, x, k, ()))) (@Eq (HO c_spec_l09Mul.outs) ((fitD v (if timesD (Int.tdiv x.1 (Nat.gcd (Int.natAbs x.1) (Int.natAbs (Int.tdiv (sclV (bsD v) x.2 : Int) (max (1 : Int) (Nat.gcd (Int.natAbs k) (Int.natAbs (sclV (bsD v) x.2 : Int)) : Int)))) : Int)) (Int.tdiv k (max (1 : Int) (Nat.gcd (Int.natAbs k) (Int.natAbs (sclV (bsD v) x.2 : Int)) : Int))) then (Int.tdiv x.1 (Nat.gcd (Int.natAbs x.1) (Int.natAbs (Int.tdiv (sclV (bsD v) x.2 : Int) (max (1 : Int) (Nat.gcd (Int.natAbs k) (Int.natAbs (sclV (bsD v) x.2 : Int)) : Int)))) : Int)) * (Int.tdiv k (max (1 : Int) (Nat.gcd (Int.natAbs k) (Int.natAbs (sclV (bsD v) x.2 : Int)) : Int))) else 0) (Int.toNat (Int.tdiv (Int.tdiv (sclV (bsD v) x.2 : Int) (max (1 : Int) (Nat.gcd (Int.natAbs k) (Int.natAbs (sclV (bsD v) x.2 : Int)) : Int))) (Nat.gcd (Int.natAbs x.1) (Int.natAbs (Int.tdiv (sclV (bsD v) x.2 : Int) (max (1 : Int) (Nat.gcd (Int.natAbs k) (Int.natAbs (sclV (bsD v) x.2 : Int)) : Int)))) : Int)))).1, true, ()) (c_spec_l09Mul.out (v, x, k, ()))))))))))))))))))))))))) (by kernel_rfl) ?_
  rintro v x k ⟨⟨hv, hex⟩, k0, k1⟩ hl
  obtain ⟨-, b1, b2, s1, s2⟩ := bsD_facts hv
  obtain ⟨⟨⟨x1, x1'⟩, x2, x2'⟩, xb, xs, -⟩ := exD_in hv hex
  have out : ∀ r : DExact × Bool, mkD v (x.1 * k) x.2.toNat = r → @Eq (HO c_spec_l09Mul.outs) (r.1, r.2, ()) (c_spec_l09Mul.out (v, x, k, ())) := fun r h => by subst h; rfl
  rw [scl_ok xs]
  simp only [Int.toNat_natCast, Int.natAbs_natCast]
  obtain ⟨S, hS⟩ : ∃ S, S = bsD v ^ x.2.toNat := ⟨_, rfl⟩
  have hS1 : 1 ≤ S := by rw [hS]; exact Nat.pow_pos b1
  rw [← hS] at xb ⊢
  obtain ⟨d, G, S1, B, a1, k1', P⟩ := parts x.1 k hS1
  have heq := P.eq hS
  have p1 := P.d1
  have p2 := P.g1
  have p3 := P.b1
  have dS : d ≤ S := by rw [P.sd]; exact Nat.le_mul_of_pos_right _ (by rw [P.sg]; exact Nat.mul_pos p2 p3)
  have S1S : S1 ≤ S := by rw [P.sd]; exact Nat.le_mul_of_pos_left _ p1
  have GS1 : G ≤ S1 := by rw [P.sg]; exact Nat.le_mul_of_pos_right _ p3
  have BS1 : B ≤ S1 := by rw [P.sg]; exact Nat.le_mul_of_pos_left _ p2
  have E1 : (S : Int).tdiv (d : Int) = (S1 : Int) := by rw [P.sd, Int.natCast_mul]; exact Int.mul_tdiv_cancel_left _ (by omega)
  have E2 : x.1.tdiv (G : Int) = a1 := by
    have := Int.mul_tdiv_cancel_left (a := (G : Int)) a1 (by omega)
    rwa [← P.xe] at this
  have E3 : k.tdiv (d : Int) = k1' := by
    have := Int.mul_tdiv_cancel_left (a := (d : Int)) k1' (by omega)
    rwa [← P.ke] at this
  have E4 : (S1 : Int).tdiv (G : Int) = (B : Int) := by rw [P.sg, Int.natCast_mul]; exact Int.mul_tdiv_cancel_left _ (by omega)
  have E5 : max 1 (d : Int) = (d : Int) := by omega
  have ax : a1.natAbs ≤ x.1.natAbs := by
    have := congrArg Int.natAbs P.xe
    rw [Int.natAbs_mul, Int.natAbs_natCast] at this
    rw [this]; exact Nat.le_mul_of_pos_left _ p2
  have ak : k1'.natAbs ≤ k.natAbs := by
    have := congrArg Int.natAbs P.ke
    rw [Int.natAbs_mul, Int.natAbs_natCast] at this
    rw [this]; exact Nat.le_mul_of_pos_left _ p1
  simp only [P.gd, E5, E1, Int.natAbs_natCast, P.gg, E2, E3, E4, Int.toNat_natCast]
  have hab : (a1 * k1').natAbs = a1.natAbs * k1'.natAbs := Int.natAbs_mul a1 k1'
  refine ⟨⟨hv, by omega⟩, ⟨⟨by omega, by omega⟩, by omega, by omega⟩, by omega, by simp only [inK]; omega, ⟨⟨by omega, by omega⟩, by omega, by omega⟩, by omega, by simp only [inK]; omega, by omega, by simp only [inK]; omega, ⟨⟨by omega, by omega⟩, by omega, by omega⟩, bspB (fun hn => out ((0, 0), false) (mkD_far ?_)) (fun hy => ?_)⟩
  · have h1 := strip_ge b1 p3 P.co heq
    simp only [Bool.not_eq_true', timesD, decide_eq_false_iff_not] at hn
    omega
  · simp only [Bool.not_eq_false'] at hy
    have hb : (a1 * k1').natAbs ≤ 1000000000000000000 := by
      rw [hab]; simpa [timesD] using hy
    simp only [hy, if_true]
    have g1 : Nat.gcd (a1 * k1').natAbs B = 1 := P.co
    have fA : fitA (a1 * k1') B = a1 * k1' := by unfold fitA; rw [g1]; simp
    have fB : fitB (a1 * k1') B = B := by unfold fitB; rw [g1]; simp
    obtain ⟨q1, q2, q3⟩ := fit_core hv fA fB p3 P.co heq (by omega) (by rw [← hS]; exact xb)
    clear heq hab
    generalize a1 * k1' = m at *
    refine ⟨by omega, by simp only [inK]; omega, by omega, by simp only [inK]; omega, ⟨⟨by omega, by omega⟩, by omega, by omega⟩, by omega, by simp only [inK]; omega, ⟨hv, ⟨by omega, by omega⟩, ⟨by omega, by omega⟩, x.2.toNat, by omega, by rw [← hS]; exact xb, by rw [Int.toNat_natCast, fB]; exact q1⟩, bspB (fun hn => out ((0, 0), false) ?_) (fun hz => ?_)⟩
    · simp only [Bool.not_eq_true'] at hn
      exact mkD_no (by rw [← q2]; exact hn)
    · simp only [Bool.not_eq_false'] at hz
      rw [q2] at hz
      rw [q3 hz]
      have := out (mkD v (x.1 * k) x.2.toNat) rfl
      rwa [hz] at this
end Go.Proofs.Ytoobijimfccfgaa

/-
  Contracts: the code of exact numbers.
-/
namespace Go.Proofs.Ytoobijimfccfgaa
open Go.RowKit
set_option linter.unusedSimpArgs false
set_option linter.unusedVariables false
theorem getD_memX {α : Type} {l : List α} {k : Nat} (h : k < l.length) (d : α) : l.getD k d ∈ l := by
  rw [List.getD_eq_getElem?_getD, List.getElem?_eq_getElem h]; exact List.getElem_mem h
def allX (v : DVar) (l : List DExact) : Bool := l.all fun x => exD v x
def codeX (v : DVar) (l : List DExact) : Int := if varD v = false then 1 else if allX v l = false then 2 else 0
def bdX (l : List DExact) : Prop := ∀ (i : Nat), (l.getD i (0, 0)).2 ≤ 9223372036854775807
theorem allX_at {v : DVar} {l : List DExact} (h : allX v l = true) {i : Nat} (hi : i < l.length) : exD v (l.getD i (0, 0)) = true := by
  have := List.all_eq_true.1 h (l.getD i (0, 0)) (getD_memX hi (0, 0))
  exact this
theorem codeX_ok {v : DVar} {l : List DExact} (hv : varD v = true) (h : ∀ j : Nat, j < l.length → exD v (l.getD j (0, 0)) = true) : codeX v l = 0 := by
  have : allX v l = true := by
    unfold allX; rw [List.all_eq_true]; intro x hx
    obtain ⟨j, hj, rfl⟩ := List.getElem_of_mem hx
    have := h j hj
    rwa [List.getD_eq_getElem?_getD, List.getElem?_eq_getElem hj] at this
  simp [codeX, hv, this]
theorem codeX_no {v : DVar} {l : List DExact} (hv : varD v = true) {j : Nat} (hj : j < l.length) (h : exD v (l.getD j (0, 0)) = false) : codeX v l = 2 := by
  have : allX v l = false := by
    cases ha : allX v l
    · rfl
    · rw [allX_at ha hj] at h; cases h
  simp [codeX, hv, this]
theorem codeX_zero {v : DVar} {l : List DExact} (h : codeX v l = 0) : varD v = true ∧ allX v l = true := by
  unfold codeX at h
  split at h
  · omega
  · split at h
    · omega
    · simp_all
end Go.Proofs.Ytoobijimfccfgaa
