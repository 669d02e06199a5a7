/-
  Contracts: sums of exact numbers.
-/
import Derived.Test.YtoobijimfccfgaaVFit
import Derived.Test.YtoobijimfccfgaaMA
namespace Go.Proofs.Ytoobijimfccfgaa
open Go.RowKit
set_option linter.unusedSimpArgs false
set_option linter.unusedVariables false
/-- a, scaled up by b ^ e, and c over the depth d -/
def add2D (v : DVar) (a c : Int) (d e : Nat) : DExact × Bool :=
  if decide (e = 0) || decide (a.natAbs * bsD v ^ e ≤ 4000000000000000000) then mkD v (a * (bsD v : Int) ^ e + c) d else ((0, 0), false)
def add1D (v : DVar) (x y : DExact) : DExact × Bool := add2D v x.1 y.1 y.2.toNat (y.2 - x.2).toNat
def addDI (v : DVar) (x y : DExact) : DExact × Bool := if y.2 < x.2 then add1D v y x else add1D v x y
theorem add2D_big {v : DVar} {a c : Int} {d e : Nat} (hb : 1 ≤ bsD v) (h : ¬ a.natAbs * bsD v ≤ 4000000000000000000) : add2D v a c d (e + 1) = ((0, 0), false) := by
  have h1 : a.natAbs * bsD v ≤ a.natAbs * bsD v ^ (e + 1) := by
    rw [Nat.pow_succ]
    exact Nat.mul_le_mul_left _ (Nat.le_mul_of_pos_left _ (Nat.pow_pos hb))
  unfold add2D
  rw [if_neg]
  simp only [Nat.add_eq_zero_iff, Nat.one_ne_zero, and_false, decide_false, Bool.false_or, decide_eq_true_eq]
  omega
theorem add2D_step {v : DVar} {a c : Int} {d e : Nat} (h : a.natAbs * bsD v ≤ 4000000000000000000) : add2D v a c d (e + 1) = add2D v (a * bsD v) c d e := by
  have e1 : (a * (bsD v : Int)).natAbs * bsD v ^ e = a.natAbs * bsD v ^ (e + 1) := by
    rw [Int.natAbs_mul, Int.natAbs_natCast, Nat.pow_succ, Nat.mul_assoc, Nat.mul_comm (bsD v) _]
  have e2 : a * (bsD v : Int) * (bsD v : Int) ^ e = a * (bsD v : Int) ^ (e + 1) := by
    rw [Int.pow_succ, Int.mul_assoc, Int.mul_comm (bsD v : Int) _]
  unfold add2D
  rw [e1, e2]
  by_cases h0 : e = 0
  · subst h0
    simp [h]
  · simp [h0]
/-- an exact number in bounds -/
def exIn (x : DExact) : Prop := (-1000000000000000000 ≤ x.1 ∧ x.1 ≤ 1000000000000000000) ∧ 0 ≤ x.2 ∧ x.2 ≤ 60
def c_impl_addExact : Con where
  ins := [(true, .v tVar), (true, .v tRoll), (true, .v tRoll)]
  outs := [(true, .v tRoll), (false, .v .b)]
  sh := false
  pre := fun x => varD x.1 = true ∧ exIn x.2.1 ∧ exIn x.2.2.1
  out := fun x => ((addDI x.1 x.2.1 x.2.2.1).1, (addDI x.1 x.2.1 x.2.2.1).2, ())
  upd := fun x => x
  eat := false
theorem k_impl_addExact [B : Base] : ConOk Try.prog 48 c_impl_addExact := by
  refine fn_okW (C := cx Try.prog 48 c_impl_addExact) (cs := [(63, c_impl_absolute), (64, c_impl_baseOf), (62, c_impl_makeExact)]) (res := Try.f48.results.toList) (fun x => ⟨[{ sh := ⟨[(3, .one (.ref 0)), (4, .one (.ref 1)), (5, .one (.ref 2)), (6, .one (.ref 3)), (19, .one (.i .i64)), (20, .one (.i .i64))], [(0, .box [.i .i64, .i .i64, .i .i64, .i .i64]), (1, .box [.i .i64, .i .i64]), (2, .box [.i .i64, .i .i64]), (3, .box [.i .i64, .i .i64])]⟩, nx := 4, I := fun _ dat_ => ((dat_.2.2.2.1.2.1 - dat_.2.2.1.2.1) = dat_.1.2.2.2.2.1 ∧ x.1.1 = dat_.2.1.1 ∧ x.1.2.1 = dat_.2.1.2.1 ∧ x.1.2.2.1 = dat_.2.1.2.2.1 ∧ x.1.2.2.2 = dat_.2.1.2.2.2.1 ∧ (0 : Int) = dat_.2.2.2.2.1.1 ∧ (0 : Int) = dat_.2.2.2.2.1.2.1) ∧ ((addDI x.1 x.2.1 x.2.2.1 = add2D x.1 dat_.2.2.1.1 dat_.2.2.2.1.1 (Int.toNat dat_.2.2.2.1.2.1) (Int.toNat (dat_.1.2.2.2.2.1 - dat_.1.2.2.2.2.2.1)) ∧ -4000000000000000000 ≤ dat_.2.2.1.1 ∧ dat_.2.2.1.1 ≤ 4000000000000000000) ∧ (-1000000000000000000 ≤ dat_.2.2.2.1.1 ∧ dat_.2.2.2.1.1 ≤ 1000000000000000000) ∧ (0 ≤ dat_.2.2.2.1.2.1 ∧ dat_.2.2.2.1.2.1 ≤ 60) ∧ (0 ≤ dat_.1.2.2.2.2.2.1 ∧ dat_.1.2.2.2.2.2.1 ≤ dat_.1.2.2.2.2.1) ∧ dat_.1.2.2.2.2.1 ≤ 60), mu := fun dat_ => Int.toNat (dat_.1.2.2.2.2.1 - dat_.1.2.2.2.2.2.1) }], [(5, ⟨[[], [0], [0, 1], [], [0, 1, 2, 3], [0, 1, 2, 3, 4], [0, 1, 2, 3, 4, 5]], [[3], [3], [3], [0, 1, 2], [], [], []], []⟩), (7, ⟨[[], [0], [], [2], [0, 1, 2, 3], [0, 1, 2, 3, 4], [0, 1, 2, 3, 4, 5]], [[2, 3], [2, 3], [0, 1], [0, 1], [], [], []], []⟩)], [(3, { sh := ⟨[(3, .one (.ref 0)), (4, .one (.ref 1)), (5, .one (.ref 2)), (6, .one (.ref 3))], [(0, .box [.i .i64, .i .i64, .i .i64, .i .i64]), (1, .box [.i .i64, .i .i64]), (2, .box [.i .i64, .i .i64]), (3, .box [.i .i64, .i .i64])]⟩, nx := 4, I := fun _ dat_ => (x.1.1 = dat_.2.1.1 ∧ x.1.2.1 = dat_.2.1.2.1 ∧ x.1.2.2.1 = dat_.2.1.2.2.1 ∧ x.1.2.2.2 = dat_.2.1.2.2.2.1 ∧ (0 : Int) = dat_.2.2.2.2.1.1 ∧ (0 : Int) = dat_.2.2.2.2.1.2.1) ∧ ((exIn (dat_.2.2.1.1, dat_.2.2.1.2.1) ∧ exIn (dat_.2.2.2.1.1, dat_.2.2.2.1.2.1)) ∧ dat_.2.2.1.2.1 ≤ dat_.2.2.2.1.2.1 ∧ addDI x.1 x.2.1 x.2.2.1 = add1D x.1 (dat_.2.2.1.1, dat_.2.2.1.2.1) (dat_.2.2.2.1.1, dat_.2.2.2.1.2.1)), mu := fun dat_ => 0 })]⟩) Try.func48 (by kernel_rfl) rfl rfl rfl tysOk.look eqTsOk.look (AllCs.ok (l := [(63, c_impl_absolute), (64, c_impl_baseOf), (62, c_impl_makeExact)]) ⟨k_impl_absolute, k_impl_baseOf, k_impl_makeExact, trivial⟩) mixed rfl rfl rfl rfl ?_
  refine of_nf (P := ∀ v : Int × Int × Int × Int, ∀ x : Int × Int, ∀ y : Int × Int, (varD v = true ∧ exIn x ∧ exIn y) → ((lensI c_impl_addExact.ins (v, x, y, ())) → ((bsp (decide (y.2 < x.2)) ((v.1 = v.1 ∧ v.2.1 = v.2.1 ∧ v.2.2.1 = v.2.2.1 ∧ v.2.2.2 = v.2.2.2 ∧ (0 : Int) = 0 ∧ (0 : Int) = 0) ∧ ((exIn (y.1, y.2) ∧ exIn (x.1, x.2)) ∧ y.2 ≤ x.2 ∧ addDI v x y = add1D v (y.1, y.2) (x.1, x.2))) ((v.1 = v.1 ∧ v.2.1 = v.2.1 ∧ v.2.2.1 = v.2.2.1 ∧ v.2.2.2 = v.2.2.2 ∧ (0 : Int) = 0 ∧ (0 : Int) = 0) ∧ ((exIn (x.1, x.2) ∧ exIn (y.1, y.2)) ∧ x.2 ≤ y.2 ∧ addDI v x y = add1D v (x.1, x.2) (y.1, y.2)))) ∧ (∀ t3_0 : Int, ∀ t3_1 : Int, ∀ t3_2 : Int, ∀ t3_3 : Int, ∀ p_0 : Int, ∀ p_1 : Int, ∀ q_0 : Int, ∀ q_1 : Int, ∀ t6_0 : Int, ∀ t6_1 : Int, ((v.1 = t3_0 ∧ v.2.1 = t3_1 ∧ v.2.2.1 = t3_2 ∧ v.2.2.2 = t3_3 ∧ (0 : Int) = t6_0 ∧ (0 : Int) = t6_1) ∧ ((exIn (p_0, p_1) ∧ exIn (q_0, q_1)) ∧ p_1 ≤ q_1 ∧ addDI v x y = add1D v (p_0, p_1) (q_0, q_1))) → ((inK .i64 (q_1 - p_1)) ∧ ((((q_1 - p_1) = (q_1 - p_1) ∧ v.1 = t3_0 ∧ v.2.1 = t3_1 ∧ v.2.2.1 = t3_2 ∧ v.2.2.2 = t3_3 ∧ (0 : Int) = t6_0 ∧ (0 : Int) = t6_1) ∧ ((addDI v x y = add2D v p_0 q_0 (Int.toNat q_1) (Int.toNat ((q_1 - p_1) - (0 : Int))) ∧ -4000000000000000000 ≤ p_0 ∧ p_0 ≤ 4000000000000000000) ∧ (-1000000000000000000 ≤ q_0 ∧ q_0 ≤ 1000000000000000000) ∧ (0 ≤ q_1 ∧ q_1 ≤ 60) ∧ (0 ≤ (0 : Int) ∧ (0 : Int) ≤ (q_1 - p_1)) ∧ (q_1 - p_1) ≤ 60)) ∧ (∀ n : Int, ∀ i : Int, ∀ t3_0x1 : Int, ∀ t3_1x1 : Int, ∀ t3_2x1 : Int, ∀ t3_3x1 : Int, ∀ p_0x1 : Int, ∀ p_1x1 : Int, ∀ q_0x1 : Int, ∀ q_1x1 : Int, ∀ t6_0x1 : Int, ∀ t6_1x1 : Int, (((q_1x1 - p_1x1) = n ∧ v.1 = t3_0x1 ∧ v.2.1 = t3_1x1 ∧ v.2.2.1 = t3_2x1 ∧ v.2.2.2 = t3_3x1 ∧ (0 : Int) = t6_0x1 ∧ (0 : Int) = t6_1x1) ∧ ((addDI v x y = add2D v p_0x1 q_0x1 (Int.toNat q_1x1) (Int.toNat (n - i)) ∧ -4000000000000000000 ≤ p_0x1 ∧ p_0x1 ≤ 4000000000000000000) ∧ (-1000000000000000000 ≤ q_0x1 ∧ q_0x1 ≤ 1000000000000000000) ∧ (0 ≤ q_1x1 ∧ q_1x1 ≤ 60) ∧ (0 ≤ i ∧ i ≤ n) ∧ n ≤ 60)) → (bsp (decide (i < n)) ((-9223372036854775807 ≤ p_0x1 ∧ p_0x1 ≤ 9223372036854775807) ∧ ((varD (t3_0x1, t3_1x1, t3_2x1, t3_3x1) = true) ∧ (((bsD (t3_0x1, t3_1x1, t3_2x1, t3_3x1) : Int) ≠ 0) ∧ ((inK .i64 (Int.tdiv (4000000000000000000 : Int) (bsD (t3_0x1, t3_1x1, t3_2x1, t3_3x1) : Int))) ∧ (bsp (decide ((Int.tdiv (4000000000000000000 : Int) (bsD (t3_0x1, t3_1x1, t3_2x1, t3_3x1) : Int)) < (Int.natAbs p_0x1 : Int))) (@Eq (HO c_impl_addExact.outs) ((0, 0), false, ()) (c_impl_addExact.out (v, x, y, ()))) ((varD (t3_0x1, t3_1x1, t3_2x1, t3_3x1) = true) ∧ ((inK .i64 (p_0x1 * (bsD (t3_0x1, t3_1x1, t3_2x1, t3_3x1) : Int))) ∧ ((inK .i64 (i + 1)) ∧ ((((q_1x1 - p_1x1) = n ∧ v.1 = t3_0x1 ∧ v.2.1 = t3_1x1 ∧ v.2.2.1 = t3_2x1 ∧ v.2.2.2 = t3_3x1 ∧ (0 : Int) = t6_0x1 ∧ (0 : Int) = t6_1x1) ∧ ((addDI v x y = add2D v (p_0x1 * (bsD (t3_0x1, t3_1x1, t3_2x1, t3_3x1) : Int)) q_0x1 (Int.toNat q_1x1) (Int.toNat (n - (i + 1))) ∧ -4000000000000000000 ≤ (p_0x1 * (bsD (t3_0x1, t3_1x1, t3_2x1, t3_3x1) : Int)) ∧ (p_0x1 * (bsD (t3_0x1, t3_1x1, t3_2x1, t3_3x1) : Int)) ≤ 4000000000000000000) ∧ (-1000000000000000000 ≤ q_0x1 ∧ q_0x1 ≤ 1000000000000000000) ∧ (0 ≤ q_1x1 ∧ q_1x1 ≤ 60) ∧ (0 ≤ (i + 1) ∧ (i + 1) ≤ n) ∧ n ≤ 60)) ∧ ((Int.toNat (n - (i + 1)) : Nat) < Int.toNat (n - i))))))))))) ((inK .i64 (p_0x1 + q_0x1)) ∧ ((varD (t3_0x1, t3_1x1, t3_2x1, t3_3x1) = true ∧ (-9223372036854775807 ≤ (p_0x1 + q_0x1) ∧ (p_0x1 + q_0x1) ≤ 9223372036854775807) ∧ 0 ≤ q_1x1 ∧ q_1x1 ≤ 1000) ∧ (@Eq (HO c_impl_addExact.outs) ((mkD (t3_0x1, t3_1x1, t3_2x1, t3_3x1) (p_0x1 + q_0x1) (Int.toNat q_1x1)).1, (mkD (t3_0x1, t3_1x1, t3_2x1, t3_3x1) (p_0x1 + q_0x1) (Int.toNat q_1x1)).2, ()) (c_impl_addExact.out (v, x, y, ()))))))))))))) (by kernel_rfl) ?_
  rintro v x y ⟨hv, hx, hy⟩ hl
  obtain ⟨-, b1, b2, s1, s2⟩ := bsD_facts hv
  refine ⟨bspD (fun h => ⟨(by first | trivial | rfl | (and_intros <;> rfl)), ⟨hy, hx⟩, by omega, if_pos h⟩) (fun h => ⟨(by first | trivial | rfl | (and_intros <;> rfl)), ⟨hx, hy⟩, by omega, if_neg h⟩), ?_⟩
  rintro t3_0 t3_1 t3_2 t3_3 p_0 p_1 q_0 q_1 t6_0 t6_1 ⟨⟨rfl, rfl, rfl, rfl, rfl, rfl⟩, ⟨⟨⟨⟨p0, p1⟩, p2, p3⟩, ⟨q0, q1⟩, q2, q3⟩, hpq, hA⟩⟩
  dsimp only at p0 p1 p2 p3 q0 q1 q2 q3
  have out : ∀ r : DExact × Bool, addDI v x y = r → @Eq (HO c_impl_addExact.outs) (r.1, r.2, ()) (c_impl_addExact.out (v, x, y, ())) := fun r h => by subst h; rfl
  refine ⟨by simp only [inK]; omega, ⟨(by first | trivial | rfl | (and_intros <;> rfl)), ⟨by rw [hA, Int.sub_zero]; rfl, by omega, by omega⟩, ⟨by omega, by omega⟩, ⟨by omega, by omega⟩, ⟨by omega, by omega⟩, by omega⟩, ?_⟩
  rintro n i t3_0x1 t3_1x1 t3_2x1 t3_3x1 p_0x1 p_1x1 q_0x1 q_1x1 t6_0x1 t6_1x1 ⟨⟨rfl, rfl, rfl, rfl, rfl, rfl, rfl⟩, ⟨⟨hB, a0, a1⟩, ⟨c0, c1⟩, ⟨d0, d1⟩, ⟨e0, e1⟩, e2⟩⟩
  simp only [Prod.eta]
  have e36 : (1 : Int) ≤ bsD v ∧ (bsD v : Int) ≤ 36 := by omega
  refine bspD (fun hlt => ?_) (fun hge => ?_)
  · obtain ⟨e, he⟩ : ∃ e : Nat, (q_1x1 - p_1x1 - i).toNat = e + 1 := ⟨(q_1x1 - p_1x1 - i).toNat - 1, by omega⟩
    rw [he] at hB
    have h4 : Int.tdiv (4000000000000000000 : Int) (bsD v : Int) = ((4000000000000000000 / bsD v : Nat) : Int) := by rw [Int.tdiv_eq_ediv_of_nonneg (by omega)]; simp
    have h5 : p_0x1.natAbs ≤ 4000000000000000000 / bsD v ↔ p_0x1.natAbs * bsD v ≤ 4000000000000000000 := Nat.le_div_iff_mul_le b1
    have h6 := Nat.div_le_self 4000000000000000000 (bsD v)
    rw [h4]
    generalize 4000000000000000000 / bsD v = T at *
    refine ⟨⟨by omega, by omega⟩, hv, by omega, by simp only [inK]; omega, bspD (fun hb => out ((0, 0), false) ?_) (fun hs => ?_)⟩
    · rw [hB]; exact add2D_big b1 fun h => by have := h5.2 h; omega
    · have h7 := h5.1 (by omega)
      rw [add2D_step h7] at hB
      have h8 : (p_0x1 * (bsD v : Int)).natAbs = p_0x1.natAbs * bsD v := by rw [Int.natAbs_mul, Int.natAbs_natCast]
      generalize p_0x1 * (bsD v : Int) = W at *
      refine ⟨hv, by simp only [inK]; omega, by simp only [inK]; omega, ⟨(by first | trivial | rfl | (and_intros <;> rfl)), ⟨?_, by omega, by omega⟩, ⟨by omega, by omega⟩, ⟨by omega, by omega⟩, ⟨by omega, by omega⟩, by omega⟩, by omega⟩
      rw [hB]; congr 1; omega
  · have hz : (q_1x1 - p_1x1 - i).toNat = 0 := by omega
    rw [hz] at hB
    have h9 : add2D v p_0x1 q_0x1 q_1x1.toNat 0 = mkD v (p_0x1 + q_0x1) q_1x1.toNat := by simp [add2D]
    rw [h9] at hB
    exact ⟨by simp only [inK]; omega, ⟨hv, ⟨by omega, by omega⟩, by omega, by omega⟩, out _ hB⟩
end Go.Proofs.Ytoobijimfccfgaa
