/-
  Contracts: all rolls.
-/
import Derived.Test.YtoobijimfccfgaaVGame
import Derived.Test.YtoobijimfccfgaaAbV
namespace Go.Proofs.Ytoobijimfccfgaa
open Go.RowKit
set_option linter.unusedSimpArgs false
set_option linter.unusedVariables false
def rowTo (a : Int) : Nat → List DRoll
  | 0 => []
  | k + 1 => rowTo a k ++ [(a, (k : Int) + 1)]
def rollsTo : Nat → List DRoll
  | 0 => []
  | a + 1 => rollsTo a ++ rowTo ((a : Int) + 1) (a + 1)
theorem rowTo_len (a : Int) : ∀ k, (rowTo a k).length = k
  | 0 => rfl
  | k + 1 => by simp [rowTo, rowTo_len a k]
theorem rollsTo_len : ∀ k, k ≤ 6 → (rollsTo k).length ≤ 6 * k
  | 0, _ => by simp [rollsTo]
  | k + 1, h => by
    have := rollsTo_len k (by omega)
    simp only [rollsTo, List.length_append, rowTo_len]; omega
theorem rowTo_mem {a : Int} {k : Nat} {r : DRoll} (h : r ∈ rowTo a k) : r.1 = a ∧ 1 ≤ r.2 ∧ r.2 ≤ k := by
  induction k with
  | zero => simp [rowTo] at h
  | succ k ih =>
    simp only [rowTo, List.mem_append, List.mem_singleton] at h
    rcases h with h | h
    · have := ih h; omega
    · subst h; exact ⟨rfl, by dsimp only; omega, by dsimp only; omega⟩
theorem rollsTo_mem {k : Nat} {r : DRoll} (h : r ∈ rollsTo k) : 1 ≤ r.1 ∧ r.1 ≤ k ∧ 1 ≤ r.2 ∧ r.2 ≤ r.1 := by
  induction k with
  | zero => simp [rollsTo] at h
  | succ k ih =>
    simp only [rollsTo, List.mem_append] at h
    rcases h with h | h
    · have := ih h; omega
    · have := rowTo_mem h; omega
theorem rollsTo_ok {v : DVar} (hv : varD v = true) {r : DRoll} (h : r ∈ rollsTo v.2.2.2.toNat) : rollD v r = true := by
  have h1 := rollsTo_mem h
  have := (varD_iff.1 hv).2.2.2
  simp only [rollD, hv, Bool.true_and, Bool.and_eq_true, inB, decide_eq_true_eq]
  omega
def wtD (r : DRoll) : Int := if r.1 = r.2 then 1 else 2
def weightD (v : DVar) (r : DRoll) : Int := if rollD v r = true then wtD r else 0
theorem wtD_bd (r : DRoll) : 1 ≤ wtD r ∧ wtD r ≤ 2 := by unfold wtD; split <;> omega
def c_impl_AllRolls : Con where
  ins := [(true, .v tVar)]
  outs := [(false, .v (.sl tRoll))]
  sh := false
  pre := fun _ => True
  out := fun x => ((if varD x.1 then rollsTo (Int.toNat x.1.2.2.2) else []), ())
  upd := fun x => x
  eat := false
theorem k_impl_AllRolls [B : Base] : ConOk Try.prog 45 c_impl_AllRolls := by
  refine fn_okW (C := cx Try.prog 27 c_impl_AllRolls) (cs := [(27, c_impl_IsVariant)]) (res := Try.f45.results.toList) (fun x => ⟨[{ sh := ⟨[(1, .one (.ref 0)), (3, .one (.ref 1)), (4, .one (.i .i64))], [(0, .box [.i .i64, .i .i64, .i .i64, .i .i64]), (1, .own 54 tRoll true)]⟩, nx := 2, I := fun _ dat_ => (x.1.1 = dat_.2.1.1 ∧ x.1.2.1 = dat_.2.1.2.1 ∧ x.1.2.2.1 = dat_.2.1.2.2.1 ∧ x.1.2.2.2 = dat_.2.1.2.2.2.1) ∧ (dat_.2.2.1 = rollsTo (Int.toNat dat_.1.2.2.1 - 1) ∧ 1 ≤ dat_.1.2.2.1 ∧ dat_.1.2.2.1 ≤ x.1.2.2.2 + 1), mu := fun dat_ => Int.toNat (x.1.2.2.2 + 1 - dat_.1.2.2.1) }, { sh := ⟨[(1, .one (.ref 0)), (3, .one (.ref 1)), (4, .one (.i .i64)), (5, .one (.i .i64))], [(0, .box [.i .i64, .i .i64, .i .i64, .i .i64]), (1, .own 54 tRoll true)]⟩, nx := 2, I := fun g_ dat_ => (x.1.1 = dat_.2.1.1 ∧ x.1.2.1 = dat_.2.1.2.1 ∧ x.1.2.2.1 = dat_.2.1.2.2.1 ∧ x.1.2.2.2 = dat_.2.1.2.2.2.1) ∧ (dat_.2.2.1 = rollsTo (Int.toNat dat_.1.2.2.1 - 1) ++ rowTo dat_.1.2.2.1 (Int.toNat dat_.1.2.2.2.1 - 1) ∧ (1 ≤ dat_.1.2.2.1 ∧ dat_.1.2.2.1 ≤ x.1.2.2.2) ∧ (1 ≤ dat_.1.2.2.2.1 ∧ dat_.1.2.2.2.1 ≤ dat_.1.2.2.1 + 1) ∧ (g_.headD 0) = Int.toNat (x.1.2.2.2 + 1 - dat_.1.2.2.1)), mu := fun dat_ => Int.toNat (dat_.1.2.2.1 + 1 - dat_.1.2.2.2.1) }], [], []⟩) Try.func45 (by kernel_rfl) rfl rfl rfl tysOk.look eqTsOk.look (AllCs.ok (l := [(27, c_impl_IsVariant)]) ⟨k_impl_IsVariant, trivial⟩) mixed rfl rfl rfl rfl ?_
  refine of_nf (P := ∀ v : Int × Int × Int × Int, (True) → ((lensI c_impl_AllRolls.ins (v, ())) → (True ∧ (bsp (!(varD v)) (@Eq (HO c_impl_AllRolls.outs) ([], ()) (c_impl_AllRolls.out (v, ()))) (((v.1 = v.1 ∧ v.2.1 = v.2.1 ∧ v.2.2.1 = v.2.2.1 ∧ v.2.2.2 = v.2.2.2) ∧ ([] = rollsTo (Int.toNat (1 : Int) - 1) ∧ 1 ≤ (1 : Int) ∧ (1 : Int) ≤ v.2.2.2 + 1)) ∧ (∀ a : Int, ∀ t1_0 : Int, ∀ t1_1 : Int, ∀ t1_2 : Int, ∀ t1_3 : Int, ∀ out : List (Int × Int), ((v.1 = t1_0 ∧ v.2.1 = t1_1 ∧ v.2.2.1 = t1_2 ∧ v.2.2.2 = t1_3) ∧ (out = rollsTo (Int.toNat a - 1) ∧ 1 ≤ a ∧ a ≤ v.2.2.2 + 1)) → (bsp (decide (a ≤ t1_3)) (((v.1 = t1_0 ∧ v.2.1 = t1_1 ∧ v.2.2.1 = t1_2 ∧ v.2.2.2 = t1_3) ∧ (out = rollsTo (Int.toNat a - 1) ++ rowTo a (Int.toNat (1 : Int) - 1) ∧ (1 ≤ a ∧ a ≤ v.2.2.2) ∧ (1 ≤ (1 : Int) ∧ (1 : Int) ≤ a + 1) ∧ (Int.toNat (v.2.2.2 + 1 - a)) = Int.toNat (v.2.2.2 + 1 - a))) ∧ (∀ a_1 : Int, ∀ b : Int, ∀ t1_0x1 : Int, ∀ t1_1x1 : Int, ∀ t1_2x1 : Int, ∀ t1_3x1 : Int, ∀ out_1 : List (Int × Int), ((v.1 = t1_0x1 ∧ v.2.1 = t1_1x1 ∧ v.2.2.1 = t1_2x1 ∧ v.2.2.2 = t1_3x1) ∧ (out_1 = rollsTo (Int.toNat a_1 - 1) ++ rowTo a_1 (Int.toNat b - 1) ∧ (1 ≤ a_1 ∧ a_1 ≤ v.2.2.2) ∧ (1 ≤ b ∧ b ≤ a_1 + 1) ∧ (Int.toNat (v.2.2.2 + 1 - a)) = Int.toNat (v.2.2.2 + 1 - a_1))) → (bsp (decide (b ≤ a_1)) ((out_1.length + ([(a_1, b)] : List (Int × Int)).length ≤ AB) ∧ ((inK .i64 (b + 1)) ∧ (((v.1 = t1_0x1 ∧ v.2.1 = t1_1x1 ∧ v.2.2.1 = t1_2x1 ∧ v.2.2.2 = t1_3x1) ∧ ((out_1 ++ [(a_1, b)]) = rollsTo (Int.toNat a_1 - 1) ++ rowTo a_1 (Int.toNat (b + 1) - 1) ∧ (1 ≤ a_1 ∧ a_1 ≤ v.2.2.2) ∧ (1 ≤ (b + 1) ∧ (b + 1) ≤ a_1 + 1) ∧ (Int.toNat (v.2.2.2 + 1 - a)) = Int.toNat (v.2.2.2 + 1 - a_1))) ∧ ((Int.toNat (a_1 + 1 - (b + 1)) : Nat) < Int.toNat (a_1 + 1 - b))))) ((inK .i64 (a_1 + 1)) ∧ (((v.1 = t1_0x1 ∧ v.2.1 = t1_1x1 ∧ v.2.2.1 = t1_2x1 ∧ v.2.2.2 = t1_3x1) ∧ (out_1 = rollsTo (Int.toNat (a_1 + 1) - 1) ∧ 1 ≤ (a_1 + 1) ∧ (a_1 + 1) ≤ v.2.2.2 + 1)) ∧ ((Int.toNat (v.2.2.2 + 1 - (a_1 + 1)) : Nat) < Int.toNat (v.2.2.2 + 1 - a))))))) (@Eq (HO c_impl_AllRolls.outs) (out, ()) (c_impl_AllRolls.out (v, ())))))))))) (by kernel_rfl) ?_
  rintro v hp hl
  refine ⟨trivial, bspB (fun h => ?_) (fun hv => ⟨?_, ?_⟩)⟩
  · simp_all [c_impl_AllRolls]
  all_goals
    simp only [Bool.not_eq_false'] at hv
    obtain ⟨_, _, _, v7, v8⟩ := varD_iff.1 hv
  · exact ⟨(by first | trivial | rfl | (and_intros <;> rfl)), rfl, by omega, by omega⟩

  rintro a t1_0 t1_1 t1_2 t1_3 out ⟨⟨rfl, rfl, rfl, rfl⟩, ⟨ho, a0, a1⟩⟩
  simp only [Prod.eta]
  refine bspD (fun hlt => ?_) (fun hge => ?_)
  · obtain ⟨k, rfl⟩ : ∃ k : Nat, a = (k : Int) + 1 := ⟨(a - 1).toNat, by omega⟩
    rw [show ((k : Int) + 1).toNat - 1 = k by omega] at ho
    refine ⟨⟨(by first | trivial | rfl | (and_intros <;> rfl)), ?_, ⟨by omega, by omega⟩, ⟨by omega, by omega⟩, by first | trivial | rfl⟩, ?_⟩
    · rw [show ((k : Int) + 1).toNat - 1 = k by omega, ho]; simp [rowTo]
    rintro a_1 b t1_0x1 t1_1x1 t1_2x1 t1_3x1 out_1 ⟨⟨rfl, rfl, rfl, rfl⟩, ⟨ho2, ⟨c0, c1⟩, ⟨d0, d1⟩, hG⟩⟩
    simp only [Prod.eta]
    obtain rfl : a_1 = (k : Int) + 1 := by omega
    rw [show ((k : Int) + 1).toNat - 1 = k by omega] at ho2
    have hlen := rollsTo_len k (by omega)
    refine bspD (fun hl2 => ?_) (fun hg2 => ?_)
    · obtain ⟨m, rfl⟩ : ∃ m : Nat, b = (m : Int) + 1 := ⟨(b - 1).toNat, by omega⟩
      rw [show ((m : Int) + 1).toNat - 1 = m by omega] at ho2
      have hl3 : out_1.length ≤ 6 * k + m := by rw [ho2, List.length_append, rowTo_len]; omega
      refine ⟨by simp [AB]; omega, by simp only [inK]; omega, ⟨(by first | trivial | rfl | (and_intros <;> rfl)), ?_, ⟨by omega, by omega⟩, ⟨by omega, by omega⟩, hG⟩, by omega⟩
      rw [show ((k : Int) + 1).toNat - 1 = k by omega, show ((m : Int) + 1 + 1).toNat - 1 = m + 1 by omega, ho2, rowTo, List.append_assoc]
    · refine ⟨by simp only [inK]; omega, ⟨(by first | trivial | rfl | (and_intros <;> rfl)), ?_, by omega, by omega⟩, by omega⟩
      rw [ho2, show ((k : Int) + 1 + 1).toNat - 1 = k + 1 by omega, show b.toNat - 1 = k + 1 by omega, rollsTo]
  · have e : a.toNat - 1 = v.2.2.2.toNat := by omega
    rw [e] at ho
    subst ho
    simp [c_impl_AllRolls, hv]
def c_impl_RollWeight : Con where
  ins := [(true, .v tVar), (true, .v tRoll)]
  outs := [(false, .v tI)]
  sh := false
  pre := fun _ => True
  out := fun x => (weightD x.1 x.2.1, ())
  upd := fun x => x
  eat := false
theorem k_impl_RollWeight [B : Base] : ConOk Try.prog 61 c_impl_RollWeight := by
  refine fn_okW (C := cx Try.prog 16 c_impl_RollWeight) (cs := [(76, c_impl_IsRoll)]) (res := Try.f61.results.toList) (fun _ => ⟨[], [], []⟩) Try.func61 (by kernel_rfl) rfl rfl rfl tysOk.look eqTsOk.look (AllCs.ok (l := [(76, c_impl_IsRoll)]) ⟨k_impl_IsRoll, trivial⟩) mixed rfl rfl rfl rfl ?_
  refine of_nf (P := ∀ v : Int × Int × Int × Int, ∀ r : Int × Int, (True) → ((lensI c_impl_RollWeight.ins (v, r, ())) → (True ∧ (bsp (!(rollD v r)) (@Eq (HO c_impl_RollWeight.outs) (0, ()) (c_impl_RollWeight.out (v, r, ()))) (bsp (decide (r.1 = r.2)) (@Eq (HO c_impl_RollWeight.outs) (1, ()) (c_impl_RollWeight.out (v, r, ()))) (@Eq (HO c_impl_RollWeight.outs) (2, ()) (c_impl_RollWeight.out (v, r, ())))))))) (by kernel_rfl) ?_
  rintro v r hp hl
  refine ⟨trivial, bspB (fun h => ?_) (fun h => bspD (fun g => ?_) (fun g => ?_))⟩ <;> simp_all [c_impl_RollWeight, weightD, wtD]
def c_spec_l09Rolls : Con where
  ins := [(true, .v tVar)]
  outs := [(false, .v (.sl tRoll))]
  sh := false
  pre := fun x => 0 ≤ x.1.2.2.2 ∧ x.1.2.2.2 ≤ 6
  out := fun x => (rollsTo (Int.toNat x.1.2.2.2), ())
  upd := fun x => x
  eat := false
theorem k_spec_l09Rolls [B : Base] : ConOk Try.prog 20 c_spec_l09Rolls := by
  refine fn_okW (C := cx Try.prog 25 c_spec_l09Rolls) (cs := []) (res := Try.f20.results.toList) (fun x => ⟨[{ sh := ⟨[(1, .one (.ref 0)), (3, .one (.ref 1)), (4, .one (.i .i64))], [(0, .box [.i .i64, .i .i64, .i .i64, .i .i64]), (1, .own 54 tRoll true)]⟩, nx := 2, I := fun _ dat_ => (x.1.1 = dat_.2.1.1 ∧ x.1.2.1 = dat_.2.1.2.1 ∧ x.1.2.2.1 = dat_.2.1.2.2.1 ∧ x.1.2.2.2 = dat_.2.1.2.2.2.1) ∧ (dat_.2.2.1 = rollsTo (Int.toNat dat_.1.2.2.1 - 1) ∧ 1 ≤ dat_.1.2.2.1 ∧ dat_.1.2.2.1 ≤ x.1.2.2.2 + 1), mu := fun dat_ => Int.toNat (x.1.2.2.2 + 1 - dat_.1.2.2.1) }, { sh := ⟨[(1, .one (.ref 0)), (3, .one (.ref 1)), (4, .one (.i .i64)), (5, .one (.i .i64))], [(0, .box [.i .i64, .i .i64, .i .i64, .i .i64]), (1, .own 54 tRoll true)]⟩, nx := 2, I := fun g_ dat_ => (x.1.1 = dat_.2.1.1 ∧ x.1.2.1 = dat_.2.1.2.1 ∧ x.1.2.2.1 = dat_.2.1.2.2.1 ∧ x.1.2.2.2 = dat_.2.1.2.2.2.1) ∧ (dat_.2.2.1 = rollsTo (Int.toNat dat_.1.2.2.1 - 1) ++ rowTo dat_.1.2.2.1 (Int.toNat dat_.1.2.2.2.1 - 1) ∧ (1 ≤ dat_.1.2.2.1 ∧ dat_.1.2.2.1 ≤ x.1.2.2.2) ∧ (1 ≤ dat_.1.2.2.2.1 ∧ dat_.1.2.2.2.1 ≤ dat_.1.2.2.1 + 1) ∧ (g_.headD 0) = Int.toNat (x.1.2.2.2 + 1 - dat_.1.2.2.1)), mu := fun dat_ => Int.toNat (dat_.1.2.2.1 + 1 - dat_.1.2.2.2.1) }], [], []⟩) Try.func20 (by kernel_rfl) rfl rfl rfl tysOk.look eqTsOk.look (AllCs.ok (l := []) trivial) mixed rfl rfl rfl rfl ?_
  refine of_nf (P := ∀ v : Int × Int × Int × Int, (0 ≤ v.2.2.2 ∧ v.2.2.2 ≤ 6) → ((lensI c_spec_l09Rolls.ins (v, ())) → (((v.1 = v.1 ∧ v.2.1 = v.2.1 ∧ v.2.2.1 = v.2.2.1 ∧ v.2.2.2 = v.2.2.2) ∧ ([] = rollsTo (Int.toNat (1 : Int) - 1) ∧ 1 ≤ (1 : Int) ∧ (1 : Int) ≤ v.2.2.2 + 1)) ∧ (∀ a : Int, ∀ t1_0 : Int, ∀ t1_1 : Int, ∀ t1_2 : Int, ∀ t1_3 : Int, ∀ out : List (Int × Int), ((v.1 = t1_0 ∧ v.2.1 = t1_1 ∧ v.2.2.1 = t1_2 ∧ v.2.2.2 = t1_3) ∧ (out = rollsTo (Int.toNat a - 1) ∧ 1 ≤ a ∧ a ≤ v.2.2.2 + 1)) → (bsp (decide (a ≤ t1_3)) (((v.1 = t1_0 ∧ v.2.1 = t1_1 ∧ v.2.2.1 = t1_2 ∧ v.2.2.2 = t1_3) ∧ (out = rollsTo (Int.toNat a - 1) ++ rowTo a (Int.toNat (1 : Int) - 1) ∧ (1 ≤ a ∧ a ≤ v.2.2.2) ∧ (1 ≤ (1 : Int) ∧ (1 : Int) ≤ a + 1) ∧ (Int.toNat (v.2.2.2 + 1 - a)) = Int.toNat (v.2.2.2 + 1 - a))) ∧ (∀ a_1 : Int, ∀ b : Int, ∀ t1_0x1 : Int, ∀ t1_1x1 : Int, ∀ t1_2x1 : Int, ∀ t1_3x1 : Int, ∀ out_1 : List (Int × Int), ((v.1 = t1_0x1 ∧ v.2.1 = t1_1x1 ∧ v.2.2.1 = t1_2x1 ∧ v.2.2.2 = t1_3x1) ∧ (out_1 = rollsTo (Int.toNat a_1 - 1) ++ rowTo a_1 (Int.toNat b - 1) ∧ (1 ≤ a_1 ∧ a_1 ≤ v.2.2.2) ∧ (1 ≤ b ∧ b ≤ a_1 + 1) ∧ (Int.toNat (v.2.2.2 + 1 - a)) = Int.toNat (v.2.2.2 + 1 - a_1))) → (bsp (decide (b ≤ a_1)) ((out_1.length + ([(a_1, b)] : List (Int × Int)).length ≤ AB) ∧ ((inK .i64 (b + 1)) ∧ (((v.1 = t1_0x1 ∧ v.2.1 = t1_1x1 ∧ v.2.2.1 = t1_2x1 ∧ v.2.2.2 = t1_3x1) ∧ ((out_1 ++ [(a_1, b)]) = rollsTo (Int.toNat a_1 - 1) ++ rowTo a_1 (Int.toNat (b + 1) - 1) ∧ (1 ≤ a_1 ∧ a_1 ≤ v.2.2.2) ∧ (1 ≤ (b + 1) ∧ (b + 1) ≤ a_1 + 1) ∧ (Int.toNat (v.2.2.2 + 1 - a)) = Int.toNat (v.2.2.2 + 1 - a_1))) ∧ ((Int.toNat (a_1 + 1 - (b + 1)) : Nat) < Int.toNat (a_1 + 1 - b))))) ((inK .i64 (a_1 + 1)) ∧ (((v.1 = t1_0x1 ∧ v.2.1 = t1_1x1 ∧ v.2.2.1 = t1_2x1 ∧ v.2.2.2 = t1_3x1) ∧ (out_1 = rollsTo (Int.toNat (a_1 + 1) - 1) ∧ 1 ≤ (a_1 + 1) ∧ (a_1 + 1) ≤ v.2.2.2 + 1)) ∧ ((Int.toNat (v.2.2.2 + 1 - (a_1 + 1)) : Nat) < Int.toNat (v.2.2.2 + 1 - a))))))) (@Eq (HO c_spec_l09Rolls.outs) (out, ()) (c_spec_l09Rolls.out (v, ())))))))) (by kernel_rfl) ?_
  rintro v ⟨v7, v8⟩ hl
  refine ⟨⟨(by first | trivial | rfl | (and_intros <;> rfl)), rfl, by omega, by omega⟩, ?_⟩

  rintro a t1_0 t1_1 t1_2 t1_3 out ⟨⟨rfl, rfl, rfl, rfl⟩, ⟨ho, a0, a1⟩⟩
  simp only [Prod.eta]
  refine bspD (fun hlt => ?_) (fun hge => ?_)
  · obtain ⟨k, rfl⟩ : ∃ k : Nat, a = (k : Int) + 1 := ⟨(a - 1).toNat, by omega⟩
    rw [show ((k : Int) + 1).toNat - 1 = k by omega] at ho
    refine ⟨⟨(by first | trivial | rfl | (and_intros <;> rfl)), ?_, ⟨by omega, by omega⟩, ⟨by omega, by omega⟩, by first | trivial | rfl⟩, ?_⟩
    · rw [show ((k : Int) + 1).toNat - 1 = k by omega, ho]; simp [rowTo]
    rintro a_1 b t1_0x1 t1_1x1 t1_2x1 t1_3x1 out_1 ⟨⟨rfl, rfl, rfl, rfl⟩, ⟨ho2, ⟨c0, c1⟩, ⟨d0, d1⟩, hG⟩⟩
    simp only [Prod.eta]
    obtain rfl : a_1 = (k : Int) + 1 := by omega
    rw [show ((k : Int) + 1).toNat - 1 = k by omega] at ho2
    have hlen := rollsTo_len k (by omega)
    refine bspD (fun hl2 => ?_) (fun hg2 => ?_)
    · obtain ⟨m, rfl⟩ : ∃ m : Nat, b = (m : Int) + 1 := ⟨(b - 1).toNat, by omega⟩
      rw [show ((m : Int) + 1).toNat - 1 = m by omega] at ho2
      have hl3 : out_1.length ≤ 6 * k + m := by rw [ho2, List.length_append, rowTo_len]; omega
      refine ⟨by simp [AB]; omega, by simp only [inK]; omega, ⟨(by first | trivial | rfl | (and_intros <;> rfl)), ?_, ⟨by omega, by omega⟩, ⟨by omega, by omega⟩, hG⟩, by omega⟩
      rw [show ((k : Int) + 1).toNat - 1 = k by omega, show ((m : Int) + 1 + 1).toNat - 1 = m + 1 by omega, ho2, rowTo, List.append_assoc]
    · refine ⟨by simp only [inK]; omega, ⟨(by first | trivial | rfl | (and_intros <;> rfl)), ?_, by omega, by omega⟩, by omega⟩
      rw [ho2, show ((k : Int) + 1 + 1).toNat - 1 = k + 1 by omega, show b.toNat - 1 = k + 1 by omega, rollsTo]
  · have e : a.toNat - 1 = v.2.2.2.toNat := by omega
    rw [e] at ho
    subst ho
    rfl
theorem rollsTo_cnt {k : Nat} (h : k ≤ 6) : (rollsTo k).length = k * (k + 1) / 2 := by
  have : k = 0 ∨ k = 1 ∨ k = 2 ∨ k = 3 ∨ k = 4 ∨ k = 5 ∨ k = 6 := by omega
  rcases this with rfl | rfl | rfl | rfl | rfl | rfl | rfl <;> decide
def kindsD (v : DVar) : Int := if varD v then ((rollsTo v.2.2.2.toNat).length : Int) else -1
end Go.Proofs.Ytoobijimfccfgaa
