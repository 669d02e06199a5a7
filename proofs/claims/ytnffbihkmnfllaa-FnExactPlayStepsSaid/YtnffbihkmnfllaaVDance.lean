/-
  Contracts: all rolls, the weight of the rolls that dance; the law of DancingWeight.
-/
import Derived.Test.YtnffbihkmnfllaaVSeq
namespace Go.Proofs.Ytnffbihkmnfllaa
open Go.RowKit
set_option linter.unusedSimpArgs false
set_option linter.unusedVariables false
def rowTo (a : Int) : Nat → List DRoll
  | 0 => []
  | k + 1 => rowTo a k ++ [(a, (k : Int) + 1)]
def rollsTo : Nat → List DRoll
  | 0 => []
  | a + 1 => rollsTo a ++ rowTo ((a : Int) + 1) (a + 1)
theorem rowTo_len (a : Int) : ∀ k, (rowTo a k).length = k
  | 0 => rfl
  | k + 1 => by simp [rowTo, rowTo_len a k]
theorem rollsTo_len : ∀ k, k ≤ 6 → (rollsTo k).length ≤ 6 * k
  | 0, _ => by simp [rollsTo]
  | k + 1, h => by
    have := rollsTo_len k (by omega)
    simp only [rollsTo, List.length_append, rowTo_len]; omega
theorem rowTo_mem {a : Int} {k : Nat} {r : DRoll} (h : r ∈ rowTo a k) : r.1 = a ∧ 1 ≤ r.2 ∧ r.2 ≤ k := by
  induction k with
  | zero => simp [rowTo] at h
  | succ k ih =>
    simp only [rowTo, List.mem_append, List.mem_singleton] at h
    rcases h with h | h
    · have := ih h; omega
    · subst h; exact ⟨rfl, by dsimp only; omega, by dsimp only; omega⟩
theorem rollsTo_mem {k : Nat} {r : DRoll} (h : r ∈ rollsTo k) : 1 ≤ r.1 ∧ r.1 ≤ k ∧ 1 ≤ r.2 ∧ r.2 ≤ r.1 := by
  induction k with
  | zero => simp [rollsTo] at h
  | succ k ih =>
    simp only [rollsTo, List.mem_append] at h
    rcases h with h | h
    · have := ih h; omega
    · have := rowTo_mem h; omega
theorem rollsTo_ok {v : DVar} (hv : varD v = true) {r : DRoll} (h : r ∈ rollsTo v.2.2.2.toNat) : rollD v r = true := by
  have h1 := rollsTo_mem h
  have := (varD_iff.1 hv).2.2.2
  simp only [rollD, hv, Bool.true_and, Bool.and_eq_true, inB_iff]
  omega
def wtD (r : DRoll) : Int := if r.1 = r.2 then 1 else 2
def weightD (v : DVar) (r : DRoll) : Int := if rollD v r = true then wtD r else 0
def danceS (v : DVar) (b : DBoard) (w : Int) (r : DRoll) : Int := if legalD v b r.1 = [] ∧ legalD v b r.2 = [] then w + wtD r else w
def danceD (v : DVar) (b : DBoard) : Int × Int := if boardD v b = true then ((rollsTo v.2.2.2.toNat).foldl (danceS v b) 0, 0) else (0, 1)
theorem wtD_bd (r : DRoll) : 1 ≤ wtD r ∧ wtD r ≤ 2 := by unfold wtD; split <;> omega
theorem dance_bd (v : DVar) (b : DBoard) (l : List DRoll) : 0 ≤ l.foldl (danceS v b) 0 ∧ l.foldl (danceS v b) 0 ≤ 2 * l.length := by
  have gen : ∀ (l : List DRoll) (m : Int), 0 ≤ m → 0 ≤ l.foldl (danceS v b) m ∧ l.foldl (danceS v b) m ≤ m + 2 * l.length := by
    intro l
    induction l with
    | nil => intro m h; simp; exact h
    | cons r l ih =>
      intro m h
      have h1 : m ≤ danceS v b m r ∧ danceS v b m r ≤ m + 2 := by have := wtD_bd r; unfold danceS; split <;> omega
      have := ih (danceS v b m r) (by omega)
      simp only [List.foldl_cons, List.length_cons]; omega
  have := gen l 0 (by omega)
  omega
theorem nextD_start {v : DVar} {b : DBoard} {d : Int} : nextD v (startP b) d = [] ↔ legalD v b d = [] := by
  unfold nextD startP
  simp only [List.flatMap_cons, List.flatMap_nil, List.append_nil, stepsOf]
  cases h : legalD v b d with
  | nil => simp
  | cons s l =>
    have := (len_foldl_addP (l.map fun s => (([] : List DStep) ++ [s], afterD v b s)) (addP [] ([] ++ [s], afterD v b s))).1
    simp only [List.map_cons, List.foldl_cons]
    refine ⟨fun e => ?_, fun e => by cases e⟩
    rw [e] at this
    simp [addP] at this
theorem usedD_zero {v : DVar} {b : DBoard} {r : DRoll} : usedD v b r = 0 ↔ legalD v b r.1 = [] ∧ legalD v b r.2 = [] := by
  have seq0 : ∀ d ds, ((seqD v (startP b) (d :: ds)).length : Int) ≤ 0 ↔ legalD v b d = [] := fun d ds => by
    rw [← nextD_start]
    simp only [seqD]
    split
    · next h => simp [h]
    · next h => simp only [List.length_cons, h, iff_false]; omega
  unfold usedD usedL ordersD
  split
  · next e =>
    have := seq0 r.1 [r.1, r.1, r.1]
    simp only [List.map_cons, List.map_nil, List.foldl_cons, List.foldl_nil, rowsD, List.length_cons, ← e, and_self]
    rw [← this]; omega
  · have h1 := seq0 r.1 [r.2]
    have h2 := seq0 r.2 [r.1]
    simp only [List.map_cons, List.map_nil, List.foldl_cons, List.foldl_nil, rowsD, List.length_cons]
    rw [← h1, ← h2]; omega
def c_impl_AllRolls : Con where
  ins := [(true, .v tVar)]
  outs := [(false, .v (.sl tRoll))]
  sh := false
  pre := fun _ => True
  out := fun x => ((if varD x.1 then rollsTo (Int.toNat x.1.2.2.2) else []), ())
  upd := fun x => x
theorem k_impl_AllRolls : ConOk Try.prog 92 c_impl_AllRolls := by
  refine fn_okW (C := cx Try.prog 27 c_impl_AllRolls) (cs := [(119, c_impl_IsVariant)]) (res := Try.f92.results.toList) (fun x => ⟨[{ sh := ⟨[(1, .one (.ref 0)), (3, .one (.ref 1)), (4, .one (.i .i64))], [(0, .box [.i .i64, .i .i64, .i .i64, .i .i64]), (1, .own 33 tRoll true)]⟩, nx := 2, I := fun _ dat_ => (x.1.1 = dat_.2.1.1 ∧ x.1.2.1 = dat_.2.1.2.1 ∧ x.1.2.2.1 = dat_.2.1.2.2.1 ∧ x.1.2.2.2 = dat_.2.1.2.2.2.1) ∧ (dat_.2.2.1 = rollsTo (Int.toNat dat_.1.2.2.1 - 1) ∧ 1 ≤ dat_.1.2.2.1 ∧ dat_.1.2.2.1 ≤ x.1.2.2.2 + 1), mu := fun dat_ => Int.toNat (x.1.2.2.2 + 1 - dat_.1.2.2.1) }, { sh := ⟨[(1, .one (.ref 0)), (3, .one (.ref 1)), (4, .one (.i .i64)), (5, .one (.i .i64))], [(0, .box [.i .i64, .i .i64, .i .i64, .i .i64]), (1, .own 33 tRoll true)]⟩, nx := 2, I := fun g_ dat_ => (x.1.1 = dat_.2.1.1 ∧ x.1.2.1 = dat_.2.1.2.1 ∧ x.1.2.2.1 = dat_.2.1.2.2.1 ∧ x.1.2.2.2 = dat_.2.1.2.2.2.1) ∧ (dat_.2.2.1 = rollsTo (Int.toNat dat_.1.2.2.1 - 1) ++ rowTo dat_.1.2.2.1 (Int.toNat dat_.1.2.2.2.1 - 1) ∧ (1 ≤ dat_.1.2.2.1 ∧ dat_.1.2.2.1 ≤ x.1.2.2.2) ∧ (1 ≤ dat_.1.2.2.2.1 ∧ dat_.1.2.2.2.1 ≤ dat_.1.2.2.1 + 1) ∧ (g_.headD 0) = Int.toNat (x.1.2.2.2 + 1 - dat_.1.2.2.1)), mu := fun dat_ => Int.toNat (dat_.1.2.2.1 + 1 - dat_.1.2.2.2.1) }], [], []⟩) Try.func92 (by kernel_rfl) rfl rfl rfl tysOk.look eqTsOk.look (AllCs.ok (l := [(119, c_impl_IsVariant)]) ⟨k_impl_IsVariant, trivial⟩) mixed rfl rfl rfl ?_
  refine of_nf (P := ∀ v : Int × Int × Int × Int, (True) → ((lensI c_impl_AllRolls.ins (v, ())) → (True ∧ (bsp (!(varD v)) (@Eq (HO c_impl_AllRolls.outs) ([], ()) (c_impl_AllRolls.out (v, ()))) (((v.1 = v.1 ∧ v.2.1 = v.2.1 ∧ v.2.2.1 = v.2.2.1 ∧ v.2.2.2 = v.2.2.2) ∧ ([] = rollsTo (Int.toNat (1 : Int) - 1) ∧ 1 ≤ (1 : Int) ∧ (1 : Int) ≤ v.2.2.2 + 1)) ∧ (∀ a : Int, ∀ t1_0 : Int, ∀ t1_1 : Int, ∀ t1_2 : Int, ∀ t1_3 : Int, ∀ out : List (Int × Int), ((v.1 = t1_0 ∧ v.2.1 = t1_1 ∧ v.2.2.1 = t1_2 ∧ v.2.2.2 = t1_3) ∧ (out = rollsTo (Int.toNat a - 1) ∧ 1 ≤ a ∧ a ≤ v.2.2.2 + 1)) → (bsp (decide (a ≤ t1_3)) (((v.1 = t1_0 ∧ v.2.1 = t1_1 ∧ v.2.2.1 = t1_2 ∧ v.2.2.2 = t1_3) ∧ (out = rollsTo (Int.toNat a - 1) ++ rowTo a (Int.toNat (1 : Int) - 1) ∧ (1 ≤ a ∧ a ≤ v.2.2.2) ∧ (1 ≤ (1 : Int) ∧ (1 : Int) ≤ a + 1) ∧ (Int.toNat (v.2.2.2 + 1 - a)) = Int.toNat (v.2.2.2 + 1 - a))) ∧ (∀ a_1 : Int, ∀ b : Int, ∀ t1_0x1 : Int, ∀ t1_1x1 : Int, ∀ t1_2x1 : Int, ∀ t1_3x1 : Int, ∀ out_1 : List (Int × Int), ((v.1 = t1_0x1 ∧ v.2.1 = t1_1x1 ∧ v.2.2.1 = t1_2x1 ∧ v.2.2.2 = t1_3x1) ∧ (out_1 = rollsTo (Int.toNat a_1 - 1) ++ rowTo a_1 (Int.toNat b - 1) ∧ (1 ≤ a_1 ∧ a_1 ≤ v.2.2.2) ∧ (1 ≤ b ∧ b ≤ a_1 + 1) ∧ (Int.toNat (v.2.2.2 + 1 - a)) = Int.toNat (v.2.2.2 + 1 - a_1))) → (bsp (decide (b ≤ a_1)) ((out_1.length + ([(a_1, b)] : List (Int × Int)).length ≤ AB) ∧ ((inK .i64 (b + 1)) ∧ (((v.1 = t1_0x1 ∧ v.2.1 = t1_1x1 ∧ v.2.2.1 = t1_2x1 ∧ v.2.2.2 = t1_3x1) ∧ ((out_1 ++ [(a_1, b)]) = rollsTo (Int.toNat a_1 - 1) ++ rowTo a_1 (Int.toNat (b + 1) - 1) ∧ (1 ≤ a_1 ∧ a_1 ≤ v.2.2.2) ∧ (1 ≤ (b + 1) ∧ (b + 1) ≤ a_1 + 1) ∧ (Int.toNat (v.2.2.2 + 1 - a)) = Int.toNat (v.2.2.2 + 1 - a_1))) ∧ ((Int.toNat (a_1 + 1 - (b + 1)) : Nat) < Int.toNat (a_1 + 1 - b))))) ((inK .i64 (a_1 + 1)) ∧ (((v.1 = t1_0x1 ∧ v.2.1 = t1_1x1 ∧ v.2.2.1 = t1_2x1 ∧ v.2.2.2 = t1_3x1) ∧ (out_1 = rollsTo (Int.toNat (a_1 + 1) - 1) ∧ 1 ≤ (a_1 + 1) ∧ (a_1 + 1) ≤ v.2.2.2 + 1)) ∧ ((Int.toNat (v.2.2.2 + 1 - (a_1 + 1)) : Nat) < Int.toNat (v.2.2.2 + 1 - a))))))) (@Eq (HO c_impl_AllRolls.outs) (out, ()) (c_impl_AllRolls.out (v, ())))))))))) (by kernel_rfl) ?_
  rintro v hp hl
  refine ⟨trivial, bspB (fun h => ?_) (fun hv => ⟨?_, ?_⟩)⟩
  · simp_all [c_impl_AllRolls]
  all_goals
    simp only [Bool.not_eq_false'] at hv
    obtain ⟨_, _, _, v7, v8⟩ := varD_iff.1 hv
  · exact ⟨(by first | trivial | rfl | (and_intros <;> rfl)), rfl, by omega, by omega⟩

  rintro a t1_0 t1_1 t1_2 t1_3 out ⟨⟨rfl, rfl, rfl, rfl⟩, ⟨ho, a0, a1⟩⟩
  simp only [Prod.eta]
  refine bspD (fun hlt => ?_) (fun hge => ?_)
  · obtain ⟨k, rfl⟩ : ∃ k : Nat, a = (k : Int) + 1 := ⟨(a - 1).toNat, by omega⟩
    rw [show ((k : Int) + 1).toNat - 1 = k by omega] at ho
    refine ⟨⟨(by first | trivial | rfl | (and_intros <;> rfl)), ?_, ⟨by omega, by omega⟩, ⟨by omega, by omega⟩, by first | trivial | rfl⟩, ?_⟩
    · rw [show ((k : Int) + 1).toNat - 1 = k by omega, ho]; simp [rowTo]
    rintro a_1 b t1_0x1 t1_1x1 t1_2x1 t1_3x1 out_1 ⟨⟨rfl, rfl, rfl, rfl⟩, ⟨ho2, ⟨c0, c1⟩, ⟨d0, d1⟩, hG⟩⟩
    simp only [Prod.eta]
    obtain rfl : a_1 = (k : Int) + 1 := by omega
    rw [show ((k : Int) + 1).toNat - 1 = k by omega] at ho2
    have hlen := rollsTo_len k (by omega)
    refine bspD (fun hl2 => ?_) (fun hg2 => ?_)
    · obtain ⟨m, rfl⟩ : ∃ m : Nat, b = (m : Int) + 1 := ⟨(b - 1).toNat, by omega⟩
      rw [show ((m : Int) + 1).toNat - 1 = m by omega] at ho2
      have hl3 : out_1.length ≤ 6 * k + m := by rw [ho2, List.length_append, rowTo_len]; omega
      refine ⟨by simp [AB]; omega, by simp only [inK]; omega, ⟨(by first | trivial | rfl | (and_intros <;> rfl)), ?_, ⟨by omega, by omega⟩, ⟨by omega, by omega⟩, hG⟩, by omega⟩
      rw [show ((k : Int) + 1).toNat - 1 = k by omega, show ((m : Int) + 1 + 1).toNat - 1 = m + 1 by omega, ho2, rowTo, List.append_assoc]
    · refine ⟨by simp only [inK]; omega, ⟨(by first | trivial | rfl | (and_intros <;> rfl)), ?_, by omega, by omega⟩, by omega⟩
      rw [ho2, show ((k : Int) + 1 + 1).toNat - 1 = k + 1 by omega, show b.toNat - 1 = k + 1 by omega, rollsTo]
  · have e : a.toNat - 1 = v.2.2.2.toNat := by omega
    rw [e] at ho
    subst ho
    simp [c_impl_AllRolls, hv]
def c_spec_l07All : Con where
  ins := [(true, .v tVar)]
  outs := [(false, .v (.sl tRoll))]
  sh := false
  pre := fun x => varD x.1 = true
  out := fun x => (rollsTo (Int.toNat x.1.2.2.2), ())
  upd := fun x => x
theorem k_spec_l07All : ConOk Try.prog 87 c_spec_l07All := by
  refine fn_okW (C := cx Try.prog 25 c_spec_l07All) (cs := []) (res := Try.f87.results.toList) (fun x => ⟨[{ sh := ⟨[(1, .one (.ref 0)), (3, .one (.ref 1)), (4, .one (.i .i64))], [(0, .box [.i .i64, .i .i64, .i .i64, .i .i64]), (1, .own 33 tRoll true)]⟩, nx := 2, I := fun _ dat_ => (x.1.1 = dat_.2.1.1 ∧ x.1.2.1 = dat_.2.1.2.1 ∧ x.1.2.2.1 = dat_.2.1.2.2.1 ∧ x.1.2.2.2 = dat_.2.1.2.2.2.1) ∧ (dat_.2.2.1 = rollsTo (Int.toNat dat_.1.2.2.1 - 1) ∧ 1 ≤ dat_.1.2.2.1 ∧ dat_.1.2.2.1 ≤ x.1.2.2.2 + 1), mu := fun dat_ => Int.toNat (x.1.2.2.2 + 1 - dat_.1.2.2.1) }, { sh := ⟨[(1, .one (.ref 0)), (3, .one (.ref 1)), (4, .one (.i .i64)), (5, .one (.i .i64))], [(0, .box [.i .i64, .i .i64, .i .i64, .i .i64]), (1, .own 33 tRoll true)]⟩, nx := 2, I := fun g_ dat_ => (x.1.1 = dat_.2.1.1 ∧ x.1.2.1 = dat_.2.1.2.1 ∧ x.1.2.2.1 = dat_.2.1.2.2.1 ∧ x.1.2.2.2 = dat_.2.1.2.2.2.1) ∧ (dat_.2.2.1 = rollsTo (Int.toNat dat_.1.2.2.1 - 1) ++ rowTo dat_.1.2.2.1 (Int.toNat dat_.1.2.2.2.1 - 1) ∧ (1 ≤ dat_.1.2.2.1 ∧ dat_.1.2.2.1 ≤ x.1.2.2.2) ∧ (1 ≤ dat_.1.2.2.2.1 ∧ dat_.1.2.2.2.1 ≤ dat_.1.2.2.1 + 1) ∧ (g_.headD 0) = Int.toNat (x.1.2.2.2 + 1 - dat_.1.2.2.1)), mu := fun dat_ => Int.toNat (dat_.1.2.2.1 + 1 - dat_.1.2.2.2.1) }], [], []⟩) Try.func87 (by kernel_rfl) rfl rfl rfl tysOk.look eqTsOk.look (AllCs.ok (l := []) trivial) mixed rfl rfl rfl ?_
  refine of_nf (P := ∀ v : Int × Int × Int × Int, (varD v = true) → ((lensI c_spec_l07All.ins (v, ())) → (((v.1 = v.1 ∧ v.2.1 = v.2.1 ∧ v.2.2.1 = v.2.2.1 ∧ v.2.2.2 = v.2.2.2) ∧ ([] = rollsTo (Int.toNat (1 : Int) - 1) ∧ 1 ≤ (1 : Int) ∧ (1 : Int) ≤ v.2.2.2 + 1)) ∧ (∀ a : Int, ∀ t1_0 : Int, ∀ t1_1 : Int, ∀ t1_2 : Int, ∀ t1_3 : Int, ∀ out : List (Int × Int), ((v.1 = t1_0 ∧ v.2.1 = t1_1 ∧ v.2.2.1 = t1_2 ∧ v.2.2.2 = t1_3) ∧ (out = rollsTo (Int.toNat a - 1) ∧ 1 ≤ a ∧ a ≤ v.2.2.2 + 1)) → (bsp (decide (a ≤ t1_3)) (((v.1 = t1_0 ∧ v.2.1 = t1_1 ∧ v.2.2.1 = t1_2 ∧ v.2.2.2 = t1_3) ∧ (out = rollsTo (Int.toNat a - 1) ++ rowTo a (Int.toNat (1 : Int) - 1) ∧ (1 ≤ a ∧ a ≤ v.2.2.2) ∧ (1 ≤ (1 : Int) ∧ (1 : Int) ≤ a + 1) ∧ (Int.toNat (v.2.2.2 + 1 - a)) = Int.toNat (v.2.2.2 + 1 - a))) ∧ (∀ a_1 : Int, ∀ b : Int, ∀ t1_0x1 : Int, ∀ t1_1x1 : Int, ∀ t1_2x1 : Int, ∀ t1_3x1 : Int, ∀ out_1 : List (Int × Int), ((v.1 = t1_0x1 ∧ v.2.1 = t1_1x1 ∧ v.2.2.1 = t1_2x1 ∧ v.2.2.2 = t1_3x1) ∧ (out_1 = rollsTo (Int.toNat a_1 - 1) ++ rowTo a_1 (Int.toNat b - 1) ∧ (1 ≤ a_1 ∧ a_1 ≤ v.2.2.2) ∧ (1 ≤ b ∧ b ≤ a_1 + 1) ∧ (Int.toNat (v.2.2.2 + 1 - a)) = Int.toNat (v.2.2.2 + 1 - a_1))) → (bsp (decide (b ≤ a_1)) ((out_1.length + ([(a_1, b)] : List (Int × Int)).length ≤ AB) ∧ ((inK .i64 (b + 1)) ∧ (((v.1 = t1_0x1 ∧ v.2.1 = t1_1x1 ∧ v.2.2.1 = t1_2x1 ∧ v.2.2.2 = t1_3x1) ∧ ((out_1 ++ [(a_1, b)]) = rollsTo (Int.toNat a_1 - 1) ++ rowTo a_1 (Int.toNat (b + 1) - 1) ∧ (1 ≤ a_1 ∧ a_1 ≤ v.2.2.2) ∧ (1 ≤ (b + 1) ∧ (b + 1) ≤ a_1 + 1) ∧ (Int.toNat (v.2.2.2 + 1 - a)) = Int.toNat (v.2.2.2 + 1 - a_1))) ∧ ((Int.toNat (a_1 + 1 - (b + 1)) : Nat) < Int.toNat (a_1 + 1 - b))))) ((inK .i64 (a_1 + 1)) ∧ (((v.1 = t1_0x1 ∧ v.2.1 = t1_1x1 ∧ v.2.2.1 = t1_2x1 ∧ v.2.2.2 = t1_3x1) ∧ (out_1 = rollsTo (Int.toNat (a_1 + 1) - 1) ∧ 1 ≤ (a_1 + 1) ∧ (a_1 + 1) ≤ v.2.2.2 + 1)) ∧ ((Int.toNat (v.2.2.2 + 1 - (a_1 + 1)) : Nat) < Int.toNat (v.2.2.2 + 1 - a))))))) (@Eq (HO c_spec_l07All.outs) (out, ()) (c_spec_l07All.out (v, ())))))))) (by kernel_rfl) ?_
  rintro v hv hl
  obtain ⟨_, _, _, v7, v8⟩ := varD_iff.1 hv
  refine ⟨⟨(by first | trivial | rfl | (and_intros <;> rfl)), rfl, by omega, by omega⟩, ?_⟩

  rintro a t1_0 t1_1 t1_2 t1_3 out ⟨⟨rfl, rfl, rfl, rfl⟩, ⟨ho, a0, a1⟩⟩
  simp only [Prod.eta]
  refine bspD (fun hlt => ?_) (fun hge => ?_)
  · obtain ⟨k, rfl⟩ : ∃ k : Nat, a = (k : Int) + 1 := ⟨(a - 1).toNat, by omega⟩
    rw [show ((k : Int) + 1).toNat - 1 = k by omega] at ho
    refine ⟨⟨(by first | trivial | rfl | (and_intros <;> rfl)), ?_, ⟨by omega, by omega⟩, ⟨by omega, by omega⟩, by first | trivial | rfl⟩, ?_⟩
    · rw [show ((k : Int) + 1).toNat - 1 = k by omega, ho]; simp [rowTo]
    rintro a_1 b t1_0x1 t1_1x1 t1_2x1 t1_3x1 out_1 ⟨⟨rfl, rfl, rfl, rfl⟩, ⟨ho2, ⟨c0, c1⟩, ⟨d0, d1⟩, hG⟩⟩
    simp only [Prod.eta]
    obtain rfl : a_1 = (k : Int) + 1 := by omega
    rw [show ((k : Int) + 1).toNat - 1 = k by omega] at ho2
    have hlen := rollsTo_len k (by omega)
    refine bspD (fun hl2 => ?_) (fun hg2 => ?_)
    · obtain ⟨m, rfl⟩ : ∃ m : Nat, b = (m : Int) + 1 := ⟨(b - 1).toNat, by omega⟩
      rw [show ((m : Int) + 1).toNat - 1 = m by omega] at ho2
      have hl3 : out_1.length ≤ 6 * k + m := by rw [ho2, List.length_append, rowTo_len]; omega
      refine ⟨by simp [AB]; omega, by simp only [inK]; omega, ⟨(by first | trivial | rfl | (and_intros <;> rfl)), ?_, ⟨by omega, by omega⟩, ⟨by omega, by omega⟩, hG⟩, by omega⟩
      rw [show ((k : Int) + 1).toNat - 1 = k by omega, show ((m : Int) + 1 + 1).toNat - 1 = m + 1 by omega, ho2, rowTo, List.append_assoc]
    · refine ⟨by simp only [inK]; omega, ⟨(by first | trivial | rfl | (and_intros <;> rfl)), ?_, by omega, by omega⟩, by omega⟩
      rw [ho2, show ((k : Int) + 1 + 1).toNat - 1 = k + 1 by omega, show b.toNat - 1 = k + 1 by omega, rollsTo]
  · have e : a.toNat - 1 = v.2.2.2.toNat := by omega
    rw [e] at ho
    subst ho
    rfl
def c_spec_l07Weight : Con where
  ins := [(true, .v tRoll)]
  outs := [(false, .v tI)]
  sh := false
  pre := fun _ => True
  out := fun x => (wtD x.1, ())
  upd := fun x => x
theorem k_spec_l07Weight : ConOk Try.prog 89 c_spec_l07Weight := by
  refine fn_ok (C := cx Try.prog 8 c_spec_l07Weight) (cs := []) (res := Try.f89.results.toList) (fun _ => ⟨[], [], []⟩) Try.func89 (by kernel_rfl) rfl rfl rfl tysOk.look eqTsOk.look (AllCs.ok (l := []) trivial) mixed rfl rfl rfl ?_
  refine of_nf (P := ∀ rA : Int, ∀ rB : Int, (True) → ((lensI c_spec_l07Weight.ins ((rA, rB), ())) → (bsp (decide (rA = rB)) (@Eq (HO c_spec_l07Weight.outs) (1, ()) (c_spec_l07Weight.out ((rA, rB), ()))) (@Eq (HO c_spec_l07Weight.outs) (2, ()) (c_spec_l07Weight.out ((rA, rB), ())))))) (by kernel_rfl) ?_
  rintro rA rB hp hl
  refine bspD (fun h => ?_) (fun h => ?_) <;> simp [c_spec_l07Weight, wtD, h]
def c_impl_RollWeight : Con where
  ins := [(true, .v tVar), (true, .v tRoll)]
  outs := [(false, .v tI)]
  sh := false
  pre := fun _ => True
  out := fun x => (weightD x.1 x.2.1, ())
  upd := fun x => x
theorem k_impl_RollWeight : ConOk Try.prog 94 c_impl_RollWeight := by
  refine fn_okW (C := cx Try.prog 16 c_impl_RollWeight) (cs := [(69, c_impl_IsRoll)]) (res := Try.f94.results.toList) (fun _ => ⟨[], [], []⟩) Try.func94 (by kernel_rfl) rfl rfl rfl tysOk.look eqTsOk.look (AllCs.ok (l := [(69, c_impl_IsRoll)]) ⟨k_impl_IsRoll, trivial⟩) mixed rfl rfl rfl ?_
  refine of_nf (P := ∀ v : Int × Int × Int × Int, ∀ r : Int × Int, (True) → ((lensI c_impl_RollWeight.ins (v, r, ())) → (True ∧ (bsp (!(rollD v r)) (@Eq (HO c_impl_RollWeight.outs) (0, ()) (c_impl_RollWeight.out (v, r, ()))) (bsp (decide (r.1 = r.2)) (@Eq (HO c_impl_RollWeight.outs) (1, ()) (c_impl_RollWeight.out (v, r, ()))) (@Eq (HO c_impl_RollWeight.outs) (2, ()) (c_impl_RollWeight.out (v, r, ())))))))) (by kernel_rfl) ?_
  rintro v r hp hl
  refine ⟨trivial, bspB (fun h => ?_) (fun h => bspD (fun g => ?_) (fun g => ?_))⟩ <;> simp_all [c_impl_RollWeight, weightD, wtD]
def c_impl_DancingWeight : Con where
  ins := [(true, .v tVar), (true, .v tBoard)]
  outs := [(false, .v tI), (false, .v tI)]
  sh := false
  pre := fun _ => True
  out := fun x => ((danceD x.1 x.2.1).1, (danceD x.1 x.2.1).2, ())
  upd := fun x => x
theorem k_impl_DancingWeight : ConOk Try.prog 37 c_impl_DancingWeight := by
  refine fn_okW (C := cx Try.prog 43 c_impl_DancingWeight) (cs := [(91, c_impl_IsBoard), (92, c_impl_AllRolls), (93, c_impl_legalSteps), (94, c_impl_RollWeight)]) (res := Try.f37.results.toList) (fun x => ⟨[{ sh := ⟨[(2, .one (.ref 0)), (3, .one (.ref 1)), (6, .one (.i .i64)), (14, .one (.ref 2)), (15, .one (.i .i64)), (16, .one (.i .i64))], [(0, .box [.i .i64, .i .i64, .i .i64, .i .i64]), (1, .box [.ref 3, .ref 4]), (2, .imm tRoll true), (3, .imm tI false), (4, .imm tI false)]⟩, nx := 5, I := fun _ dat_ => (((if varD x.1 then rollsTo (Int.toNat x.1.2.2.2) else []).length : Int) = dat_.1.2.2.2.2.1 ∧ x.1.1 = dat_.2.1.1 ∧ x.1.2.1 = dat_.2.1.2.1 ∧ x.1.2.2.1 = dat_.2.1.2.2.1 ∧ x.1.2.2.2 = dat_.2.1.2.2.2.1 ∧ (if varD x.1 then rollsTo (Int.toNat x.1.2.2.2) else []) = dat_.2.2.2.1 ∧ x.2.1.1 = dat_.2.2.2.2.1 ∧ x.2.1.2 = dat_.2.2.2.2.2.1) ∧ (dat_.1.2.2.1 = List.foldl (danceS x.1 x.2.1) 0 (List.take (Int.toNat dat_.1.2.2.2.2.2.1) (rollsTo (Int.toNat x.1.2.2.2))) ∧ 0 ≤ dat_.1.2.2.2.2.2.1 ∧ dat_.1.2.2.2.2.2.1 ≤ (List.length (rollsTo (Int.toNat x.1.2.2.2)) : Int)), mu := fun dat_ => Int.toNat ((List.length (rollsTo (Int.toNat x.1.2.2.2)) : Int) - dat_.1.2.2.2.2.2.1) }], [], []⟩) Try.func37 (by kernel_rfl) rfl rfl rfl tysOk.look eqTsOk.look (AllCs.ok (l := [(91, c_impl_IsBoard), (92, c_impl_AllRolls), (93, c_impl_legalSteps), (94, c_impl_RollWeight)]) ⟨k_impl_IsBoard, k_impl_AllRolls, k_impl_legalSteps, k_impl_RollWeight, trivial⟩) mixed rfl rfl rfl ?_
  refine of_nf (P := ∀ v : Int × Int × Int × Int, ∀ b : (List Int) × List Int, (True) → ((lensI c_impl_DancingWeight.ins (v, b, ())) → (True ∧ (bsp (!(boardD v b)) (@Eq (HO c_impl_DancingWeight.outs) (0, 1, ()) (c_impl_DancingWeight.out (v, b, ()))) (True ∧ (((((if varD v then rollsTo (Int.toNat v.2.2.2) else []).length : Int) = ((if varD v then rollsTo (Int.toNat v.2.2.2) else []).length : Int) ∧ v.1 = v.1 ∧ v.2.1 = v.2.1 ∧ v.2.2.1 = v.2.2.1 ∧ v.2.2.2 = v.2.2.2 ∧ (if varD v then rollsTo (Int.toNat v.2.2.2) else []) = (if varD v then rollsTo (Int.toNat v.2.2.2) else []) ∧ b.1 = b.1 ∧ b.2 = b.2) ∧ ((0 : Int) = List.foldl (danceS v b) 0 (List.take (Int.toNat (0 : Int)) (rollsTo (Int.toNat v.2.2.2))) ∧ 0 ≤ (0 : Int) ∧ (0 : Int) ≤ (List.length (rollsTo (Int.toNat v.2.2.2)) : Int))) ∧ (∀ w : Int, ∀ n : Int, ∀ i : Int, ∀ t2_0 : Int, ∀ t2_1 : Int, ∀ t2_2 : Int, ∀ t2_3 : Int, ∀ rolls : List (Int × Int), ∀ t3_0 : List Int, ∀ t3_1 : List Int, ((((if varD v then rollsTo (Int.toNat v.2.2.2) else []).length : Int) = n ∧ v.1 = t2_0 ∧ v.2.1 = t2_1 ∧ v.2.2.1 = t2_2 ∧ v.2.2.2 = t2_3 ∧ (if varD v then rollsTo (Int.toNat v.2.2.2) else []) = rolls ∧ b.1 = t3_0 ∧ b.2 = t3_1) ∧ (w = List.foldl (danceS v b) 0 (List.take (Int.toNat i) (rollsTo (Int.toNat v.2.2.2))) ∧ 0 ≤ i ∧ i ≤ (List.length (rollsTo (Int.toNat v.2.2.2)) : Int))) → (bsp (decide (i < n)) ((0 ≤ i ∧ i < (rolls.length : Int)) ∧ ((i.toNat < rolls.length) ∧ ((okB (t2_0, t2_1, t2_2, t2_3) (t3_0, t3_1) ∧ 1 ≤ (rolls.getD i.toNat (0, 0)).1 ∧ (rolls.getD i.toNat (0, 0)).1 ≤ 6) ∧ (bsp (decide (((legalD (t2_0, t2_1, t2_2, t2_3) (t3_0, t3_1) (rolls.getD i.toNat (0, 0)).1).length : Int) = (0 : Int))) ((okB (t2_0, t2_1, t2_2, t2_3) (t3_0, t3_1) ∧ 1 ≤ (rolls.getD i.toNat (0, 0)).2 ∧ (rolls.getD i.toNat (0, 0)).2 ≤ 6) ∧ (bsp (decide (((legalD (t2_0, t2_1, t2_2, t2_3) (t3_0, t3_1) (rolls.getD i.toNat (0, 0)).2).length : Int) = (0 : Int))) (True ∧ ((inK .i64 (w + (weightD (t2_0, t2_1, t2_2, t2_3) (rolls.getD i.toNat (0, 0))))) ∧ ((inK .i64 (i + 1)) ∧ (((((if varD v then rollsTo (Int.toNat v.2.2.2) else []).length : Int) = n ∧ v.1 = t2_0 ∧ v.2.1 = t2_1 ∧ v.2.2.1 = t2_2 ∧ v.2.2.2 = t2_3 ∧ (if varD v then rollsTo (Int.toNat v.2.2.2) else []) = rolls ∧ b.1 = t3_0 ∧ b.2 = t3_1) ∧ ((w + (weightD (t2_0, t2_1, t2_2, t2_3) (rolls.getD i.toNat (0, 0)))) = List.foldl (danceS v b) 0 (List.take (Int.toNat (i + 1)) (rollsTo (Int.toNat v.2.2.2))) ∧ 0 ≤ (i + 1) ∧ (i + 1) ≤ (List.length (rollsTo (Int.toNat v.2.2.2)) : Int))) ∧ ((Int.toNat ((List.length (rollsTo (Int.toNat v.2.2.2)) : Int) - (i + 1)) : Nat) < Int.toNat ((List.length (rollsTo (Int.toNat v.2.2.2)) : Int) - i)))))) ((inK .i64 (i + 1)) ∧ (((((if varD v then rollsTo (Int.toNat v.2.2.2) else []).length : Int) = n ∧ v.1 = t2_0 ∧ v.2.1 = t2_1 ∧ v.2.2.1 = t2_2 ∧ v.2.2.2 = t2_3 ∧ (if varD v then rollsTo (Int.toNat v.2.2.2) else []) = rolls ∧ b.1 = t3_0 ∧ b.2 = t3_1) ∧ (w = List.foldl (danceS v b) 0 (List.take (Int.toNat (i + 1)) (rollsTo (Int.toNat v.2.2.2))) ∧ 0 ≤ (i + 1) ∧ (i + 1) ≤ (List.length (rollsTo (Int.toNat v.2.2.2)) : Int))) ∧ ((Int.toNat ((List.length (rollsTo (Int.toNat v.2.2.2)) : Int) - (i + 1)) : Nat) < Int.toNat ((List.length (rollsTo (Int.toNat v.2.2.2)) : Int) - i)))))) ((inK .i64 (i + 1)) ∧ (((((if varD v then rollsTo (Int.toNat v.2.2.2) else []).length : Int) = n ∧ v.1 = t2_0 ∧ v.2.1 = t2_1 ∧ v.2.2.1 = t2_2 ∧ v.2.2.2 = t2_3 ∧ (if varD v then rollsTo (Int.toNat v.2.2.2) else []) = rolls ∧ b.1 = t3_0 ∧ b.2 = t3_1) ∧ (w = List.foldl (danceS v b) 0 (List.take (Int.toNat (i + 1)) (rollsTo (Int.toNat v.2.2.2))) ∧ 0 ≤ (i + 1) ∧ (i + 1) ≤ (List.length (rollsTo (Int.toNat v.2.2.2)) : Int))) ∧ ((Int.toNat ((List.length (rollsTo (Int.toNat v.2.2.2)) : Int) - (i + 1)) : Nat) < Int.toNat ((List.length (rollsTo (Int.toNat v.2.2.2)) : Int) - i)))))))) (@Eq (HO c_impl_DancingWeight.outs) (w, 0, ()) (c_impl_DancingWeight.out (v, b, ()))))))))))) (by kernel_rfl) ?_
  rintro v b hp hl
  refine ⟨trivial, bspB (fun h => by simp_all [c_impl_DancingWeight, danceD]) (fun hbd => ?_)⟩

  have hbo : boardD v b = true := by simpa using hbd
  have hb := okB_of hbo
  have hv := hb.1
  have hn := rollsTo_len v.2.2.2.toNat (by have := hb.facts; omega)
  have hs6 := hb.facts.2.2.2.2.2.2.2.2.2
  simp only [hv, if_true]
  refine ⟨trivial, ⟨(by first | trivial | rfl | (and_intros <;> rfl)), by simp, by omega, by omega⟩, ?_⟩
  rintro w n i t2_0 t2_1 t2_2 t2_3 rolls t3_0 t3_1 ⟨⟨rfl, rfl, rfl, rfl, rfl, rfl, rfl, rfl⟩, ⟨hw, i0, i1⟩⟩
  simp only [Prod.eta]
  refine bspD (fun hlt => ?_) (fun hge => ?_)
  · obtain ⟨k, rfl⟩ : ∃ k : Nat, i = k := ⟨i.toNat, by omega⟩
    simp only [Int.toNat_natCast] at hw ⊢
    have hk : k < (rollsTo v.2.2.2.toNat).length := by omega
    have hro := rollsTo_ok hv (getD_mem hk (0, 0))
    have t := take_fold_succ (danceS v b) 0 hk (0, 0)
    rw [← hw] at t
    have bd := dance_bd v b ((rollsTo v.2.2.2.toNat).take k)
    rw [← hw, List.length_take] at bd
    have hfa := rollD_facts hro
    have hwt := wtD_bd ((rollsTo v.2.2.2.toNat).getD k (0, 0))
    have e : ((k : Int) + 1).toNat = k + 1 := by omega
    rw [e]
    refine ⟨⟨by omega, by omega⟩, hk, ⟨hb, hfa.1⟩, bspD (fun h1 => ⟨⟨hb, hfa.2⟩, bspD (fun h2 => ?_) (fun h2 => ?_)⟩) (fun h1 => ?_)⟩
    · have e2 : danceS v b w ((rollsTo v.2.2.2.toNat).getD k (0, 0)) = w + wtD ((rollsTo v.2.2.2.toNat).getD k (0, 0)) := if_pos ⟨List.length_eq_zero_iff.1 (by omega), List.length_eq_zero_iff.1 (by omega)⟩
      have e3 : weightD v ((rollsTo v.2.2.2.toNat).getD k (0, 0)) = wtD ((rollsTo v.2.2.2.toNat).getD k (0, 0)) := if_pos hro
      rw [e3]
      refine ⟨trivial, by simp only [inK]; omega, by simp only [inK]; omega, ⟨(by first | trivial | rfl | (and_intros <;> rfl)), by rw [t, e2], by omega, by omega⟩, by omega⟩
    · have e2 : danceS v b w ((rollsTo v.2.2.2.toNat).getD k (0, 0)) = w := if_neg fun h => h2 (by rw [h.2]; rfl)
      exact ⟨by simp only [inK]; omega, ⟨(by first | trivial | rfl | (and_intros <;> rfl)), by rw [t, e2], by omega, by omega⟩, by omega⟩
    · have e2 : danceS v b w ((rollsTo v.2.2.2.toNat).getD k (0, 0)) = w := if_neg fun h => h1 (by rw [h.1]; rfl)
      exact ⟨by simp only [inK]; omega, ⟨(by first | trivial | rfl | (and_intros <;> rfl)), by rw [t, e2], by omega, by omega⟩, by omega⟩
  · rw [List.take_of_length_le (by omega)] at hw
    simp only [c_impl_DancingWeight, danceD, hbo, if_true, hw]
def c_spec_DancingWeight : Con where
  ins := [(true, .v tVar), (true, .v tBoard)]
  outs := [(false, .v tI), (false, .v tI)]
  sh := false
  pre := fun _ => True
  out := fun x => ((danceD x.1 x.2.1).1, (danceD x.1 x.2.1).2, ())
  upd := fun x => x
theorem k_spec_DancingWeight : ConOk Try.prog 35 c_spec_DancingWeight := by
  refine fn_okW (C := cx Try.prog 37 c_spec_DancingWeight) (cs := [(86, c_spec_IsBoard), (87, c_spec_l07All), (88, c_spec_l05Used), (89, c_spec_l07Weight)]) (res := Try.f35.results.toList) (fun x => ⟨[{ sh := ⟨[(2, .one (.ref 0)), (3, .one (.ref 1)), (6, .one (.i .i64)), (7, .one (.ref 2)), (8, .one (.i .i64))], [(0, .box [.i .i64, .i .i64, .i .i64, .i .i64]), (1, .box [.ref 3, .ref 4]), (2, .imm tRoll true), (3, .imm tI false), (4, .imm tI false)]⟩, nx := 5, I := fun _ dat_ => (x.1.1 = dat_.2.1.1 ∧ x.1.2.1 = dat_.2.1.2.1 ∧ x.1.2.2.1 = dat_.2.1.2.2.1 ∧ x.1.2.2.2 = dat_.2.1.2.2.2.1 ∧ rollsTo (Int.toNat x.1.2.2.2) = dat_.2.2.2.1 ∧ x.2.1.1 = dat_.2.2.2.2.1 ∧ x.2.1.2 = dat_.2.2.2.2.2.1) ∧ (dat_.1.2.2.1 = List.foldl (danceS x.1 x.2.1) 0 (List.take (Int.toNat dat_.1.2.2.2.2.1) (rollsTo (Int.toNat x.1.2.2.2))) ∧ 0 ≤ dat_.1.2.2.2.2.1 ∧ dat_.1.2.2.2.2.1 ≤ (List.length (rollsTo (Int.toNat x.1.2.2.2)) : Int)), mu := fun dat_ => Int.toNat ((List.length (rollsTo (Int.toNat x.1.2.2.2)) : Int) - dat_.1.2.2.2.2.1) }], [(8, ⟨[[], [], [], [], [2, 3], [2, 3, 4], [0, 1, 2, 3, 4, 5], [0, 1, 2, 3, 4, 5, 6]], [[1, 2, 3, 4, 5], [0, 2, 3, 4, 5], [0, 1, 3], [0, 1, 2], [0, 1], [0, 1], [], []], []⟩)], []⟩) Try.func35 (by kernel_rfl) rfl rfl rfl tysOk.look eqTsOk.look (AllCs.ok (l := [(86, c_spec_IsBoard), (87, c_spec_l07All), (88, c_spec_l05Used), (89, c_spec_l07Weight)]) ⟨k_spec_IsBoard, k_spec_l07All, k_spec_l05Used, k_spec_l07Weight, trivial⟩) mixed rfl rfl rfl ?_
  refine of_nf (P := ∀ v : Int × Int × Int × Int, ∀ b : (List Int) × List Int, (True) → ((lensI c_spec_DancingWeight.ins (v, b, ())) → (True ∧ (bsp (!(boardD v b)) (@Eq (HO c_spec_DancingWeight.outs) (0, 1, ()) (c_spec_DancingWeight.out (v, b, ()))) ((varD v = true) ∧ (((v.1 = v.1 ∧ v.2.1 = v.2.1 ∧ v.2.2.1 = v.2.2.1 ∧ v.2.2.2 = v.2.2.2 ∧ rollsTo (Int.toNat v.2.2.2) = (rollsTo (Int.toNat v.2.2.2)) ∧ b.1 = b.1 ∧ b.2 = b.2) ∧ ((0 : Int) = List.foldl (danceS v b) 0 (List.take (Int.toNat (0 : Int)) (rollsTo (Int.toNat v.2.2.2))) ∧ 0 ≤ (0 : Int) ∧ (0 : Int) ≤ (List.length (rollsTo (Int.toNat v.2.2.2)) : Int))) ∧ (∀ w : Int, ∀ i : Int, ∀ t2_0 : Int, ∀ t2_1 : Int, ∀ t2_2 : Int, ∀ t2_3 : Int, ∀ rolls : List (Int × Int), ∀ t3_0 : List Int, ∀ t3_1 : List Int, ((v.1 = t2_0 ∧ v.2.1 = t2_1 ∧ v.2.2.1 = t2_2 ∧ v.2.2.2 = t2_3 ∧ rollsTo (Int.toNat v.2.2.2) = rolls ∧ b.1 = t3_0 ∧ b.2 = t3_1) ∧ (w = List.foldl (danceS v b) 0 (List.take (Int.toNat i) (rollsTo (Int.toNat v.2.2.2))) ∧ 0 ≤ i ∧ i ≤ (List.length (rollsTo (Int.toNat v.2.2.2)) : Int))) → (bsp (decide (i < (rolls.length : Int))) ((0 ≤ i ∧ i < (rolls.length : Int)) ∧ ((i.toNat < rolls.length) ∧ ((okB (t2_0, t2_1, t2_2, t2_3) (t3_0, t3_1) ∧ rollD (t2_0, t2_1, t2_2, t2_3) (rolls.getD i.toNat (0, 0)) = true) ∧ (bsp (decide ((usedD (t2_0, t2_1, t2_2, t2_3) (t3_0, t3_1) (rolls.getD i.toNat (0, 0))) = (0 : Int))) ((0 ≤ i ∧ i < (rolls.length : Int)) ∧ ((i.toNat < rolls.length) ∧ (True ∧ ((inK .i64 (w + (wtD (rolls.getD i.toNat (0, 0))))) ∧ ((inK .i64 (i + 1)) ∧ (((v.1 = t2_0 ∧ v.2.1 = t2_1 ∧ v.2.2.1 = t2_2 ∧ v.2.2.2 = t2_3 ∧ rollsTo (Int.toNat v.2.2.2) = rolls ∧ b.1 = t3_0 ∧ b.2 = t3_1) ∧ ((w + (wtD (rolls.getD i.toNat (0, 0)))) = List.foldl (danceS v b) 0 (List.take (Int.toNat (i + 1)) (rollsTo (Int.toNat v.2.2.2))) ∧ 0 ≤ (i + 1) ∧ (i + 1) ≤ (List.length (rollsTo (Int.toNat v.2.2.2)) : Int))) ∧ ((Int.toNat ((List.length (rollsTo (Int.toNat v.2.2.2)) : Int) - (i + 1)) : Nat) < Int.toNat ((List.length (rollsTo (Int.toNat v.2.2.2)) : Int) - i)))))))) ((inK .i64 (i + 1)) ∧ (((v.1 = t2_0 ∧ v.2.1 = t2_1 ∧ v.2.2.1 = t2_2 ∧ v.2.2.2 = t2_3 ∧ rollsTo (Int.toNat v.2.2.2) = rolls ∧ b.1 = t3_0 ∧ b.2 = t3_1) ∧ (w = List.foldl (danceS v b) 0 (List.take (Int.toNat (i + 1)) (rollsTo (Int.toNat v.2.2.2))) ∧ 0 ≤ (i + 1) ∧ (i + 1) ≤ (List.length (rollsTo (Int.toNat v.2.2.2)) : Int))) ∧ ((Int.toNat ((List.length (rollsTo (Int.toNat v.2.2.2)) : Int) - (i + 1)) : Nat) < Int.toNat ((List.length (rollsTo (Int.toNat v.2.2.2)) : Int) - i)))))))) (@Eq (HO c_spec_DancingWeight.outs) (w, 0, ()) (c_spec_DancingWeight.out (v, b, ()))))))))))) (by kernel_rfl) ?_
  rintro v b hp hl
  refine ⟨trivial, bspB (fun h => by simp_all [c_spec_DancingWeight, danceD]) (fun hbd => ?_)⟩

  have hbo : boardD v b = true := by simpa using hbd
  have hb := okB_of hbo
  have hv := hb.1
  have hn := rollsTo_len v.2.2.2.toNat (by have := hb.facts; omega)
  have hs6 := hb.facts.2.2.2.2.2.2.2.2.2
  refine ⟨hv, ⟨(by first | trivial | rfl | (and_intros <;> rfl)), by simp, by omega, by omega⟩, ?_⟩
  rintro w i t2_0 t2_1 t2_2 t2_3 rolls t3_0 t3_1 ⟨⟨rfl, rfl, rfl, rfl, rfl, rfl, rfl⟩, ⟨hw, i0, i1⟩⟩
  simp only [Prod.eta]
  refine bspD (fun hlt => ?_) (fun hge => ?_)
  · obtain ⟨k, rfl⟩ : ∃ k : Nat, i = k := ⟨i.toNat, by omega⟩
    simp only [Int.toNat_natCast] at hw ⊢
    have hk : k < (rollsTo v.2.2.2.toNat).length := by omega
    have hro := rollsTo_ok hv (getD_mem hk (0, 0))
    have t := take_fold_succ (danceS v b) 0 hk (0, 0)
    rw [← hw] at t
    have bd := dance_bd v b ((rollsTo v.2.2.2.toNat).take k)
    rw [← hw, List.length_take] at bd
    have hfa := rollD_facts hro
    have hwt := wtD_bd ((rollsTo v.2.2.2.toNat).getD k (0, 0))
    have e : ((k : Int) + 1).toNat = k + 1 := by omega
    rw [e]
    refine ⟨⟨by omega, by omega⟩, hk, ⟨hb, hro⟩, bspD (fun h1 => ?_) (fun h1 => ?_)⟩
    · have e2 : danceS v b w ((rollsTo v.2.2.2.toNat).getD k (0, 0)) = w + wtD ((rollsTo v.2.2.2.toNat).getD k (0, 0)) := if_pos (usedD_zero.1 h1)
      refine ⟨⟨by omega, by omega⟩, hk, trivial, by simp only [inK]; omega, by simp only [inK]; omega, ⟨(by first | trivial | rfl | (and_intros <;> rfl)), by rw [t, e2], by omega, by omega⟩, by omega⟩
    · have e2 : danceS v b w ((rollsTo v.2.2.2.toNat).getD k (0, 0)) = w := if_neg fun h => h1 (usedD_zero.2 h)
      exact ⟨by simp only [inK]; omega, ⟨(by first | trivial | rfl | (and_intros <;> rfl)), by rw [t, e2], by omega, by omega⟩, by omega⟩
  · rw [List.take_of_length_le (by omega)] at hw
    simp only [c_spec_DancingWeight, danceD, hbo, if_true, hw]
def c_laws_FnExactDancingWeight : Con where
  ins := [(true, .v tVar), (true, .v tBoard)]
  outs := [(false, .v .b)]
  sh := false
  pre := fun x => wfD tVar x.1 ∧ wfD tBoard x.2.1
  out := fun _ => (true, ())
  upd := fun x => x
theorem k_laws_FnExactDancingWeight : ConOk Try.prog 7 c_laws_FnExactDancingWeight := by
  refine fn_okW (C := cx Try.prog 46 c_laws_FnExactDancingWeight) (cs := [(34, c_laws_szBoard), (17, c_laws_toVariant), (36, c_laws_toBoard), (35, c_spec_DancingWeight), (37, c_impl_DancingWeight), (38, c_laws_eqBoard)]) (res := Try.f7.results.toList) (fun _ => ⟨[], [(5, ⟨[[], [0], [], [0, 1, 2], [0, 1, 2, 3], [0, 1, 2, 3, 4], [0, 1, 2, 3, 4, 5], [0, 1, 2, 3, 4, 5], [0, 1, 2, 3, 4, 5, 6], [0, 1, 2, 3, 4, 5, 6, 7, 8]], [[2], [2], [0, 1], [], [], [], [7], [6, 8], [7], []], []⟩), (7, ⟨[[], [0], [], [0, 1, 2], [0, 1, 2, 3], [0, 1, 2, 3, 4], [0, 1, 2, 3, 4], [0, 1, 2, 3, 4, 5], [0, 1, 2, 3, 4, 5, 6, 7]], [[2], [2], [0, 1], [], [], [6], [5, 7], [6], []], []⟩), (10, ⟨[[], [], [1], [0, 1, 2], [0, 1, 2, 3]], [[1, 2], [0], [0], [], []], []⟩)], []⟩) Try.func7 (by kernel_rfl) rfl rfl rfl tysOk.look eqTsOk.look (AllCs.ok (l := [(34, c_laws_szBoard), (17, c_laws_toVariant), (36, c_laws_toBoard), (35, c_spec_DancingWeight), (37, c_impl_DancingWeight), (38, c_laws_eqBoard)]) ⟨k_laws_szBoard, k_laws_toVariant, k_laws_toBoard, k_spec_DancingWeight, k_impl_DancingWeight, k_laws_eqBoard, trivial⟩) mixed rfl rfl rfl ?_
  refine of_nf (P := ∀ v : Int × Int × Int × Int, ∀ b : (List Int) × List Int, (wfD tVar v ∧ wfD tBoard b) → ((lensI c_laws_FnExactDancingWeight.ins (v, b, ())) → ((-1 ≤ (1048576 : Int) ∧ (1048576 : Int) ≤ 1048576) ∧ (bsp (decide ((szD (List.length b.1 + List.length b.2) (1048576 : Int)) < (0 : Int))) (@Eq (HO c_laws_FnExactDancingWeight.outs) (true, ()) (c_laws_FnExactDancingWeight.out (v, b, ()))) (True ∧ ((List.length b.1 ≤ 1099511627776 ∧ List.length b.2 ≤ 1099511627776) ∧ (True ∧ ((List.length b.1 ≤ 1099511627776 ∧ List.length b.2 ≤ 1099511627776) ∧ (True ∧ (True ∧ (bsp (decide ((danceD v b).1 ≠ (danceD v b).1)) (@Eq (HO c_laws_FnExactDancingWeight.outs) (false, ()) (c_laws_FnExactDancingWeight.out (v, b, ()))) (bsp (decide ((danceD v b).2 ≠ (danceD v b).2)) (@Eq (HO c_laws_FnExactDancingWeight.outs) (false, ()) (c_laws_FnExactDancingWeight.out (v, b, ()))) ((List.length b.1 ≤ 1099511627776 ∧ List.length b.2 ≤ 1099511627776) ∧ (True ∧ (bsp (!(decide (b = b))) (@Eq (HO c_laws_FnExactDancingWeight.outs) (false, ()) (c_laws_FnExactDancingWeight.out (v, b, ()))) (@Eq (HO c_laws_FnExactDancingWeight.outs) (true, ()) (c_laws_FnExactDancingWeight.out (v, b, ())))))))))))))))))) (by kernel_rfl) ?_
  rintro v b hw hl
  refine ⟨by omega, bspD (fun _ => rfl) (fun hs => ?_)⟩
  have hle := szD_ge hs
  clear hl hw hs

  repeat' first
    | exact rfl
    | refine ⟨trivial, ?_⟩
    | refine bspB (fun h => absurd h (by first | simp; done | (simp [markL_length]; done) | (simp [markL_length]; omega))) (fun _ => ?_)
    | refine ⟨(by first | omega | (simp [markL_length]; done) | (simp [markL_length]; omega)), ?_⟩
    | fail
end Go.Proofs.Ytnffbihkmnfllaa
