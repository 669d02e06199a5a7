/-
  Contracts: bases, scales, valid exact numbers.
-/
import Derived.Test.YtoobijimfccfgaaVGame
import Derived.Test.YtoobijimfccfgaaAbV
import Derived.Test.YtoobijimfccfgaaMA
import Derived.Test.YtoobijimfccfgaaBridge
namespace Go.Proofs.Ytoobijimfccfgaa
open Go.RowKit
set_option linter.unusedSimpArgs false
set_option linter.unusedVariables false
/-- the base of a variant -/
def bsD (v : DVar) : Nat := (v.2.2.2 * v.2.2.2).toNat
theorem bsD_facts {v : DVar} (h : varD v = true) : v.2.2.2 * v.2.2.2 = (bsD v : Int) ∧ 1 ≤ bsD v ∧ bsD v ≤ 36 ∧ 1 ≤ v.2.2.2 ∧ v.2.2.2 ≤ 6 := by
  obtain ⟨_, _, _, h1, h2⟩ := varD_iff.1 h
  unfold bsD
  generalize v.2.2.2 = s at *
  have : s = 1 ∨ s = 2 ∨ s = 3 ∨ s = 4 ∨ s = 5 ∨ s = 6 := by omega
  rcases this with rfl | rfl | rfl | rfl | rfl | rfl <;> decide
def c_impl_baseOf : Con where
  ins := [(true, .v tVar)]
  outs := [(false, .v tI)]
  sh := false
  pre := fun x => varD x.1 = true
  out := fun x => ((bsD x.1 : Int), ())
  upd := fun x => x
  eat := false
theorem k_impl_baseOf [B : Base] : ConOk Try.prog 64 c_impl_baseOf := by
  refine fn_okW (C := cx Try.prog 8 c_impl_baseOf) (cs := []) (res := Try.f64.results.toList) (fun _ => ⟨[], [], []⟩) Try.func64 (by kernel_rfl) rfl rfl rfl tysOk.look eqTsOk.look (AllCs.ok (l := []) trivial) mixed rfl rfl rfl rfl ?_
  refine of_nf (P := ∀ v : Int × Int × Int × Int, (varD v = true) → ((lensI c_impl_baseOf.ins (v, ())) → ((inK .i64 (v.2.2.2 * v.2.2.2)) ∧ (@Eq (HO c_impl_baseOf.outs) ((v.2.2.2 * v.2.2.2), ()) (c_impl_baseOf.out (v, ())))))) (by kernel_rfl) ?_
  rintro v hv hl
  obtain ⟨e, b1, b2, s1, s2⟩ := bsD_facts hv
  rw [e]
  exact ⟨by simp only [inK]; omega, rfl⟩
def c_spec_l09Base : Con where
  ins := [(true, .v tVar)]
  outs := [(false, .v tI)]
  sh := false
  pre := fun x => varD x.1 = true
  out := fun x => ((bsD x.1 : Int), ())
  upd := fun x => x
  eat := false
theorem k_spec_l09Base [B : Base] : ConOk Try.prog 38 c_spec_l09Base := by
  refine fn_okW (C := cx Try.prog 8 c_spec_l09Base) (cs := []) (res := Try.f38.results.toList) (fun _ => ⟨[], [], []⟩) Try.func38 (by kernel_rfl) rfl rfl rfl tysOk.look eqTsOk.look (AllCs.ok (l := []) trivial) mixed rfl rfl rfl rfl ?_
  refine of_nf (P := ∀ v : Int × Int × Int × Int, (varD v = true) → ((lensI c_spec_l09Base.ins (v, ())) → ((inK .i64 (v.2.2.2 * v.2.2.2)) ∧ (@Eq (HO c_spec_l09Base.outs) ((v.2.2.2 * v.2.2.2), ()) (c_spec_l09Base.out (v, ())))))) (by kernel_rfl) ?_
  rintro v hv hl
  obtain ⟨e, b1, b2, s1, s2⟩ := bsD_facts hv
  rw [e]
  exact ⟨by simp only [inK]; omega, rfl⟩
def c_impl_scaleOf : Con where
  ins := [(true, .v tVar), (false, .v tI)]
  outs := [(false, .v tI), (false, .v .b)]
  sh := false
  pre := fun x => varD x.1 = true ∧ x.2.1 ≤ 9223372036854775807
  out := fun x => ((sclV (bsD x.1) x.2.1 : Int), sclB (bsD x.1) x.2.1, ())
  upd := fun x => x
  eat := false
theorem k_impl_scaleOf [B : Base] : ConOk Try.prog 73 c_impl_scaleOf := by
  refine fn_okW (C := cx Try.prog 21 c_impl_scaleOf) (cs := [(64, c_impl_baseOf)]) (res := Try.f73.results.toList) (fun x => ⟨[{ sh := ⟨[(2, .one (.ref 0)), (6, .one (.i .i64)), (10, .one (.i .i64)), (11, .one (.i .i64))], [(0, .box [.i .i64, .i .i64, .i .i64, .i .i64])]⟩, nx := 1, I := fun _ dat_ => (x.2.1 = dat_.1.2.2.1 ∧ x.1.1 = dat_.2.1.1 ∧ x.1.2.1 = dat_.2.1.2.1 ∧ x.1.2.2.1 = dat_.2.1.2.2.1 ∧ x.1.2.2.2 = dat_.2.1.2.2.2.1) ∧ (dat_.1.2.1 = ((bsD x.1 ^ Int.toNat dat_.1.2.2.2.1 : Nat) : Int) ∧ bsD x.1 ^ Int.toNat dat_.1.2.2.2.1 ≤ 1000000000000000 ∧ 0 ≤ dat_.1.2.2.2.1 ∧ (dat_.1.2.2.2.1 ≤ x.2.1 ∨ dat_.1.2.2.2.1 = 0)), mu := fun dat_ => Int.toNat (x.2.1 - dat_.1.2.2.2.1) }], [], []⟩) Try.func73 (by kernel_rfl) rfl rfl rfl tysOk.look eqTsOk.look (AllCs.ok (l := [(64, c_impl_baseOf)]) ⟨k_impl_baseOf, trivial⟩) mixed rfl rfl rfl rfl ?_
  refine of_nf (P := ∀ v : Int × Int × Int × Int, ∀ d : Int, (varD v = true ∧ d ≤ 9223372036854775807) → ((lensI c_impl_scaleOf.ins (v, d, ())) → ((varD v = true) ∧ (bsp (decide ((bsD v : Int) = (1 : Int))) (@Eq (HO c_impl_scaleOf.outs) (1, true, ()) (c_impl_scaleOf.out (v, d, ()))) (((d = d ∧ v.1 = v.1 ∧ v.2.1 = v.2.1 ∧ v.2.2.1 = v.2.2.1 ∧ v.2.2.2 = v.2.2.2) ∧ ((1 : Int) = ((bsD v ^ Int.toNat (0 : Int) : Nat) : Int) ∧ bsD v ^ Int.toNat (0 : Int) ≤ 1000000000000000 ∧ 0 ≤ (0 : Int) ∧ ((0 : Int) ≤ d ∨ (0 : Int) = 0))) ∧ (∀ m : Int, ∀ n : Int, ∀ i : Int, ∀ t2_0 : Int, ∀ t2_1 : Int, ∀ t2_2 : Int, ∀ t2_3 : Int, ((d = n ∧ v.1 = t2_0 ∧ v.2.1 = t2_1 ∧ v.2.2.1 = t2_2 ∧ v.2.2.2 = t2_3) ∧ (m = ((bsD v ^ Int.toNat i : Nat) : Int) ∧ bsD v ^ Int.toNat i ≤ 1000000000000000 ∧ 0 ≤ i ∧ (i ≤ d ∨ i = 0))) → (bsp (decide (i < n)) ((varD (t2_0, t2_1, t2_2, t2_3) = true) ∧ ((inK .i64 (m * (bsD (t2_0, t2_1, t2_2, t2_3) : Int))) ∧ (bsp (decide ((1000000000000000 : Int) < (m * (bsD (t2_0, t2_1, t2_2, t2_3) : Int)))) (@Eq (HO c_impl_scaleOf.outs) (0, false, ()) (c_impl_scaleOf.out (v, d, ()))) ((inK .i64 (i + 1)) ∧ (((d = n ∧ v.1 = t2_0 ∧ v.2.1 = t2_1 ∧ v.2.2.1 = t2_2 ∧ v.2.2.2 = t2_3) ∧ ((m * (bsD (t2_0, t2_1, t2_2, t2_3) : Int)) = ((bsD v ^ Int.toNat (i + 1) : Nat) : Int) ∧ bsD v ^ Int.toNat (i + 1) ≤ 1000000000000000 ∧ 0 ≤ (i + 1) ∧ ((i + 1) ≤ d ∨ (i + 1) = 0))) ∧ ((Int.toNat (d - (i + 1)) : Nat) < Int.toNat (d - i))))))) (@Eq (HO c_impl_scaleOf.outs) (m, true, ()) (c_impl_scaleOf.out (v, d, ())))))))))) (by kernel_rfl) ?_
  rintro v d ⟨hv, hd⟩ hl
  obtain ⟨-, b1, b2, s1, s2⟩ := bsD_facts hv
  have out : ∀ (k : Nat) (c : Bool), sclB (bsD v) d = c ∧ sclV (bsD v) d = k → @Eq (HO c_impl_scaleOf.outs) ((k : Int), c, ()) (c_impl_scaleOf.out (v, d, ())) := fun k c h => by simp only [c_impl_scaleOf, h.1, h.2]
  refine ⟨hv, bspD (fun h => ?_) (fun h => ⟨⟨(by first | trivial | rfl | (and_intros <;> rfl)), rfl, by simp, by omega, .inr rfl⟩, ?_⟩)⟩
  · have e : bsD v = 1 := by omega
    exact out 1 true (by rw [e]; exact scl_one)
  rintro m n i t2_0 t2_1 t2_2 t2_3 ⟨⟨rfl, rfl, rfl, rfl, rfl⟩, ⟨hm, hb, i0, hi⟩⟩
  simp only [Prod.eta]
  refine bspD (fun hlt => ?_) (fun hge => ?_)
  · obtain ⟨k, rfl⟩ : ∃ k : Nat, i = k := ⟨i.toNat, by omega⟩
    simp only [Int.toNat_natCast] at hm hb ⊢
    have e : m * (bsD v : Int) = ((bsD v ^ (k + 1) : Nat) : Int) := by rw [hm, Nat.pow_succ]; simp
    have hb2 : bsD v ^ (k + 1) ≤ 36000000000000000 := by rw [Nat.pow_succ]; exact Nat.le_trans (Nat.mul_le_mul hb b2) (by decide)
    rw [e]
    generalize hP : bsD v ^ (k + 1) = Pw at *
    refine ⟨hv, by simp only [inK]; omega, bspD (fun hbig => out 0 false ?_) (fun hfit => ⟨by simp only [inK]; omega, ⟨(by first | trivial | rfl | (and_intros <;> rfl)), ?_, ?_, by omega, by omega⟩, by omega⟩)⟩
    · exact scl_no (by omega) hlt (by rw [hP]; omega)
    · rw [show ((k : Int) + 1).toNat = k + 1 by omega, hP]
    · rw [show ((k : Int) + 1).toNat = k + 1 by omega, hP]; omega
  · rw [hm]
    by_cases hz : i = 0
    · subst hz; exact out 1 true (scl_neg (by omega))
    · exact out _ true (scl_yes (by omega) hb)
def c_spec_l09Scale : Con where
  ins := [(true, .v tVar), (false, .v tI)]
  outs := [(false, .v tI), (false, .v .b)]
  sh := false
  pre := fun x => varD x.1 = true ∧ x.2.1 ≤ 9223372036854775807
  out := fun x => ((sclV (bsD x.1) x.2.1 : Int), sclB (bsD x.1) x.2.1, ())
  upd := fun x => x
  eat := false
theorem k_spec_l09Scale [B : Base] : ConOk Try.prog 40 c_spec_l09Scale := by
  refine fn_okW (C := cx Try.prog 25 c_spec_l09Scale) (cs := [(38, c_spec_l09Base)]) (res := Try.f40.results.toList) (fun x => ⟨[{ sh := ⟨[(1, .one (.i .i64)), (2, .one (.ref 0)), (6, .one (.i .i64)), (7, .one (.i .i64))], [(0, .box [.i .i64, .i .i64, .i .i64, .i .i64])]⟩, nx := 1, I := fun _ dat_ => (x.2.1 = dat_.1.1 ∧ x.1.1 = dat_.2.1.1 ∧ x.1.2.1 = dat_.2.1.2.1 ∧ x.1.2.2.1 = dat_.2.1.2.2.1 ∧ x.1.2.2.2 = dat_.2.1.2.2.2.1) ∧ (dat_.1.2.2.1 = ((bsD x.1 ^ Int.toNat dat_.1.2.2.2.1 : Nat) : Int) ∧ bsD x.1 ^ Int.toNat dat_.1.2.2.2.1 ≤ 1000000000000000 ∧ 0 ≤ dat_.1.2.2.2.1 ∧ (dat_.1.2.2.2.1 ≤ x.2.1 ∨ dat_.1.2.2.2.1 = 0)), mu := fun dat_ => Int.toNat (x.2.1 - dat_.1.2.2.2.1) }], [], []⟩) Try.func40 (by kernel_rfl) rfl rfl rfl tysOk.look eqTsOk.look (AllCs.ok (l := [(38, c_spec_l09Base)]) ⟨k_spec_l09Base, trivial⟩) mixed rfl rfl rfl rfl ?_
  refine of_nf (P := ∀ v : Int × Int × Int × Int, ∀ d : Int, (varD v = true ∧ d ≤ 9223372036854775807) → ((lensI c_spec_l09Scale.ins (v, d, ())) → (((d = d ∧ v.1 = v.1 ∧ v.2.1 = v.2.1 ∧ v.2.2.1 = v.2.2.1 ∧ v.2.2.2 = v.2.2.2) ∧ ((1 : Int) = ((bsD v ^ Int.toNat (0 : Int) : Nat) : Int) ∧ bsD v ^ Int.toNat (0 : Int) ≤ 1000000000000000 ∧ 0 ≤ (0 : Int) ∧ ((0 : Int) ≤ d ∨ (0 : Int) = 0))) ∧ (∀ t1 : Int, ∀ m : Int, ∀ i : Int, ∀ t2_0 : Int, ∀ t2_1 : Int, ∀ t2_2 : Int, ∀ t2_3 : Int, ((d = t1 ∧ v.1 = t2_0 ∧ v.2.1 = t2_1 ∧ v.2.2.1 = t2_2 ∧ v.2.2.2 = t2_3) ∧ (m = ((bsD v ^ Int.toNat i : Nat) : Int) ∧ bsD v ^ Int.toNat i ≤ 1000000000000000 ∧ 0 ≤ i ∧ (i ≤ d ∨ i = 0))) → (bsp (decide (i < t1)) ((varD (t2_0, t2_1, t2_2, t2_3) = true) ∧ (bsp (decide ((1 : Int) < (bsD (t2_0, t2_1, t2_2, t2_3) : Int))) ((varD (t2_0, t2_1, t2_2, t2_3) = true) ∧ ((inK .i64 (m * (bsD (t2_0, t2_1, t2_2, t2_3) : Int))) ∧ (bsp (decide ((1000000000000000 : Int) < (m * (bsD (t2_0, t2_1, t2_2, t2_3) : Int)))) (@Eq (HO c_spec_l09Scale.outs) (0, false, ()) (c_spec_l09Scale.out (v, d, ()))) ((inK .i64 (i + 1)) ∧ (((d = t1 ∧ v.1 = t2_0 ∧ v.2.1 = t2_1 ∧ v.2.2.1 = t2_2 ∧ v.2.2.2 = t2_3) ∧ ((m * (bsD (t2_0, t2_1, t2_2, t2_3) : Int)) = ((bsD v ^ Int.toNat (i + 1) : Nat) : Int) ∧ bsD v ^ Int.toNat (i + 1) ≤ 1000000000000000 ∧ 0 ≤ (i + 1) ∧ ((i + 1) ≤ d ∨ (i + 1) = 0))) ∧ ((Int.toNat (d - (i + 1)) : Nat) < Int.toNat (d - i))))))) (@Eq (HO c_spec_l09Scale.outs) (m, true, ()) (c_spec_l09Scale.out (v, d, ()))))) (@Eq (HO c_spec_l09Scale.outs) (m, true, ()) (c_spec_l09Scale.out (v, d, ())))))))) (by kernel_rfl) ?_
  rintro v d ⟨hv, hd⟩ hl
  obtain ⟨-, b1, b2, s1, s2⟩ := bsD_facts hv
  have out : ∀ (k : Nat) (c : Bool), sclB (bsD v) d = c ∧ sclV (bsD v) d = k → @Eq (HO c_spec_l09Scale.outs) ((k : Int), c, ()) (c_spec_l09Scale.out (v, d, ())) := fun k c h => by simp only [c_spec_l09Scale, h.1, h.2]
  refine ⟨⟨(by first | trivial | rfl | (and_intros <;> rfl)), rfl, by simp, by omega, .inr rfl⟩, ?_⟩
  rintro t1 m i t2_0 t2_1 t2_2 t2_3 ⟨⟨rfl, rfl, rfl, rfl, rfl⟩, ⟨hm, hb, i0, hi⟩⟩
  simp only [Prod.eta]
  refine bspD (fun hlt => ?_) (fun hge => ?_)
  · obtain ⟨k, rfl⟩ : ∃ k : Nat, i = k := ⟨i.toNat, by omega⟩
    simp only [Int.toNat_natCast] at hm hb ⊢
    have e : m * (bsD v : Int) = ((bsD v ^ (k + 1) : Nat) : Int) := by rw [hm, Nat.pow_succ]; simp
    have hb2 : bsD v ^ (k + 1) ≤ 36000000000000000 := by rw [Nat.pow_succ]; exact Nat.le_trans (Nat.mul_le_mul hb b2) (by decide)
    rw [e]
    generalize hP : bsD v ^ (k + 1) = Pw at *
    refine ⟨hv, bspD (fun hb3 => ?_) (fun hb3 => ?_)⟩
    · refine ⟨hv, by simp only [inK]; omega, bspD (fun hbig => out 0 false ?_) (fun hfit => ⟨by simp only [inK]; omega, ⟨(by first | trivial | rfl | (and_intros <;> rfl)), ?_, ?_, by omega, by omega⟩, by omega⟩)⟩
      · exact scl_no (by omega) hlt (by rw [hP]; omega)
      · rw [show ((k : Int) + 1).toNat = k + 1 by omega, hP]
      · rw [show ((k : Int) + 1).toNat = k + 1 by omega, hP]; omega
    · have e1 : bsD v = 1 := by omega
      rw [hm, e1, Nat.one_pow]
      exact out 1 true (by rw [e1]; exact scl_one)
  · rw [hm]
    by_cases hz : i = 0
    · subst hz; exact out 1 true (scl_neg (by omega))
    · exact out _ true (scl_yes (by omega) hb)
/-- an exact number is valid -/
def exD (v : DVar) (x : DExact) : Bool :=
  decide (0 ≤ x.2) && (inB x.1 (-1000000000000000000) 1000000000000000000 && (decide (x.2 = 0) || (decide (1 < bsD v) && sclB (bsD v) x.2 && decide (Int.tmod x.1 (bsD v) ≠ 0))))
theorem scl_60 {b : Nat} {d : Int} (hb : 2 ≤ b) (hd : 60 < d) : sclB b d = false := by
  have h1 : 2 ^ 61 ≤ b ^ 61 := Nat.pow_le_pow_left hb 61
  have h2 : b ^ 61 = b ^ (60 + 1) := rfl
  exact (scl_no (k := 60) hb (by omega) (by omega)).1
def c_impl_isExact : Con where
  ins := [(true, .v tVar), (true, .v tRoll)]
  outs := [(false, .v .b)]
  sh := false
  pre := fun x => varD x.1 = true ∧ x.2.1.2 ≤ 9223372036854775807
  out := fun x => (exD x.1 x.2.1, ())
  upd := fun x => x
  eat := false
theorem k_impl_isExact [B : Base] : ConOk Try.prog 77 c_impl_isExact := by
  refine fn_okW (C := cx Try.prog 43 c_impl_isExact) (cs := [(43, c_impl_within), (64, c_impl_baseOf), (73, c_impl_scaleOf)]) (res := Try.f77.results.toList) (fun _ => ⟨[], [(8, ⟨[[], [0], [0, 1], [0, 1, 2], [0, 1], [0, 1, 4], [0, 1, 2, 3, 4, 5], [0, 1, 2, 3, 4, 5, 6], [0, 1, 2, 3, 4, 5, 6, 7], [0, 1, 2, 3, 4, 5, 6, 7, 8]], [[], [], [4, 5], [4, 5], [2, 3], [2, 3], [], [], [], []], []⟩)], []⟩) Try.func77 (by kernel_rfl) rfl rfl rfl tysOk.look eqTsOk.look (AllCs.ok (l := [(43, c_impl_within), (64, c_impl_baseOf), (73, c_impl_scaleOf)]) ⟨k_impl_within, k_impl_baseOf, k_impl_scaleOf, trivial⟩) mixed rfl rfl rfl rfl ?_
  refine of_nf (P := ∀ v : Int × Int × Int × Int, ∀ x : Int × Int, (varD v = true ∧ x.2 ≤ 9223372036854775807) → ((lensI c_impl_isExact.ins (v, x, ())) → (bsp (decide (x.2 < (0 : Int))) (@Eq (HO c_impl_isExact.outs) (false, ()) (c_impl_isExact.out (v, x, ()))) (True ∧ (bsp (!(inB x.1 (-1000000000000000000 : Int) (1000000000000000000 : Int))) (@Eq (HO c_impl_isExact.outs) (false, ()) (c_impl_isExact.out (v, x, ()))) (bsp (decide (x.2 = (0 : Int))) (@Eq (HO c_impl_isExact.outs) (true, ()) (c_impl_isExact.out (v, x, ()))) ((varD v = true) ∧ (bsp (decide ((bsD v : Int) = (1 : Int))) (@Eq (HO c_impl_isExact.outs) (false, ()) (c_impl_isExact.out (v, x, ()))) (bsp (decide ((60 : Int) < x.2)) (@Eq (HO c_impl_isExact.outs) (false, ()) (c_impl_isExact.out (v, x, ()))) ((varD v = true ∧ x.2 ≤ 9223372036854775807) ∧ (bsp (sclB (bsD v) x.2) ((varD v = true) ∧ (((bsD v : Int) ≠ 0) ∧ (@Eq (HO c_impl_isExact.outs) ((decide ((Int.tmod x.1 (bsD v : Int)) ≠ (0 : Int))), ()) (c_impl_isExact.out (v, x, ()))))) (@Eq (HO c_impl_isExact.outs) (false, ()) (c_impl_isExact.out (v, x, ())))))))))))))) (by kernel_rfl) ?_
  rintro v x ⟨hv, hx⟩ hl
  obtain ⟨-, b1, b2, s1, s2⟩ := bsD_facts hv
  have out : ∀ c : Bool, exD v x = c → @Eq (HO c_impl_isExact.outs) (c, ()) (c_impl_isExact.out (v, x, ())) := fun c h => by subst h; rfl
  have h60 : 60 < x.2 → 2 ≤ bsD v → sclB (bsD v) x.2 = false := fun h1 h2 => scl_60 h2 h1
  clear hl
  repeat' first
    | refine ⟨trivial, ?_⟩
    | refine ⟨hv, ?_⟩
    | refine ⟨⟨hv, hx⟩, ?_⟩
    | refine bspD (fun _ => ?_) (fun _ => ?_)
    | refine bspB (fun _ => ?_) (fun _ => ?_)
    | refine ⟨by omega, ?_⟩
    | refine out _ ?_
    | fail
  all_goals
    clear out
    simp only [exD]
    first
      | (rw [Bool.eq_iff_iff]; simp_all; done)
      | (rw [Bool.eq_iff_iff]; simp_all; omega)
      | grind
def c_spec_l09Valid : Con where
  ins := [(true, .v tVar), (true, .v tRoll)]
  outs := [(false, .v .b)]
  sh := false
  pre := fun x => varD x.1 = true ∧ x.2.1.2 ≤ 9223372036854775807
  out := fun x => (exD x.1 x.2.1, ())
  upd := fun x => x
  eat := false
theorem k_spec_l09Valid [B : Base] : ConOk Try.prog 39 c_spec_l09Valid := by
  refine fn_okW (C := cx Try.prog 40 c_spec_l09Valid) (cs := [(17, c_spec_l01In), (40, c_spec_l09Scale), (38, c_spec_l09Base)]) (res := Try.f39.results.toList) (fun _ => ⟨[], [(6, ⟨[[], [0], [0, 1], [0, 1, 2], [0, 1, 2, 3], [0, 1, 2, 3, 4], [0, 1, 2, 3, 4, 5], [0, 1, 2, 3, 4, 5, 6], [0, 1, 2, 3, 4, 5, 6, 7], [0, 1, 2, 3, 4, 5, 6], [0, 1, 2, 3, 4, 5, 6, 9], [0, 1, 2, 3, 4, 5, 6, 7, 8, 9, 10], [0, 1, 2, 3, 4, 5, 6, 7, 8, 9, 10, 11], [0, 1, 2, 3, 4, 5, 6, 7, 8, 9, 10, 11, 12], [0, 1, 2, 3, 4, 5, 6, 7, 8, 9, 10, 11, 12, 13]], [[], [], [], [], [], [], [], [9, 10], [9, 10], [7, 8], [7, 8], [], [], [], []], []⟩)], []⟩) Try.func39 (by kernel_rfl) rfl rfl rfl tysOk.look eqTsOk.look (AllCs.ok (l := [(17, c_spec_l01In), (40, c_spec_l09Scale), (38, c_spec_l09Base)]) ⟨k_spec_l01In, k_spec_l09Scale, k_spec_l09Base, trivial⟩) mixed rfl rfl rfl rfl ?_
  refine of_nf (P := ∀ v : Int × Int × Int × Int, ∀ x : Int × Int, (varD v = true ∧ x.2 ≤ 9223372036854775807) → ((lensI c_spec_l09Valid.ins (v, x, ())) → (bsp (decide (x.2 < (0 : Int))) (@Eq (HO c_spec_l09Valid.outs) (false, ()) (c_spec_l09Valid.out (v, x, ()))) (True ∧ (bsp (!(inB x.1 (-1000000000000000000 : Int) (1000000000000000000 : Int))) (@Eq (HO c_spec_l09Valid.outs) (false, ()) (c_spec_l09Valid.out (v, x, ()))) (bsp (decide (x.2 = (0 : Int))) (@Eq (HO c_spec_l09Valid.outs) (true, ()) (c_spec_l09Valid.out (v, x, ()))) ((varD v = true ∧ x.2 ≤ 9223372036854775807) ∧ (bsp (sclB (bsD v) x.2) ((varD v = true) ∧ (bsp (decide ((1 : Int) < (bsD v : Int))) ((varD v = true) ∧ (((bsD v : Int) ≠ 0) ∧ (@Eq (HO c_spec_l09Valid.outs) ((decide ((Int.tmod x.1 (bsD v : Int)) ≠ (0 : Int))), ()) (c_spec_l09Valid.out (v, x, ()))))) (@Eq (HO c_spec_l09Valid.outs) (false, ()) (c_spec_l09Valid.out (v, x, ()))))) (@Eq (HO c_spec_l09Valid.outs) (false, ()) (c_spec_l09Valid.out (v, x, ()))))))))))) (by kernel_rfl) ?_
  rintro v x ⟨hv, hx⟩ hl
  obtain ⟨-, b1, b2, s1, s2⟩ := bsD_facts hv
  have out : ∀ c : Bool, exD v x = c → @Eq (HO c_spec_l09Valid.outs) (c, ()) (c_spec_l09Valid.out (v, x, ())) := fun c h => by subst h; rfl
  have h60 : 60 < x.2 → 2 ≤ bsD v → sclB (bsD v) x.2 = false := fun h1 h2 => scl_60 h2 h1
  clear hl
  repeat' first
    | refine ⟨trivial, ?_⟩
    | refine ⟨hv, ?_⟩
    | refine ⟨⟨hv, hx⟩, ?_⟩
    | refine bspD (fun _ => ?_) (fun _ => ?_)
    | refine bspB (fun _ => ?_) (fun _ => ?_)
    | refine ⟨by omega, ?_⟩
    | refine out _ ?_
    | fail
  all_goals
    clear out
    simp only [exD]
    first
      | (rw [Bool.eq_iff_iff]; simp_all; done)
      | (rw [Bool.eq_iff_iff]; simp_all; omega)
      | grind
def c_impl_absolute : Con where
  ins := [(false, .v tI)]
  outs := [(false, .v tI)]
  sh := false
  pre := fun x => -9223372036854775807 ≤ x.1 ∧ x.1 ≤ 9223372036854775807
  out := fun x => ((Int.natAbs x.1 : Int), ())
  upd := fun x => x
  eat := false
theorem k_impl_absolute [B : Base] : ConOk Try.prog 63 c_impl_absolute := by
  refine fn_ok (C := cx Try.prog 8 c_impl_absolute) (cs := []) (res := Try.f63.results.toList) (fun _ => ⟨[], [], []⟩) Try.func63 (by kernel_rfl) rfl rfl rfl tysOk.look eqTsOk.look (AllCs.ok (l := []) trivial) mixed rfl rfl rfl rfl ?_
  refine of_nf (P := ∀ n : Int, (-9223372036854775807 ≤ n ∧ n ≤ 9223372036854775807) → ((lensI c_impl_absolute.ins (n, ())) → (bsp (decide (n < (0 : Int))) ((inK .i64 (0 - n)) ∧ (@Eq (HO c_impl_absolute.outs) ((0 - n), ()) (c_impl_absolute.out (n, ())))) (@Eq (HO c_impl_absolute.outs) (n, ()) (c_impl_absolute.out (n, ())))))) (by kernel_rfl) ?_
  rintro n ⟨h0, h1⟩ hl
  have out : ∀ k : Int, k = n.natAbs → @Eq (HO c_impl_absolute.outs) (k, ()) (c_impl_absolute.out (n, ())) := fun k h => by subst h; rfl
  refine bspD (fun h => ⟨by simp only [inK]; omega, out _ (by omega)⟩) (fun h => out _ (by omega))
def c_spec_l09Gcd : Con where
  ins := [(false, .v tI), (false, .v tI)]
  outs := [(false, .v tI)]
  sh := false
  pre := fun x => (-9223372036854775807 ≤ x.1 ∧ x.1 ≤ 9223372036854775807) ∧ -9223372036854775807 ≤ x.2.1 ∧ x.2.1 ≤ 9223372036854775807
  out := fun x => ((Nat.gcd (Int.natAbs x.1) (Int.natAbs x.2.1) : Int), ())
  upd := fun x => x
  eat := false
theorem k_spec_l09Gcd [B : Base] : ConOk Try.prog 54 c_spec_l09Gcd := by
  refine fn_ok (C := cx Try.prog 22 c_spec_l09Gcd) (cs := []) (res := Try.f54.results.toList) (fun x => ⟨[{ sh := ⟨[(0, .one (.i .i64)), (1, .one (.i .i64))], []⟩, nx := 0, I := fun _ dat_ => (Nat.gcd (Int.natAbs dat_.1.1) (Int.natAbs dat_.1.2.1) = Nat.gcd (Int.natAbs x.1) (Int.natAbs x.2.1)) ∧ (0 ≤ dat_.1.1 ∧ dat_.1.1 ≤ 9223372036854775807) ∧ 0 ≤ dat_.1.2.1 ∧ dat_.1.2.1 ≤ 9223372036854775807, mu := fun dat_ => Int.toNat dat_.1.2.1 }], [], []⟩) Try.func54 (by kernel_rfl) rfl rfl rfl tysOk.look eqTsOk.look (AllCs.ok (l := []) trivial) mixed rfl rfl rfl rfl ?_
  refine of_nf (P := ∀ a : Int, ∀ b : Int, ((-9223372036854775807 ≤ a ∧ a ≤ 9223372036854775807) ∧ -9223372036854775807 ≤ b ∧ b ≤ 9223372036854775807) → ((lensI c_spec_l09Gcd.ins (a, b, ())) → ((inK .i64 (0 - a)) ∧ ((inK .i64 (0 - b)) ∧ (((Nat.gcd (Int.natAbs (max a (0 - a))) (Int.natAbs (max b (0 - b))) = Nat.gcd (Int.natAbs a) (Int.natAbs b)) ∧ (0 ≤ (max a (0 - a)) ∧ (max a (0 - a)) ≤ 9223372036854775807) ∧ 0 ≤ (max b (0 - b)) ∧ (max b (0 - b)) ≤ 9223372036854775807) ∧ (∀ p : Int, ∀ q : Int, ((Nat.gcd (Int.natAbs p) (Int.natAbs q) = Nat.gcd (Int.natAbs a) (Int.natAbs b)) ∧ (0 ≤ p ∧ p ≤ 9223372036854775807) ∧ 0 ≤ q ∧ q ≤ 9223372036854775807) → (bsp (decide (q ≠ (0 : Int))) ((q ≠ 0) ∧ (((Nat.gcd (Int.natAbs q) (Int.natAbs (Int.tmod p q)) = Nat.gcd (Int.natAbs a) (Int.natAbs b)) ∧ (0 ≤ q ∧ q ≤ 9223372036854775807) ∧ 0 ≤ (Int.tmod p q) ∧ (Int.tmod p q) ≤ 9223372036854775807) ∧ ((Int.toNat (Int.tmod p q) : Nat) < Int.toNat q))) (@Eq (HO c_spec_l09Gcd.outs) (p, ()) (c_spec_l09Gcd.out (a, b, ())))))))))) (by kernel_rfl) ?_
  rintro a b ⟨⟨h0, h1⟩, h2, h3⟩ hl
  have e1 : max a (0 - a) = (a.natAbs : Int) := by omega
  have e2 : max b (0 - b) = (b.natAbs : Int) := by omega
  rw [e1, e2]
  refine ⟨by simp only [inK]; omega, by simp only [inK]; omega, ⟨by simp, by omega, by omega⟩, ?_⟩
  rintro p q ⟨hg, ⟨p0, p1⟩, q0, q1⟩
  obtain ⟨u, rfl⟩ : ∃ u : Nat, p = u := ⟨p.toNat, by omega⟩
  obtain ⟨w, rfl⟩ : ∃ w : Nat, q = w := ⟨q.toNat, by omega⟩
  have em : Int.tmod (u : Int) (w : Int) = ((u % w : Nat) : Int) := by rw [Int.tmod_eq_emod_of_nonneg (by omega)]; simp
  simp only [em, Int.natAbs_natCast] at hg ⊢
  refine bspD (fun hn => ?_) (fun hz => ?_)
  · have hlt : u % w < w := Nat.mod_lt _ (by omega)
    refine ⟨hn, ⟨by rw [← hg, Nat.gcd_comm w, ← Nat.gcd_rec, Nat.gcd_comm], by omega, by omega⟩, by omega⟩
  · have hw : w = 0 := by omega
    rw [hw, Nat.gcd_zero_right] at hg
    simp only [c_spec_l09Gcd, hg]
def timesD (a b : Int) : Bool := decide (a.natAbs * b.natAbs ≤ 1000000000000000000)
theorem timesD_iff {x y : Nat} (hy : 1 ≤ y) : (Int.tdiv 1000000000000000000 (y : Int) < (x : Int)) ↔ ¬ x * y ≤ 1000000000000000000 := by
  have h1 : Int.tdiv (1000000000000000000 : Int) (y : Int) = ((1000000000000000000 / y : Nat) : Int) := by rw [Int.tdiv_eq_ediv_of_nonneg (by omega)]; simp
  rw [h1]
  have h2 : x ≤ 1000000000000000000 / y ↔ x * y ≤ 1000000000000000000 := Nat.le_div_iff_mul_le hy
  rw [← h2]
  omega
theorem timesD_in {a b : Int} (h : timesD a b = true) : inK .i64 (a * b) := by
  simp only [timesD, decide_eq_true_eq] at h
  have : (a * b).natAbs ≤ 1000000000000000000 := by rw [Int.natAbs_mul]; exact h
  simp only [inK]; omega
def c_spec_l09Times : Con where
  ins := [(false, .v tI), (false, .v tI)]
  outs := [(false, .v tI), (false, .v .b)]
  sh := false
  pre := fun x => (-9223372036854775807 ≤ x.1 ∧ x.1 ≤ 9223372036854775807) ∧ -9223372036854775807 ≤ x.2.1 ∧ x.2.1 ≤ 9223372036854775807
  out := fun x => ((if timesD x.1 x.2.1 then x.1 * x.2.1 else 0), timesD x.1 x.2.1, ())
  upd := fun x => x
  eat := false
theorem k_spec_l09Times [B : Base] : ConOk Try.prog 55 c_spec_l09Times := by
  refine fn_ok (C := cx Try.prog 27 c_spec_l09Times) (cs := []) (res := Try.f55.results.toList) (fun _ => ⟨[], [], []⟩) Try.func55 (by kernel_rfl) rfl rfl rfl tysOk.look eqTsOk.look (AllCs.ok (l := []) trivial) mixed rfl rfl rfl rfl ?_
  refine of_nf (P := ∀ a : Int, ∀ b : Int, ((-9223372036854775807 ≤ a ∧ a ≤ 9223372036854775807) ∧ -9223372036854775807 ≤ b ∧ b ≤ 9223372036854775807) → ((lensI c_spec_l09Times.ins (a, b, ())) → (bsp (decide (a ≠ (0 : Int))) (bsp (decide (b ≠ (0 : Int))) ((inK .i64 (0 - a)) ∧ ((inK .i64 (0 - b)) ∧ (((max b (0 - b)) ≠ 0) ∧ ((inK .i64 (Int.tdiv (1000000000000000000 : Int) (max b (0 - b)))) ∧ (bsp (decide ((Int.tdiv (1000000000000000000 : Int) (max b (0 - b))) < (max a (0 - a)))) (@Eq (HO c_spec_l09Times.outs) (0, false, ()) (c_spec_l09Times.out (a, b, ()))) ((inK .i64 (a * b)) ∧ (@Eq (HO c_spec_l09Times.outs) ((a * b), true, ()) (c_spec_l09Times.out (a, b, ()))))))))) ((inK .i64 (a * b)) ∧ (@Eq (HO c_spec_l09Times.outs) ((a * b), true, ()) (c_spec_l09Times.out (a, b, ()))))) ((inK .i64 (a * b)) ∧ (@Eq (HO c_spec_l09Times.outs) ((a * b), true, ()) (c_spec_l09Times.out (a, b, ()))))))) (by kernel_rfl) ?_
  rintro a b ⟨⟨h0, h1⟩, h2, h3⟩ hl
  have e1 : max a (0 - a) = (a.natAbs : Int) := by omega
  have e2 : max b (0 - b) = (b.natAbs : Int) := by omega
  rw [e1, e2]
  have yes : timesD a b = true → inK .i64 (a * b) ∧ @Eq (HO c_spec_l09Times.outs) (a * b, true, ()) (c_spec_l09Times.out (a, b, ())) := fun h => ⟨timesD_in h, by simp only [c_spec_l09Times, h, if_true]⟩
  refine bspD (fun ha => bspD (fun hb => ?_) (fun hb => yes ?_)) (fun ha => yes ?_)
  · have hi := timesD_iff (x := a.natAbs) (y := b.natAbs) (by omega)
    have hq : (0 : Int) ≤ Int.tdiv 1000000000000000000 (b.natAbs : Int) ∧ Int.tdiv 1000000000000000000 (b.natAbs : Int) ≤ 1000000000000000000 := by
      have h1 : Int.tdiv (1000000000000000000 : Int) (b.natAbs : Int) = ((1000000000000000000 / b.natAbs : Nat) : Int) := by rw [Int.tdiv_eq_ediv_of_nonneg (by omega)]; simp
      rw [h1]
      have := Nat.div_le_self 1000000000000000000 b.natAbs
      generalize 1000000000000000000 / b.natAbs = t at this ⊢
      omega
    refine ⟨by simp only [inK]; omega, by simp only [inK]; omega, by omega, by simp only [inK]; omega, bspD (fun h => ?_) (fun h => yes ?_)⟩
    · have : timesD a b = false := by unfold timesD; exact decide_eq_false (hi.1 h)
      simp only [c_spec_l09Times, this]; rfl
    · unfold timesD; exact decide_eq_true (by rw [← Decidable.not_not (p := _ ≤ _)]; exact fun g => h (hi.2 g))
  · have : b = 0 := by simpa using hb
    subst this; rfl
  · have : a = 0 := by simpa using ha
    subst this; simp [timesD]
def mkD (v : DVar) (n : Int) (d : Nat) : DExact × Bool :=
  if exD v ((strip (bsD v) d n).1, ((strip (bsD v) d n).2 : Int)) then (((strip (bsD v) d n).1, ((strip (bsD v) d n).2 : Int)), true) else ((0, 0), false)
def c_impl_makeExact : Con where
  ins := [(true, .v tVar), (false, .v tI), (false, .v tI)]
  outs := [(true, .v tRoll), (false, .v .b)]
  sh := false
  pre := fun x => varD x.1 = true ∧ (-9223372036854775807 ≤ x.2.1 ∧ x.2.1 ≤ 9223372036854775807) ∧ 0 ≤ x.2.2.1 ∧ x.2.2.1 ≤ 1000
  out := fun x => ((mkD x.1 x.2.1 (Int.toNat x.2.2.1)).1, (mkD x.1 x.2.1 (Int.toNat x.2.2.1)).2, ())
  upd := fun x => x
  eat := false
theorem k_impl_makeExact [B : Base] : ConOk Try.prog 62 c_impl_makeExact := by
  refine fn_okW (C := cx Try.prog 36 c_impl_makeExact) (cs := [(64, c_impl_baseOf), (77, c_impl_isExact)]) (res := Try.f62.results.toList) (fun x => ⟨[{ sh := ⟨[(1, .one (.i .i64)), (2, .one (.i .i64)), (3, .one (.ref 0)), (6, .one (.ref 1))], [(0, .box [.i .i64, .i .i64, .i .i64, .i .i64]), (1, .box [.i .i64, .i .i64])]⟩, nx := 2, I := fun _ dat_ => (x.1.1 = dat_.2.1.1 ∧ x.1.2.1 = dat_.2.1.2.1 ∧ x.1.2.2.1 = dat_.2.1.2.2.1 ∧ x.1.2.2.2 = dat_.2.1.2.2.2.1 ∧ (0 : Int) = dat_.2.2.1.1 ∧ (0 : Int) = dat_.2.2.1.2.1) ∧ ((strip (bsD x.1) (Int.toNat dat_.1.2.1) dat_.1.1 = strip (bsD x.1) (Int.toNat x.2.2.1) x.2.1 ∧ -9223372036854775807 ≤ dat_.1.1 ∧ dat_.1.1 ≤ 9223372036854775807) ∧ 0 ≤ dat_.1.2.1 ∧ dat_.1.2.1 ≤ 1000), mu := fun dat_ => Int.toNat dat_.1.2.1 }], [], []⟩) Try.func62 (by kernel_rfl) rfl rfl rfl tysOk.look eqTsOk.look (AllCs.ok (l := [(64, c_impl_baseOf), (77, c_impl_isExact)]) ⟨k_impl_baseOf, k_impl_isExact, trivial⟩) mixed rfl rfl rfl rfl ?_
  refine of_nf (P := ∀ v : Int × Int × Int × Int, ∀ n : Int, ∀ d : Int, (varD v = true ∧ (-9223372036854775807 ≤ n ∧ n ≤ 9223372036854775807) ∧ 0 ≤ d ∧ d ≤ 1000) → ((lensI c_impl_makeExact.ins (v, n, d, ())) → ((varD v = true) ∧ (bsp (decide ((bsD v : Int) = (1 : Int))) (((v.1 = v.1 ∧ v.2.1 = v.2.1 ∧ v.2.2.1 = v.2.2.1 ∧ v.2.2.2 = v.2.2.2 ∧ (0 : Int) = 0 ∧ (0 : Int) = 0) ∧ ((strip (bsD v) (Int.toNat (0 : Int)) n = strip (bsD v) (Int.toNat d) n ∧ -9223372036854775807 ≤ n ∧ n ≤ 9223372036854775807) ∧ 0 ≤ (0 : Int) ∧ (0 : Int) ≤ 1000)) ∧ (∀ p : Int, ∀ q : Int, ∀ t3_0 : Int, ∀ t3_1 : Int, ∀ t3_2 : Int, ∀ t3_3 : Int, ∀ t6_0 : Int, ∀ t6_1 : Int, ((v.1 = t3_0 ∧ v.2.1 = t3_1 ∧ v.2.2.1 = t3_2 ∧ v.2.2.2 = t3_3 ∧ (0 : Int) = t6_0 ∧ (0 : Int) = t6_1) ∧ ((strip (bsD v) (Int.toNat q) p = strip (bsD v) (Int.toNat d) n ∧ -9223372036854775807 ≤ p ∧ p ≤ 9223372036854775807) ∧ 0 ≤ q ∧ q ≤ 1000)) → (bsp (decide ((0 : Int) < q)) ((varD (t3_0, t3_1, t3_2, t3_3) = true) ∧ (((bsD (t3_0, t3_1, t3_2, t3_3) : Int) ≠ 0) ∧ (bsp (decide ((Int.tmod p (bsD (t3_0, t3_1, t3_2, t3_3) : Int)) = (0 : Int))) ((varD (t3_0, t3_1, t3_2, t3_3) = true) ∧ (((bsD (t3_0, t3_1, t3_2, t3_3) : Int) ≠ 0) ∧ ((inK .i64 (Int.tdiv p (bsD (t3_0, t3_1, t3_2, t3_3) : Int))) ∧ ((inK .i64 (q - 1)) ∧ (((v.1 = t3_0 ∧ v.2.1 = t3_1 ∧ v.2.2.1 = t3_2 ∧ v.2.2.2 = t3_3 ∧ (0 : Int) = t6_0 ∧ (0 : Int) = t6_1) ∧ ((strip (bsD v) (Int.toNat (q - 1)) (Int.tdiv p (bsD (t3_0, t3_1, t3_2, t3_3) : Int)) = strip (bsD v) (Int.toNat d) n ∧ -9223372036854775807 ≤ (Int.tdiv p (bsD (t3_0, t3_1, t3_2, t3_3) : Int)) ∧ (Int.tdiv p (bsD (t3_0, t3_1, t3_2, t3_3) : Int)) ≤ 9223372036854775807) ∧ 0 ≤ (q - 1) ∧ (q - 1) ≤ 1000)) ∧ ((Int.toNat (q - 1) : Nat) < Int.toNat q)))))) ((varD (t3_0, t3_1, t3_2, t3_3) = true ∧ (p, q).2 ≤ 9223372036854775807) ∧ (bsp (!(exD (t3_0, t3_1, t3_2, t3_3) (p, q))) (@Eq (HO c_impl_makeExact.outs) ((0, 0), false, ()) (c_impl_makeExact.out (v, n, d, ()))) (@Eq (HO c_impl_makeExact.outs) ((p, q), true, ()) (c_impl_makeExact.out (v, n, d, ())))))))) ((varD (t3_0, t3_1, t3_2, t3_3) = true ∧ (p, q).2 ≤ 9223372036854775807) ∧ (bsp (!(exD (t3_0, t3_1, t3_2, t3_3) (p, q))) (@Eq (HO c_impl_makeExact.outs) ((0, 0), false, ()) (c_impl_makeExact.out (v, n, d, ()))) (@Eq (HO c_impl_makeExact.outs) ((p, q), true, ()) (c_impl_makeExact.out (v, n, d, ())))))))) (((v.1 = v.1 ∧ v.2.1 = v.2.1 ∧ v.2.2.1 = v.2.2.1 ∧ v.2.2.2 = v.2.2.2 ∧ (0 : Int) = 0 ∧ (0 : Int) = 0) ∧ ((strip (bsD v) (Int.toNat d) n = strip (bsD v) (Int.toNat d) n ∧ -9223372036854775807 ≤ n ∧ n ≤ 9223372036854775807) ∧ 0 ≤ d ∧ d ≤ 1000)) ∧ (∀ p : Int, ∀ q : Int, ∀ t3_0 : Int, ∀ t3_1 : Int, ∀ t3_2 : Int, ∀ t3_3 : Int, ∀ t6_0 : Int, ∀ t6_1 : Int, ((v.1 = t3_0 ∧ v.2.1 = t3_1 ∧ v.2.2.1 = t3_2 ∧ v.2.2.2 = t3_3 ∧ (0 : Int) = t6_0 ∧ (0 : Int) = t6_1) ∧ ((strip (bsD v) (Int.toNat q) p = strip (bsD v) (Int.toNat d) n ∧ -9223372036854775807 ≤ p ∧ p ≤ 9223372036854775807) ∧ 0 ≤ q ∧ q ≤ 1000)) → (bsp (decide ((0 : Int) < q)) ((varD (t3_0, t3_1, t3_2, t3_3) = true) ∧ (((bsD (t3_0, t3_1, t3_2, t3_3) : Int) ≠ 0) ∧ (bsp (decide ((Int.tmod p (bsD (t3_0, t3_1, t3_2, t3_3) : Int)) = (0 : Int))) ((varD (t3_0, t3_1, t3_2, t3_3) = true) ∧ (((bsD (t3_0, t3_1, t3_2, t3_3) : Int) ≠ 0) ∧ ((inK .i64 (Int.tdiv p (bsD (t3_0, t3_1, t3_2, t3_3) : Int))) ∧ ((inK .i64 (q - 1)) ∧ (((v.1 = t3_0 ∧ v.2.1 = t3_1 ∧ v.2.2.1 = t3_2 ∧ v.2.2.2 = t3_3 ∧ (0 : Int) = t6_0 ∧ (0 : Int) = t6_1) ∧ ((strip (bsD v) (Int.toNat (q - 1)) (Int.tdiv p (bsD (t3_0, t3_1, t3_2, t3_3) : Int)) = strip (bsD v) (Int.toNat d) n ∧ -9223372036854775807 ≤ (Int.tdiv p (bsD (t3_0, t3_1, t3_2, t3_3) : Int)) ∧ (Int.tdiv p (bsD (t3_0, t3_1, t3_2, t3_3) : Int)) ≤ 9223372036854775807) ∧ 0 ≤ (q - 1) ∧ (q - 1) ≤ 1000)) ∧ ((Int.toNat (q - 1) : Nat) < Int.toNat q)))))) ((varD (t3_0, t3_1, t3_2, t3_3) = true ∧ (p, q).2 ≤ 9223372036854775807) ∧ (bsp (!(exD (t3_0, t3_1, t3_2, t3_3) (p, q))) (@Eq (HO c_impl_makeExact.outs) ((0, 0), false, ()) (c_impl_makeExact.out (v, n, d, ()))) (@Eq (HO c_impl_makeExact.outs) ((p, q), true, ()) (c_impl_makeExact.out (v, n, d, ())))))))) ((varD (t3_0, t3_1, t3_2, t3_3) = true ∧ (p, q).2 ≤ 9223372036854775807) ∧ (bsp (!(exD (t3_0, t3_1, t3_2, t3_3) (p, q))) (@Eq (HO c_impl_makeExact.outs) ((0, 0), false, ()) (c_impl_makeExact.out (v, n, d, ()))) (@Eq (HO c_impl_makeExact.outs) ((p, q), true, ()) (c_impl_makeExact.out (v, n, d, ())))))))))))) (by kernel_rfl) ?_
  rintro v n d ⟨hv, ⟨n0, n1⟩, d0, d1⟩ hl
  obtain ⟨-, b1, b2, s1, s2⟩ := bsD_facts hv
  refine ⟨hv, bspD (fun h1 => ⟨⟨(by first | trivial | rfl | (and_intros <;> rfl)), ⟨?_, n0, n1⟩, by omega, by omega⟩, ?_⟩) (fun h1 => ⟨⟨(by first | trivial | rfl | (and_intros <;> rfl)), ⟨rfl, n0, n1⟩, d0, d1⟩, ?_⟩)⟩
  · have e : bsD v = 1 := by omega
    rw [e, strip_one, strip_one]
  · skip
    rintro p q t3_0 t3_1 t3_2 t3_3 t6_0 t6_1 ⟨⟨rfl, rfl, rfl, rfl, rfl, rfl⟩, ⟨⟨hs, p0, p1⟩, q0, q1⟩⟩
    simp only [Prod.eta]
    obtain ⟨k, rfl⟩ : ∃ k : Nat, q = k := ⟨q.toNat, by omega⟩
    simp only [Int.toNat_natCast] at hs ⊢
    have fin : strip (bsD v) k p = (p, k) → bsp (!exD v (p, (k : Int))) (@Eq (HO c_impl_makeExact.outs) ((0, 0), false, ()) (c_impl_makeExact.out (v, n, d, ()))) (@Eq (HO c_impl_makeExact.outs) ((p, (k : Int)), true, ()) (c_impl_makeExact.out (v, n, d, ()))) := fun e => by
      rw [e] at hs
      refine bspB (fun h => ?_) (fun h => ?_)
      · simp only [Bool.not_eq_true'] at h
        simp only [c_impl_makeExact, mkD, ← hs, h]; rfl
      · simp only [Bool.not_eq_false'] at h
        simp only [c_impl_makeExact, mkD, ← hs, h, if_true]
    refine bspD (fun hq => ⟨hv, by omega, bspD (fun hm => ?_) (fun hm => ⟨⟨hv, by omega⟩, fin ?_⟩)⟩) (fun hq => ⟨⟨hv, by omega⟩, fin ?_⟩)
    · obtain ⟨j, rfl⟩ : ∃ j, k = j + 1 := ⟨k - 1, by omega⟩
      have ha := tdiv_abs (n := p) b1
      rw [strip, if_pos hm] at hs
      refine ⟨hv, by omega, by simp only [inK]; omega, by simp only [inK]; omega, ⟨(by first | trivial | rfl | (and_intros <;> rfl)), ⟨?_, by omega, by omega⟩, by omega, by omega⟩, by omega⟩
      rw [show (((j + 1 : Nat) : Int) - 1).toNat = j by omega]; exact hs
    · obtain ⟨j, rfl⟩ : ∃ j, k = j + 1 := ⟨k - 1, by omega⟩
      rw [strip, if_neg hm]
    · obtain rfl : k = 0 := by omega
      rfl
  · skip
    rintro p q t3_0 t3_1 t3_2 t3_3 t6_0 t6_1 ⟨⟨rfl, rfl, rfl, rfl, rfl, rfl⟩, ⟨⟨hs, p0, p1⟩, q0, q1⟩⟩
    simp only [Prod.eta]
    obtain ⟨k, rfl⟩ : ∃ k : Nat, q = k := ⟨q.toNat, by omega⟩
    simp only [Int.toNat_natCast] at hs ⊢
    have fin : strip (bsD v) k p = (p, k) → bsp (!exD v (p, (k : Int))) (@Eq (HO c_impl_makeExact.outs) ((0, 0), false, ()) (c_impl_makeExact.out (v, n, d, ()))) (@Eq (HO c_impl_makeExact.outs) ((p, (k : Int)), true, ()) (c_impl_makeExact.out (v, n, d, ()))) := fun e => by
      rw [e] at hs
      refine bspB (fun h => ?_) (fun h => ?_)
      · simp only [Bool.not_eq_true'] at h
        simp only [c_impl_makeExact, mkD, ← hs, h]; rfl
      · simp only [Bool.not_eq_false'] at h
        simp only [c_impl_makeExact, mkD, ← hs, h, if_true]
    refine bspD (fun hq => ⟨hv, by omega, bspD (fun hm => ?_) (fun hm => ⟨⟨hv, by omega⟩, fin ?_⟩)⟩) (fun hq => ⟨⟨hv, by omega⟩, fin ?_⟩)
    · obtain ⟨j, rfl⟩ : ∃ j, k = j + 1 := ⟨k - 1, by omega⟩
      have ha := tdiv_abs (n := p) b1
      rw [strip, if_pos hm] at hs
      refine ⟨hv, by omega, by simp only [inK]; omega, by simp only [inK]; omega, ⟨(by first | trivial | rfl | (and_intros <;> rfl)), ⟨?_, by omega, by omega⟩, by omega, by omega⟩, by omega⟩
      rw [show (((j + 1 : Nat) : Int) - 1).toNat = j by omega]; exact hs
    · obtain ⟨j, rfl⟩ : ∃ j, k = j + 1 := ⟨k - 1, by omega⟩
      rw [strip, if_neg hm]
    · obtain rfl : k = 0 := by omega
      rfl
end Go.Proofs.Ytoobijimfccfgaa
