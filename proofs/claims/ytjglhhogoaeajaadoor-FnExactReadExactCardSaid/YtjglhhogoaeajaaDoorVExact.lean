/-
  Contracts: bases, scales, valid exact numbers.
-/
import Derived.Test.YtjglhhogoaeajaaDoorVGame
import Derived.Test.YtjglhhogoaeajaaDoorAbW
import Derived.Test.YtjglhhogoaeajaaDoorMathEx
import Derived.Test.YtjglhhogoaeajaaDoorMathFit
import Derived.Test.YtjglhhogoaeajaaDoorBridge
namespace Go.Proofs.YtjglhhogoaeajaaDoor
open Go.RowKit
set_option linter.unusedSimpArgs false
set_option linter.unusedVariables false
/-- the base of a variant -/
def bsD (v : DVar) : Nat := (v.2.2.2 * v.2.2.2).toNat
theorem bsD_facts {v : DVar} (h : varD v = true) : v.2.2.2 * v.2.2.2 = (bsD v : Int) ∧ 1 ≤ bsD v ∧ bsD v ≤ 36 ∧ 1 ≤ v.2.2.2 ∧ v.2.2.2 ≤ 6 := by
  obtain ⟨_, _, _, h1, h2⟩ := varD_iff.1 h
  unfold bsD
  generalize v.2.2.2 = s at *
  have : s = 1 ∨ s = 2 ∨ s = 3 ∨ s = 4 ∨ s = 5 ∨ s = 6 := by omega
  rcases this with rfl | rfl | rfl | rfl | rfl | rfl <;> decide
def c_impl_baseOf : Con where
  ins := [(true, .v tVar)]
  outs := [(false, .v tI)]
  sh := false
  pre := fun x => varD x.1 = true
  out := fun x => ((bsD x.1 : Int), ())
  upd := fun x => x
theorem k_impl_baseOf [B : Base] : ConOk Tryd.prog 14 c_impl_baseOf := by
  refine fn_okW (C := cx Tryd.prog 8 c_impl_baseOf) (cs := []) (res := Tryd.f14.results.toList) (fun _ => ⟨[], [], []⟩) Tryd.func14 (by kernel_rfl) rfl rfl rfl tysOk.look eqTsOk.look (AllCs.ok (l := []) trivial) mixed rfl rfl rfl ?_
  refine of_nf (P := ∀ v : Int × Int × Int × Int, (varD v = true) → ((lensI c_impl_baseOf.ins (v, ())) → ((inK .i64 (v.2.2.2 * v.2.2.2)) ∧ (@Eq (HO c_impl_baseOf.outs) ((v.2.2.2 * v.2.2.2), ()) (c_impl_baseOf.out (v, ())))))) (by kernel_rfl) ?_
  rintro v hv hl
  obtain ⟨e, b1, b2, s1, s2⟩ := bsD_facts hv
  rw [e]
  exact ⟨by simp only [inK]; omega, rfl⟩
def c_spec_l09Base : Con where
  ins := [(true, .v tVar)]
  outs := [(false, .v tI)]
  sh := false
  pre := fun x => varD x.1 = true
  out := fun x => ((bsD x.1 : Int), ())
  upd := fun x => x
theorem k_spec_l09Base [B : Base] : ConOk Tryd.prog 28 c_spec_l09Base := by
  refine fn_okW (C := cx Tryd.prog 8 c_spec_l09Base) (cs := []) (res := Tryd.f28.results.toList) (fun _ => ⟨[], [], []⟩) Tryd.func28 (by kernel_rfl) rfl rfl rfl tysOk.look eqTsOk.look (AllCs.ok (l := []) trivial) mixed rfl rfl rfl ?_
  refine of_nf (P := ∀ v : Int × Int × Int × Int, (varD v = true) → ((lensI c_spec_l09Base.ins (v, ())) → ((inK .i64 (v.2.2.2 * v.2.2.2)) ∧ (@Eq (HO c_spec_l09Base.outs) ((v.2.2.2 * v.2.2.2), ()) (c_spec_l09Base.out (v, ())))))) (by kernel_rfl) ?_
  rintro v hv hl
  obtain ⟨e, b1, b2, s1, s2⟩ := bsD_facts hv
  rw [e]
  exact ⟨by simp only [inK]; omega, rfl⟩
def c_impl_scaleOf : Con where
  ins := [(true, .v tVar), (false, .v tI)]
  outs := [(false, .v tI), (false, .v .b)]
  sh := false
  pre := fun x => varD x.1 = true ∧ x.2.1 ≤ 9223372036854775807
  out := fun x => ((sclV (bsD x.1) x.2.1 : Int), sclB (bsD x.1) x.2.1, ())
  upd := fun x => x
theorem k_impl_scaleOf [B : Base] : ConOk Tryd.prog 26 c_impl_scaleOf := by
  refine fn_okW (C := cx Tryd.prog 21 c_impl_scaleOf) (cs := [(14, c_impl_baseOf)]) (res := Tryd.f26.results.toList) (fun x => ⟨[{ sh := ⟨[(2, .one (.ref 0)), (6, .one (.i .i64)), (10, .one (.i .i64)), (11, .one (.i .i64))], [(0, .box [.i .i64, .i .i64, .i .i64, .i .i64])]⟩, nx := 1, I := fun _ dat_ => (x.2.1 = dat_.1.2.2.1 ∧ x.1.1 = dat_.2.1.1 ∧ x.1.2.1 = dat_.2.1.2.1 ∧ x.1.2.2.1 = dat_.2.1.2.2.1 ∧ x.1.2.2.2 = dat_.2.1.2.2.2.1) ∧ (dat_.1.2.1 = ((bsD x.1 ^ Int.toNat dat_.1.2.2.2.1 : Nat) : Int) ∧ bsD x.1 ^ Int.toNat dat_.1.2.2.2.1 ≤ 1000000000000000 ∧ 0 ≤ dat_.1.2.2.2.1 ∧ (dat_.1.2.2.2.1 ≤ x.2.1 ∨ dat_.1.2.2.2.1 = 0)), mu := fun dat_ => Int.toNat (x.2.1 - dat_.1.2.2.2.1) }], [], []⟩) Tryd.func26 (by kernel_rfl) rfl rfl rfl tysOk.look eqTsOk.look (AllCs.ok (l := [(14, c_impl_baseOf)]) ⟨k_impl_baseOf, trivial⟩) mixed rfl rfl rfl ?_
  refine of_nf (P := ∀ v : Int × Int × Int × Int, ∀ d : Int, (varD v = true ∧ d ≤ 9223372036854775807) → ((lensI c_impl_scaleOf.ins (v, d, ())) → ((varD v = true) ∧ (bsp (decide ((bsD v : Int) = (1 : Int))) (@Eq (HO c_impl_scaleOf.outs) (1, true, ()) (c_impl_scaleOf.out (v, d, ()))) (((d = d ∧ v.1 = v.1 ∧ v.2.1 = v.2.1 ∧ v.2.2.1 = v.2.2.1 ∧ v.2.2.2 = v.2.2.2) ∧ ((1 : Int) = ((bsD v ^ Int.toNat (0 : Int) : Nat) : Int) ∧ bsD v ^ Int.toNat (0 : Int) ≤ 1000000000000000 ∧ 0 ≤ (0 : Int) ∧ ((0 : Int) ≤ d ∨ (0 : Int) = 0))) ∧ (∀ m : Int, ∀ n : Int, ∀ i : Int, ∀ t2_0 : Int, ∀ t2_1 : Int, ∀ t2_2 : Int, ∀ t2_3 : Int, ((d = n ∧ v.1 = t2_0 ∧ v.2.1 = t2_1 ∧ v.2.2.1 = t2_2 ∧ v.2.2.2 = t2_3) ∧ (m = ((bsD v ^ Int.toNat i : Nat) : Int) ∧ bsD v ^ Int.toNat i ≤ 1000000000000000 ∧ 0 ≤ i ∧ (i ≤ d ∨ i = 0))) → (bsp (decide (i < n)) ((varD (t2_0, t2_1, t2_2, t2_3) = true) ∧ ((inK .i64 (m * (bsD (t2_0, t2_1, t2_2, t2_3) : Int))) ∧ (bsp (decide ((1000000000000000 : Int) < (m * (bsD (t2_0, t2_1, t2_2, t2_3) : Int)))) (@Eq (HO c_impl_scaleOf.outs) (0, false, ()) (c_impl_scaleOf.out (v, d, ()))) ((inK .i64 (i + 1)) ∧ (((d = n ∧ v.1 = t2_0 ∧ v.2.1 = t2_1 ∧ v.2.2.1 = t2_2 ∧ v.2.2.2 = t2_3) ∧ ((m * (bsD (t2_0, t2_1, t2_2, t2_3) : Int)) = ((bsD v ^ Int.toNat (i + 1) : Nat) : Int) ∧ bsD v ^ Int.toNat (i + 1) ≤ 1000000000000000 ∧ 0 ≤ (i + 1) ∧ ((i + 1) ≤ d ∨ (i + 1) = 0))) ∧ ((Int.toNat (d - (i + 1)) : Nat) < Int.toNat (d - i))))))) (@Eq (HO c_impl_scaleOf.outs) (m, true, ()) (c_impl_scaleOf.out (v, d, ())))))))))) (by kernel_rfl) ?_
  rintro v d ⟨hv, hd⟩ hl
  obtain ⟨-, b1, b2, s1, s2⟩ := bsD_facts hv
  have out : ∀ (k : Nat) (c : Bool), sclB (bsD v) d = c ∧ sclV (bsD v) d = k → @Eq (HO c_impl_scaleOf.outs) ((k : Int), c, ()) (c_impl_scaleOf.out (v, d, ())) := fun k c h => by simp only [c_impl_scaleOf, h.1, h.2]
  refine ⟨hv, bspD (fun h => ?_) (fun h => ⟨⟨(by first | trivial | rfl | (and_intros <;> rfl)), rfl, by simp, by omega, .inr rfl⟩, ?_⟩)⟩
  · have e : bsD v = 1 := by omega
    exact out 1 true (by rw [e]; exact scl_one)
  rintro m n i t2_0 t2_1 t2_2 t2_3 ⟨⟨rfl, rfl, rfl, rfl, rfl⟩, ⟨hm, hb, i0, hi⟩⟩
  simp only [Prod.eta]
  refine bspD (fun hlt => ?_) (fun hge => ?_)
  · obtain ⟨k, rfl⟩ : ∃ k : Nat, i = k := ⟨i.toNat, by omega⟩
    simp only [Int.toNat_natCast] at hm hb ⊢
    have e : m * (bsD v : Int) = ((bsD v ^ (k + 1) : Nat) : Int) := by rw [hm, Nat.pow_succ]; simp
    have hb2 : bsD v ^ (k + 1) ≤ 36000000000000000 := by rw [Nat.pow_succ]; exact Nat.le_trans (Nat.mul_le_mul hb b2) (by decide)
    rw [e]
    generalize hP : bsD v ^ (k + 1) = Pw at *
    refine ⟨hv, by simp only [inK]; omega, bspD (fun hbig => out 0 false ?_) (fun hfit => ⟨by simp only [inK]; omega, ⟨(by first | trivial | rfl | (and_intros <;> rfl)), ?_, ?_, by omega, by omega⟩, by omega⟩)⟩
    · exact scl_no (by omega) hlt (by rw [hP]; omega)
    · rw [show ((k : Int) + 1).toNat = k + 1 by omega, hP]
    · rw [show ((k : Int) + 1).toNat = k + 1 by omega, hP]; omega
  · rw [hm]
    by_cases hz : i = 0
    · subst hz; exact out 1 true (scl_neg (by omega))
    · exact out _ true (scl_yes (by omega) hb)
def c_spec_l09Scale : Con where
  ins := [(true, .v tVar), (false, .v tI)]
  outs := [(false, .v tI), (false, .v .b)]
  sh := false
  pre := fun x => varD x.1 = true ∧ x.2.1 ≤ 9223372036854775807
  out := fun x => ((sclV (bsD x.1) x.2.1 : Int), sclB (bsD x.1) x.2.1, ())
  upd := fun x => x
theorem k_spec_l09Scale [B : Base] : ConOk Tryd.prog 19 c_spec_l09Scale := by
  refine fn_okW (C := cx Tryd.prog 25 c_spec_l09Scale) (cs := [(28, c_spec_l09Base)]) (res := Tryd.f19.results.toList) (fun x => ⟨[{ sh := ⟨[(1, .one (.i .i64)), (2, .one (.ref 0)), (6, .one (.i .i64)), (7, .one (.i .i64))], [(0, .box [.i .i64, .i .i64, .i .i64, .i .i64])]⟩, nx := 1, I := fun _ dat_ => (x.2.1 = dat_.1.1 ∧ x.1.1 = dat_.2.1.1 ∧ x.1.2.1 = dat_.2.1.2.1 ∧ x.1.2.2.1 = dat_.2.1.2.2.1 ∧ x.1.2.2.2 = dat_.2.1.2.2.2.1) ∧ (dat_.1.2.2.1 = ((bsD x.1 ^ Int.toNat dat_.1.2.2.2.1 : Nat) : Int) ∧ bsD x.1 ^ Int.toNat dat_.1.2.2.2.1 ≤ 1000000000000000 ∧ 0 ≤ dat_.1.2.2.2.1 ∧ (dat_.1.2.2.2.1 ≤ x.2.1 ∨ dat_.1.2.2.2.1 = 0)), mu := fun dat_ => Int.toNat (x.2.1 - dat_.1.2.2.2.1) }], [], []⟩) Tryd.func19 (by kernel_rfl) rfl rfl rfl tysOk.look eqTsOk.look (AllCs.ok (l := [(28, c_spec_l09Base)]) ⟨k_spec_l09Base, trivial⟩) mixed rfl rfl rfl ?_
  refine of_nf (P := ∀ v : Int × Int × Int × Int, ∀ d : Int, (varD v = true ∧ d ≤ 9223372036854775807) → ((lensI c_spec_l09Scale.ins (v, d, ())) → (((d = d ∧ v.1 = v.1 ∧ v.2.1 = v.2.1 ∧ v.2.2.1 = v.2.2.1 ∧ v.2.2.2 = v.2.2.2) ∧ ((1 : Int) = ((bsD v ^ Int.toNat (0 : Int) : Nat) : Int) ∧ bsD v ^ Int.toNat (0 : Int) ≤ 1000000000000000 ∧ 0 ≤ (0 : Int) ∧ ((0 : Int) ≤ d ∨ (0 : Int) = 0))) ∧ (∀ t1 : Int, ∀ m : Int, ∀ i : Int, ∀ t2_0 : Int, ∀ t2_1 : Int, ∀ t2_2 : Int, ∀ t2_3 : Int, ((d = t1 ∧ v.1 = t2_0 ∧ v.2.1 = t2_1 ∧ v.2.2.1 = t2_2 ∧ v.2.2.2 = t2_3) ∧ (m = ((bsD v ^ Int.toNat i : Nat) : Int) ∧ bsD v ^ Int.toNat i ≤ 1000000000000000 ∧ 0 ≤ i ∧ (i ≤ d ∨ i = 0))) → (bsp (decide (i < t1)) ((varD (t2_0, t2_1, t2_2, t2_3) = true) ∧ (bsp (decide ((1 : Int) < (bsD (t2_0, t2_1, t2_2, t2_3) : Int))) ((varD (t2_0, t2_1, t2_2, t2_3) = true) ∧ ((inK .i64 (m * (bsD (t2_0, t2_1, t2_2, t2_3) : Int))) ∧ (bsp (decide ((1000000000000000 : Int) < (m * (bsD (t2_0, t2_1, t2_2, t2_3) : Int)))) (@Eq (HO c_spec_l09Scale.outs) (0, false, ()) (c_spec_l09Scale.out (v, d, ()))) ((inK .i64 (i + 1)) ∧ (((d = t1 ∧ v.1 = t2_0 ∧ v.2.1 = t2_1 ∧ v.2.2.1 = t2_2 ∧ v.2.2.2 = t2_3) ∧ ((m * (bsD (t2_0, t2_1, t2_2, t2_3) : Int)) = ((bsD v ^ Int.toNat (i + 1) : Nat) : Int) ∧ bsD v ^ Int.toNat (i + 1) ≤ 1000000000000000 ∧ 0 ≤ (i + 1) ∧ ((i + 1) ≤ d ∨ (i + 1) = 0))) ∧ ((Int.toNat (d - (i + 1)) : Nat) < Int.toNat (d - i))))))) (@Eq (HO c_spec_l09Scale.outs) (m, true, ()) (c_spec_l09Scale.out (v, d, ()))))) (@Eq (HO c_spec_l09Scale.outs) (m, true, ()) (c_spec_l09Scale.out (v, d, ())))))))) (by kernel_rfl) ?_
  rintro v d ⟨hv, hd⟩ hl
  obtain ⟨-, b1, b2, s1, s2⟩ := bsD_facts hv
  have out : ∀ (k : Nat) (c : Bool), sclB (bsD v) d = c ∧ sclV (bsD v) d = k → @Eq (HO c_spec_l09Scale.outs) ((k : Int), c, ()) (c_spec_l09Scale.out (v, d, ())) := fun k c h => by simp only [c_spec_l09Scale, h.1, h.2]
  refine ⟨⟨(by first | trivial | rfl | (and_intros <;> rfl)), rfl, by simp, by omega, .inr rfl⟩, ?_⟩
  rintro t1 m i t2_0 t2_1 t2_2 t2_3 ⟨⟨rfl, rfl, rfl, rfl, rfl⟩, ⟨hm, hb, i0, hi⟩⟩
  simp only [Prod.eta]
  refine bspD (fun hlt => ?_) (fun hge => ?_)
  · obtain ⟨k, rfl⟩ : ∃ k : Nat, i = k := ⟨i.toNat, by omega⟩
    simp only [Int.toNat_natCast] at hm hb ⊢
    have e : m * (bsD v : Int) = ((bsD v ^ (k + 1) : Nat) : Int) := by rw [hm, Nat.pow_succ]; simp
    have hb2 : bsD v ^ (k + 1) ≤ 36000000000000000 := by rw [Nat.pow_succ]; exact Nat.le_trans (Nat.mul_le_mul hb b2) (by decide)
    rw [e]
    generalize hP : bsD v ^ (k + 1) = Pw at *
    refine ⟨hv, bspD (fun hb3 => ?_) (fun hb3 => ?_)⟩
    · refine ⟨hv, by simp only [inK]; omega, bspD (fun hbig => out 0 false ?_) (fun hfit => ⟨by simp only [inK]; omega, ⟨(by first | trivial | rfl | (and_intros <;> rfl)), ?_, ?_, by omega, by omega⟩, by omega⟩)⟩
      · exact scl_no (by omega) hlt (by rw [hP]; omega)
      · rw [show ((k : Int) + 1).toNat = k + 1 by omega, hP]
      · rw [show ((k : Int) + 1).toNat = k + 1 by omega, hP]; omega
    · have e1 : bsD v = 1 := by omega
      rw [hm, e1, Nat.one_pow]
      exact out 1 true (by rw [e1]; exact scl_one)
  · rw [hm]
    by_cases hz : i = 0
    · subst hz; exact out 1 true (scl_neg (by omega))
    · exact out _ true (scl_yes (by omega) hb)
/-- an exact number is valid -/
def exD (v : DVar) (x : DExact) : Bool :=
  decide (0 ≤ x.2) && (inB x.1 (-1000000000000000000) 1000000000000000000 && (decide (x.2 = 0) || (decide (1 < bsD v) && sclB (bsD v) x.2 && decide (Int.tmod x.1 (bsD v) ≠ 0))))
theorem scl_60 {b : Nat} {d : Int} (hb : 2 ≤ b) (hd : 60 < d) : sclB b d = false := by
  have h1 : 2 ^ 61 ≤ b ^ 61 := Nat.pow_le_pow_left hb 61
  have h2 : b ^ 61 = b ^ (60 + 1) := rfl
  exact (scl_no (k := 60) hb (by omega) (by omega)).1
def c_impl_isExact : Con where
  ins := [(true, .v tVar), (true, .v tRoll)]
  outs := [(false, .v .b)]
  sh := false
  pre := fun x => varD x.1 = true ∧ x.2.1.2 ≤ 9223372036854775807
  out := fun x => (exD x.1 x.2.1, ())
  upd := fun x => x
theorem k_impl_isExact [B : Base] : ConOk Tryd.prog 34 c_impl_isExact := by
  refine fn_okW (C := cx Tryd.prog 43 c_impl_isExact) (cs := [(20, c_impl_within), (14, c_impl_baseOf), (26, c_impl_scaleOf)]) (res := Tryd.f34.results.toList) (fun _ => ⟨[], [(8, ⟨[[], [0], [0, 1], [0, 1, 2], [0, 1], [0, 1, 4], [0, 1, 2, 3, 4, 5], [0, 1, 2, 3, 4, 5, 6], [0, 1, 2, 3, 4, 5, 6, 7], [0, 1, 2, 3, 4, 5, 6, 7, 8]], [[], [], [4, 5], [4, 5], [2, 3], [2, 3], [], [], [], []], []⟩)], []⟩) Tryd.func34 (by kernel_rfl) rfl rfl rfl tysOk.look eqTsOk.look (AllCs.ok (l := [(20, c_impl_within), (14, c_impl_baseOf), (26, c_impl_scaleOf)]) ⟨k_impl_within, k_impl_baseOf, k_impl_scaleOf, trivial⟩) mixed rfl rfl rfl ?_
  refine of_nf (P := ∀ v : Int × Int × Int × Int, ∀ x : Int × Int, (varD v = true ∧ x.2 ≤ 9223372036854775807) → ((lensI c_impl_isExact.ins (v, x, ())) → (bsp (decide (x.2 < (0 : Int))) (@Eq (HO c_impl_isExact.outs) (false, ()) (c_impl_isExact.out (v, x, ()))) (True ∧ (bsp (!(inB x.1 (-1000000000000000000 : Int) (1000000000000000000 : Int))) (@Eq (HO c_impl_isExact.outs) (false, ()) (c_impl_isExact.out (v, x, ()))) (bsp (decide (x.2 = (0 : Int))) (@Eq (HO c_impl_isExact.outs) (true, ()) (c_impl_isExact.out (v, x, ()))) ((varD v = true) ∧ (bsp (decide ((bsD v : Int) = (1 : Int))) (@Eq (HO c_impl_isExact.outs) (false, ()) (c_impl_isExact.out (v, x, ()))) (bsp (decide ((60 : Int) < x.2)) (@Eq (HO c_impl_isExact.outs) (false, ()) (c_impl_isExact.out (v, x, ()))) ((varD v = true ∧ x.2 ≤ 9223372036854775807) ∧ (bsp (sclB (bsD v) x.2) ((varD v = true) ∧ (((bsD v : Int) ≠ 0) ∧ (@Eq (HO c_impl_isExact.outs) ((decide ((Int.tmod x.1 (bsD v : Int)) ≠ (0 : Int))), ()) (c_impl_isExact.out (v, x, ()))))) (@Eq (HO c_impl_isExact.outs) (false, ()) (c_impl_isExact.out (v, x, ())))))))))))))) (by kernel_rfl) ?_
  rintro v x ⟨hv, hx⟩ hl
  obtain ⟨-, b1, b2, s1, s2⟩ := bsD_facts hv
  have out : ∀ c : Bool, exD v x = c → @Eq (HO c_impl_isExact.outs) (c, ()) (c_impl_isExact.out (v, x, ())) := fun c h => by subst h; rfl
  have h60 : 60 < x.2 → 2 ≤ bsD v → sclB (bsD v) x.2 = false := fun h1 h2 => scl_60 h2 h1
  clear hl
  repeat' first
    | refine ⟨trivial, ?_⟩
    | refine ⟨hv, ?_⟩
    | refine ⟨⟨hv, hx⟩, ?_⟩
    | refine bspD (fun _ => ?_) (fun _ => ?_)
    | refine bspB (fun _ => ?_) (fun _ => ?_)
    | refine ⟨by omega, ?_⟩
    | refine out _ ?_
    | fail
  all_goals
    clear out
    simp only [exD]
    first
      | (rw [Bool.eq_iff_iff]; simp_all; done)
      | (rw [Bool.eq_iff_iff]; simp_all; omega)
      | grind
def c_spec_l09Valid : Con where
  ins := [(true, .v tVar), (true, .v tRoll)]
  outs := [(false, .v .b)]
  sh := false
  pre := fun x => varD x.1 = true ∧ x.2.1.2 ≤ 9223372036854775807
  out := fun x => (exD x.1 x.2.1, ())
  upd := fun x => x
theorem k_spec_l09Valid [B : Base] : ConOk Tryd.prog 27 c_spec_l09Valid := by
  refine fn_okW (C := cx Tryd.prog 40 c_spec_l09Valid) (cs := [(16, c_spec_l01In), (19, c_spec_l09Scale), (28, c_spec_l09Base)]) (res := Tryd.f27.results.toList) (fun _ => ⟨[], [(6, ⟨[[], [0], [0, 1], [0, 1, 2], [0, 1, 2, 3], [0, 1, 2, 3, 4], [0, 1, 2, 3, 4, 5], [0, 1, 2, 3, 4, 5, 6], [0, 1, 2, 3, 4, 5, 6, 7], [0, 1, 2, 3, 4, 5, 6], [0, 1, 2, 3, 4, 5, 6, 9], [0, 1, 2, 3, 4, 5, 6, 7, 8, 9, 10], [0, 1, 2, 3, 4, 5, 6, 7, 8, 9, 10, 11], [0, 1, 2, 3, 4, 5, 6, 7, 8, 9, 10, 11, 12], [0, 1, 2, 3, 4, 5, 6, 7, 8, 9, 10, 11, 12, 13]], [[], [], [], [], [], [], [], [9, 10], [9, 10], [7, 8], [7, 8], [], [], [], []], []⟩)], []⟩) Tryd.func27 (by kernel_rfl) rfl rfl rfl tysOk.look eqTsOk.look (AllCs.ok (l := [(16, c_spec_l01In), (19, c_spec_l09Scale), (28, c_spec_l09Base)]) ⟨k_spec_l01In, k_spec_l09Scale, k_spec_l09Base, trivial⟩) mixed rfl rfl rfl ?_
  refine of_nf (P := ∀ v : Int × Int × Int × Int, ∀ x : Int × Int, (varD v = true ∧ x.2 ≤ 9223372036854775807) → ((lensI c_spec_l09Valid.ins (v, x, ())) → (bsp (decide (x.2 < (0 : Int))) (@Eq (HO c_spec_l09Valid.outs) (false, ()) (c_spec_l09Valid.out (v, x, ()))) (True ∧ (bsp (!(inB x.1 (-1000000000000000000 : Int) (1000000000000000000 : Int))) (@Eq (HO c_spec_l09Valid.outs) (false, ()) (c_spec_l09Valid.out (v, x, ()))) (bsp (decide (x.2 = (0 : Int))) (@Eq (HO c_spec_l09Valid.outs) (true, ()) (c_spec_l09Valid.out (v, x, ()))) ((varD v = true ∧ x.2 ≤ 9223372036854775807) ∧ (bsp (sclB (bsD v) x.2) ((varD v = true) ∧ (bsp (decide ((1 : Int) < (bsD v : Int))) ((varD v = true) ∧ (((bsD v : Int) ≠ 0) ∧ (@Eq (HO c_spec_l09Valid.outs) ((decide ((Int.tmod x.1 (bsD v : Int)) ≠ (0 : Int))), ()) (c_spec_l09Valid.out (v, x, ()))))) (@Eq (HO c_spec_l09Valid.outs) (false, ()) (c_spec_l09Valid.out (v, x, ()))))) (@Eq (HO c_spec_l09Valid.outs) (false, ()) (c_spec_l09Valid.out (v, x, ()))))))))))) (by kernel_rfl) ?_
  rintro v x ⟨hv, hx⟩ hl
  obtain ⟨-, b1, b2, s1, s2⟩ := bsD_facts hv
  have out : ∀ c : Bool, exD v x = c → @Eq (HO c_spec_l09Valid.outs) (c, ()) (c_spec_l09Valid.out (v, x, ())) := fun c h => by subst h; rfl
  have h60 : 60 < x.2 → 2 ≤ bsD v → sclB (bsD v) x.2 = false := fun h1 h2 => scl_60 h2 h1
  clear hl
  repeat' first
    | refine ⟨trivial, ?_⟩
    | refine ⟨hv, ?_⟩
    | refine ⟨⟨hv, hx⟩, ?_⟩
    | refine bspD (fun _ => ?_) (fun _ => ?_)
    | refine bspB (fun _ => ?_) (fun _ => ?_)
    | refine ⟨by omega, ?_⟩
    | refine out _ ?_
    | fail
  all_goals
    clear out
    simp only [exD]
    first
      | (rw [Bool.eq_iff_iff]; simp_all; done)
      | (rw [Bool.eq_iff_iff]; simp_all; omega)
      | grind
def timesD (a b : Int) : Bool := decide (a.natAbs * b.natAbs ≤ 1000000000000000000)
theorem timesD_iff {x y : Nat} (hy : 1 ≤ y) : (Int.tdiv 1000000000000000000 (y : Int) < (x : Int)) ↔ ¬ x * y ≤ 1000000000000000000 := by
  have h1 : Int.tdiv (1000000000000000000 : Int) (y : Int) = ((1000000000000000000 / y : Nat) : Int) := by rw [Int.tdiv_eq_ediv_of_nonneg (by omega)]; simp
  rw [h1]
  have h2 : x ≤ 1000000000000000000 / y ↔ x * y ≤ 1000000000000000000 := Nat.le_div_iff_mul_le hy
  rw [← h2]
  omega
theorem timesD_in {a b : Int} (h : timesD a b = true) : inK .i64 (a * b) := by
  simp only [timesD, decide_eq_true_eq] at h
  have : (a * b).natAbs ≤ 1000000000000000000 := by rw [Int.natAbs_mul]; exact h
  simp only [inK]; omega
def mkD (v : DVar) (n : Int) (d : Nat) : DExact × Bool :=
  if exD v ((strip (bsD v) d n).1, ((strip (bsD v) d n).2 : Int)) then (((strip (bsD v) d n).1, ((strip (bsD v) d n).2 : Int)), true) else ((0, 0), false)
end Go.Proofs.YtjglhhogoaeajaaDoor
