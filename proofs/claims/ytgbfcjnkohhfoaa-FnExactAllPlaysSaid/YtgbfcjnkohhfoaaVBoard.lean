/-
  Contracts: sides and boards.
-/
import Derived.Test.YtgbfcjnkohhfoaaVBase
namespace Go.Proofs.Ytgbfcjnkohhfoaa
open Go.RowKit
set_option linter.unusedSimpArgs false
set_option linter.unusedVariables false
theorem getD_neg {zs : List Int} {k : Nat} (h : k < zs.length) : zs.getD k 0 ∈ zs := by
  rw [List.getD_eq_getElem?_getD, List.getElem?_eq_getElem h]; exact List.getElem_mem h
/-- all elements are at least 0, their sum is at most c -/
def fitsD (c : Int) (zs : List Int) : Bool := zs.all (fun z => decide (0 ≤ z)) && decide (zs.sum ≤ c)
def sideD (v : DVar) (zs : List Int) : Bool := decide ((zs.length : Int) = v.1 + 1) && fitsD v.2.1 zs
/-- whether both players have checkers on one of the first k points -/
def clashD (zs ys : List Int) (p : Nat) : Nat → Bool
  | 0 => false
  | k + 1 => clashD zs ys p k || (decide (0 < zs.getD k 0) && decide (0 < ys.getD (p - 1 - k) 0))
def overD (b : DBoard) : Bool := decide (b.1.sum = 0) || decide (b.2.sum = 0)
def boardD (v : DVar) (b : DBoard) : Bool := varD v && (sideD v b.1 && (sideD v b.2 && (!(decide (b.1.sum = 0) && decide (b.2.sum = 0)) && !clashD b.1 b.2 v.1.toNat v.1.toNat)))
theorem fitsD_iff {c : Int} {zs : List Int} : fitsD c zs = true ↔ (∀ z, z ∈ zs → 0 ≤ z) ∧ zs.sum ≤ c := by
  simp [fitsD]
theorem sum_nonneg {zs : List Int} (h : ∀ z, z ∈ zs → 0 ≤ z) : 0 ≤ zs.sum := by
  induction zs with
  | nil => simp
  | cons z zs ih =>
    have := ih fun y hy => h y (List.mem_cons_of_mem _ hy)
    have := h z (List.mem_cons_self ..)
    simp; omega
theorem mem_le_sum {zs : List Int} (h : ∀ z, z ∈ zs → 0 ≤ z) {z : Int} (hz : z ∈ zs) : z ≤ zs.sum := by
  induction zs with
  | nil => simp at hz
  | cons y zs ih =>
    have h0 := sum_nonneg fun x hx => h x (List.mem_cons_of_mem _ hx)
    have hy := h y (List.mem_cons_self ..)
    rcases List.mem_cons.1 hz with rfl | hz
    · simp; omega
    · have := ih (fun x hx => h x (List.mem_cons_of_mem _ hx)) hz
      simp; omega
theorem fitsD_bd {c : Int} {zs : List Int} (hc : c ≤ 15) (hl : zs.length ≤ 1099511627776) (h : fitsD c zs = true) : Bd zs := by
  obtain ⟨h1, h2⟩ := fitsD_iff.1 h
  refine ⟨hl, fun z hz => ⟨h1 z hz, by have := mem_le_sum h1 hz; omega⟩⟩
theorem sideD_bd {v : DVar} {zs : List Int} (hv : varD v = true) (h : sideD v zs = true) : Bd zs ∧ (zs.length : Int) = v.1 + 1 := by
  obtain ⟨h1, h2, _⟩ := varD_iff.1 hv
  simp only [sideD, Bool.and_eq_true, decide_eq_true_eq] at h
  exact ⟨fitsD_bd h2.2 (by omega) h.2, h.1⟩
theorem sumTo_nonneg {zs : List Int} {k : Nat} (h : ∀ j, j < k → 0 ≤ zs.getD j 0) (hk : k ≤ zs.length) : 0 ≤ sumTo zs k := by
  induction k with
  | zero => simp [sumTo_zero]
  | succ k ih =>
    rw [sumTo_succ (by omega)]
    have := ih (fun j hj => h j (by omega)) (by omega)
    have := h k (by omega)
    omega
/-- a part of the sum that is too great -/
theorem fitsD_false {c : Int} {zs : List Int} {k : Nat} (hk : k < zs.length) (h : zs.getD k 0 < 0 ∨ c - sumTo zs k < zs.getD k 0) : fitsD c zs = false := by
  cases hf : fitsD c zs with
  | false => rfl
  | true =>
    exfalso
    obtain ⟨h1, h2⟩ := fitsD_iff.1 hf
    have hg := h1 _ (getD_neg hk)
    have e : zs.sum = sumTo zs (k + 1) + (zs.drop (k + 1)).sum := by
      rw [sumTo, ← List.sum_append_int, List.take_append_drop]
    have := sum_nonneg (zs := zs.drop (k + 1)) fun z hz => h1 z (List.mem_of_mem_drop hz)
    rw [sumTo_succ hk] at e
    omega
theorem fitsD_true {c : Int} {zs : List Int} (h : ∀ j, j < zs.length → 0 ≤ zs.getD j 0) (hs : sumTo zs zs.length ≤ c) : fitsD c zs = true := by
  refine fitsD_iff.2 ⟨fun z hz => ?_, by rw [← sumTo_all]; exact hs⟩
  obtain ⟨i, hi, rfl⟩ := List.mem_iff_getElem.1 hz
  have := h i hi
  rwa [List.getD_eq_getElem?_getD, List.getElem?_eq_getElem hi] at this
/-- what has been seen of a side -/
def SeenS (c : Int) (zs : List Int) (k : Nat) : Prop := k ≤ zs.length ∧ (∀ j, j < k → 0 ≤ zs.getD j 0) ∧ sumTo zs k ≤ c
theorem SeenS.succ {c : Int} {zs : List Int} {k : Nat} (h : SeenS c zs k) (hk : k < zs.length) (h0 : 0 ≤ zs.getD k 0) (h1 : zs.getD k 0 ≤ c - sumTo zs k) : SeenS c zs (k + 1) := by
  refine ⟨by omega, fun j hj => ?_, by rw [sumTo_succ hk]; omega⟩
  by_cases e : j = k
  · subst e; exact h0
  · exact h.2.1 j (by omega)
def c_impl_isSide : Con where
  ins := [(true, .v tVar), (false, .v tSI)]
  outs := [(false, .v .b)]
  sh := false
  pre := fun x => varD x.1 = true
  out := fun x => (sideD x.1 x.2.1, ())
  upd := fun x => x
  eat := false
theorem k_impl_isSide [B : Base] : ConOk Try.prog 81 c_impl_isSide := by
  refine fn_ok (C := cx Try.prog 33 c_impl_isSide) (cs := []) (res := Try.f81.results.toList) (fun x => ⟨[{ sh := ⟨[(5, .one (.i .i64)), (16, .one (.ref 0)), (17, .one (.i .i64)), (18, .one (.i .i64))], [(0, .imm tI false)]⟩, nx := 1, I := fun _ dat_ => ((x.2.1.length : Int) = dat_.1.2.2.1 ∧ x.2.1 = dat_.2.1) ∧ (SeenS (x.1.1, x.1.2.1, x.1.2.2.1, x.1.2.2.2).2.1 x.2.1 (Int.toNat dat_.1.2.2.2.1) ∧ dat_.1.1 = (x.1.1, x.1.2.1, x.1.2.2.1, x.1.2.2.2).2.1 - sumTo x.2.1 (Int.toNat dat_.1.2.2.2.1) ∧ 0 ≤ dat_.1.2.2.2.1 ∧ (List.length x.2.1 : Int) = (x.1.1, x.1.2.1, x.1.2.2.1, x.1.2.2.2).1 + 1), mu := fun dat_ => Int.toNat ((List.length x.2.1 : Int) - dat_.1.2.2.2.1) }], [], []⟩) Try.func81 (by kernel_rfl) rfl rfl rfl tysOk.look eqTsOk.look (AllCs.ok (l := []) trivial) mixed rfl rfl rfl rfl ?_
  refine @of_nf (∀ vPoints : Int, ∀ vCheckers : Int, ∀ vHome : Int, ∀ vSides : Int, ∀ zs : List Int, (varD (vPoints, vCheckers, vHome, vSides) = true) → ((lensI c_impl_isSide.ins ((vPoints, vCheckers, vHome, vSides), zs, ())) → ((inK .i64 (vPoints + 1)) ∧ (bsp (decide ((zs.length : Int) ≠ (vPoints + 1))) (@Eq (HO c_impl_isSide.outs) (false, ()) (c_impl_isSide.out ((vPoints, vCheckers, vHome, vSides), zs, ()))) ((((zs.length : Int) = (zs.length : Int) ∧ zs = zs) ∧ (SeenS (vPoints, vCheckers, vHome, vSides).2.1 zs (Int.toNat (0 : Int)) ∧ vCheckers = (vPoints, vCheckers, vHome, vSides).2.1 - sumTo zs (Int.toNat (0 : Int)) ∧ 0 ≤ (0 : Int) ∧ (List.length zs : Int) = (vPoints, vCheckers, vHome, vSides).1 + 1)) ∧ (∀ left : Int, ∀ t17 : Int, ∀ i : Int, ∀ l : List Int, (((zs.length : Int) = t17 ∧ zs = l) ∧ (SeenS (vPoints, vCheckers, vHome, vSides).2.1 zs (Int.toNat i) ∧ left = (vPoints, vCheckers, vHome, vSides).2.1 - sumTo zs (Int.toNat i) ∧ 0 ≤ i ∧ (List.length zs : Int) = (vPoints, vCheckers, vHome, vSides).1 + 1)) → (bsp (decide (i < t17)) ((0 ≤ i ∧ i < (l.length : Int)) ∧ ((i.toNat < l.length) ∧ (bsp (decide ((l.getD i.toNat 0) < (0 : Int))) (@Eq (HO c_impl_isSide.outs) (false, ()) (c_impl_isSide.out ((vPoints, vCheckers, vHome, vSides), zs, ()))) (bsp (decide (left < (l.getD i.toNat 0))) (@Eq (HO c_impl_isSide.outs) (false, ()) (c_impl_isSide.out ((vPoints, vCheckers, vHome, vSides), zs, ()))) ((inK .i64 (left - (l.getD i.toNat 0))) ∧ ((inK .i64 (i + 1)) ∧ ((((zs.length : Int) = t17 ∧ zs = l) ∧ (SeenS (vPoints, vCheckers, vHome, vSides).2.1 zs (Int.toNat (i + 1)) ∧ (left - (l.getD i.toNat 0)) = (vPoints, vCheckers, vHome, vSides).2.1 - sumTo zs (Int.toNat (i + 1)) ∧ 0 ≤ (i + 1) ∧ (List.length zs : Int) = (vPoints, vCheckers, vHome, vSides).1 + 1)) ∧ ((Int.toNat ((List.length zs : Int) - (i + 1)) : Nat) < Int.toNat ((List.length zs : Int) - i))))))))) (@Eq (HO c_impl_isSide.outs) (true, ()) (c_impl_isSide.out ((vPoints, vCheckers, vHome, vSides), zs, ())))))))))) _ (by kernel_rfl) ?_
  rintro vPoints vCheckers vHome vSides zs hv hl
  have hlen : zs.length ≤ 9223372036854775807 := hl.2.1.1
  obtain ⟨⟨_, v2⟩, ⟨v3, v4⟩, _⟩ := varD_iff.1 hv
  simp only at v2 v3 v4
  refine ⟨by simp only [inK]; omega, bspD (fun hne => ?_) (fun heq => ?_)⟩
  · simp [c_impl_isSide, sideD, hne]
  · simp only [ne_eq, Decidable.not_not] at heq
    refine ⟨⟨(by first | trivial | rfl | (and_intros <;> rfl)), ⟨by simp, by simp, by simp [sumTo_zero]; omega⟩, by simp [sumTo_zero], by omega, heq⟩, ?_⟩
    rintro left t17 i l ⟨⟨rfl, rfl⟩, ⟨⟨s1, s2, s3⟩, hs, h0, hlv⟩⟩
    refine bspD (fun hlt => ?_) (fun hge => ?_)
    · obtain ⟨k, rfl⟩ : ∃ k : Nat, i = k := ⟨i.toNat, by omega⟩
      simp only [Int.toNat_natCast] at s1 s2 s3 hs ⊢
      subst hs
      have hk : k < zs.length := by omega
      have s0 := sumTo_nonneg s2 s1
      have bad : zs.getD k 0 < 0 ∨ vCheckers - sumTo zs k < zs.getD k 0 → sideD (vPoints, vCheckers, vHome, vSides) zs = false := fun h => by
        simp only [sideD, fitsD_false (c := vCheckers) hk h, Bool.and_false]
      refine ⟨⟨by omega, by omega⟩, hk, bspD (fun hneg => ?_) (fun hpos => bspD (fun hbig => ?_) (fun hfit => ?_))⟩
      · simp only [c_impl_isSide]; rw [bad (.inl hneg)]
      · simp only [c_impl_isSide]; rw [bad (.inr hbig)]
      · have hs2 := SeenS.succ (c := vCheckers) ⟨s1, s2, s3⟩ hk (by omega) (by omega)
        refine ⟨by simp only [inK]; omega, by simp only [inK]; omega, ⟨by simp, ?_, ?_, by omega, hlv⟩, by omega⟩
        · rw [show ((k : Int) + 1).toNat = k + 1 by omega]; exact hs2
        · rw [show ((k : Int) + 1).toNat = k + 1 by omega, sumTo_succ hk]; omega
    · have e : i.toNat = zs.length := by omega
      rw [e] at s2 s3
      simp only [c_impl_isSide, sideD]
      rw [fitsD_true s2 s3]
      simp [hlv]
def c_spec_l02Side : Con where
  ins := [(true, .v tVar), (false, .v tSI)]
  outs := [(false, .v .b)]
  sh := false
  pre := fun x => varD x.1 = true
  out := fun x => (sideD x.1 x.2.1, ())
  upd := fun x => x
  eat := false
theorem k_spec_l02Side [B : Base] : ConOk Try.prog 77 c_spec_l02Side := by
  refine fn_ok (C := cx Try.prog 31 c_spec_l02Side) (cs := [(35, c_spec_l01In), (78, c_spec_l02Sum)]) (res := Try.f77.results.toList) (fun x => ⟨[{ sh := ⟨[(1, .one (.ref 0)), (2, .one (.ref 1)), (5, .one (.i .i64))], [(0, .imm tI false), (1, .box [.i .i64, .i .i64, .i .i64, .i .i64])]⟩, nx := 2, I := fun _ dat_ => (x.2.1 = dat_.2.1 ∧ x.1.1 = dat_.2.2.1.1 ∧ x.1.2.1 = dat_.2.2.1.2.1 ∧ x.1.2.2.1 = dat_.2.2.1.2.2.1 ∧ x.1.2.2.2 = dat_.2.2.1.2.2.2.1) ∧ ((∀ j, j < Int.toNat dat_.1.2.2.1 → 0 ≤ List.getD x.2.1 j 0 ∧ List.getD x.2.1 j 0 ≤ (x.1.1, x.1.2.1, x.1.2.2.1, x.1.2.2.2).2.1) ∧ 0 ≤ dat_.1.2.2.1 ∧ dat_.1.2.2.1 ≤ (List.length x.2.1 : Int) ∧ (List.length x.2.1 : Int) = (x.1.1, x.1.2.1, x.1.2.2.1, x.1.2.2.2).1 + 1), mu := fun dat_ => Int.toNat ((List.length x.2.1 : Int) - dat_.1.2.2.1) }], [(6, ⟨[[], [], [0, 1], [0, 1, 2], [], [4], [0, 1, 2, 3, 4, 5], [0, 1, 2, 3, 4, 5, 6]], [[1, 4, 5], [0, 4, 5], [4, 5], [4, 5], [0, 1, 2, 3], [0, 1, 2, 3], [], []], []⟩), (8, ⟨[[], [0], [], [2], [0, 1, 2, 3], [0, 1, 2, 3, 4]], [[2, 3], [2, 3], [0, 1], [0, 1], [], []], []⟩)], []⟩) Try.func77 (by kernel_rfl) rfl rfl rfl tysOk.look eqTsOk.look (AllCs.ok (l := [(35, c_spec_l01In), (78, c_spec_l02Sum)]) ⟨k_spec_l01In, k_spec_l02Sum, trivial⟩) mixed rfl rfl rfl rfl ?_
  refine of_nf (P := ∀ vPoints : Int, ∀ vCheckers : Int, ∀ vHome : Int, ∀ vSides : Int, ∀ zs : List Int, (varD (vPoints, vCheckers, vHome, vSides) = true) → ((lensI c_spec_l02Side.ins ((vPoints, vCheckers, vHome, vSides), zs, ())) → ((inK .i64 (vPoints + 1)) ∧ (bsp (decide ((zs.length : Int) ≠ (vPoints + 1))) (@Eq (HO c_spec_l02Side.outs) (false, ()) (c_spec_l02Side.out ((vPoints, vCheckers, vHome, vSides), zs, ()))) (((zs = zs ∧ vPoints = vPoints ∧ vCheckers = vCheckers ∧ vHome = vHome ∧ vSides = vSides) ∧ ((∀ j, j < Int.toNat (0 : Int) → 0 ≤ List.getD zs j 0 ∧ List.getD zs j 0 ≤ (vPoints, vCheckers, vHome, vSides).2.1) ∧ 0 ≤ (0 : Int) ∧ (0 : Int) ≤ (List.length zs : Int) ∧ (List.length zs : Int) = (vPoints, vCheckers, vHome, vSides).1 + 1)) ∧ (∀ i : Int, ∀ l : List Int, ∀ t2_0 : Int, ∀ t2_1 : Int, ∀ t2_2 : Int, ∀ t2_3 : Int, ((zs = l ∧ vPoints = t2_0 ∧ vCheckers = t2_1 ∧ vHome = t2_2 ∧ vSides = t2_3) ∧ ((∀ j, j < Int.toNat i → 0 ≤ List.getD zs j 0 ∧ List.getD zs j 0 ≤ (vPoints, vCheckers, vHome, vSides).2.1) ∧ 0 ≤ i ∧ i ≤ (List.length zs : Int) ∧ (List.length zs : Int) = (vPoints, vCheckers, vHome, vSides).1 + 1)) → (bsp (decide (i < (l.length : Int))) ((0 ≤ i ∧ i < (l.length : Int)) ∧ ((i.toNat < l.length) ∧ (True ∧ (bsp (!(inB (l.getD i.toNat 0) (0 : Int) t2_1)) (@Eq (HO c_spec_l02Side.outs) (false, ()) (c_spec_l02Side.out ((vPoints, vCheckers, vHome, vSides), zs, ()))) ((inK .i64 (i + 1)) ∧ (((zs = l ∧ vPoints = t2_0 ∧ vCheckers = t2_1 ∧ vHome = t2_2 ∧ vSides = t2_3) ∧ ((∀ j, j < Int.toNat (i + 1) → 0 ≤ List.getD zs j 0 ∧ List.getD zs j 0 ≤ (vPoints, vCheckers, vHome, vSides).2.1) ∧ 0 ≤ (i + 1) ∧ (i + 1) ≤ (List.length zs : Int) ∧ (List.length zs : Int) = (vPoints, vCheckers, vHome, vSides).1 + 1)) ∧ ((Int.toNat ((List.length zs : Int) - (i + 1)) : Nat) < Int.toNat ((List.length zs : Int) - i)))))))) ((Bd l) ∧ (@Eq (HO c_spec_l02Side.outs) ((decide ((List.sum l) ≤ t2_1)), ()) (c_spec_l02Side.out ((vPoints, vCheckers, vHome, vSides), zs, ()))))))))))) (by kernel_rfl) ?_
  rintro vPoints vCheckers vHome vSides zs hv hl
  have hlen : zs.length ≤ 9223372036854775807 := hl.2.1.1
  obtain ⟨⟨_, v2⟩, ⟨v3, v4⟩, _⟩ := varD_iff.1 hv
  simp only at v2 v3 v4
  refine ⟨by simp only [inK]; omega, bspD (fun hne => ?_) (fun heq => ?_)⟩
  · simp [c_spec_l02Side, sideD, hne]
  · simp only [ne_eq, Decidable.not_not] at heq
    refine ⟨⟨(by first | trivial | rfl | (and_intros <;> rfl)), by simp, by omega, by omega, heq⟩, ?_⟩
    rintro i l t2_0 t2_1 t2_2 t2_3 ⟨⟨rfl, rfl, rfl, rfl, rfl⟩, ⟨hs, h0, h1, hlv⟩⟩
    refine bspD (fun hlt => ?_) (fun hge => ?_)
    · obtain ⟨k, rfl⟩ : ∃ k : Nat, i = k := ⟨i.toNat, by omega⟩
      simp only [Int.toNat_natCast] at hs ⊢
      have hk : k < zs.length := by omega
      refine ⟨⟨by omega, by omega⟩, hk, trivial, bspB (fun hb => ?_) (fun hb => ?_)⟩
      · have : fitsD vCheckers zs = false := by
          cases hf : fitsD vCheckers zs with
          | false => rfl
          | true =>
            exfalso
            obtain ⟨f1, f2⟩ := fitsD_iff.1 hf
            have g1 := f1 _ (getD_neg hk)
            have g2 := mem_le_sum f1 (getD_neg hk)
            simp only [inB, Bool.not_eq_true', Bool.and_eq_false_iff, decide_eq_false_iff_not] at hb
            omega
        simp [c_spec_l02Side, sideD, this]
      · simp only [inB, Bool.not_eq_false', Bool.and_eq_true, decide_eq_true_eq] at hb
        refine ⟨by simp only [inK]; omega, ⟨by simp, fun j hj => ?_, by omega, by omega, hlv⟩, by omega⟩
        by_cases e : j = k
        · subst e; exact hb
        · exact hs j (by omega)
    · have e : i.toNat = zs.length := by omega
      rw [e] at hs
      have hbd : Bd zs := ⟨by omega, fun z hz => by
        obtain ⟨j, hj, rfl⟩ := List.mem_iff_getElem.1 hz
        have := hs j hj
        rw [List.getD_eq_getElem?_getD, List.getElem?_eq_getElem hj] at this
        simp at this
        omega⟩
      refine ⟨hbd, ?_⟩
      simp only [c_spec_l02Side, sideD, fitsD, hlv, decide_true, Bool.true_and]
      have : (zs.all fun z => decide (0 ≤ z)) = true := by simpa using fun z hz => (hbd.2 z hz).1
      rw [this]; simp
/-- a board but for points that both players hold -/
def MidB (v : DVar) (b : DBoard) : Prop := varD v = true ∧ sideD v b.1 = true ∧ sideD v b.2 = true ∧ ¬ (b.1.sum = 0 ∧ b.2.sum = 0)
theorem MidB.bd {v : DVar} {b : DBoard} (h : MidB v b) : Bd b.1 ∧ Bd b.2 ∧ (b.1.length : Int) = v.1 + 1 ∧ (b.2.length : Int) = v.1 + 1 ∧ 2 ≤ v.1 ∧ v.1 ≤ 24 ∧ 1 ≤ v.2.1 ∧ v.2.1 ≤ 15 := by
  obtain ⟨h0, h1, h2, _⟩ := h
  obtain ⟨d1, l1⟩ := sideD_bd h0 h1
  obtain ⟨d2, l2⟩ := sideD_bd h0 h2
  obtain ⟨⟨v1, v2⟩, ⟨v3, v4⟩, _⟩ := varD_iff.1 h0
  exact ⟨d1, d2, l1, l2, v1, v2, v3, v4⟩
theorem clashD_mono {zs ys : List Int} {p k n : Nat} (h : clashD zs ys p k = true) (hn : k ≤ n) : clashD zs ys p n = true := by
  induction n with
  | zero => have : k = 0 := by omega
            subst this; exact h
  | succ n ih =>
    by_cases e : k = n + 1
    · subst e; exact h
    · simp only [clashD, ih (by omega), Bool.true_or]
theorem MidB.no {v : DVar} {b : DBoard} {k : Nat} (_ : MidB v b) (hk : (k : Int) < v.1) (h1 : 0 < b.1.getD k 0) (h2 : 0 < b.2.getD (v.1.toNat - 1 - k) 0) : boardD v b = false := by
  have : clashD b.1 b.2 v.1.toNat v.1.toNat = true := clashD_mono (k := k + 1) (by simp only [clashD, h1, h2, decide_true, Bool.and_self, Bool.or_true]) (by omega)
  simp [boardD, this]
theorem MidB.yes {v : DVar} {b : DBoard} (h : MidB v b) (hc : clashD b.1 b.2 v.1.toNat v.1.toNat = false) : boardD v b = true := by
  obtain ⟨h0, h1, h2, h3⟩ := h
  simp only [boardD, h0, h1, h2, hc, Bool.true_and, Bool.not_false, Bool.and_true]
  simp only [Bool.not_eq_true', Bool.and_eq_false_iff, decide_eq_false_iff_not]
  omega
theorem boardD_mid {v : DVar} {b : DBoard} (h : boardD v b = true) : MidB v b ∧ clashD b.1 b.2 v.1.toNat v.1.toNat = false := by
  simp only [boardD, Bool.and_eq_true, Bool.not_eq_true', Bool.and_eq_false_iff, decide_eq_false_iff_not] at h
  exact ⟨⟨h.1, h.2.1, h.2.2.1, fun e => by rcases h.2.2.2.1 with h | h; exact h e.1; exact h e.2⟩, h.2.2.2.2⟩
def c_impl_IsBoard : Con where
  ins := [(true, .v tVar), (true, .v tBoard)]
  outs := [(false, .v .b)]
  sh := false
  pre := fun _ => True
  out := fun x => (boardD x.1 x.2.1, ())
  upd := fun x => x
  eat := false
theorem k_impl_IsBoard [B : Base] : ConOk Try.prog 53 c_impl_IsBoard := by
  refine fn_ok (C := cx Try.prog 59 c_impl_IsBoard) (cs := [(69, c_impl_IsVariant), (81, c_impl_isSide), (82, c_impl_total)]) (res := Try.f53.results.toList) (fun x => ⟨[{ sh := ⟨[(2, .one (.ref 0)), (3, .one (.ref 1)), (36, .one (.i .i64)), (37, .one (.i .i64))], [(0, .box [.i .i64, .i .i64, .i .i64, .i .i64]), (1, .box [.ref 2, .ref 3]), (2, .imm tI false), (3, .imm tI false)]⟩, nx := 4, I := fun _ dat_ => (x.1.1 = dat_.1.2.2.1 ∧ x.1.1 = dat_.2.1.1 ∧ x.1.2.1 = dat_.2.1.2.1 ∧ x.1.2.2.1 = dat_.2.1.2.2.1 ∧ x.1.2.2.2 = dat_.2.1.2.2.2.1 ∧ x.2.1.1 = dat_.2.2.2.1 ∧ x.2.1.2 = dat_.2.2.2.2.1) ∧ ((clashD (x.2.1.1, x.2.1.2).1 (x.2.1.1, x.2.1.2).2 (Int.toNat (x.1.1, x.1.2.1, x.1.2.2.1, x.1.2.2.2).1) (Int.toNat dat_.1.2.2.2.1) = false ∧ 0 ≤ dat_.1.2.2.2.1 ∧ dat_.1.2.2.2.1 ≤ (x.1.1, x.1.2.1, x.1.2.2.1, x.1.2.2.2).1) ∧ MidB (x.1.1, x.1.2.1, x.1.2.2.1, x.1.2.2.2) (x.2.1.1, x.2.1.2)), mu := fun dat_ => Int.toNat ((x.1.1, x.1.2.1, x.1.2.2.1, x.1.2.2.2).1 - dat_.1.2.2.2.1) }], [], [(3, { sh := ⟨[(2, .one (.ref 0)), (3, .one (.ref 1))], [(0, .box [.i .i64, .i .i64, .i .i64, .i .i64]), (1, .box [.ref 2, .ref 3]), (2, .imm tI false), (3, .imm tI false)]⟩, nx := 4, I := fun _ dat_ => (x.1.1 = dat_.2.1.1 ∧ x.1.2.1 = dat_.2.1.2.1 ∧ x.1.2.2.1 = dat_.2.1.2.2.1 ∧ x.1.2.2.2 = dat_.2.1.2.2.2.1 ∧ x.2.1.1 = dat_.2.2.2.1 ∧ x.2.1.2 = dat_.2.2.2.2.1) ∧ (MidB (x.1.1, x.1.2.1, x.1.2.2.1, x.1.2.2.2) (x.2.1.1, x.2.1.2)), mu := fun dat_ => 0 })]⟩) Try.func53 (by kernel_rfl) rfl rfl rfl tysOk.look eqTsOk.look (AllCs.ok (l := [(69, c_impl_IsVariant), (81, c_impl_isSide), (82, c_impl_total)]) ⟨k_impl_IsVariant, k_impl_isSide, k_impl_total, trivial⟩) mixed rfl rfl rfl rfl ?_
  refine of_nf (P := ∀ vPoints : Int, ∀ vCheckers : Int, ∀ vHome : Int, ∀ vSides : Int, ∀ bOwn : List Int, ∀ bOther : List Int, (True) → ((lensI c_impl_IsBoard.ins ((vPoints, vCheckers, vHome, vSides), (bOwn, bOther), ())) → ((True ∧ (bsp (!(varD (vPoints, vCheckers, vHome, vSides))) (@Eq (HO c_impl_IsBoard.outs) (false, ()) (c_impl_IsBoard.out ((vPoints, vCheckers, vHome, vSides), (bOwn, bOther), ()))) ((varD (vPoints, vCheckers, vHome, vSides) = true) ∧ (bsp (!(sideD (vPoints, vCheckers, vHome, vSides) bOwn)) (@Eq (HO c_impl_IsBoard.outs) (false, ()) (c_impl_IsBoard.out ((vPoints, vCheckers, vHome, vSides), (bOwn, bOther), ()))) ((varD (vPoints, vCheckers, vHome, vSides) = true) ∧ (bsp (!(sideD (vPoints, vCheckers, vHome, vSides) bOther)) (@Eq (HO c_impl_IsBoard.outs) (false, ()) (c_impl_IsBoard.out ((vPoints, vCheckers, vHome, vSides), (bOwn, bOther), ()))) ((Bd bOwn) ∧ (bsp (decide ((List.sum bOwn) = (0 : Int))) ((Bd bOther) ∧ (bsp (decide ((List.sum bOther) = (0 : Int))) (@Eq (HO c_impl_IsBoard.outs) (false, ()) (c_impl_IsBoard.out ((vPoints, vCheckers, vHome, vSides), (bOwn, bOther), ()))) ((vPoints = vPoints ∧ vCheckers = vCheckers ∧ vHome = vHome ∧ vSides = vSides ∧ bOwn = bOwn ∧ bOther = bOther) ∧ (MidB (vPoints, vCheckers, vHome, vSides) (bOwn, bOther))))) ((vPoints = vPoints ∧ vCheckers = vCheckers ∧ vHome = vHome ∧ vSides = vSides ∧ bOwn = bOwn ∧ bOther = bOther) ∧ (MidB (vPoints, vCheckers, vHome, vSides) (bOwn, bOther))))))))))) ∧ (∀ t2_0 : Int, ∀ t2_1 : Int, ∀ t2_2 : Int, ∀ t2_3 : Int, ∀ t3_0 : List Int, ∀ t3_1 : List Int, ((vPoints = t2_0 ∧ vCheckers = t2_1 ∧ vHome = t2_2 ∧ vSides = t2_3 ∧ bOwn = t3_0 ∧ bOther = t3_1) ∧ (MidB (vPoints, vCheckers, vHome, vSides) (bOwn, bOther))) → (((vPoints = t2_0 ∧ vPoints = t2_0 ∧ vCheckers = t2_1 ∧ vHome = t2_2 ∧ vSides = t2_3 ∧ bOwn = t3_0 ∧ bOther = t3_1) ∧ ((clashD (bOwn, bOther).1 (bOwn, bOther).2 (Int.toNat (vPoints, vCheckers, vHome, vSides).1) (Int.toNat (0 : Int)) = false ∧ 0 ≤ (0 : Int) ∧ (0 : Int) ≤ (vPoints, vCheckers, vHome, vSides).1) ∧ MidB (vPoints, vCheckers, vHome, vSides) (bOwn, bOther))) ∧ (∀ n : Int, ∀ i : Int, ∀ t2_0x1 : Int, ∀ t2_1x1 : Int, ∀ t2_2x1 : Int, ∀ t2_3x1 : Int, ∀ t3_0x1 : List Int, ∀ t3_1x1 : List Int, ((vPoints = n ∧ vPoints = t2_0x1 ∧ vCheckers = t2_1x1 ∧ vHome = t2_2x1 ∧ vSides = t2_3x1 ∧ bOwn = t3_0x1 ∧ bOther = t3_1x1) ∧ ((clashD (bOwn, bOther).1 (bOwn, bOther).2 (Int.toNat (vPoints, vCheckers, vHome, vSides).1) (Int.toNat i) = false ∧ 0 ≤ i ∧ i ≤ (vPoints, vCheckers, vHome, vSides).1) ∧ MidB (vPoints, vCheckers, vHome, vSides) (bOwn, bOther))) → (bsp (decide (i < n)) ((0 ≤ i ∧ i < (t3_0x1.length : Int)) ∧ ((i.toNat < t3_0x1.length) ∧ (bsp (decide ((0 : Int) < (t3_0x1.getD i.toNat 0))) ((inK .i64 (t2_0x1 - 1)) ∧ ((inK .i64 ((t2_0x1 - 1) - i)) ∧ ((0 ≤ ((t2_0x1 - 1) - i) ∧ ((t2_0x1 - 1) - i) < (t3_1x1.length : Int)) ∧ ((((t2_0x1 - 1) - i).toNat < t3_1x1.length) ∧ (bsp (decide ((0 : Int) < (t3_1x1.getD ((t2_0x1 - 1) - i).toNat 0))) (@Eq (HO c_impl_IsBoard.outs) (false, ()) (c_impl_IsBoard.out ((vPoints, vCheckers, vHome, vSides), (bOwn, bOther), ()))) ((inK .i64 (i + 1)) ∧ (((vPoints = n ∧ vPoints = t2_0x1 ∧ vCheckers = t2_1x1 ∧ vHome = t2_2x1 ∧ vSides = t2_3x1 ∧ bOwn = t3_0x1 ∧ bOther = t3_1x1) ∧ ((clashD (bOwn, bOther).1 (bOwn, bOther).2 (Int.toNat (vPoints, vCheckers, vHome, vSides).1) (Int.toNat (i + 1)) = false ∧ 0 ≤ (i + 1) ∧ (i + 1) ≤ (vPoints, vCheckers, vHome, vSides).1) ∧ MidB (vPoints, vCheckers, vHome, vSides) (bOwn, bOther))) ∧ ((Int.toNat ((vPoints, vCheckers, vHome, vSides).1 - (i + 1)) : Nat) < Int.toNat ((vPoints, vCheckers, vHome, vSides).1 - i))))))))) ((inK .i64 (i + 1)) ∧ (((vPoints = n ∧ vPoints = t2_0x1 ∧ vCheckers = t2_1x1 ∧ vHome = t2_2x1 ∧ vSides = t2_3x1 ∧ bOwn = t3_0x1 ∧ bOther = t3_1x1) ∧ ((clashD (bOwn, bOther).1 (bOwn, bOther).2 (Int.toNat (vPoints, vCheckers, vHome, vSides).1) (Int.toNat (i + 1)) = false ∧ 0 ≤ (i + 1) ∧ (i + 1) ≤ (vPoints, vCheckers, vHome, vSides).1) ∧ MidB (vPoints, vCheckers, vHome, vSides) (bOwn, bOther))) ∧ ((Int.toNat ((vPoints, vCheckers, vHome, vSides).1 - (i + 1)) : Nat) < Int.toNat ((vPoints, vCheckers, vHome, vSides).1 - i))))))) (@Eq (HO c_impl_IsBoard.outs) (true, ()) (c_impl_IsBoard.out ((vPoints, vCheckers, vHome, vSides), (bOwn, bOther), ())))))))))) (by kernel_rfl) ?_
  rintro vPoints vCheckers vHome vSides bOwn bOther hpre hl
  have C0 : ∀ r, boardD (vPoints, vCheckers, vHome, vSides) (bOwn, bOther) = r → @Eq (HO c_impl_IsBoard.outs) (r, ()) (c_impl_IsBoard.out ((vPoints, vCheckers, vHome, vSides), (bOwn, bOther), ())) := fun r h => by subst h; rfl
  refine ⟨⟨trivial, bspB (fun hv => ?_) (fun hv => ?_)⟩, ?_⟩
  · exact C0 _ (by simp only [Bool.not_eq_true'] at hv; simp [boardD, hv])
  · simp only [Bool.not_eq_false'] at hv
    refine ⟨hv, bspB (fun h1 => ?_) (fun h1 => ?_)⟩
    · exact C0 _ (by simp only [Bool.not_eq_true'] at h1; simp [boardD, h1])
    simp only [Bool.not_eq_false'] at h1
    refine ⟨hv, bspB (fun h2 => ?_) (fun h2 => ?_)⟩
    · exact C0 _ (by simp only [Bool.not_eq_true'] at h2; simp [boardD, h2])
    simp only [Bool.not_eq_false'] at h2
    have d1 := (sideD_bd hv h1).1
    have d2 := (sideD_bd hv h2).1
    refine ⟨d1, bspD (fun e1 => ?_) (fun e1 => ?_)⟩
    · refine ⟨d2, bspD (fun e2 => ?_) (fun e2 => ?_)⟩
      · exact C0 _ (by simp [boardD, e1, e2])
      · exact ⟨(by first | trivial | rfl | (and_intros <;> rfl)), hv, h1, h2, fun e => e2 e.2⟩
    · exact ⟨(by first | trivial | rfl | (and_intros <;> rfl)), hv, h1, h2, fun e => e1 e.1⟩
  · rintro t2_0 t2_1 t2_2 t2_3 t3_0 t3_1 ⟨⟨rfl, rfl, rfl, rfl, rfl, rfl⟩, hmid⟩
    obtain ⟨d1, d2, l1, l2, v1, v2, v3, v4⟩ := hmid.bd
    dsimp only at l1 l2 v1 v2 v3 v4
    refine ⟨⟨(by first | trivial | rfl | (and_intros <;> rfl)), ⟨by simp [clashD], by omega, by omega⟩, hmid⟩, ?_⟩
    rintro n i t2_0x1 t2_1x1 t2_2x1 t2_3x1 t3_0x1 t3_1x1 ⟨⟨rfl, rfl, rfl, rfl, rfl, rfl, rfl⟩, ⟨⟨hc, h0, hle⟩, hmid⟩⟩
    dsimp only at hc hle
    have next : clashD bOwn bOther vPoints.toNat (i.toNat + 1) = false → i < vPoints → inK .i64 (i + 1) ∧ ((vPoints = vPoints ∧ vPoints = vPoints ∧ vCheckers = vCheckers ∧ vHome = vHome ∧ vSides = vSides ∧ bOwn = bOwn ∧ bOther = bOther) ∧ (clashD bOwn bOther vPoints.toNat (i + 1).toNat = false ∧ 0 ≤ i + 1 ∧ i + 1 ≤ vPoints) ∧ MidB (vPoints, vCheckers, vHome, vSides) (bOwn, bOther)) ∧ (vPoints - (i + 1)).toNat < (vPoints - i).toNat := fun h hlt => by
      refine ⟨by simp only [inK]; omega, ⟨(by first | trivial | rfl | (and_intros <;> rfl)), ⟨?_, by omega, by omega⟩, hmid⟩, by omega⟩
      rw [show (i + 1).toNat = i.toNat + 1 by omega]; exact h
    refine bspD (fun hlt => ?_) (fun hge => ?_)
    · refine ⟨⟨by omega, by omega⟩, by omega, bspD (fun hp => ?_) (fun hp => ?_)⟩
      · refine ⟨by simp only [inK]; omega, by simp only [inK]; omega, ⟨by omega, by omega⟩, by omega, ?_⟩
        rw [show (vPoints - 1 - i).toNat = vPoints.toNat - 1 - i.toNat by omega]
        refine bspD (fun hq => ?_) (fun hq => ?_)
        · exact C0 _ (hmid.no (k := i.toNat) (by dsimp only; omega) hp hq)
        · exact next (by simp only [clashD, hc, hq, Bool.false_or, decide_false, Bool.and_false]) hlt
      · exact next (by simp only [clashD, hc, hp, Bool.false_or, decide_false, Bool.false_and]) hlt
    · exact C0 _ (hmid.yes (by dsimp only; rw [show vPoints.toNat = i.toNat by omega] at hc ⊢; exact hc))
def c_spec_IsBoard : Con where
  ins := [(true, .v tVar), (true, .v tBoard)]
  outs := [(false, .v .b)]
  sh := false
  pre := fun _ => True
  out := fun x => (boardD x.1 x.2.1, ())
  upd := fun x => x
  eat := false
theorem k_spec_IsBoard [B : Base] : ConOk Try.prog 47 c_spec_IsBoard := by
  refine fn_ok (C := cx Try.prog 57 c_spec_IsBoard) (cs := [(60, c_spec_IsVariant), (77, c_spec_l02Side), (78, c_spec_l02Sum)]) (res := Try.f47.results.toList) (fun x => ⟨[{ sh := ⟨[(2, .one (.ref 0)), (3, .one (.ref 1)), (5, .one (.i .i64))], [(0, .box [.i .i64, .i .i64, .i .i64, .i .i64]), (1, .box [.ref 2, .ref 3]), (2, .imm tI false), (3, .imm tI false)]⟩, nx := 4, I := fun _ dat_ => (x.1.1 = dat_.2.1.1 ∧ x.1.2.1 = dat_.2.1.2.1 ∧ x.1.2.2.1 = dat_.2.1.2.2.1 ∧ x.1.2.2.2 = dat_.2.1.2.2.2.1 ∧ x.2.1.1 = dat_.2.2.2.1 ∧ x.2.1.2 = dat_.2.2.2.2.1) ∧ ((clashD (x.2.1.1, x.2.1.2).1 (x.2.1.1, x.2.1.2).2 (Int.toNat (x.1.1, x.1.2.1, x.1.2.2.1, x.1.2.2.2).1) (Int.toNat dat_.1.2.2.1) = false ∧ 0 ≤ dat_.1.2.2.1 ∧ dat_.1.2.2.1 ≤ (x.1.1, x.1.2.1, x.1.2.2.1, x.1.2.2.2).1) ∧ MidB (x.1.1, x.1.2.1, x.1.2.2.1, x.1.2.2.2) (x.2.1.1, x.2.1.2)), mu := fun dat_ => Int.toNat ((x.1.1, x.1.2.1, x.1.2.2.1, x.1.2.2.2).1 - dat_.1.2.2.1) }], [(1, ⟨[[], [0], [0, 1], [0, 1, 2], [0, 1, 2, 3], [0, 1, 2, 3], [0, 1, 2, 3, 5], [0, 1, 2, 3, 4, 5, 6], [0, 1, 2, 3, 4, 5, 6, 7], [0, 1, 2, 3, 4, 5, 6, 7, 8], [0, 1, 2, 3, 4, 5, 6, 7, 8, 9], [0, 1, 2, 3, 4, 5, 6, 7, 8, 9, 10], [0, 1, 2, 3, 4, 5, 6, 7, 8, 9, 10], [0, 1, 2, 3, 4, 5, 6, 7, 8, 9, 10, 12], [0, 1, 2, 3, 4, 5, 6, 7, 8, 9, 10, 11, 12, 13], [0, 1, 2, 3, 4, 5, 6, 7, 8, 9, 10, 11, 12, 13, 14], [0, 1, 2, 3, 4, 5, 6, 7, 8, 9, 10, 11, 12, 13, 14, 15], [0, 1, 2, 3, 4, 5, 6, 7, 8, 9, 10, 11, 12, 13, 14, 15, 16], [0, 1, 2, 3, 4, 5, 6, 7, 8, 9, 10, 11, 12, 13, 14, 15, 16, 17], [0, 1, 2, 3, 4, 5, 6, 7, 8, 9, 10, 11, 12, 13, 14, 15, 16, 17, 18], [0, 1, 2, 3, 4, 5, 6, 7, 8, 9, 10, 11, 12, 13, 14, 15, 16, 17, 18, 19], [0, 1, 2, 3, 4, 5, 6, 7, 8, 9, 10, 11, 12, 13, 14, 15, 16, 17], [0, 1, 2, 3, 4, 5, 6, 7, 8, 9, 10, 11, 12, 13, 14, 15, 16, 17, 21], [0, 1, 2, 3, 4, 5, 6, 7, 8, 9, 10, 11, 12, 13, 14, 15, 16, 17, 18, 19, 20, 21, 22], [0, 1, 2, 3, 4, 5, 6, 7, 8, 9, 10, 11, 12, 13, 14, 15, 16, 17, 18, 19, 20, 21, 22, 23], [0, 1, 2, 3, 4, 5, 6, 7, 8, 9, 10, 11, 12, 13, 14, 15, 16, 17, 18, 19, 20, 21, 22, 23, 24], [0, 1, 2, 3, 4, 5, 6, 7, 8, 9, 10, 11, 12, 13, 14, 15, 16, 17, 18, 19, 20, 21, 22, 23, 24, 25]], [[], [], [], [], [5, 6], [4], [4], [], [], [], [], [12, 13], [11], [11], [], [], [], [], [21, 22], [21, 22], [21, 22], [18, 19, 20], [18, 19, 20], [], [], [], []], []⟩)], [(3, { sh := ⟨[(2, .one (.ref 0)), (3, .one (.ref 1))], [(0, .box [.i .i64, .i .i64, .i .i64, .i .i64]), (1, .box [.ref 2, .ref 3]), (2, .imm tI false), (3, .imm tI false)]⟩, nx := 4, I := fun _ dat_ => (x.1.1 = dat_.2.1.1 ∧ x.1.2.1 = dat_.2.1.2.1 ∧ x.1.2.2.1 = dat_.2.1.2.2.1 ∧ x.1.2.2.2 = dat_.2.1.2.2.2.1 ∧ x.2.1.1 = dat_.2.2.2.1 ∧ x.2.1.2 = dat_.2.2.2.2.1) ∧ (MidB (x.1.1, x.1.2.1, x.1.2.2.1, x.1.2.2.2) (x.2.1.1, x.2.1.2)), mu := fun dat_ => 0 })]⟩) Try.func47 (by kernel_rfl) rfl rfl rfl tysOk.look eqTsOk.look (AllCs.ok (l := [(60, c_spec_IsVariant), (77, c_spec_l02Side), (78, c_spec_l02Sum)]) ⟨k_spec_IsVariant, k_spec_l02Side, k_spec_l02Sum, trivial⟩) mixed rfl rfl rfl rfl ?_
  refine of_nf (P := ∀ vPoints : Int, ∀ vCheckers : Int, ∀ vHome : Int, ∀ vSides : Int, ∀ bOwn : List Int, ∀ bOther : List Int, (True) → ((lensI c_spec_IsBoard.ins ((vPoints, vCheckers, vHome, vSides), (bOwn, bOther), ())) → ((True ∧ (bsp (!(varD (vPoints, vCheckers, vHome, vSides))) (@Eq (HO c_spec_IsBoard.outs) (false, ()) (c_spec_IsBoard.out ((vPoints, vCheckers, vHome, vSides), (bOwn, bOther), ()))) ((varD (vPoints, vCheckers, vHome, vSides) = true) ∧ (bsp (!(sideD (vPoints, vCheckers, vHome, vSides) bOwn)) (@Eq (HO c_spec_IsBoard.outs) (false, ()) (c_spec_IsBoard.out ((vPoints, vCheckers, vHome, vSides), (bOwn, bOther), ()))) ((varD (vPoints, vCheckers, vHome, vSides) = true) ∧ (bsp (!(sideD (vPoints, vCheckers, vHome, vSides) bOther)) (@Eq (HO c_spec_IsBoard.outs) (false, ()) (c_spec_IsBoard.out ((vPoints, vCheckers, vHome, vSides), (bOwn, bOther), ()))) ((Bd bOwn) ∧ ((Bd bOther) ∧ ((inK .i64 ((List.sum bOwn) + (List.sum bOther))) ∧ (bsp (decide (((List.sum bOwn) + (List.sum bOther)) = (0 : Int))) (@Eq (HO c_spec_IsBoard.outs) (false, ()) (c_spec_IsBoard.out ((vPoints, vCheckers, vHome, vSides), (bOwn, bOther), ()))) ((vPoints = vPoints ∧ vCheckers = vCheckers ∧ vHome = vHome ∧ vSides = vSides ∧ bOwn = bOwn ∧ bOther = bOther) ∧ (MidB (vPoints, vCheckers, vHome, vSides) (bOwn, bOther))))))))))))) ∧ (∀ t2_0 : Int, ∀ t2_1 : Int, ∀ t2_2 : Int, ∀ t2_3 : Int, ∀ t3_0 : List Int, ∀ t3_1 : List Int, ((vPoints = t2_0 ∧ vCheckers = t2_1 ∧ vHome = t2_2 ∧ vSides = t2_3 ∧ bOwn = t3_0 ∧ bOther = t3_1) ∧ (MidB (vPoints, vCheckers, vHome, vSides) (bOwn, bOther))) → (((vPoints = t2_0 ∧ vCheckers = t2_1 ∧ vHome = t2_2 ∧ vSides = t2_3 ∧ bOwn = t3_0 ∧ bOther = t3_1) ∧ ((clashD (bOwn, bOther).1 (bOwn, bOther).2 (Int.toNat (vPoints, vCheckers, vHome, vSides).1) (Int.toNat (0 : Int)) = false ∧ 0 ≤ (0 : Int) ∧ (0 : Int) ≤ (vPoints, vCheckers, vHome, vSides).1) ∧ MidB (vPoints, vCheckers, vHome, vSides) (bOwn, bOther))) ∧ (∀ i : Int, ∀ t2_0x1 : Int, ∀ t2_1x1 : Int, ∀ t2_2x1 : Int, ∀ t2_3x1 : Int, ∀ t3_0x1 : List Int, ∀ t3_1x1 : List Int, ((vPoints = t2_0x1 ∧ vCheckers = t2_1x1 ∧ vHome = t2_2x1 ∧ vSides = t2_3x1 ∧ bOwn = t3_0x1 ∧ bOther = t3_1x1) ∧ ((clashD (bOwn, bOther).1 (bOwn, bOther).2 (Int.toNat (vPoints, vCheckers, vHome, vSides).1) (Int.toNat i) = false ∧ 0 ≤ i ∧ i ≤ (vPoints, vCheckers, vHome, vSides).1) ∧ MidB (vPoints, vCheckers, vHome, vSides) (bOwn, bOther))) → (bsp (decide (i < t2_0x1)) ((0 ≤ i ∧ i < (t3_0x1.length : Int)) ∧ ((i.toNat < t3_0x1.length) ∧ (bsp (decide ((0 : Int) < (t3_0x1.getD i.toNat 0))) ((inK .i64 (t2_0x1 - 1)) ∧ ((inK .i64 ((t2_0x1 - 1) - i)) ∧ ((0 ≤ ((t2_0x1 - 1) - i) ∧ ((t2_0x1 - 1) - i) < (t3_1x1.length : Int)) ∧ ((((t2_0x1 - 1) - i).toNat < t3_1x1.length) ∧ (bsp (decide ((0 : Int) < (t3_1x1.getD ((t2_0x1 - 1) - i).toNat 0))) (@Eq (HO c_spec_IsBoard.outs) (false, ()) (c_spec_IsBoard.out ((vPoints, vCheckers, vHome, vSides), (bOwn, bOther), ()))) ((inK .i64 (i + 1)) ∧ (((vPoints = t2_0x1 ∧ vCheckers = t2_1x1 ∧ vHome = t2_2x1 ∧ vSides = t2_3x1 ∧ bOwn = t3_0x1 ∧ bOther = t3_1x1) ∧ ((clashD (bOwn, bOther).1 (bOwn, bOther).2 (Int.toNat (vPoints, vCheckers, vHome, vSides).1) (Int.toNat (i + 1)) = false ∧ 0 ≤ (i + 1) ∧ (i + 1) ≤ (vPoints, vCheckers, vHome, vSides).1) ∧ MidB (vPoints, vCheckers, vHome, vSides) (bOwn, bOther))) ∧ ((Int.toNat ((vPoints, vCheckers, vHome, vSides).1 - (i + 1)) : Nat) < Int.toNat ((vPoints, vCheckers, vHome, vSides).1 - i))))))))) ((inK .i64 (i + 1)) ∧ (((vPoints = t2_0x1 ∧ vCheckers = t2_1x1 ∧ vHome = t2_2x1 ∧ vSides = t2_3x1 ∧ bOwn = t3_0x1 ∧ bOther = t3_1x1) ∧ ((clashD (bOwn, bOther).1 (bOwn, bOther).2 (Int.toNat (vPoints, vCheckers, vHome, vSides).1) (Int.toNat (i + 1)) = false ∧ 0 ≤ (i + 1) ∧ (i + 1) ≤ (vPoints, vCheckers, vHome, vSides).1) ∧ MidB (vPoints, vCheckers, vHome, vSides) (bOwn, bOther))) ∧ ((Int.toNat ((vPoints, vCheckers, vHome, vSides).1 - (i + 1)) : Nat) < Int.toNat ((vPoints, vCheckers, vHome, vSides).1 - i))))))) (@Eq (HO c_spec_IsBoard.outs) (true, ()) (c_spec_IsBoard.out ((vPoints, vCheckers, vHome, vSides), (bOwn, bOther), ())))))))))) (by kernel_rfl) ?_
  rintro vPoints vCheckers vHome vSides bOwn bOther hpre hl
  have C0 : ∀ r, boardD (vPoints, vCheckers, vHome, vSides) (bOwn, bOther) = r → @Eq (HO c_spec_IsBoard.outs) (r, ()) (c_spec_IsBoard.out ((vPoints, vCheckers, vHome, vSides), (bOwn, bOther), ())) := fun r h => by subst h; rfl
  refine ⟨⟨trivial, bspB (fun hv => ?_) (fun hv => ?_)⟩, ?_⟩
  · exact C0 _ (by simp only [Bool.not_eq_true'] at hv; simp [boardD, hv])
  · simp only [Bool.not_eq_false'] at hv
    refine ⟨hv, bspB (fun h1 => ?_) (fun h1 => ?_)⟩
    · exact C0 _ (by simp only [Bool.not_eq_true'] at h1; simp [boardD, h1])
    simp only [Bool.not_eq_false'] at h1
    refine ⟨hv, bspB (fun h2 => ?_) (fun h2 => ?_)⟩
    · exact C0 _ (by simp only [Bool.not_eq_true'] at h2; simp [boardD, h2])
    simp only [Bool.not_eq_false'] at h2
    have d1 := (sideD_bd hv h1).1
    have d2 := (sideD_bd hv h2).1
    have b1 := d1.sum
    have b2 := d2.sum
    have l1 := (sideD_bd hv h1).2
    have l2 := (sideD_bd hv h2).2
    have vv := (varD_iff.1 hv).1
    dsimp only at l1 l2 vv
    refine ⟨d1, d2, by simp only [inK]; omega, bspD (fun e1 => ?_) (fun e1 => ?_)⟩
    · exact C0 _ (by have e2 : bOwn.sum = 0 := by omega
                     have e3 : bOther.sum = 0 := by omega
                     simp [boardD, e2, e3])
    · exact ⟨(by first | trivial | rfl | (and_intros <;> rfl)), hv, h1, h2, fun e => by dsimp only at e; omega⟩
  · rintro t2_0 t2_1 t2_2 t2_3 t3_0 t3_1 ⟨⟨rfl, rfl, rfl, rfl, rfl, rfl⟩, hmid⟩
    obtain ⟨d1, d2, l1, l2, v1, v2, v3, v4⟩ := hmid.bd
    dsimp only at l1 l2 v1 v2 v3 v4
    refine ⟨⟨(by first | trivial | rfl | (and_intros <;> rfl)), ⟨by simp [clashD], by omega, by omega⟩, hmid⟩, ?_⟩
    rintro i t2_0x1 t2_1x1 t2_2x1 t2_3x1 t3_0x1 t3_1x1 ⟨⟨rfl, rfl, rfl, rfl, rfl, rfl⟩, ⟨⟨hc, h0, hle⟩, hmid⟩⟩
    dsimp only at hc hle
    have next : clashD bOwn bOther vPoints.toNat (i.toNat + 1) = false → i < vPoints → inK .i64 (i + 1) ∧ ((vPoints = vPoints ∧ vCheckers = vCheckers ∧ vHome = vHome ∧ vSides = vSides ∧ bOwn = bOwn ∧ bOther = bOther) ∧ (clashD bOwn bOther vPoints.toNat (i + 1).toNat = false ∧ 0 ≤ i + 1 ∧ i + 1 ≤ vPoints) ∧ MidB (vPoints, vCheckers, vHome, vSides) (bOwn, bOther)) ∧ (vPoints - (i + 1)).toNat < (vPoints - i).toNat := fun h hlt => by
      refine ⟨by simp only [inK]; omega, ⟨(by first | trivial | rfl | (and_intros <;> rfl)), ⟨?_, by omega, by omega⟩, hmid⟩, by omega⟩
      rw [show (i + 1).toNat = i.toNat + 1 by omega]; exact h
    refine bspD (fun hlt => ?_) (fun hge => ?_)
    · refine ⟨⟨by omega, by omega⟩, by omega, bspD (fun hp => ?_) (fun hp => ?_)⟩
      · refine ⟨by simp only [inK]; omega, by simp only [inK]; omega, ⟨by omega, by omega⟩, by omega, ?_⟩
        rw [show (vPoints - 1 - i).toNat = vPoints.toNat - 1 - i.toNat by omega]
        refine bspD (fun hq => ?_) (fun hq => ?_)
        · exact C0 _ (hmid.no (k := i.toNat) (by dsimp only; omega) hp hq)
        · exact next (by simp only [clashD, hc, hq, Bool.false_or, decide_false, Bool.and_false]) hlt
      · exact next (by simp only [clashD, hc, hp, Bool.false_or, decide_false, Bool.false_and]) hlt
    · exact C0 _ (hmid.yes (by dsimp only; rw [show vPoints.toNat = i.toNat by omega] at hc ⊢; exact hc))
end Go.Proofs.Ytgbfcjnkohhfoaa
