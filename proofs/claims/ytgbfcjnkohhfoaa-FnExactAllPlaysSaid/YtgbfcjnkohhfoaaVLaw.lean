/-
  Contracts of the laws' own helpers: copies of arguments, sizes, comparisons, marks.
-/
import Derived.Test.YtgbfcjnkohhfoaaVBoard2
namespace Go.Proofs.Ytgbfcjnkohhfoaa
open Go.RowKit
set_option linter.unusedSimpArgs false
set_option linter.unusedVariables false
/-- the first k elements are copied -/
def CopyTo {α : Type} (zs out : List α) (k : Nat) : Prop := out.length = zs.length ∧ ∀ j, j < k → out[j]? = zs[j]?
theorem CopyTo.zero {α : Type} {zs : List α} {n : Nat} (h : n = zs.length) (z : α) : CopyTo zs (List.replicate n z) 0 := ⟨by simp [h], fun j hj => by omega⟩
theorem CopyTo.step {α : Type} {zs out : List α} {k : Nat} (h : CopyTo zs out k) (hk : k < zs.length) (d : α) : CopyTo zs (out.set k (zs.getD k d)) (k + 1) := by
  refine ⟨by simp [h.1], fun j hj => ?_⟩
  rw [List.getElem?_set]
  split
  · next e => subst e; rw [if_pos (by rw [h.1]; exact hk), List.getD_eq_getElem?_getD, List.getElem?_eq_getElem hk]; rfl
  · exact h.2 j (by omega)
theorem CopyTo.all {α : Type} {zs out : List α} {k : Nat} (h : CopyTo zs out k) (hk : zs.length ≤ k) : out = zs := by
  refine List.ext_getElem? fun j => ?_
  by_cases e : j < k
  · exact h.2 j e
  · rw [List.getElem?_eq_none (by rw [h.1]; omega), List.getElem?_eq_none (by omega)]
/-- the marks k, k + 1, .. -/
def markL (k : Int) (n : Nat) : List Int := (List.range n).map fun i => k + (i : Nat)
theorem markL_length (k : Int) (n : Nat) : (markL k n).length = n := by simp [markL]
theorem markL_at (k : Int) {n i : Nat} (h : i < n) : (markL k n)[i]? = some (k + i) := by simp [markL, h]
def MarkTo (k : Int) (n : Nat) (out : List Int) (i : Nat) : Prop := out.length = n ∧ ∀ j, j < i → out[j]? = some (k + j)
theorem MarkTo.step {k : Int} {n : Nat} {out : List Int} {i : Nat} (h : MarkTo k n out i) (hi : i < n) {z : Int} (hz : z = k + i) : MarkTo k n (out.set i z) (i + 1) := by
  refine ⟨by simp [h.1], fun j hj => ?_⟩
  rw [List.getElem?_set]
  split
  · next e => subst e; rw [if_pos (by rw [h.1]; exact hi), hz]
  · exact h.2 j (by omega)
theorem MarkTo.all {k : Int} {n : Nat} {out : List Int} {i : Nat} (h : MarkTo k n out i) (hi : n ≤ i) : out = markL k n := by
  refine List.ext_getElem? fun j => ?_
  by_cases e : j < n
  · rw [h.2 j (by omega), markL_at k e]
  · rw [List.getElem?_eq_none (by rw [h.1]; omega), List.getElem?_eq_none (by rw [markL_length]; omega)]
def szD (n : Nat) (l : Int) : Int := if l - n < 0 then -1 else l - n
theorem szD_add {m n : Nat} {l : Int} (h : ¬ szD m l < 0) : szD n (szD m l) = szD (m + n) l := by
  unfold szD at h ⊢; grind
theorem szD_neg {m n : Nat} {l : Int} (h : szD m l < 0) : szD (m + n) l = -1 := by
  unfold szD at h ⊢; grind
theorem szD_ge {m : Nat} {l : Int} (h : ¬ szD m l < 0) : (m : Int) ≤ l := by
  unfold szD at h; grind
theorem szD_bd {m : Nat} {l : Int} (hl : l ≤ 1048576) : -1 ≤ szD m l ∧ szD m l ≤ 1048576 := by
  unfold szD; grind
def c_laws_toVariant : Con where
  ins := [(true, .v tVar)]
  outs := [(true, .v tVar)]
  sh := false
  pre := fun _ => True
  out := fun x => (x.1, ())
  upd := fun x => x
  eat := false
theorem k_laws_toVariant [B : Base] : ConOk Try.prog 7 c_laws_toVariant := by
  refine fn_ok (C := cx Try.prog 17 c_laws_toVariant) (cs := []) (res := Try.f7.results.toList) (fun _ => ⟨[], [], []⟩) Try.func7 (by kernel_rfl) rfl rfl rfl tysOk.look eqTsOk.look (AllCs.ok (l := []) trivial) mixed rfl rfl rfl rfl ?_
  refine @of_nf (∀ aPoints : Int, ∀ aCheckers : Int, ∀ aHome : Int, ∀ aSides : Int, (True) → ((lensI c_laws_toVariant.ins ((aPoints, aCheckers, aHome, aSides), ())) → (@Eq (HO c_laws_toVariant.outs) ((aPoints, aCheckers, aHome, aSides), ()) (c_laws_toVariant.out ((aPoints, aCheckers, aHome, aSides), ()))))) _ (by kernel_rfl) ?_
  rintro aPoints aCheckers aHome aSides hpre hl
  rfl
def c_laws_toRoll : Con where
  ins := [(true, .v tRoll)]
  outs := [(true, .v tRoll)]
  sh := false
  pre := fun _ => True
  out := fun x => (x.1, ())
  upd := fun x => x
  eat := false
theorem k_laws_toRoll [B : Base] : ConOk Try.prog 9 c_laws_toRoll := by
  refine fn_ok (C := cx Try.prog 11 c_laws_toRoll) (cs := []) (res := Try.f9.results.toList) (fun _ => ⟨[], [], []⟩) Try.func9 (by kernel_rfl) rfl rfl rfl tysOk.look eqTsOk.look (AllCs.ok (l := []) trivial) mixed rfl rfl rfl rfl ?_
  refine @of_nf (∀ aA : Int, ∀ aB : Int, (True) → ((lensI c_laws_toRoll.ins ((aA, aB), ())) → (@Eq (HO c_laws_toRoll.outs) ((aA, aB), ()) (c_laws_toRoll.out ((aA, aB), ()))))) _ (by kernel_rfl) ?_
  rintro aA aB hpre hl
  rfl
def c_laws_toInt64S : Con where
  ins := [(false, .v tSI)]
  outs := [(false, .own 2 tI)]
  sh := false
  pre := fun x => List.length x.1 ≤ 1099511627776
  out := fun x => (x.1, ())
  upd := fun x => x
  eat := false
theorem k_laws_toInt64S [B : Base] : ConOk Try.prog 24 c_laws_toInt64S := by
  refine fn_ok (C := cx Try.prog 22 c_laws_toInt64S) (cs := []) (res := Try.f24.results.toList) (fun x => ⟨[{ sh := ⟨[(0, .one (.ref 0)), (3, .one (.ref 1)), (4, .one (.i .i64))], [(0, .imm tI false), (1, .own 2 tI true)]⟩, nx := 2, I := fun _ dat_ => (x.1 = dat_.2.1) ∧ (CopyTo x.1 dat_.2.2.1 (Int.toNat dat_.1.2.2.1) ∧ 0 ≤ dat_.1.2.2.1 ∧ dat_.1.2.2.1 ≤ (List.length x.1 : Int)), mu := fun dat_ => Int.toNat ((List.length x.1 : Int) - dat_.1.2.2.1) }], [], []⟩) Try.func24 (by kernel_rfl) rfl rfl rfl tysOk.look eqTsOk.look (AllCs.ok (l := []) trivial) mixed rfl rfl rfl rfl ?_
  refine @of_nf (∀ zs : List Int, (List.length zs ≤ 1099511627776) → ((lensI c_laws_toInt64S.ins (zs, ())) → ((0 ≤ (zs.length : Int) ∧ (zs.length : Int) ≤ (zs.length : Int) ∧ (zs.length : Int) ≤ 1099511627776) ∧ (((zs = zs) ∧ (CopyTo zs (List.replicate zs.length (0 : Int)) (Int.toNat (0 : Int)) ∧ 0 ≤ (0 : Int) ∧ (0 : Int) ≤ (List.length zs : Int))) ∧ (∀ i : Int, ∀ t0 : List Int, ∀ out : List Int, ((zs = t0) ∧ (CopyTo zs out (Int.toNat i) ∧ 0 ≤ i ∧ i ≤ (List.length zs : Int))) → (bsp (decide (i < (t0.length : Int))) ((0 ≤ i ∧ i < (t0.length : Int)) ∧ ((i.toNat < t0.length) ∧ ((0 ≤ i ∧ i < (out.length : Int)) ∧ ((i.toNat < out.length) ∧ ((inK .i64 (i + 1)) ∧ (((zs = t0) ∧ (CopyTo zs (out.set i.toNat (t0.getD i.toNat 0)) (Int.toNat (i + 1)) ∧ 0 ≤ (i + 1) ∧ (i + 1) ≤ (List.length zs : Int))) ∧ ((Int.toNat ((List.length zs : Int) - (i + 1)) : Nat) < Int.toNat ((List.length zs : Int) - i)))))))) (@Eq (HO c_laws_toInt64S.outs) (out, ()) (c_laws_toInt64S.out (zs, ()))))))))) _ (by kernel_rfl) ?_
  rintro zs hpre hl
  refine ⟨by omega, ⟨(by first | trivial | rfl | (and_intros <;> rfl)), CopyTo.zero rfl _, by omega, by omega⟩, ?_⟩
  rintro i t0 out ⟨rfl, ⟨hc, h0, h1⟩⟩
  have hlo := hc.1
  refine bspD (fun hlt => ?_) (fun hge => ?_)
  · obtain ⟨k, rfl⟩ : ∃ k : Nat, i = k := ⟨i.toNat, by omega⟩
    simp only [Int.toNat_natCast] at hc ⊢
    have hk : k < zs.length := by omega
    refine ⟨⟨by omega, by omega⟩, hk, ⟨by omega, by omega⟩, by omega, by simp only [inK]; omega, ⟨(by first | trivial | rfl | (and_intros <;> rfl)), ?_, by omega, by omega⟩, by omega⟩
    rw [show ((k : Int) + 1).toNat = k + 1 by omega]
    exact hc.step hk _
  · have := hc.all (by omega)
    subst this; rfl
def c_laws_toBoard : Con where
  ins := [(true, .v tBoard)]
  outs := [(true, .pr (.own 2 tI) (.own 2 tI))]
  sh := false
  pre := fun x => List.length x.1.1 ≤ 1099511627776 ∧ List.length x.1.2 ≤ 1099511627776
  out := fun x => (x.1, ())
  upd := fun x => x
  eat := false
theorem k_laws_toBoard [B : Base] : ConOk Try.prog 8 c_laws_toBoard := by
  refine fn_ok (C := cx Try.prog 13 c_laws_toBoard) (cs := [(24, c_laws_toInt64S)]) (res := Try.f8.results.toList) (fun _ => ⟨[], [], []⟩) Try.func8 (by kernel_rfl) rfl rfl rfl tysOk.look eqTsOk.look (AllCs.ok (l := [(24, c_laws_toInt64S)]) ⟨k_laws_toInt64S, trivial⟩) mixed rfl rfl rfl rfl ?_
  refine of_nf (P := ∀ bOwn : List Int, ∀ bOther : List Int, (List.length (bOwn, bOther).1 ≤ 1099511627776 ∧ List.length (bOwn, bOther).2 ≤ 1099511627776) → ((lensI c_laws_toBoard.ins ((bOwn, bOther), ())) → ((List.length bOwn ≤ 1099511627776) ∧ ((List.length bOther ≤ 1099511627776) ∧ (@Eq (HO c_laws_toBoard.outs) ((bOwn, bOther), ()) (c_laws_toBoard.out ((bOwn, bOther), ()))))))) (by kernel_rfl) ?_
  rintro bOwn bOther ⟨h1, h2⟩ hl
  exact ⟨h1, h2, rfl⟩
def c_laws_szInt64S : Con where
  ins := [(false, .v tSI), (false, .v tI)]
  outs := [(false, .v tI)]
  sh := false
  pre := fun x => -1 ≤ x.2.1 ∧ x.2.1 ≤ 1048576
  out := fun x => (szD (List.length x.1) x.2.1, ())
  upd := fun x => x
  eat := false
theorem k_laws_szInt64S [B : Base] : ConOk Try.prog 21 c_laws_szInt64S := by
  refine fn_ok (C := cx Try.prog 12 c_laws_szInt64S) (cs := []) (res := Try.f21.results.toList) (fun _ => ⟨[], [], []⟩) Try.func21 (by kernel_rfl) rfl rfl rfl tysOk.look eqTsOk.look (AllCs.ok (l := []) trivial) mixed rfl rfl rfl rfl ?_
  refine @of_nf (∀ zs : List Int, ∀ l : Int, (-1 ≤ l ∧ l ≤ 1048576) → ((lensI c_laws_szInt64S.ins (zs, l, ())) → ((inK .i64 (l - (zs.length : Int))) ∧ (bsp (decide ((l - (zs.length : Int)) < (0 : Int))) (@Eq (HO c_laws_szInt64S.outs) ((-1), ()) (c_laws_szInt64S.out (zs, l, ()))) (@Eq (HO c_laws_szInt64S.outs) ((l - (zs.length : Int)), ()) (c_laws_szInt64S.out (zs, l, ()))))))) _ (by kernel_rfl) ?_
  rintro zs l ⟨p0, p1⟩ hl
  have hlen : zs.length ≤ 9223372036854775807 := hl.1.1
  refine ⟨by simp only [inK]; omega, bspD (fun h => ?_) (fun h => ?_)⟩ <;> simp only [c_laws_szInt64S, szD, h, if_true, if_false]
def c_laws_szBoard : Con where
  ins := [(true, .v tBoard), (false, .v tI)]
  outs := [(false, .v tI)]
  sh := false
  pre := fun x => -1 ≤ x.2.1 ∧ x.2.1 ≤ 1048576
  out := fun x => (szD (List.length x.1.1 + List.length x.1.2) x.2.1, ())
  upd := fun x => x
  eat := false
theorem k_laws_szBoard [B : Base] : ConOk Try.prog 5 c_laws_szBoard := by
  refine fn_ok (C := cx Try.prog 18 c_laws_szBoard) (cs := [(21, c_laws_szInt64S)]) (res := Try.f5.results.toList) (fun _ => ⟨[], [], []⟩) Try.func5 (by kernel_rfl) rfl rfl rfl tysOk.look eqTsOk.look (AllCs.ok (l := [(21, c_laws_szInt64S)]) ⟨k_laws_szInt64S, trivial⟩) mixed rfl rfl rfl rfl ?_
  refine of_nf (P := ∀ bOwn : List Int, ∀ bOther : List Int, ∀ l : Int, (-1 ≤ l ∧ l ≤ 1048576) → ((lensI c_laws_szBoard.ins ((bOwn, bOther), l, ())) → ((-1 ≤ l ∧ l ≤ 1048576) ∧ (bsp (decide ((szD (List.length bOwn) l) < (0 : Int))) (@Eq (HO c_laws_szBoard.outs) ((-1), ()) (c_laws_szBoard.out ((bOwn, bOther), l, ()))) ((-1 ≤ (szD (List.length bOwn) l) ∧ (szD (List.length bOwn) l) ≤ 1048576) ∧ (bsp (decide ((szD (List.length bOther) (szD (List.length bOwn) l)) < (0 : Int))) (@Eq (HO c_laws_szBoard.outs) ((-1), ()) (c_laws_szBoard.out ((bOwn, bOther), l, ()))) (@Eq (HO c_laws_szBoard.outs) (szD (List.length bOther) (szD (List.length bOwn) l), ()) (c_laws_szBoard.out ((bOwn, bOther), l, ()))))))))) (by kernel_rfl) ?_
  rintro bOwn bOther l ⟨p0, p1⟩ hl
  have b1 := szD_bd (m := bOwn.length) p1
  refine ⟨⟨p0, p1⟩, bspD (fun h => ?_) (fun h => ⟨b1, bspD (fun g => ?_) (fun g => ?_)⟩)⟩
  · simp only [c_laws_szBoard, szD_neg h]
  · rw [szD_add h] at g
    simp only [c_laws_szBoard]
    unfold szD at g ⊢; grind
  · simp only [c_laws_szBoard, szD_add h]
def c_laws_eqStep : Con where
  ins := [(true, .v tStep), (true, .v tStep)]
  outs := [(false, .v .b)]
  sh := false
  pre := fun _ => True
  out := fun x => (decide (x.1 = x.2.1), ())
  upd := fun x => x
  eat := false
theorem k_laws_eqStep [B : Base] : ConOk Try.prog 86 c_laws_eqStep := by
  refine fn_ok (C := cx Try.prog 25 c_laws_eqStep) (cs := []) (res := Try.f86.results.toList) (fun _ => ⟨[], [], []⟩) Try.func86 (by kernel_rfl) rfl rfl rfl tysOk.look eqTsOk.look (AllCs.ok (l := []) trivial) mixed rfl rfl rfl rfl ?_
  refine @of_nf (∀ aFrom : Int, ∀ aTo : Int, ∀ aDie : Int, ∀ aHit : Bool, ∀ bFrom : Int, ∀ bTo : Int, ∀ bDie : Int, ∀ bHit : Bool, (True) → ((lensI c_laws_eqStep.ins ((aFrom, aTo, aDie, aHit), (bFrom, bTo, bDie, bHit), ())) → (bsp (decide (aFrom ≠ bFrom)) (@Eq (HO c_laws_eqStep.outs) (false, ()) (c_laws_eqStep.out ((aFrom, aTo, aDie, aHit), (bFrom, bTo, bDie, bHit), ()))) (bsp (decide (aTo ≠ bTo)) (@Eq (HO c_laws_eqStep.outs) (false, ()) (c_laws_eqStep.out ((aFrom, aTo, aDie, aHit), (bFrom, bTo, bDie, bHit), ()))) (bsp (decide (aDie ≠ bDie)) (@Eq (HO c_laws_eqStep.outs) (false, ()) (c_laws_eqStep.out ((aFrom, aTo, aDie, aHit), (bFrom, bTo, bDie, bHit), ()))) (bsp (aHit != bHit) (@Eq (HO c_laws_eqStep.outs) (false, ()) (c_laws_eqStep.out ((aFrom, aTo, aDie, aHit), (bFrom, bTo, bDie, bHit), ()))) (@Eq (HO c_laws_eqStep.outs) (true, ()) (c_laws_eqStep.out ((aFrom, aTo, aDie, aHit), (bFrom, bTo, bDie, bHit), ()))))))))) _ (by kernel_rfl) ?_
  rintro aFrom aTo aDie aHit bFrom bTo bDie bHit hpre hl
  simp only [c_laws_eqStep, Prod.mk.injEq, bsp_iff]
  grind
def c_laws_eqRoll : Con where
  ins := [(true, .v tRoll), (true, .v tRoll)]
  outs := [(false, .v .b)]
  sh := false
  pre := fun _ => True
  out := fun x => (decide (x.1 = x.2.1), ())
  upd := fun x => x
  eat := false
theorem k_laws_eqRoll [B : Base] : ConOk Try.prog 45 c_laws_eqRoll := by
  refine fn_ok (C := cx Try.prog 15 c_laws_eqRoll) (cs := []) (res := Try.f45.results.toList) (fun _ => ⟨[], [], []⟩) Try.func45 (by kernel_rfl) rfl rfl rfl tysOk.look eqTsOk.look (AllCs.ok (l := []) trivial) mixed rfl rfl rfl rfl ?_
  refine @of_nf (∀ aA : Int, ∀ aB : Int, ∀ bA : Int, ∀ bB : Int, (True) → ((lensI c_laws_eqRoll.ins ((aA, aB), (bA, bB), ())) → (bsp (decide (aA ≠ bA)) (@Eq (HO c_laws_eqRoll.outs) (false, ()) (c_laws_eqRoll.out ((aA, aB), (bA, bB), ()))) (bsp (decide (aB ≠ bB)) (@Eq (HO c_laws_eqRoll.outs) (false, ()) (c_laws_eqRoll.out ((aA, aB), (bA, bB), ()))) (@Eq (HO c_laws_eqRoll.outs) (true, ()) (c_laws_eqRoll.out ((aA, aB), (bA, bB), ()))))))) _ (by kernel_rfl) ?_
  rintro aA aB bA bB hpre hl
  simp only [c_laws_eqRoll, Prod.mk.injEq, bsp_iff]
  grind
def c_laws_eqInt64S : Con where
  ins := [(false, .v tSI), (false, .v tSI)]
  outs := [(false, .v .b)]
  sh := false
  pre := fun _ => True
  out := fun x => (decide (x.1 = x.2.1), ())
  upd := fun x => x
  eat := false
theorem k_laws_eqInt64S [B : Base] : ConOk Try.prog 28 c_laws_eqInt64S := by
  refine fn_ok (C := cx Try.prog 26 c_laws_eqInt64S) (cs := []) (res := Try.f28.results.toList) (fun x => ⟨[{ sh := ⟨[(0, .one (.ref 0)), (1, .one (.ref 1)), (5, .one (.i .i64))], [(0, .imm tI false), (1, .imm tI false)]⟩, nx := 2, I := fun _ dat_ => (x.1 = dat_.2.1 ∧ x.2.1 = dat_.2.2.1) ∧ ((∀ j, j < Int.toNat dat_.1.2.2.1 → x.1[j]? = x.2.1[j]?) ∧ 0 ≤ dat_.1.2.2.1 ∧ dat_.1.2.2.1 ≤ (List.length x.1 : Int) ∧ List.length x.1 = List.length x.2.1), mu := fun dat_ => Int.toNat ((List.length x.1 : Int) - dat_.1.2.2.1) }], [(6, ⟨[[], [], [0, 1], [0, 1, 2], [], [], [4, 5], [4, 5, 6], [0, 1, 2, 3, 4, 5, 6, 7]], [[1, 4, 5, 6, 7], [0, 4, 5, 6, 7], [4, 5, 6, 7], [4, 5, 6, 7], [0, 1, 2, 3, 5], [0, 1, 2, 3, 4], [0, 1, 2, 3], [0, 1, 2, 3], []], []⟩)], []⟩) Try.func28 (by kernel_rfl) rfl rfl rfl tysOk.look eqTsOk.look (AllCs.ok (l := []) trivial) mixed rfl rfl rfl rfl ?_
  refine @of_nf (∀ xs : List Int, ∀ ys : List Int, (True) → ((lensI c_laws_eqInt64S.ins (xs, ys, ())) → (bsp (decide ((xs.length : Int) ≠ (ys.length : Int))) (@Eq (HO c_laws_eqInt64S.outs) (false, ()) (c_laws_eqInt64S.out (xs, ys, ()))) (((xs = xs ∧ ys = ys) ∧ ((∀ j, j < Int.toNat (0 : Int) → xs[j]? = ys[j]?) ∧ 0 ≤ (0 : Int) ∧ (0 : Int) ≤ (List.length xs : Int) ∧ List.length xs = List.length ys)) ∧ (∀ i : Int, ∀ t0 : List Int, ∀ t1 : List Int, ((xs = t0 ∧ ys = t1) ∧ ((∀ j, j < Int.toNat i → xs[j]? = ys[j]?) ∧ 0 ≤ i ∧ i ≤ (List.length xs : Int) ∧ List.length xs = List.length ys)) → (bsp (decide (i < (t0.length : Int))) ((0 ≤ i ∧ i < (t0.length : Int)) ∧ ((i.toNat < t0.length) ∧ ((0 ≤ i ∧ i < (t1.length : Int)) ∧ ((i.toNat < t1.length) ∧ (bsp (decide ((t0.getD i.toNat 0) ≠ (t1.getD i.toNat 0))) (@Eq (HO c_laws_eqInt64S.outs) (false, ()) (c_laws_eqInt64S.out (xs, ys, ()))) ((inK .i64 (i + 1)) ∧ (((xs = t0 ∧ ys = t1) ∧ ((∀ j, j < Int.toNat (i + 1) → xs[j]? = ys[j]?) ∧ 0 ≤ (i + 1) ∧ (i + 1) ≤ (List.length xs : Int) ∧ List.length xs = List.length ys)) ∧ ((Int.toNat ((List.length xs : Int) - (i + 1)) : Nat) < Int.toNat ((List.length xs : Int) - i))))))))) (@Eq (HO c_laws_eqInt64S.outs) (true, ()) (c_laws_eqInt64S.out (xs, ys, ()))))))))) _ (by kernel_rfl) ?_
  rintro xs ys hpre hl
  have hlen : xs.length ≤ 9223372036854775807 := hl.1.1
  refine bspD (fun hne => ?_) (fun heq => ?_)
  · have : xs ≠ ys := by rintro rfl; exact hne rfl
    simp only [c_laws_eqInt64S, decide_eq_false this]
  · simp only [ne_eq, Decidable.not_not] at heq
    refine ⟨⟨(by first | trivial | rfl | (and_intros <;> rfl)), by simp, by omega, by omega, by omega⟩, ?_⟩
    rintro i t0 t1 ⟨⟨rfl, rfl⟩, ⟨hs, h0, h1, h2⟩⟩
    refine bspD (fun hlt => ?_) (fun hge => ?_)
    · refine ⟨⟨by omega, by omega⟩, by omega, ⟨by omega, by omega⟩, by omega, bspD (fun hd => ?_) (fun hd => ?_)⟩
      · have : xs ≠ ys := by rintro rfl; simp at hd
        simp only [c_laws_eqInt64S, decide_eq_false this]
      · refine ⟨by simp only [inK]; omega, ⟨(by first | trivial | rfl | (and_intros <;> rfl)), fun j hj => ?_, by omega, by omega, h2⟩, by omega⟩
        by_cases e : j = i.toNat
        · subst e
          have k1 : i.toNat < xs.length := by omega
          have k2 : i.toNat < ys.length := by omega
          simp only [List.getD_eq_getElem?_getD, List.getElem?_eq_getElem k1, List.getElem?_eq_getElem k2, Option.getD_some, ne_eq, Decidable.not_not, Bool.not_eq_false', decide_eq_true_eq] at hd
          rw [List.getElem?_eq_getElem k1, List.getElem?_eq_getElem k2]; exact congrArg some hd
        · exact hs j (by omega)
    · have : xs = ys := List.ext_getElem? fun j => by
        by_cases e : j < xs.length
        · exact hs j (by omega)
        · rw [List.getElem?_eq_none (by omega), List.getElem?_eq_none (by omega)]
      simp only [c_laws_eqInt64S, decide_eq_true this]
def c_laws_eqStepS : Con where
  ins := [(false, .v (.sl tStep)), (false, .v (.sl tStep))]
  outs := [(false, .v .b)]
  sh := false
  pre := fun _ => True
  out := fun x => (decide (x.1 = x.2.1), ())
  upd := fun x => x
  eat := false
theorem k_laws_eqStepS [B : Base] : ConOk Try.prog 59 c_laws_eqStepS := by
  refine fn_ok (C := cx Try.prog 27 c_laws_eqStepS) (cs := [(86, c_laws_eqStep)]) (res := Try.f59.results.toList) (fun x => ⟨[{ sh := ⟨[(0, .one (.ref 0)), (1, .one (.ref 1)), (5, .one (.i .i64))], [(0, .imm tStep false), (1, .imm tStep false)]⟩, nx := 2, I := fun _ dat_ => (x.1 = dat_.2.1 ∧ x.2.1 = dat_.2.2.1) ∧ ((∀ j, j < Int.toNat dat_.1.2.2.1 → x.1[j]? = x.2.1[j]?) ∧ 0 ≤ dat_.1.2.2.1 ∧ dat_.1.2.2.1 ≤ (List.length x.1 : Int) ∧ List.length x.1 = List.length x.2.1), mu := fun dat_ => Int.toNat ((List.length x.1 : Int) - dat_.1.2.2.1) }], [(6, ⟨[[], [], [0, 1], [0, 1, 2], [], [], [4, 5], [4, 5, 6], [0, 1, 2, 3, 4, 5, 6, 7], [0, 1, 2, 3, 4, 5, 6, 7, 8]], [[1, 4, 5, 6, 7], [0, 4, 5, 6, 7], [4, 5, 6, 7], [4, 5, 6, 7], [0, 1, 2, 3, 5], [0, 1, 2, 3, 4], [0, 1, 2, 3], [0, 1, 2, 3], [], []], []⟩)], []⟩) Try.func59 (by kernel_rfl) rfl rfl rfl tysOk.look eqTsOk.look (AllCs.ok (l := [(86, c_laws_eqStep)]) ⟨k_laws_eqStep, trivial⟩) mixed rfl rfl rfl rfl ?_
  refine of_nf (P := ∀ xs : List (Int × Int × Int × Bool), ∀ ys : List (Int × Int × Int × Bool), (True) → ((lensI c_laws_eqStepS.ins (xs, ys, ())) → (bsp (decide ((xs.length : Int) ≠ (ys.length : Int))) (@Eq (HO c_laws_eqStepS.outs) (false, ()) (c_laws_eqStepS.out (xs, ys, ()))) (((xs = xs ∧ ys = ys) ∧ ((∀ j, j < Int.toNat (0 : Int) → xs[j]? = ys[j]?) ∧ 0 ≤ (0 : Int) ∧ (0 : Int) ≤ (List.length xs : Int) ∧ List.length xs = List.length ys)) ∧ (∀ i : Int, ∀ t0 : List (Int × Int × Int × Bool), ∀ t1 : List (Int × Int × Int × Bool), ((xs = t0 ∧ ys = t1) ∧ ((∀ j, j < Int.toNat i → xs[j]? = ys[j]?) ∧ 0 ≤ i ∧ i ≤ (List.length xs : Int) ∧ List.length xs = List.length ys)) → (bsp (decide (i < (t0.length : Int))) ((0 ≤ i ∧ i < (t0.length : Int)) ∧ ((i.toNat < t0.length) ∧ ((0 ≤ i ∧ i < (t1.length : Int)) ∧ ((i.toNat < t1.length) ∧ (True ∧ (bsp (!(decide ((t0.getD i.toNat (0, 0, 0, false)) = (t1.getD i.toNat (0, 0, 0, false))))) (@Eq (HO c_laws_eqStepS.outs) (false, ()) (c_laws_eqStepS.out (xs, ys, ()))) ((inK .i64 (i + 1)) ∧ (((xs = t0 ∧ ys = t1) ∧ ((∀ j, j < Int.toNat (i + 1) → xs[j]? = ys[j]?) ∧ 0 ≤ (i + 1) ∧ (i + 1) ≤ (List.length xs : Int) ∧ List.length xs = List.length ys)) ∧ ((Int.toNat ((List.length xs : Int) - (i + 1)) : Nat) < Int.toNat ((List.length xs : Int) - i)))))))))) (@Eq (HO c_laws_eqStepS.outs) (true, ()) (c_laws_eqStepS.out (xs, ys, ()))))))))) (by kernel_rfl) ?_
  rintro xs ys hpre hl
  have hlen : xs.length ≤ 9223372036854775807 := hl.1.1
  refine bspD (fun hne => ?_) (fun heq => ?_)
  · have : xs ≠ ys := by rintro rfl; exact hne rfl
    simp only [c_laws_eqStepS, decide_eq_false this]
  · simp only [ne_eq, Decidable.not_not] at heq
    refine ⟨⟨(by first | trivial | rfl | (and_intros <;> rfl)), by simp, by omega, by omega, by omega⟩, ?_⟩
    rintro i t0 t1 ⟨⟨rfl, rfl⟩, ⟨hs, h0, h1, h2⟩⟩
    refine bspD (fun hlt => ?_) (fun hge => ?_)
    · refine ⟨⟨by omega, by omega⟩, by omega, ⟨by omega, by omega⟩, by omega, trivial, bspB (fun hd => ?_) (fun hd => ?_)⟩
      · have : xs ≠ ys := by rintro rfl; simp at hd
        simp only [c_laws_eqStepS, decide_eq_false this]
      · refine ⟨by simp only [inK]; omega, ⟨(by first | trivial | rfl | (and_intros <;> rfl)), fun j hj => ?_, by omega, by omega, h2⟩, by omega⟩
        by_cases e : j = i.toNat
        · subst e
          have k1 : i.toNat < xs.length := by omega
          have k2 : i.toNat < ys.length := by omega
          simp only [List.getD_eq_getElem?_getD, List.getElem?_eq_getElem k1, List.getElem?_eq_getElem k2, Option.getD_some, ne_eq, Decidable.not_not, Bool.not_eq_false', decide_eq_true_eq] at hd
          rw [List.getElem?_eq_getElem k1, List.getElem?_eq_getElem k2]; exact congrArg some hd
        · exact hs j (by omega)
    · have : xs = ys := List.ext_getElem? fun j => by
        by_cases e : j < xs.length
        · exact hs j (by omega)
        · rw [List.getElem?_eq_none (by omega), List.getElem?_eq_none (by omega)]
      simp only [c_laws_eqStepS, decide_eq_true this]
def c_laws_eqBoard : Con where
  ins := [(true, .v tBoard), (true, .v tBoard)]
  outs := [(false, .v .b)]
  sh := false
  pre := fun _ => True
  out := fun x => (decide (x.1 = x.2.1), ())
  upd := fun x => x
  eat := false
theorem k_laws_eqBoard [B : Base] : ConOk Try.prog 12 c_laws_eqBoard := by
  refine fn_ok (C := cx Try.prog 17 c_laws_eqBoard) (cs := [(28, c_laws_eqInt64S)]) (res := Try.f12.results.toList) (fun _ => ⟨[], [], []⟩) Try.func12 (by kernel_rfl) rfl rfl rfl tysOk.look eqTsOk.look (AllCs.ok (l := [(28, c_laws_eqInt64S)]) ⟨k_laws_eqInt64S, trivial⟩) mixed rfl rfl rfl rfl ?_
  refine of_nf (P := ∀ aOwn : List Int, ∀ aOther : List Int, ∀ bOwn : List Int, ∀ bOther : List Int, (True) → ((lensI c_laws_eqBoard.ins ((aOwn, aOther), (bOwn, bOther), ())) → (True ∧ (bsp (!(decide (aOwn = bOwn))) (@Eq (HO c_laws_eqBoard.outs) (false, ()) (c_laws_eqBoard.out ((aOwn, aOther), (bOwn, bOther), ()))) (True ∧ (bsp (!(decide (aOther = bOther))) (@Eq (HO c_laws_eqBoard.outs) (false, ()) (c_laws_eqBoard.out ((aOwn, aOther), (bOwn, bOther), ()))) (@Eq (HO c_laws_eqBoard.outs) (true, ()) (c_laws_eqBoard.out ((aOwn, aOther), (bOwn, bOther), ()))))))))) (by kernel_rfl) ?_
  rintro aOwn aOther bOwn bOther hpre hl
  repeat' first | refine ⟨trivial, ?_⟩ | refine bspB (fun _ => ?_) (fun _ => ?_) | refine bspD (fun _ => ?_) (fun _ => ?_)
  all_goals (simp_all [c_laws_eqBoard] <;> grind)
def c_laws_eqGame : Con where
  ins := [(true, .v tGame), (true, .v tGame)]
  outs := [(false, .v .b)]
  sh := false
  pre := fun _ => True
  out := fun x => (decide (x.1 = x.2.1), ())
  upd := fun x => x
  eat := false
theorem k_laws_eqGame [B : Base] : ConOk Try.prog 18 c_laws_eqGame := by
  refine fn_ok (C := cx Try.prog 42 c_laws_eqGame) (cs := [(12, c_laws_eqBoard), (45, c_laws_eqRoll)]) (res := Try.f18.results.toList) (fun _ => ⟨[], [], []⟩) Try.func18 (by kernel_rfl) rfl rfl rfl tysOk.look eqTsOk.look (AllCs.ok (l := [(12, c_laws_eqBoard), (45, c_laws_eqRoll)]) ⟨k_laws_eqBoard, k_laws_eqRoll, trivial⟩) mixed rfl rfl rfl rfl ?_
  refine of_nf (P := ∀ aBoardOwn : List Int, ∀ aBoardOther : List Int, ∀ aPlayer : Int, ∀ aRollA : Int, ∀ aRollB : Int, ∀ aPhase : Int, ∀ aWinner : Int, ∀ aResult : Int, ∀ aTurns : Int, ∀ bBoardOwn : List Int, ∀ bBoardOther : List Int, ∀ bPlayer : Int, ∀ bRollA : Int, ∀ bRollB : Int, ∀ bPhase : Int, ∀ bWinner : Int, ∀ bResult : Int, ∀ bTurns : Int, (True) → ((lensI c_laws_eqGame.ins (((aBoardOwn, aBoardOther), aPlayer, (aRollA, aRollB), aPhase, aWinner, aResult, aTurns), ((bBoardOwn, bBoardOther), bPlayer, (bRollA, bRollB), bPhase, bWinner, bResult, bTurns), ())) → (True ∧ (bsp (!(decide ((aBoardOwn, aBoardOther) = (bBoardOwn, bBoardOther)))) (@Eq (HO c_laws_eqGame.outs) (false, ()) (c_laws_eqGame.out (((aBoardOwn, aBoardOther), aPlayer, (aRollA, aRollB), aPhase, aWinner, aResult, aTurns), ((bBoardOwn, bBoardOther), bPlayer, (bRollA, bRollB), bPhase, bWinner, bResult, bTurns), ()))) (bsp (decide (aPlayer ≠ bPlayer)) (@Eq (HO c_laws_eqGame.outs) (false, ()) (c_laws_eqGame.out (((aBoardOwn, aBoardOther), aPlayer, (aRollA, aRollB), aPhase, aWinner, aResult, aTurns), ((bBoardOwn, bBoardOther), bPlayer, (bRollA, bRollB), bPhase, bWinner, bResult, bTurns), ()))) (True ∧ (bsp (!(decide ((aRollA, aRollB) = (bRollA, bRollB)))) (@Eq (HO c_laws_eqGame.outs) (false, ()) (c_laws_eqGame.out (((aBoardOwn, aBoardOther), aPlayer, (aRollA, aRollB), aPhase, aWinner, aResult, aTurns), ((bBoardOwn, bBoardOther), bPlayer, (bRollA, bRollB), bPhase, bWinner, bResult, bTurns), ()))) (bsp (decide (aPhase ≠ bPhase)) (@Eq (HO c_laws_eqGame.outs) (false, ()) (c_laws_eqGame.out (((aBoardOwn, aBoardOther), aPlayer, (aRollA, aRollB), aPhase, aWinner, aResult, aTurns), ((bBoardOwn, bBoardOther), bPlayer, (bRollA, bRollB), bPhase, bWinner, bResult, bTurns), ()))) (bsp (decide (aWinner ≠ bWinner)) (@Eq (HO c_laws_eqGame.outs) (false, ()) (c_laws_eqGame.out (((aBoardOwn, aBoardOther), aPlayer, (aRollA, aRollB), aPhase, aWinner, aResult, aTurns), ((bBoardOwn, bBoardOther), bPlayer, (bRollA, bRollB), bPhase, bWinner, bResult, bTurns), ()))) (bsp (decide (aResult ≠ bResult)) (@Eq (HO c_laws_eqGame.outs) (false, ()) (c_laws_eqGame.out (((aBoardOwn, aBoardOther), aPlayer, (aRollA, aRollB), aPhase, aWinner, aResult, aTurns), ((bBoardOwn, bBoardOther), bPlayer, (bRollA, bRollB), bPhase, bWinner, bResult, bTurns), ()))) (bsp (decide (aTurns ≠ bTurns)) (@Eq (HO c_laws_eqGame.outs) (false, ()) (c_laws_eqGame.out (((aBoardOwn, aBoardOther), aPlayer, (aRollA, aRollB), aPhase, aWinner, aResult, aTurns), ((bBoardOwn, bBoardOther), bPlayer, (bRollA, bRollB), bPhase, bWinner, bResult, bTurns), ()))) (@Eq (HO c_laws_eqGame.outs) (true, ()) (c_laws_eqGame.out (((aBoardOwn, aBoardOther), aPlayer, (aRollA, aRollB), aPhase, aWinner, aResult, aTurns), ((bBoardOwn, bBoardOther), bPlayer, (bRollA, bRollB), bPhase, bWinner, bResult, bTurns), ())))))))))))))) (by kernel_rfl) ?_
  rintro aBoardOwn aBoardOther aPlayer aRollA aRollB aPhase aWinner aResult aTurns bBoardOwn bBoardOther bPlayer bRollA bRollB bPhase bWinner bResult bTurns hpre hl
  repeat' first | refine ⟨trivial, ?_⟩ | refine bspB (fun _ => ?_) (fun _ => ?_) | refine bspD (fun _ => ?_) (fun _ => ?_)
  all_goals (simp_all [c_laws_eqGame] <;> grind)
def c_laws_markInt64S : Con where
  ins := [(false, .own 2 tI), (false, .v tI)]
  outs := [(false, .v tI)]
  sh := false
  pre := fun x => 0 ≤ x.2.1 ∧ x.2.1 ≤ 1099511627776 ∧ List.length x.1 ≤ 1099511627776
  out := fun x => (x.2.1 + (List.length x.1 : Int), ())
  upd := fun x => (markL x.2.1 (List.length x.1), x.2.1, ())
  eat := false
theorem k_laws_markInt64S [B : Base] : ConOk Try.prog 29 c_laws_markInt64S := by
  refine fn_ok (C := cx Try.prog 19 c_laws_markInt64S) (cs := []) (res := Try.f29.results.toList) (fun x => ⟨[{ sh := ⟨[(0, .one (.ref 0)), (1, .one (.i .i64)), (5, .one (.i .i64))], [(0, .own 2 tI true)]⟩, nx := 1, I := fun _ dat_ => MarkTo x.2.1 (List.length x.1) dat_.2.1 (Int.toNat dat_.1.2.2.1) ∧ dat_.1.2.1 = x.2.1 + dat_.1.2.2.1 ∧ 0 ≤ dat_.1.2.2.1 ∧ dat_.1.2.2.1 ≤ (List.length x.1 : Int) ∧ 0 ≤ x.2.1 ∧ x.2.1 ≤ 1099511627776 ∧ List.length x.1 ≤ 1099511627776, mu := fun dat_ => Int.toNat ((List.length x.1 : Int) - dat_.1.2.2.1) }], [], []⟩) Try.func29 (by kernel_rfl) rfl rfl rfl tysOk.look eqTsOk.look (AllCs.ok (l := []) trivial) mixed rfl rfl rfl rfl ?_
  refine @of_nf (∀ zs : List Int, ∀ k : Int, (0 ≤ k ∧ k ≤ 1099511627776 ∧ List.length zs ≤ 1099511627776) → ((lensI c_laws_markInt64S.ins (zs, k, ())) → ((MarkTo k (List.length zs) zs (Int.toNat (0 : Int)) ∧ k = k + (0 : Int) ∧ 0 ≤ (0 : Int) ∧ (0 : Int) ≤ (List.length zs : Int) ∧ 0 ≤ k ∧ k ≤ 1099511627776 ∧ List.length zs ≤ 1099511627776) ∧ (∀ m : Int, ∀ i : Int, ∀ out : List Int, (MarkTo k (List.length zs) out (Int.toNat i) ∧ m = k + i ∧ 0 ≤ i ∧ i ≤ (List.length zs : Int) ∧ 0 ≤ k ∧ k ≤ 1099511627776 ∧ List.length zs ≤ 1099511627776) → (bsp (decide (i < (out.length : Int))) ((0 ≤ i ∧ i < (out.length : Int)) ∧ ((i.toNat < out.length) ∧ ((inK .i64 (m + 1)) ∧ ((inK .i64 (i + 1)) ∧ ((MarkTo k (List.length zs) (out.set i.toNat m) (Int.toNat (i + 1)) ∧ (m + 1) = k + (i + 1) ∧ 0 ≤ (i + 1) ∧ (i + 1) ≤ (List.length zs : Int) ∧ 0 ≤ k ∧ k ≤ 1099511627776 ∧ List.length zs ≤ 1099511627776) ∧ ((Int.toNat ((List.length zs : Int) - (i + 1)) : Nat) < Int.toNat ((List.length zs : Int) - i))))))) (@Eq (HO c_laws_markInt64S.outs) (m, ()) (c_laws_markInt64S.out (zs, k, ())) ∧ @Eq (HI c_laws_markInt64S.ins) (out, k, ()) (c_laws_markInt64S.upd (zs, k, ())))))))) _ (by kernel_rfl) ?_
  rintro zs k ⟨p0, p1, p2⟩ hl
  refine ⟨⟨⟨rfl, by simp⟩, by omega, by omega, by omega, p0, p1, p2⟩, ?_⟩
  rintro m i out ⟨hm, hk, h0, h1, -⟩
  have hlo := hm.1
  refine bspD (fun hlt => ?_) (fun hge => ?_)
  · refine ⟨⟨by omega, by omega⟩, by omega, by simp only [inK]; omega, by simp only [inK]; omega, ⟨?_, by omega, by omega, by omega, p0, p1, p2⟩, by omega⟩
    rw [show (i + 1).toNat = i.toNat + 1 by omega]
    exact hm.step (by omega) (by omega)
  · have := hm.all (by omega)
    have e : i = zs.length := by omega
    subst this; subst e; subst hk
    exact ⟨rfl, rfl⟩
def c_laws_markBoard : Con where
  ins := [(true, .pr (.own 2 tI) (.own 2 tI)), (false, .v tI)]
  outs := [(false, .v tI)]
  sh := false
  pre := fun x => 0 ≤ x.2.1 ∧ x.2.1 + (List.length x.1.1 : Int) ≤ 1099511627776 ∧ List.length x.1.2 ≤ 1099511627776
  out := fun x => (x.2.1 + (List.length x.1.1 : Int) + (List.length x.1.2 : Int), ())
  upd := fun x => ((markL x.2.1 (List.length x.1.1), markL (x.2.1 + (List.length x.1.1 : Int)) (List.length x.1.2)), x.2.1, ())
  eat := false
theorem k_laws_markBoard [B : Base] : ConOk Try.prog 13 c_laws_markBoard := by
  refine fn_ok (C := cx Try.prog 14 c_laws_markBoard) (cs := [(29, c_laws_markInt64S)]) (res := Try.f13.results.toList) (fun _ => ⟨[], [], []⟩) Try.func13 (by kernel_rfl) rfl rfl rfl tysOk.look eqTsOk.look (AllCs.ok (l := [(29, c_laws_markInt64S)]) ⟨k_laws_markInt64S, trivial⟩) mixed rfl rfl rfl rfl ?_
  refine of_nf (P := ∀ bOwn : List Int, ∀ bOther : List Int, ∀ k : Int, (0 ≤ k ∧ k + (List.length (bOwn, bOther).1 : Int) ≤ 1099511627776 ∧ List.length (bOwn, bOther).2 ≤ 1099511627776) → ((lensI c_laws_markBoard.ins ((bOwn, bOther), k, ())) → ((0 ≤ k ∧ k ≤ 1099511627776 ∧ List.length bOwn ≤ 1099511627776) ∧ ((0 ≤ (k + (List.length bOwn : Int)) ∧ (k + (List.length bOwn : Int)) ≤ 1099511627776 ∧ List.length bOther ≤ 1099511627776) ∧ (@Eq (HO c_laws_markBoard.outs) ((k + (List.length bOwn : Int)) + (List.length bOther : Int), ()) (c_laws_markBoard.out ((bOwn, bOther), k, ())) ∧ @Eq (HI c_laws_markBoard.ins) ((markL k (List.length bOwn), markL (k + (List.length bOwn : Int)) (List.length bOther)), k, ()) (c_laws_markBoard.upd ((bOwn, bOther), k, ()))))))) (by kernel_rfl) ?_
  rintro bOwn bOther k ⟨p0, p1, p2⟩ hl
  dsimp only at p1 p2
  exact ⟨⟨p0, by omega, by omega⟩, ⟨by omega, by omega, by omega⟩, rfl, rfl⟩
def c_laws_markGame : Con where
  ins := [(true, .pr (.pr (.own 2 tI) (.own 2 tI)) (.v (.pr tI (.pr tRoll tVar)))), (false, .v tI)]
  outs := [(false, .v tI)]
  sh := false
  pre := fun x => 0 ≤ x.2.1 ∧ x.2.1 + (List.length x.1.1.1 : Int) ≤ 1099511627776 ∧ List.length x.1.1.2 ≤ 1099511627776
  out := fun x => (x.2.1 + (List.length x.1.1.1 : Int) + (List.length x.1.1.2 : Int), ())
  upd := fun x => (((markL x.2.1 (List.length x.1.1.1), markL (x.2.1 + (List.length x.1.1.1 : Int)) (List.length x.1.1.2)), x.1.2), x.2.1, ())
  eat := false
theorem k_laws_markGame [B : Base] : ConOk Try.prog 19 c_laws_markGame := by
  refine fn_ok (C := cx Try.prog 10 c_laws_markGame) (cs := [(13, c_laws_markBoard)]) (res := Try.f19.results.toList) (fun _ => ⟨[], [], []⟩) Try.func19 (by kernel_rfl) rfl rfl rfl tysOk.look eqTsOk.look (AllCs.ok (l := [(13, c_laws_markBoard)]) ⟨k_laws_markBoard, trivial⟩) mixed rfl rfl rfl rfl ?_
  refine of_nf (P := ∀ gBoardOwn : List Int, ∀ gBoardOther : List Int, ∀ gPlayer : Int, ∀ gRollA : Int, ∀ gRollB : Int, ∀ gPhase : Int, ∀ gWinner : Int, ∀ gResult : Int, ∀ gTurns : Int, ∀ k : Int, (0 ≤ k ∧ k + (List.length ((gBoardOwn, gBoardOther), gPlayer, (gRollA, gRollB), gPhase, gWinner, gResult, gTurns).1.1 : Int) ≤ 1099511627776 ∧ List.length ((gBoardOwn, gBoardOther), gPlayer, (gRollA, gRollB), gPhase, gWinner, gResult, gTurns).1.2 ≤ 1099511627776) → ((lensI c_laws_markGame.ins (((gBoardOwn, gBoardOther), gPlayer, (gRollA, gRollB), gPhase, gWinner, gResult, gTurns), k, ())) → ((0 ≤ k ∧ k + (List.length (gBoardOwn, gBoardOther).1 : Int) ≤ 1099511627776 ∧ List.length (gBoardOwn, gBoardOther).2 ≤ 1099511627776) ∧ (@Eq (HO c_laws_markGame.outs) (k + (List.length (gBoardOwn, gBoardOther).1 : Int) + (List.length (gBoardOwn, gBoardOther).2 : Int), ()) (c_laws_markGame.out (((gBoardOwn, gBoardOther), gPlayer, (gRollA, gRollB), gPhase, gWinner, gResult, gTurns), k, ())) ∧ @Eq (HI c_laws_markGame.ins) (((markL k (List.length (gBoardOwn, gBoardOther).1), markL (k + (List.length (gBoardOwn, gBoardOther).1 : Int)) (List.length (gBoardOwn, gBoardOther).2)), gPlayer, (gRollA, gRollB), gPhase, gWinner, gResult, gTurns), k, ()) (c_laws_markGame.upd (((gBoardOwn, gBoardOther), gPlayer, (gRollA, gRollB), gPhase, gWinner, gResult, gTurns), k, ())))))) (by kernel_rfl) ?_
  rintro gBoardOwn gBoardOther gPlayer gRollA gRollB gPhase gWinner gResult gTurns k ⟨p0, p1, p2⟩ hl
  exact ⟨⟨p0, p1, p2⟩, rfl, rfl⟩
def c_laws_heldInt64S : Con where
  ins := [(false, .v tSI), (false, .v tI)]
  outs := [(false, .v tI)]
  sh := false
  pre := fun x => x.1 = markL x.2.1 (List.length x.1) ∧ 0 ≤ x.2.1 ∧ x.2.1 ≤ 1099511627776 ∧ List.length x.1 ≤ 1099511627776
  out := fun x => (x.2.1 + (List.length x.1 : Int), ())
  upd := fun x => x
  eat := false
theorem k_laws_heldInt64S [B : Base] : ConOk Try.prog 32 c_laws_heldInt64S := by
  refine fn_ok (C := cx Try.prog 21 c_laws_heldInt64S) (cs := []) (res := Try.f32.results.toList) (fun x => ⟨[{ sh := ⟨[(0, .one (.ref 0)), (1, .one (.i .i64)), (5, .one (.i .i64))], [(0, .imm tI false)]⟩, nx := 1, I := fun _ dat_ => (x.1 = dat_.2.1) ∧ (x.1 = markL x.2.1 (List.length x.1) ∧ dat_.1.2.1 = x.2.1 + dat_.1.2.2.1 ∧ 0 ≤ dat_.1.2.2.1 ∧ dat_.1.2.2.1 ≤ (List.length x.1 : Int) ∧ 0 ≤ x.2.1 ∧ x.2.1 ≤ 1099511627776 ∧ List.length x.1 ≤ 1099511627776), mu := fun dat_ => Int.toNat ((List.length x.1 : Int) - dat_.1.2.2.1) }], [], []⟩) Try.func32 (by kernel_rfl) rfl rfl rfl tysOk.look eqTsOk.look (AllCs.ok (l := []) trivial) mixed rfl rfl rfl rfl ?_
  refine @of_nf (∀ zs : List Int, ∀ k : Int, (zs = markL k (List.length zs) ∧ 0 ≤ k ∧ k ≤ 1099511627776 ∧ List.length zs ≤ 1099511627776) → ((lensI c_laws_heldInt64S.ins (zs, k, ())) → (((zs = zs) ∧ (zs = markL k (List.length zs) ∧ k = k + (0 : Int) ∧ 0 ≤ (0 : Int) ∧ (0 : Int) ≤ (List.length zs : Int) ∧ 0 ≤ k ∧ k ≤ 1099511627776 ∧ List.length zs ≤ 1099511627776)) ∧ (∀ m : Int, ∀ i : Int, ∀ t0 : List Int, ((zs = t0) ∧ (zs = markL k (List.length zs) ∧ m = k + i ∧ 0 ≤ i ∧ i ≤ (List.length zs : Int) ∧ 0 ≤ k ∧ k ≤ 1099511627776 ∧ List.length zs ≤ 1099511627776)) → (bsp (decide (i < (t0.length : Int))) ((0 ≤ i ∧ i < (t0.length : Int)) ∧ ((i.toNat < t0.length) ∧ (bsp (decide ((t0.getD i.toNat 0) ≠ m)) (@Eq (HO c_laws_heldInt64S.outs) ((-1), ()) (c_laws_heldInt64S.out (zs, k, ()))) ((inK .i64 (m + 1)) ∧ ((inK .i64 (i + 1)) ∧ (((zs = t0) ∧ (zs = markL k (List.length zs) ∧ (m + 1) = k + (i + 1) ∧ 0 ≤ (i + 1) ∧ (i + 1) ≤ (List.length zs : Int) ∧ 0 ≤ k ∧ k ≤ 1099511627776 ∧ List.length zs ≤ 1099511627776)) ∧ ((Int.toNat ((List.length zs : Int) - (i + 1)) : Nat) < Int.toNat ((List.length zs : Int) - i)))))))) (@Eq (HO c_laws_heldInt64S.outs) (m, ()) (c_laws_heldInt64S.out (zs, k, ())))))))) _ (by kernel_rfl) ?_
  rintro zs k ⟨hz, p0, p1, p2⟩ hl
  refine ⟨⟨(by first | trivial | rfl | (and_intros <;> rfl)), hz, by omega, by omega, by omega, p0, p1, p2⟩, ?_⟩
  rintro m i t0 ⟨rfl, ⟨-, hk, h0, h1, -⟩⟩
  refine bspD (fun hlt => ?_) (fun hge => ?_)
  · refine ⟨⟨by omega, by omega⟩, by omega, bspD (fun hn => ?_) (fun hn => ⟨by simp only [inK]; omega, by simp only [inK]; omega, ⟨(by first | trivial | rfl | (and_intros <;> rfl)), hz, by omega, by omega, by omega, p0, p1, p2⟩, by omega⟩)⟩
    exfalso
    apply hn
    rw [List.getD_eq_getElem?_getD, hz, markL_at _ (by omega)]
    simp only [Option.getD_some]; omega
  · have e : i = zs.length := by omega
    subst e; subst hk; rfl
def c_laws_heldBoard : Con where
  ins := [(true, .v tBoard), (false, .v tI)]
  outs := [(false, .v tI)]
  sh := false
  pre := fun x => (x.1.1 = markL x.2.1 (List.length x.1.1) ∧ x.1.2 = markL (x.2.1 + (List.length x.1.1 : Int)) (List.length x.1.2)) ∧ 0 ≤ x.2.1 ∧ x.2.1 + (List.length x.1.1 : Int) ≤ 1099511627776 ∧ List.length x.1.2 ≤ 1099511627776
  out := fun x => (x.2.1 + (List.length x.1.1 : Int) + (List.length x.1.2 : Int), ())
  upd := fun x => x
  eat := false
theorem k_laws_heldBoard [B : Base] : ConOk Try.prog 46 c_laws_heldBoard := by
  refine fn_ok (C := cx Try.prog 18 c_laws_heldBoard) (cs := [(32, c_laws_heldInt64S)]) (res := Try.f46.results.toList) (fun _ => ⟨[], [], []⟩) Try.func46 (by kernel_rfl) rfl rfl rfl tysOk.look eqTsOk.look (AllCs.ok (l := [(32, c_laws_heldInt64S)]) ⟨k_laws_heldInt64S, trivial⟩) mixed rfl rfl rfl rfl ?_
  refine of_nf (P := ∀ bOwn : List Int, ∀ bOther : List Int, ∀ k : Int, (((bOwn, bOther).1 = markL k (List.length (bOwn, bOther).1) ∧ (bOwn, bOther).2 = markL (k + (List.length (bOwn, bOther).1 : Int)) (List.length (bOwn, bOther).2)) ∧ 0 ≤ k ∧ k + (List.length (bOwn, bOther).1 : Int) ≤ 1099511627776 ∧ List.length (bOwn, bOther).2 ≤ 1099511627776) → ((lensI c_laws_heldBoard.ins ((bOwn, bOther), k, ())) → ((bOwn = markL k (List.length bOwn) ∧ 0 ≤ k ∧ k ≤ 1099511627776 ∧ List.length bOwn ≤ 1099511627776) ∧ (bsp (decide ((k + (List.length bOwn : Int)) < (0 : Int))) (@Eq (HO c_laws_heldBoard.outs) ((-1), ()) (c_laws_heldBoard.out ((bOwn, bOther), k, ()))) ((bOther = markL (k + (List.length bOwn : Int)) (List.length bOther) ∧ 0 ≤ (k + (List.length bOwn : Int)) ∧ (k + (List.length bOwn : Int)) ≤ 1099511627776 ∧ List.length bOther ≤ 1099511627776) ∧ (bsp (decide (((k + (List.length bOwn : Int)) + (List.length bOther : Int)) < (0 : Int))) (@Eq (HO c_laws_heldBoard.outs) ((-1), ()) (c_laws_heldBoard.out ((bOwn, bOther), k, ()))) (@Eq (HO c_laws_heldBoard.outs) ((k + (List.length bOwn : Int)) + (List.length bOther : Int), ()) (c_laws_heldBoard.out ((bOwn, bOther), k, ()))))))))) (by kernel_rfl) ?_
  rintro bOwn bOther k ⟨⟨m1, m2⟩, p0, p1, p2⟩ hl
  dsimp only at m1 m2 p1 p2
  refine ⟨⟨m1, p0, by omega, by omega⟩, bspD (fun h => absurd h (by omega)) (fun _ => ⟨⟨m2, by omega, by omega, by omega⟩, bspD (fun h => absurd h (by omega)) (fun _ => rfl)⟩)⟩
def c_laws_heldGame : Con where
  ins := [(true, .v tGame), (false, .v tI)]
  outs := [(false, .v tI)]
  sh := false
  pre := fun x => (x.1.1.1 = markL x.2.1 (List.length x.1.1.1) ∧ x.1.1.2 = markL (x.2.1 + (List.length x.1.1.1 : Int)) (List.length x.1.1.2)) ∧ 0 ≤ x.2.1 ∧ x.2.1 + (List.length x.1.1.1 : Int) ≤ 1099511627776 ∧ List.length x.1.1.2 ≤ 1099511627776
  out := fun x => (x.2.1 + (List.length x.1.1.1 : Int) + (List.length x.1.1.2 : Int), ())
  upd := fun x => x
  eat := false
theorem k_laws_heldGame [B : Base] : ConOk Try.prog 20 c_laws_heldGame := by
  refine fn_ok (C := cx Try.prog 12 c_laws_heldGame) (cs := [(46, c_laws_heldBoard)]) (res := Try.f20.results.toList) (fun _ => ⟨[], [], []⟩) Try.func20 (by kernel_rfl) rfl rfl rfl tysOk.look eqTsOk.look (AllCs.ok (l := [(46, c_laws_heldBoard)]) ⟨k_laws_heldBoard, trivial⟩) mixed rfl rfl rfl rfl ?_
  refine of_nf (P := ∀ gBoardOwn : List Int, ∀ gBoardOther : List Int, ∀ gPlayer : Int, ∀ gRollA : Int, ∀ gRollB : Int, ∀ gPhase : Int, ∀ gWinner : Int, ∀ gResult : Int, ∀ gTurns : Int, ∀ k : Int, ((((gBoardOwn, gBoardOther), gPlayer, (gRollA, gRollB), gPhase, gWinner, gResult, gTurns).1.1 = markL k (List.length ((gBoardOwn, gBoardOther), gPlayer, (gRollA, gRollB), gPhase, gWinner, gResult, gTurns).1.1) ∧ ((gBoardOwn, gBoardOther), gPlayer, (gRollA, gRollB), gPhase, gWinner, gResult, gTurns).1.2 = markL (k + (List.length ((gBoardOwn, gBoardOther), gPlayer, (gRollA, gRollB), gPhase, gWinner, gResult, gTurns).1.1 : Int)) (List.length ((gBoardOwn, gBoardOther), gPlayer, (gRollA, gRollB), gPhase, gWinner, gResult, gTurns).1.2)) ∧ 0 ≤ k ∧ k + (List.length ((gBoardOwn, gBoardOther), gPlayer, (gRollA, gRollB), gPhase, gWinner, gResult, gTurns).1.1 : Int) ≤ 1099511627776 ∧ List.length ((gBoardOwn, gBoardOther), gPlayer, (gRollA, gRollB), gPhase, gWinner, gResult, gTurns).1.2 ≤ 1099511627776) → ((lensI c_laws_heldGame.ins (((gBoardOwn, gBoardOther), gPlayer, (gRollA, gRollB), gPhase, gWinner, gResult, gTurns), k, ())) → ((((gBoardOwn, gBoardOther).1 = markL k (List.length (gBoardOwn, gBoardOther).1) ∧ (gBoardOwn, gBoardOther).2 = markL (k + (List.length (gBoardOwn, gBoardOther).1 : Int)) (List.length (gBoardOwn, gBoardOther).2)) ∧ 0 ≤ k ∧ k + (List.length (gBoardOwn, gBoardOther).1 : Int) ≤ 1099511627776 ∧ List.length (gBoardOwn, gBoardOther).2 ≤ 1099511627776) ∧ (bsp (decide ((k + (List.length (gBoardOwn, gBoardOther).1 : Int) + (List.length (gBoardOwn, gBoardOther).2 : Int)) < (0 : Int))) (@Eq (HO c_laws_heldGame.outs) ((-1), ()) (c_laws_heldGame.out (((gBoardOwn, gBoardOther), gPlayer, (gRollA, gRollB), gPhase, gWinner, gResult, gTurns), k, ()))) (@Eq (HO c_laws_heldGame.outs) (k + (List.length (gBoardOwn, gBoardOther).1 : Int) + (List.length (gBoardOwn, gBoardOther).2 : Int), ()) (c_laws_heldGame.out (((gBoardOwn, gBoardOther), gPlayer, (gRollA, gRollB), gPhase, gWinner, gResult, gTurns), k, ()))))))) (by kernel_rfl) ?_
  rintro gBoardOwn gBoardOther gPlayer gRollA gRollB gPhase gWinner gResult gTurns k ⟨⟨m1, m2⟩, p0, p1, p2⟩ hl
  dsimp only at m1 m2 p1 p2
  refine ⟨⟨⟨m1, m2⟩, p0, p1, p2⟩, bspD (fun h => absurd h (by omega)) (fun _ => rfl)⟩
end Go.Proofs.Ytgbfcjnkohhfoaa
