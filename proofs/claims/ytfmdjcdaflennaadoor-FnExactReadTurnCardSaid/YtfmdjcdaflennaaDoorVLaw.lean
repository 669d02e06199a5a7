/-
  Contracts of the laws' own helpers: copies of arguments, sizes, comparisons, marks.
-/
import Derived.Test.YtfmdjcdaflennaaDoorVBoard2
namespace Go.Proofs.YtfmdjcdaflennaaDoor
open Go.RowKit
set_option linter.unusedSimpArgs false
set_option linter.unusedVariables false
/-- the first k elements are copied -/
def CopyTo {α : Type} (zs out : List α) (k : Nat) : Prop := out.length = zs.length ∧ ∀ j, j < k → out[j]? = zs[j]?
theorem CopyTo.zero {α : Type} {zs : List α} {n : Nat} (h : n = zs.length) (z : α) : CopyTo zs (List.replicate n z) 0 := ⟨by simp [h], fun j hj => by omega⟩
theorem CopyTo.step {α : Type} {zs out : List α} {k : Nat} (h : CopyTo zs out k) (hk : k < zs.length) (d : α) : CopyTo zs (out.set k (zs.getD k d)) (k + 1) := by
  refine ⟨by simp [h.1], fun j hj => ?_⟩
  rw [List.getElem?_set]
  split
  · next e => subst e; rw [if_pos (by rw [h.1]; exact hk), List.getD_eq_getElem?_getD, List.getElem?_eq_getElem hk]; rfl
  · exact h.2 j (by omega)
theorem CopyTo.all {α : Type} {zs out : List α} {k : Nat} (h : CopyTo zs out k) (hk : zs.length ≤ k) : out = zs := by
  refine List.ext_getElem? fun j => ?_
  by_cases e : j < k
  · exact h.2 j e
  · rw [List.getElem?_eq_none (by rw [h.1]; omega), List.getElem?_eq_none (by omega)]
/-- the marks k, k + 1, .. -/
def markL (k : Int) (n : Nat) : List Int := (List.range n).map fun i => k + (i : Nat)
theorem markL_length (k : Int) (n : Nat) : (markL k n).length = n := by simp [markL]
theorem markL_at (k : Int) {n i : Nat} (h : i < n) : (markL k n)[i]? = some (k + i) := by simp [markL, h]
def MarkTo (k : Int) (n : Nat) (out : List Int) (i : Nat) : Prop := out.length = n ∧ ∀ j, j < i → out[j]? = some (k + j)
theorem MarkTo.step {k : Int} {n : Nat} {out : List Int} {i : Nat} (h : MarkTo k n out i) (hi : i < n) {z : Int} (hz : z = k + i) : MarkTo k n (out.set i z) (i + 1) := by
  refine ⟨by simp [h.1], fun j hj => ?_⟩
  rw [List.getElem?_set]
  split
  · next e => subst e; rw [if_pos (by rw [h.1]; exact hi), hz]
  · exact h.2 j (by omega)
theorem MarkTo.all {k : Int} {n : Nat} {out : List Int} {i : Nat} (h : MarkTo k n out i) (hi : n ≤ i) : out = markL k n := by
  refine List.ext_getElem? fun j => ?_
  by_cases e : j < n
  · rw [h.2 j (by omega), markL_at k e]
  · rw [List.getElem?_eq_none (by rw [h.1]; omega), List.getElem?_eq_none (by rw [markL_length]; omega)]
def szD (n : Nat) (l : Int) : Int := if l - n < 0 then -1 else l - n
theorem szD_add {m n : Nat} {l : Int} (h : ¬ szD m l < 0) : szD n (szD m l) = szD (m + n) l := by
  unfold szD at h ⊢; grind
theorem szD_neg {m n : Nat} {l : Int} (h : szD m l < 0) : szD (m + n) l = -1 := by
  unfold szD at h ⊢; grind
theorem szD_ge {m : Nat} {l : Int} (h : ¬ szD m l < 0) : (m : Int) ≤ l := by
  unfold szD at h; grind
theorem szD_bd {m : Nat} {l : Int} (hl : l ≤ 1048576) : -1 ≤ szD m l ∧ szD m l ≤ 1048576 := by
  unfold szD; grind
def c_laws_toVariant : Con where
  ins := [(true, .v tVar)]
  outs := [(true, .v tVar)]
  sh := false
  pre := fun _ => True
  out := fun x => (x.1, ())
  upd := fun x => x
theorem k_laws_toVariant [B : Base] : ConOk Tryd.prog 5 c_laws_toVariant := by
  refine fn_ok (C := cx Tryd.prog 17 c_laws_toVariant) (cs := []) (res := Tryd.f5.results.toList) (fun _ => ⟨[], [], []⟩) Tryd.func5 (by kernel_rfl) rfl rfl rfl tysOk.look eqTsOk.look (AllCs.ok (l := []) trivial) mixed rfl rfl rfl ?_
  refine of_nf (P := ∀ aPoints : Int, ∀ aCheckers : Int, ∀ aHome : Int, ∀ aSides : Int, (True) → ((lensI c_laws_toVariant.ins ((aPoints, aCheckers, aHome, aSides), ())) → (@Eq (HO c_laws_toVariant.outs) ((aPoints, aCheckers, aHome, aSides), ()) (c_laws_toVariant.out ((aPoints, aCheckers, aHome, aSides), ()))))) (by kernel_rfl) ?_
  rintro aPoints aCheckers aHome aSides hpre hl
  rfl
def c_laws_eqStep : Con where
  ins := [(true, .v tStep), (true, .v tStep)]
  outs := [(false, .v .b)]
  sh := false
  pre := fun _ => True
  out := fun x => (decide (x.1 = x.2.1), ())
  upd := fun x => x
theorem k_laws_eqStep [B : Base] : ConOk Tryd.prog 18 c_laws_eqStep := by
  refine fn_ok (C := cx Tryd.prog 25 c_laws_eqStep) (cs := []) (res := Tryd.f18.results.toList) (fun _ => ⟨[], [], []⟩) Tryd.func18 (by kernel_rfl) rfl rfl rfl tysOk.look eqTsOk.look (AllCs.ok (l := []) trivial) mixed rfl rfl rfl ?_
  refine of_nf (P := ∀ aFrom : Int, ∀ aTo : Int, ∀ aDie : Int, ∀ aHit : Bool, ∀ bFrom : Int, ∀ bTo : Int, ∀ bDie : Int, ∀ bHit : Bool, (True) → ((lensI c_laws_eqStep.ins ((aFrom, aTo, aDie, aHit), (bFrom, bTo, bDie, bHit), ())) → (bsp (decide (aFrom ≠ bFrom)) (@Eq (HO c_laws_eqStep.outs) (false, ()) (c_laws_eqStep.out ((aFrom, aTo, aDie, aHit), (bFrom, bTo, bDie, bHit), ()))) (bsp (decide (aTo ≠ bTo)) (@Eq (HO c_laws_eqStep.outs) (false, ()) (c_laws_eqStep.out ((aFrom, aTo, aDie, aHit), (bFrom, bTo, bDie, bHit), ()))) (bsp (decide (aDie ≠ bDie)) (@Eq (HO c_laws_eqStep.outs) (false, ()) (c_laws_eqStep.out ((aFrom, aTo, aDie, aHit), (bFrom, bTo, bDie, bHit), ()))) (bsp (aHit != bHit) (@Eq (HO c_laws_eqStep.outs) (false, ()) (c_laws_eqStep.out ((aFrom, aTo, aDie, aHit), (bFrom, bTo, bDie, bHit), ()))) (@Eq (HO c_laws_eqStep.outs) (true, ()) (c_laws_eqStep.out ((aFrom, aTo, aDie, aHit), (bFrom, bTo, bDie, bHit), ()))))))))) (by kernel_rfl) ?_
  rintro aFrom aTo aDie aHit bFrom bTo bDie bHit hpre hl
  simp only [c_laws_eqStep, Prod.mk.injEq, bsp_iff]
  grind
def c_laws_eqRoll : Con where
  ins := [(true, .v tRoll), (true, .v tRoll)]
  outs := [(false, .v .b)]
  sh := false
  pre := fun _ => True
  out := fun x => (decide (x.1 = x.2.1), ())
  upd := fun x => x
theorem k_laws_eqRoll [B : Base] : ConOk Tryd.prog 7 c_laws_eqRoll := by
  refine fn_ok (C := cx Tryd.prog 15 c_laws_eqRoll) (cs := []) (res := Tryd.f7.results.toList) (fun _ => ⟨[], [], []⟩) Tryd.func7 (by kernel_rfl) rfl rfl rfl tysOk.look eqTsOk.look (AllCs.ok (l := []) trivial) mixed rfl rfl rfl ?_
  refine of_nf (P := ∀ aA : Int, ∀ aB : Int, ∀ bA : Int, ∀ bB : Int, (True) → ((lensI c_laws_eqRoll.ins ((aA, aB), (bA, bB), ())) → (bsp (decide (aA ≠ bA)) (@Eq (HO c_laws_eqRoll.outs) (false, ()) (c_laws_eqRoll.out ((aA, aB), (bA, bB), ()))) (bsp (decide (aB ≠ bB)) (@Eq (HO c_laws_eqRoll.outs) (false, ()) (c_laws_eqRoll.out ((aA, aB), (bA, bB), ()))) (@Eq (HO c_laws_eqRoll.outs) (true, ()) (c_laws_eqRoll.out ((aA, aB), (bA, bB), ()))))))) (by kernel_rfl) ?_
  rintro aA aB bA bB hpre hl
  simp only [c_laws_eqRoll, Prod.mk.injEq, bsp_iff]
  grind
def c_laws_eqStepS : Con where
  ins := [(false, .v (.sl tStep)), (false, .v (.sl tStep))]
  outs := [(false, .v .b)]
  sh := false
  pre := fun _ => True
  out := fun x => (decide (x.1 = x.2.1), ())
  upd := fun x => x
theorem k_laws_eqStepS [B : Base] : ConOk Tryd.prog 8 c_laws_eqStepS := by
  refine fn_ok (C := cx Tryd.prog 27 c_laws_eqStepS) (cs := [(18, c_laws_eqStep)]) (res := Tryd.f8.results.toList) (fun x => ⟨[{ sh := ⟨[(0, .one (.ref 0)), (1, .one (.ref 1)), (5, .one (.i .i64))], [(0, .imm tStep false), (1, .imm tStep false)]⟩, nx := 2, I := fun _ dat_ => (x.1 = dat_.2.1 ∧ x.2.1 = dat_.2.2.1) ∧ ((∀ j, j < Int.toNat dat_.1.2.2.1 → x.1[j]? = x.2.1[j]?) ∧ 0 ≤ dat_.1.2.2.1 ∧ dat_.1.2.2.1 ≤ (List.length x.1 : Int) ∧ List.length x.1 = List.length x.2.1), mu := fun dat_ => Int.toNat ((List.length x.1 : Int) - dat_.1.2.2.1) }], [(6, ⟨[[], [], [0, 1], [0, 1, 2], [], [], [4, 5], [4, 5, 6], [0, 1, 2, 3, 4, 5, 6, 7], [0, 1, 2, 3, 4, 5, 6, 7, 8]], [[1, 4, 5, 6, 7], [0, 4, 5, 6, 7], [4, 5, 6, 7], [4, 5, 6, 7], [0, 1, 2, 3, 5], [0, 1, 2, 3, 4], [0, 1, 2, 3], [0, 1, 2, 3], [], []], []⟩)], []⟩) Tryd.func8 (by kernel_rfl) rfl rfl rfl tysOk.look eqTsOk.look (AllCs.ok (l := [(18, c_laws_eqStep)]) ⟨k_laws_eqStep, trivial⟩) mixed rfl rfl rfl ?_
  refine of_nf (P := ∀ xs : List (Int × Int × Int × Bool), ∀ ys : List (Int × Int × Int × Bool), (True) → ((lensI c_laws_eqStepS.ins (xs, ys, ())) → (bsp (decide ((xs.length : Int) ≠ (ys.length : Int))) (@Eq (HO c_laws_eqStepS.outs) (false, ()) (c_laws_eqStepS.out (xs, ys, ()))) (((xs = xs ∧ ys = ys) ∧ ((∀ j, j < Int.toNat (0 : Int) → xs[j]? = ys[j]?) ∧ 0 ≤ (0 : Int) ∧ (0 : Int) ≤ (List.length xs : Int) ∧ List.length xs = List.length ys)) ∧ (∀ i : Int, ∀ t0 : List (Int × Int × Int × Bool), ∀ t1 : List (Int × Int × Int × Bool), ((xs = t0 ∧ ys = t1) ∧ ((∀ j, j < Int.toNat i → xs[j]? = ys[j]?) ∧ 0 ≤ i ∧ i ≤ (List.length xs : Int) ∧ List.length xs = List.length ys)) → (bsp (decide (i < (t0.length : Int))) ((0 ≤ i ∧ i < (t0.length : Int)) ∧ ((i.toNat < t0.length) ∧ ((0 ≤ i ∧ i < (t1.length : Int)) ∧ ((i.toNat < t1.length) ∧ (True ∧ (bsp (!(decide ((t0.getD i.toNat (0, 0, 0, false)) = (t1.getD i.toNat (0, 0, 0, false))))) (@Eq (HO c_laws_eqStepS.outs) (false, ()) (c_laws_eqStepS.out (xs, ys, ()))) ((inK .i64 (i + 1)) ∧ (((xs = t0 ∧ ys = t1) ∧ ((∀ j, j < Int.toNat (i + 1) → xs[j]? = ys[j]?) ∧ 0 ≤ (i + 1) ∧ (i + 1) ≤ (List.length xs : Int) ∧ List.length xs = List.length ys)) ∧ ((Int.toNat ((List.length xs : Int) - (i + 1)) : Nat) < Int.toNat ((List.length xs : Int) - i)))))))))) (@Eq (HO c_laws_eqStepS.outs) (true, ()) (c_laws_eqStepS.out (xs, ys, ()))))))))) (by kernel_rfl) ?_
  rintro xs ys hpre hl
  have hlen : xs.length ≤ 9223372036854775807 := hl.1.1
  refine bspD (fun hne => ?_) (fun heq => ?_)
  · have : xs ≠ ys := by rintro rfl; exact hne rfl
    simp only [c_laws_eqStepS, decide_eq_false this]
  · simp only [ne_eq, Decidable.not_not] at heq
    refine ⟨⟨(by first | trivial | rfl | (and_intros <;> rfl)), by simp, by omega, by omega, by omega⟩, ?_⟩
    rintro i t0 t1 ⟨⟨rfl, rfl⟩, ⟨hs, h0, h1, h2⟩⟩
    refine bspD (fun hlt => ?_) (fun hge => ?_)
    · refine ⟨⟨by omega, by omega⟩, by omega, ⟨by omega, by omega⟩, by omega, trivial, bspB (fun hd => ?_) (fun hd => ?_)⟩
      · have : xs ≠ ys := by rintro rfl; simp at hd
        simp only [c_laws_eqStepS, decide_eq_false this]
      · refine ⟨by simp only [inK]; omega, ⟨(by first | trivial | rfl | (and_intros <;> rfl)), fun j hj => ?_, by omega, by omega, h2⟩, by omega⟩
        by_cases e : j = i.toNat
        · subst e
          have k1 : i.toNat < xs.length := by omega
          have k2 : i.toNat < ys.length := by omega
          simp only [List.getD_eq_getElem?_getD, List.getElem?_eq_getElem k1, List.getElem?_eq_getElem k2, Option.getD_some, ne_eq, Decidable.not_not, Bool.not_eq_false', decide_eq_true_eq] at hd
          rw [List.getElem?_eq_getElem k1, List.getElem?_eq_getElem k2]; exact congrArg some hd
        · exact hs j (by omega)
    · have : xs = ys := List.ext_getElem? fun j => by
        by_cases e : j < xs.length
        · exact hs j (by omega)
        · rw [List.getElem?_eq_none (by omega), List.getElem?_eq_none (by omega)]
      simp only [c_laws_eqStepS, decide_eq_true this]
end Go.Proofs.YtfmdjcdaflennaaDoor
