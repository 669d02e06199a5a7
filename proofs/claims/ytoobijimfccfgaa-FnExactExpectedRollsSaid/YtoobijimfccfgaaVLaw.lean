/-
  Contracts of the laws' own helpers: copies of arguments, sizes, comparisons, marks.
-/
import Derived.Test.YtoobijimfccfgaaVBoard2
namespace Go.Proofs.Ytoobijimfccfgaa
open Go.RowKit
set_option linter.unusedSimpArgs false
set_option linter.unusedVariables false
/-- the first k elements are copied -/
def CopyTo {α : Type} (zs out : List α) (k : Nat) : Prop := out.length = zs.length ∧ ∀ j, j < k → out[j]? = zs[j]?
theorem CopyTo.zero {α : Type} {zs : List α} {n : Nat} (h : n = zs.length) (z : α) : CopyTo zs (List.replicate n z) 0 := ⟨by simp [h], fun j hj => by omega⟩
theorem CopyTo.step {α : Type} {zs out : List α} {k : Nat} (h : CopyTo zs out k) (hk : k < zs.length) (d : α) : CopyTo zs (out.set k (zs.getD k d)) (k + 1) := by
  refine ⟨by simp [h.1], fun j hj => ?_⟩
  rw [List.getElem?_set]
  split
  · next e => subst e; rw [if_pos (by rw [h.1]; exact hk), List.getD_eq_getElem?_getD, List.getElem?_eq_getElem hk]; rfl
  · exact h.2 j (by omega)
theorem CopyTo.all {α : Type} {zs out : List α} {k : Nat} (h : CopyTo zs out k) (hk : zs.length ≤ k) : out = zs := by
  refine List.ext_getElem? fun j => ?_
  by_cases e : j < k
  · exact h.2 j e
  · rw [List.getElem?_eq_none (by rw [h.1]; omega), List.getElem?_eq_none (by omega)]
/-- the marks k, k + 1, .. -/
def markL (k : Int) (n : Nat) : List Int := (List.range n).map fun i => k + (i : Nat)
theorem markL_length (k : Int) (n : Nat) : (markL k n).length = n := by simp [markL]
theorem markL_at (k : Int) {n i : Nat} (h : i < n) : (markL k n)[i]? = some (k + i) := by simp [markL, h]
def MarkTo (k : Int) (n : Nat) (out : List Int) (i : Nat) : Prop := out.length = n ∧ ∀ j, j < i → out[j]? = some (k + j)
theorem MarkTo.step {k : Int} {n : Nat} {out : List Int} {i : Nat} (h : MarkTo k n out i) (hi : i < n) {z : Int} (hz : z = k + i) : MarkTo k n (out.set i z) (i + 1) := by
  refine ⟨by simp [h.1], fun j hj => ?_⟩
  rw [List.getElem?_set]
  split
  · next e => subst e; rw [if_pos (by rw [h.1]; exact hi), hz]
  · exact h.2 j (by omega)
theorem MarkTo.all {k : Int} {n : Nat} {out : List Int} {i : Nat} (h : MarkTo k n out i) (hi : n ≤ i) : out = markL k n := by
  refine List.ext_getElem? fun j => ?_
  by_cases e : j < n
  · rw [h.2 j (by omega), markL_at k e]
  · rw [List.getElem?_eq_none (by rw [h.1]; omega), List.getElem?_eq_none (by rw [markL_length]; omega)]
def szD (n : Nat) (l : Int) : Int := if l - n < 0 then -1 else l - n
theorem szD_add {m n : Nat} {l : Int} (h : ¬ szD m l < 0) : szD n (szD m l) = szD (m + n) l := by
  unfold szD at h ⊢; grind
theorem szD_neg {m n : Nat} {l : Int} (h : szD m l < 0) : szD (m + n) l = -1 := by
  unfold szD at h ⊢; grind
theorem szD_ge {m : Nat} {l : Int} (h : ¬ szD m l < 0) : (m : Int) ≤ l := by
  unfold szD at h; grind
theorem szD_bd {m : Nat} {l : Int} (hl : l ≤ 1048576) : -1 ≤ szD m l ∧ szD m l ≤ 1048576 := by
  unfold szD; grind
def c_laws_toVariant : Con where
  ins := [(true, .v tVar)]
  outs := [(true, .v tVar)]
  sh := false
  pre := fun _ => True
  out := fun x => (x.1, ())
  upd := fun x => x
  eat := false
theorem k_laws_toVariant [B : Base] : ConOk Try.prog 5 c_laws_toVariant := by
  refine fn_ok (C := cx Try.prog 17 c_laws_toVariant) (cs := []) (res := Try.f5.results.toList) (fun _ => ⟨[], [], []⟩) Try.func5 (by kernel_rfl) rfl rfl rfl tysOk.look eqTsOk.look (AllCs.ok (l := []) trivial) mixed rfl rfl rfl rfl ?_
  refine of_nf (P := ∀ aPoints : Int, ∀ aCheckers : Int, ∀ aHome : Int, ∀ aSides : Int, (True) → ((lensI c_laws_toVariant.ins ((aPoints, aCheckers, aHome, aSides), ())) → (@Eq (HO c_laws_toVariant.outs) ((aPoints, aCheckers, aHome, aSides), ()) (c_laws_toVariant.out ((aPoints, aCheckers, aHome, aSides), ()))))) (by kernel_rfl) ?_
  rintro aPoints aCheckers aHome aSides hpre hl
  rfl
def c_laws_toInt64S : Con where
  ins := [(false, .v tSI)]
  outs := [(false, .own 2 tI)]
  sh := false
  pre := fun x => List.length x.1 ≤ 1099511627776
  out := fun x => (x.1, ())
  upd := fun x => x
  eat := false
theorem k_laws_toInt64S [B : Base] : ConOk Try.prog 6 c_laws_toInt64S := by
  refine fn_ok (C := cx Try.prog 22 c_laws_toInt64S) (cs := []) (res := Try.f6.results.toList) (fun x => ⟨[{ sh := ⟨[(0, .one (.ref 0)), (3, .one (.ref 1)), (4, .one (.i .i64))], [(0, .imm tI false), (1, .own 2 tI true)]⟩, nx := 2, I := fun _ dat_ => (x.1 = dat_.2.1) ∧ (CopyTo x.1 dat_.2.2.1 (Int.toNat dat_.1.2.2.1) ∧ 0 ≤ dat_.1.2.2.1 ∧ dat_.1.2.2.1 ≤ (List.length x.1 : Int)), mu := fun dat_ => Int.toNat ((List.length x.1 : Int) - dat_.1.2.2.1) }], [], []⟩) Try.func6 (by kernel_rfl) rfl rfl rfl tysOk.look eqTsOk.look (AllCs.ok (l := []) trivial) mixed rfl rfl rfl rfl ?_
  refine of_nf (P := ∀ zs : List Int, (List.length zs ≤ 1099511627776) → ((lensI c_laws_toInt64S.ins (zs, ())) → ((0 ≤ (zs.length : Int) ∧ (zs.length : Int) ≤ (zs.length : Int) ∧ (zs.length : Int) ≤ 1099511627776) ∧ (((zs = zs) ∧ (CopyTo zs (List.replicate zs.length (0 : Int)) (Int.toNat (0 : Int)) ∧ 0 ≤ (0 : Int) ∧ (0 : Int) ≤ (List.length zs : Int))) ∧ (∀ i : Int, ∀ t0 : List Int, ∀ out : List Int, ((zs = t0) ∧ (CopyTo zs out (Int.toNat i) ∧ 0 ≤ i ∧ i ≤ (List.length zs : Int))) → (bsp (decide (i < (t0.length : Int))) ((0 ≤ i ∧ i < (t0.length : Int)) ∧ ((i.toNat < t0.length) ∧ ((0 ≤ i ∧ i < (out.length : Int)) ∧ ((i.toNat < out.length) ∧ ((inK .i64 (i + 1)) ∧ (((zs = t0) ∧ (CopyTo zs (out.set i.toNat (t0.getD i.toNat 0)) (Int.toNat (i + 1)) ∧ 0 ≤ (i + 1) ∧ (i + 1) ≤ (List.length zs : Int))) ∧ ((Int.toNat ((List.length zs : Int) - (i + 1)) : Nat) < Int.toNat ((List.length zs : Int) - i)))))))) (@Eq (HO c_laws_toInt64S.outs) (out, ()) (c_laws_toInt64S.out (zs, ()))))))))) (by kernel_rfl) ?_
  rintro zs hpre hl
  refine ⟨by omega, ⟨(by first | trivial | rfl | (and_intros <;> rfl)), CopyTo.zero rfl _, by omega, by omega⟩, ?_⟩
  rintro i t0 out ⟨rfl, ⟨hc, h0, h1⟩⟩
  have hlo := hc.1
  refine bspD (fun hlt => ?_) (fun hge => ?_)
  · obtain ⟨k, rfl⟩ : ∃ k : Nat, i = k := ⟨i.toNat, by omega⟩
    simp only [Int.toNat_natCast] at hc ⊢
    have hk : k < zs.length := by omega
    refine ⟨⟨by omega, by omega⟩, hk, ⟨by omega, by omega⟩, by omega, by simp only [inK]; omega, ⟨(by first | trivial | rfl | (and_intros <;> rfl)), ?_, by omega, by omega⟩, by omega⟩
    rw [show ((k : Int) + 1).toNat = k + 1 by omega]
    exact hc.step hk _
  · have := hc.all (by omega)
    subst this; rfl
def c_laws_eqExact : Con where
  ins := [(true, .v tRoll), (true, .v tRoll)]
  outs := [(false, .v .b)]
  sh := false
  pre := fun _ => True
  out := fun x => (decide (x.1 = x.2.1), ())
  upd := fun x => x
  eat := false
theorem k_laws_eqExact [B : Base] : ConOk Try.prog 8 c_laws_eqExact := by
  refine fn_ok (C := cx Try.prog 15 c_laws_eqExact) (cs := []) (res := Try.f8.results.toList) (fun _ => ⟨[], [], []⟩) Try.func8 (by kernel_rfl) rfl rfl rfl tysOk.look eqTsOk.look (AllCs.ok (l := []) trivial) mixed rfl rfl rfl rfl ?_
  refine of_nf (P := ∀ aNum : Int, ∀ aDepth : Int, ∀ bNum : Int, ∀ bDepth : Int, (True) → ((lensI c_laws_eqExact.ins ((aNum, aDepth), (bNum, bDepth), ())) → (bsp (decide (aNum ≠ bNum)) (@Eq (HO c_laws_eqExact.outs) (false, ()) (c_laws_eqExact.out ((aNum, aDepth), (bNum, bDepth), ()))) (bsp (decide (aDepth ≠ bDepth)) (@Eq (HO c_laws_eqExact.outs) (false, ()) (c_laws_eqExact.out ((aNum, aDepth), (bNum, bDepth), ()))) (@Eq (HO c_laws_eqExact.outs) (true, ()) (c_laws_eqExact.out ((aNum, aDepth), (bNum, bDepth), ()))))))) (by kernel_rfl) ?_
  rintro aNum aDepth bNum bDepth hpre hl
  simp only [c_laws_eqExact, Prod.mk.injEq, bsp_iff]
  grind
def c_laws_eqInt64S : Con where
  ins := [(false, .v tSI), (false, .v tSI)]
  outs := [(false, .v .b)]
  sh := false
  pre := fun _ => True
  out := fun x => (decide (x.1 = x.2.1), ())
  upd := fun x => x
  eat := false
theorem k_laws_eqInt64S [B : Base] : ConOk Try.prog 9 c_laws_eqInt64S := by
  refine fn_ok (C := cx Try.prog 26 c_laws_eqInt64S) (cs := []) (res := Try.f9.results.toList) (fun x => ⟨[{ sh := ⟨[(0, .one (.ref 0)), (1, .one (.ref 1)), (5, .one (.i .i64))], [(0, .imm tI false), (1, .imm tI false)]⟩, nx := 2, I := fun _ dat_ => (x.1 = dat_.2.1 ∧ x.2.1 = dat_.2.2.1) ∧ ((∀ j, j < Int.toNat dat_.1.2.2.1 → x.1[j]? = x.2.1[j]?) ∧ 0 ≤ dat_.1.2.2.1 ∧ dat_.1.2.2.1 ≤ (List.length x.1 : Int) ∧ List.length x.1 = List.length x.2.1), mu := fun dat_ => Int.toNat ((List.length x.1 : Int) - dat_.1.2.2.1) }], [(6, ⟨[[], [], [0, 1], [0, 1, 2], [], [], [4, 5], [4, 5, 6], [0, 1, 2, 3, 4, 5, 6, 7]], [[1, 4, 5, 6, 7], [0, 4, 5, 6, 7], [4, 5, 6, 7], [4, 5, 6, 7], [0, 1, 2, 3, 5], [0, 1, 2, 3, 4], [0, 1, 2, 3], [0, 1, 2, 3], []], []⟩)], []⟩) Try.func9 (by kernel_rfl) rfl rfl rfl tysOk.look eqTsOk.look (AllCs.ok (l := []) trivial) mixed rfl rfl rfl rfl ?_
  refine of_nf (P := ∀ xs : List Int, ∀ ys : List Int, (True) → ((lensI c_laws_eqInt64S.ins (xs, ys, ())) → (bsp (decide ((xs.length : Int) ≠ (ys.length : Int))) (@Eq (HO c_laws_eqInt64S.outs) (false, ()) (c_laws_eqInt64S.out (xs, ys, ()))) (((xs = xs ∧ ys = ys) ∧ ((∀ j, j < Int.toNat (0 : Int) → xs[j]? = ys[j]?) ∧ 0 ≤ (0 : Int) ∧ (0 : Int) ≤ (List.length xs : Int) ∧ List.length xs = List.length ys)) ∧ (∀ i : Int, ∀ t0 : List Int, ∀ t1 : List Int, ((xs = t0 ∧ ys = t1) ∧ ((∀ j, j < Int.toNat i → xs[j]? = ys[j]?) ∧ 0 ≤ i ∧ i ≤ (List.length xs : Int) ∧ List.length xs = List.length ys)) → (bsp (decide (i < (t0.length : Int))) ((0 ≤ i ∧ i < (t0.length : Int)) ∧ ((i.toNat < t0.length) ∧ ((0 ≤ i ∧ i < (t1.length : Int)) ∧ ((i.toNat < t1.length) ∧ (bsp (decide ((t0.getD i.toNat 0) ≠ (t1.getD i.toNat 0))) (@Eq (HO c_laws_eqInt64S.outs) (false, ()) (c_laws_eqInt64S.out (xs, ys, ()))) ((inK .i64 (i + 1)) ∧ (((xs = t0 ∧ ys = t1) ∧ ((∀ j, j < Int.toNat (i + 1) → xs[j]? = ys[j]?) ∧ 0 ≤ (i + 1) ∧ (i + 1) ≤ (List.length xs : Int) ∧ List.length xs = List.length ys)) ∧ ((Int.toNat ((List.length xs : Int) - (i + 1)) : Nat) < Int.toNat ((List.length xs : Int) - i))))))))) (@Eq (HO c_laws_eqInt64S.outs) (true, ()) (c_laws_eqInt64S.out (xs, ys, ()))))))))) (by kernel_rfl) ?_
  rintro xs ys hpre hl
  have hlen : xs.length ≤ 9223372036854775807 := hl.1.1
  refine bspD (fun hne => ?_) (fun heq => ?_)
  · have : xs ≠ ys := by rintro rfl; exact hne rfl
    simp only [c_laws_eqInt64S, decide_eq_false this]
  · simp only [ne_eq, Decidable.not_not] at heq
    refine ⟨⟨(by first | trivial | rfl | (and_intros <;> rfl)), by simp, by omega, by omega, by omega⟩, ?_⟩
    rintro i t0 t1 ⟨⟨rfl, rfl⟩, ⟨hs, h0, h1, h2⟩⟩
    refine bspD (fun hlt => ?_) (fun hge => ?_)
    · refine ⟨⟨by omega, by omega⟩, by omega, ⟨by omega, by omega⟩, by omega, bspD (fun hd => ?_) (fun hd => ?_)⟩
      · have : xs ≠ ys := by rintro rfl; simp at hd
        simp only [c_laws_eqInt64S, decide_eq_false this]
      · refine ⟨by simp only [inK]; omega, ⟨(by first | trivial | rfl | (and_intros <;> rfl)), fun j hj => ?_, by omega, by omega, h2⟩, by omega⟩
        by_cases e : j = i.toNat
        · subst e
          have k1 : i.toNat < xs.length := by omega
          have k2 : i.toNat < ys.length := by omega
          simp only [List.getD_eq_getElem?_getD, List.getElem?_eq_getElem k1, List.getElem?_eq_getElem k2, Option.getD_some, ne_eq, Decidable.not_not, Bool.not_eq_false', decide_eq_true_eq] at hd
          rw [List.getElem?_eq_getElem k1, List.getElem?_eq_getElem k2]; exact congrArg some hd
        · exact hs j (by omega)
    · have : xs = ys := List.ext_getElem? fun j => by
        by_cases e : j < xs.length
        · exact hs j (by omega)
        · rw [List.getElem?_eq_none (by omega), List.getElem?_eq_none (by omega)]
      simp only [c_laws_eqInt64S, decide_eq_true this]
end Go.Proofs.Ytoobijimfccfgaa
