/-
  Marks of steps; the law of PlaySteps.
-/
import Derived.Test.YteojdnkgjdffcaaVSteps
import Derived.Test.YteojdnkgjdffcaaAbL
namespace Go.Proofs.Yteojdnkgjdffcaa
open Go.RowKit
set_option linter.unusedSimpArgs false
set_option linter.unusedVariables false
def stepMark (m : Int) : DStep := (m, m + 1, m + 1 + 1, decide (Int.tmod (m + 1 + 1 + 1) 3 = 0))
def markS (k : Int) (n : Nat) : List DStep := (List.range n).map fun i => stepMark (k + 4 * (i : Nat))
def MarkSTo (k : Int) (n : Nat) (out : List DStep) (i : Nat) : Prop := out.length = n ∧ ∀ j : Nat, j < i → out[j]? = some (stepMark (k + 4 * j))
theorem MarkSTo.step {k : Int} {n : Nat} {out : List DStep} {i : Nat} (h : MarkSTo k n out i) (hi : i < n) {z : DStep} (hz : z = stepMark (k + 4 * i)) : MarkSTo k n (out.set i z) (i + 1) := by
  refine ⟨by simp [h.1], fun j hj => ?_⟩
  rw [List.getElem?_set]
  split
  · next e => subst e; rw [if_pos (by rw [h.1]; exact hi), hz]
  · exact h.2 j (by omega)
theorem MarkSTo.all {k : Int} {n : Nat} {out : List DStep} {i : Nat} (h : MarkSTo k n out i) (hi : n ≤ i) : out = markS k n := by
  refine List.ext_getElem? fun j => ?_
  by_cases e : j < n
  · rw [h.2 j (by omega)]; simp [markS, e]
  · rw [List.getElem?_eq_none (by rw [h.1]; omega), List.getElem?_eq_none (by simp [markS]; omega)]
theorem follow_ok {v : DVar} : ∀ {o : List Int} {ss : List DStep} {b c : DBoard}, okB v b → followD v o ss b = some c → okB v c
  | _, [], _, _, hb, h => by rw [follow_nil] at h; cases h; exact hb
  | [], _ :: _, _, _, _, h => by cases h
  | d :: ds, s :: ss, b, c, hb, h => by
    simp only [followD] at h
    split at h
    · next hs => exact follow_ok (okB_after hb (legalB_fits hb hs.2)) h
    · cases h
theorem playStepsD_len (v : DVar) (b : DBoard) (r : DRoll) (ss : List DStep) : (playStepsD v b r ss).1.1.length ≤ 25 ∧ (playStepsD v b r ss).1.2.length ≤ 25 := by
  unfold playStepsD
  split
  · simp
  · next h =>
    have hb := (codeD_ok (by simpa using h : codeD v b r = 0)).1
    cases hp : playO v b r ss with
    | none => simp
    | some c =>
      have : okB v c := by
        unfold playO at hp
        split at hp
        · cases hp
        · obtain ⟨o, _, ho⟩ := List.exists_of_findSome?_eq_some hp
          exact follow_ok hb ho
      have hF := this.facts
      simp only [Option.getD_some]; omega
theorem getD_set_self (l : List DStep) {i : Nat} (h : i < l.length) (x d : DStep) : (l.set i x).getD i d = x := by
  rw [List.getD_eq_getElem?_getD, List.getElem?_set_self h]; rfl
def c_laws_markStepS : Con where
  ins := [(false, .own 58 tStep), (false, .v tI)]
  outs := [(false, .v tI)]
  sh := false
  pre := fun x => 0 ≤ x.2.1 ∧ x.2.1 ≤ 1099511627776 ∧ List.length x.1 ≤ 1099511627776
  out := fun x => (x.2.1 + 4 * (List.length x.1 : Int), ())
  upd := fun x => (markS x.2.1 (List.length x.1), x.2.1, ())
  eat := false
theorem k_laws_markStepS [B : Base] : ConOk Try.prog 14 c_laws_markStepS := by
  refine fn_ok (C := cx Try.prog 43 c_laws_markStepS) (cs := []) (res := Try.f14.results.toList) (fun x => ⟨[{ sh := ⟨[(0, .one (.ref 0)), (1, .one (.i .i64)), (5, .one (.i .i64))], [(0, .own 58 tStep true)]⟩, nx := 1, I := fun _ dat_ => MarkSTo x.2.1 (List.length x.1) dat_.2.1 (Int.toNat dat_.1.2.2.1) ∧ dat_.1.2.1 = x.2.1 + 4 * dat_.1.2.2.1 ∧ 0 ≤ dat_.1.2.2.1 ∧ dat_.1.2.2.1 ≤ (List.length x.1 : Int) ∧ 0 ≤ x.2.1 ∧ x.2.1 ≤ 1099511627776 ∧ List.length x.1 ≤ 1099511627776, mu := fun dat_ => Int.toNat ((List.length x.1 : Int) - dat_.1.2.2.1) }], [], []⟩) Try.func14 (by kernel_rfl) rfl rfl rfl tysOk.look eqTsOk.look (AllCs.ok (l := []) trivial) mixed rfl rfl rfl rfl ?_
  refine of_nf (P := ∀ zs : List (Int × Int × Int × Bool), ∀ k : Int, (0 ≤ k ∧ k ≤ 1099511627776 ∧ List.length zs ≤ 1099511627776) → ((lensI c_laws_markStepS.ins (zs, k, ())) → ((MarkSTo k (List.length zs) zs (Int.toNat (0 : Int)) ∧ k = k + 4 * (0 : Int) ∧ 0 ≤ (0 : Int) ∧ (0 : Int) ≤ (List.length zs : Int) ∧ 0 ≤ k ∧ k ≤ 1099511627776 ∧ List.length zs ≤ 1099511627776) ∧ (∀ m : Int, ∀ i : Int, ∀ out : List (Int × Int × Int × Bool), (MarkSTo k (List.length zs) out (Int.toNat i) ∧ m = k + 4 * i ∧ 0 ≤ i ∧ i ≤ (List.length zs : Int) ∧ 0 ≤ k ∧ k ≤ 1099511627776 ∧ List.length zs ≤ 1099511627776) → (bsp (decide (i < (out.length : Int))) ((0 ≤ i ∧ i < (out.length : Int)) ∧ ((i.toNat < out.length) ∧ ((inK .i64 (m + 1)) ∧ ((0 ≤ i ∧ i < ((out.set i.toNat (m, (out.getD i.toNat (0, 0, 0, false)).2)).length : Int)) ∧ ((i.toNat < (out.set i.toNat (m, (out.getD i.toNat (0, 0, 0, false)).2)).length) ∧ ((inK .i64 ((m + 1) + 1)) ∧ ((0 ≤ i ∧ i < (((out.set i.toNat (m, (out.getD i.toNat (0, 0, 0, false)).2)).set i.toNat (((out.set i.toNat (m, (out.getD i.toNat (0, 0, 0, false)).2)).getD i.toNat (0, 0, 0, false)).1, m + 1, ((out.set i.toNat (m, (out.getD i.toNat (0, 0, 0, false)).2)).getD i.toNat (0, 0, 0, false)).2.2)).length : Int)) ∧ ((i.toNat < ((out.set i.toNat (m, (out.getD i.toNat (0, 0, 0, false)).2)).set i.toNat (((out.set i.toNat (m, (out.getD i.toNat (0, 0, 0, false)).2)).getD i.toNat (0, 0, 0, false)).1, m + 1, ((out.set i.toNat (m, (out.getD i.toNat (0, 0, 0, false)).2)).getD i.toNat (0, 0, 0, false)).2.2)).length) ∧ ((inK .i64 (((m + 1) + 1) + 1)) ∧ (((3 : Int) ≠ 0) ∧ ((0 ≤ i ∧ i < ((((out.set i.toNat (m, (out.getD i.toNat (0, 0, 0, false)).2)).set i.toNat (((out.set i.toNat (m, (out.getD i.toNat (0, 0, 0, false)).2)).getD i.toNat (0, 0, 0, false)).1, m + 1, ((out.set i.toNat (m, (out.getD i.toNat (0, 0, 0, false)).2)).getD i.toNat (0, 0, 0, false)).2.2)).set i.toNat ((((out.set i.toNat (m, (out.getD i.toNat (0, 0, 0, false)).2)).set i.toNat (((out.set i.toNat (m, (out.getD i.toNat (0, 0, 0, false)).2)).getD i.toNat (0, 0, 0, false)).1, m + 1, ((out.set i.toNat (m, (out.getD i.toNat (0, 0, 0, false)).2)).getD i.toNat (0, 0, 0, false)).2.2)).getD i.toNat (0, 0, 0, false)).1, (((out.set i.toNat (m, (out.getD i.toNat (0, 0, 0, false)).2)).set i.toNat (((out.set i.toNat (m, (out.getD i.toNat (0, 0, 0, false)).2)).getD i.toNat (0, 0, 0, false)).1, m + 1, ((out.set i.toNat (m, (out.getD i.toNat (0, 0, 0, false)).2)).getD i.toNat (0, 0, 0, false)).2.2)).getD i.toNat (0, 0, 0, false)).2.1, (m + 1) + 1, (((out.set i.toNat (m, (out.getD i.toNat (0, 0, 0, false)).2)).set i.toNat (((out.set i.toNat (m, (out.getD i.toNat (0, 0, 0, false)).2)).getD i.toNat (0, 0, 0, false)).1, m + 1, ((out.set i.toNat (m, (out.getD i.toNat (0, 0, 0, false)).2)).getD i.toNat (0, 0, 0, false)).2.2)).getD i.toNat (0, 0, 0, false)).2.2.2)).length : Int)) ∧ ((i.toNat < (((out.set i.toNat (m, (out.getD i.toNat (0, 0, 0, false)).2)).set i.toNat (((out.set i.toNat (m, (out.getD i.toNat (0, 0, 0, false)).2)).getD i.toNat (0, 0, 0, false)).1, m + 1, ((out.set i.toNat (m, (out.getD i.toNat (0, 0, 0, false)).2)).getD i.toNat (0, 0, 0, false)).2.2)).set i.toNat ((((out.set i.toNat (m, (out.getD i.toNat (0, 0, 0, false)).2)).set i.toNat (((out.set i.toNat (m, (out.getD i.toNat (0, 0, 0, false)).2)).getD i.toNat (0, 0, 0, false)).1, m + 1, ((out.set i.toNat (m, (out.getD i.toNat (0, 0, 0, false)).2)).getD i.toNat (0, 0, 0, false)).2.2)).getD i.toNat (0, 0, 0, false)).1, (((out.set i.toNat (m, (out.getD i.toNat (0, 0, 0, false)).2)).set i.toNat (((out.set i.toNat (m, (out.getD i.toNat (0, 0, 0, false)).2)).getD i.toNat (0, 0, 0, false)).1, m + 1, ((out.set i.toNat (m, (out.getD i.toNat (0, 0, 0, false)).2)).getD i.toNat (0, 0, 0, false)).2.2)).getD i.toNat (0, 0, 0, false)).2.1, (m + 1) + 1, (((out.set i.toNat (m, (out.getD i.toNat (0, 0, 0, false)).2)).set i.toNat (((out.set i.toNat (m, (out.getD i.toNat (0, 0, 0, false)).2)).getD i.toNat (0, 0, 0, false)).1, m + 1, ((out.set i.toNat (m, (out.getD i.toNat (0, 0, 0, false)).2)).getD i.toNat (0, 0, 0, false)).2.2)).getD i.toNat (0, 0, 0, false)).2.2.2)).length) ∧ ((inK .i64 ((((m + 1) + 1) + 1) + 1)) ∧ ((inK .i64 (i + 1)) ∧ ((MarkSTo k (List.length zs) ((((out.set i.toNat (m, (out.getD i.toNat (0, 0, 0, false)).2)).set i.toNat (((out.set i.toNat (m, (out.getD i.toNat (0, 0, 0, false)).2)).getD i.toNat (0, 0, 0, false)).1, m + 1, ((out.set i.toNat (m, (out.getD i.toNat (0, 0, 0, false)).2)).getD i.toNat (0, 0, 0, false)).2.2)).set i.toNat ((((out.set i.toNat (m, (out.getD i.toNat (0, 0, 0, false)).2)).set i.toNat (((out.set i.toNat (m, (out.getD i.toNat (0, 0, 0, false)).2)).getD i.toNat (0, 0, 0, false)).1, m + 1, ((out.set i.toNat (m, (out.getD i.toNat (0, 0, 0, false)).2)).getD i.toNat (0, 0, 0, false)).2.2)).getD i.toNat (0, 0, 0, false)).1, (((out.set i.toNat (m, (out.getD i.toNat (0, 0, 0, false)).2)).set i.toNat (((out.set i.toNat (m, (out.getD i.toNat (0, 0, 0, false)).2)).getD i.toNat (0, 0, 0, false)).1, m + 1, ((out.set i.toNat (m, (out.getD i.toNat (0, 0, 0, false)).2)).getD i.toNat (0, 0, 0, false)).2.2)).getD i.toNat (0, 0, 0, false)).2.1, (m + 1) + 1, (((out.set i.toNat (m, (out.getD i.toNat (0, 0, 0, false)).2)).set i.toNat (((out.set i.toNat (m, (out.getD i.toNat (0, 0, 0, false)).2)).getD i.toNat (0, 0, 0, false)).1, m + 1, ((out.set i.toNat (m, (out.getD i.toNat (0, 0, 0, false)).2)).getD i.toNat (0, 0, 0, false)).2.2)).getD i.toNat (0, 0, 0, false)).2.2.2)).set i.toNat (((((out.set i.toNat (m, (out.getD i.toNat (0, 0, 0, false)).2)).set i.toNat (((out.set i.toNat (m, (out.getD i.toNat (0, 0, 0, false)).2)).getD i.toNat (0, 0, 0, false)).1, m + 1, ((out.set i.toNat (m, (out.getD i.toNat (0, 0, 0, false)).2)).getD i.toNat (0, 0, 0, false)).2.2)).set i.toNat ((((out.set i.toNat (m, (out.getD i.toNat (0, 0, 0, false)).2)).set i.toNat (((out.set i.toNat (m, (out.getD i.toNat (0, 0, 0, false)).2)).getD i.toNat (0, 0, 0, false)).1, m + 1, ((out.set i.toNat (m, (out.getD i.toNat (0, 0, 0, false)).2)).getD i.toNat (0, 0, 0, false)).2.2)).getD i.toNat (0, 0, 0, false)).1, (((out.set i.toNat (m, (out.getD i.toNat (0, 0, 0, false)).2)).set i.toNat (((out.set i.toNat (m, (out.getD i.toNat (0, 0, 0, false)).2)).getD i.toNat (0, 0, 0, false)).1, m + 1, ((out.set i.toNat (m, (out.getD i.toNat (0, 0, 0, false)).2)).getD i.toNat (0, 0, 0, false)).2.2)).getD i.toNat (0, 0, 0, false)).2.1, (m + 1) + 1, (((out.set i.toNat (m, (out.getD i.toNat (0, 0, 0, false)).2)).set i.toNat (((out.set i.toNat (m, (out.getD i.toNat (0, 0, 0, false)).2)).getD i.toNat (0, 0, 0, false)).1, m + 1, ((out.set i.toNat (m, (out.getD i.toNat (0, 0, 0, false)).2)).getD i.toNat (0, 0, 0, false)).2.2)).getD i.toNat (0, 0, 0, false)).2.2.2)).getD i.toNat (0, 0, 0, false)).1, ((((out.set i.toNat (m, (out.getD i.toNat (0, 0, 0, false)).2)).set i.toNat (((out.set i.toNat (m, (out.getD i.toNat (0, 0, 0, false)).2)).getD i.toNat (0, 0, 0, false)).1, m + 1, ((out.set i.toNat (m, (out.getD i.toNat (0, 0, 0, false)).2)).getD i.toNat (0, 0, 0, false)).2.2)).set i.toNat ((((out.set i.toNat (m, (out.getD i.toNat (0, 0, 0, false)).2)).set i.toNat (((out.set i.toNat (m, (out.getD i.toNat (0, 0, 0, false)).2)).getD i.toNat (0, 0, 0, false)).1, m + 1, ((out.set i.toNat (m, (out.getD i.toNat (0, 0, 0, false)).2)).getD i.toNat (0, 0, 0, false)).2.2)).getD i.toNat (0, 0, 0, false)).1, (((out.set i.toNat (m, (out.getD i.toNat (0, 0, 0, false)).2)).set i.toNat (((out.set i.toNat (m, (out.getD i.toNat (0, 0, 0, false)).2)).getD i.toNat (0, 0, 0, false)).1, m + 1, ((out.set i.toNat (m, (out.getD i.toNat (0, 0, 0, false)).2)).getD i.toNat (0, 0, 0, false)).2.2)).getD i.toNat (0, 0, 0, false)).2.1, (m + 1) + 1, (((out.set i.toNat (m, (out.getD i.toNat (0, 0, 0, false)).2)).set i.toNat (((out.set i.toNat (m, (out.getD i.toNat (0, 0, 0, false)).2)).getD i.toNat (0, 0, 0, false)).1, m + 1, ((out.set i.toNat (m, (out.getD i.toNat (0, 0, 0, false)).2)).getD i.toNat (0, 0, 0, false)).2.2)).getD i.toNat (0, 0, 0, false)).2.2.2)).getD i.toNat (0, 0, 0, false)).2.1, ((((out.set i.toNat (m, (out.getD i.toNat (0, 0, 0, false)).2)).set i.toNat (((out.set i.toNat (m, (out.getD i.toNat (0, 0, 0, false)).2)).getD i.toNat (0, 0, 0, false)).1, m + 1, ((out.set i.toNat (m, (out.getD i.toNat (0, 0, 0, false)).2)).getD i.toNat (0, 0, 0, false)).2.2)).set i.toNat ((((out.set i.toNat (m, (out.getD i.toNat (0, 0, 0, false)).2)).set i.toNat (((out.set i.toNat (m, (out.getD i.toNat (0, 0, 0, false)).2)).getD i.toNat (0, 0, 0, false)).1, m + 1, ((out.set i.toNat (m, (out.getD i.toNat (0, 0, 0, false)).2)).getD i.toNat (0, 0, 0, false)).2.2)).getD i.toNat (0, 0, 0, false)).1, (((out.set i.toNat (m, (out.getD i.toNat (0, 0, 0, false)).2)).set i.toNat (((out.set i.toNat (m, (out.getD i.toNat (0, 0, 0, false)).2)).getD i.toNat (0, 0, 0, false)).1, m + 1, ((out.set i.toNat (m, (out.getD i.toNat (0, 0, 0, false)).2)).getD i.toNat (0, 0, 0, false)).2.2)).getD i.toNat (0, 0, 0, false)).2.1, (m + 1) + 1, (((out.set i.toNat (m, (out.getD i.toNat (0, 0, 0, false)).2)).set i.toNat (((out.set i.toNat (m, (out.getD i.toNat (0, 0, 0, false)).2)).getD i.toNat (0, 0, 0, false)).1, m + 1, ((out.set i.toNat (m, (out.getD i.toNat (0, 0, 0, false)).2)).getD i.toNat (0, 0, 0, false)).2.2)).getD i.toNat (0, 0, 0, false)).2.2.2)).getD i.toNat (0, 0, 0, false)).2.2.1, (decide ((Int.tmod (((m + 1) + 1) + 1) 3) = (0 : Int))))) (Int.toNat (i + 1)) ∧ ((((m + 1) + 1) + 1) + 1) = k + 4 * (i + 1) ∧ 0 ≤ (i + 1) ∧ (i + 1) ≤ (List.length zs : Int) ∧ 0 ≤ k ∧ k ≤ 1099511627776 ∧ List.length zs ≤ 1099511627776) ∧ ((Int.toNat ((List.length zs : Int) - (i + 1)) : Nat) < Int.toNat ((List.length zs : Int) - i))))))))))))))))) (@Eq (HO c_laws_markStepS.outs) (m, ()) (c_laws_markStepS.out (zs, k, ())) ∧ @Eq (HI c_laws_markStepS.ins) (out, k, ()) (c_laws_markStepS.upd (zs, k, ())))))))) (by kernel_rfl) ?_
  rintro zs k ⟨p0, p1, p2⟩ hl
  refine ⟨⟨⟨rfl, fun j hj => by simp at hj⟩, by omega, by omega, by omega, p0, p1, p2⟩, ?_⟩
  rintro m i out ⟨hm, hk, h0, h1, -⟩
  have hlo := hm.1
  refine bspD (fun hlt => ?_) (fun hge => ?_)
  · have hi : i.toNat < out.length := by omega
    have gs : ∀ x, (out.set i.toNat x).getD i.toNat (0, 0, 0, false) = x := fun x => getD_set_self _ hi x _
    simp only [List.length_set, List.set_set, gs, inK]
    refine ⟨by omega, hi, by omega, by omega, hi, by omega, by omega, hi, by omega, by omega, by omega, hi, by omega, by omega, ⟨?_, by omega, by omega, by omega, p0, p1, p2⟩, by omega⟩
    rw [show (i + 1).toNat = i.toNat + 1 by omega]
    refine hm.step (by omega) ?_
    have e : m = k + 4 * (i.toNat : Int) := by omega
    rw [← e]; rfl
  · have := hm.all (by omega)
    have e : i = zs.length := by omega
    subst this; subst e; subst hk
    exact ⟨rfl, rfl⟩
end Go.Proofs.Yteojdnkgjdffcaa
