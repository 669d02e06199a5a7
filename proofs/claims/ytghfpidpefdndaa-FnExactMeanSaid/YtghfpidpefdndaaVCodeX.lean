/-
  Contracts: the code of exact numbers.
-/
import Derived.Test.YtghfpidpefdndaaVAdd2
namespace Go.Proofs.Ytghfpidpefdndaa
open Go.RowKit
set_option linter.unusedSimpArgs false
set_option linter.unusedVariables false
theorem getD_memX {α : Type} {l : List α} {k : Nat} (h : k < l.length) (d : α) : l.getD k d ∈ l := by
  rw [List.getD_eq_getElem?_getD, List.getElem?_eq_getElem h]; exact List.getElem_mem h
def allX (v : DVar) (l : List DExact) : Bool := l.all fun x => exD v x
def codeX (v : DVar) (l : List DExact) : Int := if varD v = false then 1 else if allX v l = false then 2 else 0
def bdX (l : List DExact) : Prop := ∀ (i : Nat), (l.getD i (0, 0)).2 ≤ 9223372036854775807
theorem allX_at {v : DVar} {l : List DExact} (h : allX v l = true) {i : Nat} (hi : i < l.length) : exD v (l.getD i (0, 0)) = true := by
  have := List.all_eq_true.1 h (l.getD i (0, 0)) (getD_memX hi (0, 0))
  exact this
theorem codeX_ok {v : DVar} {l : List DExact} (hv : varD v = true) (h : ∀ j : Nat, j < l.length → exD v (l.getD j (0, 0)) = true) : codeX v l = 0 := by
  have : allX v l = true := by
    unfold allX; rw [List.all_eq_true]; intro x hx
    obtain ⟨j, hj, rfl⟩ := List.getElem_of_mem hx
    have := h j hj
    rwa [List.getD_eq_getElem?_getD, List.getElem?_eq_getElem hj] at this
  simp [codeX, hv, this]
theorem codeX_no {v : DVar} {l : List DExact} (hv : varD v = true) {j : Nat} (hj : j < l.length) (h : exD v (l.getD j (0, 0)) = false) : codeX v l = 2 := by
  have : allX v l = false := by
    cases ha : allX v l
    · rfl
    · rw [allX_at ha hj] at h; cases h
  simp [codeX, hv, this]
theorem codeX_zero {v : DVar} {l : List DExact} (h : codeX v l = 0) : varD v = true ∧ allX v l = true := by
  unfold codeX at h
  split at h
  · omega
  · split at h
    · omega
    · simp_all
def c_impl_checkExacts : Con where
  ins := [(true, .v tVar), (false, .v (.sl tRoll))]
  outs := [(false, .v tI)]
  sh := false
  pre := fun x => bdX x.2.1
  out := fun x => (codeX x.1 x.2.1, ())
  upd := fun x => x
theorem k_impl_checkExacts : ConOk Try.prog 87 c_impl_checkExacts := by
  refine fn_okW (C := cx Try.prog 21 c_impl_checkExacts) (cs := [(141, c_impl_IsVariant), (142, c_impl_isExact)]) (res := Try.f87.results.toList) (fun x => ⟨[{ sh := ⟨[(2, .one (.ref 0)), (10, .one (.ref 1)), (11, .one (.i .i64)), (12, .one (.i .i64))], [(0, .box [.i .i64, .i .i64, .i .i64, .i .i64]), (1, .imm tRoll false)]⟩, nx := 2, I := fun _ dat_ => ((x.2.1.length : Int) = dat_.1.2.2.1 ∧ x.1.1 = dat_.2.1.1 ∧ x.1.2.1 = dat_.2.1.2.1 ∧ x.1.2.2.1 = dat_.2.1.2.2.1 ∧ x.1.2.2.2 = dat_.2.1.2.2.2.1 ∧ x.2.1 = dat_.2.2.1) ∧ ((∀ j : Nat, j < Int.toNat dat_.1.2.2.2.1 → exD x.1 (List.getD x.2.1 j (0, 0)) = true) ∧ 0 ≤ dat_.1.2.2.2.1 ∧ dat_.1.2.2.2.1 ≤ (List.length x.2.1 : Int)), mu := fun dat_ => Int.toNat ((List.length x.2.1 : Int) - dat_.1.2.2.2.1) }], [], []⟩) Try.func87 (by kernel_rfl) rfl rfl rfl tysOk.look eqTsOk.look (AllCs.ok (l := [(141, c_impl_IsVariant), (142, c_impl_isExact)]) ⟨k_impl_IsVariant, k_impl_isExact, trivial⟩) mixed rfl rfl rfl ?_
  refine of_nf (P := ∀ v : Int × Int × Int × Int, ∀ l : List (Int × Int), (bdX l) → ((lensI c_impl_checkExacts.ins (v, l, ())) → (True ∧ (bsp (!(varD v)) (@Eq (HO c_impl_checkExacts.outs) (1, ()) (c_impl_checkExacts.out (v, l, ()))) ((((l.length : Int) = (l.length : Int) ∧ v.1 = v.1 ∧ v.2.1 = v.2.1 ∧ v.2.2.1 = v.2.2.1 ∧ v.2.2.2 = v.2.2.2 ∧ l = l) ∧ ((∀ j : Nat, j < Int.toNat (0 : Int) → exD v (List.getD l j (0, 0)) = true) ∧ 0 ≤ (0 : Int) ∧ (0 : Int) ≤ (List.length l : Int))) ∧ (∀ n : Int, ∀ i : Int, ∀ t2_0 : Int, ∀ t2_1 : Int, ∀ t2_2 : Int, ∀ t2_3 : Int, ∀ t10 : List (Int × Int), (((l.length : Int) = n ∧ v.1 = t2_0 ∧ v.2.1 = t2_1 ∧ v.2.2.1 = t2_2 ∧ v.2.2.2 = t2_3 ∧ l = t10) ∧ ((∀ j : Nat, j < Int.toNat i → exD v (List.getD l j (0, 0)) = true) ∧ 0 ≤ i ∧ i ≤ (List.length l : Int))) → (bsp (decide (i < n)) ((0 ≤ i ∧ i < (t10.length : Int)) ∧ ((i.toNat < t10.length) ∧ ((varD (t2_0, t2_1, t2_2, t2_3) = true ∧ (t10.getD i.toNat (0, 0)).2 ≤ 9223372036854775807) ∧ (bsp (!(exD (t2_0, t2_1, t2_2, t2_3) (t10.getD i.toNat (0, 0)))) (@Eq (HO c_impl_checkExacts.outs) (2, ()) (c_impl_checkExacts.out (v, l, ()))) ((inK .i64 (i + 1)) ∧ ((((l.length : Int) = n ∧ v.1 = t2_0 ∧ v.2.1 = t2_1 ∧ v.2.2.1 = t2_2 ∧ v.2.2.2 = t2_3 ∧ l = t10) ∧ ((∀ j : Nat, j < Int.toNat (i + 1) → exD v (List.getD l j (0, 0)) = true) ∧ 0 ≤ (i + 1) ∧ (i + 1) ≤ (List.length l : Int))) ∧ ((Int.toNat ((List.length l : Int) - (i + 1)) : Nat) < Int.toNat ((List.length l : Int) - i)))))))) (@Eq (HO c_impl_checkExacts.outs) (0, ()) (c_impl_checkExacts.out (v, l, ())))))))))) (by kernel_rfl) ?_
  rintro v l hb hl
  refine ⟨trivial, bspB (fun h => by simp_all [c_impl_checkExacts, codeX]) (fun hv => ?_)⟩
  simp only [Bool.not_eq_false'] at hv
  have hlen : l.length ≤ 9223372036854775807 := hl.2.1.1
  refine ⟨⟨(by first | trivial | rfl | (and_intros <;> rfl)), fun j hj => by simp at hj, by omega, by omega⟩, ?_⟩
  rintro n i t2_0 t2_1 t2_2 t2_3 t10 ⟨⟨rfl, rfl, rfl, rfl, rfl, rfl⟩, ⟨ha, i0, i1⟩⟩
  simp only [Prod.eta]
  refine bspD (fun hlt => ⟨⟨by omega, by omega⟩, by omega, ⟨hv, hb _⟩, bspB (fun hn => ?_) (fun hy => ?_)⟩) (fun hge => ?_)
  · simp only [Bool.not_eq_true'] at hn
    simp only [c_impl_checkExacts, codeX_no hv (by omega) hn]
  · simp only [Bool.not_eq_false'] at hy
    refine ⟨by simp only [inK]; omega, ⟨(by first | trivial | rfl | (and_intros <;> rfl)), fun j hj => ?_, by omega, by omega⟩, by omega⟩
    by_cases e : j = i.toNat
    · subst e; exact hy
    · exact ha j (by omega)
  · simp only [c_impl_checkExacts, codeX_ok hv fun j hj => ha j (by omega)]
end Go.Proofs.Ytghfpidpefdndaa
