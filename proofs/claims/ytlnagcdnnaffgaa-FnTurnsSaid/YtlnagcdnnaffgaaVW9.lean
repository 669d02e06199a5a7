/-
  Contracts: comparisons of the laws by draws.
-/
import Derived.Test.YtlnagcdnnaffgaaVDraw
import Derived.Test.YtlnagcdnnaffgaaVSelf
namespace Go.Proofs.Ytlnagcdnnaffgaa
open Go.RowKit
set_option linter.unusedSimpArgs false
set_option linter.unusedVariables false
theorem okC_ofP {c : List Int} (h : wfD (TC.sl (.i .u8)) c) (hl : ¬ 4096 < (c.length : Int)) : okC c := by
  refine ⟨by omega, fun i => ?_⟩
  by_cases hi : i < c.length
  · have := h _ (getD_mem hi 0)
    simp only [wfD, inK] at this
    omega
  · rw [List.getD_eq_getElem?_getD, List.getElem?_eq_none (by omega)]; decide
def c_laws_big : Con where
  ins := [(false, .v (.sl (.i .u8)))]
  outs := [(false, .v .b)]
  sh := false
  pre := fun _ => True
  out := fun x => (decide (4096 < (List.length x.1 : Int)), ())
  upd := fun x => x
  eat := false
theorem k_laws_big [B : Base] : ConOk Try.prog 5 c_laws_big := by
  refine fn_ok (C := cx Try.prog 6 c_laws_big) (cs := []) (res := Try.f5.results.toList) (fun _ => ⟨[], [], []⟩) Try.func5 (by kernel_rfl) rfl rfl rfl tysOk.look eqTsOk.look (AllCs.ok (l := []) trivial) mixed rfl rfl rfl rfl ?_
  refine of_nf (P := ∀ c : List Int, (True) → ((lensI c_laws_big.ins (c, ())) → (@Eq (HO c_laws_big.outs) ((decide ((4096 : Int) < (c.length : Int))), ()) (c_laws_big.out (c, ()))))) (by kernel_rfl) ?_
  rintro c hp hl
  rfl
def c_laws_likeInts : Con where
  ins := [(false, .v tSI), (false, .v tSI)]
  outs := [(false, .v .b)]
  sh := false
  pre := fun _ => True
  out := fun x => (decide (x.1 = x.2.1), ())
  upd := fun x => x
  eat := false
theorem k_laws_likeInts [B : Base] : ConOk Try.prog 52 c_laws_likeInts := by
  refine fn_ok (C := cx Try.prog 26 c_laws_likeInts) (cs := []) (res := Try.f52.results.toList) (fun x => ⟨[{ sh := ⟨[(0, .one (.ref 0)), (1, .one (.ref 1)), (5, .one (.i .i64))], [(0, .imm tI false), (1, .imm tI false)]⟩, nx := 2, I := fun _ dat_ => (x.1 = dat_.2.1 ∧ x.2.1 = dat_.2.2.1) ∧ (List.length x.1 = List.length x.2.1 ∧ (∀ j : Nat, j < Int.toNat dat_.1.2.2.1 → List.getD x.1 j 0 = List.getD x.2.1 j 0) ∧ 0 ≤ dat_.1.2.2.1 ∧ dat_.1.2.2.1 ≤ (List.length x.1 : Int)), mu := fun dat_ => Int.toNat ((List.length x.1 : Int) - dat_.1.2.2.1) }], [(6, ⟨[[], [], [0, 1], [0, 1, 2], [], [], [4, 5], [4, 5, 6], [0, 1, 2, 3, 4, 5, 6, 7]], [[1, 4, 5, 6, 7], [0, 4, 5, 6, 7], [4, 5, 6, 7], [4, 5, 6, 7], [0, 1, 2, 3, 5], [0, 1, 2, 3, 4], [0, 1, 2, 3], [0, 1, 2, 3], []], []⟩)], []⟩) Try.func52 (by kernel_rfl) rfl rfl rfl tysOk.look eqTsOk.look (AllCs.ok (l := []) trivial) mixed rfl rfl rfl rfl ?_
  refine of_nf (P := ∀ p : List Int, ∀ q : List Int, (True) → ((lensI c_laws_likeInts.ins (p, q, ())) → (bsp (decide ((p.length : Int) ≠ (q.length : Int))) (@Eq (HO c_laws_likeInts.outs) (false, ()) (c_laws_likeInts.out (p, q, ()))) (((p = p ∧ q = q) ∧ (List.length p = List.length q ∧ (∀ j : Nat, j < Int.toNat (0 : Int) → List.getD p j 0 = List.getD q j 0) ∧ 0 ≤ (0 : Int) ∧ (0 : Int) ≤ (List.length p : Int))) ∧ (∀ i : Int, ∀ t0 : List Int, ∀ t1 : List Int, ((p = t0 ∧ q = t1) ∧ (List.length p = List.length q ∧ (∀ j : Nat, j < Int.toNat i → List.getD p j 0 = List.getD q j 0) ∧ 0 ≤ i ∧ i ≤ (List.length p : Int))) → (bsp (decide (i < (t0.length : Int))) ((0 ≤ i ∧ i < (t0.length : Int)) ∧ ((i.toNat < t0.length) ∧ ((0 ≤ i ∧ i < (t1.length : Int)) ∧ ((i.toNat < t1.length) ∧ (bsp (decide ((t0.getD i.toNat 0) ≠ (t1.getD i.toNat 0))) (@Eq (HO c_laws_likeInts.outs) (false, ()) (c_laws_likeInts.out (p, q, ()))) ((inK .i64 (i + 1)) ∧ (((p = t0 ∧ q = t1) ∧ (List.length p = List.length q ∧ (∀ j : Nat, j < Int.toNat (i + 1) → List.getD p j 0 = List.getD q j 0) ∧ 0 ≤ (i + 1) ∧ (i + 1) ≤ (List.length p : Int))) ∧ ((Int.toNat ((List.length p : Int) - (i + 1)) : Nat) < Int.toNat ((List.length p : Int) - i))))))))) (@Eq (HO c_laws_likeInts.outs) (true, ()) (c_laws_likeInts.out (p, q, ()))))))))) (by kernel_rfl) ?_
  rintro p q hp hl
  have hlen : p.length ≤ 9223372036854775807 := hl.1.1
  refine bspD (fun h => ?_) (fun h => ⟨⟨(by first | trivial | rfl | (and_intros <;> rfl)), by omega, fun j hj => by simp at hj, by omega, by omega⟩, ?_⟩)
  · have : p ≠ q := fun e => h (by rw [e])
    simp only [c_laws_likeInts, decide_eq_false this]
  rintro i t0 t1 ⟨⟨rfl, rfl⟩, ⟨he, ha, i0, i1⟩⟩
  obtain ⟨k, rfl⟩ : ∃ k : Nat, i = k := ⟨i.toNat, by omega⟩
  simp only [Int.toNat_natCast, show ((k : Int) + 1).toNat = k + 1 by omega] at ha ⊢
  refine bspD (fun hlt => ⟨⟨by omega, by omega⟩, by omega, ⟨by omega, by omega⟩, by omega, bspD (fun g => ?_) (fun g => ⟨by simp only [inK]; omega, ⟨(by first | trivial | rfl | (and_intros <;> rfl)), he, fun j hj => ?_, by omega, by omega⟩, by omega⟩)⟩) (fun hge => ?_)
  · have : p ≠ q := fun e => g (by rw [e])
    simp only [c_laws_likeInts, decide_eq_false this]
  · by_cases e : j = k
    · subst e; exact Decidable.not_not.1 g
    · exact ha j (by omega)
  · have : p = q := List.ext_getElem? fun j => by
      by_cases e : j < p.length
      · have := ha j (by omega)
        rw [List.getD_eq_getElem?_getD, List.getD_eq_getElem?_getD, List.getElem?_eq_getElem e, List.getElem?_eq_getElem (by omega)] at this
        rw [List.getElem?_eq_getElem e, List.getElem?_eq_getElem (by omega)]
        exact congrArg some this
      · rw [List.getElem?_eq_none (by omega), List.getElem?_eq_none (by omega)]
    simp only [c_laws_likeInts, decide_eq_true this]
def c_laws_w9Boards : Con where
  ins := [(true, .v tBoard), (true, .v tBoard)]
  outs := [(false, .v .b)]
  sh := false
  pre := fun _ => True
  out := fun x => (decide (x.1 = x.2.1), ())
  upd := fun x => x
  eat := false
theorem k_laws_w9Boards [B : Base] : ConOk Try.prog 22 c_laws_w9Boards := by
  refine fn_okW (C := cx Try.prog 17 c_laws_w9Boards) (cs := [(52, c_laws_likeInts)]) (res := Try.f22.results.toList) (fun _ => ⟨[], [], []⟩) Try.func22 (by kernel_rfl) rfl rfl rfl tysOk.look eqTsOk.look (AllCs.ok (l := [(52, c_laws_likeInts)]) ⟨k_laws_likeInts, trivial⟩) mixed rfl rfl rfl rfl ?_
  refine of_nf (P := ∀ a : (List Int) × List Int, ∀ b : (List Int) × List Int, (True) → ((lensI c_laws_w9Boards.ins (a, b, ())) → (True ∧ (bsp (decide (a.1 = b.1)) (True ∧ (@Eq (HO c_laws_w9Boards.outs) (decide (a.2 = b.2), ()) (c_laws_w9Boards.out (a, b, ())))) (@Eq (HO c_laws_w9Boards.outs) (false, ()) (c_laws_w9Boards.out (a, b, ()))))))) (by kernel_rfl) ?_
  rintro a b hp hl
  have out : ∀ r, decide (a = b) = r → @Eq (HO c_laws_w9Boards.outs) (r, ()) (c_laws_w9Boards.out (a, b, ())) := fun r h => by subst h; rfl
  refine ⟨trivial, bspD (fun h => ⟨trivial, out _ ?_⟩) (fun h => out _ (decide_eq_false fun e => h (by rw [e])))⟩
  exact decide_eq_decide.2 ⟨fun e => by rw [e], fun e => Prod.ext h e⟩
def c_laws_w9Games : Con where
  ins := [(true, .v tGame), (true, .v tGame)]
  outs := [(false, .v .b)]
  sh := false
  pre := fun _ => True
  out := fun x => (decide (x.1 = x.2.1), ())
  upd := fun x => x
  eat := false
theorem k_laws_w9Games [B : Base] : ConOk Try.prog 13 c_laws_w9Games := by
  refine fn_okW (C := cx Try.prog 52 c_laws_w9Games) (cs := [(22, c_laws_w9Boards)]) (res := Try.f13.results.toList) (fun _ => ⟨[], [], []⟩) Try.func13 (by kernel_rfl) rfl rfl rfl tysOk.look eqTsOk.look (AllCs.ok (l := [(22, c_laws_w9Boards)]) ⟨k_laws_w9Boards, trivial⟩) mixed rfl rfl rfl rfl ?_
  refine of_nf (P := ∀ a : ((List Int) × List Int) × Int × (Int × Int) × Int × Int × Int × Int, ∀ b : ((List Int) × List Int) × Int × (Int × Int) × Int × Int × Int × Int, (True) → ((lensI c_laws_w9Games.ins (a, b, ())) → (True ∧ (bsp (decide (a.1 = b.1)) (bsp (decide (a.2.1 = b.2.1)) (bsp (decide (a.2.2.1.1 = b.2.2.1.1) && (decide (a.2.2.1.2 = b.2.2.1.2) && (true))) (bsp (decide (a.2.2.2.1 = b.2.2.2.1)) (bsp (decide (a.2.2.2.2.1 = b.2.2.2.2.1)) (bsp (decide (a.2.2.2.2.2.1 = b.2.2.2.2.2.1)) (@Eq (HO c_laws_w9Games.outs) ((decide (a.2.2.2.2.2.2 = b.2.2.2.2.2.2)), ()) (c_laws_w9Games.out (a, b, ()))) (@Eq (HO c_laws_w9Games.outs) (false, ()) (c_laws_w9Games.out (a, b, ())))) (@Eq (HO c_laws_w9Games.outs) (false, ()) (c_laws_w9Games.out (a, b, ())))) (@Eq (HO c_laws_w9Games.outs) (false, ()) (c_laws_w9Games.out (a, b, ())))) (@Eq (HO c_laws_w9Games.outs) (false, ()) (c_laws_w9Games.out (a, b, ())))) (@Eq (HO c_laws_w9Games.outs) (false, ()) (c_laws_w9Games.out (a, b, ())))) (@Eq (HO c_laws_w9Games.outs) (false, ()) (c_laws_w9Games.out (a, b, ()))))))) (by kernel_rfl) ?_
  rintro a b hp hl
  have out : ∀ r, decide (a = b) = r → @Eq (HO c_laws_w9Games.outs) (r, ()) (c_laws_w9Games.out (a, b, ())) := fun r h => by subst h; rfl
  have no : ¬ a = b → @Eq (HO c_laws_w9Games.outs) (false, ()) (c_laws_w9Games.out (a, b, ())) := fun h => out _ (decide_eq_false h)
  refine ⟨trivial, bspD (fun h1 => bspD (fun h2 => bspB (fun h3 => bspD (fun h4 => bspD (fun h5 => bspD (fun h6 => out _ ?_) (fun h => no fun e => h (by rw [e]))) (fun h => no fun e => h (by rw [e]))) (fun h => no fun e => h (by rw [e]))) (fun h => no fun e => by rw [e] at h; simp at h)) (fun h => no fun e => h (by rw [e]))) (fun h => no fun e => h (by rw [e]))⟩
  simp only [Bool.and_true, Bool.and_eq_true, decide_eq_true_eq] at h3
  exact decide_eq_decide.2 ⟨fun e => by rw [e], fun e => Prod.ext h1 (Prod.ext h2 (Prod.ext (Prod.ext h3.1 h3.2) (Prod.ext h4 (Prod.ext h5 (Prod.ext h6 e)))))⟩
end Go.Proofs.Ytlnagcdnnaffgaa
