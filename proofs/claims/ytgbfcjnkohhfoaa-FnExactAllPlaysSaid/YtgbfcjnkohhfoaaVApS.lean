/-
  Contracts: comparison and check of lists of plays.
-/
import Derived.Test.YtgbfcjnkohhfoaaVTw
import Derived.Test.YtgbfcjnkohhfoaaVMarkT
namespace Go.Proofs.Ytgbfcjnkohhfoaa
open Go.RowKit
set_option linter.unusedSimpArgs false
set_option linter.unusedVariables false
def lens3 (l : List DPlay) : List (Nat × Nat × Nat) := l.map fun p => (p.1.length, p.2.1.length, p.2.2.length)
def tot3 (n : Nat × Nat × Nat) : Nat := 4 * n.1 + n.2.1 + n.2.2
def sum3 : List (Nat × Nat × Nat) → Nat
  | [] => 0
  | n :: ns => tot3 n + sum3 ns
def markP (k : Int) (n : Nat × Nat × Nat) : DPlay := (markS k n.1, markL (k + 4 * (n.1 : Int)) n.2.1, markL (k + 4 * (n.1 : Int) + (n.2.1 : Int)) n.2.2)
/-- marks of plays -/
def markPl : Int → List (Nat × Nat × Nat) → List DPlay
  | _, [] => []
  | k, n :: ns => markP k n :: markPl (k + (tot3 n : Int)) ns
theorem markPl_lens : ∀ (ns : List (Nat × Nat × Nat)) (k : Int), lens3 (markPl k ns) = ns
  | [], _ => rfl
  | n :: ns, k => by
    have := markPl_lens ns (k + (tot3 n : Int))
    simp only [lens3] at this
    simp only [markPl, markP, lens3, List.map_cons, markL_length, markS_length, this]
theorem markPl_length (ns : List (Nat × Nat × Nat)) (k : Int) : (markPl k ns).length = ns.length := by
  have := congrArg List.length (markPl_lens ns k); simpa [lens3] using this
theorem sum3_app : ∀ (l m : List (Nat × Nat × Nat)), sum3 (l ++ m) = sum3 l + sum3 m
  | [], m => by simp [sum3]
  | n :: l, m => by simp only [List.cons_append, sum3, sum3_app l m]; omega
theorem sum3_take {l : List (Nat × Nat × Nat)} {i : Nat} (h : i < l.length) : sum3 (l.take (i + 1)) = sum3 (l.take i) + tot3 l[i] := by
  rw [← List.take_append_getElem h, sum3_app]; simp [sum3]
theorem sum3_le : ∀ (l : List (Nat × Nat × Nat)) (i : Nat), sum3 (l.take i) ≤ sum3 l
  | [], i => by simp [sum3]
  | n :: l, 0 => by simp [sum3]
  | n :: l, i + 1 => by simp only [List.take_succ_cons, sum3]; have := sum3_le l i; omega
theorem markPl_at : ∀ (ns : List (Nat × Nat × Nat)) (k : Int) (i : Nat) (h : i < ns.length), (markPl k ns)[i]? = some (markP (k + (sum3 (ns.take i) : Nat)) ns[i])
  | [], _, _, h => by simp at h
  | n :: ns, k, 0, _ => by simp [markPl, sum3]
  | n :: ns, k, i + 1, h => by
    have := markPl_at ns (k + (tot3 n : Int)) i (by simpa using h)
    simp only [markPl, List.getElem?_cons_succ, List.getElem_cons_succ, List.take_succ_cons, sum3]
    rw [this]
    congr 2
    push_cast; omega
def c_laws_eqPlay : Con where
  ins := [(true, .v tPlay), (true, .v tPlay)]
  outs := [(false, .v .b)]
  sh := false
  pre := fun _ => True
  out := fun x => (decide (x.1 = x.2.1), ())
  upd := fun x => x
  eat := false
theorem k_laws_eqPlay [B : Base] : ConOk Try.prog 27 c_laws_eqPlay := by
  refine fn_ok (C := cx Try.prog 17 c_laws_eqPlay) (cs := [(59, c_laws_eqStepS), (12, c_laws_eqBoard)]) (res := Try.f27.results.toList) (fun _ => ⟨[], [], []⟩) Try.func27 (by kernel_rfl) rfl rfl rfl tysOk.look eqTsOk.look (AllCs.ok (l := [(59, c_laws_eqStepS), (12, c_laws_eqBoard)]) ⟨k_laws_eqStepS, k_laws_eqBoard, trivial⟩) mixed rfl rfl rfl rfl ?_
  refine of_nf (P := ∀ aSteps : List (Int × Int × Int × Bool), ∀ aBoardOwn : List Int, ∀ aBoardOther : List Int, ∀ bSteps : List (Int × Int × Int × Bool), ∀ bBoardOwn : List Int, ∀ bBoardOther : List Int, (True) → ((lensI c_laws_eqPlay.ins ((aSteps, aBoardOwn, aBoardOther), (bSteps, bBoardOwn, bBoardOther), ())) → (True ∧ (bsp (!(decide (aSteps = bSteps))) (@Eq (HO c_laws_eqPlay.outs) (false, ()) (c_laws_eqPlay.out ((aSteps, aBoardOwn, aBoardOther), (bSteps, bBoardOwn, bBoardOther), ()))) (True ∧ (bsp (!(decide ((aBoardOwn, aBoardOther) = (bBoardOwn, bBoardOther)))) (@Eq (HO c_laws_eqPlay.outs) (false, ()) (c_laws_eqPlay.out ((aSteps, aBoardOwn, aBoardOther), (bSteps, bBoardOwn, bBoardOther), ()))) (@Eq (HO c_laws_eqPlay.outs) (true, ()) (c_laws_eqPlay.out ((aSteps, aBoardOwn, aBoardOther), (bSteps, bBoardOwn, bBoardOther), ()))))))))) (by kernel_rfl) ?_
  rintro aSteps aBoardOwn aBoardOther bSteps bBoardOwn bBoardOther hpre hl
  repeat' first | refine ⟨trivial, ?_⟩ | refine bspB (fun _ => ?_) (fun _ => ?_) | refine bspD (fun _ => ?_) (fun _ => ?_)
  all_goals (simp_all [c_laws_eqPlay] <;> grind)
def c_laws_eqPlayS : Con where
  ins := [(false, .v (.sl tPlayB)), (false, .v (.sl tPlay))]
  outs := [(false, .v .b)]
  sh := false
  pre := fun _ => True
  out := fun x => (decide (x.1 = x.2.1), ())
  upd := fun x => x
  eat := false
theorem k_laws_eqPlayS [B : Base] : ConOk Try.prog 11 c_laws_eqPlayS := by
  refine fn_ok (C := cx Try.prog 27 c_laws_eqPlayS) (cs := [(27, c_laws_eqPlay)]) (res := Try.f11.results.toList) (fun x => ⟨[{ sh := ⟨[(0, .one (.ref 0)), (1, .one (.ref 1)), (5, .one (.i .i64))], [(0, .imm tPlayB false), (1, .imm tPlay false)]⟩, nx := 2, I := fun _ dat_ => (x.1 = dat_.2.1 ∧ x.2.1 = dat_.2.2.1) ∧ ((∀ j, j < Int.toNat dat_.1.2.2.1 → x.1[j]? = x.2.1[j]?) ∧ 0 ≤ dat_.1.2.2.1 ∧ dat_.1.2.2.1 ≤ (List.length x.1 : Int) ∧ List.length x.1 = List.length x.2.1), mu := fun dat_ => Int.toNat ((List.length x.1 : Int) - dat_.1.2.2.1) }], [(6, ⟨[[], [], [0, 1], [0, 1, 2], [], [], [4, 5], [4, 5, 6], [0, 1, 2, 3, 4, 5, 6, 7], [0, 1, 2, 3, 4, 5, 6, 7, 8]], [[1, 4, 5, 6, 7], [0, 4, 5, 6, 7], [4, 5, 6, 7], [4, 5, 6, 7], [0, 1, 2, 3, 5], [0, 1, 2, 3, 4], [0, 1, 2, 3], [0, 1, 2, 3], [], []], []⟩)], []⟩) Try.func11 (by kernel_rfl) rfl rfl rfl tysOk.look eqTsOk.look (AllCs.ok (l := [(27, c_laws_eqPlay)]) ⟨k_laws_eqPlay, trivial⟩) mixed rfl rfl rfl rfl ?_
  refine of_nf (P := ∀ xs : List ((List (Int × Int × Int × Bool)) × (List Int) × List Int), ∀ ys : List ((List (Int × Int × Int × Bool)) × (List Int) × List Int), (True) → ((lensI c_laws_eqPlayS.ins (xs, ys, ())) → (bsp (decide ((xs.length : Int) ≠ (ys.length : Int))) (@Eq (HO c_laws_eqPlayS.outs) (false, ()) (c_laws_eqPlayS.out (xs, ys, ()))) (((xs = xs ∧ ys = ys) ∧ ((∀ j, j < Int.toNat (0 : Int) → xs[j]? = ys[j]?) ∧ 0 ≤ (0 : Int) ∧ (0 : Int) ≤ (List.length xs : Int) ∧ List.length xs = List.length ys)) ∧ (∀ i : Int, ∀ t0 : List ((List (Int × Int × Int × Bool)) × (List Int) × List Int), ∀ t1 : List ((List (Int × Int × Int × Bool)) × (List Int) × List Int), ((xs = t0 ∧ ys = t1) ∧ ((∀ j, j < Int.toNat i → xs[j]? = ys[j]?) ∧ 0 ≤ i ∧ i ≤ (List.length xs : Int) ∧ List.length xs = List.length ys)) → (bsp (decide (i < (t0.length : Int))) ((0 ≤ i ∧ i < (t0.length : Int)) ∧ ((i.toNat < t0.length) ∧ ((0 ≤ i ∧ i < (t1.length : Int)) ∧ ((i.toNat < t1.length) ∧ (True ∧ (bsp (!(decide ((t0.getD i.toNat ([], [], [])) = (t1.getD i.toNat ([], [], []))))) (@Eq (HO c_laws_eqPlayS.outs) (false, ()) (c_laws_eqPlayS.out (xs, ys, ()))) ((inK .i64 (i + 1)) ∧ (((xs = t0 ∧ ys = t1) ∧ ((∀ j, j < Int.toNat (i + 1) → xs[j]? = ys[j]?) ∧ 0 ≤ (i + 1) ∧ (i + 1) ≤ (List.length xs : Int) ∧ List.length xs = List.length ys)) ∧ ((Int.toNat ((List.length xs : Int) - (i + 1)) : Nat) < Int.toNat ((List.length xs : Int) - i)))))))))) (@Eq (HO c_laws_eqPlayS.outs) (true, ()) (c_laws_eqPlayS.out (xs, ys, ()))))))))) (by kernel_rfl) ?_
  rintro xs ys hpre hl
  have hlen : xs.length ≤ 9223372036854775807 := hl.1.1
  refine bspD (fun hne => ?_) (fun heq => ?_)
  · have : xs ≠ ys := by rintro rfl; exact hne rfl
    simp only [c_laws_eqPlayS, decide_eq_false this]
  · simp only [ne_eq, Decidable.not_not] at heq
    refine ⟨⟨(by first | trivial | rfl | (and_intros <;> rfl)), by simp, by omega, by omega, by omega⟩, ?_⟩
    rintro i t0 t1 ⟨⟨rfl, rfl⟩, ⟨hs, h0, h1, h2⟩⟩
    refine bspD (fun hlt => ?_) (fun hge => ?_)
    · refine ⟨⟨by omega, by omega⟩, by omega, ⟨by omega, by omega⟩, by omega, trivial, bspB (fun hd => ?_) (fun hd => ?_)⟩
      · have : xs ≠ ys := by rintro rfl; simp at hd
        simp only [c_laws_eqPlayS, decide_eq_false this]
      · refine ⟨by simp only [inK]; omega, ⟨(by first | trivial | rfl | (and_intros <;> rfl)), fun j hj => ?_, by omega, by omega, h2⟩, by omega⟩
        by_cases e : j = i.toNat
        · subst e
          have k1 : i.toNat < xs.length := by omega
          have k2 : i.toNat < ys.length := by omega
          simp only [List.getD_eq_getElem?_getD, List.getElem?_eq_getElem k1, List.getElem?_eq_getElem k2, Option.getD_some, ne_eq, Decidable.not_not, Bool.not_eq_false', decide_eq_true_eq] at hd
          rw [List.getElem?_eq_getElem k1, List.getElem?_eq_getElem k2]; exact congrArg some hd
        · exact hs j (by omega)
    · have : xs = ys := List.ext_getElem? fun j => by
        by_cases e : j < xs.length
        · exact hs j (by omega)
        · rw [List.getElem?_eq_none (by omega), List.getElem?_eq_none (by omega)]
      simp only [c_laws_eqPlayS, decide_eq_true this]
def c_laws_heldPlayS : Con where
  ins := [(false, .v (.sl tPlayB)), (false, .v tI)]
  outs := [(false, .v tI)]
  sh := false
  pre := fun x => x.1 = markPl x.2.1 (lens3 x.1) ∧ 0 ≤ x.2.1 ∧ x.2.1 + ((sum3 (lens3 x.1) : Nat) : Int) ≤ 1099511627776
  out := fun x => (x.2.1 + ((sum3 (lens3 x.1) : Nat) : Int), ())
  upd := fun x => x
  eat := false
theorem k_laws_heldPlayS [B : Base] : ConOk Try.prog 15 c_laws_heldPlayS := by
  refine fn_ok (C := cx Try.prog 42 c_laws_heldPlayS) (cs := [(31, c_laws_heldStepS), (32, c_laws_heldInt64S)]) (res := Try.f15.results.toList) (fun x => ⟨[{ sh := ⟨[(0, .one (.ref 0)), (1, .one (.i .i64)), (5, .one (.i .i64))], [(0, .imm tPlayB false)]⟩, nx := 1, I := fun _ dat_ => (x.1 = dat_.2.1) ∧ (dat_.1.2.1 = x.2.1 + ((sum3 (List.take (Int.toNat dat_.1.2.2.1) (lens3 x.1)) : Nat) : Int) ∧ 0 ≤ dat_.1.2.2.1 ∧ dat_.1.2.2.1 ≤ (List.length x.1 : Int)), mu := fun dat_ => Int.toNat ((List.length x.1 : Int) - dat_.1.2.2.1) }], [], []⟩) Try.func15 (by kernel_rfl) rfl rfl rfl tysOk.look eqTsOk.look (AllCs.ok (l := [(31, c_laws_heldStepS), (32, c_laws_heldInt64S)]) ⟨k_laws_heldStepS, k_laws_heldInt64S, trivial⟩) mixed rfl rfl rfl rfl ?_
  refine of_nf (P := ∀ l : List ((List (Int × Int × Int × Bool)) × (List Int) × List Int), ∀ k : Int, (l = markPl k (lens3 l) ∧ 0 ≤ k ∧ k + ((sum3 (lens3 l) : Nat) : Int) ≤ 1099511627776) → ((lensI c_laws_heldPlayS.ins (l, k, ())) → (((l = l) ∧ (k = k + ((sum3 (List.take (Int.toNat (0 : Int)) (lens3 l)) : Nat) : Int) ∧ 0 ≤ (0 : Int) ∧ (0 : Int) ≤ (List.length l : Int))) ∧ (∀ m : Int, ∀ i : Int, ∀ t0 : List ((List (Int × Int × Int × Bool)) × (List Int) × List Int), ((l = t0) ∧ (m = k + ((sum3 (List.take (Int.toNat i) (lens3 l)) : Nat) : Int) ∧ 0 ≤ i ∧ i ≤ (List.length l : Int))) → (bsp (decide (i < (t0.length : Int))) ((0 ≤ i ∧ i < (t0.length : Int)) ∧ ((i.toNat < t0.length) ∧ (((t0.getD i.toNat ([], [], [])).1 = markS m (List.length (t0.getD i.toNat ([], [], [])).1) ∧ 0 ≤ m ∧ m ≤ 1099511627776 ∧ List.length (t0.getD i.toNat ([], [], [])).1 ≤ 1099511627776) ∧ (bsp (decide ((m + 4 * (List.length (t0.getD i.toNat ([], [], [])).1 : Int)) < (0 : Int))) (@Eq (HO c_laws_heldPlayS.outs) ((-1), ()) (c_laws_heldPlayS.out (l, k, ()))) ((0 ≤ i ∧ i < (t0.length : Int)) ∧ ((i.toNat < t0.length) ∧ (((t0.getD i.toNat ([], [], [])).2.1 = markL (m + 4 * (List.length (t0.getD i.toNat ([], [], [])).1 : Int)) (List.length (t0.getD i.toNat ([], [], [])).2.1) ∧ 0 ≤ (m + 4 * (List.length (t0.getD i.toNat ([], [], [])).1 : Int)) ∧ (m + 4 * (List.length (t0.getD i.toNat ([], [], [])).1 : Int)) ≤ 1099511627776 ∧ List.length (t0.getD i.toNat ([], [], [])).2.1 ≤ 1099511627776) ∧ (bsp (decide (((m + 4 * (List.length (t0.getD i.toNat ([], [], [])).1 : Int)) + (List.length (t0.getD i.toNat ([], [], [])).2.1 : Int)) < (0 : Int))) (@Eq (HO c_laws_heldPlayS.outs) ((-1), ()) (c_laws_heldPlayS.out (l, k, ()))) ((0 ≤ i ∧ i < (t0.length : Int)) ∧ ((i.toNat < t0.length) ∧ (((t0.getD i.toNat ([], [], [])).2.2 = markL ((m + 4 * (List.length (t0.getD i.toNat ([], [], [])).1 : Int)) + (List.length (t0.getD i.toNat ([], [], [])).2.1 : Int)) (List.length (t0.getD i.toNat ([], [], [])).2.2) ∧ 0 ≤ ((m + 4 * (List.length (t0.getD i.toNat ([], [], [])).1 : Int)) + (List.length (t0.getD i.toNat ([], [], [])).2.1 : Int)) ∧ ((m + 4 * (List.length (t0.getD i.toNat ([], [], [])).1 : Int)) + (List.length (t0.getD i.toNat ([], [], [])).2.1 : Int)) ≤ 1099511627776 ∧ List.length (t0.getD i.toNat ([], [], [])).2.2 ≤ 1099511627776) ∧ (bsp (decide ((((m + 4 * (List.length (t0.getD i.toNat ([], [], [])).1 : Int)) + (List.length (t0.getD i.toNat ([], [], [])).2.1 : Int)) + (List.length (t0.getD i.toNat ([], [], [])).2.2 : Int)) < (0 : Int))) (@Eq (HO c_laws_heldPlayS.outs) ((-1), ()) (c_laws_heldPlayS.out (l, k, ()))) ((inK .i64 (i + 1)) ∧ (((l = t0) ∧ ((((m + 4 * (List.length (t0.getD i.toNat ([], [], [])).1 : Int)) + (List.length (t0.getD i.toNat ([], [], [])).2.1 : Int)) + (List.length (t0.getD i.toNat ([], [], [])).2.2 : Int)) = k + ((sum3 (List.take (Int.toNat (i + 1)) (lens3 l)) : Nat) : Int) ∧ 0 ≤ (i + 1) ∧ (i + 1) ≤ (List.length l : Int))) ∧ ((Int.toNat ((List.length l : Int) - (i + 1)) : Nat) < Int.toNat ((List.length l : Int) - i)))))))))))))))) (@Eq (HO c_laws_heldPlayS.outs) (m, ()) (c_laws_heldPlayS.out (l, k, ())))))))) (by kernel_rfl) ?_
  rintro l k ⟨hm, k0, k1⟩ hl
  have hlen : l.length ≤ 9223372036854775807 := hl.1.1
  have hL : (lens3 l).length = l.length := by simp [lens3]
  refine ⟨⟨(by first | trivial | rfl | (and_intros <;> rfl)), by simp [sum3], by omega, by omega⟩, ?_⟩
  rintro m i t0 ⟨rfl, ⟨hk, h0, h1⟩⟩
  refine bspD (fun hlt => ?_) (fun hge => ?_)
  · obtain ⟨q, rfl⟩ : ∃ q : Nat, i = q := ⟨i.toNat, by omega⟩
    simp only [Int.toNat_natCast] at hk ⊢
    have hq : q < l.length := by omega
    have hq2 : q < (lens3 l).length := by omega
    have hs1 := sum3_take hq2
    have hs2 := sum3_le (lens3 l) (q + 1)
    have hat := markPl_at (lens3 l) k q hq2
    rw [← hm, List.getElem?_eq_getElem hq] at hat
    simp only [Option.some.injEq] at hat
    have hg : l.getD q ([], [], []) = l[q] := by rw [List.getD_eq_getElem?_getD, List.getElem?_eq_getElem hq]; rfl
    have hn : (lens3 l)[q] = (l[q].1.length, l[q].2.1.length, l[q].2.2.length) := by simp [lens3]
    have hk' : m = k + ((sum3 (List.take q (lens3 l)) : Nat) : Int) := hk
    rw [hn, ← hg] at hat hs1
    clear hg hn
    rw [← hk'] at hat
    have e1 : (l.getD q ([], [], [])).1 = markS m (l.getD q ([], [], [])).1.length := congrArg Prod.fst hat
    have e2 : (l.getD q ([], [], [])).2.1 = markL (m + 4 * ((l.getD q ([], [], [])).1.length : Int)) (l.getD q ([], [], [])).2.1.length := congrArg (fun p => p.2.1) hat
    have e3 : (l.getD q ([], [], [])).2.2 = markL (m + 4 * ((l.getD q ([], [], [])).1.length : Int) + ((l.getD q ([], [], [])).2.1.length : Int)) (l.getD q ([], [], [])).2.2.length := congrArg (fun p => p.2.2) hat
    simp only [tot3] at hs1
    clear hat
    refine ⟨⟨by omega, by omega⟩, hq, ⟨e1, by omega, by omega, by omega⟩, bspD (fun h => absurd h (by omega)) (fun _ => ⟨⟨by omega, by omega⟩, hq, ⟨e2, by omega, by omega, by omega⟩, bspD (fun h => absurd h (by omega)) (fun _ => ⟨⟨by omega, by omega⟩, hq, ⟨e3, by omega, by omega, by omega⟩, bspD (fun h => absurd h (by omega)) (fun _ => ⟨by simp only [inK]; omega, ⟨(by first | trivial | rfl | (and_intros <;> rfl)), ?_, by omega, by omega⟩, by omega⟩)⟩)⟩)⟩
    rw [show ((q : Int) + 1).toNat = q + 1 by omega]
    omega
  · have e : i.toNat = (lens3 l).length := by omega
    rw [e, List.take_length] at hk
    subst hk; rfl
end Go.Proofs.Ytgbfcjnkohhfoaa
