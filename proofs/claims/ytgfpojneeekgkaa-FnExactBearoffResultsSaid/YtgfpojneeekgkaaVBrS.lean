/-
  Contracts: comparison and marks of lists of lists; what the law BearoffResults needs of data.
-/
import Derived.Test.YtgfpojneeekgkaaVResE
import Derived.Test.YtgfpojneeekgkaaOwn2
namespace Go.Proofs.Ytgfpojneeekgkaa
open Go.RowKit
set_option linter.unusedSimpArgs false
set_option linter.unusedVariables false
/-- marks of rows -/
def markLL : Int → List Nat → List (List Int)
  | _, [] => []
  | k, n :: ns => markL k n :: markLL (k + (n : Int)) ns
def sumN : List Nat → Nat
  | [] => 0
  | n :: ns => n + sumN ns
theorem markLL_len : ∀ (ns : List Nat) (k : Int), (markLL k ns).map List.length = ns
  | [], _ => rfl
  | n :: ns, k => by simp only [markLL, List.map_cons, markL_length, markLL_len ns]
theorem markLL_length (ns : List Nat) (k : Int) : (markLL k ns).length = ns.length := by
  have := congrArg List.length (markLL_len ns k); simpa using this
theorem sumN_app : ∀ (l m : List Nat), sumN (l ++ m) = sumN l + sumN m
  | [], m => by simp [sumN]
  | n :: l, m => by simp only [List.cons_append, sumN, sumN_app l m]; omega
theorem sumN_take {l : List Nat} {i : Nat} (h : i < l.length) : sumN (l.take (i + 1)) = sumN (l.take i) + l[i] := by
  rw [← List.take_append_getElem h, sumN_app]; simp [sumN]
theorem sumN_le : ∀ (l : List Nat) (i : Nat), sumN (l.take i) ≤ sumN l
  | [], i => by simp [sumN]
  | n :: l, 0 => by simp [sumN]
  | n :: l, i + 1 => by simp only [List.take_succ_cons, sumN]; have := sumN_le l i; omega
theorem markLL_at : ∀ (ns : List Nat) (k : Int) (i : Nat) (h : i < ns.length), (markLL k ns)[i]? = some (markL (k + (sumN (ns.take i) : Nat)) ns[i])
  | [], _, _, h => by simp at h
  | n :: ns, k, 0, _ => by simp [markLL, sumN]
  | n :: ns, k, i + 1, h => by
    have := markLL_at ns (k + (n : Int)) i (by simpa using h)
    simp only [markLL, List.getElem?_cons_succ, List.getElem_cons_succ, List.take_succ_cons, sumN]
    rw [this]
    congr 2
    push_cast; omega
def lensL (l : List (List Int)) : List Nat := l.map List.length
def c_laws_eqInt64SS : Con where
  ins := [(false, .v (.sl tSI)), (false, .v (.sl tSI))]
  outs := [(false, .v .b)]
  sh := false
  pre := fun _ => True
  out := fun x => (decide (x.1 = x.2.1), ())
  upd := fun x => x
  eat := false
theorem k_laws_eqInt64SS [B : Base] : ConOk Try.prog 12 c_laws_eqInt64SS := by
  refine fn_ok (C := cx Try.prog 27 c_laws_eqInt64SS) (cs := [(13, c_laws_eqInt64S)]) (res := Try.f12.results.toList) (fun x => ⟨[{ sh := ⟨[(0, .one (.ref 0)), (1, .one (.ref 1)), (5, .one (.i .i64))], [(0, .imm tSI false), (1, .imm tSI false)]⟩, nx := 2, I := fun _ dat_ => (x.1 = dat_.2.1 ∧ x.2.1 = dat_.2.2.1) ∧ ((∀ j, j < Int.toNat dat_.1.2.2.1 → x.1[j]? = x.2.1[j]?) ∧ 0 ≤ dat_.1.2.2.1 ∧ dat_.1.2.2.1 ≤ (List.length x.1 : Int) ∧ List.length x.1 = List.length x.2.1), mu := fun dat_ => Int.toNat ((List.length x.1 : Int) - dat_.1.2.2.1) }], [(6, ⟨[[], [], [0, 1], [0, 1, 2], [], [], [4, 5], [4, 5, 6], [0, 1, 2, 3, 4, 5, 6, 7], [0, 1, 2, 3, 4, 5, 6, 7, 8]], [[1, 4, 5, 6, 7], [0, 4, 5, 6, 7], [4, 5, 6, 7], [4, 5, 6, 7], [0, 1, 2, 3, 5], [0, 1, 2, 3, 4], [0, 1, 2, 3], [0, 1, 2, 3], [], []], []⟩)], []⟩) Try.func12 (by kernel_rfl) rfl rfl rfl tysOk.look eqTsOk.look (AllCs.ok (l := [(13, c_laws_eqInt64S)]) ⟨k_laws_eqInt64S, trivial⟩) mixed rfl rfl rfl rfl ?_
  refine of_nf (P := ∀ xs : List (List Int), ∀ ys : List (List Int), (True) → ((lensI c_laws_eqInt64SS.ins (xs, ys, ())) → (bsp (decide ((xs.length : Int) ≠ (ys.length : Int))) (@Eq (HO c_laws_eqInt64SS.outs) (false, ()) (c_laws_eqInt64SS.out (xs, ys, ()))) (((xs = xs ∧ ys = ys) ∧ ((∀ j, j < Int.toNat (0 : Int) → xs[j]? = ys[j]?) ∧ 0 ≤ (0 : Int) ∧ (0 : Int) ≤ (List.length xs : Int) ∧ List.length xs = List.length ys)) ∧ (∀ i : Int, ∀ t0 : List (List Int), ∀ t1 : List (List Int), ((xs = t0 ∧ ys = t1) ∧ ((∀ j, j < Int.toNat i → xs[j]? = ys[j]?) ∧ 0 ≤ i ∧ i ≤ (List.length xs : Int) ∧ List.length xs = List.length ys)) → (bsp (decide (i < (t0.length : Int))) ((0 ≤ i ∧ i < (t0.length : Int)) ∧ ((i.toNat < t0.length) ∧ ((0 ≤ i ∧ i < (t1.length : Int)) ∧ ((i.toNat < t1.length) ∧ (True ∧ (bsp (!(decide ((t0.getD i.toNat []) = (t1.getD i.toNat [])))) (@Eq (HO c_laws_eqInt64SS.outs) (false, ()) (c_laws_eqInt64SS.out (xs, ys, ()))) ((inK .i64 (i + 1)) ∧ (((xs = t0 ∧ ys = t1) ∧ ((∀ j, j < Int.toNat (i + 1) → xs[j]? = ys[j]?) ∧ 0 ≤ (i + 1) ∧ (i + 1) ≤ (List.length xs : Int) ∧ List.length xs = List.length ys)) ∧ ((Int.toNat ((List.length xs : Int) - (i + 1)) : Nat) < Int.toNat ((List.length xs : Int) - i)))))))))) (@Eq (HO c_laws_eqInt64SS.outs) (true, ()) (c_laws_eqInt64SS.out (xs, ys, ()))))))))) (by kernel_rfl) ?_
  rintro xs ys hpre hl
  have hlen : xs.length ≤ 9223372036854775807 := hl.1.1
  refine bspD (fun hne => ?_) (fun heq => ?_)
  · have : xs ≠ ys := by rintro rfl; exact hne rfl
    simp only [c_laws_eqInt64SS, decide_eq_false this]
  · simp only [ne_eq, Decidable.not_not] at heq
    refine ⟨⟨(by first | trivial | rfl | (and_intros <;> rfl)), by simp, by omega, by omega, by omega⟩, ?_⟩
    rintro i t0 t1 ⟨⟨rfl, rfl⟩, ⟨hs, h0, h1, h2⟩⟩
    refine bspD (fun hlt => ?_) (fun hge => ?_)
    · refine ⟨⟨by omega, by omega⟩, by omega, ⟨by omega, by omega⟩, by omega, trivial, bspB (fun hd => ?_) (fun hd => ?_)⟩
      · have : xs ≠ ys := by rintro rfl; simp at hd
        simp only [c_laws_eqInt64SS, decide_eq_false this]
      · refine ⟨by simp only [inK]; omega, ⟨(by first | trivial | rfl | (and_intros <;> rfl)), fun j hj => ?_, by omega, by omega, h2⟩, by omega⟩
        by_cases e : j = i.toNat
        · subst e
          have k1 : i.toNat < xs.length := by omega
          have k2 : i.toNat < ys.length := by omega
          simp only [List.getD_eq_getElem?_getD, List.getElem?_eq_getElem k1, List.getElem?_eq_getElem k2, Option.getD_some, ne_eq, Decidable.not_not, Bool.not_eq_false', decide_eq_true_eq] at hd
          rw [List.getElem?_eq_getElem k1, List.getElem?_eq_getElem k2]; exact congrArg some hd
        · exact hs j (by omega)
    · have : xs = ys := List.ext_getElem? fun j => by
        by_cases e : j < xs.length
        · exact hs j (by omega)
        · rw [List.getElem?_eq_none (by omega), List.getElem?_eq_none (by omega)]
      simp only [c_laws_eqInt64SS, decide_eq_true this]
def c_laws_heldInt64SS : Con where
  ins := [(false, .v (.sl tSI)), (false, .v tI)]
  outs := [(false, .v tI)]
  sh := false
  pre := fun x => x.1 = markLL x.2.1 (lensL x.1) ∧ 0 ≤ x.2.1 ∧ x.2.1 + ((sumN (lensL x.1) : Nat) : Int) ≤ 1099511627776
  out := fun x => (x.2.1 + ((sumN (lensL x.1) : Nat) : Int), ())
  upd := fun x => x
  eat := false
theorem k_laws_heldInt64SS [B : Base] : ConOk Try.prog 16 c_laws_heldInt64SS := by
  refine fn_ok (C := cx Try.prog 21 c_laws_heldInt64SS) (cs := [(19, c_laws_heldInt64S)]) (res := Try.f16.results.toList) (fun x => ⟨[{ sh := ⟨[(0, .one (.ref 0)), (1, .one (.i .i64)), (5, .one (.i .i64))], [(0, .imm tSI false)]⟩, nx := 1, I := fun _ dat_ => (x.1 = dat_.2.1) ∧ (dat_.1.2.1 = x.2.1 + ((sumN (List.take (Int.toNat dat_.1.2.2.1) (lensL x.1)) : Nat) : Int) ∧ 0 ≤ dat_.1.2.2.1 ∧ dat_.1.2.2.1 ≤ (List.length x.1 : Int)), mu := fun dat_ => Int.toNat ((List.length x.1 : Int) - dat_.1.2.2.1) }], [], []⟩) Try.func16 (by kernel_rfl) rfl rfl rfl tysOk.look eqTsOk.look (AllCs.ok (l := [(19, c_laws_heldInt64S)]) ⟨k_laws_heldInt64S, trivial⟩) mixed rfl rfl rfl rfl ?_
  refine of_nf (P := ∀ l : List (List Int), ∀ k : Int, (l = markLL k (lensL l) ∧ 0 ≤ k ∧ k + ((sumN (lensL l) : Nat) : Int) ≤ 1099511627776) → ((lensI c_laws_heldInt64SS.ins (l, k, ())) → (((l = l) ∧ (k = k + ((sumN (List.take (Int.toNat (0 : Int)) (lensL l)) : Nat) : Int) ∧ 0 ≤ (0 : Int) ∧ (0 : Int) ≤ (List.length l : Int))) ∧ (∀ m : Int, ∀ i : Int, ∀ t0 : List (List Int), ((l = t0) ∧ (m = k + ((sumN (List.take (Int.toNat i) (lensL l)) : Nat) : Int) ∧ 0 ≤ i ∧ i ≤ (List.length l : Int))) → (bsp (decide (i < (t0.length : Int))) ((0 ≤ i ∧ i < (t0.length : Int)) ∧ ((i.toNat < t0.length) ∧ (((t0.getD i.toNat []) = markL m (List.length (t0.getD i.toNat [])) ∧ 0 ≤ m ∧ m ≤ 1099511627776 ∧ List.length (t0.getD i.toNat []) ≤ 1099511627776) ∧ (bsp (decide ((m + (List.length (t0.getD i.toNat []) : Int)) < (0 : Int))) (@Eq (HO c_laws_heldInt64SS.outs) ((-1), ()) (c_laws_heldInt64SS.out (l, k, ()))) ((inK .i64 (i + 1)) ∧ (((l = t0) ∧ ((m + (List.length (t0.getD i.toNat []) : Int)) = k + ((sumN (List.take (Int.toNat (i + 1)) (lensL l)) : Nat) : Int) ∧ 0 ≤ (i + 1) ∧ (i + 1) ≤ (List.length l : Int))) ∧ ((Int.toNat ((List.length l : Int) - (i + 1)) : Nat) < Int.toNat ((List.length l : Int) - i)))))))) (@Eq (HO c_laws_heldInt64SS.outs) (m, ()) (c_laws_heldInt64SS.out (l, k, ())))))))) (by kernel_rfl) ?_
  rintro l k ⟨hm, k0, k1⟩ hl
  have hlen : l.length ≤ 9223372036854775807 := hl.1.1
  have hL : (lensL l).length = l.length := by simp [lensL]
  refine ⟨⟨(by first | trivial | rfl | (and_intros <;> rfl)), by simp [sumN], by omega, by omega⟩, ?_⟩
  rintro m i t0 ⟨rfl, ⟨hk, h0, h1⟩⟩
  refine bspD (fun hlt => ?_) (fun hge => ?_)
  · obtain ⟨q, rfl⟩ : ∃ q : Nat, i = q := ⟨i.toNat, by omega⟩
    simp only [Int.toNat_natCast] at hk ⊢
    have hq : q < l.length := by omega
    have hq2 : q < (lensL l).length := by omega
    have hs1 := sumN_take hq2
    have hs2 := sumN_le (lensL l) (q + 1)
    have hat := markLL_at (lensL l) k q hq2
    rw [← hm, List.getElem?_eq_getElem hq] at hat
    simp only [Option.some.injEq] at hat
    have hg : l.getD q [] = l[q] := by rw [List.getD_eq_getElem?_getD, List.getElem?_eq_getElem hq]; rfl
    have hn : (lensL l)[q] = l[q].length := by simp [lensL]
    have hk' : m = k + ((sumN (List.take q (lensL l)) : Nat) : Int) := hk
    rw [hn, ← hg] at hat hs1
    refine ⟨⟨by omega, by omega⟩, hq, ⟨by rw [hk']; exact hat, by omega, by omega, by omega⟩, bspD (fun h => absurd h (by omega)) (fun _ => ⟨by simp only [inK]; omega, ⟨(by first | trivial | rfl | (and_intros <;> rfl)), ?_, by omega, by omega⟩, by omega⟩)⟩
    rw [show ((q : Int) + 1).toNat = q + 1 by omega]
    omega
  · have e : i.toNat = (lensL l).length := by omega
    rw [e, List.take_length] at hk
    subst hk; rfl
def c_spec_BearoffResultsv : Con where
  ins := [(true, .v tVar), (false, .v tSI), (true, .v tRoll)]
  outs := [(false, .v (.sl tSI)), (false, .v tI)]
  sh := false
  pre := fun _ => True
  out := fun x => ((brD x.1 x.2.1 x.2.2.1).1, (brD x.1 x.2.1 x.2.2.1).2, ())
  upd := fun x => x
  eat := false
theorem k_spec_BearoffResultsv [B : Base] : ConOk Try.prog 7 c_spec_BearoffResultsv := by
  refine fn_okW (C := cx Try.prog 23 c_spec_BearoffResultsv) (cs := [(28, c_spec_l10Code), (29, c_spec_l10Roll), (30, c_spec_l10Results)]) (res := Try.f7.results.toList) (fun _ => ⟨[], [], []⟩) Try.func7 (by kernel_rfl) rfl rfl rfl tysOk.look eqTsOk.look (AllCs.ok (l := [(28, c_spec_l10Code), (29, c_spec_l10Roll), (30, c_spec_l10Results)]) ⟨k_spec_l10Code, k_spec_l10Roll, k_spec_l10Results, trivial⟩) mixed rfl rfl rfl rfl ?_
  refine of_nf (P := ∀ v : Int × Int × Int × Int, ∀ p : List Int, ∀ r : Int × Int, (True) → ((lensI c_spec_BearoffResultsv.ins (v, p, r, ())) → (True ∧ (bsp (decide ((codeP v p) ≠ (0 : Int))) (@Eq (HO c_spec_BearoffResultsv.outs) ([], codeP v p, ()) (c_spec_BearoffResultsv.out (v, p, r, ()))) ((varD v = true) ∧ (bsp (!(rollD v r)) (@Eq (HO c_spec_BearoffResultsv.outs) ([], 2, ()) (c_spec_BearoffResultsv.out (v, p, r, ()))) ((ResOk p r) ∧ (@Eq (HO c_spec_BearoffResultsv.outs) (specRes p r, 0, ()) (c_spec_BearoffResultsv.out (v, p, r, ())))))))))) (by kernel_rfl) ?_
  rintro v p r hp hl
  have out : ∀ c : List (List Int) × Int, brD v p r = c → @Eq (HO c_spec_BearoffResultsv.outs) (c.1, c.2, ()) (c_spec_BearoffResultsv.out (v, p, r, ())) := fun c h => by subst h; rfl
  refine ⟨trivial, bspD (fun h => out ([], codeP v p) (by unfold brD; rw [if_pos h])) (fun h => ?_)⟩
  have h0 : codeP v p = 0 := Decidable.not_not.1 h
  have hv : varD v = true := by
    cases hh : varD v with
    | true => rfl
    | false => rw [codeP, if_pos hh] at h0; cases h0
  refine ⟨hv, bspB (fun g => out ([], 2) (by unfold brD; rw [if_neg h, if_pos (by simpa using g)])) (fun g => ?_)⟩
  have g' : rollD v r = true := by simpa using g
  have hb := (br_ok h0 g').1
  refine ⟨hb, out (specRes p r, 0) ?_⟩
  unfold brD
  rw [if_neg h, if_neg (by rw [g']; decide), specRes_eq hb.ok hb.lo hb.mid]
end Go.Proofs.Ytgfpojneeekgkaa
