/-
  Contracts: greedy results; comparisons of lists; the law FnResults.
-/
import Derived.Test.YtgfpojneeekgkaaVResD
namespace Go.Proofs.Ytgfpojneeekgkaa
open Go.RowKit
set_option linter.unusedSimpArgs false
set_option linter.unusedVariables false
/-- q has fewer checkers than b, or as many and fewer pips -/
def betP (q b : List Int) : Bool := decide (q.sum < b.sum) || (decide (q.sum = b.sum) && decide (wS pw q q.length < wS pw b b.length))
def gstep (b q : List Int) : List Int := if betP q b then q else b
/-- the greedy one of a list -/
def greedyP : List (List Int) → List Int
  | [] => []
  | q :: l => l.foldl gstep q
def grTo (l : List (List Int)) (k : Nat) : List Int := greedyP (l.take k)
theorem grTo_one {l : List (List Int)} (h : l ≠ []) : grTo l 1 = l.getD 0 [] := by cases l with
  | nil => exact absurd rfl h
  | cons q l => simp [grTo, greedyP]
theorem grTo_succ {l : List (List Int)} {k : Nat} (h0 : 1 ≤ k) (h : k < l.length) : grTo l (k + 1) = gstep (grTo l k) (l.getD k []) := by
  cases l with
  | nil => simp at h
  | cons q l =>
    obtain ⟨j, rfl⟩ : ∃ j, k = j + 1 := ⟨k - 1, by omega⟩
    have hj : j < l.length := by simpa using h
    simp only [grTo, List.take_succ_cons, greedyP]
    rw [← List.take_append_getElem hj, List.foldl_append, List.getD_cons_succ, List.getD_eq_getElem?_getD, List.getElem?_eq_getElem hj]; rfl
theorem grTo_all (l : List (List Int)) {k : Nat} (h : l.length ≤ k) : grTo l k = greedyP l := by unfold grTo; rw [List.take_of_length_le h]
theorem gr_fold : ∀ (l : List (List Int)) (q : List Int), (l.foldl gstep q = q ∨ l.foldl gstep q ∈ l) ∧ (l.foldl gstep q).sum ≤ q.sum ∧ ∀ x, x ∈ l → (l.foldl gstep q).sum ≤ x.sum
  | [], q => ⟨.inl rfl, Int.le_refl _, by simp⟩
  | x :: l, q => by
    obtain ⟨i1, i2, i3⟩ := gr_fold l (gstep q x)
    have hg : (gstep q x = q ∨ gstep q x = x) ∧ (gstep q x).sum ≤ q.sum ∧ (gstep q x).sum ≤ x.sum := by
      unfold gstep
      cases h : betP x q with
      | true =>
        simp only [betP, Bool.or_eq_true, Bool.and_eq_true, decide_eq_true_eq] at h
        exact ⟨.inr rfl, by simp only [if_true]; omega, Int.le_refl _⟩
      | false =>
        simp only [betP, Bool.or_eq_false_iff, decide_eq_false_iff_not] at h
        exact ⟨.inl rfl, Int.le_refl _, by simp only [Bool.false_eq_true, if_false]; omega⟩
    refine ⟨?_, by simp only [List.foldl_cons]; omega, fun y hy => ?_⟩
    · rw [List.foldl_cons]
      rcases i1 with e | hm
      · rw [e]
        rcases hg.1 with e2 | e2
        · exact .inl e2
        · rw [e2]; exact .inr (by simp)
      · exact .inr (List.mem_cons_of_mem _ hm)
    · rw [List.foldl_cons]
      rcases List.mem_cons.1 hy with rfl | hy
      · have := hg.2.2; omega
      · exact i3 y hy
theorem greedy_mem {l : List (List Int)} (h : l ≠ []) : greedyP l ∈ l ∧ ∀ x, x ∈ l → (greedyP l).sum ≤ x.sum := by
  cases l with
  | nil => exact absurd rfl h
  | cons q l =>
    obtain ⟨i1, i2, i3⟩ := gr_fold l q
    refine ⟨?_, fun x hx => ?_⟩
    · rcases i1 with e | hm
      · show l.foldl gstep q ∈ _; rw [e]; simp
      · exact List.mem_cons_of_mem _ hm
    · rcases List.mem_cons.1 hx with rfl | hx
      · exact i2
      · exact i3 x hx
theorem grTo_mem {l : List (List Int)} {k : Nat} (h0 : 1 ≤ k) (h : k ≤ l.length) : grTo l k ∈ l := by
  have : l.take k ≠ [] := by
    intro e
    have := congrArg List.length e
    rw [List.length_take, List.length_nil] at this; omega
  exact List.mem_of_mem_take (greedy_mem this).1
structure GrOk (l : List (List Int)) : Prop where
  ne : l ≠ []
  ok : ∃ n, 0 < n ∧ n ≤ 24 ∧ AllP n l
theorem GrOk.at {l : List (List Int)} (h : GrOk l) {q : List Int} (hq : q ∈ l) : OkP q.length q ∧ q.length ≤ 24 ∧ q ≠ [] := by
  obtain ⟨_, n, h0, h1, h2⟩ := h
  have := h2 q hq
  have hl := this.len
  exact ⟨by rw [hl]; exact this, by omega, by intro e; rw [e] at hl; simp at hl; omega⟩
theorem resP_len {p : List Int} {r : DRoll} (hp : ResOk p r) : (resP p r).length ≤ 663552 := by
  have h1 := implRes_eq hp.ok hp.lo hp.mid
  have h2 := canonD_length ((ordP r).flatMap fun o => rowsP o p)
  have h3 := res_len hp (ordP r) fun o ho => ho
  have h4 := ordP_len r
  rw [← h1]; unfold implRes; omega
/-- the greedy result of a roll, with a code -/
def grD (v : DVar) (p : List Int) (r : DRoll) : List Int × Int := if codeP v p ≠ 0 then ([], codeP v p) else if rollD v r = false then ([], 2) else (greedyP (resP p r), 0)
def c_spec_l11Greedy : Con where
  ins := [(false, .v (.sl tSI))]
  outs := [(false, .v tSI)]
  sh := true
  pre := fun x => GrOk x.1
  out := fun x => (greedyP x.1, ())
  upd := fun x => x
  eat := false
theorem k_spec_l11Greedy [B : Base] : ConOk Try.prog 34 c_spec_l11Greedy := by
  refine fn_ok (C := cx Try.prog 40 c_spec_l11Greedy) (cs := [(54, c_spec_l10Sum), (55, c_spec_l10Pips)]) (res := Try.f34.results.toList) (fun x => ⟨[{ sh := ⟨[(0, .one (.ref 0)), (3, .one (.ref 1)), (4, .one (.i .i64))], [(0, .imm tSI true), (1, .imm tI true)]⟩, nx := 2, I := fun _ dat_ => (x.1 = dat_.2.1) ∧ (dat_.2.2.1 = grTo x.1 (Int.toNat dat_.1.2.2.1) ∧ 1 ≤ dat_.1.2.2.1 ∧ dat_.1.2.2.1 ≤ (List.length x.1 : Int)), mu := fun dat_ => Int.toNat ((List.length x.1 : Int) - dat_.1.2.2.1) }], [], []⟩) Try.func34 (by kernel_rfl) rfl rfl rfl tysOk.look eqTsOk.look (AllCs.ok (l := [(54, c_spec_l10Sum), (55, c_spec_l10Pips)]) ⟨k_spec_l10Sum, k_spec_l10Pips, trivial⟩) mixed rfl rfl rfl rfl ?_
  refine of_nf (P := ∀ l : List (List Int), (GrOk l) → ((lensI c_spec_l11Greedy.ins (l, ())) → ((0 ≤ (0 : Int) ∧ 0 < (l.length : Int)) ∧ ((0 < l.length) ∧ (((l = l) ∧ ((l.getD 0 []) = grTo l (Int.toNat (1 : Int)) ∧ 1 ≤ (1 : Int) ∧ (1 : Int) ≤ (List.length l : Int))) ∧ (∀ i : Int, ∀ l0 : List (List Int), ∀ b : List Int, ((l = l0) ∧ (b = grTo l (Int.toNat i) ∧ 1 ≤ i ∧ i ≤ (List.length l : Int))) → (bsp (decide (i < (l0.length : Int))) ((0 ≤ i ∧ i < (l0.length : Int)) ∧ ((i.toNat < l0.length) ∧ ((Bd (l0.getD i.toNat [])) ∧ ((Bd b) ∧ (bsp (decide ((List.sum (l0.getD i.toNat [])) < (List.sum b))) ((inK .i64 (i + 1)) ∧ (((l = l0) ∧ ((l0.getD i.toNat []) = grTo l (Int.toNat (i + 1)) ∧ 1 ≤ (i + 1) ∧ (i + 1) ≤ (List.length l : Int))) ∧ ((Int.toNat ((List.length l : Int) - (i + 1)) : Nat) < Int.toNat ((List.length l : Int) - i)))) ((Bd (l0.getD i.toNat [])) ∧ ((Bd b) ∧ (bsp (decide ((List.sum (l0.getD i.toNat [])) = (List.sum b))) ((OkP (List.length (l0.getD i.toNat [])) (l0.getD i.toNat []) ∧ List.length (l0.getD i.toNat []) ≤ 24) ∧ ((OkP (List.length b) b ∧ List.length b ≤ 24) ∧ (bsp (decide ((wS pw (l0.getD i.toNat []) (List.length (l0.getD i.toNat []))) < (wS pw b (List.length b)))) ((inK .i64 (i + 1)) ∧ (((l = l0) ∧ ((l0.getD i.toNat []) = grTo l (Int.toNat (i + 1)) ∧ 1 ≤ (i + 1) ∧ (i + 1) ≤ (List.length l : Int))) ∧ ((Int.toNat ((List.length l : Int) - (i + 1)) : Nat) < Int.toNat ((List.length l : Int) - i)))) ((inK .i64 (i + 1)) ∧ (((l = l0) ∧ (b = grTo l (Int.toNat (i + 1)) ∧ 1 ≤ (i + 1) ∧ (i + 1) ≤ (List.length l : Int))) ∧ ((Int.toNat ((List.length l : Int) - (i + 1)) : Nat) < Int.toNat ((List.length l : Int) - i))))))) ((inK .i64 (i + 1)) ∧ (((l = l0) ∧ (b = grTo l (Int.toNat (i + 1)) ∧ 1 ≤ (i + 1) ∧ (i + 1) ≤ (List.length l : Int))) ∧ ((Int.toNat ((List.length l : Int) - (i + 1)) : Nat) < Int.toNat ((List.length l : Int) - i)))))))))))) (@Eq (HO c_spec_l11Greedy.outs) (b, ()) (c_spec_l11Greedy.out (l, ())))))))))) (by kernel_rfl) ?_
  rintro l hp hl
  have hG := hp
  have hlen : l.length ≤ 9223372036854775807 := hl.1.1
  have hne : 0 < l.length := List.length_pos_iff.2 hp.ne
  refine ⟨⟨by omega, by omega⟩, hne, ⟨(by first | trivial | rfl | (and_intros <;> rfl)), (grTo_one hp.ne).symm, by omega, by omega⟩, ?_⟩
  rintro i l0 b ⟨rfl, ⟨hb0, i0, i1⟩⟩
  obtain ⟨k, rfl⟩ : ∃ x : Nat, i = x := ⟨i.toNat, by omega⟩
  simp only [Int.toNat_natCast, show ((k : Int) + 1).toNat = k + 1 by omega] at hb0 ⊢
  subst hb0
  refine bspD (fun hlt => ?_) (fun hge => ?_)
  · have hk : k < l.length := by omega
    have hq := hG.at (getP_mem hk)
    have hb := hG.at (grTo_mem (l := l) (k := k) (by omega) (by omega))
    have hs := grTo_succ (l := l) (k := k) (by omega) hk
    have q1 := hq.1.bd hq.2.1
    have b1 := hb.1.bd hb.2.1
    have yes : betP (l.getD k []) (grTo l k) = true → l.getD k [] = grTo l (k + 1) := fun h => by rw [hs, gstep, if_pos h]
    have no : betP (l.getD k []) (grTo l k) = false → grTo l k = grTo l (k + 1) := fun h => by rw [hs, gstep, if_neg (by rw [h]; decide)]
    refine ⟨⟨by omega, by omega⟩, hk, q1, b1, bspD (fun h1 => ?_) (fun h1 => ⟨q1, b1, bspD (fun h2 => ⟨⟨hq.1, hq.2.1⟩, ⟨hb.1, hb.2.1⟩, bspD (fun h3 => ?_) (fun h3 => ?_)⟩) (fun h2 => ?_)⟩)⟩
    · exact ⟨by simp only [inK]; omega, ⟨(by first | trivial | rfl | (and_intros <;> rfl)), yes (by simp only [betP, decide_eq_true h1, Bool.true_or]), by omega, by omega⟩, by omega⟩
    · exact ⟨by simp only [inK]; omega, ⟨(by first | trivial | rfl | (and_intros <;> rfl)), yes (by simp only [betP, decide_eq_true h2, decide_eq_true h3, Bool.and_self, Bool.or_true]), by omega, by omega⟩, by omega⟩
    · exact ⟨by simp only [inK]; omega, ⟨(by first | trivial | rfl | (and_intros <;> rfl)), no (by simp only [betP, decide_eq_false h1, decide_eq_false h3, Bool.and_false, Bool.or_false]), by omega, by omega⟩, by omega⟩
    · exact ⟨by simp only [inK]; omega, ⟨(by first | trivial | rfl | (and_intros <;> rfl)), no (by simp only [betP, decide_eq_false h1, decide_eq_false h2, Bool.false_and, Bool.or_false]), by omega, by omega⟩, by omega⟩
  · have := grTo_all l (k := k) (by omega)
    exact congrArg (fun x => (x, ())) this
def c_impl_greedyResult : Con where
  ins := [(false, .v tSI), (true, .v tRoll)]
  outs := [(false, .v tSI)]
  sh := false
  pre := fun x => ResOk x.1 x.2.1
  out := fun x => (greedyP (resP x.1 x.2.1), ())
  upd := fun x => x
  eat := false
theorem k_impl_greedyResult [B : Base] : ConOk Try.prog 35 c_impl_greedyResult := by
  refine fn_okW (C := cx Try.prog 42 c_impl_greedyResult) (cs := [(33, c_impl_bearoffResults), (51, c_impl_total), (40, c_impl_pips)]) (res := Try.f35.results.toList) (fun x => ⟨[{ sh := ⟨[(5, .one (.ref 0)), (10, .one (.ref 1)), (11, .one (.i .i64)), (12, .one (.i .i64))], [(0, .imm tI true), (1, .own 24 tSI true)]⟩, nx := 2, I := fun _ dat_ => (((implRes x.1 x.2.1).length : Int) = dat_.1.2.2.1 ∧ implRes x.1 x.2.1 = dat_.2.2.1) ∧ (dat_.2.1 = grTo (resP x.1 x.2.1) (Int.toNat dat_.1.2.2.2.1) ∧ dat_.1.2.2.1 = (List.length (resP x.1 x.2.1) : Int) ∧ 1 ≤ dat_.1.2.2.2.1 ∧ dat_.1.2.2.2.1 ≤ (List.length (resP x.1 x.2.1) : Int)), mu := fun dat_ => Int.toNat ((List.length (resP x.1 x.2.1) : Int) - dat_.1.2.2.2.1), pl := true }], [], []⟩) Try.func35 (by kernel_rfl) rfl rfl rfl tysOk.look eqTsOk.look (AllCs.ok (l := [(33, c_impl_bearoffResults), (51, c_impl_total), (40, c_impl_pips)]) ⟨k_impl_bearoffResults, k_impl_total, k_impl_pips, trivial⟩) mixed rfl rfl rfl rfl ?_
  refine of_nf (P := ∀ p : List Int, ∀ r : Int × Int, (ResOk p r) → ((lensI c_impl_greedyResult.ins (p, r, ())) → ((ResOk p r) ∧ ((bsp (decide ((0 : Int) < ((implRes p r).length : Int))) ((0 ≤ (0 : Int) ∧ 0 < ((implRes p r).length : Int)) ∧ ((0 < (implRes p r).length) ∧ ((inK .i64 ((0 : Int) + 1)) ∧ ((((implRes p r).length : Int) = ((implRes p r).length : Int) ∧ implRes p r = (implRes p r)) ∧ (((implRes p r).getD 0 []) = grTo (resP p r) (Int.toNat ((0 : Int) + 1)) ∧ ((implRes p r).length : Int) = (List.length (resP p r) : Int) ∧ 1 ≤ ((0 : Int) + 1) ∧ ((0 : Int) + 1) ≤ (List.length (resP p r) : Int)))))) (@Eq (HO c_impl_greedyResult.outs) ([], ()) (c_impl_greedyResult.out (p, r, ())))) ∧ (∀ n : Int, ∀ i : Int, ∀ b : List Int, ∀ res : List (List Int), ((((implRes p r).length : Int) = n ∧ implRes p r = res) ∧ (b = grTo (resP p r) (Int.toNat i) ∧ n = (List.length (resP p r) : Int) ∧ 1 ≤ i ∧ i ≤ (List.length (resP p r) : Int))) → (bsp (decide (i < n)) ((0 ≤ i ∧ i < (res.length : Int)) ∧ ((i.toNat < res.length) ∧ (((b.length) ≠ 0) ∧ ((Bd (res.getD i.toNat [])) ∧ ((Bd b) ∧ (bsp (decide ((List.sum (res.getD i.toNat [])) < (List.sum b))) ((inK .i64 (i + 1)) ∧ (((((implRes p r).length : Int) = n ∧ implRes p r = res) ∧ ((res.getD i.toNat []) = grTo (resP p r) (Int.toNat (i + 1)) ∧ n = (List.length (resP p r) : Int) ∧ 1 ≤ (i + 1) ∧ (i + 1) ≤ (List.length (resP p r) : Int))) ∧ ((Int.toNat ((List.length (resP p r) : Int) - (i + 1)) : Nat) < Int.toNat ((List.length (resP p r) : Int) - i)))) ((Bd (res.getD i.toNat [])) ∧ ((Bd b) ∧ (bsp (decide ((List.sum (res.getD i.toNat [])) = (List.sum b))) ((OkP (List.length (res.getD i.toNat [])) (res.getD i.toNat []) ∧ List.length (res.getD i.toNat []) ≤ 24) ∧ ((OkP (List.length b) b ∧ List.length b ≤ 24) ∧ (bsp (decide ((wS pw (res.getD i.toNat []) (List.length (res.getD i.toNat []))) < (wS pw b (List.length b)))) ((inK .i64 (i + 1)) ∧ (((((implRes p r).length : Int) = n ∧ implRes p r = res) ∧ ((res.getD i.toNat []) = grTo (resP p r) (Int.toNat (i + 1)) ∧ n = (List.length (resP p r) : Int) ∧ 1 ≤ (i + 1) ∧ (i + 1) ≤ (List.length (resP p r) : Int))) ∧ ((Int.toNat ((List.length (resP p r) : Int) - (i + 1)) : Nat) < Int.toNat ((List.length (resP p r) : Int) - i)))) ((inK .i64 (i + 1)) ∧ (((((implRes p r).length : Int) = n ∧ implRes p r = res) ∧ (b = grTo (resP p r) (Int.toNat (i + 1)) ∧ n = (List.length (resP p r) : Int) ∧ 1 ≤ (i + 1) ∧ (i + 1) ≤ (List.length (resP p r) : Int))) ∧ ((Int.toNat ((List.length (resP p r) : Int) - (i + 1)) : Nat) < Int.toNat ((List.length (resP p r) : Int) - i))))))) ((inK .i64 (i + 1)) ∧ (((((implRes p r).length : Int) = n ∧ implRes p r = res) ∧ (b = grTo (resP p r) (Int.toNat (i + 1)) ∧ n = (List.length (resP p r) : Int) ∧ 1 ≤ (i + 1) ∧ (i + 1) ≤ (List.length (resP p r) : Int))) ∧ ((Int.toNat ((List.length (resP p r) : Int) - (i + 1)) : Nat) < Int.toNat ((List.length (resP p r) : Int) - i))))))))))))) (@Eq (HO c_impl_greedyResult.outs) (b, ()) (c_impl_greedyResult.out (p, r, ()))))))))) (by kernel_rfl) ?_
  rintro p r hp hl
  have hR := implRes_eq hp.ok hp.lo hp.mid
  have hne := resP_ne hp.ok hp.lo hp.mid
  have hG : GrOk (resP p r) := ⟨hne, p.length, hp.n0, hp.n, resP_ok hp.ok hp.lo hp.mid⟩
  have hn0 : 0 < (resP p r).length := List.length_pos_iff.2 hne
  have hnl := resP_len hp
  rw [hR]
  refine ⟨hp, bspD (fun _ => ⟨⟨by omega, by omega⟩, hn0, by simp only [inK]; omega, ⟨(by first | trivial | rfl | (and_intros <;> rfl)), (grTo_one hne).symm, rfl, by omega, by omega⟩⟩) (fun h => absurd (show (0 : Int) < ((resP p r).length : Int) by omega) h), ?_⟩
  rintro n i b res ⟨⟨rfl, rfl⟩, ⟨hb0, -, i0, i1⟩⟩
  obtain ⟨k, rfl⟩ : ∃ x : Nat, i = x := ⟨i.toNat, by omega⟩
  simp only [Int.toNat_natCast, show ((k : Int) + 1).toNat = k + 1 by omega] at hb0 ⊢
  subst hb0
  refine bspD (fun hlt => ?_) (fun hge => ?_)
  · have hk : k < (resP p r).length := by omega
    have hq := hG.at (getP_mem hk)
    have hb := hG.at (grTo_mem (l := (resP p r)) (k := k) (by omega) (by omega))
    have hs := grTo_succ (l := (resP p r)) (k := k) (by omega) hk
    have q1 := hq.1.bd hq.2.1
    have b1 := hb.1.bd hb.2.1
    have yes : betP ((resP p r).getD k []) (grTo (resP p r) k) = true → (resP p r).getD k [] = grTo (resP p r) (k + 1) := fun h => by rw [hs, gstep, if_pos h]
    have no : betP ((resP p r).getD k []) (grTo (resP p r) k) = false → grTo (resP p r) k = grTo (resP p r) (k + 1) := fun h => by rw [hs, gstep, if_neg (by rw [h]; decide)]
    refine ⟨⟨by omega, by omega⟩, hk, (fun e => hb.2.2 (List.eq_nil_of_length_eq_zero e)), q1, b1, bspD (fun h1 => ?_) (fun h1 => ⟨q1, b1, bspD (fun h2 => ⟨⟨hq.1, hq.2.1⟩, ⟨hb.1, hb.2.1⟩, bspD (fun h3 => ?_) (fun h3 => ?_)⟩) (fun h2 => ?_)⟩)⟩
    · exact ⟨by simp only [inK]; omega, ⟨(by first | trivial | rfl | (and_intros <;> rfl)), yes (by simp only [betP, decide_eq_true h1, Bool.true_or]), trivial, by omega, by omega⟩, by omega⟩
    · exact ⟨by simp only [inK]; omega, ⟨(by first | trivial | rfl | (and_intros <;> rfl)), yes (by simp only [betP, decide_eq_true h2, decide_eq_true h3, Bool.and_self, Bool.or_true]), trivial, by omega, by omega⟩, by omega⟩
    · exact ⟨by simp only [inK]; omega, ⟨(by first | trivial | rfl | (and_intros <;> rfl)), no (by simp only [betP, decide_eq_false h1, decide_eq_false h3, Bool.and_false, Bool.or_false]), trivial, by omega, by omega⟩, by omega⟩
    · exact ⟨by simp only [inK]; omega, ⟨(by first | trivial | rfl | (and_intros <;> rfl)), no (by simp only [betP, decide_eq_false h1, decide_eq_false h2, Bool.false_and, Bool.or_false]), trivial, by omega, by omega⟩, by omega⟩
  · have := grTo_all (resP p r) (k := k) (by omega)
    exact congrArg (fun x => (x, ())) this
def c_laws_likeRows : Con where
  ins := [(false, .v (.sl tSI)), (false, .v (.sl tSI))]
  outs := [(false, .v .b)]
  sh := false
  pre := fun _ => True
  out := fun x => (decide (x.1 = x.2.1), ())
  upd := fun x => x
  eat := false
theorem k_laws_likeRows [B : Base] : ConOk Try.prog 22 c_laws_likeRows := by
  refine fn_ok (C := cx Try.prog 27 c_laws_likeRows) (cs := [(26, c_laws_likeInts)]) (res := Try.f22.results.toList) (fun x => ⟨[{ sh := ⟨[(0, .one (.ref 0)), (1, .one (.ref 1)), (5, .one (.i .i64))], [(0, .imm tSI false), (1, .imm tSI false)]⟩, nx := 2, I := fun _ dat_ => (x.1 = dat_.2.1 ∧ x.2.1 = dat_.2.2.1) ∧ (List.length x.1 = List.length x.2.1 ∧ (∀ j : Nat, j < Int.toNat dat_.1.2.2.1 → List.getD x.1 j [] = List.getD x.2.1 j []) ∧ 0 ≤ dat_.1.2.2.1 ∧ dat_.1.2.2.1 ≤ (List.length x.1 : Int)), mu := fun dat_ => Int.toNat ((List.length x.1 : Int) - dat_.1.2.2.1) }], [(6, ⟨[[], [], [0, 1], [0, 1, 2], [], [], [4, 5], [4, 5, 6], [0, 1, 2, 3, 4, 5, 6, 7], [0, 1, 2, 3, 4, 5, 6, 7, 8]], [[1, 4, 5, 6, 7], [0, 4, 5, 6, 7], [4, 5, 6, 7], [4, 5, 6, 7], [0, 1, 2, 3, 5], [0, 1, 2, 3, 4], [0, 1, 2, 3], [0, 1, 2, 3], [], []], []⟩)], []⟩) Try.func22 (by kernel_rfl) rfl rfl rfl tysOk.look eqTsOk.look (AllCs.ok (l := [(26, c_laws_likeInts)]) ⟨k_laws_likeInts, trivial⟩) mixed rfl rfl rfl rfl ?_
  refine of_nf (P := ∀ p : List (List Int), ∀ q : List (List Int), (True) → ((lensI c_laws_likeRows.ins (p, q, ())) → (bsp (decide ((p.length : Int) ≠ (q.length : Int))) (@Eq (HO c_laws_likeRows.outs) (false, ()) (c_laws_likeRows.out (p, q, ()))) (((p = p ∧ q = q) ∧ (List.length p = List.length q ∧ (∀ j : Nat, j < Int.toNat (0 : Int) → List.getD p j [] = List.getD q j []) ∧ 0 ≤ (0 : Int) ∧ (0 : Int) ≤ (List.length p : Int))) ∧ (∀ i : Int, ∀ t0 : List (List Int), ∀ t1 : List (List Int), ((p = t0 ∧ q = t1) ∧ (List.length p = List.length q ∧ (∀ j : Nat, j < Int.toNat i → List.getD p j [] = List.getD q j []) ∧ 0 ≤ i ∧ i ≤ (List.length p : Int))) → (bsp (decide (i < (t0.length : Int))) ((0 ≤ i ∧ i < (t0.length : Int)) ∧ ((i.toNat < t0.length) ∧ ((0 ≤ i ∧ i < (t1.length : Int)) ∧ ((i.toNat < t1.length) ∧ (True ∧ (bsp (!(decide ((t0.getD i.toNat []) = (t1.getD i.toNat [])))) (@Eq (HO c_laws_likeRows.outs) (false, ()) (c_laws_likeRows.out (p, q, ()))) ((inK .i64 (i + 1)) ∧ (((p = t0 ∧ q = t1) ∧ (List.length p = List.length q ∧ (∀ j : Nat, j < Int.toNat (i + 1) → List.getD p j [] = List.getD q j []) ∧ 0 ≤ (i + 1) ∧ (i + 1) ≤ (List.length p : Int))) ∧ ((Int.toNat ((List.length p : Int) - (i + 1)) : Nat) < Int.toNat ((List.length p : Int) - i)))))))))) (@Eq (HO c_laws_likeRows.outs) (true, ()) (c_laws_likeRows.out (p, q, ()))))))))) (by kernel_rfl) ?_
  rintro p q hp hl
  have hlen : p.length ≤ 9223372036854775807 := hl.1.1
  refine bspD (fun h => ?_) (fun h => ⟨⟨(by first | trivial | rfl | (and_intros <;> rfl)), by omega, fun j hj => by simp at hj, by omega, by omega⟩, ?_⟩)
  · have : p ≠ q := fun e => h (by rw [e])
    simp only [c_laws_likeRows, decide_eq_false this]
  rintro i t0 t1 ⟨⟨rfl, rfl⟩, ⟨he, ha, i0, i1⟩⟩
  obtain ⟨k, rfl⟩ : ∃ k : Nat, i = k := ⟨i.toNat, by omega⟩
  simp only [Int.toNat_natCast, show ((k : Int) + 1).toNat = k + 1 by omega] at ha ⊢
  refine bspD (fun hlt => ⟨⟨by omega, by omega⟩, by omega, ⟨by omega, by omega⟩, by omega, trivial, bspB (fun g => ?_) (fun g => ⟨by simp only [inK]; omega, ⟨(by first | trivial | rfl | (and_intros <;> rfl)), he, fun j hj => ?_, by omega, by omega⟩, by omega⟩)⟩) (fun hge => ?_)
  · have : p ≠ q := fun e => by rw [e] at g; simp at g
    simp only [c_laws_likeRows, decide_eq_false this]
  · by_cases e : j = k
    · subst e; simpa using g
    · exact ha j (by omega)
  · have : p = q := List.ext_getElem? fun j => by
      by_cases e : j < p.length
      · have := ha j (by omega)
        rw [List.getD_eq_getElem?_getD, List.getD_eq_getElem?_getD, List.getElem?_eq_getElem e, List.getElem?_eq_getElem (by omega)] at this
        rw [List.getElem?_eq_getElem e, List.getElem?_eq_getElem (by omega)]
        exact congrArg some this
      · rw [List.getElem?_eq_none (by omega), List.getElem?_eq_none (by omega)]
    simp only [c_laws_likeRows, decide_eq_true this]
end Go.Proofs.Ytgfpojneeekgkaa
