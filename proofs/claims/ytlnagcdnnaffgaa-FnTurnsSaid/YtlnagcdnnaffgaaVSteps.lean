/-
  Contracts: steps that follow an order.
-/
import Derived.Test.YtlnagcdnnaffgaaVAll
import Derived.Test.YtlnagcdnnaffgaaAbL
namespace Go.Proofs.Ytlnagcdnnaffgaa
open Go.RowKit
set_option linter.unusedSimpArgs false
set_option linter.unusedVariables false
/-- the board after steps with the dice of an order -/
def followD (v : DVar) : List Int → List DStep → DBoard → Option DBoard
  | _, [], b => some b
  | [], _ :: _, _ => none
  | d :: ds, s :: ss, b => if s.2.2.1 = d ∧ legalB v b s = true then followD v ds ss (afterD v b s) else none
theorem followD_long {v : DVar} : ∀ {o : List Int} {ss : List DStep} {b : DBoard}, o.length < ss.length → followD v o ss b = none
  | _, [], _, h => by simp at h
  | [], _ :: _, _, _ => rfl
  | d :: ds, s :: ss, b, h => by
    simp only [followD]
    split
    · exact followD_long (by simpa using h)
    · rfl
theorem follow_nil (v : DVar) (o : List Int) (b : DBoard) : followD v o [] b = some b := by cases o <;> rfl
theorem legalB_fits {v : DVar} {b : DBoard} {s : DStep} (hb : okB v b) (h : legalB v b s = true) : stepFits v b s := by
  simp only [legalB, Bool.and_eq_true, decide_eq_true_eq, inB_iff] at h
  exact stepD_fits hb h.2.2.1 h.2.1.1 h.2.2.2
theorem follow_step {v : DVar} {o : List Int} {ss : List DStep} {b : DBoard} {k : Nat} (h1 : k < ss.length) (h2 : k < o.length) : followD v (o.drop k) (ss.drop k) b = if (ss.getD k (0, 0, 0, false)).2.2.1 = o.getD k 0 ∧ legalB v b (ss.getD k (0, 0, 0, false)) = true then followD v (o.drop (k + 1)) (ss.drop (k + 1)) (afterD v b (ss.getD k (0, 0, 0, false))) else none := by
  rw [drop_cons h1 (0, 0, 0, false), drop_cons h2 0, followD]
theorem follow_out {v : DVar} {o : List Int} {ss : List DStep} {b : DBoard} {k : Nat} (h1 : k < ss.length) (h2 : o.length ≤ k) : followD v (o.drop k) (ss.drop k) b = none := by
  rw [drop_cons h1 (0, 0, 0, false), List.drop_eq_nil_of_le h2, followD]
theorem okB_ne {v : DVar} {b : DBoard} (hb : okB v b) : NeB b := by
  have hF := hb.facts
  exact ⟨⟨fun e => by have := hF.2.2.1; rw [e] at this; simp at this; omega, by omega⟩, fun e => by have := hF.2.2.2.1; rw [e] at this; simp at this; omega, by omega⟩
def c_impl_followSteps : Con where
  ins := [(true, .v tVar), (true, .v tBoard), (false, .v tSI), (false, .v (.sl tStep))]
  outs := [(true, .pr (.own 2 tI) (.own 2 tI)), (false, .v .b)]
  sh := false
  pre := fun x => okB x.1 x.2.1
  out := fun x => (Option.getD (followD x.1 x.2.2.1 x.2.2.2.1 x.2.1) ([], []), Option.isSome (followD x.1 x.2.2.1 x.2.2.2.1 x.2.1), ())
  upd := fun x => x
  eat := false
theorem k_impl_followSteps [B : Base] : ConOk Try.prog 78 c_impl_followSteps := by
  refine fn_okW (C := cx Try.prog 48 c_impl_followSteps) (cs := [(56, c_impl_cloneBoard), (92, c_impl_legalStep), (93, c_impl_afterStep)]) (res := Try.f78.results.toList) (fun x => ⟨[{ sh := ⟨[(2, .one (.ref 0)), (4, .one (.ref 1)), (5, .one (.ref 2)), (8, .one (.ref 3)), (20, .one (.ref 4)), (21, .one (.i .i64)), (22, .one (.i .i64))], [(0, .imm tI false), (1, .box [.i .i64, .i .i64, .i .i64, .i .i64]), (2, .box [.ref 5, .ref 6]), (3, .box [.ref 7, .ref 8]), (4, .imm tStep false), (5, .own 2 tI true), (6, .own 2 tI true), (7, .own 2 tI true), (8, .own 2 tI true)]⟩, nx := 9, I := fun _ dat_ => ((x.2.2.2.1.length : Int) = dat_.1.2.2.2.2.2.1 ∧ x.2.2.1 = dat_.2.1 ∧ x.1.1 = dat_.2.2.1.1 ∧ x.1.2.1 = dat_.2.2.1.2.1 ∧ x.1.2.2.1 = dat_.2.2.1.2.2.1 ∧ x.1.2.2.2 = dat_.2.2.1.2.2.2.1 ∧ x.2.2.2.1 = dat_.2.2.2.2.2.1) ∧ ((okB x.1 (dat_.2.2.2.2.2.2.1, dat_.2.2.2.2.2.2.2.1) ∧ followD x.1 (List.drop (Int.toNat dat_.1.2.2.2.2.2.2.1) x.2.2.1) (List.drop (Int.toNat dat_.1.2.2.2.2.2.2.1) x.2.2.2.1) (dat_.2.2.2.2.2.2.1, dat_.2.2.2.2.2.2.2.1) = followD x.1 x.2.2.1 x.2.2.2.1 x.2.1) ∧ 0 ≤ dat_.1.2.2.2.2.2.2.1 ∧ dat_.1.2.2.2.2.2.2.1 ≤ (List.length x.2.2.2.1 : Int)), mu := fun dat_ => Int.toNat ((List.length x.2.2.2.1 : Int) - dat_.1.2.2.2.2.2.2.1) }], [(7, ⟨[[], [0], [], [], [2, 3], [2, 3, 4], [0, 1, 2, 3, 4, 5], [0, 1, 2, 3, 4, 5, 6], [0, 1, 2, 3, 4, 5, 6, 7], [0, 1, 2, 3, 4, 5, 6, 7], [0, 1, 2, 3, 4, 5, 6, 7], [0, 1, 2, 3, 4, 5, 6, 7, 8, 9, 10], [0, 1, 2, 3, 4, 5, 6, 7, 8, 9, 10, 11], [0, 1, 2, 3, 4, 5, 6, 7, 8, 9, 10, 11, 12]], [[2, 3, 4, 5], [2, 3, 4, 5], [0, 1, 3], [0, 1, 2], [0, 1], [0, 1], [], [], [9, 10], [8, 10], [8, 9], [], [], []], []⟩)], []⟩) Try.func78 (by kernel_rfl) rfl rfl rfl tysOk.look eqTsOk.look (AllCs.ok (l := [(56, c_impl_cloneBoard), (92, c_impl_legalStep), (93, c_impl_afterStep)]) ⟨k_impl_cloneBoard, k_impl_legalStep, k_impl_afterStep, trivial⟩) mixed rfl rfl rfl rfl ?_
  refine of_nf (P := ∀ v : Int × Int × Int × Int, ∀ b : (List Int) × List Int, ∀ o : List Int, ∀ ss : List (Int × Int × Int × Bool), (okB v b) → ((lensI c_impl_followSteps.ins (v, b, o, ss, ())) → (bsp (decide ((o.length : Int) < (ss.length : Int))) (@Eq (HO c_impl_followSteps.outs) (([], []), false, ()) (c_impl_followSteps.out (v, b, o, ss, ()))) ((NeB b) ∧ ((((ss.length : Int) = (ss.length : Int) ∧ o = o ∧ v.1 = v.1 ∧ v.2.1 = v.2.1 ∧ v.2.2.1 = v.2.2.1 ∧ v.2.2.2 = v.2.2.2 ∧ ss = ss) ∧ ((okB v (b.1, b.2) ∧ followD v (List.drop (Int.toNat (0 : Int)) o) (List.drop (Int.toNat (0 : Int)) ss) (b.1, b.2) = followD v o ss b) ∧ 0 ≤ (0 : Int) ∧ (0 : Int) ≤ (List.length ss : Int))) ∧ (∀ n : Int, ∀ i : Int, ∀ t2 : List Int, ∀ t4_0 : Int, ∀ t4_1 : Int, ∀ t4_2 : Int, ∀ t4_3 : Int, ∀ st : List (Int × Int × Int × Bool), ∀ c_0 : List Int, ∀ c_1 : List Int, ∀ z_0 : List Int, ∀ z_1 : List Int, (((ss.length : Int) = n ∧ o = t2 ∧ v.1 = t4_0 ∧ v.2.1 = t4_1 ∧ v.2.2.1 = t4_2 ∧ v.2.2.2 = t4_3 ∧ ss = st) ∧ ((okB v (c_0, c_1) ∧ followD v (List.drop (Int.toNat i) o) (List.drop (Int.toNat i) ss) (c_0, c_1) = followD v o ss b) ∧ 0 ≤ i ∧ i ≤ (List.length ss : Int))) → (bsp (decide (i < n)) ((0 ≤ i ∧ i < (st.length : Int)) ∧ ((i.toNat < st.length) ∧ ((0 ≤ i ∧ i < (t2.length : Int)) ∧ ((i.toNat < t2.length) ∧ (bsp (decide ((st.getD i.toNat (0, 0, 0, false)).2.2.1 ≠ (t2.getD i.toNat 0))) (@Eq (HO c_impl_followSteps.outs) (([], []), false, ()) (c_impl_followSteps.out (v, b, o, ss, ()))) ((okB (t4_0, t4_1, t4_2, t4_3) (c_0, c_1)) ∧ (bsp (!(legalB (t4_0, t4_1, t4_2, t4_3) (c_0, c_1) (st.getD i.toNat (0, 0, 0, false)))) (@Eq (HO c_impl_followSteps.outs) (([], []), false, ()) (c_impl_followSteps.out (v, b, o, ss, ()))) ((okB (t4_0, t4_1, t4_2, t4_3) (c_0, c_1) ∧ stepIn (t4_0, t4_1, t4_2, t4_3) (st.getD i.toNat (0, 0, 0, false))) ∧ ((inK .i64 (i + 1)) ∧ ((((ss.length : Int) = n ∧ o = t2 ∧ v.1 = t4_0 ∧ v.2.1 = t4_1 ∧ v.2.2.1 = t4_2 ∧ v.2.2.2 = t4_3 ∧ ss = st) ∧ ((okB v ((afterD (t4_0, t4_1, t4_2, t4_3) (c_0, c_1) (st.getD i.toNat (0, 0, 0, false))).1, (afterD (t4_0, t4_1, t4_2, t4_3) (c_0, c_1) (st.getD i.toNat (0, 0, 0, false))).2) ∧ followD v (List.drop (Int.toNat (i + 1)) o) (List.drop (Int.toNat (i + 1)) ss) ((afterD (t4_0, t4_1, t4_2, t4_3) (c_0, c_1) (st.getD i.toNat (0, 0, 0, false))).1, (afterD (t4_0, t4_1, t4_2, t4_3) (c_0, c_1) (st.getD i.toNat (0, 0, 0, false))).2) = followD v o ss b) ∧ 0 ≤ (i + 1) ∧ (i + 1) ≤ (List.length ss : Int))) ∧ ((Int.toNat ((List.length ss : Int) - (i + 1)) : Nat) < Int.toNat ((List.length ss : Int) - i)))))))))))) (@Eq (HO c_impl_followSteps.outs) ((c_0, c_1), true, ()) (c_impl_followSteps.out (v, b, o, ss, ())))))))))) (by kernel_rfl) ?_
  rintro v b o ss hb hl

  have out0 : ∀ x : Option DBoard, followD v o ss b = x → @Eq (HO c_impl_followSteps.outs) (x.getD ([], []), x.isSome, ()) (c_impl_followSteps.out (v, b, o, ss, ())) := fun x h => by subst h; rfl

  have hlen : o.length ≤ 9223372036854775807 := hl.2.2.1.1
  refine bspD (fun h => out0 none (followD_long (by omega))) (fun hle => ⟨okB_ne hb, ⟨(by first | trivial | rfl | (and_intros <;> rfl)), ⟨hb, rfl⟩, by omega, by omega⟩, ?_⟩)
  rintro n i t2 t4_0 t4_1 t4_2 t4_3 st c_0 c_1 z_0 z_1 ⟨⟨rfl, rfl, rfl, rfl, rfl, rfl, rfl⟩, ⟨⟨hc, hf⟩, i0, i1⟩⟩
  simp only [Prod.eta]
  refine bspD (fun hlt => ?_) (fun hge => ?_)
  · obtain ⟨k, rfl⟩ : ∃ k : Nat, i = k := ⟨i.toNat, by omega⟩
    simp only [Int.toNat_natCast] at hf ⊢
    have h1 : k < ss.length := by omega
    have h2 : k < o.length := by omega
    rw [follow_step h1 h2] at hf
    refine ⟨⟨by omega, by omega⟩, h1, ⟨by omega, by omega⟩, h2, bspD (fun hn => ?_) (fun hy => ⟨hc, bspB (fun hn => ?_) (fun hy2 => ?_)⟩)⟩
    · rw [if_neg fun h => hn h.1] at hf; exact out0 none hf.symm
    · simp only [Bool.not_eq_true'] at hn
      rw [if_neg fun h => by rw [hn] at h; cases h.2] at hf; exact out0 none hf.symm
    · simp only [Bool.not_eq_false'] at hy2
      have hfit := legalB_fits hc hy2
      rw [if_pos ⟨by simpa using hy, hy2⟩] at hf
      refine ⟨⟨hc, hfit.1⟩, by simp only [inK]; omega, ⟨(by first | trivial | rfl | (and_intros <;> rfl)), ⟨okB_after hc hfit, ?_⟩, by omega, by omega⟩, by omega⟩
      rw [show ((k : Int) + 1).toNat = k + 1 by omega]; exact hf
  · have e0 : ss.drop i.toNat = [] := List.drop_eq_nil_of_le (by omega)
    rw [e0, follow_nil] at hf
    exact out0 (some (c_0, c_1)) hf.symm
def c_spec_l05Legal : Con where
  ins := [(true, .v tVar), (true, .v tBoard), (false, .v tSI), (false, .v (.sl tStep))]
  outs := [(true, .pr (.own 2 tI) (.own 2 tI)), (false, .v .b)]
  sh := false
  pre := fun x => okB x.1 x.2.1
  out := fun x => (Option.getD (followD x.1 x.2.2.1 x.2.2.2.1 x.2.1) ([], []), Option.isSome (followD x.1 x.2.2.1 x.2.2.2.1 x.2.1), ())
  upd := fun x => x
  eat := false
theorem k_spec_l05Legal [B : Base] : ConOk Try.prog 82 c_spec_l05Legal := by
  refine fn_okW (C := cx Try.prog 60 c_spec_l05Legal) (cs := [(65, c_spec_l02Own), (95, c_spec_l04IsLegal), (96, c_spec_l04Apply)]) (res := Try.f82.results.toList) (fun x => ⟨[{ sh := ⟨[(2, .one (.ref 0)), (3, .one (.ref 1)), (4, .one (.ref 2)), (8, .one (.ref 3)), (10, .one (.ref 4)), (11, .one (.i .i64))], [(0, .imm tI false), (1, .imm tStep false), (2, .box [.i .i64, .i .i64, .i .i64, .i .i64]), (3, .box [.ref 5, .ref 6]), (4, .box [.ref 7, .ref 8]), (5, .own 2 tI true), (6, .own 2 tI true), (7, .own 2 tI true), (8, .own 2 tI true)]⟩, nx := 9, I := fun _ dat_ => (x.2.2.1 = dat_.2.1 ∧ x.2.2.2.1 = dat_.2.2.1 ∧ x.1.1 = dat_.2.2.2.1.1 ∧ x.1.2.1 = dat_.2.2.2.1.2.1 ∧ x.1.2.2.1 = dat_.2.2.2.1.2.2.1 ∧ x.1.2.2.2 = dat_.2.2.2.1.2.2.2.1) ∧ ((okB x.1 (dat_.2.2.2.2.2.2.2.2.1, dat_.2.2.2.2.2.2.2.2.2.1) ∧ followD x.1 (List.drop (Int.toNat dat_.1.2.2.2.2.2.1) x.2.2.1) (List.drop (Int.toNat dat_.1.2.2.2.2.2.1) x.2.2.2.1) (dat_.2.2.2.2.2.2.2.2.1, dat_.2.2.2.2.2.2.2.2.2.1) = followD x.1 x.2.2.1 x.2.2.2.1 x.2.1) ∧ 0 ≤ dat_.1.2.2.2.2.2.1 ∧ dat_.1.2.2.2.2.2.1 ≤ (List.length x.2.2.2.1 : Int)), mu := fun dat_ => Int.toNat ((List.length x.2.2.2.1 : Int) - dat_.1.2.2.2.2.2.1) }], [(1, ⟨[[], [0], [0, 1], [], [3], [0, 1, 2, 3, 4], [0, 1, 2, 3, 4, 5], [], [0, 1, 2, 3, 4, 5, 6, 7]], [[3, 4, 7], [3, 4, 7], [3, 4, 7], [0, 1, 2, 7], [0, 1, 2, 7], [7], [7], [0, 1, 2, 3, 4, 5, 6], []], []⟩), (5, ⟨[[], [], [1], [0, 1, 2], [0, 1, 2, 3], [0, 1, 2, 3, 4], [0, 1, 2, 3, 4], [0, 1, 2, 3, 4, 5, 6], [0, 1, 2, 3, 4, 5, 6, 7], [0, 1, 2, 3, 4, 5, 6, 7, 8], [0, 1, 2, 3, 4], [0, 1, 2, 3, 4], [0, 1, 2, 3, 4, 10, 11], [0, 1, 2, 3, 4, 10, 11, 12], [0, 1, 2, 3, 4, 5, 6, 7, 8, 9, 10, 11, 12, 13], [0, 1, 2, 3, 4, 5, 6, 7, 8, 9, 10, 11, 12, 13, 14], [0, 1, 2, 3, 4, 5, 6, 7, 8, 9, 10, 11, 12, 13, 14, 15], [0, 1, 2, 3, 4, 5, 6, 7, 8, 9, 10, 11, 12, 13, 14, 15, 16], [0, 1, 2, 3, 4, 5, 6, 7, 8, 9, 10, 11, 12, 13, 14, 15, 16], [0, 1, 2, 3, 4, 5, 6, 7, 8, 9, 10, 11, 12, 13, 14, 15, 16], [0, 1, 2, 3, 4, 5, 6, 7, 8, 9, 10, 11, 12, 13, 14, 15, 16], [0, 1, 2, 3, 4, 5, 6, 7, 8, 9, 10, 11, 12, 13, 14, 15, 16, 19, 20], [0, 1, 2, 3, 4, 5, 6, 7, 8, 9, 10, 11, 12, 13, 14, 15, 16, 19, 20, 21], [0, 1, 2, 3, 4, 5, 6, 7, 8, 9, 10, 11, 12, 13, 14, 15, 16, 17, 18, 19, 20, 21, 22], [0, 1, 2, 3, 4, 5, 6, 7, 8, 9, 10, 11, 12, 13, 14, 15, 16, 17, 18, 19, 20, 21, 22, 23], [0, 1, 2, 3, 4, 5, 6, 7, 8, 9, 10, 11, 12, 13, 14, 15, 16, 17, 18, 19, 20, 21, 22, 23, 24]], [[1, 2], [0], [0], [], [], [6, 10, 11, 12, 13], [5, 10, 11, 12, 13], [10, 11, 12, 13], [10, 11, 12, 13], [10, 11, 12, 13], [5, 6, 7, 8, 9, 11], [5, 6, 7, 8, 9, 10], [5, 6, 7, 8, 9], [5, 6, 7, 8, 9], [], [], [], [18, 19, 20, 21, 22], [17, 19, 20, 21, 22], [17, 18, 20], [17, 18, 19], [17, 18], [17, 18], [], [], []], []⟩), (7, ⟨[[], [], [], [], [2, 3], [2, 3, 4], [0, 1, 2, 3, 4, 5], [0, 1, 2, 3, 4, 5, 6]], [[1, 2, 3, 4, 5], [0, 2, 3, 4, 5], [0, 1, 3], [0, 1, 2], [0, 1], [0, 1], [], []], []⟩)], []⟩) Try.func82 (by kernel_rfl) rfl rfl rfl tysOk.look eqTsOk.look (AllCs.ok (l := [(65, c_spec_l02Own), (95, c_spec_l04IsLegal), (96, c_spec_l04Apply)]) ⟨k_spec_l02Own, k_spec_l04IsLegal, k_spec_l04Apply, trivial⟩) mixed rfl rfl rfl rfl ?_
  refine of_nf (P := ∀ v : Int × Int × Int × Int, ∀ b : (List Int) × List Int, ∀ o : List Int, ∀ ss : List (Int × Int × Int × Bool), (okB v b) → ((lensI c_spec_l05Legal.ins (v, b, o, ss, ())) → ((List.length b.1 ≤ 1099511627776) ∧ ((List.length b.2 ≤ 1099511627776) ∧ (((o = o ∧ ss = ss ∧ v.1 = v.1 ∧ v.2.1 = v.2.1 ∧ v.2.2.1 = v.2.2.1 ∧ v.2.2.2 = v.2.2.2) ∧ ((okB v (b.1, b.2) ∧ followD v (List.drop (Int.toNat (0 : Int)) o) (List.drop (Int.toNat (0 : Int)) ss) (b.1, b.2) = followD v o ss b) ∧ 0 ≤ (0 : Int) ∧ (0 : Int) ≤ (List.length ss : Int))) ∧ (∀ i : Int, ∀ t2 : List Int, ∀ t3 : List (Int × Int × Int × Bool), ∀ t4_0 : Int, ∀ t4_1 : Int, ∀ t4_2 : Int, ∀ t4_3 : Int, ∀ z_0 : List Int, ∀ z_1 : List Int, ∀ c_0 : List Int, ∀ c_1 : List Int, ((o = t2 ∧ ss = t3 ∧ v.1 = t4_0 ∧ v.2.1 = t4_1 ∧ v.2.2.1 = t4_2 ∧ v.2.2.2 = t4_3) ∧ ((okB v (c_0, c_1) ∧ followD v (List.drop (Int.toNat i) o) (List.drop (Int.toNat i) ss) (c_0, c_1) = followD v o ss b) ∧ 0 ≤ i ∧ i ≤ (List.length ss : Int))) → (bsp (decide (i < (t3.length : Int))) (bsp (decide ((t2.length : Int) ≤ i)) (@Eq (HO c_spec_l05Legal.outs) (([], []), false, ()) (c_spec_l05Legal.out (v, b, o, ss, ()))) ((0 ≤ i ∧ i < (t3.length : Int)) ∧ ((i.toNat < t3.length) ∧ ((0 ≤ i ∧ i < (t2.length : Int)) ∧ ((i.toNat < t2.length) ∧ (bsp (decide ((t3.getD i.toNat (0, 0, 0, false)).2.2.1 ≠ (t2.getD i.toNat 0))) (@Eq (HO c_spec_l05Legal.outs) (([], []), false, ()) (c_spec_l05Legal.out (v, b, o, ss, ()))) ((0 ≤ i ∧ i < (t3.length : Int)) ∧ ((i.toNat < t3.length) ∧ ((okB (t4_0, t4_1, t4_2, t4_3) (c_0, c_1)) ∧ (bsp (!(legalB (t4_0, t4_1, t4_2, t4_3) (c_0, c_1) (t3.getD i.toNat (0, 0, 0, false)))) (@Eq (HO c_spec_l05Legal.outs) (([], []), false, ()) (c_spec_l05Legal.out (v, b, o, ss, ()))) ((0 ≤ i ∧ i < (t3.length : Int)) ∧ ((i.toNat < t3.length) ∧ ((okB (t4_0, t4_1, t4_2, t4_3) (c_0, c_1) ∧ stepIn (t4_0, t4_1, t4_2, t4_3) (t3.getD i.toNat (0, 0, 0, false))) ∧ ((inK .i64 (i + 1)) ∧ (((o = t2 ∧ ss = t3 ∧ v.1 = t4_0 ∧ v.2.1 = t4_1 ∧ v.2.2.1 = t4_2 ∧ v.2.2.2 = t4_3) ∧ ((okB v ((afterD (t4_0, t4_1, t4_2, t4_3) (c_0, c_1) (t3.getD i.toNat (0, 0, 0, false))).1, (afterD (t4_0, t4_1, t4_2, t4_3) (c_0, c_1) (t3.getD i.toNat (0, 0, 0, false))).2) ∧ followD v (List.drop (Int.toNat (i + 1)) o) (List.drop (Int.toNat (i + 1)) ss) ((afterD (t4_0, t4_1, t4_2, t4_3) (c_0, c_1) (t3.getD i.toNat (0, 0, 0, false))).1, (afterD (t4_0, t4_1, t4_2, t4_3) (c_0, c_1) (t3.getD i.toNat (0, 0, 0, false))).2) = followD v o ss b) ∧ 0 ≤ (i + 1) ∧ (i + 1) ≤ (List.length ss : Int))) ∧ ((Int.toNat ((List.length ss : Int) - (i + 1)) : Nat) < Int.toNat ((List.length ss : Int) - i))))))))))))))))) (@Eq (HO c_spec_l05Legal.outs) ((c_0, c_1), true, ()) (c_spec_l05Legal.out (v, b, o, ss, ())))))))))) (by kernel_rfl) ?_
  rintro v b o ss hb hl

  have out0 : ∀ x : Option DBoard, followD v o ss b = x → @Eq (HO c_spec_l05Legal.outs) (x.getD ([], []), x.isSome, ()) (c_spec_l05Legal.out (v, b, o, ss, ())) := fun x h => by subst h; rfl

  have hlen : ss.length ≤ 9223372036854775807 := hl.2.2.2.1.1
  have hne := okB_ne hb
  refine ⟨hne.1.2, hne.2.2, ⟨(by first | trivial | rfl | (and_intros <;> rfl)), ⟨hb, rfl⟩, by omega, by omega⟩, ?_⟩
  rintro i t2 t3 t4_0 t4_1 t4_2 t4_3 z_0 z_1 c_0 c_1 ⟨⟨rfl, rfl, rfl, rfl, rfl, rfl⟩, ⟨⟨hc, hf⟩, i0, i1⟩⟩
  simp only [Prod.eta]
  refine bspD (fun hlt => ?_) (fun hge => ?_)
  · obtain ⟨k, rfl⟩ : ∃ k : Nat, i = k := ⟨i.toNat, by omega⟩
    simp only [Int.toNat_natCast] at hf ⊢
    have h1 : k < ss.length := by omega
    refine bspD (fun hge => out0 none ?_) (fun hlo => ?_)
    · rw [← hf]; exact follow_out h1 (by omega)
    have h2 : k < o.length := by omega
    rw [follow_step h1 h2] at hf
    refine ⟨⟨by omega, by omega⟩, h1, ⟨by omega, by omega⟩, h2, bspD (fun hn => ?_) (fun hy => ⟨⟨by omega, by omega⟩, h1, hc, bspB (fun hn => ?_) (fun hy2 => ?_)⟩)⟩
    · rw [if_neg fun h => hn h.1] at hf; exact out0 none hf.symm
    · simp only [Bool.not_eq_true'] at hn
      rw [if_neg fun h => by rw [hn] at h; cases h.2] at hf; exact out0 none hf.symm
    · simp only [Bool.not_eq_false'] at hy2
      have hfit := legalB_fits hc hy2
      rw [if_pos ⟨by simpa using hy, hy2⟩] at hf
      refine ⟨⟨by omega, by omega⟩, h1, ⟨hc, hfit.1⟩, by simp only [inK]; omega, ⟨(by first | trivial | rfl | (and_intros <;> rfl)), ⟨okB_after hc hfit, ?_⟩, by omega, by omega⟩, by omega⟩
      rw [show ((k : Int) + 1).toNat = k + 1 by omega]; exact hf
  · have e0 : ss.drop i.toNat = [] := List.drop_eq_nil_of_le (by omega)
    rw [e0, follow_nil] at hf
    exact out0 (some (c_0, c_1)) hf.symm
def firstF (v : DVar) (b : DBoard) (ss : List DStep) (l : List (List Int)) : Option DBoard := l.findSome? fun o => followD v o ss b
def playO (v : DVar) (b : DBoard) (r : DRoll) (ss : List DStep) : Option DBoard :=
  if (ss.length : Int) ≠ usedD v b r then none else firstF v b ss (selD v b (usedD v b r) (ordersD r))
def playStepsD (v : DVar) (b : DBoard) (r : DRoll) (ss : List DStep) : DBoard × Int :=
  if codeD v b r ≠ 0 then (([], []), codeD v b r) else ((playO v b r ss).getD ([], []), if (playO v b r ss).isSome then 0 else 5)
theorem firstF_cons (v : DVar) (b : DBoard) (ss : List DStep) (o : List Int) (l : List (List Int)) : firstF v b ss (o :: l) = (match followD v o ss b with | some c => some c | none => firstF v b ss l) := by
  simp only [firstF, List.findSome?_cons]
  cases followD v o ss b <;> rfl
theorem legal_mem_R {v : DVar} {b : DBoard} {d : Int} {s : DStep} {f : Nat} (h : stepD v b f d = some s) : ∀ {k : Nat}, f < k → s ∈ legalR v b d k
  | k + 1, hk => by
    simp only [legalR, List.mem_append, Option.mem_toList]
    by_cases e : f = k
    · subst e; exact .inl h
    · exact .inr (legal_mem_R h (by omega))
theorem legalB_mem {v : DVar} {b : DBoard} {s : DStep} (h : legalB v b s = true) : s ∈ legalD v b s.2.2.1 := by
  simp only [legalB, Bool.and_eq_true, decide_eq_true_eq, inB_iff, Bool.not_eq_true'] at h
  obtain ⟨h0, _, h2, h3⟩ := h
  unfold legalD
  rw [h0, if_neg (by decide)]
  obtain ⟨k, hk⟩ : ∃ k : Nat, s.1 = k := ⟨s.1.toNat, by omega⟩
  rw [hk] at h3
  exact legal_mem_R h3 (by omega)
theorem addP_has (out : List DPlay) (p : DPlay) : ∃ q, q ∈ addP out p ∧ q.2 = p.2 := by
  unfold addP
  split
  · next h =>
    obtain ⟨q, h1, h2⟩ := List.any_eq_true.1 h
    exact ⟨q, h1, of_decide_eq_true h2⟩
  · exact ⟨p, by simp, rfl⟩
theorem addP_keep {out : List DPlay} {p q : DPlay} (h : q ∈ out) : q ∈ addP out p := by
  unfold addP; split
  · exact h
  · exact List.mem_append_left _ h
theorem foldl_keep : ∀ {l out : List DPlay} {q : DPlay}, q ∈ out → q ∈ l.foldl addP out
  | [], _, _, h => h
  | p :: l, _, _, h => foldl_keep (l := l) (addP_keep h)
theorem foldl_has : ∀ {l out : List DPlay} {p : DPlay}, p ∈ l → ∃ q, q ∈ l.foldl addP out ∧ q.2 = p.2
  | x :: l, out, p, h => by
    rcases List.mem_cons.1 h with rfl | h
    · obtain ⟨q, h1, h2⟩ := addP_has out p
      exact ⟨q, foldl_keep (l := l) h1, h2⟩
    · exact foldl_has (l := l) (out := addP out x) h
/-- steps that follow an order are no more than the dice that can be used -/
theorem follow_le {v : DVar} : ∀ {o : List Int} {ss : List DStep} {b c : DBoard} {ps : List DPlay}, (∃ p, p ∈ ps ∧ p.2 = b) → followD v o ss b = some c → ss.length ≤ (seqD v ps o).length
  | _, [], _, _, _, _, _ => by simp
  | [], _ :: _, _, _, _, _, h => by cases h
  | d :: ds, s :: ss, b, c, ps, ⟨p, hp, hb⟩, h => by
    simp only [followD] at h
    split at h
    · next hs =>
      obtain ⟨hd, hl⟩ := hs
      have hm := legalB_mem hl
      rw [hd] at hm
      have hx : (p.1 ++ [s], afterD v p.2 s) ∈ ps.flatMap (stepsOf v d) := List.mem_flatMap.2 ⟨p, hp, List.mem_map.2 ⟨s, by rw [hb]; exact hm, rfl⟩⟩
      obtain ⟨q, hq1, hq2⟩ := foldl_has (out := []) hx
      have hne : nextD v ps d ≠ [] := fun e => by unfold nextD at e; rw [e] at hq1; simp at hq1
      have := follow_le (ps := nextD v ps d) ⟨q, hq1, by rw [hq2, ← hb]⟩ h
      simp only [seqD, if_neg hne, List.length_cons]; omega
    · cases h
theorem follow_none {v : DVar} {b : DBoard} {o : List Int} {ss : List DStep} (h : seqN v b o < (ss.length : Int)) : followD v o ss b = none := by
  cases hf : followD v o ss b with
  | none => rfl
  | some c =>
    have := follow_le (ps := startP b) ⟨([], b), by simp [startP], rfl⟩ hf
    unfold seqN at h; omega
theorem firstF_filter {v : DVar} {b : DBoard} {r : DRoll} {ss : List DStep} (hn : (ss.length : Int) = usedD v b r) : ∀ (l : List (List Int)), (∀ o, o ∈ l → o ∈ ordersD r) → firstF v b ss l = firstF v b ss (l.filter fun o => decide (seqN v b o = usedD v b r))
  | [], _ => rfl
  | o :: l, h => by
    have ih := firstF_filter hn l fun x hx => h x (List.mem_cons_of_mem _ hx)
    have hle := seqN_le (v := v) (b := b) (h o (List.mem_cons_self ..))
    by_cases e : seqN v b o = usedD v b r
    · rw [List.filter_cons_of_pos (by simpa using e), firstF_cons, firstF_cons, ih]
    · rw [List.filter_cons_of_neg (by simpa using e), firstF_cons, follow_none (by omega)]
      exact ih
theorem seqN_pos {v : DVar} {b : DBoard} {d : Int} {ds : List Int} : 1 ≤ seqN v b (d :: ds) ↔ legalD v b d ≠ [] := by
  rw [Ne, ← nextD_start]
  unfold seqN
  simp only [seqD]
  split
  · next h => simp [h]
  · next h => simp only [List.length_cons, h, not_false_eq_true, iff_true]; omega
/-- the reference tries all orders, or the first alone: it comes to the same -/
theorem firstF_spec {v : DVar} {b : DBoard} {r : DRoll} {ss : List DStep} (hn : (ss.length : Int) = usedD v b r) : firstF v b ss (if usedD v b r = 1 ∧ (ordersD r).length = 2 ∧ legalD v b r.1 ≠ [] then (ordersD r).take 1 else ordersD r) = firstF v b ss (selD v b (usedD v b r) (ordersD r)) := by
  have hall := firstF_filter (v := v) (b := b) (r := r) hn (ordersD r) fun o h => h
  unfold selD
  by_cases h1 : usedD v b r = 1
  · rw [if_pos h1]
    unfold ordersD at hall ⊢
    by_cases hr : r.1 = r.2
    · rw [if_pos hr] at hall ⊢
      rw [if_neg (by simp), hall]
      by_cases e : seqN v b [r.1, r.1, r.1, r.1] = usedD v b r <;> simp [e]
    · rw [if_neg hr] at hall ⊢
      have hA := seqN_le (v := v) (b := b) (r := r) (o := [r.1, r.2]) (by unfold ordersD; rw [if_neg hr]; simp)
      have hp := seqN_pos (v := v) (b := b) (d := r.1) (ds := [r.2])
      by_cases hl : legalD v b r.1 = []
      · rw [if_neg (fun h => h.2.2 hl), hall]
        have : ¬ seqN v b [r.1, r.2] = usedD v b r := fun e => by have := hp.1 (by omega); exact this hl
        by_cases e : seqN v b [r.2, r.1] = usedD v b r <;> simp [e, this]
      · rw [if_pos ⟨h1, by simp, hl⟩]
        have : seqN v b [r.1, r.2] = usedD v b r := by have := hp.2 hl; omega
        simp [this]
  · rw [if_neg h1, if_neg (fun h => h1 h.1), hall]
def c_impl_playSteps : Con where
  ins := [(true, .v tVar), (true, .v tBoard), (true, .v tRoll), (false, .v (.sl tStep))]
  outs := [(true, .pr (.own 2 tI) (.own 2 tI)), (false, .v .b)]
  sh := false
  pre := fun x => okB x.1 x.2.1 ∧ rollD x.1 x.2.2.1 = true
  out := fun x => (Option.getD (playO x.1 x.2.1 x.2.2.1 x.2.2.2.1) ([], []), Option.isSome (playO x.1 x.2.1 x.2.2.1 x.2.2.2.1), ())
  upd := fun x => x
  eat := false
theorem k_impl_playSteps [B : Base] : ConOk Try.prog 47 c_impl_playSteps := by
  refine fn_okW (C := cx Try.prog 60 c_impl_playSteps) (cs := [(75, c_impl_sequences), (76, c_impl_used), (77, c_impl_ordersOf), (78, c_impl_followSteps)]) (res := Try.f47.results.toList) (fun x => ⟨[{ sh := ⟨[(3, .one (.ref 0)), (4, .one (.ref 1)), (5, .one (.ref 2)), (8, .one (.ref 3)), (10, .one (.ref 4)), (12, .one (.i .i64)), (32, .one (.ref 5)), (33, .one (.i .i64)), (34, .one (.i .i64))], [(0, .imm tStep false), (1, .box [.i .i64, .i .i64, .i .i64, .i .i64]), (2, .box [.ref 6, .ref 7]), (3, .box [.ref 8, .ref 9]), (4, .imm (.sl (.sl tPlay)) true), (5, .imm tSI true), (6, .imm tI false), (7, .imm tI false), (8, .own 2 tI true), (9, .own 2 tI true)]⟩, nx := 10, I := fun _ dat_ => (usedL (List.map (rowsD x.1 x.2.1) (ordersD x.2.2.1)) = dat_.1.2.2.2.2.2.1 ∧ ((ordersD x.2.2.1).length : Int) = dat_.1.2.2.2.2.2.2.2.1 ∧ x.2.2.2.1 = dat_.2.1 ∧ x.1.1 = dat_.2.2.1.1 ∧ x.1.2.1 = dat_.2.2.1.2.1 ∧ x.1.2.2.1 = dat_.2.2.1.2.2.1 ∧ x.1.2.2.2 = dat_.2.2.1.2.2.2.1 ∧ List.map (rowsD x.1 x.2.1) (ordersD x.2.2.1) = dat_.2.2.2.2.2.1 ∧ ordersD x.2.2.1 = dat_.2.2.2.2.2.2.1 ∧ x.2.1.1 = dat_.2.2.2.2.2.2.2.1 ∧ x.2.1.2 = dat_.2.2.2.2.2.2.2.2.1) ∧ (firstF x.1 x.2.1 x.2.2.2.1 (selD x.1 x.2.1 (usedD x.1 x.2.1 x.2.2.1) (List.drop (Int.toNat dat_.1.2.2.2.2.2.2.2.2.1) (ordersD x.2.2.1))) = firstF x.1 x.2.1 x.2.2.2.1 (selD x.1 x.2.1 (usedD x.1 x.2.1 x.2.2.1) (ordersD x.2.2.1)) ∧ 0 ≤ dat_.1.2.2.2.2.2.2.2.2.1 ∧ dat_.1.2.2.2.2.2.2.2.2.1 ≤ (List.length (ordersD x.2.2.1) : Int)), mu := fun dat_ => Int.toNat ((List.length (ordersD x.2.2.1) : Int) - dat_.1.2.2.2.2.2.2.2.2.1) }], [], []⟩) Try.func47 (by kernel_rfl) rfl rfl rfl tysOk.look eqTsOk.look (AllCs.ok (l := [(75, c_impl_sequences), (76, c_impl_used), (77, c_impl_ordersOf), (78, c_impl_followSteps)]) ⟨k_impl_sequences, k_impl_used, k_impl_ordersOf, k_impl_followSteps, trivial⟩) mixed rfl rfl rfl rfl ?_
  refine of_nf (P := ∀ v : Int × Int × Int × Int, ∀ b : (List Int) × List Int, ∀ r : Int × Int, ∀ ss : List (Int × Int × Int × Bool), (okB v b ∧ rollD v r = true) → ((lensI c_impl_playSteps.ins (v, b, r, ss, ())) → ((okB v b ∧ rollD v r = true) ∧ ((RowsBd (List.map (rowsD v b) (ordersD r))) ∧ (bsp (decide ((ss.length : Int) ≠ (usedL (List.map (rowsD v b) (ordersD r))))) (@Eq (HO c_impl_playSteps.outs) (([], []), false, ()) (c_impl_playSteps.out (v, b, r, ss, ()))) (True ∧ (((usedL (List.map (rowsD v b) (ordersD r)) = (usedL (List.map (rowsD v b) (ordersD r))) ∧ ((ordersD r).length : Int) = ((ordersD r).length : Int) ∧ ss = ss ∧ v.1 = v.1 ∧ v.2.1 = v.2.1 ∧ v.2.2.1 = v.2.2.1 ∧ v.2.2.2 = v.2.2.2 ∧ List.map (rowsD v b) (ordersD r) = (List.map (rowsD v b) (ordersD r)) ∧ ordersD r = (ordersD r) ∧ b.1 = b.1 ∧ b.2 = b.2) ∧ (firstF v b ss (selD v b (usedD v b r) (List.drop (Int.toNat (0 : Int)) (ordersD r))) = firstF v b ss (selD v b (usedD v b r) (ordersD r)) ∧ 0 ≤ (0 : Int) ∧ (0 : Int) ≤ (List.length (ordersD r) : Int))) ∧ (∀ n : Int, ∀ m : Int, ∀ i : Int, ∀ t3 : List (Int × Int × Int × Bool), ∀ t4_0 : Int, ∀ t4_1 : Int, ∀ t4_2 : Int, ∀ t4_3 : Int, ∀ rows : List (List (List ((List (Int × Int × Int × Bool)) × (List Int) × List Int))), ∀ orders : List (List Int), ∀ t5_0 : List Int, ∀ t5_1 : List Int, ∀ z_0 : List Int, ∀ z_1 : List Int, ((usedL (List.map (rowsD v b) (ordersD r)) = n ∧ ((ordersD r).length : Int) = m ∧ ss = t3 ∧ v.1 = t4_0 ∧ v.2.1 = t4_1 ∧ v.2.2.1 = t4_2 ∧ v.2.2.2 = t4_3 ∧ List.map (rowsD v b) (ordersD r) = rows ∧ ordersD r = orders ∧ b.1 = t5_0 ∧ b.2 = t5_1) ∧ (firstF v b ss (selD v b (usedD v b r) (List.drop (Int.toNat i) (ordersD r))) = firstF v b ss (selD v b (usedD v b r) (ordersD r)) ∧ 0 ≤ i ∧ i ≤ (List.length (ordersD r) : Int))) → (bsp (decide (i < m)) ((0 ≤ i ∧ i < (orders.length : Int)) ∧ ((i.toNat < orders.length) ∧ ((0 ≤ i ∧ i < (rows.length : Int)) ∧ ((i.toNat < rows.length) ∧ (bsp (decide (((rows.getD i.toNat []).length : Int) ≤ n)) ((inK .i64 (i + 1)) ∧ (((usedL (List.map (rowsD v b) (ordersD r)) = n ∧ ((ordersD r).length : Int) = m ∧ ss = t3 ∧ v.1 = t4_0 ∧ v.2.1 = t4_1 ∧ v.2.2.1 = t4_2 ∧ v.2.2.2 = t4_3 ∧ List.map (rowsD v b) (ordersD r) = rows ∧ ordersD r = orders ∧ b.1 = t5_0 ∧ b.2 = t5_1) ∧ (firstF v b ss (selD v b (usedD v b r) (List.drop (Int.toNat (i + 1)) (ordersD r))) = firstF v b ss (selD v b (usedD v b r) (ordersD r)) ∧ 0 ≤ (i + 1) ∧ (i + 1) ≤ (List.length (ordersD r) : Int))) ∧ ((Int.toNat ((List.length (ordersD r) : Int) - (i + 1)) : Nat) < Int.toNat ((List.length (ordersD r) : Int) - i)))) ((okB (t4_0, t4_1, t4_2, t4_3) (t5_0, t5_1)) ∧ (bsp (Option.isSome (followD (t4_0, t4_1, t4_2, t4_3) (orders.getD i.toNat []) t3 (t5_0, t5_1))) (@Eq (HO c_impl_playSteps.outs) ((Option.getD (followD (t4_0, t4_1, t4_2, t4_3) (orders.getD i.toNat []) t3 (t5_0, t5_1)) ([], [])), true, ()) (c_impl_playSteps.out (v, b, r, ss, ()))) (bsp (decide (n = (1 : Int))) (@Eq (HO c_impl_playSteps.outs) (([], []), false, ()) (c_impl_playSteps.out (v, b, r, ss, ()))) ((inK .i64 (i + 1)) ∧ (((usedL (List.map (rowsD v b) (ordersD r)) = n ∧ ((ordersD r).length : Int) = m ∧ ss = t3 ∧ v.1 = t4_0 ∧ v.2.1 = t4_1 ∧ v.2.2.1 = t4_2 ∧ v.2.2.2 = t4_3 ∧ List.map (rowsD v b) (ordersD r) = rows ∧ ordersD r = orders ∧ b.1 = t5_0 ∧ b.2 = t5_1) ∧ (firstF v b ss (selD v b (usedD v b r) (List.drop (Int.toNat (i + 1)) (ordersD r))) = firstF v b ss (selD v b (usedD v b r) (ordersD r)) ∧ 0 ≤ (i + 1) ∧ (i + 1) ≤ (List.length (ordersD r) : Int))) ∧ ((Int.toNat ((List.length (ordersD r) : Int) - (i + 1)) : Nat) < Int.toNat ((List.length (ordersD r) : Int) - i)))))))))))) (@Eq (HO c_impl_playSteps.outs) (([], []), false, ()) (c_impl_playSteps.out (v, b, r, ss, ())))))))))))) (by kernel_rfl) ?_
  rintro v b r ss ⟨hb, hr⟩ hl
  have out0 : ∀ x : Option DBoard, playO v b r ss = x → @Eq (HO c_impl_playSteps.outs) (x.getD ([], []), x.isSome, ()) (c_impl_playSteps.out (v, b, r, ss, ())) := fun x h => by subst h; rfl
  have hol := ordersD_len r
  have hu : usedL (List.map (rowsD v b) (ordersD r)) = usedD v b r := rfl
  have hub := usedD_bd (b := b) hr
  refine ⟨⟨hb, hr⟩, ⟨by simp; omega, fun x hx => by have := rows_bd hr x hx; omega⟩, ?_⟩
  simp only [hu, List.length_map]
  refine bspD (fun h => out0 none (if_pos h)) (fun h => ⟨trivial, ⟨(by first | trivial | rfl | (and_intros <;> rfl)), rfl, by omega, by omega⟩, ?_⟩)
  have hP : playO v b r ss = firstF v b ss (selD v b (usedD v b r) (ordersD r)) := if_neg h
  rw [hP] at out0
  rintro n m i t3 t4_0 t4_1 t4_2 t4_3 rows orders t5_0 t5_1 z_0 z_1 ⟨⟨rfl, rfl, rfl, rfl, rfl, rfl, rfl, rfl, rfl, rfl, rfl⟩, ⟨hf, i0, i1⟩⟩
  simp only [Prod.eta]
  refine bspD (fun hlt => ?_) (fun hge => ?_)
  · obtain ⟨a, rfl⟩ : ∃ a : Nat, i = a := ⟨i.toNat, by omega⟩
    have ha : a < (ordersD r).length := by omega
    simp only [Int.toNat_natCast] at hf ⊢
    have e1 : (List.map (rowsD v b) (ordersD r)).getD a [] = rowsD v b ((ordersD r).getD a []) := by simp [List.getD_eq_getElem?_getD, ha]
    have hmem := getD_mem ha []
    have hle := seqN_le (v := v) (b := b) hmem
    have hlen : (((List.map (rowsD v b) (ordersD r)).getD a []).length : Int) = seqN v b ((ordersD r).getD a []) + 1 := by rw [e1]; simp [rowsD, seqN]
    have e3 : ((a : Int) + 1).toNat = a + 1 := by omega
    rw [drop_cons ha []] at hf
    refine ⟨⟨by omega, by omega⟩, ha, ⟨by omega, by simp; omega⟩, by simp; omega, bspD (fun hno => ?_) (fun hyes => ?_)⟩
    · rw [selD_cons_no (by omega)] at hf
      exact ⟨by simp only [inK]; omega, ⟨(by first | trivial | rfl | (and_intros <;> rfl)), by rw [e3]; exact hf, by omega, by omega⟩, by omega⟩
    · have hsq : seqN v b ((ordersD r).getD a []) = usedD v b r := by omega
      refine ⟨hb, bspB (fun hy => ?_) (fun hn => ?_)⟩
      · obtain ⟨c, hc⟩ := Option.isSome_iff_exists.1 hy
        rw [hc]
        refine out0 (some c) ?_
        rw [← hf]
        by_cases h1 : usedD v b r = 1
        · rw [h1, selD_cons_one (by omega), firstF_cons, hc]
        · rw [selD_cons_yes hsq h1, firstF_cons, hc]
      · have hc : followD v ((ordersD r).getD a []) ss b = none := by simpa using hn
        refine bspD (fun h1 => out0 none ?_) (fun h1 => ⟨by simp only [inK]; omega, ⟨(by first | trivial | rfl | (and_intros <;> rfl)), ?_, by omega, by omega⟩, by omega⟩)
        · rw [← hf, h1, selD_cons_one (by omega), firstF_cons, hc]; rfl
        · rw [selD_cons_yes hsq h1, firstF_cons, hc] at hf; rw [e3]; exact hf
  · rw [List.drop_eq_nil_of_le (by omega), selD_nil] at hf
    exact out0 none hf.symm
def c_impl_PlaySteps : Con where
  ins := [(true, .v tVar), (true, .v tBoard), (true, .v tRoll), (false, .v (.sl tStep))]
  outs := [(true, .pr (.own 2 tI) (.own 2 tI)), (false, .v tI)]
  sh := false
  pre := fun _ => True
  out := fun x => ((playStepsD x.1 x.2.1 x.2.2.1 x.2.2.2.1).1, (playStepsD x.1 x.2.1 x.2.2.1 x.2.2.2.1).2, ())
  upd := fun x => x
  eat := false
theorem k_impl_PlaySteps [B : Base] : ConOk Try.prog 19 c_impl_PlaySteps := by
  refine fn_okW (C := cx Try.prog 33 c_impl_PlaySteps) (cs := [(51, c_impl_checkRoll), (47, c_impl_playSteps)]) (res := Try.f19.results.toList) (fun _ => ⟨[], [], []⟩) Try.func19 (by kernel_rfl) rfl rfl rfl tysOk.look eqTsOk.look (AllCs.ok (l := [(51, c_impl_checkRoll), (47, c_impl_playSteps)]) ⟨k_impl_checkRoll, k_impl_playSteps, trivial⟩) mixed rfl rfl rfl rfl ?_
  refine of_nf (P := ∀ v : Int × Int × Int × Int, ∀ b : (List Int) × List Int, ∀ r : Int × Int, ∀ ss : List (Int × Int × Int × Bool), (True) → ((lensI c_impl_PlaySteps.ins (v, b, r, ss, ())) → (True ∧ (bsp (decide ((codeD v b r) ≠ (0 : Int))) (@Eq (HO c_impl_PlaySteps.outs) (([], []), codeD v b r, ()) (c_impl_PlaySteps.out (v, b, r, ss, ()))) ((okB v b ∧ rollD v r = true) ∧ (bsp (!(Option.isSome (playO v b r ss))) (@Eq (HO c_impl_PlaySteps.outs) (([], []), 5, ()) (c_impl_PlaySteps.out (v, b, r, ss, ()))) (@Eq (HO c_impl_PlaySteps.outs) ((Option.getD (playO v b r ss) ([], [])), 0, ()) (c_impl_PlaySteps.out (v, b, r, ss, ()))))))))) (by kernel_rfl) ?_
  rintro v b r ss hp hl
  refine ⟨trivial, bspD (fun h => ?_) (fun h => ?_)⟩
  · simp only [c_impl_PlaySteps, playStepsD, if_pos h]
  · refine ⟨codeD_ok (by simpa using h), bspB (fun g => ?_) (fun g => ?_)⟩
    · have hn : playO v b r ss = none := by simpa using g
      simp only [c_impl_PlaySteps, playStepsD, if_neg h, hn]; rfl
    · simp only [Bool.not_eq_false'] at g
      simp only [c_impl_PlaySteps, playStepsD, if_neg h, g, if_true]
def c_spec_PlaySteps : Con where
  ins := [(true, .v tVar), (true, .v tBoard), (true, .v tRoll), (false, .v (.sl tStep))]
  outs := [(true, .pr (.own 2 tI) (.own 2 tI)), (false, .v tI)]
  sh := false
  pre := fun _ => True
  out := fun x => ((playStepsD x.1 x.2.1 x.2.2.1 x.2.2.2.1).1, (playStepsD x.1 x.2.1 x.2.2.1 x.2.2.2.1).2, ())
  upd := fun x => x
  eat := false
theorem k_spec_PlaySteps [B : Base] : ConOk Try.prog 49 c_spec_PlaySteps := by
  refine fn_okW (C := cx Try.prog 73 c_spec_PlaySteps) (cs := [(71, c_spec_l05Code), (79, c_spec_l05Used), (80, c_spec_l05Orders), (81, c_spec_l04Legal), (82, c_spec_l05Legal)]) (res := Try.f49.results.toList) (fun x => ⟨[{ sh := ⟨[(3, .one (.ref 0)), (4, .one (.ref 1)), (5, .one (.ref 2)), (8, .one (.ref 3)), (12, .one (.ref 4)), (13, .one (.i .i64))], [(0, .imm tStep false), (1, .box [.i .i64, .i .i64, .i .i64, .i .i64]), (2, .box [.ref 5, .ref 6]), (3, .box [.ref 7, .ref 8]), (4, .imm tSI true), (5, .imm tI false), (6, .imm tI false), (7, .own 2 tI true), (8, .own 2 tI true)]⟩, nx := 9, I := fun _ dat_ => (x.2.2.2.1 = dat_.2.1 ∧ x.1.1 = dat_.2.2.1.1 ∧ x.1.2.1 = dat_.2.2.1.2.1 ∧ x.1.2.2.1 = dat_.2.2.1.2.2.1 ∧ x.1.2.2.2 = dat_.2.2.1.2.2.2.1 ∧ x.2.1.1 = dat_.2.2.2.2.2.2.1 ∧ x.2.1.2 = dat_.2.2.2.2.2.2.2.1) ∧ (((firstF x.1 x.2.1 x.2.2.2.1 (List.drop (Int.toNat dat_.1.2.2.2.2.2.1) dat_.2.2.2.2.2.1) = playO x.1 x.2.1 x.2.2.1 x.2.2.2.1 ∧ codeD x.1 x.2.1 x.2.2.1 = 0) ∧ List.length dat_.2.2.2.2.2.1 ≤ 2) ∧ 0 ≤ dat_.1.2.2.2.2.2.1 ∧ dat_.1.2.2.2.2.2.1 ≤ (List.length dat_.2.2.2.2.2.1 : Int)), mu := fun dat_ => Int.toNat ((List.length dat_.2.2.2.2.2.1 : Int) - dat_.1.2.2.2.2.2.1) }], [(13, ⟨[[], [], [], [], [2, 3], [2, 3, 4], [], [0, 1, 2, 3, 4, 5, 6], [0, 1, 2, 3, 4, 5, 6, 7], [0, 1, 2, 3, 4, 5, 6, 7, 8], [0, 1, 2, 3, 4, 5, 6, 7, 8], [], [0, 1, 2, 3, 4, 5, 6, 7, 8, 9, 11], [0, 1, 2, 3, 4, 5, 6, 7, 8, 9, 10, 11, 12]], [[1, 2, 3, 4, 5, 6, 11], [0, 2, 3, 4, 5, 6, 11], [0, 1, 3, 6, 11], [0, 1, 2, 6, 11], [0, 1, 6, 11], [0, 1, 6, 11], [0, 1, 2, 3, 4, 5, 11], [11], [11], [10, 11], [9, 11, 12], [0, 1, 2, 3, 4, 5, 6, 7, 8, 9, 10], [10], []], []⟩)], [(10, { sh := ⟨[(3, .one (.ref 0)), (4, .one (.ref 1)), (5, .one (.ref 2)), (8, .one (.ref 3)), (12, .one (.ref 4))], [(0, .imm tStep false), (1, .box [.i .i64, .i .i64, .i .i64, .i .i64]), (2, .box [.ref 5, .ref 6]), (3, .box [.ref 7, .ref 8]), (4, .imm tSI true), (5, .imm tI false), (6, .imm tI false), (7, .own 2 tI true), (8, .own 2 tI true)]⟩, nx := 9, I := fun _ dat_ => (x.2.2.2.1 = dat_.2.1 ∧ x.1.1 = dat_.2.2.1.1 ∧ x.1.2.1 = dat_.2.2.1.2.1 ∧ x.1.2.2.1 = dat_.2.2.1.2.2.1 ∧ x.1.2.2.2 = dat_.2.2.1.2.2.2.1 ∧ x.2.1.1 = dat_.2.2.2.2.2.2.1 ∧ x.2.1.2 = dat_.2.2.2.2.2.2.2.1) ∧ ((firstF x.1 x.2.1 x.2.2.2.1 dat_.2.2.2.2.2.1 = playO x.1 x.2.1 x.2.2.1 x.2.2.2.1 ∧ codeD x.1 x.2.1 x.2.2.1 = 0) ∧ List.length dat_.2.2.2.2.2.1 ≤ 2), mu := fun dat_ => 0 })]⟩) Try.func49 (by kernel_rfl) rfl rfl rfl tysOk.look eqTsOk.look (AllCs.ok (l := [(71, c_spec_l05Code), (79, c_spec_l05Used), (80, c_spec_l05Orders), (81, c_spec_l04Legal), (82, c_spec_l05Legal)]) ⟨k_spec_l05Code, k_spec_l05Used, k_spec_l05Orders, k_spec_l04Legal, k_spec_l05Legal, trivial⟩) mixed rfl rfl rfl rfl ?_
  refine of_nf (P := ∀ v : Int × Int × Int × Int, ∀ b : (List Int) × List Int, ∀ r : Int × Int, ∀ ss : List (Int × Int × Int × Bool), (True) → ((lensI c_spec_PlaySteps.ins (v, b, r, ss, ())) → (True ∧ (bsp (decide ((codeD v b r) ≠ (0 : Int))) (@Eq (HO c_spec_PlaySteps.outs) (([], []), codeD v b r, ()) (c_spec_PlaySteps.out (v, b, r, ss, ()))) ((okB v b ∧ rollD v r = true) ∧ (bsp (decide ((ss.length : Int) ≠ (usedD v b r))) (@Eq (HO c_spec_PlaySteps.outs) (([], []), 5, ()) (c_spec_PlaySteps.out (v, b, r, ss, ()))) (True ∧ ((bsp (decide ((usedD v b r) = (1 : Int))) (bsp (decide (((ordersD r).length : Int) = (2 : Int))) ((okB v b ∧ 1 ≤ r.1 ∧ r.1 ≤ 6) ∧ (bsp (decide ((0 : Int) < ((legalD v b r.1).length : Int))) ((0 ≤ (0 : Int) ∧ (0 : Int) ≤ 1 ∧ (1 : Int) ≤ ((ordersD r).length : Int) ∧ ((ordersD r).length : Int) ≤ ((ordersD r).length : Int)) ∧ ((ss = ss ∧ v.1 = v.1 ∧ v.2.1 = v.2.1 ∧ v.2.2.1 = v.2.2.1 ∧ v.2.2.2 = v.2.2.2 ∧ b.1 = b.1 ∧ b.2 = b.2) ∧ ((firstF v b ss (((ordersD r).take 1).drop 0) = playO v b r ss ∧ codeD v b r = 0) ∧ List.length (((ordersD r).take 1).drop 0) ≤ 2))) ((ss = ss ∧ v.1 = v.1 ∧ v.2.1 = v.2.1 ∧ v.2.2.1 = v.2.2.1 ∧ v.2.2.2 = v.2.2.2 ∧ b.1 = b.1 ∧ b.2 = b.2) ∧ ((firstF v b ss (ordersD r) = playO v b r ss ∧ codeD v b r = 0) ∧ List.length (ordersD r) ≤ 2)))) ((ss = ss ∧ v.1 = v.1 ∧ v.2.1 = v.2.1 ∧ v.2.2.1 = v.2.2.1 ∧ v.2.2.2 = v.2.2.2 ∧ b.1 = b.1 ∧ b.2 = b.2) ∧ ((firstF v b ss (ordersD r) = playO v b r ss ∧ codeD v b r = 0) ∧ List.length (ordersD r) ≤ 2))) ((ss = ss ∧ v.1 = v.1 ∧ v.2.1 = v.2.1 ∧ v.2.2.1 = v.2.2.1 ∧ v.2.2.2 = v.2.2.2 ∧ b.1 = b.1 ∧ b.2 = b.2) ∧ ((firstF v b ss (ordersD r) = playO v b r ss ∧ codeD v b r = 0) ∧ List.length (ordersD r) ≤ 2))) ∧ (∀ t3 : List (Int × Int × Int × Bool), ∀ t4_0 : Int, ∀ t4_1 : Int, ∀ t4_2 : Int, ∀ t4_3 : Int, ∀ orders : List (List Int), ∀ t5_0 : List Int, ∀ t5_1 : List Int, ∀ z_0 : List Int, ∀ z_1 : List Int, ((ss = t3 ∧ v.1 = t4_0 ∧ v.2.1 = t4_1 ∧ v.2.2.1 = t4_2 ∧ v.2.2.2 = t4_3 ∧ b.1 = t5_0 ∧ b.2 = t5_1) ∧ ((firstF v b ss orders = playO v b r ss ∧ codeD v b r = 0) ∧ List.length orders ≤ 2)) → (((ss = t3 ∧ v.1 = t4_0 ∧ v.2.1 = t4_1 ∧ v.2.2.1 = t4_2 ∧ v.2.2.2 = t4_3 ∧ b.1 = t5_0 ∧ b.2 = t5_1) ∧ (((firstF v b ss (List.drop (Int.toNat (0 : Int)) orders) = playO v b r ss ∧ codeD v b r = 0) ∧ List.length orders ≤ 2) ∧ 0 ≤ (0 : Int) ∧ (0 : Int) ≤ (List.length orders : Int))) ∧ (∀ i : Int, ∀ t3x1 : List (Int × Int × Int × Bool), ∀ t4_0x1 : Int, ∀ t4_1x1 : Int, ∀ t4_2x1 : Int, ∀ t4_3x1 : Int, ∀ orders_1 : List (List Int), ∀ t5_0x1 : List Int, ∀ t5_1x1 : List Int, ∀ z_0x1 : List Int, ∀ z_1x1 : List Int, ((ss = t3x1 ∧ v.1 = t4_0x1 ∧ v.2.1 = t4_1x1 ∧ v.2.2.1 = t4_2x1 ∧ v.2.2.2 = t4_3x1 ∧ b.1 = t5_0x1 ∧ b.2 = t5_1x1) ∧ (((firstF v b ss (List.drop (Int.toNat i) orders_1) = playO v b r ss ∧ codeD v b r = 0) ∧ List.length orders_1 ≤ 2) ∧ 0 ≤ i ∧ i ≤ (List.length orders_1 : Int))) → (bsp (decide (i < (orders_1.length : Int))) ((0 ≤ i ∧ i < (orders_1.length : Int)) ∧ ((i.toNat < orders_1.length) ∧ ((okB (t4_0x1, t4_1x1, t4_2x1, t4_3x1) (t5_0x1, t5_1x1)) ∧ (bsp (Option.isSome (followD (t4_0x1, t4_1x1, t4_2x1, t4_3x1) (orders_1.getD i.toNat []) t3x1 (t5_0x1, t5_1x1))) (@Eq (HO c_spec_PlaySteps.outs) ((Option.getD (followD (t4_0x1, t4_1x1, t4_2x1, t4_3x1) (orders_1.getD i.toNat []) t3x1 (t5_0x1, t5_1x1)) ([], [])), 0, ()) (c_spec_PlaySteps.out (v, b, r, ss, ()))) ((inK .i64 (i + 1)) ∧ (((ss = t3x1 ∧ v.1 = t4_0x1 ∧ v.2.1 = t4_1x1 ∧ v.2.2.1 = t4_2x1 ∧ v.2.2.2 = t4_3x1 ∧ b.1 = t5_0x1 ∧ b.2 = t5_1x1) ∧ (((firstF v b ss (List.drop (Int.toNat (i + 1)) orders_1) = playO v b r ss ∧ codeD v b r = 0) ∧ List.length orders_1 ≤ 2) ∧ 0 ≤ (i + 1) ∧ (i + 1) ≤ (List.length orders_1 : Int))) ∧ ((Int.toNat ((List.length orders_1 : Int) - (i + 1)) : Nat) < Int.toNat ((List.length orders_1 : Int) - i)))))))) (@Eq (HO c_spec_PlaySteps.outs) (([], []), 5, ()) (c_spec_PlaySteps.out (v, b, r, ss, ()))))))))))))))) (by kernel_rfl) ?_
  rintro v b r ss hp hl
  refine ⟨trivial, bspD (fun h => ?_) (fun h => ?_)⟩
  · simp only [c_spec_PlaySteps, playStepsD, if_pos h]
  have h0 : codeD v b r = 0 := by simpa using h
  obtain ⟨hb, hr⟩ := codeD_ok h0
  have hol := ordersD_len r
  have hdi := (rollD_facts hr).1
  have bad : playO v b r ss = none → @Eq (HO c_spec_PlaySteps.outs) (([], []), 5, ()) (c_spec_PlaySteps.out (v, b, r, ss, ())) := fun e => by
    simp only [c_spec_PlaySteps, playStepsD, if_neg h, e]; rfl
  refine ⟨⟨hb, hr⟩, bspD (fun g => bad (if_pos g)) (fun g => ⟨trivial, ?_, ?_⟩)⟩
  · have hn : (ss.length : Int) = usedD v b r := by simpa using g
    have hP : playO v b r ss = firstF v b ss (selD v b (usedD v b r) (ordersD r)) := if_neg g
    have hS := firstF_spec (v := v) (b := b) (r := r) hn
    rw [← hP] at hS
    refine bspD (fun h1 => bspD (fun h2 => ⟨⟨hb, hdi⟩, bspD (fun h3 => ?_) (fun h3 => ?_)⟩) (fun h2 => ?_)) (fun h1 => ?_)
    · have hne : legalD v b r.1 ≠ [] := fun e => by rw [e] at h3; simp at h3
      rw [if_pos ⟨h1, by omega, hne⟩] at hS
      exact ⟨by omega, (by first | trivial | rfl | (and_intros <;> rfl)), ⟨by rw [List.drop_zero]; exact hS, h0⟩, by simp; omega⟩
    · rw [if_neg fun hh => h3 (by have := List.length_pos_iff.2 hh.2.2; omega)] at hS
      exact ⟨(by first | trivial | rfl | (and_intros <;> rfl)), ⟨hS, h0⟩, hol⟩
    · rw [if_neg fun hh => h2 (by omega)] at hS
      exact ⟨(by first | trivial | rfl | (and_intros <;> rfl)), ⟨hS, h0⟩, hol⟩
    · rw [if_neg fun hh => h1 hh.1] at hS
      exact ⟨(by first | trivial | rfl | (and_intros <;> rfl)), ⟨hS, h0⟩, hol⟩
  · skip
    rintro t3 t4_0 t4_1 t4_2 t4_3 orders t5_0 t5_1 z_0 z_1 ⟨⟨rfl, rfl, rfl, rfl, rfl, rfl, rfl⟩, ⟨⟨hf, hc0⟩, hl2⟩⟩
    refine ⟨⟨(by first | trivial | rfl | (and_intros <;> rfl)), ⟨⟨by simpa using hf, hc0⟩, hl2⟩, by omega, by omega⟩, ?_⟩
    rintro i t3x1 t4_0x1 t4_1x1 t4_2x1 t4_3x1 orders_1 t5_0x1 t5_1x1 z_0x1 z_1x1 ⟨⟨rfl, rfl, rfl, rfl, rfl, rfl, rfl⟩, ⟨⟨⟨hf1, hc1⟩, hl3⟩, i0, i1⟩⟩
    simp only [Prod.eta]
    refine bspD (fun hlt => ?_) (fun hge => ?_)
    · obtain ⟨a, rfl⟩ : ∃ a : Nat, i = a := ⟨i.toNat, by omega⟩
      have ha : a < orders_1.length := by omega
      simp only [Int.toNat_natCast] at hf1 ⊢
      rw [drop_cons ha [], firstF_cons] at hf1
      refine ⟨⟨by omega, by omega⟩, ha, hb, bspB (fun hy => ?_) (fun hn => ⟨by simp only [inK]; omega, ⟨(by first | trivial | rfl | (and_intros <;> rfl)), ⟨⟨?_, hc1⟩, hl3⟩, by omega, by omega⟩, by omega⟩)⟩
      · obtain ⟨c, hc⟩ := Option.isSome_iff_exists.1 hy
        rw [hc] at hf1 ⊢
        simp only [c_spec_PlaySteps, playStepsD, if_neg h, ← hf1]; rfl
      · have hc : followD v (orders_1.getD a []) ss b = none := by simpa using hn
        rw [hc] at hf1
        rw [show ((a : Int) + 1).toNat = a + 1 by omega]; exact hf1
    · rw [List.drop_eq_nil_of_le (by omega)] at hf1
      exact bad hf1.symm
end Go.Proofs.Ytlnagcdnnaffgaa
