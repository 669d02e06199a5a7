/-
  The program's plays, with boards whose slices are twins.
-/
import Derived.Test.YtgbfcjnkohhfoaaVForce
import Derived.Test.YtgbfcjnkohhfoaaTwD
namespace Go.Proofs.Ytgbfcjnkohhfoaa
open Go.RowKit
set_option linter.unusedSimpArgs false
set_option linter.unusedVariables false
def c_impl_afterStepB : Con where
  ins := [(true, .v tVar), (true, .v tBoardB), (true, .v tStep)]
  outs := [(true, .tw (.own 2 tI) (.own 2 tI))]
  sh := false
  pre := fun x => okB x.1 x.2.1 ∧ stepIn x.1 x.2.2.1
  out := fun x => (afterD x.1 x.2.1 x.2.2.1, ())
  upd := fun x => x
  eat := false
theorem k_impl_afterStepB [B : Base] : ConOk Try.prog 101 c_impl_afterStepB := by
  refine fn_okW (C := cxb Try.prog 52 c_impl_afterStepB) (cs := [(57, c_impl_cloneBoardB)]) (res := Try.f101.results.toList) (fun _ => ⟨[], [], []⟩) Try.func101 (by kernel_rfl) rfl rfl rfl tysBOk.look eqTsOk.look (AllCs.okb (l := [(57, c_impl_cloneBoardB)]) ⟨k_impl_cloneBoardB, trivial⟩) mixed rfl rfl rfl rfl ?_
  refine of_nf (P := ∀ v : Int × Int × Int × Int, ∀ b : (List Int) × List Int, ∀ s : Int × Int × Int × Bool, (okB v b ∧ stepIn v s) → ((lensI c_impl_afterStepB.ins (v, b, s, ())) → ((NeB b) ∧ ((0 ≤ s.1 ∧ s.1 < (b.1.length : Int)) ∧ ((s.1.toNat < b.1.length) ∧ ((inK .i64 ((b.1.getD s.1.toNat 0) - 1)) ∧ ((0 ≤ s.1 ∧ s.1 < (b.1.length : Int)) ∧ ((s.1.toNat < b.1.length) ∧ (bsp (decide ((0 : Int) ≤ s.2.1)) ((0 ≤ s.2.1 ∧ s.2.1 < ((b.1.set s.1.toNat ((b.1.getD s.1.toNat 0) - 1)).length : Int)) ∧ ((s.2.1.toNat < (b.1.set s.1.toNat ((b.1.getD s.1.toNat 0) - 1)).length) ∧ ((inK .i64 (((b.1.set s.1.toNat ((b.1.getD s.1.toNat 0) - 1)).getD s.2.1.toNat 0) + 1)) ∧ ((0 ≤ s.2.1 ∧ s.2.1 < ((b.1.set s.1.toNat ((b.1.getD s.1.toNat 0) - 1)).length : Int)) ∧ ((s.2.1.toNat < (b.1.set s.1.toNat ((b.1.getD s.1.toNat 0) - 1)).length) ∧ (bsp s.2.2.2 ((inK .i64 (v.1 - 1)) ∧ ((inK .i64 ((v.1 - 1) - s.2.1)) ∧ ((0 ≤ ((v.1 - 1) - s.2.1) ∧ ((v.1 - 1) - s.2.1) < (b.2.length : Int)) ∧ ((((v.1 - 1) - s.2.1).toNat < b.2.length) ∧ ((inK .i64 ((b.2.getD ((v.1 - 1) - s.2.1).toNat 0) - 1)) ∧ ((0 ≤ ((v.1 - 1) - s.2.1) ∧ ((v.1 - 1) - s.2.1) < (b.2.length : Int)) ∧ ((((v.1 - 1) - s.2.1).toNat < b.2.length) ∧ ((0 ≤ v.1 ∧ v.1 < ((b.2.set ((v.1 - 1) - s.2.1).toNat ((b.2.getD ((v.1 - 1) - s.2.1).toNat 0) - 1)).length : Int)) ∧ ((v.1.toNat < (b.2.set ((v.1 - 1) - s.2.1).toNat ((b.2.getD ((v.1 - 1) - s.2.1).toNat 0) - 1)).length) ∧ ((inK .i64 (((b.2.set ((v.1 - 1) - s.2.1).toNat ((b.2.getD ((v.1 - 1) - s.2.1).toNat 0) - 1)).getD v.1.toNat 0) + 1)) ∧ ((0 ≤ v.1 ∧ v.1 < ((b.2.set ((v.1 - 1) - s.2.1).toNat ((b.2.getD ((v.1 - 1) - s.2.1).toNat 0) - 1)).length : Int)) ∧ ((v.1.toNat < (b.2.set ((v.1 - 1) - s.2.1).toNat ((b.2.getD ((v.1 - 1) - s.2.1).toNat 0) - 1)).length) ∧ (@Eq (HO c_impl_afterStepB.outs) (((b.1.set s.1.toNat ((b.1.getD s.1.toNat 0) - 1)).set s.2.1.toNat (((b.1.set s.1.toNat ((b.1.getD s.1.toNat 0) - 1)).getD s.2.1.toNat 0) + 1), (b.2.set ((v.1 - 1) - s.2.1).toNat ((b.2.getD ((v.1 - 1) - s.2.1).toNat 0) - 1)).set v.1.toNat (((b.2.set ((v.1 - 1) - s.2.1).toNat ((b.2.getD ((v.1 - 1) - s.2.1).toNat 0) - 1)).getD v.1.toNat 0) + 1)), ()) (c_impl_afterStepB.out (v, b, s, ()))))))))))))))) (@Eq (HO c_impl_afterStepB.outs) (((b.1.set s.1.toNat ((b.1.getD s.1.toNat 0) - 1)).set s.2.1.toNat (((b.1.set s.1.toNat ((b.1.getD s.1.toNat 0) - 1)).getD s.2.1.toNat 0) + 1), b.2), ()) (c_impl_afterStepB.out (v, b, s, ()))))))))) (bsp s.2.2.2 ((inK .i64 (v.1 - 1)) ∧ ((inK .i64 ((v.1 - 1) - s.2.1)) ∧ ((0 ≤ ((v.1 - 1) - s.2.1) ∧ ((v.1 - 1) - s.2.1) < (b.2.length : Int)) ∧ ((((v.1 - 1) - s.2.1).toNat < b.2.length) ∧ ((inK .i64 ((b.2.getD ((v.1 - 1) - s.2.1).toNat 0) - 1)) ∧ ((0 ≤ ((v.1 - 1) - s.2.1) ∧ ((v.1 - 1) - s.2.1) < (b.2.length : Int)) ∧ ((((v.1 - 1) - s.2.1).toNat < b.2.length) ∧ ((0 ≤ v.1 ∧ v.1 < ((b.2.set ((v.1 - 1) - s.2.1).toNat ((b.2.getD ((v.1 - 1) - s.2.1).toNat 0) - 1)).length : Int)) ∧ ((v.1.toNat < (b.2.set ((v.1 - 1) - s.2.1).toNat ((b.2.getD ((v.1 - 1) - s.2.1).toNat 0) - 1)).length) ∧ ((inK .i64 (((b.2.set ((v.1 - 1) - s.2.1).toNat ((b.2.getD ((v.1 - 1) - s.2.1).toNat 0) - 1)).getD v.1.toNat 0) + 1)) ∧ ((0 ≤ v.1 ∧ v.1 < ((b.2.set ((v.1 - 1) - s.2.1).toNat ((b.2.getD ((v.1 - 1) - s.2.1).toNat 0) - 1)).length : Int)) ∧ ((v.1.toNat < (b.2.set ((v.1 - 1) - s.2.1).toNat ((b.2.getD ((v.1 - 1) - s.2.1).toNat 0) - 1)).length) ∧ (@Eq (HO c_impl_afterStepB.outs) ((b.1.set s.1.toNat ((b.1.getD s.1.toNat 0) - 1), (b.2.set ((v.1 - 1) - s.2.1).toNat ((b.2.getD ((v.1 - 1) - s.2.1).toNat 0) - 1)).set v.1.toNat (((b.2.set ((v.1 - 1) - s.2.1).toNat ((b.2.getD ((v.1 - 1) - s.2.1).toNat 0) - 1)).getD v.1.toNat 0) + 1)), ()) (c_impl_afterStepB.out (v, b, s, ()))))))))))))))) (@Eq (HO c_impl_afterStepB.outs) ((b.1.set s.1.toNat ((b.1.getD s.1.toNat 0) - 1), b.2), ()) (c_impl_afterStepB.out (v, b, s, ()))))))))))))) (by kernel_rfl) ?_
  rintro v b s ⟨hb, h0, h1, h2⟩ hl
  obtain ⟨b1, b2, l1, l2, v1, v2, v3, v4, v5, v6⟩ := hb.facts
  have hne : NeB b := ⟨⟨fun e => by rw [e] at l1; simp at l1; omega, by omega⟩, fun e => by rw [e] at l2; simp at l2; omega, by omega⟩
  have p1 : ∀ k, -1 ≤ (b.1.set s.1.toNat (b.1.getD s.1.toNat 0 - 1)).getD k 0 ∧ (b.1.set s.1.toNat (b.1.getD s.1.toNat 0 - 1)).getD k 0 ≤ 15 := fun k => by
    have := b1.at k; have := b1.at s.1.toNat
    rw [getD_set]; split <;> omega
  have p2 : ∀ k, -1 ≤ (b.2.set (v.1 - 1 - s.2.1).toNat (b.2.getD (v.1 - 1 - s.2.1).toNat 0 - 1)).getD k 0 ∧ (b.2.set (v.1 - 1 - s.2.1).toNat (b.2.getD (v.1 - 1 - s.2.1).toNat 0 - 1)).getD k 0 ≤ 15 := fun k => by
    have := b2.at k; have := b2.at (v.1 - 1 - s.2.1).toNat
    rw [getD_set]; split <;> omega
  have q1 := b1.at s.1.toNat
  have q2 := p1 s.2.1.toNat
  have q3 := b2.at (v.1 - 1 - s.2.1).toNat
  have q4 := p2 v.1.toNat
  clear hl p1 p2 hb
  simp only [List.length_set]
  repeat' first
    | refine ⟨hne, ?_⟩
    | refine bspD (fun _ => ?_) (fun _ => ?_)
    | refine bspB (fun _ => ?_) (fun _ => ?_)
    | refine ⟨(by first | omega | (simp only [inK]; omega)), ?_⟩
    | fail
  all_goals (clear q1 q2 q3 q4 hne b1 b2; simp_all [c_impl_afterStepB, afterD, addAt, subAt] <;> (intros; omega))
def c_impl_goOnB : Con where
  ins := [(true, .v tVar), (false, .v (.sl tPlayB)), (false, .v tI)]
  outs := [(false, .v (.sl tPlayB))]
  sh := false
  pre := fun x => PsOk x.1 4 x.2.1 ∧ (1 ≤ x.2.2.1 ∧ x.2.2.1 ≤ 6) ∧ List.length x.2.1 ≤ 1048576
  out := fun x => (nextD x.1 x.2.1 x.2.2.1, ())
  upd := fun x => x
  eat := false
theorem k_impl_goOnB [B : Base] : ConOk Try.prog 95 c_impl_goOnB := by
  refine fn_okW (C := cxb Try.prog 65 c_impl_goOnB) (cs := [(100, c_impl_legalSteps), (101, c_impl_afterStepB), (58, c_impl_boardKey)]) (res := Try.f95.results.toList) (fun x => ⟨[{ sh := ⟨[(2, .one (.i .i64)), (3, .one (.ref 0)), (7, .one (.ref 1)), (8, .one (.ref 2)), (17, .one (.ref 3)), (18, .one (.i .i64)), (19, .one (.i .i64))], [(0, .box [.i .i64, .i .i64, .i .i64, .i .i64]), (1, .mp false .s .b), (2, .own 59 tPlayB true), (3, .imm tPlayB false)]⟩, nx := 4, I := fun _ dat_ => (x.2.2.1 = dat_.1.1 ∧ (x.2.1.length : Int) = dat_.1.2.2.2.2.2.1 ∧ x.1.1 = dat_.2.1.1 ∧ x.1.2.1 = dat_.2.1.2.1 ∧ x.1.2.2.1 = dat_.2.1.2.2.1 ∧ x.1.2.2.2 = dat_.2.1.2.2.2.1 ∧ x.2.1 = dat_.2.2.2.2.1) ∧ ((SeenOk x.1 dat_.2.2.1 dat_.2.2.2.1 ∧ List.foldl addP dat_.2.2.2.1 (List.flatMap (stepsOf x.1 x.2.2.1) (List.drop (Int.toNat dat_.1.2.2.2.2.2.2.1) x.2.1)) = nextD x.1 x.2.1 x.2.2.1) ∧ 0 ≤ dat_.1.2.2.2.2.2.2.1 ∧ dat_.1.2.2.2.2.2.2.1 ≤ (List.length x.2.1 : Int)), mu := fun dat_ => Int.toNat ((List.length x.2.1 : Int) - dat_.1.2.2.2.2.2.2.1) }, { sh := ⟨[(2, .one (.i .i64)), (3, .one (.ref 0)), (7, .one (.ref 1)), (8, .one (.ref 2)), (10, .one (.ref 3)), (17, .one (.ref 4)), (18, .one (.i .i64)), (19, .one (.i .i64)), (27, .one (.ref 5)), (28, .one (.i .i64)), (29, .one (.i .i64))], [(0, .box [.i .i64, .i .i64, .i .i64, .i .i64]), (1, .mp false .s .b), (2, .own 59 tPlayB true), (3, .box [.ref 6, .ref 7, .ref 8]), (4, .imm tPlayB false), (5, .imm tStep true), (6, .imm tStep false), (7, .imm tI false), (8, .imm tI false)]⟩, nx := 9, I := fun g_ dat_ => (x.2.2.1 = dat_.1.1 ∧ (x.2.1.length : Int) = dat_.1.2.2.2.2.2.2.1 ∧ ((legalD x.1 (x.2.1.getD dat_.1.2.2.2.2.2.2.2.1.toNat ([], [], [])).2 x.2.2.1).length : Int) = dat_.1.2.2.2.2.2.2.2.2.2.1 ∧ x.1.1 = dat_.2.1.1 ∧ x.1.2.1 = dat_.2.1.2.1 ∧ x.1.2.2.1 = dat_.2.1.2.2.1 ∧ x.1.2.2.2 = dat_.2.1.2.2.2.1 ∧ x.2.1 = dat_.2.2.2.2.2.1 ∧ legalD x.1 (x.2.1.getD dat_.1.2.2.2.2.2.2.2.1.toNat ([], [], [])).2 x.2.2.1 = dat_.2.2.2.2.2.2.1 ∧ (x.2.1.getD dat_.1.2.2.2.2.2.2.2.1.toNat ([], [], [])).1 = dat_.2.2.2.2.2.2.2.1 ∧ (x.2.1.getD dat_.1.2.2.2.2.2.2.2.1.toNat ([], [], [])).2.1 = dat_.2.2.2.2.2.2.2.2.1 ∧ (x.2.1.getD dat_.1.2.2.2.2.2.2.2.1.toNat ([], [], [])).2.2 = dat_.2.2.2.2.2.2.2.2.2.1) ∧ ((SeenOk x.1 dat_.2.2.1 dat_.2.2.2.1 ∧ List.foldl addP dat_.2.2.2.1 (List.drop (Int.toNat dat_.1.2.2.2.2.2.2.2.2.2.2.1) (stepsOf x.1 x.2.2.1 (List.getD x.2.1 (Int.toNat dat_.1.2.2.2.2.2.2.2.1) ([], [], []))) ++ List.flatMap (stepsOf x.1 x.2.2.1) (List.drop (Int.toNat dat_.1.2.2.2.2.2.2.2.1 + 1) x.2.1)) = nextD x.1 x.2.1 x.2.2.1) ∧ (0 ≤ dat_.1.2.2.2.2.2.2.2.1 ∧ dat_.1.2.2.2.2.2.2.2.1 < (List.length x.2.1 : Int)) ∧ (0 ≤ dat_.1.2.2.2.2.2.2.2.2.2.2.1 ∧ dat_.1.2.2.2.2.2.2.2.2.2.2.1 ≤ dat_.1.2.2.2.2.2.2.2.2.2.1) ∧ (g_.headD 0) = Int.toNat ((List.length x.2.1 : Int) - dat_.1.2.2.2.2.2.2.2.1)), mu := fun dat_ => Int.toNat (dat_.1.2.2.2.2.2.2.2.2.2.1 - dat_.1.2.2.2.2.2.2.2.2.2.2.1) }], [(13, ⟨[[], [0], [0, 1], [0, 1, 2], [0, 1, 2, 3], [], [5], [0, 1, 2, 3, 4, 5, 6], [], [8], [0, 1, 2, 3, 4, 5, 6, 7, 8, 9], [0, 1, 2, 3, 4, 5, 6, 7, 8, 9, 10]], [[5, 6, 8, 9], [5, 6, 8, 9], [5, 6, 8, 9], [5, 6, 8, 9], [5, 6, 8, 9], [0, 1, 2, 3, 4, 8, 9], [0, 1, 2, 3, 4, 8, 9], [8, 9], [0, 1, 2, 3, 4, 5, 6, 7], [0, 1, 2, 3, 4, 5, 6, 7], [], []], []⟩)], []⟩) Try.func95 (by kernel_rfl) rfl rfl rfl tysBOk.look eqTsOk.look (AllCs.okb (l := [(100, c_impl_legalSteps), (101, c_impl_afterStepB), (58, c_impl_boardKey)]) ⟨k_impl_legalSteps, k_impl_afterStepB, k_impl_boardKey, trivial⟩) mixed rfl rfl rfl rfl ?_
  refine of_nf (P := ∀ v : Int × Int × Int × Int, ∀ ps : List ((List (Int × Int × Int × Bool)) × (List Int) × List Int), ∀ d : Int, (PsOk v 4 ps ∧ (1 ≤ d ∧ d ≤ 6) ∧ List.length ps ≤ 1048576) → ((lensI c_impl_goOnB.ins (v, ps, d, ())) → (((d = d ∧ (ps.length : Int) = (ps.length : Int) ∧ v.1 = v.1 ∧ v.2.1 = v.2.1 ∧ v.2.2.1 = v.2.2.1 ∧ v.2.2.2 = v.2.2.2 ∧ ps = ps) ∧ ((SeenOk v ([] : List (ByteArray × Bool)) [] ∧ List.foldl addP [] (List.flatMap (stepsOf v d) (List.drop (Int.toNat (0 : Int)) ps)) = nextD v ps d) ∧ 0 ≤ (0 : Int) ∧ (0 : Int) ≤ (List.length ps : Int))) ∧ (∀ t2 : Int, ∀ n : Int, ∀ i : Int, ∀ t3_0 : Int, ∀ t3_1 : Int, ∀ t3_2 : Int, ∀ t3_3 : Int, ∀ seen : List (ByteArray × Bool), ∀ out : List ((List (Int × Int × Int × Bool)) × (List Int) × List Int), ∀ t17 : List ((List (Int × Int × Int × Bool)) × (List Int) × List Int), ((d = t2 ∧ (ps.length : Int) = n ∧ v.1 = t3_0 ∧ v.2.1 = t3_1 ∧ v.2.2.1 = t3_2 ∧ v.2.2.2 = t3_3 ∧ ps = t17) ∧ ((SeenOk v seen out ∧ List.foldl addP out (List.flatMap (stepsOf v d) (List.drop (Int.toNat i) ps)) = nextD v ps d) ∧ 0 ≤ i ∧ i ≤ (List.length ps : Int))) → (bsp (decide (i < n)) ((0 ≤ i ∧ i < (t17.length : Int)) ∧ ((i.toNat < t17.length) ∧ ((okB (t3_0, t3_1, t3_2, t3_3) (t17.getD i.toNat ([], [], [])).2 ∧ 1 ≤ t2 ∧ t2 ≤ 6) ∧ (((d = t2 ∧ (ps.length : Int) = n ∧ ((legalD v (ps.getD i.toNat ([], [], [])).2 d).length : Int) = ((legalD (t3_0, t3_1, t3_2, t3_3) (t17.getD i.toNat ([], [], [])).2 t2).length : Int) ∧ v.1 = t3_0 ∧ v.2.1 = t3_1 ∧ v.2.2.1 = t3_2 ∧ v.2.2.2 = t3_3 ∧ ps = t17 ∧ legalD v (ps.getD i.toNat ([], [], [])).2 d = (legalD (t3_0, t3_1, t3_2, t3_3) (t17.getD i.toNat ([], [], [])).2 t2) ∧ (ps.getD i.toNat ([], [], [])).1 = (t17.getD i.toNat ([], [], [])).1 ∧ (ps.getD i.toNat ([], [], [])).2.1 = (t17.getD i.toNat ([], [], [])).2.1 ∧ (ps.getD i.toNat ([], [], [])).2.2 = (t17.getD i.toNat ([], [], [])).2.2) ∧ ((SeenOk v seen out ∧ List.foldl addP out (List.drop (Int.toNat (0 : Int)) (stepsOf v d (List.getD ps (Int.toNat i) ([], [], []))) ++ List.flatMap (stepsOf v d) (List.drop (Int.toNat i + 1) ps)) = nextD v ps d) ∧ (0 ≤ i ∧ i < (List.length ps : Int)) ∧ (0 ≤ (0 : Int) ∧ (0 : Int) ≤ ((legalD (t3_0, t3_1, t3_2, t3_3) (t17.getD i.toNat ([], [], [])).2 t2).length : Int)) ∧ (Int.toNat ((List.length ps : Int) - i)) = Int.toNat ((List.length ps : Int) - i))) ∧ (∀ t2x1 : Int, ∀ n_1 : Int, ∀ i_1 : Int, ∀ m : Int, ∀ k : Int, ∀ t3_0x1 : Int, ∀ t3_1x1 : Int, ∀ t3_2x1 : Int, ∀ t3_3x1 : Int, ∀ seen_1 : List (ByteArray × Bool), ∀ out_1 : List ((List (Int × Int × Int × Bool)) × (List Int) × List Int), ∀ t17x1 : List ((List (Int × Int × Int × Bool)) × (List Int) × List Int), ∀ steps : List (Int × Int × Int × Bool), ∀ t10_0 : List (Int × Int × Int × Bool), ∀ t10_1 : List Int, ∀ t10_2 : List Int, ((d = t2x1 ∧ (ps.length : Int) = n_1 ∧ ((legalD v (ps.getD i_1.toNat ([], [], [])).2 d).length : Int) = m ∧ v.1 = t3_0x1 ∧ v.2.1 = t3_1x1 ∧ v.2.2.1 = t3_2x1 ∧ v.2.2.2 = t3_3x1 ∧ ps = t17x1 ∧ legalD v (ps.getD i_1.toNat ([], [], [])).2 d = steps ∧ (ps.getD i_1.toNat ([], [], [])).1 = t10_0 ∧ (ps.getD i_1.toNat ([], [], [])).2.1 = t10_1 ∧ (ps.getD i_1.toNat ([], [], [])).2.2 = t10_2) ∧ ((SeenOk v seen_1 out_1 ∧ List.foldl addP out_1 (List.drop (Int.toNat k) (stepsOf v d (List.getD ps (Int.toNat i_1) ([], [], []))) ++ List.flatMap (stepsOf v d) (List.drop (Int.toNat i_1 + 1) ps)) = nextD v ps d) ∧ (0 ≤ i_1 ∧ i_1 < (List.length ps : Int)) ∧ (0 ≤ k ∧ k ≤ m) ∧ (Int.toNat ((List.length ps : Int) - i)) = Int.toNat ((List.length ps : Int) - i_1))) → (bsp (decide (k < m)) ((0 ≤ k ∧ k < (steps.length : Int)) ∧ ((k.toNat < steps.length) ∧ ((okB (t3_0x1, t3_1x1, t3_2x1, t3_3x1) (t10_1, t10_2) ∧ stepIn (t3_0x1, t3_1x1, t3_2x1, t3_3x1) (steps.getD k.toNat (0, 0, 0, false))) ∧ ((Bd (afterD (t3_0x1, t3_1x1, t3_2x1, t3_3x1) (t10_1, t10_2) (steps.getD k.toNat (0, 0, 0, false))).1 ∧ Bd (afterD (t3_0x1, t3_1x1, t3_2x1, t3_3x1) (t10_1, t10_2) (steps.getD k.toNat (0, 0, 0, false))).2 ∧ List.length (afterD (t3_0x1, t3_1x1, t3_2x1, t3_3x1) (t10_1, t10_2) (steps.getD k.toNat (0, 0, 0, false))).1 + List.length (afterD (t3_0x1, t3_1x1, t3_2x1, t3_3x1) (t10_1, t10_2) (steps.getD k.toNat (0, 0, 0, false))).2 ≤ 1099511627776) ∧ (bsp ((mget .s (keyD (afterD (t3_0x1, t3_1x1, t3_2x1, t3_3x1) (t10_1, t10_2) (steps.getD k.toNat (0, 0, 0, false)))) seen_1).getD false) ((inK .i64 (k + 1)) ∧ (((d = t2x1 ∧ (ps.length : Int) = n_1 ∧ ((legalD v (ps.getD i_1.toNat ([], [], [])).2 d).length : Int) = m ∧ v.1 = t3_0x1 ∧ v.2.1 = t3_1x1 ∧ v.2.2.1 = t3_2x1 ∧ v.2.2.2 = t3_3x1 ∧ ps = t17x1 ∧ legalD v (ps.getD i_1.toNat ([], [], [])).2 d = steps ∧ (ps.getD i_1.toNat ([], [], [])).1 = t10_0 ∧ (ps.getD i_1.toNat ([], [], [])).2.1 = t10_1 ∧ (ps.getD i_1.toNat ([], [], [])).2.2 = t10_2) ∧ ((SeenOk v seen_1 out_1 ∧ List.foldl addP out_1 (List.drop (Int.toNat (k + 1)) (stepsOf v d (List.getD ps (Int.toNat i_1) ([], [], []))) ++ List.flatMap (stepsOf v d) (List.drop (Int.toNat i_1 + 1) ps)) = nextD v ps d) ∧ (0 ≤ i_1 ∧ i_1 < (List.length ps : Int)) ∧ (0 ≤ (k + 1) ∧ (k + 1) ≤ m) ∧ (Int.toNat ((List.length ps : Int) - i)) = Int.toNat ((List.length ps : Int) - i_1))) ∧ ((Int.toNat (m - (k + 1)) : Nat) < Int.toNat (m - k)))) ((inK .i64 ((t10_0.length : Int) + 1)) ∧ ((0 ≤ (0 : Int) ∧ (0 : Int) ≤ ((t10_0.length : Int) + 1) ∧ ((t10_0.length : Int) + 1) ≤ 1099511627776) ∧ (((List.replicate 0 ((0, 0, 0, false) : (Int × Int × Int × Bool))).length + t10_0.length ≤ AB) ∧ ((((List.replicate 0 ((0, 0, 0, false) : (Int × Int × Int × Bool))) ++ t10_0).length + ([(steps.getD k.toNat (0, 0, 0, false))] : List (Int × Int × Int × Bool)).length ≤ AB) ∧ ((out_1.length + ([((((List.replicate 0 ((0, 0, 0, false) : (Int × Int × Int × Bool))) ++ t10_0) ++ [(steps.getD k.toNat (0, 0, 0, false))]), (afterD (t3_0x1, t3_1x1, t3_2x1, t3_3x1) (t10_1, t10_2) (steps.getD k.toNat (0, 0, 0, false))))] : List ((List (Int × Int × Int × Bool)) × (List Int) × List Int)).length ≤ AB) ∧ ((inK .i64 (k + 1)) ∧ (((d = t2x1 ∧ (ps.length : Int) = n_1 ∧ ((legalD v (ps.getD i_1.toNat ([], [], [])).2 d).length : Int) = m ∧ v.1 = t3_0x1 ∧ v.2.1 = t3_1x1 ∧ v.2.2.1 = t3_2x1 ∧ v.2.2.2 = t3_3x1 ∧ ps = t17x1 ∧ legalD v (ps.getD i_1.toNat ([], [], [])).2 d = steps ∧ (ps.getD i_1.toNat ([], [], [])).1 = t10_0 ∧ (ps.getD i_1.toNat ([], [], [])).2.1 = t10_1 ∧ (ps.getD i_1.toNat ([], [], [])).2.2 = t10_2) ∧ ((SeenOk v (mset .s (keyD (afterD (t3_0x1, t3_1x1, t3_2x1, t3_3x1) (t10_1, t10_2) (steps.getD k.toNat (0, 0, 0, false)))) true seen_1) (out_1 ++ [((((List.replicate 0 ((0, 0, 0, false) : (Int × Int × Int × Bool))) ++ t10_0) ++ [(steps.getD k.toNat (0, 0, 0, false))]), (afterD (t3_0x1, t3_1x1, t3_2x1, t3_3x1) (t10_1, t10_2) (steps.getD k.toNat (0, 0, 0, false))))]) ∧ List.foldl addP (out_1 ++ [((((List.replicate 0 ((0, 0, 0, false) : (Int × Int × Int × Bool))) ++ t10_0) ++ [(steps.getD k.toNat (0, 0, 0, false))]), (afterD (t3_0x1, t3_1x1, t3_2x1, t3_3x1) (t10_1, t10_2) (steps.getD k.toNat (0, 0, 0, false))))]) (List.drop (Int.toNat (k + 1)) (stepsOf v d (List.getD ps (Int.toNat i_1) ([], [], []))) ++ List.flatMap (stepsOf v d) (List.drop (Int.toNat i_1 + 1) ps)) = nextD v ps d) ∧ (0 ≤ i_1 ∧ i_1 < (List.length ps : Int)) ∧ (0 ≤ (k + 1) ∧ (k + 1) ≤ m) ∧ (Int.toNat ((List.length ps : Int) - i)) = Int.toNat ((List.length ps : Int) - i_1))) ∧ ((Int.toNat (m - (k + 1)) : Nat) < Int.toNat (m - k)))))))))))))) ((inK .i64 (i_1 + 1)) ∧ (((d = t2x1 ∧ (ps.length : Int) = n_1 ∧ v.1 = t3_0x1 ∧ v.2.1 = t3_1x1 ∧ v.2.2.1 = t3_2x1 ∧ v.2.2.2 = t3_3x1 ∧ ps = t17x1) ∧ ((SeenOk v seen_1 out_1 ∧ List.foldl addP out_1 (List.flatMap (stepsOf v d) (List.drop (Int.toNat (i_1 + 1)) ps)) = nextD v ps d) ∧ 0 ≤ (i_1 + 1) ∧ (i_1 + 1) ≤ (List.length ps : Int))) ∧ ((Int.toNat ((List.length ps : Int) - (i_1 + 1)) : Nat) < Int.toNat ((List.length ps : Int) - i)))))))))) (@Eq (HO c_impl_goOnB.outs) (out, ()) (c_impl_goOnB.out (v, ps, d, ())))))))) (by kernel_rfl) ?_
  rintro v ps d ⟨hp, hd, hn⟩ hl
  refine ⟨⟨(by first | trivial | rfl | (and_intros <;> rfl)), ⟨SeenOk.nil v, by simp [nextD]⟩, by omega, by omega⟩, ?_⟩
  rintro t2 n i t3_0 t3_1 t3_2 t3_3 seen out t17 ⟨⟨rfl, rfl, rfl, rfl, rfl, rfl, rfl⟩, ⟨⟨hs, hf⟩, i0, i1⟩⟩
  simp only [Prod.eta]
  refine bspD (fun hlt => ?_) (fun hge => ?_)
  · obtain ⟨a, rfl⟩ : ∃ a : Nat, i = a := ⟨i.toNat, by omega⟩
    have ha : a < ps.length := by omega
    have hq := hp _ (getD_mem ha ([], [], []))
    rw [show ((a : Int)).toNat = a from rfl] at hf ⊢
    rw [drop_cons ha ([], [], []), List.flatMap_cons] at hf
    refine ⟨⟨by omega, by omega⟩, ha, ⟨hq.1, hd⟩, ⟨(by first | trivial | rfl | (and_intros <;> rfl)), ⟨hs, by simpa using hf⟩, ⟨by omega, by omega⟩, ⟨by omega, by omega⟩, by first | trivial | rfl⟩, ?_⟩
    rintro t2x1 n_1 i_1 m k t3_0x1 t3_1x1 t3_2x1 t3_3x1 seen_1 out_1 t17x1 steps t10_0 t10_1 t10_2 ⟨⟨rfl, rfl, rfl, rfl, rfl, rfl, rfl, rfl, rfl, rfl, rfl, rfl⟩, ⟨⟨hs2, hf2⟩, ⟨g0, g1⟩, ⟨k0, k1⟩, hG⟩⟩
    simp only [Prod.eta]
    obtain rfl : i_1 = a := by omega
    rw [show ((a : Int)).toNat = a from rfl] at hf2 k1 ⊢
    have hlo : out_1.length ≤ 25 * ps.length := by
      have h1 := nextD_len (d := d) hp
      have h2 := (len_foldl_addP (List.drop k.toNat (stepsOf v d (List.getD ps a ([], [], []))) ++ List.flatMap (stepsOf v d) (List.drop (a + 1) ps)) out_1).1
      rw [hf2] at h2
      omega
    refine bspD (fun hlk => ?_) (fun hgk => ?_)
    · obtain ⟨b, rfl⟩ : ∃ b : Nat, k = b := ⟨k.toNat, by omega⟩
      rw [show ((b : Int)).toNat = b from rfl] at hf2 ⊢
      generalize hP : List.getD ps a ([], [], []) = P at *
      have hb : b < (legalD v P.2 d).length := by omega
      have hfit := legalD_fits hq.1 hd.1 (getD_mem hb (0, 0, 0, false))
      have hok := okB_after hq.1 hfit
      have hbd := hok.facts
      have hl25 := legalD_len (d := d) hq.1
      have hst : (stepsOf v d P).drop b = (P.1 ++ [(legalD v P.2 d).getD b (0, 0, 0, false)], afterD v P.2 ((legalD v P.2 d).getD b (0, 0, 0, false))) :: (stepsOf v d P).drop (b + 1) := by
        have hb2 : b < (stepsOf v d P).length := by simpa [stepsOf] using hb
        rw [drop_cons hb2 ([], [], [])]
        congr 1
        simp [stepsOf, List.getD_eq_getElem?_getD, hb]
      generalize (legalD v P.2 d).getD b (0, 0, 0, false) = S at *
      rw [hst, List.cons_append, List.foldl_cons] at hf2
      refine ⟨⟨by omega, by omega⟩, hb, ⟨hq.1, hfit.1⟩, ⟨hbd.1, hbd.2.1, by omega⟩, ?_⟩
      rw [hs2.2 _ hok]
      refine bspB (fun hy => ?_) (fun hn => ?_)
      · refine ⟨by simp only [inK]; omega, ⟨(by first | trivial | rfl | (and_intros <;> rfl)), ⟨hs2, ?_⟩, ⟨by omega, by omega⟩, ⟨by omega, by omega⟩, hG⟩, by omega⟩
        rw [show ((b : Int) + 1).toNat = b + 1 by omega]
        rw [show addP out_1 (P.1 ++ [S], afterD v P.2 S) = out_1 from if_pos hy] at hf2
        exact hf2
      · have hl1 := hq.2
        refine ⟨by simp only [inK]; omega, by omega, by simp [AB]; omega, by simp [AB]; omega, by simp [AB]; omega, by simp only [inK]; omega, ⟨(by first | trivial | rfl | (and_intros <;> rfl)), ⟨?_, ?_⟩, ⟨by omega, by omega⟩, ⟨by omega, by omega⟩, hG⟩, by omega⟩
        · exact hs2.add (p := (_, _)) ⟨hok, by simp; omega⟩
        · rw [show ((b : Int) + 1).toNat = b + 1 by omega]
          rw [show addP out_1 (P.1 ++ [S], afterD v P.2 S) = out_1 ++ [(P.1 ++ [S], afterD v P.2 S)] from if_neg (by simp [hn])] at hf2
          simpa using hf2
    · refine ⟨by simp only [inK]; omega, ⟨(by first | trivial | rfl | (and_intros <;> rfl)), ⟨hs2, ?_⟩, by omega, by omega⟩, by omega⟩
      have e : (stepsOf v d (List.getD ps a ([], [], []))).drop k.toNat = [] := List.drop_eq_nil_of_le (by simp only [stepsOf, List.length_map]; omega)
      rw [e, List.nil_append] at hf2
      rw [show ((a : Int) + 1).toNat = a + 1 by omega]
      exact hf2
  · rw [List.drop_eq_nil_of_le (by omega)] at hf
    simp only [List.flatMap_nil, List.foldl_nil] at hf
    subst hf; rfl
def c_impl_sequencesOfB : Con where
  ins := [(true, .v tVar), (true, .v tBoardB), (false, .v tSI)]
  outs := [(false, .v (.sl (.sl tPlayB))), (false, .v .b)]
  sh := false
  pre := fun x => okB x.1 x.2.1 ∧ DiceOk x.2.2.1
  out := fun x => (rowsD x.1 x.2.1 x.2.2.1, fitsP x.1 x.2.1 x.2.2.1, ())
  upd := fun x => x
  eat := false
theorem k_impl_sequencesOfB [B : Base] : ConOk Try.prog 84 c_impl_sequencesOfB := by
  refine fn_okW (C := cxb Try.prog 49 c_impl_sequencesOfB) (cs := [(57, c_impl_cloneBoardB), (95, c_impl_goOnB)]) (res := Try.f84.results.toList) (fun x => ⟨[{ sh := ⟨[(3, .one (.ref 0)), (8, .one (.ref 1)), (9, .one .b), (18, .one (.ref 2)), (19, .one (.i .i64)), (20, .one (.i .i64))], [(0, .box [.i .i64, .i .i64, .i .i64, .i .i64]), (1, .own 30 (.sl tPlayB) true), (2, .imm tI false)]⟩, nx := 3, I := fun _ dat_ => ((x.2.2.1.length : Int) = dat_.1.2.2.2.2.1 ∧ x.1.1 = dat_.2.1.1 ∧ x.1.2.1 = dat_.2.1.2.1 ∧ x.1.2.2.1 = dat_.2.1.2.2.1 ∧ x.1.2.2.2 = dat_.2.1.2.2.2.1 ∧ x.2.2.1 = dat_.2.2.2.1) ∧ (RowsInv x.1 x.2.1 x.2.2.1 dat_.2.2.1 dat_.1.2.2.1 (Int.toNat dat_.1.2.2.2.2.2.1) ∧ 0 ≤ dat_.1.2.2.2.2.2.1 ∧ dat_.1.2.2.2.2.2.1 ≤ (List.length x.2.2.1 : Int)), mu := fun dat_ => Int.toNat ((List.length x.2.2.1 : Int) - dat_.1.2.2.2.2.2.1) }], [(6, ⟨[[], [], [], [2], [2, 3], [1, 2, 3, 4], [1, 2, 3, 4, 5], [], [0, 1, 2, 3, 4, 5, 6, 7], [0, 1, 2, 3, 4, 5, 6, 7, 8]], [[1, 2, 3, 4, 5, 6, 7], [0, 2, 3, 4, 7], [0, 1, 7], [0, 1, 7], [0, 1, 7], [0, 7], [0, 7], [0, 1, 2, 3, 4, 5, 6], [], []], []⟩)], []⟩) Try.func84 (by kernel_rfl) rfl rfl rfl tysBOk.look eqTsOk.look (AllCs.okb (l := [(57, c_impl_cloneBoardB), (95, c_impl_goOnB)]) ⟨k_impl_cloneBoardB, k_impl_goOnB, trivial⟩) mixed rfl rfl rfl rfl ?_
  refine of_nf (P := ∀ v : Int × Int × Int × Int, ∀ b : (List Int) × List Int, ∀ o : List Int, (okB v b ∧ DiceOk o) → ((lensI c_impl_sequencesOfB.ins (v, b, o, ())) → ((NeB b) ∧ ((((o.length : Int) = (o.length : Int) ∧ v.1 = v.1 ∧ v.2.1 = v.2.1 ∧ v.2.2.1 = v.2.2.1 ∧ v.2.2.2 = v.2.2.2 ∧ o = o) ∧ (RowsInv v b o [[([], b)]] true (Int.toNat (0 : Int)) ∧ 0 ≤ (0 : Int) ∧ (0 : Int) ≤ (List.length o : Int))) ∧ (∀ fits : Bool, ∀ n : Int, ∀ i : Int, ∀ t3_0 : Int, ∀ t3_1 : Int, ∀ t3_2 : Int, ∀ t3_3 : Int, ∀ rows : List (List ((List (Int × Int × Int × Bool)) × (List Int) × List Int)), ∀ t18 : List Int, (((o.length : Int) = n ∧ v.1 = t3_0 ∧ v.2.1 = t3_1 ∧ v.2.2.1 = t3_2 ∧ v.2.2.2 = t3_3 ∧ o = t18) ∧ (RowsInv v b o rows fits (Int.toNat i) ∧ 0 ≤ i ∧ i ≤ (List.length o : Int))) → (bsp (decide (i < n)) ((0 ≤ i ∧ i < (t18.length : Int)) ∧ ((i.toNat < t18.length) ∧ ((inK .i64 ((rows.length : Int) - 1)) ∧ ((0 ≤ ((rows.length : Int) - 1) ∧ ((rows.length : Int) - 1) < (rows.length : Int)) ∧ ((((rows.length : Int) - 1).toNat < rows.length) ∧ ((PsOk (t3_0, t3_1, t3_2, t3_3) 4 (rows.getD ((rows.length : Int) - 1).toNat []) ∧ (1 ≤ (t18.getD i.toNat 0) ∧ (t18.getD i.toNat 0) ≤ 6) ∧ List.length (rows.getD ((rows.length : Int) - 1).toNat []) ≤ 1048576) ∧ (bsp (decide (((nextD (t3_0, t3_1, t3_2, t3_3) (rows.getD ((rows.length : Int) - 1).toNat []) (t18.getD i.toNat 0)).length : Int) = (0 : Int))) (@Eq (HO c_impl_sequencesOfB.outs) (rows, fits, ()) (c_impl_sequencesOfB.out (v, b, o, ()))) (bsp fits ((rows.length + ([nextD (t3_0, t3_1, t3_2, t3_3) (rows.getD ((rows.length : Int) - 1).toNat []) (t18.getD i.toNat 0)] : List (List ((List (Int × Int × Int × Bool)) × (List Int) × List Int))).length ≤ AB) ∧ ((inK .i64 (i + 1)) ∧ ((((o.length : Int) = n ∧ v.1 = t3_0 ∧ v.2.1 = t3_1 ∧ v.2.2.1 = t3_2 ∧ v.2.2.2 = t3_3 ∧ o = t18) ∧ (RowsInv v b o (rows ++ [nextD (t3_0, t3_1, t3_2, t3_3) (rows.getD ((rows.length : Int) - 1).toNat []) (t18.getD i.toNat 0)]) (decide (((nextD (t3_0, t3_1, t3_2, t3_3) (rows.getD ((rows.length : Int) - 1).toNat []) (t18.getD i.toNat 0)).length : Int) ≤ (3000 : Int))) (Int.toNat (i + 1)) ∧ 0 ≤ (i + 1) ∧ (i + 1) ≤ (List.length o : Int))) ∧ ((Int.toNat ((List.length o : Int) - (i + 1)) : Nat) < Int.toNat ((List.length o : Int) - i))))) ((rows.length + ([nextD (t3_0, t3_1, t3_2, t3_3) (rows.getD ((rows.length : Int) - 1).toNat []) (t18.getD i.toNat 0)] : List (List ((List (Int × Int × Int × Bool)) × (List Int) × List Int))).length ≤ AB) ∧ ((inK .i64 (i + 1)) ∧ ((((o.length : Int) = n ∧ v.1 = t3_0 ∧ v.2.1 = t3_1 ∧ v.2.2.1 = t3_2 ∧ v.2.2.2 = t3_3 ∧ o = t18) ∧ (RowsInv v b o (rows ++ [nextD (t3_0, t3_1, t3_2, t3_3) (rows.getD ((rows.length : Int) - 1).toNat []) (t18.getD i.toNat 0)]) false (Int.toNat (i + 1)) ∧ 0 ≤ (i + 1) ∧ (i + 1) ≤ (List.length o : Int))) ∧ ((Int.toNat ((List.length o : Int) - (i + 1)) : Nat) < Int.toNat ((List.length o : Int) - i))))))))))))) (@Eq (HO c_impl_sequencesOfB.outs) (rows, fits, ()) (c_impl_sequencesOfB.out (v, b, o, ()))))))))) (by kernel_rfl) ?_
  rintro v b o ⟨hb, ho⟩ hl
  have hF := hb.facts
  have hne : NeB b := ⟨⟨fun e => by have := hF.2.2.1; rw [e] at this; simp at this; omega, by omega⟩, fun e => by have := hF.2.2.2.1; rw [e] at this; simp at this; omega, by omega⟩
  have hol := ho.1
  refine ⟨hne, ⟨(by first | trivial | rfl | (and_intros <;> rfl)), RowsInv.zero o hb, by omega, by omega⟩, ?_⟩
  rintro fits n i t3_0 t3_1 t3_2 t3_3 rows t18 ⟨⟨rfl, rfl, rfl, rfl, rfl, rfl⟩, ⟨hI, i0, i1⟩⟩
  simp only [Prod.eta]
  refine bspD (fun hlt => ?_) (fun hge => ?_)
  · obtain ⟨k, rfl⟩ : ∃ k : Nat, i = k := ⟨i.toNat, by omega⟩
    simp only [Int.toNat_natCast] at hI ⊢
    have hk : k < o.length := by omega
    have h1 := hI.1
    have h2 := hI.2.1
    have h3 := hI.2.2.1
    have hp := pow25 (k := k) (by omega)
    have hd := ho.2 _ (getD_mem hk 0)
    have e1 : ((rows.length : Int) - 1).toNat = k := by omega
    rw [e1]
    refine ⟨⟨by omega, by omega⟩, hk, by simp only [inK]; omega, ⟨by omega, by omega⟩, by omega, ⟨h2.mono (by omega), hd, by omega⟩, bspD (fun hz => ?_) (fun hnz => ?_)⟩
    · have hn : nextD v (rows.getD k []) (o.getD k 0) = [] := by rw [← List.length_eq_zero_iff]; omega
      obtain ⟨e2, e3⟩ := hI.stop hk hn
      rw [e2, e3]; rfl
    · have hn : nextD v (rows.getD k []) (o.getD k 0) ≠ [] := fun e => hnz (by rw [e]; rfl)
      have hS := hI.step ho hk hn
      refine bspB (fun hf => ?_) (fun hf => ?_)
      all_goals
        rw [hf] at hS
        refine ⟨by simp [AB]; omega, by simp only [inK]; omega, ⟨(by first | trivial | rfl | (and_intros <;> rfl)), ?_, by omega, by omega⟩, by omega⟩
        rw [show ((k : Int) + 1).toNat = k + 1 by omega]
        simpa [fewB] using hS
  · obtain ⟨e2, e3⟩ := hI.done (by omega)
    rw [e2, e3]; rfl
def c_impl_sequencesB : Con where
  ins := [(true, .v tVar), (true, .v tBoardB), (true, .v tRoll)]
  outs := [(false, .v (.sl (.sl (.sl tPlayB)))), (false, .v .b)]
  sh := false
  pre := fun x => okB x.1 x.2.1 ∧ rollD x.1 x.2.2.1 = true
  out := fun x => (List.map (rowsD x.1 x.2.1) (ordersD x.2.2.1), List.all (ordersD x.2.2.1) (fitsP x.1 x.2.1), ())
  upd := fun x => x
  eat := false
theorem k_impl_sequencesB [B : Base] : ConOk Try.prog 55 c_impl_sequencesB := by
  refine fn_okW (C := cxb Try.prog 39 c_impl_sequencesB) (cs := [(83, c_impl_ordersOf), (84, c_impl_sequencesOfB)]) (res := Try.f55.results.toList) (fun x => ⟨[{ sh := ⟨[(3, .one (.ref 0)), (4, .one (.ref 1)), (8, .one (.ref 2)), (9, .one .b), (15, .one (.ref 3)), (16, .one (.i .i64)), (17, .one (.i .i64))], [(0, .box [.i .i64, .i .i64, .i .i64, .i .i64]), (1, .box [.ref 4, .ref 5]), (2, .own 86 (.sl (.sl tPlayB)) true), (3, .imm tSI true), (4, .imm tI false), (5, .imm tI false)]⟩, nx := 6, I := fun _ dat_ => (((ordersD x.2.2.1).length : Int) = dat_.1.2.2.2.2.2.1 ∧ x.1.1 = dat_.2.1.1 ∧ x.1.2.1 = dat_.2.1.2.1 ∧ x.1.2.2.1 = dat_.2.1.2.2.1 ∧ x.1.2.2.2 = dat_.2.1.2.2.2.1 ∧ ordersD x.2.2.1 = dat_.2.2.2.2.1 ∧ x.2.1.1 = dat_.2.2.2.2.2.1 ∧ x.2.1.2 = dat_.2.2.2.2.2.2.1) ∧ ((dat_.2.2.2.1 = List.map (rowsD x.1 x.2.1) (List.take (Int.toNat dat_.1.2.2.2.2.2.2.1) (ordersD x.2.2.1)) ∧ dat_.1.2.2.2.1 = List.all (List.take (Int.toNat dat_.1.2.2.2.2.2.2.1) (ordersD x.2.2.1)) (fitsP x.1 x.2.1)) ∧ 0 ≤ dat_.1.2.2.2.2.2.2.1 ∧ dat_.1.2.2.2.2.2.2.1 ≤ (List.length (ordersD x.2.2.1) : Int)), mu := fun dat_ => Int.toNat ((List.length (ordersD x.2.2.1) : Int) - dat_.1.2.2.2.2.2.2.1) }], [], []⟩) Try.func55 (by kernel_rfl) rfl rfl rfl tysBOk.look eqTsOk.look (AllCs.okb (l := [(83, c_impl_ordersOf), (84, c_impl_sequencesOfB)]) ⟨k_impl_ordersOf, k_impl_sequencesOfB, trivial⟩) mixed rfl rfl rfl rfl ?_
  refine of_nf (P := ∀ v : Int × Int × Int × Int, ∀ b : (List Int) × List Int, ∀ r : Int × Int, (okB v b ∧ rollD v r = true) → ((lensI c_impl_sequencesB.ins (v, b, r, ())) → (True ∧ (((((ordersD r).length : Int) = ((ordersD r).length : Int) ∧ v.1 = v.1 ∧ v.2.1 = v.2.1 ∧ v.2.2.1 = v.2.2.1 ∧ v.2.2.2 = v.2.2.2 ∧ ordersD r = (ordersD r) ∧ b.1 = b.1 ∧ b.2 = b.2) ∧ (([] = List.map (rowsD v b) (List.take (Int.toNat (0 : Int)) (ordersD r)) ∧ true = List.all (List.take (Int.toNat (0 : Int)) (ordersD r)) (fitsP v b)) ∧ 0 ≤ (0 : Int) ∧ (0 : Int) ≤ (List.length (ordersD r) : Int))) ∧ (∀ fits : Bool, ∀ n : Int, ∀ i : Int, ∀ t3_0 : Int, ∀ t3_1 : Int, ∀ t3_2 : Int, ∀ t3_3 : Int, ∀ all : List (List (List ((List (Int × Int × Int × Bool)) × (List Int) × List Int))), ∀ t15 : List (List Int), ∀ t4_0 : List Int, ∀ t4_1 : List Int, ((((ordersD r).length : Int) = n ∧ v.1 = t3_0 ∧ v.2.1 = t3_1 ∧ v.2.2.1 = t3_2 ∧ v.2.2.2 = t3_3 ∧ ordersD r = t15 ∧ b.1 = t4_0 ∧ b.2 = t4_1) ∧ ((all = List.map (rowsD v b) (List.take (Int.toNat i) (ordersD r)) ∧ fits = List.all (List.take (Int.toNat i) (ordersD r)) (fitsP v b)) ∧ 0 ≤ i ∧ i ≤ (List.length (ordersD r) : Int))) → (bsp (decide (i < n)) ((0 ≤ i ∧ i < (t15.length : Int)) ∧ ((i.toNat < t15.length) ∧ ((okB (t3_0, t3_1, t3_2, t3_3) (t4_0, t4_1) ∧ DiceOk (t15.getD i.toNat [])) ∧ ((all.length + ([rowsD (t3_0, t3_1, t3_2, t3_3) (t4_0, t4_1) (t15.getD i.toNat [])] : List (List (List ((List (Int × Int × Int × Bool)) × (List Int) × List Int)))).length ≤ AB) ∧ (bsp fits ((inK .i64 (i + 1)) ∧ (((((ordersD r).length : Int) = n ∧ v.1 = t3_0 ∧ v.2.1 = t3_1 ∧ v.2.2.1 = t3_2 ∧ v.2.2.2 = t3_3 ∧ ordersD r = t15 ∧ b.1 = t4_0 ∧ b.2 = t4_1) ∧ (((all ++ [rowsD (t3_0, t3_1, t3_2, t3_3) (t4_0, t4_1) (t15.getD i.toNat [])]) = List.map (rowsD v b) (List.take (Int.toNat (i + 1)) (ordersD r)) ∧ (fitsP (t3_0, t3_1, t3_2, t3_3) (t4_0, t4_1) (t15.getD i.toNat [])) = List.all (List.take (Int.toNat (i + 1)) (ordersD r)) (fitsP v b)) ∧ 0 ≤ (i + 1) ∧ (i + 1) ≤ (List.length (ordersD r) : Int))) ∧ ((Int.toNat ((List.length (ordersD r) : Int) - (i + 1)) : Nat) < Int.toNat ((List.length (ordersD r) : Int) - i)))) ((inK .i64 (i + 1)) ∧ (((((ordersD r).length : Int) = n ∧ v.1 = t3_0 ∧ v.2.1 = t3_1 ∧ v.2.2.1 = t3_2 ∧ v.2.2.2 = t3_3 ∧ ordersD r = t15 ∧ b.1 = t4_0 ∧ b.2 = t4_1) ∧ (((all ++ [rowsD (t3_0, t3_1, t3_2, t3_3) (t4_0, t4_1) (t15.getD i.toNat [])]) = List.map (rowsD v b) (List.take (Int.toNat (i + 1)) (ordersD r)) ∧ false = List.all (List.take (Int.toNat (i + 1)) (ordersD r)) (fitsP v b)) ∧ 0 ≤ (i + 1) ∧ (i + 1) ≤ (List.length (ordersD r) : Int))) ∧ ((Int.toNat ((List.length (ordersD r) : Int) - (i + 1)) : Nat) < Int.toNat ((List.length (ordersD r) : Int) - i))))))))) (@Eq (HO c_impl_sequencesB.outs) (all, fits, ()) (c_impl_sequencesB.out (v, b, r, ()))))))))) (by kernel_rfl) ?_
  rintro v b r ⟨hb, hr⟩ hl
  have ho := ordersD_ok hr
  have hol := ordersD_len r
  refine ⟨trivial, ⟨(by first | trivial | rfl | (and_intros <;> rfl)), ⟨by simp, by simp⟩, by omega, by omega⟩, ?_⟩
  rintro fits n i t3_0 t3_1 t3_2 t3_3 all t15 t4_0 t4_1 ⟨⟨rfl, rfl, rfl, rfl, rfl, rfl, rfl, rfl⟩, ⟨⟨hA, hf⟩, i0, i1⟩⟩
  simp only [Prod.eta]
  refine bspD (fun hlt => ?_) (fun hge => ?_)
  · obtain ⟨k, rfl⟩ : ∃ k : Nat, i = k := ⟨i.toNat, by omega⟩
    simp only [Int.toNat_natCast] at hA hf ⊢
    have hk : k < (ordersD r).length := by omega
    have hlen : all.length = k := by rw [hA]; simp; omega
    have t1 := take_map_succ (rowsD v b) hk []
    have t2 := take_all_succ (fitsP v b) hk []
    rw [← hA] at t1
    rw [← hf] at t2
    refine ⟨⟨by omega, by omega⟩, hk, ⟨hb, ho _ (getD_mem hk [])⟩, by simp [AB]; omega, bspB (fun hy => ?_) (fun hy => ?_)⟩
    all_goals
      rw [hy] at t2
      refine ⟨by simp only [inK]; omega, ⟨(by first | trivial | rfl | (and_intros <;> rfl)), ⟨?_, ?_⟩, by omega, by omega⟩, by omega⟩
    all_goals rw [show ((k : Int) + 1).toNat = k + 1 by omega]
    · rw [t1]
    · rw [t2]; simp
    · rw [t1]
    · rw [t2]; simp
  · have e : i.toNat = (ordersD r).length := by omega
    rw [e, List.take_length] at hA hf
    rw [hA, hf]; rfl
def c_impl_usedB : Con where
  ins := [(false, .v (.sl (.sl (.sl tPlayB))))]
  outs := [(false, .v tI)]
  sh := false
  pre := fun x => RowsBd x.1
  out := fun x => (usedL x.1, ())
  upd := fun x => x
  eat := false
theorem k_impl_usedB [B : Base] : ConOk Try.prog 56 c_impl_usedB := by
  refine fn_ok (C := cxb Try.prog 19 c_impl_usedB) (cs := []) (res := Try.f56.results.toList) (fun x => ⟨[{ sh := ⟨[(3, .one (.i .i64)), (6, .one (.ref 0)), (7, .one (.i .i64)), (8, .one (.i .i64))], [(0, .imm (.sl (.sl tPlayB)) false)]⟩, nx := 1, I := fun _ dat_ => ((x.1.length : Int) = dat_.1.2.2.1 ∧ x.1 = dat_.2.1) ∧ (dat_.1.1 = usedL (List.take (Int.toNat dat_.1.2.2.2.1) x.1) ∧ 0 ≤ dat_.1.2.2.2.1 ∧ dat_.1.2.2.2.1 ≤ (List.length x.1 : Int)), mu := fun dat_ => Int.toNat ((List.length x.1 : Int) - dat_.1.2.2.2.1) }], [], []⟩) Try.func56 (by kernel_rfl) rfl rfl rfl tysBOk.look eqTsOk.look (AllCs.okb (l := []) trivial) mixed rfl rfl rfl rfl ?_
  refine @of_nf (∀ rs : List (List (List ((List (Int × Int × Int × Bool)) × (List Int) × List Int))), (RowsBd rs) → ((lensI c_impl_usedB.ins (rs, ())) → ((((rs.length : Int) = (rs.length : Int) ∧ rs = rs) ∧ ((0 : Int) = usedL (List.take (Int.toNat (0 : Int)) rs) ∧ 0 ≤ (0 : Int) ∧ (0 : Int) ≤ (List.length rs : Int))) ∧ (∀ m : Int, ∀ n : Int, ∀ i : Int, ∀ t6 : List (List (List ((List (Int × Int × Int × Bool)) × (List Int) × List Int))), (((rs.length : Int) = n ∧ rs = t6) ∧ (m = usedL (List.take (Int.toNat i) rs) ∧ 0 ≤ i ∧ i ≤ (List.length rs : Int))) → (bsp (decide (i < n)) ((0 ≤ i ∧ i < (t6.length : Int)) ∧ ((i.toNat < t6.length) ∧ ((inK .i64 (((t6.getD i.toNat []).length : Int) - 1)) ∧ ((inK .i64 (i + 1)) ∧ ((((rs.length : Int) = n ∧ rs = t6) ∧ ((max m (((t6.getD i.toNat []).length : Int) - 1)) = usedL (List.take (Int.toNat (i + 1)) rs) ∧ 0 ≤ (i + 1) ∧ (i + 1) ≤ (List.length rs : Int))) ∧ ((Int.toNat ((List.length rs : Int) - (i + 1)) : Nat) < Int.toNat ((List.length rs : Int) - i))))))) (@Eq (HO c_impl_usedB.outs) (m, ()) (c_impl_usedB.out (rs, ())))))))) _ (by kernel_rfl) ?_
  rintro rs ⟨h1, h2⟩ hl
  have bd : ∀ k, 0 ≤ usedL (rs.take k) ∧ usedL (rs.take k) ≤ 1048576 := by
    have gen : ∀ (l : List (List (List DPlay))) (m : Int), (∀ r, r ∈ l → r.length ≤ 1048576) → 0 ≤ m ∧ m ≤ 1048576 → 0 ≤ l.foldl (fun m r => max m ((r.length : Int) - 1)) m ∧ l.foldl (fun m r => max m ((r.length : Int) - 1)) m ≤ 1048576 := by
      intro l
      induction l with
      | nil => intro m _ h; exact h
      | cons r l ih =>
        intro m h hm
        have := h r (List.mem_cons_self ..)
        exact ih _ (fun q hq => h q (List.mem_cons_of_mem _ hq)) (by dsimp only; omega)
    intro k
    exact gen _ 0 (fun r hr => h2 r (List.mem_of_mem_take hr)) (by omega)
  refine ⟨⟨(by first | trivial | rfl | (and_intros <;> rfl)), by simp [usedL], by omega, by omega⟩, ?_⟩
  rintro m n i t6 ⟨⟨rfl, rfl⟩, ⟨hm, i0, i1⟩⟩
  refine bspD (fun hlt => ?_) (fun hge => ?_)
  · obtain ⟨k, rfl⟩ : ∃ k : Nat, i = k := ⟨i.toNat, by omega⟩
    simp only [Int.toNat_natCast] at hm ⊢
    have hk : k < rs.length := by omega
    have hq := h2 _ (getD_mem hk [])
    have t := take_fold_succ (fun (m : Int) (r : List (List DPlay)) => max m ((r.length : Int) - 1)) 0 hk []
    refine ⟨⟨by omega, by omega⟩, hk, by simp only [inK]; omega, by simp only [inK]; omega, ⟨(by first | trivial | rfl | (and_intros <;> rfl)), ?_, by omega, by omega⟩, by omega⟩
    rw [show ((k : Int) + 1).toNat = k + 1 by omega, usedL, t, hm]; rfl
  · rw [List.take_of_length_le (by omega)] at hm
    subst hm; rfl
def c_impl_allPlaysB : Con where
  ins := [(true, .v tVar), (true, .v tBoardB), (true, .v tRoll)]
  outs := [(false, .v (.sl tPlayB)), (false, .v .b)]
  sh := false
  pre := fun x => okB x.1 x.2.1 ∧ rollD x.1 x.2.2.1 = true
  out := fun x => ((if List.all (ordersD x.2.2.1) (fitsP x.1 x.2.1) then allD x.1 x.2.1 x.2.2.1 else []), List.all (ordersD x.2.2.1) (fitsP x.1 x.2.1), ())
  upd := fun x => x
  eat := false
theorem k_impl_allPlaysB [B : Base] : ConOk Try.prog 26 c_impl_allPlaysB := by
  refine fn_okW (C := cxb Try.prog 73 c_impl_allPlaysB) (cs := [(55, c_impl_sequencesB), (56, c_impl_usedB), (57, c_impl_cloneBoardB), (58, c_impl_boardKey)]) (res := Try.f26.results.toList) (fun x => ⟨[{ sh := ⟨[(10, .one (.i .i64)), (11, .one (.ref 0)), (12, .one (.ref 1)), (36, .one (.ref 2)), (37, .one (.i .i64)), (38, .one (.i .i64))], [(0, .mp false .s .b), (1, .own 59 tPlayB true), (2, .imm (.sl (.sl tPlayB)) true)]⟩, nx := 3, I := fun _ dat_ => (usedL (List.map (rowsD x.1 x.2.1) (ordersD x.2.2.1)) = dat_.1.1 ∧ ((List.map (rowsD x.1 x.2.1) (ordersD x.2.2.1)).length : Int) = dat_.1.2.2.2.2.1 ∧ List.map (rowsD x.1 x.2.1) (ordersD x.2.2.1) = dat_.2.2.2.1) ∧ ((SeenOk x.1 dat_.2.1 dat_.2.2.1 ∧ List.foldl addP dat_.2.2.1 (List.flatMap (longD x.1 x.2.1) (selD x.1 x.2.1 (usedD x.1 x.2.1 x.2.2.1) (List.drop (Int.toNat dat_.1.2.2.2.2.2.1) (ordersD x.2.2.1)))) = allD x.1 x.2.1 x.2.2.1) ∧ 0 ≤ dat_.1.2.2.2.2.2.1 ∧ dat_.1.2.2.2.2.2.1 ≤ (List.length (ordersD x.2.2.1) : Int)), mu := fun dat_ => Int.toNat ((List.length (ordersD x.2.2.1) : Int) - dat_.1.2.2.2.2.2.1) }, { sh := ⟨[(10, .one (.i .i64)), (11, .one (.ref 0)), (12, .one (.ref 1)), (36, .one (.ref 2)), (37, .one (.i .i64)), (38, .one (.i .i64)), (49, .one (.ref 3)), (50, .one (.i .i64)), (51, .one (.i .i64))], [(0, .mp false .s .b), (1, .own 59 tPlayB true), (2, .imm (.sl (.sl tPlayB)) true), (3, .imm tPlayB true)]⟩, nx := 4, I := fun g_ dat_ => ((usedL (List.map (rowsD x.1 x.2.1) (ordersD x.2.2.1))) = dat_.1.1 ∧ ((List.map (rowsD x.1 x.2.1) (ordersD x.2.2.1)).length : Int) = dat_.1.2.2.2.2.1 ∧ ((((List.map (rowsD x.1 x.2.1) (ordersD x.2.2.1)).getD dat_.1.2.2.2.2.2.1.toNat []).getD (usedL (List.map (rowsD x.1 x.2.1) (ordersD x.2.2.1))).toNat []).length : Int) = dat_.1.2.2.2.2.2.2.2.1 ∧ (List.map (rowsD x.1 x.2.1) (ordersD x.2.2.1)) = dat_.2.2.2.1 ∧ (((List.map (rowsD x.1 x.2.1) (ordersD x.2.2.1)).getD dat_.1.2.2.2.2.2.1.toNat []).getD (usedL (List.map (rowsD x.1 x.2.1) (ordersD x.2.2.1))).toNat []) = dat_.2.2.2.2.1) ∧ ((SeenOk x.1 dat_.2.1 dat_.2.2.1 ∧ List.foldl addP dat_.2.2.1 (List.drop (Int.toNat dat_.1.2.2.2.2.2.2.2.2.1) dat_.2.2.2.2.1 ++ (if usedD x.1 x.2.1 x.2.2.1 = 1 then [] else List.flatMap (longD x.1 x.2.1) (selD x.1 x.2.1 (usedD x.1 x.2.1 x.2.2.1) (List.drop (Int.toNat dat_.1.2.2.2.2.2.1 + 1) (ordersD x.2.2.1))))) = allD x.1 x.2.1 x.2.2.1) ∧ (0 ≤ dat_.1.2.2.2.2.2.1 ∧ dat_.1.2.2.2.2.2.1 < (List.length (ordersD x.2.2.1) : Int)) ∧ (0 ≤ dat_.1.2.2.2.2.2.2.2.2.1 ∧ dat_.1.2.2.2.2.2.2.2.2.1 ≤ dat_.1.2.2.2.2.2.2.2.1) ∧ (g_.headD 0) = Int.toNat ((List.length (ordersD x.2.2.1) : Int) - dat_.1.2.2.2.2.2.1)), mu := fun dat_ => Int.toNat (dat_.1.2.2.2.2.2.2.2.1 - dat_.1.2.2.2.2.2.2.2.2.1) }], [], []⟩) Try.func26 (by kernel_rfl) rfl rfl rfl tysBOk.look eqTsOk.look (AllCs.okb (l := [(55, c_impl_sequencesB), (56, c_impl_usedB), (57, c_impl_cloneBoardB), (58, c_impl_boardKey)]) ⟨k_impl_sequencesB, k_impl_usedB, k_impl_cloneBoardB, k_impl_boardKey, trivial⟩) mixed rfl rfl rfl rfl ?_
  refine of_nf (P := ∀ v : Int × Int × Int × Int, ∀ b : (List Int) × List Int, ∀ r : Int × Int, (okB v b ∧ rollD v r = true) → ((lensI c_impl_allPlaysB.ins (v, b, r, ())) → ((okB v b ∧ rollD v r = true) ∧ (bsp (!(List.all (ordersD r) (fitsP v b))) (@Eq (HO c_impl_allPlaysB.outs) ([], false, ()) (c_impl_allPlaysB.out (v, b, r, ()))) ((RowsBd (List.map (rowsD v b) (ordersD r))) ∧ (bsp (decide ((usedL (List.map (rowsD v b) (ordersD r))) = (0 : Int))) ((NeB b) ∧ (@Eq (HO c_impl_allPlaysB.outs) ([([], b)], true, ()) (c_impl_allPlaysB.out (v, b, r, ())))) (((usedL (List.map (rowsD v b) (ordersD r)) = (usedL (List.map (rowsD v b) (ordersD r))) ∧ ((List.map (rowsD v b) (ordersD r)).length : Int) = ((List.map (rowsD v b) (ordersD r)).length : Int) ∧ List.map (rowsD v b) (ordersD r) = (List.map (rowsD v b) (ordersD r))) ∧ ((SeenOk v ([] : List (ByteArray × Bool)) [] ∧ List.foldl addP [] (List.flatMap (longD v b) (selD v b (usedD v b r) (List.drop (Int.toNat (0 : Int)) (ordersD r)))) = allD v b r) ∧ 0 ≤ (0 : Int) ∧ (0 : Int) ≤ (List.length (ordersD r) : Int))) ∧ (∀ n : Int, ∀ m : Int, ∀ i : Int, ∀ seen : List (ByteArray × Bool), ∀ out : List ((List (Int × Int × Int × Bool)) × (List Int) × List Int), ∀ rows : List (List (List ((List (Int × Int × Int × Bool)) × (List Int) × List Int))), ((usedL (List.map (rowsD v b) (ordersD r)) = n ∧ ((List.map (rowsD v b) (ordersD r)).length : Int) = m ∧ List.map (rowsD v b) (ordersD r) = rows) ∧ ((SeenOk v seen out ∧ List.foldl addP out (List.flatMap (longD v b) (selD v b (usedD v b r) (List.drop (Int.toNat i) (ordersD r)))) = allD v b r) ∧ 0 ≤ i ∧ i ≤ (List.length (ordersD r) : Int))) → (bsp (decide (i < m)) ((0 ≤ i ∧ i < (rows.length : Int)) ∧ ((i.toNat < rows.length) ∧ (bsp (decide (((rows.getD i.toNat []).length : Int) ≤ n)) ((inK .i64 (i + 1)) ∧ (((usedL (List.map (rowsD v b) (ordersD r)) = n ∧ ((List.map (rowsD v b) (ordersD r)).length : Int) = m ∧ List.map (rowsD v b) (ordersD r) = rows) ∧ ((SeenOk v seen out ∧ List.foldl addP out (List.flatMap (longD v b) (selD v b (usedD v b r) (List.drop (Int.toNat (i + 1)) (ordersD r)))) = allD v b r) ∧ 0 ≤ (i + 1) ∧ (i + 1) ≤ (List.length (ordersD r) : Int))) ∧ ((Int.toNat ((List.length (ordersD r) : Int) - (i + 1)) : Nat) < Int.toNat ((List.length (ordersD r) : Int) - i)))) ((0 ≤ n ∧ n < ((rows.getD i.toNat []).length : Int)) ∧ ((n.toNat < (rows.getD i.toNat []).length) ∧ ((((usedL (List.map (rowsD v b) (ordersD r))) = n ∧ ((List.map (rowsD v b) (ordersD r)).length : Int) = m ∧ ((((List.map (rowsD v b) (ordersD r)).getD i.toNat []).getD (usedL (List.map (rowsD v b) (ordersD r))).toNat []).length : Int) = (((rows.getD i.toNat []).getD n.toNat []).length : Int) ∧ (List.map (rowsD v b) (ordersD r)) = rows ∧ (((List.map (rowsD v b) (ordersD r)).getD i.toNat []).getD (usedL (List.map (rowsD v b) (ordersD r))).toNat []) = ((rows.getD i.toNat []).getD n.toNat [])) ∧ ((SeenOk v seen out ∧ List.foldl addP out (List.drop (Int.toNat (0 : Int)) ((rows.getD i.toNat []).getD n.toNat []) ++ (if usedD v b r = 1 then [] else List.flatMap (longD v b) (selD v b (usedD v b r) (List.drop (Int.toNat i + 1) (ordersD r))))) = allD v b r) ∧ (0 ≤ i ∧ i < (List.length (ordersD r) : Int)) ∧ (0 ≤ (0 : Int) ∧ (0 : Int) ≤ (((rows.getD i.toNat []).getD n.toNat []).length : Int)) ∧ (Int.toNat ((List.length (ordersD r) : Int) - i)) = Int.toNat ((List.length (ordersD r) : Int) - i))) ∧ (∀ n_1 : Int, ∀ m_1 : Int, ∀ i_1 : Int, ∀ q : Int, ∀ k : Int, ∀ seen_1 : List (ByteArray × Bool), ∀ out_1 : List ((List (Int × Int × Int × Bool)) × (List Int) × List Int), ∀ rows_1 : List (List (List ((List (Int × Int × Int × Bool)) × (List Int) × List Int))), ∀ ps : List ((List (Int × Int × Int × Bool)) × (List Int) × List Int), (((usedL (List.map (rowsD v b) (ordersD r))) = n_1 ∧ ((List.map (rowsD v b) (ordersD r)).length : Int) = m_1 ∧ ((((List.map (rowsD v b) (ordersD r)).getD i_1.toNat []).getD (usedL (List.map (rowsD v b) (ordersD r))).toNat []).length : Int) = q ∧ (List.map (rowsD v b) (ordersD r)) = rows_1 ∧ (((List.map (rowsD v b) (ordersD r)).getD i_1.toNat []).getD (usedL (List.map (rowsD v b) (ordersD r))).toNat []) = ps) ∧ ((SeenOk v seen_1 out_1 ∧ List.foldl addP out_1 (List.drop (Int.toNat k) ps ++ (if usedD v b r = 1 then [] else List.flatMap (longD v b) (selD v b (usedD v b r) (List.drop (Int.toNat i_1 + 1) (ordersD r))))) = allD v b r) ∧ (0 ≤ i_1 ∧ i_1 < (List.length (ordersD r) : Int)) ∧ (0 ≤ k ∧ k ≤ q) ∧ (Int.toNat ((List.length (ordersD r) : Int) - i)) = Int.toNat ((List.length (ordersD r) : Int) - i_1))) → (bsp (decide (k < q)) ((0 ≤ k ∧ k < (ps.length : Int)) ∧ ((k.toNat < ps.length) ∧ ((Bd (ps.getD k.toNat ([], [], [])).2.1 ∧ Bd (ps.getD k.toNat ([], [], [])).2.2 ∧ List.length (ps.getD k.toNat ([], [], [])).2.1 + List.length (ps.getD k.toNat ([], [], [])).2.2 ≤ 1099511627776) ∧ (bsp (!((mget .s (keyD (ps.getD k.toNat ([], [], [])).2) seen_1).getD false)) ((out_1.length + ([(ps.getD k.toNat ([], [], []))] : List ((List (Int × Int × Int × Bool)) × (List Int) × List Int)).length ≤ AB) ∧ ((inK .i64 (k + 1)) ∧ ((((usedL (List.map (rowsD v b) (ordersD r))) = n_1 ∧ ((List.map (rowsD v b) (ordersD r)).length : Int) = m_1 ∧ ((((List.map (rowsD v b) (ordersD r)).getD i_1.toNat []).getD (usedL (List.map (rowsD v b) (ordersD r))).toNat []).length : Int) = q ∧ (List.map (rowsD v b) (ordersD r)) = rows_1 ∧ (((List.map (rowsD v b) (ordersD r)).getD i_1.toNat []).getD (usedL (List.map (rowsD v b) (ordersD r))).toNat []) = ps) ∧ ((SeenOk v (mset .s (keyD (ps.getD k.toNat ([], [], [])).2) true seen_1) (out_1 ++ [(ps.getD k.toNat ([], [], []))]) ∧ List.foldl addP (out_1 ++ [(ps.getD k.toNat ([], [], []))]) (List.drop (Int.toNat (k + 1)) ps ++ (if usedD v b r = 1 then [] else List.flatMap (longD v b) (selD v b (usedD v b r) (List.drop (Int.toNat i_1 + 1) (ordersD r))))) = allD v b r) ∧ (0 ≤ i_1 ∧ i_1 < (List.length (ordersD r) : Int)) ∧ (0 ≤ (k + 1) ∧ (k + 1) ≤ q) ∧ (Int.toNat ((List.length (ordersD r) : Int) - i)) = Int.toNat ((List.length (ordersD r) : Int) - i_1))) ∧ ((Int.toNat (q - (k + 1)) : Nat) < Int.toNat (q - k))))) ((inK .i64 (k + 1)) ∧ ((((usedL (List.map (rowsD v b) (ordersD r))) = n_1 ∧ ((List.map (rowsD v b) (ordersD r)).length : Int) = m_1 ∧ ((((List.map (rowsD v b) (ordersD r)).getD i_1.toNat []).getD (usedL (List.map (rowsD v b) (ordersD r))).toNat []).length : Int) = q ∧ (List.map (rowsD v b) (ordersD r)) = rows_1 ∧ (((List.map (rowsD v b) (ordersD r)).getD i_1.toNat []).getD (usedL (List.map (rowsD v b) (ordersD r))).toNat []) = ps) ∧ ((SeenOk v seen_1 out_1 ∧ List.foldl addP out_1 (List.drop (Int.toNat (k + 1)) ps ++ (if usedD v b r = 1 then [] else List.flatMap (longD v b) (selD v b (usedD v b r) (List.drop (Int.toNat i_1 + 1) (ordersD r))))) = allD v b r) ∧ (0 ≤ i_1 ∧ i_1 < (List.length (ordersD r) : Int)) ∧ (0 ≤ (k + 1) ∧ (k + 1) ≤ q) ∧ (Int.toNat ((List.length (ordersD r) : Int) - i)) = Int.toNat ((List.length (ordersD r) : Int) - i_1))) ∧ ((Int.toNat (q - (k + 1)) : Nat) < Int.toNat (q - k)))))))) (bsp (decide (n_1 = (1 : Int))) (@Eq (HO c_impl_allPlaysB.outs) (out_1, true, ()) (c_impl_allPlaysB.out (v, b, r, ()))) ((inK .i64 (i_1 + 1)) ∧ (((usedL (List.map (rowsD v b) (ordersD r)) = n_1 ∧ ((List.map (rowsD v b) (ordersD r)).length : Int) = m_1 ∧ List.map (rowsD v b) (ordersD r) = rows_1) ∧ ((SeenOk v seen_1 out_1 ∧ List.foldl addP out_1 (List.flatMap (longD v b) (selD v b (usedD v b r) (List.drop (Int.toNat (i_1 + 1)) (ordersD r)))) = allD v b r) ∧ 0 ≤ (i_1 + 1) ∧ (i_1 + 1) ≤ (List.length (ordersD r) : Int))) ∧ ((Int.toNat ((List.length (ordersD r) : Int) - (i_1 + 1)) : Nat) < Int.toNat ((List.length (ordersD r) : Int) - i))))))))))))) (@Eq (HO c_impl_allPlaysB.outs) (out, true, ()) (c_impl_allPlaysB.out (v, b, r, ())))))))))))) (by kernel_rfl) ?_
  rintro v b r ⟨hb, hr⟩ hl
  have hol := ordersD_len r
  have hF := hb.facts
  have hne : NeB b := ⟨⟨fun e => by have := hF.2.2.1; rw [e] at this; simp at this; omega, by omega⟩, fun e => by have := hF.2.2.2.1; rw [e] at this; simp at this; omega, by omega⟩
  have hu : usedL (List.map (rowsD v b) (ordersD r)) = usedD v b r := rfl
  have hub := usedD_bd (b := b) hr
  refine ⟨⟨hb, hr⟩, bspB (fun h => by simp only [Bool.not_eq_true'] at h; simp only [c_impl_allPlaysB, h]; rfl) (fun hf => ⟨⟨by simp; omega, fun x hx => by have := rows_bd hr x hx; omega⟩, ?_⟩)⟩
  simp only [Bool.not_eq_false'] at hf
  have out0 : ∀ l, l = allD v b r → @Eq (HO c_impl_allPlaysB.outs) (l, true, ()) (c_impl_allPlaysB.out (v, b, r, ())) := fun l h => by subst h; simp only [c_impl_allPlaysB, hf, if_true]
  simp only [hu, List.length_map]
  refine bspD (fun hz => ⟨hne, out0 _ (allD_zero hz).symm⟩) (fun hz => ⟨⟨(by first | trivial | rfl | (and_intros <;> rfl)), ⟨SeenOk.nil v, rfl⟩, by omega, by omega⟩, ?_⟩)
  rintro n m i seen out rows ⟨⟨rfl, rfl, rfl⟩, ⟨⟨hs, hfo⟩, i0, i1⟩⟩
  refine bspD (fun hlt => ?_) (fun hge => ?_)
  · obtain ⟨a, rfl⟩ : ∃ a : Nat, i = a := ⟨i.toNat, by omega⟩
    have ha : a < (ordersD r).length := by omega
    rw [show ((a : Int)).toNat = a from rfl] at hfo ⊢
    have e1 : (List.map (rowsD v b) (ordersD r)).getD a [] = rowsD v b ((ordersD r).getD a []) := by simp [List.getD_eq_getElem?_getD, ha]
    rw [e1]
    have hmem := getD_mem ha []
    have hdo := ordersD_ok hr _ hmem
    have hle := seqN_le (v := v) (b := b) hmem
    have hlen : ((rowsD v b ((ordersD r).getD a [])).length : Int) = seqN v b ((ordersD r).getD a []) + 1 := by simp [rowsD, seqN]
    rw [drop_cons ha []] at hfo
    have e3 : ((a : Int) + 1).toNat = a + 1 := by omega
    refine ⟨⟨by omega, by simp; omega⟩, by simp; omega, bspD (fun hno => ?_) (fun hyes => ?_)⟩
    · rw [selD_cons_no (by omega)] at hfo
      refine ⟨by simp only [inK]; omega, ⟨(by first | trivial | rfl | (and_intros <;> rfl)), ⟨hs, ?_⟩, by omega, by omega⟩, by omega⟩
      rw [e3]; exact hfo
    · have hsq : seqN v b ((ordersD r).getD a []) = usedD v b r := by omega
      have hps : (rowsD v b ((ordersD r).getD a [])).getD (usedD v b r).toNat [] = longD v b ((ordersD r).getD a []) := by rw [← hsq]; exact rows_last _ _ _
      obtain ⟨hpo, hpl⟩ := longD_ok hb hdo
      have hfo2 : List.foldl addP out (longD v b ((ordersD r).getD a []) ++ (if usedD v b r = 1 then [] else List.flatMap (longD v b) (selD v b (usedD v b r) (List.drop (a + 1) (ordersD r))))) = allD v b r := by
        by_cases h1 : usedD v b r = 1
        · rw [if_pos h1]
          rw [h1, selD_cons_one (by omega)] at hfo
          simpa using hfo
        · rw [if_neg h1]
          rw [selD_cons_yes hsq h1] at hfo
          simpa using hfo
      refine ⟨⟨by omega, by omega⟩, by omega, ⟨(by first | trivial | rfl | (and_intros <;> rfl)), ⟨hs, ?_⟩, ⟨by omega, by omega⟩, ⟨by omega, by omega⟩, by first | trivial | rfl⟩, ?_⟩
      · rw [hps]; exact hfo2
      rintro n_1 m_1 i_1 q k seen_1 out_1 rows_1 ps ⟨⟨rfl, rfl, rfl, rfl, rfl⟩, ⟨⟨hs2, hf2⟩, ⟨g0, g1⟩, ⟨k0, k1⟩, hG⟩⟩
      obtain rfl : i_1 = a := by omega
      rw [show ((a : Int)).toNat = a from rfl] at hf2 k1 ⊢
      rw [e1, hps] at hf2 k1 ⊢
      have hlo : out_1.length ≤ 800000 := by
        have h2 := (len_foldl_addP (List.drop k.toNat (longD v b ((ordersD r).getD a [])) ++ (if usedD v b r = 1 then [] else List.flatMap (longD v b) (selD v b (usedD v b r) (List.drop (a + 1) (ordersD r))))) out_1).1
        rw [hf2] at h2
        have h4 := allD_len hb hr
        omega
      refine bspD (fun hlk => ?_) (fun hgk => ?_)
      · obtain ⟨c, rfl⟩ : ∃ c : Nat, k = c := ⟨k.toNat, by omega⟩
        rw [show ((c : Int)).toNat = c from rfl] at hf2 ⊢
        have hc : c < (longD v b ((ordersD r).getD a [])).length := by omega
        have hpc := hpo _ (getD_mem hc ([], [], []))
        have hbd := hpc.1.facts
        rw [drop_cons hc ([], [], []), List.cons_append, List.foldl_cons] at hf2
        have e4 : ((c : Int) + 1).toNat = c + 1 := by omega
        refine ⟨⟨by omega, by omega⟩, hc, ⟨hbd.1, hbd.2.1, by omega⟩, ?_⟩
        rw [hs2.2 _ hpc.1]
        refine bspB (fun hn => ?_) (fun hy => ?_)
        · simp only [Bool.not_eq_true'] at hn
          rw [show addP out_1 _ = out_1 ++ [_] from if_neg (by rw [hn]; decide)] at hf2
          refine ⟨by simp [AB]; omega, by simp only [inK]; omega, ⟨(by first | trivial | rfl | (and_intros <;> rfl)), ⟨hs2.add ⟨hpc.1, by have := hpc.2; omega⟩, ?_⟩, ⟨by omega, by omega⟩, ⟨by omega, by omega⟩, hG⟩, by omega⟩
          rw [e4]; exact hf2
        · simp only [Bool.not_eq_false'] at hy
          rw [show addP out_1 _ = out_1 from if_pos hy] at hf2
          refine ⟨by simp only [inK]; omega, ⟨(by first | trivial | rfl | (and_intros <;> rfl)), ⟨hs2, ?_⟩, ⟨by omega, by omega⟩, ⟨by omega, by omega⟩, hG⟩, by omega⟩
          rw [e4]; exact hf2
      · rw [List.drop_eq_nil_of_le (by omega), List.nil_append] at hf2
        refine bspD (fun h1 => out0 _ ?_) (fun h1 => ?_)
        · rw [if_pos h1] at hf2; exact hf2
        · rw [if_neg h1] at hf2
          refine ⟨by simp only [inK]; omega, ⟨(by first | trivial | rfl | (and_intros <;> rfl)), ⟨hs2, ?_⟩, by omega, by omega⟩, by omega⟩
          rw [e3]; exact hf2
  · rw [List.drop_eq_nil_of_le (by omega), selD_nil] at hfo
    exact out0 _ (by simpa using hfo)
def c_impl_AllPlaysB : Con where
  ins := [(true, .v tVar), (true, .v tBoardB), (true, .v tRoll)]
  outs := [(false, .v (.sl tPlayB)), (false, .v tI)]
  sh := false
  pre := fun _ => True
  out := fun x => ((allPlaysD x.1 x.2.1 x.2.2.1).1, (allPlaysD x.1 x.2.1 x.2.2.1).2, ())
  upd := fun x => x
  eat := false
theorem k_impl_AllPlaysB [B : Base] : ConOk Try.prog 10 c_impl_AllPlaysB := by
  refine fn_okW (C := cxb Try.prog 28 c_impl_AllPlaysB) (cs := [(25, c_impl_checkRoll), (26, c_impl_allPlaysB)]) (res := Try.f10.results.toList) (fun _ => ⟨[], [], []⟩) Try.func10 (by kernel_rfl) rfl rfl rfl tysBOk.look eqTsOk.look (AllCs.okb (l := [(25, c_impl_checkRoll), (26, c_impl_allPlaysB)]) ⟨k_impl_checkRoll, k_impl_allPlaysB, trivial⟩) mixed rfl rfl rfl rfl ?_
  refine of_nf (P := ∀ v : Int × Int × Int × Int, ∀ b : (List Int) × List Int, ∀ r : Int × Int, (True) → ((lensI c_impl_AllPlaysB.ins (v, b, r, ())) → (True ∧ (bsp (decide ((codeD v b r) ≠ (0 : Int))) (@Eq (HO c_impl_AllPlaysB.outs) ([], codeD v b r, ()) (c_impl_AllPlaysB.out (v, b, r, ()))) ((okB v b ∧ rollD v r = true) ∧ (bsp (!(List.all (ordersD r) (fitsP v b))) (@Eq (HO c_impl_AllPlaysB.outs) ([], 3, ()) (c_impl_AllPlaysB.out (v, b, r, ()))) (@Eq (HO c_impl_AllPlaysB.outs) ((if List.all (ordersD r) (fitsP v b) then allD v b r else []), 0, ()) (c_impl_AllPlaysB.out (v, b, r, ()))))))))) (by kernel_rfl) ?_
  rintro v b r hp hl
  refine ⟨trivial, bspD (fun h => ?_) (fun h => ?_)⟩
  · simp only [c_impl_AllPlaysB, allPlaysD, if_pos h]
  · have h0 : codeD v b r = 0 := by simpa using h
    refine ⟨codeD_ok h0, bspB (fun g => ?_) (fun g => ?_)⟩
    · simp only [Bool.not_eq_true'] at g
      simp only [c_impl_AllPlaysB, allPlaysD, if_neg h, g, if_false]; rfl
    · simp only [Bool.not_eq_false'] at g
      simp only [c_impl_AllPlaysB, allPlaysD, if_neg h, g, if_true]
end Go.Proofs.Ytgbfcjnkohhfoaa
