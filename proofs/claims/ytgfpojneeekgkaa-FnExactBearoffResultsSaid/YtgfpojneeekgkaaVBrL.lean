/-
  The law FnExactBearoffResults, in pieces.
-/
import Derived.Test.YtgfpojneeekgkaaVBrS
import Derived.Test.YtgfpojneeekgkaaPiece
namespace Go.Proofs.Ytgfpojneeekgkaa
open Go.RowKit
set_option linter.unusedSimpArgs false
set_option linter.unusedVariables false
theorem sumN_bd {n : Nat} : ∀ {l : List (List Int)}, (∀ q, q ∈ l → q.length ≤ n) → sumN (lensL l) ≤ n * l.length
  | [], _ => by simp [lensL, sumN]
  | q :: l, h => by
    have h1 := h q (by simp)
    have h2 := sumN_bd (l := l) fun x hx => h x (List.mem_cons_of_mem _ hx)
    simp only [lensL, List.map_cons, sumN, List.length_cons] at h2 ⊢
    rw [Nat.mul_add]
    have := h2
    omega
theorem brD_ok (v : DVar) (p : List Int) (r : DRoll) : (∃ n, LenL n (brD v p r).1) ∧ (brD v p r).1.length ≤ 663552 ∧ sumN (lensL (brD v p r).1) ≤ 15925248 ∧ (brD v p r).1.Pairwise (fun x y => x ≠ y) := by
  unfold brD
  split
  · exact ⟨⟨0, fun _ h => by simp at h⟩, by simp, by simp [lensL, sumN], List.Pairwise.nil⟩
  · next h =>
    split
    · exact ⟨⟨0, fun _ h => by simp at h⟩, by simp, by simp [lensL, sumN], List.Pairwise.nil⟩
    · next g =>
      have h0 : codeP v p = 0 := Decidable.not_not.1 h
      have g' : rollD v r = true := by simpa using g
      have hb := (br_ok h0 g').1
      have hok := resP_ok hb.ok hb.lo hb.mid
      have hl := resP_len hb
      have hs := sumN_bd (n := 24) (l := resP p r) fun q hq => by have := (hok q hq).len; have := hb.n; omega
      refine ⟨⟨p.length, hok.len⟩, hl, by show sumN (lensL (resP p r)) ≤ 15925248; omega, ?_⟩
      have hd : ∀ o, o ∈ ordP r → LenL p.length (reachP o p) := fun o ho => reachP_len (ordP_dice hb.lo hb.mid o ho).1 hb.ok
      have hc := (canonD_all (n := p.length) (l := (ordP r).flatMap fun o => reachP o p) fun q hq => by
        obtain ⟨o, ho, hqo⟩ := List.mem_flatMap.1 hq
        exact hd o ho q hqo).1
      exact hc.imp fun {a b} hab e => by subst e; rw [befD_irr] at hab; cases hab
def c_laws_FnExactBearoffResults : Con where
  ins := [(true, .v tVar), (false, .v tSI), (true, .v tRoll)]
  outs := [(false, .v .b)]
  sh := false
  pre := fun x => wfD tVar x.1 ∧ wfD tSI x.2.1 ∧ wfD tRoll x.2.2.1
  out := fun _ => (true, ())
  upd := fun x => x
  eat := false
def L_laws_FnExactBearoffResults_A (x : HI c_laws_FnExactBearoffResults.ins) : LInv := { sh := ⟨[(1, .one (.ref 0)), (3, .one (.ref 1)), (5, .one (.ref 2)), (7, .one (.ref 3)), (8, .one (.i .i64)), (9, .one (.ref 4))], [(0, .imm tI false), (1, .box [.i .i64, .i .i64, .i .i64, .i .i64]), (2, .box [.i .i64, .i .i64]), (3, .imm tSI false), (4, .own 2 tI true)]⟩, nx := 5, I := fun _ dat_ => (x.2.1 = dat_.2.1 ∧ x.1.1 = dat_.2.2.1.1 ∧ x.1.2.1 = dat_.2.2.1.2.1 ∧ x.1.2.2.1 = dat_.2.2.1.2.2.1 ∧ x.1.2.2.2 = dat_.2.2.1.2.2.2.1 ∧ x.2.2.1.1 = dat_.2.2.2.1.1 ∧ x.2.2.1.2 = dat_.2.2.2.1.2.1 ∧ x.2.1 = dat_.2.2.2.2.2.1) ∧ (dat_.2.2.2.2.1 = (brD x.1 x.2.1 x.2.2.1).1 ∧ dat_.1.2.2.2.2.1 = (brD x.1 x.2.1 x.2.2.1).2 ∧ dat_.2.2.2.2.2.1 = x.2.1 ∧ List.length x.2.1 ≤ 1048576), mu := fun dat_ => 0 }
def L_laws_FnExactBearoffResults_B (x : HI c_laws_FnExactBearoffResults.ins) : LInv := { sh := ⟨[(1, .one (.ref 0)), (3, .one (.ref 4)), (5, .one (.ref 5)), (7, .one (.ref 3)), (8, .one (.i .i64)), (10, .one (.ref 6)), (13, .one (.i .i64))], [(4, .box [.i .i64, .i .i64, .i .i64, .i .i64]), (5, .box [.i .i64, .i .i64]), (6, .own 24 tSI true), (0, .imm tI false), (3, .imm tSI false)]⟩, nx := 7, I := fun _ dat_ => ((1 : Int) = dat_.1.2.2.2.2.2.2.1 ∧ x.1.1 = dat_.2.1.1 ∧ x.1.2.1 = dat_.2.1.2.1 ∧ x.1.2.2.1 = dat_.2.1.2.2.1 ∧ x.1.2.2.2 = dat_.2.1.2.2.2.1 ∧ x.2.2.1.1 = dat_.2.2.1.1 ∧ x.2.2.1.2 = dat_.2.2.1.2.1 ∧ x.2.1 = dat_.2.2.2.2.1) ∧ (dat_.2.2.2.2.2.1 = (brD x.1 x.2.1 x.2.2.1).1 ∧ dat_.1.2.2.2.2.1 = (brD x.1 x.2.1 x.2.2.1).2 ∧ dat_.2.2.2.1 = (brD x.1 x.2.1 x.2.2.1).1 ∧ dat_.1.2.2.2.2.2.2.1 = 1 ∧ List.length x.2.1 ≤ 1048576), mu := fun dat_ => 0 }
def L_laws_FnExactBearoffResults_C (x : HI c_laws_FnExactBearoffResults.ins) : LInv := { sh := ⟨[(1, .one (.ref 0)), (3, .one (.ref 4)), (5, .one (.ref 5)), (7, .one (.ref 3)), (8, .one (.i .i64)), (10, .one (.ref 6)), (13, .one (.i .i64))], [(4, .box [.i .i64, .i .i64, .i .i64, .i .i64]), (5, .box [.i .i64, .i .i64]), (6, .own 24 tSI false), (0, .imm tI false), (3, .imm tSI false)]⟩, nx := 7, I := fun _ dat_ => (x.1.1 = dat_.2.1.1 ∧ x.1.2.1 = dat_.2.1.2.1 ∧ x.1.2.2.1 = dat_.2.1.2.2.1 ∧ x.1.2.2.2 = dat_.2.1.2.2.2.1 ∧ x.2.2.1.1 = dat_.2.2.1.1 ∧ x.2.2.1.2 = dat_.2.2.1.2.1 ∧ x.2.1 = dat_.2.2.2.2.1) ∧ (dat_.2.2.2.2.2.1 = (brD x.1 x.2.1 x.2.2.1).1 ∧ dat_.1.2.2.2.2.1 = (brD x.1 x.2.1 x.2.2.1).2 ∧ dat_.2.2.2.1 = markLL 1 (lensL (brD x.1 x.2.1 x.2.2.1).1) ∧ dat_.1.2.2.2.2.2.2.1 = 1 + ((sumN (lensL (brD x.1 x.2.1 x.2.2.1).1) : Nat) : Int) ∧ List.length x.2.1 ≤ 1048576), mu := fun dat_ => 0 }
def cs_laws_FnExactBearoffResults : List (Nat × Con) := [(8, c_laws_toVariant), (9, c_laws_toInt64S), (10, c_laws_toRoll), (7, c_spec_BearoffResultsv), (11, c_impl_BearoffResults), (12, c_laws_eqInt64SS), (13, c_laws_eqInt64S), (14, c_laws_markInt64S), (16, c_laws_heldInt64SS)]
theorem csOk_laws_FnExactBearoffResults [B : Base] : AllCs Try.prog cs_laws_FnExactBearoffResults := ⟨k_laws_toVariant, k_laws_toInt64S, k_laws_toRoll, k_spec_BearoffResultsv, k_impl_BearoffResults, k_laws_eqInt64SS, k_laws_eqInt64S, k_laws_markInt64S, k_laws_heldInt64SS, trivial⟩
def an_laws_FnExactBearoffResults : Ann := ⟨[], [(3, ⟨[[], [0], [], [0, 1, 2], [], [0, 1, 2, 3, 4], [0, 1, 2, 3, 4, 5], [0, 1, 2, 3, 4, 5, 6], [0, 1, 2, 3, 4, 5, 6, 7], [0, 1, 2, 3, 4, 5, 6, 7], [0, 1, 2, 3, 4, 5, 6, 7, 8], [0, 1, 2, 3, 4, 5, 6, 7, 8, 9, 10]], [[2, 4], [2, 4], [0, 1, 4], [4], [0, 1, 2, 3], [], [], [], [9], [8, 10], [9], []], []⟩), (5, ⟨[[], [0], [], [], [0, 1, 3], [0, 1, 2, 3, 4], [0, 1, 2, 3, 4, 5], [0, 1, 2, 3, 4, 5, 6], [0, 1, 2, 3, 4, 5, 6], [0, 1, 2, 3, 4, 5, 6, 7], [0, 1, 2, 3, 4, 5, 6, 7, 8, 9]], [[2, 3], [2, 3], [0, 1, 3, 4], [0, 1, 2], [2], [], [], [8], [7, 9], [8], []], []⟩), (22, ⟨[[], [0], [], [0, 1, 2], [], [0, 1, 2, 3, 4], [0, 1, 2, 3, 4, 5], [0, 1, 2, 3, 4, 5, 6], [0, 1, 2, 3, 4, 5, 6, 7], [0, 1, 2, 3, 4, 5, 6, 7], [0, 1, 2, 3, 4, 5, 6, 7, 8], [0, 1, 2, 3, 4, 5, 6, 7, 8, 9, 10]], [[2, 4], [2, 4], [0, 1, 4], [4], [0, 1, 2, 3], [], [], [], [9], [8, 10], [9], []], []⟩)], []⟩
noncomputable def code_laws_FnExactBearoffResults : Code := ((Try.f3.body).getD .skip)
theorem p1_laws_FnExactBearoffResults : allHW c_laws_FnExactBearoffResults.ins fun x => c_laws_FnExactBearoffResults.pre x → match opnI false c_laws_FnExactBearoffResults.ins x 0 0 with | some r => lensI c_laws_FnExactBearoffResults.ins x → vcTo (cx Try.prog 109 c_laws_FnExactBearoffResults) cs_laws_FnExactBearoffResults an_laws_FnExactBearoffResults 5 (atHead (cx Try.prog 109 c_laws_FnExactBearoffResults) (L_laws_FnExactBearoffResults_A x) []) (retT 6) code_laws_FnExactBearoffResults ⟨r.1, r.2⟩ (nslI c_laws_FnExactBearoffResults.ins) | none => False := by
  refine of_nf (P := ∀ v : Int × Int × Int × Int, ∀ p : List Int, ∀ r : Int × Int, (wfD tVar v ∧ wfD tSI p ∧ wfD tRoll r) → ((lensI c_laws_FnExactBearoffResults.ins (v, p, r, ())) → (bsp (decide ((1048576 : Int) < (p.length : Int))) (true = true) (True ∧ ((List.length p ≤ 1099511627776) ∧ (True ∧ (True ∧ ((List.length p ≤ 1099511627776) ∧ ((p = p ∧ v.1 = v.1 ∧ v.2.1 = v.2.1 ∧ v.2.2.1 = v.2.2.1 ∧ v.2.2.2 = v.2.2.2 ∧ r.1 = r.1 ∧ r.2 = r.2 ∧ p = p) ∧ ((brD v p r).1 = (brD v p r).1 ∧ (brD v p r).2 = (brD v p r).2 ∧ p = p ∧ List.length p ≤ 1048576)))))))))) (by kernel_rfl) ?_
  rintro v p r hw hl
  refine bspD (fun _ => rfl) (fun hs => ⟨trivial, by omega, trivial, trivial, by omega, (by first | trivial | rfl | (and_intros <;> rfl)), rfl, rfl, rfl, by omega⟩)
theorem p2_laws_FnExactBearoffResults : allHW c_laws_FnExactBearoffResults.ins fun x => allS (L_laws_FnExactBearoffResults_A x).sh fun d => (L_laws_FnExactBearoffResults_A x).I [] d → vcTo { cx Try.prog 109 c_laws_FnExactBearoffResults with pins := [0, 3] } cs_laws_FnExactBearoffResults an_laws_FnExactBearoffResults 15 (atHead { cx Try.prog 109 c_laws_FnExactBearoffResults with pins := [0, 3] } (L_laws_FnExactBearoffResults_B x) []) (retT 6) (restAt 5 code_laws_FnExactBearoffResults) ((L_laws_FnExactBearoffResults_A x).sh.mk' d) (L_laws_FnExactBearoffResults_A x).nx := by
  refine of_nf (P := ∀ v : Int × Int × Int × Int, ∀ p : List Int, ∀ r : Int × Int, ∀ wc : Int, ∀ ps : List Int, ∀ t3_0 : Int, ∀ t3_1 : Int, ∀ t3_2 : Int, ∀ t3_3 : Int, ∀ t5_0 : Int, ∀ t5_1 : Int, ∀ w : List (List Int), ∀ x1 : List Int, ((p = ps ∧ v.1 = t3_0 ∧ v.2.1 = t3_1 ∧ v.2.2.1 = t3_2 ∧ v.2.2.2 = t3_3 ∧ r.1 = t5_0 ∧ r.2 = t5_1 ∧ p = x1) ∧ (w = (brD v p r).1 ∧ wc = (brD v p r).2 ∧ x1 = p ∧ List.length p ≤ 1048576)) → (True ∧ (True ∧ (True ∧ (True ∧ (bsp (!(decide ((brD (t3_0, t3_1, t3_2, t3_3) x1 (t5_0, t5_1)).1 = w))) (false = true) (bsp (decide ((brD (t3_0, t3_1, t3_2, t3_3) x1 (t5_0, t5_1)).2 ≠ wc)) (false = true) ((List.length ps ≤ 1099511627776) ∧ (True ∧ (bsp (!(decide (x1 = ps))) (false = true) ((0 ≤ (1 : Int) ∧ (1 : Int) ≤ 1099511627776 ∧ List.length x1 ≤ 1099511627776) ∧ (bsp (decide (((1 : Int) + (List.length x1 : Int)) < (0 : Int))) (false = true) (True ∧ (bsp (!(decide ((brD (t3_0, t3_1, t3_2, t3_3) x1 (t5_0, t5_1)).1 = w))) (false = true) (bsp (decide ((brD (t3_0, t3_1, t3_2, t3_3) x1 (t5_0, t5_1)).2 ≠ wc)) (false = true) (((1 : Int) = 1 ∧ v.1 = t3_0 ∧ v.2.1 = t3_1 ∧ v.2.2.1 = t3_2 ∧ v.2.2.2 = t3_3 ∧ r.1 = t5_0 ∧ r.2 = t5_1 ∧ p = ps) ∧ (w = (brD v p r).1 ∧ wc = (brD v p r).2 ∧ (brD (t3_0, t3_1, t3_2, t3_3) x1 (t5_0, t5_1)).1 = (brD v p r).1 ∧ (1 : Int) = 1 ∧ List.length p ≤ 1048576))))))))))))))))) (by kernel_rfl) ?_
  rintro v p r wc ps t3_0 t3_1 t3_2 t3_3 t5_0 t5_1 w x1 ⟨⟨rfl, rfl, rfl, rfl, rfl, rfl, rfl, rfl⟩, ⟨hw, hwc, -, hp⟩⟩
  subst hw; subst hwc
  simp only [Prod.eta]
  refine ⟨trivial, trivial, trivial, trivial, bspB (fun h => by simp at h) (fun _ => bspD (fun h => absurd rfl h) (fun _ => ⟨by omega, trivial, bspB (fun h => by simp at h) (fun _ => ⟨⟨by omega, by omega, by omega⟩, bspD (fun h => absurd h (by omega)) (fun _ => ⟨trivial, bspB (fun h => by simp at h) (fun _ => bspD (fun h => absurd rfl h) (fun _ => ⟨(by first | trivial | rfl | (and_intros <;> rfl)), trivial, trivial, trivial, trivial, hp⟩))⟩)⟩)⟩))⟩
theorem p3_laws_FnExactBearoffResults : allHW c_laws_FnExactBearoffResults.ins fun x => allS (L_laws_FnExactBearoffResults_C x).sh fun d => (L_laws_FnExactBearoffResults_C x).I [] d → vc (cx Try.prog 109 c_laws_FnExactBearoffResults) cs_laws_FnExactBearoffResults an_laws_FnExactBearoffResults (restAt 16 code_laws_FnExactBearoffResults) 0 [] ((L_laws_FnExactBearoffResults_C x).sh.mk' d) (L_laws_FnExactBearoffResults_C x).nx (retT 6) := by
  refine of_nf (P := ∀ v : Int × Int × Int × Int, ∀ p : List Int, ∀ r : Int × Int, ∀ wc_2 : Int, ∀ m_1 : Int, ∀ t3_0x2 : Int, ∀ t3_1x2 : Int, ∀ t3_2x2 : Int, ∀ t3_3x2 : Int, ∀ t5_0x2 : Int, ∀ t5_1x2 : Int, ∀ g_1 : List (List Int), ∀ ps_2 : List Int, ∀ w_2 : List (List Int), ((v.1 = t3_0x2 ∧ v.2.1 = t3_1x2 ∧ v.2.2.1 = t3_2x2 ∧ v.2.2.2 = t3_3x2 ∧ r.1 = t5_0x2 ∧ r.2 = t5_1x2 ∧ p = ps_2) ∧ (w_2 = (brD v p r).1 ∧ wc_2 = (brD v p r).2 ∧ g_1 = markLL 1 (lensL (brD v p r).1) ∧ m_1 = 1 + ((sumN (lensL (brD v p r).1) : Nat) : Int) ∧ List.length p ≤ 1048576)) → ((g_1 = markLL (1 : Int) (lensL g_1) ∧ 0 ≤ (1 : Int) ∧ (1 : Int) + ((sumN (lensL g_1) : Nat) : Int) ≤ 1099511627776) ∧ (bsp (decide (((1 : Int) + ((sumN (lensL g_1) : Nat) : Int)) < (0 : Int))) (false = true) (bsp (decide (((1 : Int) + ((sumN (lensL g_1) : Nat) : Int)) ≠ m_1)) (false = true) (True ∧ ((List.length ps_2 ≤ 1099511627776) ∧ (True ∧ (True ∧ (True ∧ (bsp (!(decide ((brD (t3_0x2, t3_1x2, t3_2x2, t3_3x2) ps_2 (t5_0x2, t5_1x2)).1 = w_2))) (false = true) (bsp (decide ((brD (t3_0x2, t3_1x2, t3_2x2, t3_3x2) ps_2 (t5_0x2, t5_1x2)).2 ≠ wc_2)) (false = true) ((g_1 = markLL (1 : Int) (lensL g_1) ∧ 0 ≤ (1 : Int) ∧ (1 : Int) + ((sumN (lensL g_1) : Nat) : Int) ≤ 1099511627776) ∧ (bsp (decide (((1 : Int) + ((sumN (lensL g_1) : Nat) : Int)) < (0 : Int))) (false = true) (bsp (decide (((1 : Int) + ((sumN (lensL g_1) : Nat) : Int)) ≠ m_1)) (false = true) (true = true))))))))))))))) (by kernel_rfl) ?_
  rintro v p r wc_2 m_1 t3_0x2 t3_1x2 t3_2x2 t3_3x2 t5_0x2 t5_1x2 g_1 ps_2 w_2 ⟨⟨rfl, rfl, rfl, rfl, rfl, rfl, rfl⟩, ⟨hw, hwc, hg, hm, hp⟩⟩
  subst hw; subst hwc; subst hg; subst hm
  obtain ⟨-, -, hs, -⟩ := brD_ok v p r
  generalize hB : brD v p r = X at *
  have e : lensL (markLL 1 (lensL X.1)) = lensL X.1 := markLL_len _ _
  simp only [Prod.eta, hB, e]
  have hz : 0 ≤ (1 : Int) ∧ 1 + ((sumN (lensL X.1) : Nat) : Int) ≤ 1099511627776 := by omega
  refine ⟨⟨trivial, hz⟩, bspD (fun h => absurd h (by omega)) (fun _ => bspD (fun h => absurd rfl h) (fun _ => ⟨trivial, by omega, trivial, trivial, trivial, bspB (fun h => by simp at h) (fun _ => bspD (fun h => absurd rfl h) (fun _ => ⟨⟨trivial, hz⟩, bspD (fun h => absurd h (by omega)) (fun _ => bspD (fun h => absurd rfl h) (fun _ => trivial))⟩))⟩))⟩
end Go.Proofs.Ytgfpojneeekgkaa
