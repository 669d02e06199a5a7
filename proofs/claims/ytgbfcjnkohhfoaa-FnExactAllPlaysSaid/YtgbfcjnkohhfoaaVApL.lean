/-
  The law FnExactAllPlays, in pieces.
-/
import Derived.Test.YtgbfcjnkohhfoaaVApS
import Derived.Test.YtgbfcjnkohhfoaaPiece
namespace Go.Proofs.Ytgbfcjnkohhfoaa
open Go.RowKit
set_option linter.unusedSimpArgs false
set_option linter.unusedVariables false
/-- plays whose k steps lead from b to their boards -/
def FromK (v : DVar) (b : DBoard) (k : Nat) (ps : List DPlay) : Prop := ∀ p, p ∈ ps → p.1.length = k ∧ p.2 = p.1.foldl (afterD v) b
theorem FromK.next {v : DVar} {b : DBoard} {k : Nat} {ps : List DPlay} {d : Int} (h : FromK v b k ps) : FromK v b (k + 1) (nextD v ps d) := fun q hq => by
  rcases mem_foldl_addP hq with hq | hq
  · simp at hq
  obtain ⟨p, hp, hq⟩ := List.mem_flatMap.1 hq
  obtain ⟨s, hs, rfl⟩ := List.mem_map.1 hq
  obtain ⟨h1, h2⟩ := h p hp
  exact ⟨by simp [h1], by simp [← h2]⟩
theorem FromK.last {v : DVar} {b : DBoard} : ∀ {o : List Int} {k : Nat} {ps : List DPlay}, FromK v b k ps → FromK v b (k + (seqD v ps o).length) (lastD ps (seqD v ps o))
  | [], k, ps, h => by simpa [seqD, lastD] using h
  | d :: ds, k, ps, h => by
    simp only [seqD]
    split
    · simpa [lastD] using h
    · have := FromK.last (o := ds) (h.next (d := d))
      simp only [lastD, List.length_cons]
      rw [show k + ((seqD v (nextD v ps d) ds).length + 1) = k + 1 + (seqD v (nextD v ps d) ds).length by omega]
      exact this
theorem longD_fromK (v : DVar) (b : DBoard) (o : List Int) : FromK v b (seqD v (startP b) o).length (longD v b o) := by
  have h : FromK v b 0 (startP b) := fun p hp => by simp only [startP, List.mem_singleton] at hp; subst hp; exact ⟨rfl, rfl⟩
  have := h.last (o := o)
  rw [Nat.zero_add] at this
  exact this
theorem pair_addP {p : DPlay} {out : List DPlay} (h : out.Pairwise (fun p q => p.2 ≠ q.2)) : (addP out p).Pairwise (fun p q => p.2 ≠ q.2) := by
  unfold addP
  split
  · exact h
  · next hn =>
    refine List.pairwise_append.2 ⟨h, List.pairwise_singleton _ _, fun a ha b hb e => ?_⟩
    simp only [List.mem_singleton] at hb
    subst hb
    exact hn (List.any_eq_true.2 ⟨a, ha, decide_eq_true e⟩)
theorem pair_foldl : ∀ {l out : List DPlay}, out.Pairwise (fun p q => p.2 ≠ q.2) → (l.foldl addP out).Pairwise (fun p q => p.2 ≠ q.2)
  | [], _, h => h
  | p :: l, _, h => pair_foldl (l := l) (pair_addP h)
/-- what the marks need of the plays: few and short; boards that differ, of one length; steps as many, that lead to the boards -/
structure ApOk (l : List DPlay) : Prop where
  len : l.length ≤ 781250
  sh : ∀ p, p ∈ l → p.1.length ≤ 4 ∧ p.2.1.length ≤ 25 ∧ p.2.2.length ≤ 25
  ne : ∀ p, p ∈ l → 0 < p.2.1.length ∧ 0 < p.2.2.length
  ds : l.Pairwise (fun p q => p.2 ≠ q.2)
  eq : ∀ p, p ∈ l → ∀ q, q ∈ l → p.1.length = q.1.length ∧ p.2.1.length = q.2.1.length ∧ p.2.2.length = q.2.2.length ∧ p.2.1.length = q.2.2.length ∧ (p.1 = q.1 → p.2 = q.2)
theorem sum3_bd : ∀ {l : List DPlay}, (∀ p, p ∈ l → p.1.length ≤ 4 ∧ p.2.1.length ≤ 25 ∧ p.2.2.length ≤ 25) → sum3 (lens3 l) ≤ 66 * l.length
  | [], _ => by simp [lens3, sum3]
  | p :: l, h => by
    have h1 := h p (by simp)
    have h2 := sum3_bd (l := l) fun x hx => h x (List.mem_cons_of_mem _ hx)
    simp only [lens3, List.map_cons, sum3, tot3, List.length_cons] at h2 ⊢
    omega
theorem ApOk.sum {l : List DPlay} (h : ApOk l) : sum3 (lens3 l) ≤ 51562500 := by
  have := sum3_bd h.sh
  have := h.len
  omega
theorem apD_ok (v : DVar) (b : DBoard) (r : DRoll) : ApOk (allPlaysD v b r).1 := by
  have nil : ApOk [] := ⟨by simp, fun _ h => by simp at h, fun _ h => by simp at h, List.Pairwise.nil, fun _ h => by simp at h⟩
  have hlen := allPlaysD_len v b r
  unfold allPlaysD at hlen ⊢
  split
  · exact nil
  · next h =>
    rw [if_neg h] at hlen
    split
    · next h2 =>
      rw [if_pos h2] at hlen
      obtain ⟨hb, hr⟩ := codeD_ok (by simpa using h : codeD v b r = 0)
      have mem : ∀ p, p ∈ allD v b r → okB v p.2 ∧ p.1.length ≤ 4 ∧ (p.1.length : Int) = usedD v b r ∧ p.2 = p.1.foldl (afterD v) b := by
        intro p hp
        rcases mem_foldl_addP hp with hp | hp
        · simp at hp
        obtain ⟨o, ho, hp⟩ := List.mem_flatMap.1 hp
        have hsel : seqN v b o = usedD v b r := by
          unfold selD at ho
          split at ho
          · have := (List.mem_filter.1 (List.mem_of_mem_take ho)).2; simpa using this
          · have := (List.mem_filter.1 ho).2; simpa using this
        have h1 := (longD_ok hb (ordersD_ok hr o (selD_sub.1 o ho))).1 p hp
        have h2 := longD_fromK v b o p hp
        exact ⟨h1.1, h1.2, by rw [h2.1]; exact hsel, h2.2⟩
      refine ⟨hlen, fun p hp => ?_, fun p hp => ?_, pair_foldl List.Pairwise.nil, fun p hp q hq => ?_⟩
      · have h1 := mem p hp
        have hF := h1.1.facts
        exact ⟨h1.2.1, by omega, by omega⟩
      · have hF := (mem p hp).1.facts
        exact ⟨by omega, by omega⟩
      · have h1 := mem p hp
        have h2 := mem q hq
        have hF := h1.1.facts
        have hG := h2.1.facts
        exact ⟨by omega, by omega, by omega, by omega, fun e => by rw [h1.2.2.2, h2.2.2.2, e]⟩
    · exact nil
def c_laws_FnExactAllPlays : Con where
  ins := [(true, .v tVar), (true, .v tBoard), (true, .v tRoll)]
  outs := [(false, .v .b)]
  sh := false
  pre := fun x => wfD tVar x.1 ∧ wfD tBoard x.2.1 ∧ wfD tRoll x.2.2.1
  out := fun _ => (true, ())
  upd := fun x => x
  eat := false
def L_laws_FnExactAllPlays_A (x : HI c_laws_FnExactAllPlays.ins) : LInv := { sh := ⟨[(3, .one (.ref 0)), (4, .one (.ref 1)), (5, .one (.ref 2)), (8, .one (.ref 3)), (9, .one (.i .i64)), (10, .one (.ref 4))], [(0, .box [.i .i64, .i .i64, .i .i64, .i .i64]), (1, .box [.ref 5, .ref 6]), (2, .box [.i .i64, .i .i64]), (3, .imm tPlay false), (4, .box [.ref 7, .ref 8]), (5, .imm tI false), (6, .imm tI false), (7, .own 2 tI true), (8, .own 2 tI true)]⟩, nx := 9, I := fun _ dat_ => (x.1.1 = dat_.2.1.1 ∧ x.1.2.1 = dat_.2.1.2.1 ∧ x.1.2.2.1 = dat_.2.1.2.2.1 ∧ x.1.2.2.2 = dat_.2.1.2.2.2.1 ∧ x.2.2.1.1 = dat_.2.2.2.1.1 ∧ x.2.2.1.2 = dat_.2.2.2.1.2.1 ∧ x.2.1.1 = dat_.2.2.2.2.2.2.1 ∧ x.2.1.2 = dat_.2.2.2.2.2.2.2.1 ∧ x.2.1.1 = dat_.2.2.2.2.2.2.2.2.1 ∧ x.2.1.2 = dat_.2.2.2.2.2.2.2.2.2.1) ∧ (dat_.2.2.2.2.1 = (allPlaysD x.1 x.2.1 x.2.2.1).1 ∧ dat_.1.2.2.2.2.1 = (allPlaysD x.1 x.2.1 x.2.2.1).2 ∧ dat_.2.2.2.2.2.2.2.2.1 = x.2.1.1 ∧ dat_.2.2.2.2.2.2.2.2.2.1 = x.2.1.2 ∧ List.length x.2.1.1 + List.length x.2.1.2 ≤ 1048576), mu := fun dat_ => 0 }
def L_laws_FnExactAllPlays_B (x : HI c_laws_FnExactAllPlays.ins) : LInv := { sh := ⟨[(3, .one (.ref 7)), (4, .one (.ref 8)), (5, .one (.ref 9)), (8, .one (.ref 3)), (9, .one (.i .i64)), (11, .one (.ref 10)), (14, .one (.i .i64))], [(7, .box [.i .i64, .i .i64, .i .i64, .i .i64]), (8, .box [.ref 5, .ref 6]), (9, .box [.i .i64, .i .i64]), (10, .imm tPlayB true), (3, .imm tPlay false), (5, .imm tI false), (6, .imm tI false)]⟩, nx := 11, I := fun _ dat_ => ((1 : Int) = dat_.1.2.2.2.2.2.2.1 ∧ x.1.1 = dat_.2.1.1 ∧ x.1.2.1 = dat_.2.1.2.1 ∧ x.1.2.2.1 = dat_.2.1.2.2.1 ∧ x.1.2.2.2 = dat_.2.1.2.2.2.1 ∧ x.2.2.1.1 = dat_.2.2.2.1.1 ∧ x.2.2.1.2 = dat_.2.2.2.1.2.1 ∧ x.2.1.1 = dat_.2.2.2.2.2.2.1 ∧ x.2.1.2 = dat_.2.2.2.2.2.2.2.1) ∧ (dat_.2.2.2.2.2.1 = (allPlaysD x.1 x.2.1 x.2.2.1).1 ∧ dat_.1.2.2.2.2.1 = (allPlaysD x.1 x.2.1 x.2.2.1).2 ∧ dat_.2.2.2.2.1 = (allPlaysD x.1 x.2.1 x.2.2.1).1 ∧ dat_.1.2.2.2.2.2.2.1 = 1 ∧ List.length x.2.1.1 + List.length x.2.1.2 ≤ 1048576), mu := fun dat_ => 0 }
def L_laws_FnExactAllPlays_C (x : HI c_laws_FnExactAllPlays.ins) : LInv := { sh := ⟨[(3, .one (.ref 7)), (4, .one (.ref 8)), (5, .one (.ref 9)), (8, .one (.ref 3)), (9, .one (.i .i64)), (11, .one (.ref 10)), (14, .one (.i .i64))], [(7, .box [.i .i64, .i .i64, .i .i64, .i .i64]), (8, .box [.ref 5, .ref 6]), (9, .box [.i .i64, .i .i64]), (10, .imm tPlayB false), (3, .imm tPlay false), (5, .imm tI false), (6, .imm tI false)]⟩, nx := 11, I := fun _ dat_ => (x.1.1 = dat_.2.1.1 ∧ x.1.2.1 = dat_.2.1.2.1 ∧ x.1.2.2.1 = dat_.2.1.2.2.1 ∧ x.1.2.2.2 = dat_.2.1.2.2.2.1 ∧ x.2.2.1.1 = dat_.2.2.2.1.1 ∧ x.2.2.1.2 = dat_.2.2.2.1.2.1 ∧ x.2.1.1 = dat_.2.2.2.2.2.2.1 ∧ x.2.1.2 = dat_.2.2.2.2.2.2.2.1) ∧ (dat_.2.2.2.2.2.1 = (allPlaysD x.1 x.2.1 x.2.2.1).1 ∧ dat_.1.2.2.2.2.1 = (allPlaysD x.1 x.2.1 x.2.2.1).2 ∧ dat_.2.2.2.2.1 = markPl 1 (lens3 (allPlaysD x.1 x.2.1 x.2.2.1).1) ∧ dat_.1.2.2.2.2.2.2.1 = 1 + ((sum3 (lens3 (allPlaysD x.1 x.2.1 x.2.2.1).1) : Nat) : Int) ∧ List.length x.2.1.1 + List.length x.2.1.2 ≤ 1048576), mu := fun dat_ => 0 }
def cs_laws_FnExactAllPlays : List (Nat × Con) := [(5, c_laws_szBoard), (7, c_laws_toVariant), (8, c_laws_toBoard), (9, c_laws_toRoll), (6, c_spec_AllPlays), (10, c_impl_AllPlaysB), (11, c_laws_eqPlayS), (12, c_laws_eqBoard), (13, c_laws_markBoard), (15, c_laws_heldPlayS)]
theorem csOk_laws_FnExactAllPlays [B : Base] : AllCs Try.prog cs_laws_FnExactAllPlays := ⟨k_laws_szBoard, k_laws_toVariant, k_laws_toBoard, k_laws_toRoll, k_spec_AllPlays, k_impl_AllPlaysB, k_laws_eqPlayS, k_laws_eqBoard, k_laws_markBoard, k_laws_heldPlayS, trivial⟩
def an_laws_FnExactAllPlays : Ann := ⟨[], [(5, ⟨[[], [0], [], [0, 1, 2], [], [0, 1, 2, 3, 4], [0, 1, 2, 3, 4, 5], [0, 1, 2, 3, 4, 5, 6], [0, 1, 2, 3, 4, 5, 6, 7], [0, 1, 2, 3, 4, 5, 6, 7], [0, 1, 2, 3, 4, 5, 6, 7, 8], [0, 1, 2, 3, 4, 5, 6, 7, 8, 9, 10]], [[2, 4], [2, 4], [0, 1, 4], [4], [0, 1, 2, 3], [], [], [], [9], [8, 10], [9], []], []⟩), (7, ⟨[[], [0], [], [], [0, 1, 3], [0, 1, 2, 3, 4], [0, 1, 2, 3, 4, 5], [0, 1, 2, 3, 4, 5, 6], [0, 1, 2, 3, 4, 5, 6], [0, 1, 2, 3, 4, 5, 6, 7], [0, 1, 2, 3, 4, 5, 6, 7, 8, 9]], [[2, 3], [2, 3], [0, 1, 3, 4], [0, 1, 2], [2], [], [], [8], [7, 9], [8], []], []⟩), (10, ⟨[[], [], [1], [0, 1, 2], [0, 1, 2, 3]], [[1, 2], [0], [0], [], []], []⟩), (24, ⟨[[], [0], [], [0, 1, 2], [], [0, 1, 2, 3, 4], [0, 1, 2, 3, 4, 5], [0, 1, 2, 3, 4, 5, 6], [0, 1, 2, 3, 4, 5, 6, 7], [0, 1, 2, 3, 4, 5, 6, 7], [0, 1, 2, 3, 4, 5, 6, 7, 8], [0, 1, 2, 3, 4, 5, 6, 7, 8, 9, 10]], [[2, 4], [2, 4], [0, 1, 4], [4], [0, 1, 2, 3], [], [], [], [9], [8, 10], [9], []], []⟩)], []⟩
noncomputable def code_laws_FnExactAllPlays : Code := ((Try.f3.body).getD .skip)
theorem p1_laws_FnExactAllPlays : allHW c_laws_FnExactAllPlays.ins fun x => c_laws_FnExactAllPlays.pre x → match opnI false c_laws_FnExactAllPlays.ins x 0 0 with | some r => lensI c_laws_FnExactAllPlays.ins x → vcTo (cx Try.prog 112 c_laws_FnExactAllPlays) cs_laws_FnExactAllPlays an_laws_FnExactAllPlays 7 (atHead (cx Try.prog 112 c_laws_FnExactAllPlays) (L_laws_FnExactAllPlays_A x) []) (retT 6) code_laws_FnExactAllPlays ⟨r.1, r.2⟩ (nslI c_laws_FnExactAllPlays.ins) | none => False := by
  refine of_nf (P := ∀ v : Int × Int × Int × Int, ∀ b : (List Int) × List Int, ∀ r : Int × Int, (wfD tVar v ∧ wfD tBoard b ∧ wfD tRoll r) → ((lensI c_laws_FnExactAllPlays.ins (v, b, r, ())) → ((-1 ≤ (1048576 : Int) ∧ (1048576 : Int) ≤ 1048576) ∧ (bsp (decide ((szD (List.length b.1 + List.length b.2) (1048576 : Int)) < (0 : Int))) (true = true) (True ∧ ((List.length b.1 ≤ 1099511627776 ∧ List.length b.2 ≤ 1099511627776) ∧ (True ∧ (True ∧ ((List.length b.1 ≤ 1099511627776 ∧ List.length b.2 ≤ 1099511627776) ∧ ((v.1 = v.1 ∧ v.2.1 = v.2.1 ∧ v.2.2.1 = v.2.2.1 ∧ v.2.2.2 = v.2.2.2 ∧ r.1 = r.1 ∧ r.2 = r.2 ∧ b.1 = b.1 ∧ b.2 = b.2 ∧ b.1 = b.1 ∧ b.2 = b.2) ∧ ((allPlaysD v b r).1 = (allPlaysD v b r).1 ∧ (allPlaysD v b r).2 = (allPlaysD v b r).2 ∧ b.1 = b.1 ∧ b.2 = b.2 ∧ List.length b.1 + List.length b.2 ≤ 1048576))))))))))) (by kernel_rfl) ?_
  rintro v b r hwf hl
  refine ⟨by omega, bspD (fun _ => rfl) (fun hs => ?_)⟩
  have hle := szD_ge hs
  exact ⟨trivial, by omega, trivial, trivial, by omega, (by first | trivial | rfl | (and_intros <;> rfl)), rfl, rfl, rfl, rfl, by omega⟩
theorem p2_laws_FnExactAllPlays : allHW c_laws_FnExactAllPlays.ins fun x => allS (L_laws_FnExactAllPlays_A x).sh fun d => (L_laws_FnExactAllPlays_A x).I [] d → vcTo { cx Try.prog 112 c_laws_FnExactAllPlays with pins := [3, 5, 6] } cs_laws_FnExactAllPlays an_laws_FnExactAllPlays 17 (atHead { cx Try.prog 112 c_laws_FnExactAllPlays with pins := [3, 5, 6] } (L_laws_FnExactAllPlays_B x) []) (retT 6) (restAt 7 code_laws_FnExactAllPlays) ((L_laws_FnExactAllPlays_A x).sh.mk' d) (L_laws_FnExactAllPlays_A x).nx := by
  refine of_nf (P := ∀ v : Int × Int × Int × Int, ∀ b : (List Int) × List Int, ∀ r : Int × Int, ∀ wc : Int, ∀ t3_0 : Int, ∀ t3_1 : Int, ∀ t3_2 : Int, ∀ t3_3 : Int, ∀ t5_0 : Int, ∀ t5_1 : Int, ∀ w : List ((List (Int × Int × Int × Bool)) × (List Int) × List Int), ∀ bx_0 : List Int, ∀ bx_1 : List Int, ∀ x1_0 : List Int, ∀ x1_1 : List Int, ((v.1 = t3_0 ∧ v.2.1 = t3_1 ∧ v.2.2.1 = t3_2 ∧ v.2.2.2 = t3_3 ∧ r.1 = t5_0 ∧ r.2 = t5_1 ∧ b.1 = bx_0 ∧ b.2 = bx_1 ∧ b.1 = x1_0 ∧ b.2 = x1_1) ∧ (w = (allPlaysD v b r).1 ∧ wc = (allPlaysD v b r).2 ∧ x1_0 = b.1 ∧ x1_1 = b.2 ∧ List.length b.1 + List.length b.2 ≤ 1048576)) → (True ∧ (True ∧ (True ∧ (True ∧ (bsp (!(decide ((allPlaysD (t3_0, t3_1, t3_2, t3_3) (x1_0, x1_1) (t5_0, t5_1)).1 = w))) (false = true) (bsp (decide ((allPlaysD (t3_0, t3_1, t3_2, t3_3) (x1_0, x1_1) (t5_0, t5_1)).2 ≠ wc)) (false = true) ((List.length (bx_0, bx_1).1 ≤ 1099511627776 ∧ List.length (bx_0, bx_1).2 ≤ 1099511627776) ∧ (True ∧ (bsp (!(decide ((x1_0, x1_1) = (bx_0, bx_1)))) (false = true) ((0 ≤ (1 : Int) ∧ (1 : Int) + (List.length (x1_0, x1_1).1 : Int) ≤ 1099511627776 ∧ List.length (x1_0, x1_1).2 ≤ 1099511627776) ∧ (bsp (decide (((1 : Int) + (List.length (x1_0, x1_1).1 : Int) + (List.length (x1_0, x1_1).2 : Int)) < (0 : Int))) (false = true) (True ∧ (bsp (!(decide ((allPlaysD (t3_0, t3_1, t3_2, t3_3) (x1_0, x1_1) (t5_0, t5_1)).1 = w))) (false = true) (bsp (decide ((allPlaysD (t3_0, t3_1, t3_2, t3_3) (x1_0, x1_1) (t5_0, t5_1)).2 ≠ wc)) (false = true) (((1 : Int) = 1 ∧ v.1 = t3_0 ∧ v.2.1 = t3_1 ∧ v.2.2.1 = t3_2 ∧ v.2.2.2 = t3_3 ∧ r.1 = t5_0 ∧ r.2 = t5_1 ∧ b.1 = bx_0 ∧ b.2 = bx_1) ∧ (w = (allPlaysD v b r).1 ∧ wc = (allPlaysD v b r).2 ∧ (allPlaysD (t3_0, t3_1, t3_2, t3_3) (x1_0, x1_1) (t5_0, t5_1)).1 = (allPlaysD v b r).1 ∧ (1 : Int) = 1 ∧ List.length b.1 + List.length b.2 ≤ 1048576))))))))))))))))) (by kernel_rfl) ?_
  rintro v b r wc t3_0 t3_1 t3_2 t3_3 t5_0 t5_1 w bx_0 bx_1 x1_0 x1_1 ⟨⟨rfl, rfl, rfl, rfl, rfl, rfl, rfl, rfl, rfl, rfl⟩, hh⟩
  obtain ⟨hw, hwc, -, -, hp⟩ := hh
  subst hw; subst hwc
  simp only [Prod.eta]
  refine ⟨trivial, trivial, trivial, trivial, bspB (fun h => by simp at h) (fun _ => bspD (fun h => absurd rfl h) (fun _ => ⟨by omega, trivial, bspB (fun h => by simp at h) (fun _ => ⟨⟨by omega, by omega, by omega⟩, bspD (fun h => absurd h (by omega)) (fun _ => ⟨trivial, bspB (fun h => by simp at h) (fun _ => bspD (fun h => absurd rfl h) (fun _ => ⟨(by first | trivial | rfl | (and_intros <;> rfl)), trivial, trivial, trivial, trivial, hp⟩))⟩)⟩)⟩))⟩
theorem p3_laws_FnExactAllPlays : allHW c_laws_FnExactAllPlays.ins fun x => allS (L_laws_FnExactAllPlays_C x).sh fun d => (L_laws_FnExactAllPlays_C x).I [] d → vc (cx Try.prog 112 c_laws_FnExactAllPlays) cs_laws_FnExactAllPlays an_laws_FnExactAllPlays (restAt 18 code_laws_FnExactAllPlays) 0 [] ((L_laws_FnExactAllPlays_C x).sh.mk' d) (L_laws_FnExactAllPlays_C x).nx (retT 6) := by
  refine of_nf (P := ∀ v : Int × Int × Int × Int, ∀ b : (List Int) × List Int, ∀ r : Int × Int, ∀ wc_2 : Int, ∀ m_1 : Int, ∀ t3_0x2 : Int, ∀ t3_1x2 : Int, ∀ t3_2x2 : Int, ∀ t3_3x2 : Int, ∀ t5_0x2 : Int, ∀ t5_1x2 : Int, ∀ g_1 : List ((List (Int × Int × Int × Bool)) × (List Int) × List Int), ∀ w_2 : List ((List (Int × Int × Int × Bool)) × (List Int) × List Int), ∀ bx_0x2 : List Int, ∀ bx_1x2 : List Int, ((v.1 = t3_0x2 ∧ v.2.1 = t3_1x2 ∧ v.2.2.1 = t3_2x2 ∧ v.2.2.2 = t3_3x2 ∧ r.1 = t5_0x2 ∧ r.2 = t5_1x2 ∧ b.1 = bx_0x2 ∧ b.2 = bx_1x2) ∧ (w_2 = (allPlaysD v b r).1 ∧ wc_2 = (allPlaysD v b r).2 ∧ g_1 = markPl 1 (lens3 (allPlaysD v b r).1) ∧ m_1 = 1 + ((sum3 (lens3 (allPlaysD v b r).1) : Nat) : Int) ∧ List.length b.1 + List.length b.2 ≤ 1048576)) → ((g_1 = markPl (1 : Int) (lens3 g_1) ∧ 0 ≤ (1 : Int) ∧ (1 : Int) + ((sum3 (lens3 g_1) : Nat) : Int) ≤ 1099511627776) ∧ (bsp (decide (((1 : Int) + ((sum3 (lens3 g_1) : Nat) : Int)) < (0 : Int))) (false = true) (bsp (decide (((1 : Int) + ((sum3 (lens3 g_1) : Nat) : Int)) ≠ m_1)) (false = true) (True ∧ ((List.length (bx_0x2, bx_1x2).1 ≤ 1099511627776 ∧ List.length (bx_0x2, bx_1x2).2 ≤ 1099511627776) ∧ (True ∧ (True ∧ (True ∧ (bsp (!(decide ((allPlaysD (t3_0x2, t3_1x2, t3_2x2, t3_3x2) (bx_0x2, bx_1x2) (t5_0x2, t5_1x2)).1 = w_2))) (false = true) (bsp (decide ((allPlaysD (t3_0x2, t3_1x2, t3_2x2, t3_3x2) (bx_0x2, bx_1x2) (t5_0x2, t5_1x2)).2 ≠ wc_2)) (false = true) ((g_1 = markPl (1 : Int) (lens3 g_1) ∧ 0 ≤ (1 : Int) ∧ (1 : Int) + ((sum3 (lens3 g_1) : Nat) : Int) ≤ 1099511627776) ∧ (bsp (decide (((1 : Int) + ((sum3 (lens3 g_1) : Nat) : Int)) < (0 : Int))) (false = true) (bsp (decide (((1 : Int) + ((sum3 (lens3 g_1) : Nat) : Int)) ≠ m_1)) (false = true) (true = true))))))))))))))) (by kernel_rfl) ?_
  rintro v b r wc_2 m_1 t3_0x2 t3_1x2 t3_2x2 t3_3x2 t5_0x2 t5_1x2 g_1 w_2 bx_0x2 bx_1x2 ⟨⟨rfl, rfl, rfl, rfl, rfl, rfl, rfl, rfl⟩, hh⟩
  obtain ⟨hw, hwc, hg, hm, hp⟩ := hh
  subst hw; subst hwc; subst hg; subst hm
  have hs := (apD_ok v b r).sum
  generalize hB : allPlaysD v b r = X at *
  have e : lens3 (markPl 1 (lens3 X.1)) = lens3 X.1 := markPl_lens _ _
  simp only [Prod.eta, hB, e]
  have hz : 0 ≤ (1 : Int) ∧ 1 + ((sum3 (lens3 X.1) : Nat) : Int) ≤ 1099511627776 := by omega
  refine ⟨⟨trivial, hz⟩, bspD (fun h => absurd h (by omega)) (fun _ => bspD (fun h => absurd rfl h) (fun _ => ⟨trivial, by omega, trivial, trivial, trivial, bspB (fun h => by simp at h) (fun _ => bspD (fun h => absurd rfl h) (fun _ => ⟨⟨trivial, hz⟩, bspD (fun h => absurd h (by omega)) (fun _ => bspD (fun h => absurd rfl h) (fun _ => trivial))⟩))⟩))⟩
end Go.Proofs.Ytgbfcjnkohhfoaa
