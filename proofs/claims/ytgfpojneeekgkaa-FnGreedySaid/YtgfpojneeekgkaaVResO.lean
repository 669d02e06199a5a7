/-
  The law FnGreedy.
-/
import Derived.Test.YtgfpojneeekgkaaVResM
import Derived.Test.YtgfpojneeekgkaaVResN
namespace Go.Proofs.Ytgfpojneeekgkaa
open Go.RowKit
set_option linter.unusedSimpArgs false
set_option linter.unusedVariables false
def c_laws_FnGreedy : Con where
  ins := [(false, .v (.sl (.i .u8)))]
  outs := [(false, .v .b)]
  sh := false
  pre := fun x => wfD (TC.sl (.i .u8)) x.1
  out := fun _ => (true, ())
  upd := fun x => x
  eat := false
theorem k_laws_FnGreedy [B : Base] : ConOk Try.prog 6 c_laws_FnGreedy := by
  refine fn_ok (C := cx Try.prog 88 c_laws_FnGreedy) (cs := [(20, c_laws_big), (25, c_spec_DrawGreedyResult), (18, c_impl_GreedyResult), (17, c_spec_GreedyResult), (26, c_laws_likeInts), (11, c_impl_BearoffResults), (27, c_laws_w6Sum)]) (res := Try.f6.results.toList) (fun x => ⟨[{ sh := ⟨[(6, .one (.ref 0)), (10, .one (.ref 1)), (11, .one (.i .i64)), (12, .one .b), (13, .one (.i .i64))], [(0, .imm tI true), (1, .own 24 tSI true)]⟩, nx := 2, I := fun _ dat_ => ((brD (drawBR x.1).1 (drawBR x.1).2.1 (drawBR x.1).2.2).2 = dat_.1.2.2.1 ∧ (grD (drawBR x.1).1 (drawBR x.1).2.1 (drawBR x.1).2.2).1 = dat_.2.1 ∧ (brD (drawBR x.1).1 (drawBR x.1).2.1 (drawBR x.1).2.2).1 = dat_.2.2.1) ∧ (dat_.1.2.2.2.1 = decide (dat_.2.1 ∈ List.take (Int.toNat dat_.1.2.2.2.2.1) dat_.2.2.1) ∧ 0 ≤ dat_.1.2.2.2.2.1 ∧ dat_.1.2.2.2.2.1 ≤ (List.length dat_.2.2.1 : Int)), mu := fun dat_ => Int.toNat ((List.length dat_.2.2.1 : Int) - dat_.1.2.2.2.2.1) }], [], []⟩) Try.func6 (by kernel_rfl) rfl rfl rfl tysOk.look eqTsOk.look (AllCs.ok (l := [(20, c_laws_big), (25, c_spec_DrawGreedyResult), (18, c_impl_GreedyResult), (17, c_spec_GreedyResult), (26, c_laws_likeInts), (11, c_impl_BearoffResults), (27, c_laws_w6Sum)]) ⟨k_laws_big, k_spec_DrawGreedyResult, k_impl_GreedyResult, k_spec_GreedyResult, k_laws_likeInts, k_impl_BearoffResults, k_laws_w6Sum, trivial⟩) mixed rfl rfl rfl rfl ?_
  refine of_nf (P := ∀ c : List Int, (wfD (TC.sl (.i .u8)) c) → ((lensI c_laws_FnGreedy.ins (c, ())) → (True ∧ (bsp (decide (4096 < (List.length c : Int))) (@Eq (HO c_laws_FnGreedy.outs) (true, ()) (c_laws_FnGreedy.out (c, ()))) ((okC c) ∧ (True ∧ ((okC c) ∧ (True ∧ (bsp (decide ((grD (drawBR c).1 (drawBR c).2.1 (drawBR c).2.2).2 ≠ (grD (drawBR c).1 (drawBR c).2.1 (drawBR c).2.2).2)) (@Eq (HO c_laws_FnGreedy.outs) (false, ()) (c_laws_FnGreedy.out (c, ()))) (True ∧ (bsp (!(decide ((grD (drawBR c).1 (drawBR c).2.1 (drawBR c).2.2).1 = (grD (drawBR c).1 (drawBR c).2.1 (drawBR c).2.2).1))) (@Eq (HO c_laws_FnGreedy.outs) (false, ()) (c_laws_FnGreedy.out (c, ()))) (bsp (decide ((grD (drawBR c).1 (drawBR c).2.1 (drawBR c).2.2).2 ≠ (0 : Int))) (@Eq (HO c_laws_FnGreedy.outs) (true, ()) (c_laws_FnGreedy.out (c, ()))) (True ∧ ((((brD (drawBR c).1 (drawBR c).2.1 (drawBR c).2.2).2 = (brD (drawBR c).1 (drawBR c).2.1 (drawBR c).2.2).2 ∧ (grD (drawBR c).1 (drawBR c).2.1 (drawBR c).2.2).1 = (grD (drawBR c).1 (drawBR c).2.1 (drawBR c).2.2).1 ∧ (brD (drawBR c).1 (drawBR c).2.1 (drawBR c).2.2).1 = (brD (drawBR c).1 (drawBR c).2.1 (drawBR c).2.2).1) ∧ (false = decide ((grD (drawBR c).1 (drawBR c).2.1 (drawBR c).2.2).1 ∈ List.take (Int.toNat (0 : Int)) (brD (drawBR c).1 (drawBR c).2.1 (drawBR c).2.2).1) ∧ 0 ≤ (0 : Int) ∧ (0 : Int) ≤ (List.length (brD (drawBR c).1 (drawBR c).2.1 (drawBR c).2.2).1 : Int))) ∧ (∀ one : Int, ∀ found : Bool, ∀ i : Int, ∀ q : List Int, ∀ list : List (List Int), (((brD (drawBR c).1 (drawBR c).2.1 (drawBR c).2.2).2 = one ∧ (grD (drawBR c).1 (drawBR c).2.1 (drawBR c).2.2).1 = q ∧ (brD (drawBR c).1 (drawBR c).2.1 (drawBR c).2.2).1 = list) ∧ (found = decide (q ∈ List.take (Int.toNat i) list) ∧ 0 ≤ i ∧ i ≤ (List.length list : Int))) → (bsp (decide (i < (list.length : Int))) (bsp found ((0 ≤ i ∧ i < (list.length : Int)) ∧ ((i.toNat < list.length) ∧ ((Bd (list.getD i.toNat [])) ∧ ((Bd q) ∧ (bsp (decide ((List.sum (list.getD i.toNat [])) < (List.sum q))) (@Eq (HO c_laws_FnGreedy.outs) (false, ()) (c_laws_FnGreedy.out (c, ()))) ((inK .i64 (i + 1)) ∧ ((((brD (drawBR c).1 (drawBR c).2.1 (drawBR c).2.2).2 = one ∧ (grD (drawBR c).1 (drawBR c).2.1 (drawBR c).2.2).1 = q ∧ (brD (drawBR c).1 (drawBR c).2.1 (drawBR c).2.2).1 = list) ∧ (true = decide (q ∈ List.take (Int.toNat (i + 1)) list) ∧ 0 ≤ (i + 1) ∧ (i + 1) ≤ (List.length list : Int))) ∧ ((Int.toNat ((List.length list : Int) - (i + 1)) : Nat) < Int.toNat ((List.length list : Int) - i))))))))) ((0 ≤ i ∧ i < (list.length : Int)) ∧ ((i.toNat < list.length) ∧ (True ∧ ((0 ≤ i ∧ i < (list.length : Int)) ∧ ((i.toNat < list.length) ∧ ((Bd (list.getD i.toNat [])) ∧ ((Bd q) ∧ (bsp (decide ((List.sum (list.getD i.toNat [])) < (List.sum q))) (@Eq (HO c_laws_FnGreedy.outs) (false, ()) (c_laws_FnGreedy.out (c, ()))) ((inK .i64 (i + 1)) ∧ ((((brD (drawBR c).1 (drawBR c).2.1 (drawBR c).2.2).2 = one ∧ (grD (drawBR c).1 (drawBR c).2.1 (drawBR c).2.2).1 = q ∧ (brD (drawBR c).1 (drawBR c).2.1 (drawBR c).2.2).1 = list) ∧ ((decide ((list.getD i.toNat []) = q)) = decide (q ∈ List.take (Int.toNat (i + 1)) list) ∧ 0 ≤ (i + 1) ∧ (i + 1) ≤ (List.length list : Int))) ∧ ((Int.toNat ((List.length list : Int) - (i + 1)) : Nat) < Int.toNat ((List.length list : Int) - i))))))))))))) (bsp (decide (one = (0 : Int))) (@Eq (HO c_laws_FnGreedy.outs) (found, ()) (c_laws_FnGreedy.out (c, ()))) (@Eq (HO c_laws_FnGreedy.outs) (false, ()) (c_laws_FnGreedy.out (c, ())))))))))))))))))))) (by kernel_rfl) ?_
  rintro c hw hl
  refine ⟨trivial, bspD (fun _ => rfl) (fun hb => ?_)⟩
  have hc := okC_ofN hw hb
  refine ⟨hc, trivial, hc, trivial, ?_⟩
  clear hw hl hb hc
  generalize (drawBR c).1 = v at *
  generalize (drawBR c).2.1 = p at *
  generalize (drawBR c).2.2 = r at *
  refine bspD (fun h => absurd rfl h) (fun _ => ⟨trivial, bspB (fun h => by simp at h) (fun _ => bspD (fun _ => rfl) (fun h0 => ?_))⟩)
  have hcp : codeP v p = 0 := by
    apply Decidable.byContradiction
    intro h
    apply h0
    unfold grD; rw [if_pos h]; exact h
  have hr : rollD v r = true := by
    cases h : rollD v r with
    | true => rfl
    | false => exfalso; apply h0; unfold grD; rw [if_neg (fun h => h hcp), if_pos h]; decide
  have hbr : brD v p r = (resP p r, 0) := by unfold brD; rw [if_neg (fun h => h hcp), if_neg (by rw [hr]; decide)]
  have hgr : grD v p r = (greedyP (resP p r), 0) := by unfold grD; rw [if_neg (fun h => h hcp), if_neg (by rw [hr]; decide)]
  obtain ⟨hb, hv, hbe⟩ := br_ok hcp hr
  have hn24 := hb.n
  have hrl := resP_len hb
  have hgm := greedy_mem (resP_ne hb.ok hb.lo hb.mid)
  have hok := resP_ok hb.ok hb.lo hb.mid
  have hbd : ∀ x, x ∈ resP p r → Bd x := fun x hx => (hok x hx).bd (by rw [(hok x hx).len]; exact hn24)
  clear h0
  rw [hbr, hgr]
  refine ⟨trivial, ⟨(by first | trivial | rfl | (and_intros <;> rfl)), by simp, by omega, by omega⟩, ?_⟩
  rintro one found i q list ⟨⟨rfl, rfl, rfl⟩, ⟨hf, i0, i1⟩⟩
  obtain ⟨k, rfl⟩ : ∃ x : Nat, i = x := ⟨i.toNat, by omega⟩
  subst hf
  simp only [Int.toNat_natCast]
  refine bspD (fun hlt => ?_) (fun hge => ?_)
  · have hk : k < (resP p r).length := by omega
    have hm := getP_mem hk
    have hs := hgm.2 _ hm
    have hT : ((k : Int) + 1).toNat = k + 1 := by omega
    have hg : (resP p r).getD k [] = (resP p r)[k] := by rw [List.getD_eq_getElem?_getD, List.getElem?_eq_getElem hk]; rfl
    have ht : (resP p r).take (k + 1) = (resP p r).take k ++ [(resP p r).getD k []] := by rw [hg]; exact (List.take_append_getElem hk).symm
    have hin : greedyP (resP p r) ∈ (resP p r).take (k + 1) ↔ greedyP (resP p r) ∈ (resP p r).take k ∨ greedyP (resP p r) = (resP p r).getD k [] := by rw [ht, List.mem_append, List.mem_singleton]
    rw [hT]
    refine bspB (fun hin' => ?_) (fun hnin => ?_)
    · refine ⟨⟨by omega, by omega⟩, hk, hbd _ hm, hbd _ hgm.1, bspD (fun h => absurd h (by omega)) (fun _ => ⟨by simp only [inK]; omega, ⟨(by first | trivial | rfl | (and_intros <;> rfl)), ?_, by omega, by omega⟩, by omega⟩)⟩
      rw [decide_eq_true_eq] at hin'
      exact (decide_eq_true (hin.2 (.inl hin'))).symm
    · refine ⟨⟨by omega, by omega⟩, hk, trivial, ⟨by omega, by omega⟩, hk, hbd _ hm, hbd _ hgm.1, bspD (fun h => absurd h (by omega)) (fun _ => ⟨by simp only [inK]; omega, ⟨(by first | trivial | rfl | (and_intros <;> rfl)), ?_, by omega, by omega⟩, by omega⟩)⟩
      rw [decide_eq_false_iff_not] at hnin
      apply decide_eq_decide.2
      rw [hin]
      exact ⟨fun h => .inr h.symm, fun h => h.elim (fun h => absurd h hnin) (fun h => h.symm)⟩
  · refine bspD (fun _ => ?_) (fun h => absurd trivial h)
    simp only [c_laws_FnGreedy]
    have : greedyP (resP p r) ∈ (resP p r).take k := by rw [List.take_of_length_le (by omega)]; exact hgm.1
    rw [decide_eq_true this]
end Go.Proofs.Ytgfpojneeekgkaa
