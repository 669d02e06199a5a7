/-
  The law of DiceUsed.
-/
import Derived.Test.YtnffbihkmnfllaaVSeq
namespace Go.Proofs.Ytnffbihkmnfllaa
open Go.RowKit
set_option linter.unusedSimpArgs false
set_option linter.unusedVariables false
def c_laws_FnExactDiceUsed : Con where
  ins := [(true, .v tVar), (true, .v tBoard), (true, .v tRoll)]
  outs := [(false, .v .b)]
  sh := false
  pre := fun x => wfD tVar x.1 ∧ wfD tBoard x.2.1 ∧ wfD tRoll x.2.2.1
  out := fun _ => (true, ())
  upd := fun x => x
theorem k_laws_FnExactDiceUsed : ConOk Try.prog 8 c_laws_FnExactDiceUsed := by
  refine fn_okW (C := cx Try.prog 52 c_laws_FnExactDiceUsed) (cs := [(34, c_laws_szBoard), (17, c_laws_toVariant), (36, c_laws_toBoard), (19, c_laws_toRoll), (39, c_spec_DiceUsed), (40, c_impl_DiceUsed), (38, c_laws_eqBoard)]) (res := Try.f8.results.toList) (fun _ => ⟨[], [(5, ⟨[[], [0], [], [0, 1, 2], [], [0, 1, 2, 3, 4], [0, 1, 2, 3, 4, 5], [0, 1, 2, 3, 4, 5, 6], [0, 1, 2, 3, 4, 5, 6, 7], [0, 1, 2, 3, 4, 5, 6, 7], [0, 1, 2, 3, 4, 5, 6, 7, 8], [0, 1, 2, 3, 4, 5, 6, 7, 8, 9, 10]], [[2, 4], [2, 4], [0, 1, 4], [4], [0, 1, 2, 3], [], [], [], [9], [8, 10], [9], []], []⟩), (7, ⟨[[], [0], [], [], [0, 1, 3], [0, 1, 2, 3, 4], [0, 1, 2, 3, 4, 5], [0, 1, 2, 3, 4, 5, 6], [0, 1, 2, 3, 4, 5, 6], [0, 1, 2, 3, 4, 5, 6, 7], [0, 1, 2, 3, 4, 5, 6, 7, 8, 9]], [[2, 3], [2, 3], [0, 1, 3, 4], [0, 1, 2], [2], [], [], [8], [7, 9], [8], []], []⟩), (10, ⟨[[], [], [1], [0, 1, 2], [0, 1, 2, 3]], [[1, 2], [0], [0], [], []], []⟩)], []⟩) Try.func8 (by kernel_rfl) rfl rfl rfl tysOk.look eqTsOk.look (AllCs.ok (l := [(34, c_laws_szBoard), (17, c_laws_toVariant), (36, c_laws_toBoard), (19, c_laws_toRoll), (39, c_spec_DiceUsed), (40, c_impl_DiceUsed), (38, c_laws_eqBoard)]) ⟨k_laws_szBoard, k_laws_toVariant, k_laws_toBoard, k_laws_toRoll, k_spec_DiceUsed, k_impl_DiceUsed, k_laws_eqBoard, trivial⟩) mixed rfl rfl rfl ?_
  refine of_nf (P := ∀ v : Int × Int × Int × Int, ∀ b : (List Int) × List Int, ∀ r : Int × Int, (wfD tVar v ∧ wfD tBoard b ∧ wfD tRoll r) → ((lensI c_laws_FnExactDiceUsed.ins (v, b, r, ())) → ((-1 ≤ (1048576 : Int) ∧ (1048576 : Int) ≤ 1048576) ∧ (bsp (decide ((szD (List.length b.1 + List.length b.2) (1048576 : Int)) < (0 : Int))) (@Eq (HO c_laws_FnExactDiceUsed.outs) (true, ()) (c_laws_FnExactDiceUsed.out (v, b, r, ()))) (True ∧ ((List.length b.1 ≤ 1099511627776 ∧ List.length b.2 ≤ 1099511627776) ∧ (True ∧ (True ∧ ((List.length b.1 ≤ 1099511627776 ∧ List.length b.2 ≤ 1099511627776) ∧ (True ∧ (True ∧ (True ∧ (bsp (decide ((diceUsedD v b r).1 ≠ (diceUsedD v b r).1)) (@Eq (HO c_laws_FnExactDiceUsed.outs) (false, ()) (c_laws_FnExactDiceUsed.out (v, b, r, ()))) (bsp (decide ((diceUsedD v b r).2 ≠ (diceUsedD v b r).2)) (@Eq (HO c_laws_FnExactDiceUsed.outs) (false, ()) (c_laws_FnExactDiceUsed.out (v, b, r, ()))) ((List.length b.1 ≤ 1099511627776 ∧ List.length b.2 ≤ 1099511627776) ∧ (True ∧ (bsp (!(decide (b = b))) (@Eq (HO c_laws_FnExactDiceUsed.outs) (false, ()) (c_laws_FnExactDiceUsed.out (v, b, r, ()))) (@Eq (HO c_laws_FnExactDiceUsed.outs) (true, ()) (c_laws_FnExactDiceUsed.out (v, b, r, ())))))))))))))))))))) (by kernel_rfl) ?_
  rintro v b r hw hl
  refine ⟨by omega, bspD (fun _ => rfl) (fun hs => ?_)⟩
  have hle := szD_ge hs
  clear hl hw hs

  repeat' first
    | exact rfl
    | refine ⟨trivial, ?_⟩
    | refine bspB (fun h => absurd h (by first | simp; done | (simp [markL_length]; done) | (simp [markL_length]; omega))) (fun _ => ?_)
    | refine ⟨(by first | omega | (simp [markL_length]; done) | (simp [markL_length]; omega)), ?_⟩
    | fail
end Go.Proofs.Ytnffbihkmnfllaa
