/-
  Contracts: rolling, resigning, the opening roll; their laws.
-/
import Derived.Test.YtgbfcjnkohhfoaaVGame
import Derived.Test.YtgbfcjnkohhfoaaAbL
import Derived.Test.YtgbfcjnkohhfoaaAbW
namespace Go.Proofs.Ytgbfcjnkohhfoaa
open Go.RowKit
set_option linter.unusedSimpArgs false
set_option linter.unusedVariables false
def zeroG : DGame := (([], []), 0, (0, 0), 0, 0, 0, 0)
def rollDiceD (v : DVar) (g : DGame) (r : DRoll) : DGame × Int :=
  if gameD v g = false then (zeroG, 1) else if g.2.2.2.1 ≠ 1 then (zeroG, 5) else if rollD v r = false then (zeroG, 2)
  else ((g.1, g.2.1, r, 2, g.2.2.2.2.1, g.2.2.2.2.2.1, g.2.2.2.2.2.2), 0)
def resignD (v : DVar) (g : DGame) (k : Int) : DGame × Int :=
  if gameD v g = false then (zeroG, 1) else if g.2.2.2.1 ≠ 1 ∧ g.2.2.2.1 ≠ 2 then (zeroG, 5) else if inB k 1 3 = false then (zeroG, 2)
  else ((g.1, g.2.1, (0, 0), 3, 1 - g.2.1, k, g.2.2.2.2.2.2), 0)
def openD (g : DGame) (a b : Int) : DGame :=
  if a = b then g else (if a < b then ((g.1.2, g.1.1), 1, (max a b, min a b), 2, g.2.2.2.2) else (g.1, g.2.1, (max a b, min a b), 2, g.2.2.2.2))
def openingD (v : DVar) (g : DGame) (a b : Int) : DGame × Int :=
  if gameD v g = false then (zeroG, 1) else if g.2.2.2.1 ≠ 0 then (zeroG, 5) else if inB a 1 v.2.2.2 = false ∨ inB b 1 v.2.2.2 = false then (zeroG, 2)
  else (openD g a b, 0)
theorem gameD_ne {v : DVar} {g : DGame} (h : gameD v g = true) : NeB g.1 ∧ 0 ≤ g.2.1 ∧ g.2.1 ≤ 1 := by
  simp only [gameD, Bool.and_eq_true] at h
  have := h.1.1.1.2
  simp only [inB, Bool.and_eq_true, decide_eq_true_eq] at this
  exact ⟨boardD_ne h.1.1.1.1.2, this⟩
/-- a game's memory is no more than another's -/
def LeG (x g : DGame) : Prop := x.1.1.length + x.1.2.length ≤ g.1.1.length + g.1.2.length
theorem leG_zero (g : DGame) : LeG zeroG g := by simp [LeG, zeroG]
theorem rollDiceD_le (v : DVar) (g : DGame) (r : DRoll) : LeG (rollDiceD v g r).1 g := by
  unfold rollDiceD
  repeat' split
  all_goals first | exact leG_zero g | simp [LeG]
theorem resignD_le (v : DVar) (g : DGame) (k : Int) : LeG (resignD v g k).1 g := by
  unfold resignD
  repeat' split
  all_goals first | exact leG_zero g | simp [LeG]
theorem openD_le (g : DGame) (a b : Int) : LeG (openD g a b) g := by
  unfold openD
  repeat' split
  all_goals first | simp [LeG]; done | (simp [LeG]; omega)
theorem openingD_le (v : DVar) (g : DGame) (a b : Int) : LeG (openingD v g a b).1 g := by
  unfold openingD
  repeat' split
  all_goals first | exact leG_zero g | exact openD_le g a b
def c_impl_cloneGame : Con where
  ins := [(true, .v tGame)]
  outs := [(true, .pr (.pr (.own 2 tI) (.own 2 tI)) (.v (.pr tI (.pr tRoll tVar))))]
  sh := false
  pre := fun x => NeB x.1.1
  out := fun x => (x.1, ())
  upd := fun x => x
  eat := false
theorem k_impl_cloneGame [B : Base] : ConOk Try.prog 91 c_impl_cloneGame := by
  refine fn_okW (C := cx Try.prog 8 c_impl_cloneGame) (cs := [(57, c_impl_cloneBoard)]) (res := Try.f91.results.toList) (fun _ => ⟨[], [], []⟩) Try.func91 (by kernel_rfl) rfl rfl rfl tysOk.look eqTsOk.look (AllCs.ok (l := [(57, c_impl_cloneBoard)]) ⟨k_impl_cloneBoard, trivial⟩) mixed rfl rfl rfl rfl ?_
  refine of_nf (P := ∀ g : ((List Int) × List Int) × Int × (Int × Int) × Int × Int × Int × Int, (NeB g.1) → ((lensI c_impl_cloneGame.ins (g, ())) → ((NeB g.1) ∧ (@Eq (HO c_impl_cloneGame.outs) (g, ()) (c_impl_cloneGame.out (g, ())))))) (by kernel_rfl) ?_
  rintro g hpre hl
  exact ⟨hpre, rfl⟩
def c_spec_l08Own : Con where
  ins := [(true, .v tGame)]
  outs := [(true, .pr (.pr (.own 2 tI) (.own 2 tI)) (.v (.pr tI (.pr tRoll tVar))))]
  sh := false
  pre := fun x => List.length x.1.1.1 ≤ 1099511627776 ∧ List.length x.1.1.2 ≤ 1099511627776
  out := fun x => (x.1, ())
  upd := fun x => x
  eat := false
theorem k_spec_l08Own [B : Base] : ConOk Try.prog 64 c_spec_l08Own := by
  refine fn_okW (C := cx Try.prog 14 c_spec_l08Own) (cs := [(67, c_spec_l02Own)]) (res := Try.f64.results.toList) (fun _ => ⟨[], [(1, ⟨[[], [0], [0, 1], [0, 1, 2], [], [4], [4, 5], [0, 1, 2, 3, 4, 5, 6], [0, 1, 2, 3, 4, 5, 6, 7], [0, 1, 2, 3, 4, 5, 6, 7, 8], [0, 1, 2, 3, 4, 5, 6, 7, 8, 9]], [[4, 5, 6], [4, 5, 6], [4, 5, 6], [4, 5, 6], [0, 1, 2, 3], [0, 1, 2, 3], [0, 1, 2, 3], [], [], [], []], []⟩)], []⟩) Try.func64 (by kernel_rfl) rfl rfl rfl tysOk.look eqTsOk.look (AllCs.ok (l := [(67, c_spec_l02Own)]) ⟨k_spec_l02Own, trivial⟩) mixed rfl rfl rfl rfl ?_
  refine of_nf (P := ∀ g : ((List Int) × List Int) × Int × (Int × Int) × Int × Int × Int × Int, (List.length g.1.1 ≤ 1099511627776 ∧ List.length g.1.2 ≤ 1099511627776) → ((lensI c_spec_l08Own.ins (g, ())) → ((List.length g.1.1 ≤ 1099511627776) ∧ ((List.length g.1.2 ≤ 1099511627776) ∧ (@Eq (HO c_spec_l08Own.outs) (g, ()) (c_spec_l08Own.out (g, ()))))))) (by kernel_rfl) ?_
  rintro g ⟨h1, h2⟩ hl
  exact ⟨h1, h2, rfl⟩
def c_spec_l08Open : Con where
  ins := [(true, .v tGame), (false, .v tI), (false, .v tI)]
  outs := [(true, .pr (.pr (.own 2 tI) (.own 2 tI)) (.v (.pr tI (.pr tRoll tVar))))]
  sh := false
  pre := fun x => NeB x.1.1
  out := fun x => (openD x.1 x.2.1 x.2.2.1, ())
  upd := fun x => x
  eat := false
theorem k_spec_l08Open [B : Base] : ConOk Try.prog 37 c_spec_l08Open := by
  refine fn_okW (C := cx Try.prog 28 c_spec_l08Open) (cs := [(64, c_spec_l08Own), (63, c_spec_l07Pair), (65, c_spec_l02Swap)]) (res := Try.f37.results.toList) (fun _ => ⟨[], [], []⟩) Try.func37 (by kernel_rfl) rfl rfl rfl tysOk.look eqTsOk.look (AllCs.ok (l := [(64, c_spec_l08Own), (63, c_spec_l07Pair), (65, c_spec_l02Swap)]) ⟨k_spec_l08Own, k_spec_l07Pair, k_spec_l02Swap, trivial⟩) mixed rfl rfl rfl rfl ?_
  refine of_nf (P := ∀ g : ((List Int) × List Int) × Int × (Int × Int) × Int × Int × Int × Int, ∀ a : Int, ∀ b : Int, (NeB g.1) → ((lensI c_spec_l08Open.ins (g, a, b, ())) → ((List.length g.1.1 ≤ 1099511627776 ∧ List.length g.1.2 ≤ 1099511627776) ∧ (bsp (decide (a = b)) (@Eq (HO c_spec_l08Open.outs) (g, ()) (c_spec_l08Open.out (g, a, b, ()))) (True ∧ (bsp (decide (a < b)) ((List.length g.1.1 ≤ 1099511627776 ∧ List.length g.1.2 ≤ 1099511627776) ∧ (@Eq (HO c_spec_l08Open.outs) (((g.1.2, g.1.1), 1, (max a b, min a b), 2, g.2.2.2.2), ()) (c_spec_l08Open.out (g, a, b, ())))) (@Eq (HO c_spec_l08Open.outs) ((g.1, g.2.1, (max a b, min a b), 2, g.2.2.2.2), ()) (c_spec_l08Open.out (g, a, b, ()))))))))) (by kernel_rfl) ?_
  rintro g a b hpre hl
  repeat' first
    | refine ⟨trivial, ?_⟩
    | refine bspB (fun _ => ?_) (fun _ => ?_)
    | refine ⟨⟨hpre.1.2, hpre.2.2⟩, ?_⟩
    | fail
  all_goals (clear hl; simp_all [c_spec_l08Open, openD] <;> (intros; omega))
def c_impl_OpeningRoll : Con where
  ins := [(true, .v tVar), (true, .v tGame), (false, .v tI), (false, .v tI)]
  outs := [(true, .pr (.pr (.own 2 tI) (.own 2 tI)) (.v (.pr tI (.pr tRoll tVar)))), (false, .v tI)]
  sh := false
  pre := fun _ => True
  out := fun x => ((openingD x.1 x.2.1 x.2.2.1 x.2.2.2.1).1, (openingD x.1 x.2.1 x.2.2.1 x.2.2.2.1).2, ())
  upd := fun x => x
  eat := false
theorem k_impl_OpeningRoll [B : Base] : ConOk Try.prog 71 c_impl_OpeningRoll := by
  refine fn_okW (C := cx Try.prog 55 c_impl_OpeningRoll) (cs := [(90, c_impl_IsGame), (41, c_impl_within), (91, c_impl_cloneGame), (76, c_impl_swapped), (73, c_impl_rollOfFaces)]) (res := Try.f71.results.toList) (fun _ => ⟨[], [], []⟩) Try.func71 (by kernel_rfl) rfl rfl rfl tysOk.look eqTsOk.look (AllCs.ok (l := [(90, c_impl_IsGame), (41, c_impl_within), (91, c_impl_cloneGame), (76, c_impl_swapped), (73, c_impl_rollOfFaces)]) ⟨k_impl_IsGame, k_impl_within, k_impl_cloneGame, k_impl_swapped, k_impl_rollOfFaces, trivial⟩) mixed rfl rfl rfl rfl ?_
  refine of_nf (P := ∀ v : Int × Int × Int × Int, ∀ g : ((List Int) × List Int) × Int × (Int × Int) × Int × Int × Int × Int, ∀ a : Int, ∀ b : Int, (True) → ((lensI c_impl_OpeningRoll.ins (v, g, a, b, ())) → (True ∧ (bsp (!(gameD v g)) (@Eq (HO c_impl_OpeningRoll.outs) ((([], []), 0, (0, 0), 0, 0, 0, 0), 1, ()) (c_impl_OpeningRoll.out (v, g, a, b, ()))) (bsp (decide (g.2.2.2.1 ≠ (0 : Int))) (@Eq (HO c_impl_OpeningRoll.outs) ((([], []), 0, (0, 0), 0, 0, 0, 0), 5, ()) (c_impl_OpeningRoll.out (v, g, a, b, ()))) (True ∧ (bsp (!(inB a (1 : Int) v.2.2.2)) (@Eq (HO c_impl_OpeningRoll.outs) ((([], []), 0, (0, 0), 0, 0, 0, 0), 2, ()) (c_impl_OpeningRoll.out (v, g, a, b, ()))) (True ∧ (bsp (!(inB b (1 : Int) v.2.2.2)) (@Eq (HO c_impl_OpeningRoll.outs) ((([], []), 0, (0, 0), 0, 0, 0, 0), 2, ()) (c_impl_OpeningRoll.out (v, g, a, b, ()))) ((NeB g.1) ∧ (bsp (decide (a = b)) (@Eq (HO c_impl_OpeningRoll.outs) (g, 0, ()) (c_impl_OpeningRoll.out (v, g, a, b, ()))) (bsp (decide (a < b)) ((NeB g.1) ∧ (True ∧ (@Eq (HO c_impl_OpeningRoll.outs) (((g.1.2, g.1.1), 1, (max a b, min a b), 2, g.2.2.2.2), 0, ()) (c_impl_OpeningRoll.out (v, g, a, b, ()))))) (True ∧ (@Eq (HO c_impl_OpeningRoll.outs) ((g.1, g.2.1, (max a b, min a b), 2, g.2.2.2.2), 0, ()) (c_impl_OpeningRoll.out (v, g, a, b, ())))))))))))))))) (by kernel_rfl) ?_
  rintro v g a b hpre hl
  have hn : gameD v g = true → NeB g.1 ∧ 0 ≤ g.2.1 ∧ g.2.1 ≤ 1 := gameD_ne
  repeat' first
    | refine ⟨trivial, ?_⟩
    | refine bspB (fun _ => ?_) (fun _ => ?_)
    | refine ⟨(hn (by simp_all)).1, ?_⟩
    | refine ⟨⟨(hn (by simp_all)).1.1.2, (hn (by simp_all)).1.2.2⟩, ?_⟩
    | refine ⟨(by have := hn (by simp_all); simp only [inK]; omega), ?_⟩
    | fail
  all_goals (clear hn hl; simp_all [c_impl_OpeningRoll, openingD, openD, zeroG] <;> (intros; omega))
end Go.Proofs.Ytgbfcjnkohhfoaa
