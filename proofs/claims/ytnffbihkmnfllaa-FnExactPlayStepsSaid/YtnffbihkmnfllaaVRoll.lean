/-
  Contracts: rolling, resigning, the opening roll; their laws.
-/
import Derived.Test.YtnffbihkmnfllaaVGame
import Derived.Test.YtnffbihkmnfllaaAbL
import Derived.Test.YtnffbihkmnfllaaAbW
namespace Go.Proofs.Ytnffbihkmnfllaa
open Go.RowKit
set_option linter.unusedSimpArgs false
set_option linter.unusedVariables false
def zeroG : DGame := (([], []), 0, (0, 0), 0, 0, 0, 0)
def rollDiceD (v : DVar) (g : DGame) (r : DRoll) : DGame × Int :=
  if gameD v g = false then (zeroG, 1) else if g.2.2.2.1 ≠ 1 then (zeroG, 5) else if rollD v r = false then (zeroG, 2)
  else ((g.1, g.2.1, r, 2, g.2.2.2.2.1, g.2.2.2.2.2.1, g.2.2.2.2.2.2), 0)
def resignD (v : DVar) (g : DGame) (k : Int) : DGame × Int :=
  if gameD v g = false then (zeroG, 1) else if g.2.2.2.1 ≠ 1 ∧ g.2.2.2.1 ≠ 2 then (zeroG, 5) else if inB k 1 3 = false then (zeroG, 2)
  else ((g.1, g.2.1, (0, 0), 3, 1 - g.2.1, k, g.2.2.2.2.2.2), 0)
def openD (g : DGame) (a b : Int) : DGame :=
  if a = b then g else (if a < b then ((g.1.2, g.1.1), 1, (max a b, min a b), 2, g.2.2.2.2) else (g.1, g.2.1, (max a b, min a b), 2, g.2.2.2.2))
def openingD (v : DVar) (g : DGame) (a b : Int) : DGame × Int :=
  if gameD v g = false then (zeroG, 1) else if g.2.2.2.1 ≠ 0 then (zeroG, 5) else if inB a 1 v.2.2.2 = false ∨ inB b 1 v.2.2.2 = false then (zeroG, 2)
  else (openD g a b, 0)
theorem gameD_ne {v : DVar} {g : DGame} (h : gameD v g = true) : NeB g.1 ∧ 0 ≤ g.2.1 ∧ g.2.1 ≤ 1 := by
  simp only [gameD, Bool.and_eq_true] at h
  have := h.1.1.1.2
  simp only [inB, Bool.and_eq_true, decide_eq_true_eq] at this
  exact ⟨boardD_ne h.1.1.1.1.2, this⟩
/-- a game's memory is no more than another's -/
def LeG (x g : DGame) : Prop := x.1.1.length + x.1.2.length ≤ g.1.1.length + g.1.2.length
theorem leG_zero (g : DGame) : LeG zeroG g := by simp [LeG, zeroG]
theorem rollDiceD_le (v : DVar) (g : DGame) (r : DRoll) : LeG (rollDiceD v g r).1 g := by
  unfold rollDiceD
  repeat' split
  all_goals first | exact leG_zero g | simp [LeG]
theorem resignD_le (v : DVar) (g : DGame) (k : Int) : LeG (resignD v g k).1 g := by
  unfold resignD
  repeat' split
  all_goals first | exact leG_zero g | simp [LeG]
theorem openD_le (g : DGame) (a b : Int) : LeG (openD g a b) g := by
  unfold openD
  repeat' split
  all_goals first | simp [LeG]; done | (simp [LeG]; omega)
theorem openingD_le (v : DVar) (g : DGame) (a b : Int) : LeG (openingD v g a b).1 g := by
  unfold openingD
  repeat' split
  all_goals first | exact leG_zero g | exact openD_le g a b
def c_impl_cloneGame : Con where
  ins := [(true, .v tGame)]
  outs := [(true, .pr (.pr (.own 2 tI) (.own 2 tI)) (.v (.pr tI (.pr tRoll tVar))))]
  sh := false
  pre := fun x => NeB x.1.1
  out := fun x => (x.1, ())
  upd := fun x => x
theorem k_impl_cloneGame : ConOk Try.prog 70 c_impl_cloneGame := by
  refine fn_okW (C := cx Try.prog 8 c_impl_cloneGame) (cs := [(124, c_impl_cloneBoard)]) (res := Try.f70.results.toList) (fun _ => ⟨[], [], []⟩) Try.func70 (by kernel_rfl) rfl rfl rfl tysOk.look eqTsOk.look (AllCs.ok (l := [(124, c_impl_cloneBoard)]) ⟨k_impl_cloneBoard, trivial⟩) mixed rfl rfl rfl ?_
  refine of_nf (P := ∀ g : ((List Int) × List Int) × Int × (Int × Int) × Int × Int × Int × Int, (NeB g.1) → ((lensI c_impl_cloneGame.ins (g, ())) → ((NeB g.1) ∧ (@Eq (HO c_impl_cloneGame.outs) (g, ()) (c_impl_cloneGame.out (g, ())))))) (by kernel_rfl) ?_
  rintro g hpre hl
  exact ⟨hpre, rfl⟩
def c_spec_l08Own : Con where
  ins := [(true, .v tGame)]
  outs := [(true, .pr (.pr (.own 2 tI) (.own 2 tI)) (.v (.pr tI (.pr tRoll tVar))))]
  sh := false
  pre := fun x => List.length x.1.1.1 ≤ 1099511627776 ∧ List.length x.1.1.2 ≤ 1099511627776
  out := fun x => (x.1, ())
  upd := fun x => x
theorem k_spec_l08Own : ConOk Try.prog 67 c_spec_l08Own := by
  refine fn_okW (C := cx Try.prog 14 c_spec_l08Own) (cs := [(118, c_spec_l02Own)]) (res := Try.f67.results.toList) (fun _ => ⟨[], [(1, ⟨[[], [0], [0, 1], [0, 1, 2], [], [4], [4, 5], [0, 1, 2, 3, 4, 5, 6], [0, 1, 2, 3, 4, 5, 6, 7], [0, 1, 2, 3, 4, 5, 6, 7, 8], [0, 1, 2, 3, 4, 5, 6, 7, 8, 9]], [[4, 5, 6], [4, 5, 6], [4, 5, 6], [4, 5, 6], [0, 1, 2, 3], [0, 1, 2, 3], [0, 1, 2, 3], [], [], [], []], []⟩)], []⟩) Try.func67 (by kernel_rfl) rfl rfl rfl tysOk.look eqTsOk.look (AllCs.ok (l := [(118, c_spec_l02Own)]) ⟨k_spec_l02Own, trivial⟩) mixed rfl rfl rfl ?_
  refine of_nf (P := ∀ g : ((List Int) × List Int) × Int × (Int × Int) × Int × Int × Int × Int, (List.length g.1.1 ≤ 1099511627776 ∧ List.length g.1.2 ≤ 1099511627776) → ((lensI c_spec_l08Own.ins (g, ())) → ((List.length g.1.1 ≤ 1099511627776) ∧ ((List.length g.1.2 ≤ 1099511627776) ∧ (@Eq (HO c_spec_l08Own.outs) (g, ()) (c_spec_l08Own.out (g, ()))))))) (by kernel_rfl) ?_
  rintro g ⟨h1, h2⟩ hl
  exact ⟨h1, h2, rfl⟩
def c_impl_RollDice : Con where
  ins := [(true, .v tVar), (true, .v tGame), (true, .v tRoll)]
  outs := [(true, .pr (.pr (.own 2 tI) (.own 2 tI)) (.v (.pr tI (.pr tRoll tVar)))), (false, .v tI)]
  sh := false
  pre := fun _ => True
  out := fun x => ((rollDiceD x.1 x.2.1 x.2.2.1).1, (rollDiceD x.1 x.2.1 x.2.2.1).2, ())
  upd := fun x => x
theorem k_impl_RollDice : ConOk Try.prog 20 c_impl_RollDice := by
  refine fn_okW (C := cx Try.prog 31 c_impl_RollDice) (cs := [(68, c_impl_IsGame), (69, c_impl_IsRoll), (70, c_impl_cloneGame)]) (res := Try.f20.results.toList) (fun _ => ⟨[], [], []⟩) Try.func20 (by kernel_rfl) rfl rfl rfl tysOk.look eqTsOk.look (AllCs.ok (l := [(68, c_impl_IsGame), (69, c_impl_IsRoll), (70, c_impl_cloneGame)]) ⟨k_impl_IsGame, k_impl_IsRoll, k_impl_cloneGame, trivial⟩) mixed rfl rfl rfl ?_
  refine of_nf (P := ∀ v : Int × Int × Int × Int, ∀ g : ((List Int) × List Int) × Int × (Int × Int) × Int × Int × Int × Int, ∀ r : Int × Int, (True) → ((lensI c_impl_RollDice.ins (v, g, r, ())) → (True ∧ (bsp (!(gameD v g)) (@Eq (HO c_impl_RollDice.outs) ((([], []), 0, (0, 0), 0, 0, 0, 0), 1, ()) (c_impl_RollDice.out (v, g, r, ()))) (bsp (decide (g.2.2.2.1 ≠ (1 : Int))) (@Eq (HO c_impl_RollDice.outs) ((([], []), 0, (0, 0), 0, 0, 0, 0), 5, ()) (c_impl_RollDice.out (v, g, r, ()))) (True ∧ (bsp (!(rollD v r)) (@Eq (HO c_impl_RollDice.outs) ((([], []), 0, (0, 0), 0, 0, 0, 0), 2, ()) (c_impl_RollDice.out (v, g, r, ()))) ((NeB g.1) ∧ (@Eq (HO c_impl_RollDice.outs) ((g.1, g.2.1, r, 2, g.2.2.2.2), 0, ()) (c_impl_RollDice.out (v, g, r, ()))))))))))) (by kernel_rfl) ?_
  rintro v g r hpre hl
  have hn : gameD v g = true → NeB g.1 ∧ 0 ≤ g.2.1 ∧ g.2.1 ≤ 1 := gameD_ne
  repeat' first
    | refine ⟨trivial, ?_⟩
    | refine bspB (fun _ => ?_) (fun _ => ?_)
    | refine ⟨(hn (by simp_all)).1, ?_⟩
    | refine ⟨⟨(hn (by simp_all)).1.1.2, (hn (by simp_all)).1.2.2⟩, ?_⟩
    | refine ⟨(by have := hn (by simp_all); simp only [inK]; omega), ?_⟩
    | fail
  all_goals (clear hn hl; simp_all [c_impl_RollDice, rollDiceD, zeroG] <;> (intros; omega))
def c_spec_RollDice : Con where
  ins := [(true, .v tVar), (true, .v tGame), (true, .v tRoll)]
  outs := [(true, .pr (.pr (.own 2 tI) (.own 2 tI)) (.v (.pr tI (.pr tRoll tVar)))), (false, .v tI)]
  sh := false
  pre := fun _ => True
  out := fun x => ((rollDiceD x.1 x.2.1 x.2.2.1).1, (rollDiceD x.1 x.2.1 x.2.2.1).2, ())
  upd := fun x => x
theorem k_spec_RollDice : ConOk Try.prog 16 c_spec_RollDice := by
  refine fn_okW (C := cx Try.prog 32 c_spec_RollDice) (cs := [(65, c_spec_l08Valid), (66, c_spec_IsRoll), (67, c_spec_l08Own)]) (res := Try.f16.results.toList) (fun _ => ⟨[], [], []⟩) Try.func16 (by kernel_rfl) rfl rfl rfl tysOk.look eqTsOk.look (AllCs.ok (l := [(65, c_spec_l08Valid), (66, c_spec_IsRoll), (67, c_spec_l08Own)]) ⟨k_spec_l08Valid, k_spec_IsRoll, k_spec_l08Own, trivial⟩) mixed rfl rfl rfl ?_
  refine of_nf (P := ∀ v : Int × Int × Int × Int, ∀ g : ((List Int) × List Int) × Int × (Int × Int) × Int × Int × Int × Int, ∀ r : Int × Int, (True) → ((lensI c_spec_RollDice.ins (v, g, r, ())) → (True ∧ (bsp (!(gameD v g)) (@Eq (HO c_spec_RollDice.outs) ((([], []), 0, (0, 0), 0, 0, 0, 0), 1, ()) (c_spec_RollDice.out (v, g, r, ()))) (bsp (decide (g.2.2.2.1 ≠ (1 : Int))) (@Eq (HO c_spec_RollDice.outs) ((([], []), 0, (0, 0), 0, 0, 0, 0), 5, ()) (c_spec_RollDice.out (v, g, r, ()))) (True ∧ (bsp (!(rollD v r)) (@Eq (HO c_spec_RollDice.outs) ((([], []), 0, (0, 0), 0, 0, 0, 0), 2, ()) (c_spec_RollDice.out (v, g, r, ()))) ((List.length g.1.1 ≤ 1099511627776 ∧ List.length g.1.2 ≤ 1099511627776) ∧ (@Eq (HO c_spec_RollDice.outs) ((g.1, g.2.1, r, 2, g.2.2.2.2), 0, ()) (c_spec_RollDice.out (v, g, r, ()))))))))))) (by kernel_rfl) ?_
  rintro v g r hpre hl
  have hn : gameD v g = true → NeB g.1 ∧ 0 ≤ g.2.1 ∧ g.2.1 ≤ 1 := gameD_ne
  repeat' first
    | refine ⟨trivial, ?_⟩
    | refine bspB (fun _ => ?_) (fun _ => ?_)
    | refine ⟨(hn (by simp_all)).1, ?_⟩
    | refine ⟨⟨(hn (by simp_all)).1.1.2, (hn (by simp_all)).1.2.2⟩, ?_⟩
    | refine ⟨(by have := hn (by simp_all); simp only [inK]; omega), ?_⟩
    | fail
  all_goals (clear hn hl; simp_all [c_spec_RollDice, rollDiceD, zeroG] <;> (intros; omega))
def c_impl_ResignGame : Con where
  ins := [(true, .v tVar), (true, .v tGame), (false, .v tI)]
  outs := [(true, .pr (.pr (.own 2 tI) (.own 2 tI)) (.v (.pr tI (.pr tRoll tVar)))), (false, .v tI)]
  sh := false
  pre := fun _ => True
  out := fun x => ((resignD x.1 x.2.1 x.2.2.1).1, (resignD x.1 x.2.1 x.2.2.1).2, ())
  upd := fun x => x
theorem k_impl_ResignGame : ConOk Try.prog 25 c_impl_ResignGame := by
  refine fn_okW (C := cx Try.prog 41 c_impl_ResignGame) (cs := [(68, c_impl_IsGame), (73, c_impl_within), (70, c_impl_cloneGame)]) (res := Try.f25.results.toList) (fun _ => ⟨[], [], []⟩) Try.func25 (by kernel_rfl) rfl rfl rfl tysOk.look eqTsOk.look (AllCs.ok (l := [(68, c_impl_IsGame), (73, c_impl_within), (70, c_impl_cloneGame)]) ⟨k_impl_IsGame, k_impl_within, k_impl_cloneGame, trivial⟩) mixed rfl rfl rfl ?_
  refine of_nf (P := ∀ v : Int × Int × Int × Int, ∀ g : ((List Int) × List Int) × Int × (Int × Int) × Int × Int × Int × Int, ∀ k : Int, (True) → ((lensI c_impl_ResignGame.ins (v, g, k, ())) → (True ∧ (bsp (!(gameD v g)) (@Eq (HO c_impl_ResignGame.outs) ((([], []), 0, (0, 0), 0, 0, 0, 0), 1, ()) (c_impl_ResignGame.out (v, g, k, ()))) (bsp (decide (g.2.2.2.1 ≠ (1 : Int))) (bsp (decide (g.2.2.2.1 ≠ (2 : Int))) (@Eq (HO c_impl_ResignGame.outs) ((([], []), 0, (0, 0), 0, 0, 0, 0), 5, ()) (c_impl_ResignGame.out (v, g, k, ()))) (True ∧ (bsp (!(inB k (1 : Int) (3 : Int))) (@Eq (HO c_impl_ResignGame.outs) ((([], []), 0, (0, 0), 0, 0, 0, 0), 2, ()) (c_impl_ResignGame.out (v, g, k, ()))) ((NeB g.1) ∧ ((inK .i64 (1 - g.2.1)) ∧ (@Eq (HO c_impl_ResignGame.outs) ((g.1, g.2.1, (0, 0), 3, (1 - g.2.1), k, g.2.2.2.2.2.2), 0, ()) (c_impl_ResignGame.out (v, g, k, ())))))))) (True ∧ (bsp (!(inB k (1 : Int) (3 : Int))) (@Eq (HO c_impl_ResignGame.outs) ((([], []), 0, (0, 0), 0, 0, 0, 0), 2, ()) (c_impl_ResignGame.out (v, g, k, ()))) ((NeB g.1) ∧ ((inK .i64 (1 - g.2.1)) ∧ (@Eq (HO c_impl_ResignGame.outs) ((g.1, g.2.1, (0, 0), 3, (1 - g.2.1), k, g.2.2.2.2.2.2), 0, ()) (c_impl_ResignGame.out (v, g, k, ())))))))))))) (by kernel_rfl) ?_
  rintro v g k hpre hl
  have hn : gameD v g = true → NeB g.1 ∧ 0 ≤ g.2.1 ∧ g.2.1 ≤ 1 := gameD_ne
  repeat' first
    | refine ⟨trivial, ?_⟩
    | refine bspB (fun _ => ?_) (fun _ => ?_)
    | refine ⟨(hn (by simp_all)).1, ?_⟩
    | refine ⟨⟨(hn (by simp_all)).1.1.2, (hn (by simp_all)).1.2.2⟩, ?_⟩
    | refine ⟨(by have := hn (by simp_all); simp only [inK]; omega), ?_⟩
    | fail
  all_goals (clear hn hl; simp_all [c_impl_ResignGame, resignD, zeroG] <;> (intros; omega))
def c_spec_ResignGame : Con where
  ins := [(true, .v tVar), (true, .v tGame), (false, .v tI)]
  outs := [(true, .pr (.pr (.own 2 tI) (.own 2 tI)) (.v (.pr tI (.pr tRoll tVar)))), (false, .v tI)]
  sh := false
  pre := fun _ => True
  out := fun x => ((resignD x.1 x.2.1 x.2.2.1).1, (resignD x.1 x.2.1 x.2.2.1).2, ())
  upd := fun x => x
theorem k_spec_ResignGame : ConOk Try.prog 24 c_spec_ResignGame := by
  refine fn_okW (C := cx Try.prog 42 c_spec_ResignGame) (cs := [(65, c_spec_l08Valid), (72, c_spec_l01In), (67, c_spec_l08Own)]) (res := Try.f24.results.toList) (fun _ => ⟨[], [], []⟩) Try.func24 (by kernel_rfl) rfl rfl rfl tysOk.look eqTsOk.look (AllCs.ok (l := [(65, c_spec_l08Valid), (72, c_spec_l01In), (67, c_spec_l08Own)]) ⟨k_spec_l08Valid, k_spec_l01In, k_spec_l08Own, trivial⟩) mixed rfl rfl rfl ?_
  refine of_nf (P := ∀ v : Int × Int × Int × Int, ∀ g : ((List Int) × List Int) × Int × (Int × Int) × Int × Int × Int × Int, ∀ k : Int, (True) → ((lensI c_spec_ResignGame.ins (v, g, k, ())) → (True ∧ (bsp (!(gameD v g)) (@Eq (HO c_spec_ResignGame.outs) ((([], []), 0, (0, 0), 0, 0, 0, 0), 1, ()) (c_spec_ResignGame.out (v, g, k, ()))) (bsp (decide (g.2.2.2.1 ≠ (1 : Int))) (bsp (decide (g.2.2.2.1 ≠ (2 : Int))) (@Eq (HO c_spec_ResignGame.outs) ((([], []), 0, (0, 0), 0, 0, 0, 0), 5, ()) (c_spec_ResignGame.out (v, g, k, ()))) (True ∧ (bsp (!(inB k (1 : Int) (3 : Int))) (@Eq (HO c_spec_ResignGame.outs) ((([], []), 0, (0, 0), 0, 0, 0, 0), 2, ()) (c_spec_ResignGame.out (v, g, k, ()))) ((List.length g.1.1 ≤ 1099511627776 ∧ List.length g.1.2 ≤ 1099511627776) ∧ ((inK .i64 (1 - g.2.1)) ∧ (@Eq (HO c_spec_ResignGame.outs) ((g.1, g.2.1, (0, 0), 3, (1 - g.2.1), k, g.2.2.2.2.2.2), 0, ()) (c_spec_ResignGame.out (v, g, k, ())))))))) (True ∧ (bsp (!(inB k (1 : Int) (3 : Int))) (@Eq (HO c_spec_ResignGame.outs) ((([], []), 0, (0, 0), 0, 0, 0, 0), 2, ()) (c_spec_ResignGame.out (v, g, k, ()))) ((List.length g.1.1 ≤ 1099511627776 ∧ List.length g.1.2 ≤ 1099511627776) ∧ ((inK .i64 (1 - g.2.1)) ∧ (@Eq (HO c_spec_ResignGame.outs) ((g.1, g.2.1, (0, 0), 3, (1 - g.2.1), k, g.2.2.2.2.2.2), 0, ()) (c_spec_ResignGame.out (v, g, k, ())))))))))))) (by kernel_rfl) ?_
  rintro v g k hpre hl
  have hn : gameD v g = true → NeB g.1 ∧ 0 ≤ g.2.1 ∧ g.2.1 ≤ 1 := gameD_ne
  repeat' first
    | refine ⟨trivial, ?_⟩
    | refine bspB (fun _ => ?_) (fun _ => ?_)
    | refine ⟨(hn (by simp_all)).1, ?_⟩
    | refine ⟨⟨(hn (by simp_all)).1.1.2, (hn (by simp_all)).1.2.2⟩, ?_⟩
    | refine ⟨(by have := hn (by simp_all); simp only [inK]; omega), ?_⟩
    | fail
  all_goals (clear hn hl; simp_all [c_spec_ResignGame, resignD, zeroG] <;> (intros; omega))
def c_spec_l08Open : Con where
  ins := [(true, .v tGame), (false, .v tI), (false, .v tI)]
  outs := [(true, .pr (.pr (.own 2 tI) (.own 2 tI)) (.v (.pr tI (.pr tRoll tVar))))]
  sh := false
  pre := fun x => NeB x.1.1
  out := fun x => (openD x.1 x.2.1 x.2.2.1, ())
  upd := fun x => x
theorem k_spec_l08Open : ConOk Try.prog 74 c_spec_l08Open := by
  refine fn_okW (C := cx Try.prog 28 c_spec_l08Open) (cs := [(67, c_spec_l08Own), (125, c_spec_l07Pair), (126, c_spec_l02Swap)]) (res := Try.f74.results.toList) (fun _ => ⟨[], [], []⟩) Try.func74 (by kernel_rfl) rfl rfl rfl tysOk.look eqTsOk.look (AllCs.ok (l := [(67, c_spec_l08Own), (125, c_spec_l07Pair), (126, c_spec_l02Swap)]) ⟨k_spec_l08Own, k_spec_l07Pair, k_spec_l02Swap, trivial⟩) mixed rfl rfl rfl ?_
  refine of_nf (P := ∀ g : ((List Int) × List Int) × Int × (Int × Int) × Int × Int × Int × Int, ∀ a : Int, ∀ b : Int, (NeB g.1) → ((lensI c_spec_l08Open.ins (g, a, b, ())) → ((List.length g.1.1 ≤ 1099511627776 ∧ List.length g.1.2 ≤ 1099511627776) ∧ (bsp (decide (a = b)) (@Eq (HO c_spec_l08Open.outs) (g, ()) (c_spec_l08Open.out (g, a, b, ()))) (True ∧ (bsp (decide (a < b)) ((List.length g.1.1 ≤ 1099511627776 ∧ List.length g.1.2 ≤ 1099511627776) ∧ (@Eq (HO c_spec_l08Open.outs) (((g.1.2, g.1.1), 1, (max a b, min a b), 2, g.2.2.2.2), ()) (c_spec_l08Open.out (g, a, b, ())))) (@Eq (HO c_spec_l08Open.outs) ((g.1, g.2.1, (max a b, min a b), 2, g.2.2.2.2), ()) (c_spec_l08Open.out (g, a, b, ()))))))))) (by kernel_rfl) ?_
  rintro g a b hpre hl
  repeat' first
    | refine ⟨trivial, ?_⟩
    | refine bspB (fun _ => ?_) (fun _ => ?_)
    | refine ⟨⟨hpre.1.2, hpre.2.2⟩, ?_⟩
    | fail
  all_goals (clear hl; simp_all [c_spec_l08Open, openD] <;> (intros; omega))
def c_impl_OpeningRoll : Con where
  ins := [(true, .v tVar), (true, .v tGame), (false, .v tI), (false, .v tI)]
  outs := [(true, .pr (.pr (.own 2 tI) (.own 2 tI)) (.v (.pr tI (.pr tRoll tVar)))), (false, .v tI)]
  sh := false
  pre := fun _ => True
  out := fun x => ((openingD x.1 x.2.1 x.2.2.1 x.2.2.2.1).1, (openingD x.1 x.2.1 x.2.2.1 x.2.2.2.1).2, ())
  upd := fun x => x
theorem k_impl_OpeningRoll : ConOk Try.prog 27 c_impl_OpeningRoll := by
  refine fn_okW (C := cx Try.prog 55 c_impl_OpeningRoll) (cs := [(68, c_impl_IsGame), (73, c_impl_within), (70, c_impl_cloneGame), (75, c_impl_swapped), (76, c_impl_rollOfFaces)]) (res := Try.f27.results.toList) (fun _ => ⟨[], [], []⟩) Try.func27 (by kernel_rfl) rfl rfl rfl tysOk.look eqTsOk.look (AllCs.ok (l := [(68, c_impl_IsGame), (73, c_impl_within), (70, c_impl_cloneGame), (75, c_impl_swapped), (76, c_impl_rollOfFaces)]) ⟨k_impl_IsGame, k_impl_within, k_impl_cloneGame, k_impl_swapped, k_impl_rollOfFaces, trivial⟩) mixed rfl rfl rfl ?_
  refine of_nf (P := ∀ v : Int × Int × Int × Int, ∀ g : ((List Int) × List Int) × Int × (Int × Int) × Int × Int × Int × Int, ∀ a : Int, ∀ b : Int, (True) → ((lensI c_impl_OpeningRoll.ins (v, g, a, b, ())) → (True ∧ (bsp (!(gameD v g)) (@Eq (HO c_impl_OpeningRoll.outs) ((([], []), 0, (0, 0), 0, 0, 0, 0), 1, ()) (c_impl_OpeningRoll.out (v, g, a, b, ()))) (bsp (decide (g.2.2.2.1 ≠ (0 : Int))) (@Eq (HO c_impl_OpeningRoll.outs) ((([], []), 0, (0, 0), 0, 0, 0, 0), 5, ()) (c_impl_OpeningRoll.out (v, g, a, b, ()))) (True ∧ (bsp (!(inB a (1 : Int) v.2.2.2)) (@Eq (HO c_impl_OpeningRoll.outs) ((([], []), 0, (0, 0), 0, 0, 0, 0), 2, ()) (c_impl_OpeningRoll.out (v, g, a, b, ()))) (True ∧ (bsp (!(inB b (1 : Int) v.2.2.2)) (@Eq (HO c_impl_OpeningRoll.outs) ((([], []), 0, (0, 0), 0, 0, 0, 0), 2, ()) (c_impl_OpeningRoll.out (v, g, a, b, ()))) ((NeB g.1) ∧ (bsp (decide (a = b)) (@Eq (HO c_impl_OpeningRoll.outs) (g, 0, ()) (c_impl_OpeningRoll.out (v, g, a, b, ()))) (bsp (decide (a < b)) ((NeB g.1) ∧ (True ∧ (@Eq (HO c_impl_OpeningRoll.outs) (((g.1.2, g.1.1), 1, (max a b, min a b), 2, g.2.2.2.2), 0, ()) (c_impl_OpeningRoll.out (v, g, a, b, ()))))) (True ∧ (@Eq (HO c_impl_OpeningRoll.outs) ((g.1, g.2.1, (max a b, min a b), 2, g.2.2.2.2), 0, ()) (c_impl_OpeningRoll.out (v, g, a, b, ())))))))))))))))) (by kernel_rfl) ?_
  rintro v g a b hpre hl
  have hn : gameD v g = true → NeB g.1 ∧ 0 ≤ g.2.1 ∧ g.2.1 ≤ 1 := gameD_ne
  repeat' first
    | refine ⟨trivial, ?_⟩
    | refine bspB (fun _ => ?_) (fun _ => ?_)
    | refine ⟨(hn (by simp_all)).1, ?_⟩
    | refine ⟨⟨(hn (by simp_all)).1.1.2, (hn (by simp_all)).1.2.2⟩, ?_⟩
    | refine ⟨(by have := hn (by simp_all); simp only [inK]; omega), ?_⟩
    | fail
  all_goals (clear hn hl; simp_all [c_impl_OpeningRoll, openingD, openD, zeroG] <;> (intros; omega))
def c_spec_OpeningRoll : Con where
  ins := [(true, .v tVar), (true, .v tGame), (false, .v tI), (false, .v tI)]
  outs := [(true, .pr (.pr (.own 2 tI) (.own 2 tI)) (.v (.pr tI (.pr tRoll tVar)))), (false, .v tI)]
  sh := false
  pre := fun _ => True
  out := fun x => ((openingD x.1 x.2.1 x.2.2.1 x.2.2.2.1).1, (openingD x.1 x.2.1 x.2.2.1 x.2.2.2.1).2, ())
  upd := fun x => x
theorem k_spec_OpeningRoll : ConOk Try.prog 26 c_spec_OpeningRoll := by
  refine fn_okW (C := cx Try.prog 39 c_spec_OpeningRoll) (cs := [(65, c_spec_l08Valid), (72, c_spec_l01In), (74, c_spec_l08Open)]) (res := Try.f26.results.toList) (fun _ => ⟨[], [], []⟩) Try.func26 (by kernel_rfl) rfl rfl rfl tysOk.look eqTsOk.look (AllCs.ok (l := [(65, c_spec_l08Valid), (72, c_spec_l01In), (74, c_spec_l08Open)]) ⟨k_spec_l08Valid, k_spec_l01In, k_spec_l08Open, trivial⟩) mixed rfl rfl rfl ?_
  refine of_nf (P := ∀ v : Int × Int × Int × Int, ∀ g : ((List Int) × List Int) × Int × (Int × Int) × Int × Int × Int × Int, ∀ a : Int, ∀ b : Int, (True) → ((lensI c_spec_OpeningRoll.ins (v, g, a, b, ())) → (True ∧ (bsp (!(gameD v g)) (@Eq (HO c_spec_OpeningRoll.outs) ((([], []), 0, (0, 0), 0, 0, 0, 0), 1, ()) (c_spec_OpeningRoll.out (v, g, a, b, ()))) (bsp (decide (g.2.2.2.1 ≠ (0 : Int))) (@Eq (HO c_spec_OpeningRoll.outs) ((([], []), 0, (0, 0), 0, 0, 0, 0), 5, ()) (c_spec_OpeningRoll.out (v, g, a, b, ()))) (True ∧ (bsp (!(inB a (1 : Int) v.2.2.2)) (@Eq (HO c_spec_OpeningRoll.outs) ((([], []), 0, (0, 0), 0, 0, 0, 0), 2, ()) (c_spec_OpeningRoll.out (v, g, a, b, ()))) (True ∧ (bsp (!(inB b (1 : Int) v.2.2.2)) (@Eq (HO c_spec_OpeningRoll.outs) ((([], []), 0, (0, 0), 0, 0, 0, 0), 2, ()) (c_spec_OpeningRoll.out (v, g, a, b, ()))) ((NeB g.1) ∧ (@Eq (HO c_spec_OpeningRoll.outs) ((openD g a b), 0, ()) (c_spec_OpeningRoll.out (v, g, a, b, ()))))))))))))) (by kernel_rfl) ?_
  rintro v g a b hpre hl
  have hn : gameD v g = true → NeB g.1 ∧ 0 ≤ g.2.1 ∧ g.2.1 ≤ 1 := gameD_ne
  repeat' first
    | refine ⟨trivial, ?_⟩
    | refine bspB (fun _ => ?_) (fun _ => ?_)
    | refine ⟨(hn (by simp_all)).1, ?_⟩
    | refine ⟨⟨(hn (by simp_all)).1.1.2, (hn (by simp_all)).1.2.2⟩, ?_⟩
    | refine ⟨(by have := hn (by simp_all); simp only [inK]; omega), ?_⟩
    | fail
  all_goals (clear hn hl; simp_all [c_spec_OpeningRoll, openingD, openD, zeroG] <;> (intros; omega))
def c_laws_FnExactRollDice : Con where
  ins := [(true, .v tVar), (true, .v tGame), (true, .v tRoll)]
  outs := [(false, .v .b)]
  sh := false
  pre := fun x => wfD tVar x.1 ∧ wfD tGame x.2.1 ∧ wfD tRoll x.2.2.1
  out := fun _ => (true, ())
  upd := fun x => x
theorem k_laws_FnExactRollDice : ConOk Try.prog 3 c_laws_FnExactRollDice := by
  refine fn_okW (C := cx Try.prog 112 c_laws_FnExactRollDice) (cs := [(15, c_laws_szGame), (17, c_laws_toVariant), (18, c_laws_toGame), (19, c_laws_toRoll), (16, c_spec_RollDice), (20, c_impl_RollDice), (21, c_laws_eqGame), (22, c_laws_markGame), (23, c_laws_heldGame)]) (res := Try.f3.results.toList) (fun _ => ⟨[], [(5, ⟨[[], [0], [], [0, 1, 2], [], [0, 1, 2, 3, 4], [0, 1, 2, 3, 4, 5], [0, 1, 2, 3, 4, 5, 6], [0, 1, 2, 3, 4, 5, 6, 7], [0, 1, 2, 3, 4, 5, 6, 7], [], [0, 1, 2, 3, 4, 5, 6, 7, 8, 10], [0, 1, 2, 3, 4, 5, 6, 7, 8, 9, 10, 11]], [[2, 4, 10], [2, 4, 10], [0, 1, 4, 10], [4, 10], [0, 1, 2, 3, 10], [10], [10], [10], [9, 10], [8, 10, 11], [0, 1, 2, 3, 4, 5, 6, 7, 8, 9], [9], []], []⟩), (7, ⟨[[], [0], [], [], [0, 1, 3], [0, 1, 2, 3, 4], [0, 1, 2, 3, 4, 5], [0, 1, 2, 3, 4, 5, 6], [0, 1, 2, 3, 4, 5, 6], [], [0, 1, 2, 3, 4, 5, 6, 7, 9], [0, 1, 2, 3, 4, 5, 6, 7, 8, 9, 10]], [[2, 3, 9], [2, 3, 9], [0, 1, 3, 4, 9], [0, 1, 2, 9], [2, 9], [9], [9], [8, 9], [7, 9, 10], [0, 1, 2, 3, 4, 5, 6, 7, 8], [8], []], []⟩), (10, ⟨[[], [], [1], [0, 1, 2], [0, 1, 2, 3]], [[1, 2], [0], [0], [], []], []⟩), (24, ⟨[[], [0], [], [0, 1, 2], [], [0, 1, 2, 3, 4], [0, 1, 2, 3, 4, 5], [0, 1, 2, 3, 4, 5, 6], [0, 1, 2, 3, 4, 5, 6, 7], [0, 1, 2, 3, 4, 5, 6, 7], [], [0, 1, 2, 3, 4, 5, 6, 7, 8, 10], [0, 1, 2, 3, 4, 5, 6, 7, 8, 9, 10, 11]], [[2, 4, 10], [2, 4, 10], [0, 1, 4, 10], [4, 10], [0, 1, 2, 3, 10], [10], [10], [10], [9, 10], [8, 10, 11], [0, 1, 2, 3, 4, 5, 6, 7, 8, 9], [9], []], []⟩)], []⟩) Try.func3 (by kernel_rfl) rfl rfl rfl tysOk.look eqTsOk.look (AllCs.ok (l := [(15, c_laws_szGame), (17, c_laws_toVariant), (18, c_laws_toGame), (19, c_laws_toRoll), (16, c_spec_RollDice), (20, c_impl_RollDice), (21, c_laws_eqGame), (22, c_laws_markGame), (23, c_laws_heldGame)]) ⟨k_laws_szGame, k_laws_toVariant, k_laws_toGame, k_laws_toRoll, k_spec_RollDice, k_impl_RollDice, k_laws_eqGame, k_laws_markGame, k_laws_heldGame, trivial⟩) mixed rfl rfl rfl ?_
  refine of_nf (P := ∀ v : Int × Int × Int × Int, ∀ g : ((List Int) × List Int) × Int × (Int × Int) × Int × Int × Int × Int, ∀ r : Int × Int, (wfD tVar v ∧ wfD tGame g ∧ wfD tRoll r) → ((lensI c_laws_FnExactRollDice.ins (v, g, r, ())) → ((-1 ≤ (1048576 : Int) ∧ (1048576 : Int) ≤ 1048576) ∧ (bsp (decide ((szD (List.length g.1.1 + List.length g.1.2) (1048576 : Int)) < (0 : Int))) (@Eq (HO c_laws_FnExactRollDice.outs) (true, ()) (c_laws_FnExactRollDice.out (v, g, r, ()))) (True ∧ ((List.length g.1.1 ≤ 1099511627776 ∧ List.length g.1.2 ≤ 1099511627776) ∧ (True ∧ (True ∧ ((List.length g.1.1 ≤ 1099511627776 ∧ List.length g.1.2 ≤ 1099511627776) ∧ (True ∧ (True ∧ (True ∧ (True ∧ (bsp (!(decide ((rollDiceD v g r).1 = (rollDiceD v g r).1))) (@Eq (HO c_laws_FnExactRollDice.outs) (false, ()) (c_laws_FnExactRollDice.out (v, g, r, ()))) (bsp (decide ((rollDiceD v g r).2 ≠ (rollDiceD v g r).2)) (@Eq (HO c_laws_FnExactRollDice.outs) (false, ()) (c_laws_FnExactRollDice.out (v, g, r, ()))) ((List.length g.1.1 ≤ 1099511627776 ∧ List.length g.1.2 ≤ 1099511627776) ∧ (True ∧ (bsp (!(decide (g = g))) (@Eq (HO c_laws_FnExactRollDice.outs) (false, ()) (c_laws_FnExactRollDice.out (v, g, r, ()))) ((0 ≤ (1 : Int) ∧ (1 : Int) + (List.length g.1.1 : Int) ≤ 1099511627776 ∧ List.length g.1.2 ≤ 1099511627776) ∧ (bsp (decide (((1 : Int) + (List.length g.1.1 : Int) + (List.length g.1.2 : Int)) < (0 : Int))) (@Eq (HO c_laws_FnExactRollDice.outs) (false, ()) (c_laws_FnExactRollDice.out (v, g, r, ()))) (True ∧ (bsp (!(decide ((rollDiceD v g r).1 = (rollDiceD v g r).1))) (@Eq (HO c_laws_FnExactRollDice.outs) (false, ()) (c_laws_FnExactRollDice.out (v, g, r, ()))) (bsp (decide ((rollDiceD v g r).2 ≠ (rollDiceD v g r).2)) (@Eq (HO c_laws_FnExactRollDice.outs) (false, ()) (c_laws_FnExactRollDice.out (v, g, r, ()))) ((0 ≤ (1 : Int) ∧ (1 : Int) + (List.length (rollDiceD v g r).1.1.1 : Int) ≤ 1099511627776 ∧ List.length (rollDiceD v g r).1.1.2 ≤ 1099511627776) ∧ (((((markL (1 : Int) (List.length (rollDiceD v g r).1.1.1), markL ((1 : Int) + (List.length (rollDiceD v g r).1.1.1 : Int)) (List.length (rollDiceD v g r).1.1.2)), (rollDiceD v g r).1.2).1.1 = markL (1 : Int) (List.length ((markL (1 : Int) (List.length (rollDiceD v g r).1.1.1), markL ((1 : Int) + (List.length (rollDiceD v g r).1.1.1 : Int)) (List.length (rollDiceD v g r).1.1.2)), (rollDiceD v g r).1.2).1.1) ∧ ((markL (1 : Int) (List.length (rollDiceD v g r).1.1.1), markL ((1 : Int) + (List.length (rollDiceD v g r).1.1.1 : Int)) (List.length (rollDiceD v g r).1.1.2)), (rollDiceD v g r).1.2).1.2 = markL ((1 : Int) + (List.length ((markL (1 : Int) (List.length (rollDiceD v g r).1.1.1), markL ((1 : Int) + (List.length (rollDiceD v g r).1.1.1 : Int)) (List.length (rollDiceD v g r).1.1.2)), (rollDiceD v g r).1.2).1.1 : Int)) (List.length ((markL (1 : Int) (List.length (rollDiceD v g r).1.1.1), markL ((1 : Int) + (List.length (rollDiceD v g r).1.1.1 : Int)) (List.length (rollDiceD v g r).1.1.2)), (rollDiceD v g r).1.2).1.2)) ∧ 0 ≤ (1 : Int) ∧ (1 : Int) + (List.length ((markL (1 : Int) (List.length (rollDiceD v g r).1.1.1), markL ((1 : Int) + (List.length (rollDiceD v g r).1.1.1 : Int)) (List.length (rollDiceD v g r).1.1.2)), (rollDiceD v g r).1.2).1.1 : Int) ≤ 1099511627776 ∧ List.length ((markL (1 : Int) (List.length (rollDiceD v g r).1.1.1), markL ((1 : Int) + (List.length (rollDiceD v g r).1.1.1 : Int)) (List.length (rollDiceD v g r).1.1.2)), (rollDiceD v g r).1.2).1.2 ≤ 1099511627776) ∧ (bsp (decide (((1 : Int) + (List.length ((markL (1 : Int) (List.length (rollDiceD v g r).1.1.1), markL ((1 : Int) + (List.length (rollDiceD v g r).1.1.1 : Int)) (List.length (rollDiceD v g r).1.1.2)), (rollDiceD v g r).1.2).1.1 : Int) + (List.length ((markL (1 : Int) (List.length (rollDiceD v g r).1.1.1), markL ((1 : Int) + (List.length (rollDiceD v g r).1.1.1 : Int)) (List.length (rollDiceD v g r).1.1.2)), (rollDiceD v g r).1.2).1.2 : Int)) < (0 : Int))) (@Eq (HO c_laws_FnExactRollDice.outs) (false, ()) (c_laws_FnExactRollDice.out (v, g, r, ()))) (bsp (decide (((1 : Int) + (List.length ((markL (1 : Int) (List.length (rollDiceD v g r).1.1.1), markL ((1 : Int) + (List.length (rollDiceD v g r).1.1.1 : Int)) (List.length (rollDiceD v g r).1.1.2)), (rollDiceD v g r).1.2).1.1 : Int) + (List.length ((markL (1 : Int) (List.length (rollDiceD v g r).1.1.1), markL ((1 : Int) + (List.length (rollDiceD v g r).1.1.1 : Int)) (List.length (rollDiceD v g r).1.1.2)), (rollDiceD v g r).1.2).1.2 : Int)) ≠ ((1 : Int) + (List.length (rollDiceD v g r).1.1.1 : Int) + (List.length (rollDiceD v g r).1.1.2 : Int)))) (@Eq (HO c_laws_FnExactRollDice.outs) (false, ()) (c_laws_FnExactRollDice.out (v, g, r, ()))) (True ∧ ((List.length g.1.1 ≤ 1099511627776 ∧ List.length g.1.2 ≤ 1099511627776) ∧ (True ∧ (True ∧ (True ∧ (bsp (!(decide ((rollDiceD v g r).1 = (rollDiceD v g r).1))) (@Eq (HO c_laws_FnExactRollDice.outs) (false, ()) (c_laws_FnExactRollDice.out (v, g, r, ()))) (bsp (decide ((rollDiceD v g r).2 ≠ (rollDiceD v g r).2)) (@Eq (HO c_laws_FnExactRollDice.outs) (false, ()) (c_laws_FnExactRollDice.out (v, g, r, ()))) (((((markL (1 : Int) (List.length (rollDiceD v g r).1.1.1), markL ((1 : Int) + (List.length (rollDiceD v g r).1.1.1 : Int)) (List.length (rollDiceD v g r).1.1.2)), (rollDiceD v g r).1.2).1.1 = markL (1 : Int) (List.length ((markL (1 : Int) (List.length (rollDiceD v g r).1.1.1), markL ((1 : Int) + (List.length (rollDiceD v g r).1.1.1 : Int)) (List.length (rollDiceD v g r).1.1.2)), (rollDiceD v g r).1.2).1.1) ∧ ((markL (1 : Int) (List.length (rollDiceD v g r).1.1.1), markL ((1 : Int) + (List.length (rollDiceD v g r).1.1.1 : Int)) (List.length (rollDiceD v g r).1.1.2)), (rollDiceD v g r).1.2).1.2 = markL ((1 : Int) + (List.length ((markL (1 : Int) (List.length (rollDiceD v g r).1.1.1), markL ((1 : Int) + (List.length (rollDiceD v g r).1.1.1 : Int)) (List.length (rollDiceD v g r).1.1.2)), (rollDiceD v g r).1.2).1.1 : Int)) (List.length ((markL (1 : Int) (List.length (rollDiceD v g r).1.1.1), markL ((1 : Int) + (List.length (rollDiceD v g r).1.1.1 : Int)) (List.length (rollDiceD v g r).1.1.2)), (rollDiceD v g r).1.2).1.2)) ∧ 0 ≤ (1 : Int) ∧ (1 : Int) + (List.length ((markL (1 : Int) (List.length (rollDiceD v g r).1.1.1), markL ((1 : Int) + (List.length (rollDiceD v g r).1.1.1 : Int)) (List.length (rollDiceD v g r).1.1.2)), (rollDiceD v g r).1.2).1.1 : Int) ≤ 1099511627776 ∧ List.length ((markL (1 : Int) (List.length (rollDiceD v g r).1.1.1), markL ((1 : Int) + (List.length (rollDiceD v g r).1.1.1 : Int)) (List.length (rollDiceD v g r).1.1.2)), (rollDiceD v g r).1.2).1.2 ≤ 1099511627776) ∧ (bsp (decide (((1 : Int) + (List.length ((markL (1 : Int) (List.length (rollDiceD v g r).1.1.1), markL ((1 : Int) + (List.length (rollDiceD v g r).1.1.1 : Int)) (List.length (rollDiceD v g r).1.1.2)), (rollDiceD v g r).1.2).1.1 : Int) + (List.length ((markL (1 : Int) (List.length (rollDiceD v g r).1.1.1), markL ((1 : Int) + (List.length (rollDiceD v g r).1.1.1 : Int)) (List.length (rollDiceD v g r).1.1.2)), (rollDiceD v g r).1.2).1.2 : Int)) < (0 : Int))) (@Eq (HO c_laws_FnExactRollDice.outs) (false, ()) (c_laws_FnExactRollDice.out (v, g, r, ()))) (bsp (decide (((1 : Int) + (List.length ((markL (1 : Int) (List.length (rollDiceD v g r).1.1.1), markL ((1 : Int) + (List.length (rollDiceD v g r).1.1.1 : Int)) (List.length (rollDiceD v g r).1.1.2)), (rollDiceD v g r).1.2).1.1 : Int) + (List.length ((markL (1 : Int) (List.length (rollDiceD v g r).1.1.1), markL ((1 : Int) + (List.length (rollDiceD v g r).1.1.1 : Int)) (List.length (rollDiceD v g r).1.1.2)), (rollDiceD v g r).1.2).1.2 : Int)) ≠ ((1 : Int) + (List.length (rollDiceD v g r).1.1.1 : Int) + (List.length (rollDiceD v g r).1.1.2 : Int)))) (@Eq (HO c_laws_FnExactRollDice.outs) (false, ()) (c_laws_FnExactRollDice.out (v, g, r, ()))) (@Eq (HO c_laws_FnExactRollDice.outs) (true, ()) (c_laws_FnExactRollDice.out (v, g, r, ())))))))))))))))))))))))))))))))))))))))) (by kernel_rfl) ?_
  rintro v g r hw hl
  refine ⟨by omega, bspD (fun _ => rfl) (fun hs => ?_)⟩
  have hle := szD_ge hs
  have hX := rollDiceD_le v g r
  revert hX
  generalize rollDiceD v g r = X
  intro hX
  unfold LeG at hX
  clear hl hw hs
  repeat' first
    | exact rfl
    | refine ⟨trivial, ?_⟩
    | refine bspB (fun h => absurd h (by first | simp; done | (simp [markL_length]; done) | (simp [markL_length]; omega))) (fun _ => ?_)
    | refine ⟨(by first | omega | (simp [markL_length]; done) | (simp [markL_length]; omega)), ?_⟩
    | fail
def c_laws_FnExactResignGame : Con where
  ins := [(true, .v tVar), (true, .v tGame), (false, .v tI)]
  outs := [(false, .v .b)]
  sh := false
  pre := fun x => wfD tVar x.1 ∧ wfD tGame x.2.1 ∧ wfD tI x.2.2.1
  out := fun _ => (true, ())
  upd := fun x => x
theorem k_laws_FnExactResignGame : ConOk Try.prog 4 c_laws_FnExactResignGame := by
  refine fn_okW (C := cx Try.prog 109 c_laws_FnExactResignGame) (cs := [(15, c_laws_szGame), (17, c_laws_toVariant), (18, c_laws_toGame), (24, c_spec_ResignGame), (25, c_impl_ResignGame), (21, c_laws_eqGame), (22, c_laws_markGame), (23, c_laws_heldGame)]) (res := Try.f4.results.toList) (fun _ => ⟨[], [(5, ⟨[[], [0], [], [0, 1, 2], [], [0, 1, 2, 3, 4], [0, 1, 2, 3, 4, 5], [0, 1, 2, 3, 4, 5, 6], [0, 1, 2, 3, 4, 5, 6], [], [0, 1, 2, 3, 4, 5, 6, 7, 9], [0, 1, 2, 3, 4, 5, 6, 7, 8, 9, 10]], [[2, 4, 9], [2, 4, 9], [0, 1, 4, 9], [4, 9], [0, 1, 2, 3, 9], [9], [9], [8, 9], [7, 9, 10], [0, 1, 2, 3, 4, 5, 6, 7, 8], [8], []], []⟩), (7, ⟨[[], [0], [], [], [0, 1, 2, 3], [0, 1, 2, 3, 4], [0, 1, 2, 3, 4, 5], [0, 1, 2, 3, 4, 5], [], [0, 1, 2, 3, 4, 5, 6, 8], [0, 1, 2, 3, 4, 5, 6, 7, 8, 9]], [[2, 3, 8], [2, 3, 8], [0, 1, 3, 8], [0, 1, 2, 8], [8], [8], [7, 8], [6, 8, 9], [0, 1, 2, 3, 4, 5, 6, 7], [7], []], []⟩), (10, ⟨[[], [], [1], [0, 1, 2], [0, 1, 2, 3]], [[1, 2], [0], [0], [], []], []⟩), (24, ⟨[[], [0], [], [0, 1, 2], [], [0, 1, 2, 3, 4], [0, 1, 2, 3, 4, 5], [0, 1, 2, 3, 4, 5, 6], [0, 1, 2, 3, 4, 5, 6], [], [0, 1, 2, 3, 4, 5, 6, 7, 9], [0, 1, 2, 3, 4, 5, 6, 7, 8, 9, 10]], [[2, 4, 9], [2, 4, 9], [0, 1, 4, 9], [4, 9], [0, 1, 2, 3, 9], [9], [9], [8, 9], [7, 9, 10], [0, 1, 2, 3, 4, 5, 6, 7, 8], [8], []], []⟩)], []⟩) Try.func4 (by kernel_rfl) rfl rfl rfl tysOk.look eqTsOk.look (AllCs.ok (l := [(15, c_laws_szGame), (17, c_laws_toVariant), (18, c_laws_toGame), (24, c_spec_ResignGame), (25, c_impl_ResignGame), (21, c_laws_eqGame), (22, c_laws_markGame), (23, c_laws_heldGame)]) ⟨k_laws_szGame, k_laws_toVariant, k_laws_toGame, k_spec_ResignGame, k_impl_ResignGame, k_laws_eqGame, k_laws_markGame, k_laws_heldGame, trivial⟩) mixed rfl rfl rfl ?_
  refine of_nf (P := ∀ v : Int × Int × Int × Int, ∀ g : ((List Int) × List Int) × Int × (Int × Int) × Int × Int × Int × Int, ∀ k : Int, (wfD tVar v ∧ wfD tGame g ∧ wfD tI k) → ((lensI c_laws_FnExactResignGame.ins (v, g, k, ())) → ((-1 ≤ (1048576 : Int) ∧ (1048576 : Int) ≤ 1048576) ∧ (bsp (decide ((szD (List.length g.1.1 + List.length g.1.2) (1048576 : Int)) < (0 : Int))) (@Eq (HO c_laws_FnExactResignGame.outs) (true, ()) (c_laws_FnExactResignGame.out (v, g, k, ()))) (True ∧ ((List.length g.1.1 ≤ 1099511627776 ∧ List.length g.1.2 ≤ 1099511627776) ∧ (True ∧ ((List.length g.1.1 ≤ 1099511627776 ∧ List.length g.1.2 ≤ 1099511627776) ∧ (True ∧ (True ∧ (True ∧ (bsp (!(decide ((resignD v g k).1 = (resignD v g k).1))) (@Eq (HO c_laws_FnExactResignGame.outs) (false, ()) (c_laws_FnExactResignGame.out (v, g, k, ()))) (bsp (decide ((resignD v g k).2 ≠ (resignD v g k).2)) (@Eq (HO c_laws_FnExactResignGame.outs) (false, ()) (c_laws_FnExactResignGame.out (v, g, k, ()))) ((List.length g.1.1 ≤ 1099511627776 ∧ List.length g.1.2 ≤ 1099511627776) ∧ (True ∧ (bsp (!(decide (g = g))) (@Eq (HO c_laws_FnExactResignGame.outs) (false, ()) (c_laws_FnExactResignGame.out (v, g, k, ()))) ((0 ≤ (1 : Int) ∧ (1 : Int) + (List.length g.1.1 : Int) ≤ 1099511627776 ∧ List.length g.1.2 ≤ 1099511627776) ∧ (bsp (decide (((1 : Int) + (List.length g.1.1 : Int) + (List.length g.1.2 : Int)) < (0 : Int))) (@Eq (HO c_laws_FnExactResignGame.outs) (false, ()) (c_laws_FnExactResignGame.out (v, g, k, ()))) (True ∧ (bsp (!(decide ((resignD v g k).1 = (resignD v g k).1))) (@Eq (HO c_laws_FnExactResignGame.outs) (false, ()) (c_laws_FnExactResignGame.out (v, g, k, ()))) (bsp (decide ((resignD v g k).2 ≠ (resignD v g k).2)) (@Eq (HO c_laws_FnExactResignGame.outs) (false, ()) (c_laws_FnExactResignGame.out (v, g, k, ()))) ((0 ≤ (1 : Int) ∧ (1 : Int) + (List.length (resignD v g k).1.1.1 : Int) ≤ 1099511627776 ∧ List.length (resignD v g k).1.1.2 ≤ 1099511627776) ∧ (((((markL (1 : Int) (List.length (resignD v g k).1.1.1), markL ((1 : Int) + (List.length (resignD v g k).1.1.1 : Int)) (List.length (resignD v g k).1.1.2)), (resignD v g k).1.2).1.1 = markL (1 : Int) (List.length ((markL (1 : Int) (List.length (resignD v g k).1.1.1), markL ((1 : Int) + (List.length (resignD v g k).1.1.1 : Int)) (List.length (resignD v g k).1.1.2)), (resignD v g k).1.2).1.1) ∧ ((markL (1 : Int) (List.length (resignD v g k).1.1.1), markL ((1 : Int) + (List.length (resignD v g k).1.1.1 : Int)) (List.length (resignD v g k).1.1.2)), (resignD v g k).1.2).1.2 = markL ((1 : Int) + (List.length ((markL (1 : Int) (List.length (resignD v g k).1.1.1), markL ((1 : Int) + (List.length (resignD v g k).1.1.1 : Int)) (List.length (resignD v g k).1.1.2)), (resignD v g k).1.2).1.1 : Int)) (List.length ((markL (1 : Int) (List.length (resignD v g k).1.1.1), markL ((1 : Int) + (List.length (resignD v g k).1.1.1 : Int)) (List.length (resignD v g k).1.1.2)), (resignD v g k).1.2).1.2)) ∧ 0 ≤ (1 : Int) ∧ (1 : Int) + (List.length ((markL (1 : Int) (List.length (resignD v g k).1.1.1), markL ((1 : Int) + (List.length (resignD v g k).1.1.1 : Int)) (List.length (resignD v g k).1.1.2)), (resignD v g k).1.2).1.1 : Int) ≤ 1099511627776 ∧ List.length ((markL (1 : Int) (List.length (resignD v g k).1.1.1), markL ((1 : Int) + (List.length (resignD v g k).1.1.1 : Int)) (List.length (resignD v g k).1.1.2)), (resignD v g k).1.2).1.2 ≤ 1099511627776) ∧ (bsp (decide (((1 : Int) + (List.length ((markL (1 : Int) (List.length (resignD v g k).1.1.1), markL ((1 : Int) + (List.length (resignD v g k).1.1.1 : Int)) (List.length (resignD v g k).1.1.2)), (resignD v g k).1.2).1.1 : Int) + (List.length ((markL (1 : Int) (List.length (resignD v g k).1.1.1), markL ((1 : Int) + (List.length (resignD v g k).1.1.1 : Int)) (List.length (resignD v g k).1.1.2)), (resignD v g k).1.2).1.2 : Int)) < (0 : Int))) (@Eq (HO c_laws_FnExactResignGame.outs) (false, ()) (c_laws_FnExactResignGame.out (v, g, k, ()))) (bsp (decide (((1 : Int) + (List.length ((markL (1 : Int) (List.length (resignD v g k).1.1.1), markL ((1 : Int) + (List.length (resignD v g k).1.1.1 : Int)) (List.length (resignD v g k).1.1.2)), (resignD v g k).1.2).1.1 : Int) + (List.length ((markL (1 : Int) (List.length (resignD v g k).1.1.1), markL ((1 : Int) + (List.length (resignD v g k).1.1.1 : Int)) (List.length (resignD v g k).1.1.2)), (resignD v g k).1.2).1.2 : Int)) ≠ ((1 : Int) + (List.length (resignD v g k).1.1.1 : Int) + (List.length (resignD v g k).1.1.2 : Int)))) (@Eq (HO c_laws_FnExactResignGame.outs) (false, ()) (c_laws_FnExactResignGame.out (v, g, k, ()))) (True ∧ ((List.length g.1.1 ≤ 1099511627776 ∧ List.length g.1.2 ≤ 1099511627776) ∧ (True ∧ (True ∧ (bsp (!(decide ((resignD v g k).1 = (resignD v g k).1))) (@Eq (HO c_laws_FnExactResignGame.outs) (false, ()) (c_laws_FnExactResignGame.out (v, g, k, ()))) (bsp (decide ((resignD v g k).2 ≠ (resignD v g k).2)) (@Eq (HO c_laws_FnExactResignGame.outs) (false, ()) (c_laws_FnExactResignGame.out (v, g, k, ()))) (((((markL (1 : Int) (List.length (resignD v g k).1.1.1), markL ((1 : Int) + (List.length (resignD v g k).1.1.1 : Int)) (List.length (resignD v g k).1.1.2)), (resignD v g k).1.2).1.1 = markL (1 : Int) (List.length ((markL (1 : Int) (List.length (resignD v g k).1.1.1), markL ((1 : Int) + (List.length (resignD v g k).1.1.1 : Int)) (List.length (resignD v g k).1.1.2)), (resignD v g k).1.2).1.1) ∧ ((markL (1 : Int) (List.length (resignD v g k).1.1.1), markL ((1 : Int) + (List.length (resignD v g k).1.1.1 : Int)) (List.length (resignD v g k).1.1.2)), (resignD v g k).1.2).1.2 = markL ((1 : Int) + (List.length ((markL (1 : Int) (List.length (resignD v g k).1.1.1), markL ((1 : Int) + (List.length (resignD v g k).1.1.1 : Int)) (List.length (resignD v g k).1.1.2)), (resignD v g k).1.2).1.1 : Int)) (List.length ((markL (1 : Int) (List.length (resignD v g k).1.1.1), markL ((1 : Int) + (List.length (resignD v g k).1.1.1 : Int)) (List.length (resignD v g k).1.1.2)), (resignD v g k).1.2).1.2)) ∧ 0 ≤ (1 : Int) ∧ (1 : Int) + (List.length ((markL (1 : Int) (List.length (resignD v g k).1.1.1), markL ((1 : Int) + (List.length (resignD v g k).1.1.1 : Int)) (List.length (resignD v g k).1.1.2)), (resignD v g k).1.2).1.1 : Int) ≤ 1099511627776 ∧ List.length ((markL (1 : Int) (List.length (resignD v g k).1.1.1), markL ((1 : Int) + (List.length (resignD v g k).1.1.1 : Int)) (List.length (resignD v g k).1.1.2)), (resignD v g k).1.2).1.2 ≤ 1099511627776) ∧ (bsp (decide (((1 : Int) + (List.length ((markL (1 : Int) (List.length (resignD v g k).1.1.1), markL ((1 : Int) + (List.length (resignD v g k).1.1.1 : Int)) (List.length (resignD v g k).1.1.2)), (resignD v g k).1.2).1.1 : Int) + (List.length ((markL (1 : Int) (List.length (resignD v g k).1.1.1), markL ((1 : Int) + (List.length (resignD v g k).1.1.1 : Int)) (List.length (resignD v g k).1.1.2)), (resignD v g k).1.2).1.2 : Int)) < (0 : Int))) (@Eq (HO c_laws_FnExactResignGame.outs) (false, ()) (c_laws_FnExactResignGame.out (v, g, k, ()))) (bsp (decide (((1 : Int) + (List.length ((markL (1 : Int) (List.length (resignD v g k).1.1.1), markL ((1 : Int) + (List.length (resignD v g k).1.1.1 : Int)) (List.length (resignD v g k).1.1.2)), (resignD v g k).1.2).1.1 : Int) + (List.length ((markL (1 : Int) (List.length (resignD v g k).1.1.1), markL ((1 : Int) + (List.length (resignD v g k).1.1.1 : Int)) (List.length (resignD v g k).1.1.2)), (resignD v g k).1.2).1.2 : Int)) ≠ ((1 : Int) + (List.length (resignD v g k).1.1.1 : Int) + (List.length (resignD v g k).1.1.2 : Int)))) (@Eq (HO c_laws_FnExactResignGame.outs) (false, ()) (c_laws_FnExactResignGame.out (v, g, k, ()))) (@Eq (HO c_laws_FnExactResignGame.outs) (true, ()) (c_laws_FnExactResignGame.out (v, g, k, ()))))))))))))))))))))))))))))))))))))) (by kernel_rfl) ?_
  rintro v g k hw hl
  refine ⟨by omega, bspD (fun _ => rfl) (fun hs => ?_)⟩
  have hle := szD_ge hs
  have hX := resignD_le v g k
  revert hX
  generalize resignD v g k = X
  intro hX
  unfold LeG at hX
  clear hl hw hs
  repeat' first
    | exact rfl
    | refine ⟨trivial, ?_⟩
    | refine bspB (fun h => absurd h (by first | simp; done | (simp [markL_length]; done) | (simp [markL_length]; omega))) (fun _ => ?_)
    | refine ⟨(by first | omega | (simp [markL_length]; done) | (simp [markL_length]; omega)), ?_⟩
    | fail
def c_laws_FnExactOpeningRoll : Con where
  ins := [(true, .v tVar), (true, .v tGame), (false, .v tI), (false, .v tI)]
  outs := [(false, .v .b)]
  sh := false
  pre := fun x => wfD tVar x.1 ∧ wfD tGame x.2.1 ∧ wfD tI x.2.2.1 ∧ wfD tI x.2.2.2.1
  out := fun _ => (true, ())
  upd := fun x => x
theorem k_laws_FnExactOpeningRoll : ConOk Try.prog 5 c_laws_FnExactOpeningRoll := by
  refine fn_okW (C := cx Try.prog 114 c_laws_FnExactOpeningRoll) (cs := [(15, c_laws_szGame), (17, c_laws_toVariant), (18, c_laws_toGame), (26, c_spec_OpeningRoll), (27, c_impl_OpeningRoll), (21, c_laws_eqGame), (22, c_laws_markGame), (23, c_laws_heldGame)]) (res := Try.f5.results.toList) (fun _ => ⟨[], [(5, ⟨[[], [0], [], [0, 1, 2], [], [], [0, 1, 2, 3, 4, 5], [0, 1, 2, 3, 4, 5, 6], [0, 1, 2, 3, 4, 5, 6, 7], [0, 1, 2, 3, 4, 5, 6, 7], [], [0, 1, 2, 3, 4, 5, 6, 7, 8, 10], [0, 1, 2, 3, 4, 5, 6, 7, 8, 9, 10, 11]], [[2, 4, 5, 10], [2, 4, 5, 10], [0, 1, 4, 5, 10], [4, 5, 10], [0, 1, 2, 3, 5, 10], [0, 1, 2, 3, 4, 10], [10], [10], [9, 10], [8, 10, 11], [0, 1, 2, 3, 4, 5, 6, 7, 8, 9], [9], []], []⟩), (7, ⟨[[], [0], [], [], [], [0, 1, 2, 3, 4], [0, 1, 2, 3, 4, 5], [0, 1, 2, 3, 4, 5, 6], [0, 1, 2, 3, 4, 5, 6], [], [0, 1, 2, 3, 4, 5, 6, 7, 9], [0, 1, 2, 3, 4, 5, 6, 7, 8, 9, 10]], [[2, 3, 4, 9], [2, 3, 4, 9], [0, 1, 3, 4, 9], [0, 1, 2, 4, 9], [0, 1, 2, 3, 9], [9], [9], [8, 9], [7, 9, 10], [0, 1, 2, 3, 4, 5, 6, 7, 8], [8], []], []⟩), (10, ⟨[[], [], [1], [0, 1, 2], [0, 1, 2, 3]], [[1, 2], [0], [0], [], []], []⟩), (24, ⟨[[], [0], [], [0, 1, 2], [], [], [0, 1, 2, 3, 4, 5], [0, 1, 2, 3, 4, 5, 6], [0, 1, 2, 3, 4, 5, 6, 7], [0, 1, 2, 3, 4, 5, 6, 7], [], [0, 1, 2, 3, 4, 5, 6, 7, 8, 10], [0, 1, 2, 3, 4, 5, 6, 7, 8, 9, 10, 11]], [[2, 4, 5, 10], [2, 4, 5, 10], [0, 1, 4, 5, 10], [4, 5, 10], [0, 1, 2, 3, 5, 10], [0, 1, 2, 3, 4, 10], [10], [10], [9, 10], [8, 10, 11], [0, 1, 2, 3, 4, 5, 6, 7, 8, 9], [9], []], []⟩)], []⟩) Try.func5 (by kernel_rfl) rfl rfl rfl tysOk.look eqTsOk.look (AllCs.ok (l := [(15, c_laws_szGame), (17, c_laws_toVariant), (18, c_laws_toGame), (26, c_spec_OpeningRoll), (27, c_impl_OpeningRoll), (21, c_laws_eqGame), (22, c_laws_markGame), (23, c_laws_heldGame)]) ⟨k_laws_szGame, k_laws_toVariant, k_laws_toGame, k_spec_OpeningRoll, k_impl_OpeningRoll, k_laws_eqGame, k_laws_markGame, k_laws_heldGame, trivial⟩) mixed rfl rfl rfl ?_
  refine of_nf (P := ∀ v : Int × Int × Int × Int, ∀ g : ((List Int) × List Int) × Int × (Int × Int) × Int × Int × Int × Int, ∀ a : Int, ∀ b : Int, (wfD tVar v ∧ wfD tGame g ∧ wfD tI a ∧ wfD tI b) → ((lensI c_laws_FnExactOpeningRoll.ins (v, g, a, b, ())) → ((-1 ≤ (1048576 : Int) ∧ (1048576 : Int) ≤ 1048576) ∧ (bsp (decide ((szD (List.length g.1.1 + List.length g.1.2) (1048576 : Int)) < (0 : Int))) (@Eq (HO c_laws_FnExactOpeningRoll.outs) (true, ()) (c_laws_FnExactOpeningRoll.out (v, g, a, b, ()))) (True ∧ ((List.length g.1.1 ≤ 1099511627776 ∧ List.length g.1.2 ≤ 1099511627776) ∧ (True ∧ ((List.length g.1.1 ≤ 1099511627776 ∧ List.length g.1.2 ≤ 1099511627776) ∧ (True ∧ (True ∧ (True ∧ (bsp (!(decide ((openingD v g a b).1 = (openingD v g a b).1))) (@Eq (HO c_laws_FnExactOpeningRoll.outs) (false, ()) (c_laws_FnExactOpeningRoll.out (v, g, a, b, ()))) (bsp (decide ((openingD v g a b).2 ≠ (openingD v g a b).2)) (@Eq (HO c_laws_FnExactOpeningRoll.outs) (false, ()) (c_laws_FnExactOpeningRoll.out (v, g, a, b, ()))) ((List.length g.1.1 ≤ 1099511627776 ∧ List.length g.1.2 ≤ 1099511627776) ∧ (True ∧ (bsp (!(decide (g = g))) (@Eq (HO c_laws_FnExactOpeningRoll.outs) (false, ()) (c_laws_FnExactOpeningRoll.out (v, g, a, b, ()))) ((0 ≤ (1 : Int) ∧ (1 : Int) + (List.length g.1.1 : Int) ≤ 1099511627776 ∧ List.length g.1.2 ≤ 1099511627776) ∧ (bsp (decide (((1 : Int) + (List.length g.1.1 : Int) + (List.length g.1.2 : Int)) < (0 : Int))) (@Eq (HO c_laws_FnExactOpeningRoll.outs) (false, ()) (c_laws_FnExactOpeningRoll.out (v, g, a, b, ()))) (True ∧ (bsp (!(decide ((openingD v g a b).1 = (openingD v g a b).1))) (@Eq (HO c_laws_FnExactOpeningRoll.outs) (false, ()) (c_laws_FnExactOpeningRoll.out (v, g, a, b, ()))) (bsp (decide ((openingD v g a b).2 ≠ (openingD v g a b).2)) (@Eq (HO c_laws_FnExactOpeningRoll.outs) (false, ()) (c_laws_FnExactOpeningRoll.out (v, g, a, b, ()))) ((0 ≤ (1 : Int) ∧ (1 : Int) + (List.length (openingD v g a b).1.1.1 : Int) ≤ 1099511627776 ∧ List.length (openingD v g a b).1.1.2 ≤ 1099511627776) ∧ (((((markL (1 : Int) (List.length (openingD v g a b).1.1.1), markL ((1 : Int) + (List.length (openingD v g a b).1.1.1 : Int)) (List.length (openingD v g a b).1.1.2)), (openingD v g a b).1.2).1.1 = markL (1 : Int) (List.length ((markL (1 : Int) (List.length (openingD v g a b).1.1.1), markL ((1 : Int) + (List.length (openingD v g a b).1.1.1 : Int)) (List.length (openingD v g a b).1.1.2)), (openingD v g a b).1.2).1.1) ∧ ((markL (1 : Int) (List.length (openingD v g a b).1.1.1), markL ((1 : Int) + (List.length (openingD v g a b).1.1.1 : Int)) (List.length (openingD v g a b).1.1.2)), (openingD v g a b).1.2).1.2 = markL ((1 : Int) + (List.length ((markL (1 : Int) (List.length (openingD v g a b).1.1.1), markL ((1 : Int) + (List.length (openingD v g a b).1.1.1 : Int)) (List.length (openingD v g a b).1.1.2)), (openingD v g a b).1.2).1.1 : Int)) (List.length ((markL (1 : Int) (List.length (openingD v g a b).1.1.1), markL ((1 : Int) + (List.length (openingD v g a b).1.1.1 : Int)) (List.length (openingD v g a b).1.1.2)), (openingD v g a b).1.2).1.2)) ∧ 0 ≤ (1 : Int) ∧ (1 : Int) + (List.length ((markL (1 : Int) (List.length (openingD v g a b).1.1.1), markL ((1 : Int) + (List.length (openingD v g a b).1.1.1 : Int)) (List.length (openingD v g a b).1.1.2)), (openingD v g a b).1.2).1.1 : Int) ≤ 1099511627776 ∧ List.length ((markL (1 : Int) (List.length (openingD v g a b).1.1.1), markL ((1 : Int) + (List.length (openingD v g a b).1.1.1 : Int)) (List.length (openingD v g a b).1.1.2)), (openingD v g a b).1.2).1.2 ≤ 1099511627776) ∧ (bsp (decide (((1 : Int) + (List.length ((markL (1 : Int) (List.length (openingD v g a b).1.1.1), markL ((1 : Int) + (List.length (openingD v g a b).1.1.1 : Int)) (List.length (openingD v g a b).1.1.2)), (openingD v g a b).1.2).1.1 : Int) + (List.length ((markL (1 : Int) (List.length (openingD v g a b).1.1.1), markL ((1 : Int) + (List.length (openingD v g a b).1.1.1 : Int)) (List.length (openingD v g a b).1.1.2)), (openingD v g a b).1.2).1.2 : Int)) < (0 : Int))) (@Eq (HO c_laws_FnExactOpeningRoll.outs) (false, ()) (c_laws_FnExactOpeningRoll.out (v, g, a, b, ()))) (bsp (decide (((1 : Int) + (List.length ((markL (1 : Int) (List.length (openingD v g a b).1.1.1), markL ((1 : Int) + (List.length (openingD v g a b).1.1.1 : Int)) (List.length (openingD v g a b).1.1.2)), (openingD v g a b).1.2).1.1 : Int) + (List.length ((markL (1 : Int) (List.length (openingD v g a b).1.1.1), markL ((1 : Int) + (List.length (openingD v g a b).1.1.1 : Int)) (List.length (openingD v g a b).1.1.2)), (openingD v g a b).1.2).1.2 : Int)) ≠ ((1 : Int) + (List.length (openingD v g a b).1.1.1 : Int) + (List.length (openingD v g a b).1.1.2 : Int)))) (@Eq (HO c_laws_FnExactOpeningRoll.outs) (false, ()) (c_laws_FnExactOpeningRoll.out (v, g, a, b, ()))) (True ∧ ((List.length g.1.1 ≤ 1099511627776 ∧ List.length g.1.2 ≤ 1099511627776) ∧ (True ∧ (True ∧ (bsp (!(decide ((openingD v g a b).1 = (openingD v g a b).1))) (@Eq (HO c_laws_FnExactOpeningRoll.outs) (false, ()) (c_laws_FnExactOpeningRoll.out (v, g, a, b, ()))) (bsp (decide ((openingD v g a b).2 ≠ (openingD v g a b).2)) (@Eq (HO c_laws_FnExactOpeningRoll.outs) (false, ()) (c_laws_FnExactOpeningRoll.out (v, g, a, b, ()))) (((((markL (1 : Int) (List.length (openingD v g a b).1.1.1), markL ((1 : Int) + (List.length (openingD v g a b).1.1.1 : Int)) (List.length (openingD v g a b).1.1.2)), (openingD v g a b).1.2).1.1 = markL (1 : Int) (List.length ((markL (1 : Int) (List.length (openingD v g a b).1.1.1), markL ((1 : Int) + (List.length (openingD v g a b).1.1.1 : Int)) (List.length (openingD v g a b).1.1.2)), (openingD v g a b).1.2).1.1) ∧ ((markL (1 : Int) (List.length (openingD v g a b).1.1.1), markL ((1 : Int) + (List.length (openingD v g a b).1.1.1 : Int)) (List.length (openingD v g a b).1.1.2)), (openingD v g a b).1.2).1.2 = markL ((1 : Int) + (List.length ((markL (1 : Int) (List.length (openingD v g a b).1.1.1), markL ((1 : Int) + (List.length (openingD v g a b).1.1.1 : Int)) (List.length (openingD v g a b).1.1.2)), (openingD v g a b).1.2).1.1 : Int)) (List.length ((markL (1 : Int) (List.length (openingD v g a b).1.1.1), markL ((1 : Int) + (List.length (openingD v g a b).1.1.1 : Int)) (List.length (openingD v g a b).1.1.2)), (openingD v g a b).1.2).1.2)) ∧ 0 ≤ (1 : Int) ∧ (1 : Int) + (List.length ((markL (1 : Int) (List.length (openingD v g a b).1.1.1), markL ((1 : Int) + (List.length (openingD v g a b).1.1.1 : Int)) (List.length (openingD v g a b).1.1.2)), (openingD v g a b).1.2).1.1 : Int) ≤ 1099511627776 ∧ List.length ((markL (1 : Int) (List.length (openingD v g a b).1.1.1), markL ((1 : Int) + (List.length (openingD v g a b).1.1.1 : Int)) (List.length (openingD v g a b).1.1.2)), (openingD v g a b).1.2).1.2 ≤ 1099511627776) ∧ (bsp (decide (((1 : Int) + (List.length ((markL (1 : Int) (List.length (openingD v g a b).1.1.1), markL ((1 : Int) + (List.length (openingD v g a b).1.1.1 : Int)) (List.length (openingD v g a b).1.1.2)), (openingD v g a b).1.2).1.1 : Int) + (List.length ((markL (1 : Int) (List.length (openingD v g a b).1.1.1), markL ((1 : Int) + (List.length (openingD v g a b).1.1.1 : Int)) (List.length (openingD v g a b).1.1.2)), (openingD v g a b).1.2).1.2 : Int)) < (0 : Int))) (@Eq (HO c_laws_FnExactOpeningRoll.outs) (false, ()) (c_laws_FnExactOpeningRoll.out (v, g, a, b, ()))) (bsp (decide (((1 : Int) + (List.length ((markL (1 : Int) (List.length (openingD v g a b).1.1.1), markL ((1 : Int) + (List.length (openingD v g a b).1.1.1 : Int)) (List.length (openingD v g a b).1.1.2)), (openingD v g a b).1.2).1.1 : Int) + (List.length ((markL (1 : Int) (List.length (openingD v g a b).1.1.1), markL ((1 : Int) + (List.length (openingD v g a b).1.1.1 : Int)) (List.length (openingD v g a b).1.1.2)), (openingD v g a b).1.2).1.2 : Int)) ≠ ((1 : Int) + (List.length (openingD v g a b).1.1.1 : Int) + (List.length (openingD v g a b).1.1.2 : Int)))) (@Eq (HO c_laws_FnExactOpeningRoll.outs) (false, ()) (c_laws_FnExactOpeningRoll.out (v, g, a, b, ()))) (@Eq (HO c_laws_FnExactOpeningRoll.outs) (true, ()) (c_laws_FnExactOpeningRoll.out (v, g, a, b, ()))))))))))))))))))))))))))))))))))))) (by kernel_rfl) ?_
  rintro v g a b hw hl
  refine ⟨by omega, bspD (fun _ => rfl) (fun hs => ?_)⟩
  have hle := szD_ge hs
  have hX := openingD_le v g a b
  revert hX
  generalize openingD v g a b = X
  intro hX
  unfold LeG at hX
  clear hl hw hs
  repeat' first
    | exact rfl
    | refine ⟨trivial, ?_⟩
    | refine bspB (fun h => absurd h (by first | simp; done | (simp [markL_length]; done) | (simp [markL_length]; omega))) (fun _ => ?_)
    | refine ⟨(by first | omega | (simp [markL_length]; done) | (simp [markL_length]; omega)), ?_⟩
    | fail
end Go.Proofs.Ytnffbihkmnfllaa
