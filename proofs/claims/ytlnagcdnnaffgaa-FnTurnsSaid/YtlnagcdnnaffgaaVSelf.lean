/-
  Contracts: seeds, turns, the reference's self-play.
-/
import Derived.Test.YtlnagcdnnaffgaaVRoll
import Derived.Test.YtlnagcdnnaffgaaVForce
namespace Go.Proofs.Ytlnagcdnnaffgaa
open Go.RowKit
set_option linter.unusedSimpArgs false
set_option linter.unusedVariables false
def seedN (z : Int) : Int := Int.tmod (48271 * z) 2147483647
theorem seedN_bd {z : Int} (h : 0 ≤ z) : 0 ≤ seedN z ∧ seedN z ≤ 2147483646 := by
  unfold seedN
  rw [Int.tmod_eq_emod_of_nonneg (by omega)]; omega
def rollF (v : DVar) (z : Int) : DRoll := (max (1 + Int.tmod (seedN z) v.2.2.2) (1 + Int.tmod (seedN (seedN z)) v.2.2.2), min (1 + Int.tmod (seedN z) v.2.2.2) (1 + Int.tmod (seedN (seedN z)) v.2.2.2))
theorem rollF_ok {v : DVar} (hv : varD v = true) {z : Int} (h : 0 ≤ z) : rollD v (rollF v z) = true := by
  have h1 := seedN_bd h
  have h2 := seedN_bd h1.1
  have hs := (varD_iff.1 hv).2.2.2
  have e1 : Int.tmod (seedN z) v.2.2.2 = seedN z % v.2.2.2 := Int.tmod_eq_emod_of_nonneg h1.1
  have e2 : Int.tmod (seedN (seedN z)) v.2.2.2 = seedN (seedN z) % v.2.2.2 := Int.tmod_eq_emod_of_nonneg h2.1
  have a1 := Int.emod_nonneg (seedN z) (show v.2.2.2 ≠ 0 by omega)
  have a2 := Int.emod_lt_of_pos (seedN z) (show 0 < v.2.2.2 by omega)
  have a3 := Int.emod_nonneg (seedN (seedN z)) (show v.2.2.2 ≠ 0 by omega)
  have a4 := Int.emod_lt_of_pos (seedN (seedN z)) (show 0 < v.2.2.2 by omega)
  simp only [rollD, hv, Bool.true_and, Bool.and_eq_true, inB, decide_eq_true_eq, rollF, e1, e2]
  omega
def turnD (v : DVar) (g : DGame) (b : DBoard) : DGame :=
  if overD b = true then (b, g.2.1, (0, 0), 3, g.2.1, resD v b, g.2.2.2.2.2.2 + 1) else ((b.2, b.1), 1 - g.2.1, (0, 0), 1, 0, 0, g.2.2.2.2.2.2 + 1)
def c_spec_l07Next : Con where
  ins := [(false, .v tI)]
  outs := [(false, .v tI)]
  sh := false
  pre := fun x => 0 ≤ x.1 ∧ x.1 ≤ 2147483646
  out := fun x => (seedN x.1, ())
  upd := fun x => x
  eat := false
theorem k_spec_l07Next [B : Base] : ConOk Try.prog 107 c_spec_l07Next := by
  refine fn_ok (C := cx Try.prog 6 c_spec_l07Next) (cs := []) (res := Try.f107.results.toList) (fun _ => ⟨[], [], []⟩) Try.func107 (by kernel_rfl) rfl rfl rfl tysOk.look eqTsOk.look (AllCs.ok (l := []) trivial) mixed rfl rfl rfl rfl ?_
  refine of_nf (P := ∀ z : Int, (0 ≤ z ∧ z ≤ 2147483646) → ((lensI c_spec_l07Next.ins (z, ())) → ((inK .i64 (48271 * z)) ∧ (((2147483647 : Int) ≠ 0) ∧ (@Eq (HO c_spec_l07Next.outs) ((Int.tmod (48271 * z) 2147483647), ()) (c_spec_l07Next.out (z, ()))))))) (by kernel_rfl) ?_
  rintro z ⟨h0, h1⟩ hl
  exact ⟨by simp only [inK]; omega, by decide, rfl⟩
def c_spec_l07Seed : Con where
  ins := [(false, .v tI)]
  outs := [(false, .v .b)]
  sh := false
  pre := fun _ => True
  out := fun x => (inB x.1 1 2147483646, ())
  upd := fun x => x
  eat := false
theorem k_spec_l07Seed [B : Base] : ConOk Try.prog 99 c_spec_l07Seed := by
  refine fn_ok (C := cx Try.prog 5 c_spec_l07Seed) (cs := [(35, c_spec_l01In)]) (res := Try.f99.results.toList) (fun _ => ⟨[], [], []⟩) Try.func99 (by kernel_rfl) rfl rfl rfl tysOk.look eqTsOk.look (AllCs.ok (l := [(35, c_spec_l01In)]) ⟨k_spec_l01In, trivial⟩) mixed rfl rfl rfl rfl ?_
  refine of_nf (P := ∀ z : Int, (True) → ((lensI c_spec_l07Seed.ins (z, ())) → (True ∧ (@Eq (HO c_spec_l07Seed.outs) (inB z (1 : Int) (2147483646 : Int), ()) (c_spec_l07Seed.out (z, ())))))) (by kernel_rfl) ?_
  rintro z hp hl
  exact ⟨trivial, rfl⟩
def c_spec_l07From : Con where
  ins := [(true, .v tVar), (false, .v tI)]
  outs := [(true, .v tRoll), (false, .v tI)]
  sh := false
  pre := fun x => varD x.1 = true ∧ 0 ≤ x.2.1 ∧ x.2.1 ≤ 2147483646
  out := fun x => (rollF x.1 x.2.1, seedN (seedN x.2.1), ())
  upd := fun x => x
  eat := false
theorem k_spec_l07From [B : Base] : ConOk Try.prog 100 c_spec_l07From := by
  refine fn_okW (C := cx Try.prog 24 c_spec_l07From) (cs := [(107, c_spec_l07Next), (55, c_spec_l07Pair)]) (res := Try.f100.results.toList) (fun _ => ⟨[], [(3, ⟨[[], [], [1], [0, 1, 2], [0, 1, 2, 3], [], [], [6], [5, 6, 7], [5, 6, 7, 8], [0, 1, 2, 3, 4, 5, 6, 7, 8, 9], [], [0, 1, 2, 3, 4, 5, 6, 7, 8, 9, 10], [0, 1, 2, 3, 4, 5, 6, 7, 8, 9, 10, 11, 12]], [[1, 2, 5, 6, 7, 8, 9, 11], [0, 5, 6, 7, 8, 9, 11], [0, 5, 6, 7, 8, 9, 11], [5, 6, 7, 8, 9, 11], [5, 6, 7, 8, 9, 11], [0, 1, 2, 3, 4, 6, 7, 11], [0, 1, 2, 3, 4, 5, 11], [0, 1, 2, 3, 4, 5, 11], [0, 1, 2, 3, 4, 11], [0, 1, 2, 3, 4, 11], [11], [0, 1, 2, 3, 4, 5, 6, 7, 8, 9, 10, 12], [11], []], [[], [], [], [], [], [], [], [], [], [], [], [16], [], []]⟩)], []⟩) Try.func100 (by kernel_rfl) rfl rfl rfl tysOk.look eqTsOk.look (AllCs.ok (l := [(107, c_spec_l07Next), (55, c_spec_l07Pair)]) ⟨k_spec_l07Next, k_spec_l07Pair, trivial⟩) mixed rfl rfl rfl rfl ?_
  refine of_nf (P := ∀ v : Int × Int × Int × Int, ∀ z : Int, (varD v = true ∧ 0 ≤ z ∧ z ≤ 2147483646) → ((lensI c_spec_l07From.ins (v, z, ())) → ((0 ≤ z ∧ z ≤ 2147483646) ∧ ((0 ≤ (seedN z) ∧ (seedN z) ≤ 2147483646) ∧ ((v.2.2.2 ≠ 0) ∧ ((inK .i64 (1 + (Int.tmod (seedN z) v.2.2.2))) ∧ ((v.2.2.2 ≠ 0) ∧ ((inK .i64 (1 + (Int.tmod (seedN (seedN z)) v.2.2.2))) ∧ (True ∧ (@Eq (HO c_spec_l07From.outs) ((max (1 + (Int.tmod (seedN z) v.2.2.2)) (1 + (Int.tmod (seedN (seedN z)) v.2.2.2)), min (1 + (Int.tmod (seedN z) v.2.2.2)) (1 + (Int.tmod (seedN (seedN z)) v.2.2.2))), seedN (seedN z), ()) (c_spec_l07From.out (v, z, ())))))))))))) (by kernel_rfl) ?_
  rintro v z ⟨hv, h0, h1⟩ hl
  have b1 := seedN_bd h0
  have b2 := seedN_bd b1.1
  have hs := (varD_iff.1 hv).2.2.2
  have e1 : Int.tmod (seedN z) v.2.2.2 = seedN z % v.2.2.2 := Int.tmod_eq_emod_of_nonneg b1.1
  have e2 : Int.tmod (seedN (seedN z)) v.2.2.2 = seedN (seedN z) % v.2.2.2 := Int.tmod_eq_emod_of_nonneg b2.1
  have a1 := Int.emod_nonneg (seedN z) (show v.2.2.2 ≠ 0 by omega)
  have a2 := Int.emod_lt_of_pos (seedN z) (show 0 < v.2.2.2 by omega)
  have a3 := Int.emod_nonneg (seedN (seedN z)) (show v.2.2.2 ≠ 0 by omega)
  have a4 := Int.emod_lt_of_pos (seedN (seedN z)) (show 0 < v.2.2.2 by omega)
  exact ⟨⟨h0, h1⟩, b1, by omega, by simp only [inK]; omega, by omega, by simp only [inK]; omega, trivial, rfl⟩
def c_spec_l08Turn : Con where
  ins := [(true, .v tVar), (true, .v tGame), (true, .v tBoard)]
  outs := [(true, .pr (.pr (.own 2 tI) (.own 2 tI)) (.v (.pr tI (.pr tRoll tVar))))]
  sh := false
  pre := fun x => (varD x.1 = true ∧ Bd x.2.2.1.1 ∧ Bd x.2.2.1.2) ∧ (0 ≤ x.2.1.2.1 ∧ x.2.1.2.1 ≤ 1) ∧ 0 ≤ x.2.1.2.2.2.2.2.2 ∧ x.2.1.2.2.2.2.2.2 ≤ 100000
  out := fun x => (turnD x.1 x.2.1 x.2.2.1, ())
  upd := fun x => x
  eat := false
theorem k_spec_l08Turn [B : Base] : ConOk Try.prog 50 c_spec_l08Turn := by
  refine fn_okW (C := cx Try.prog 42 c_spec_l08Turn) (cs := [(60, c_spec_l02Over), (65, c_spec_l02Own), (64, c_spec_l08Result), (66, c_spec_l02Swap)]) (res := Try.f50.results.toList) (fun _ => ⟨[], [(3, ⟨[[], [0], [0, 1], [], [3], [0, 1, 2, 3, 4], [0, 1, 2, 3, 4, 5], [0, 1, 2, 3, 4, 5, 6], [0, 1, 2, 3, 4, 5, 6, 7]], [[3, 4], [3, 4], [3, 4], [0, 1, 2], [0, 1, 2], [], [], [], []], []⟩)], []⟩) Try.func50 (by kernel_rfl) rfl rfl rfl tysOk.look eqTsOk.look (AllCs.ok (l := [(60, c_spec_l02Over), (65, c_spec_l02Own), (64, c_spec_l08Result), (66, c_spec_l02Swap)]) ⟨k_spec_l02Over, k_spec_l02Own, k_spec_l08Result, k_spec_l02Swap, trivial⟩) mixed rfl rfl rfl rfl ?_
  refine of_nf (P := ∀ v : Int × Int × Int × Int, ∀ g : ((List Int) × List Int) × Int × (Int × Int) × Int × Int × Int × Int, ∀ b : (List Int) × List Int, ((varD v = true ∧ Bd b.1 ∧ Bd b.2) ∧ (0 ≤ g.2.1 ∧ g.2.1 ≤ 1) ∧ 0 ≤ g.2.2.2.2.2.2 ∧ g.2.2.2.2.2.2 ≤ 100000) → ((lensI c_spec_l08Turn.ins (v, g, b, ())) → ((inK .i64 (g.2.2.2.2.2.2 + 1)) ∧ ((Bd b.1 ∧ Bd b.2) ∧ (bsp (overD b) ((List.length b.1 ≤ 1099511627776) ∧ ((List.length b.2 ≤ 1099511627776) ∧ ((varD v = true ∧ Bd b.1 ∧ Bd b.2) ∧ (@Eq (HO c_spec_l08Turn.outs) ((b, g.2.1, (0, 0), 3, g.2.1, resD v b, g.2.2.2.2.2.2 + 1), ()) (c_spec_l08Turn.out (v, g, b, ())))))) ((List.length b.1 ≤ 1099511627776 ∧ List.length b.2 ≤ 1099511627776) ∧ ((inK .i64 (1 - g.2.1)) ∧ (@Eq (HO c_spec_l08Turn.outs) (((b.2, b.1), (1 - g.2.1), (0, 0), 1, 0, 0, g.2.2.2.2.2.2 + 1), ()) (c_spec_l08Turn.out (v, g, b, ())))))))))) (by kernel_rfl) ?_
  rintro v g b ⟨⟨hv, hb⟩, hp, ht⟩ hl
  have hD := turnD.eq_1 v g b
  have out : ∀ r, turnD v g b = r → @Eq (HO c_spec_l08Turn.outs) (r, ()) (c_spec_l08Turn.out (v, g, b, ())) := fun r h => by subst h; rfl
  refine ⟨by simp only [inK]; omega, hb, bspB (fun h => ?_) (fun h => ?_)⟩
  · exact ⟨hb.1.1, hb.2.1, ⟨hv, hb⟩, out _ (hD.trans (if_pos h))⟩
  · exact ⟨⟨hb.1.1, hb.2.1⟩, by simp only [inK]; omega, out _ (hD.trans (if_neg (by rw [h]; decide)))⟩
def stepO (v : DVar) (p : DGame × Int) : DGame × Int := (openD p.1 (rollF v p.2).1 (rollF v p.2).2, seedN (seedN p.2))
/-- opening rolls until they end -/
def openIt (v : DVar) : Nat → DGame × Int → DGame × Int
  | 0, p => p
  | n + 1, p => if p.1.2.2.2.1 = 0 then openIt v n (stepO v p) else p
/-- the game and the seed when a turn begins with its roll -/
def rolled (v : DVar) (p : DGame × Int) : DGame × Int :=
  if p.1.2.2.2.1 = 1 then ((p.1.1, p.1.2.1, rollF v p.2, p.1.2.2.2), seedN (seedN p.2)) else p
def fitsA (v : DVar) (g : DGame) : Bool := (ordersD g.2.2.1).all (fitsP v g.1)
def turnIt (v : DVar) : Nat → DGame × Int → (DGame × Int) × Bool
  | 0, p => (p, true)
  | n + 1, p => if p.1.2.2.2.1 = 3 then (p, true)
    else if fitsA v (rolled v p).1 = true then turnIt v n (turnD v (rolled v p).1 ((allD v (rolled v p).1.1 (rolled v p).1.2.2.1).getD 0 ([], ([], []))).2, (rolled v p).2)
    else ((zeroG, 0), false)
def newG (v : DVar) : DGame := ((startD v, startD v), 0, (0, 0), 0, 0, 0, 0)
def opened (v : DVar) (z : Int) : DGame × Int := openIt v 100 (newG v, z)
def selfD (v : DVar) (z n : Int) : DGame × Int × Int :=
  if varD v = false then (zeroG, 0, 1) else if bigD v = false then (zeroG, 0, 2)
  else if inB z 1 2147483646 = false ∨ inB n 0 2000 = false then (zeroG, 0, 2)
  else if v.2.2.2 = 1 then (zeroG, 0, 5)
  else if (opened v z).1.2.2.2.1 = 0 then (zeroG, 0, 3)
  else if (turnIt v n.toNat (opened v z)).2 = true then ((turnIt v n.toNat (opened v z)).1.1, (turnIt v n.toNat (opened v z)).1.2, 0) else (zeroG, 0, 3)
def c_spec_NewGame : Con where
  ins := [(true, .v tVar)]
  outs := [(true, .pr (.pr (.own 2 tI) (.own 2 tI)) (.v (.pr tI (.pr tRoll tVar)))), (false, .v tI)]
  sh := false
  pre := fun _ => True
  out := fun x => ((if varD x.1 = false then zeroG else if bigD x.1 = false then zeroG else newG x.1), (if varD x.1 = false then (1 : Int) else if bigD x.1 = false then 2 else 0), ())
  upd := fun x => x
  eat := false
theorem k_spec_NewGame [B : Base] : ConOk Try.prog 98 c_spec_NewGame := by
  refine fn_okW (C := cx Try.prog 14 c_spec_NewGame) (cs := [(58, c_spec_IsVariant), (62, c_spec_l08New)]) (res := Try.f98.results.toList) (fun _ => ⟨[], [], []⟩) Try.func98 (by kernel_rfl) rfl rfl rfl tysOk.look eqTsOk.look (AllCs.ok (l := [(58, c_spec_IsVariant), (62, c_spec_l08New)]) ⟨k_spec_IsVariant, k_spec_l08New, trivial⟩) mixed rfl rfl rfl rfl ?_
  refine of_nf (P := ∀ v : Int × Int × Int × Int, (True) → ((lensI c_spec_NewGame.ins (v, ())) → (True ∧ (bsp (!(varD v)) (@Eq (HO c_spec_NewGame.outs) ((([], []), 0, (0, 0), 0, 0, 0, 0), 1, ()) (c_spec_NewGame.out (v, ()))) (bsp (decide (v.1 < (4 : Int))) (@Eq (HO c_spec_NewGame.outs) ((([], []), 0, (0, 0), 0, 0, 0, 0), 2, ()) (c_spec_NewGame.out (v, ()))) ((bigD v = true) ∧ (@Eq (HO c_spec_NewGame.outs) (((startD v, startD v), 0, (0, 0), 0, 0, 0, 0), 0, ()) (c_spec_NewGame.out (v, ()))))))))) (by kernel_rfl) ?_
  rintro v hp hl
  refine ⟨trivial, bspB (fun h => by simp_all [c_spec_NewGame, zeroG]) (fun h => ?_)⟩
  have hv : varD v = true := by simpa using h
  refine bspD (fun g => ?_) (fun g => ?_)
  · have hb : bigD v = false := by simp [bigD]; intro _; omega
    simp [c_spec_NewGame, hv, hb, zeroG]
  · have hb : bigD v = true := by simp [bigD, hv]; omega
    exact ⟨hb, by simp [c_spec_NewGame, hv, hb, newG]⟩
end Go.Proofs.Ytlnagcdnnaffgaa
