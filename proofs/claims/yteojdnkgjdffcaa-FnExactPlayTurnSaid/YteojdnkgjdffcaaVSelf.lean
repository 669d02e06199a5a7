/-
  Contracts: seeds, turns, the reference's self-play.
-/
import Derived.Test.YteojdnkgjdffcaaVRoll
import Derived.Test.YteojdnkgjdffcaaVForce
namespace Go.Proofs.Yteojdnkgjdffcaa
open Go.RowKit
set_option linter.unusedSimpArgs false
set_option linter.unusedVariables false
def seedN (z : Int) : Int := Int.tmod (48271 * z) 2147483647
theorem seedN_bd {z : Int} (h : 0 ≤ z) : 0 ≤ seedN z ∧ seedN z ≤ 2147483646 := by
  unfold seedN
  rw [Int.tmod_eq_emod_of_nonneg (by omega)]; omega
def rollF (v : DVar) (z : Int) : DRoll := (max (1 + Int.tmod (seedN z) v.2.2.2) (1 + Int.tmod (seedN (seedN z)) v.2.2.2), min (1 + Int.tmod (seedN z) v.2.2.2) (1 + Int.tmod (seedN (seedN z)) v.2.2.2))
theorem rollF_ok {v : DVar} (hv : varD v = true) {z : Int} (h : 0 ≤ z) : rollD v (rollF v z) = true := by
  have h1 := seedN_bd h
  have h2 := seedN_bd h1.1
  have hs := (varD_iff.1 hv).2.2.2
  have e1 : Int.tmod (seedN z) v.2.2.2 = seedN z % v.2.2.2 := Int.tmod_eq_emod_of_nonneg h1.1
  have e2 : Int.tmod (seedN (seedN z)) v.2.2.2 = seedN (seedN z) % v.2.2.2 := Int.tmod_eq_emod_of_nonneg h2.1
  have a1 := Int.emod_nonneg (seedN z) (show v.2.2.2 ≠ 0 by omega)
  have a2 := Int.emod_lt_of_pos (seedN z) (show 0 < v.2.2.2 by omega)
  have a3 := Int.emod_nonneg (seedN (seedN z)) (show v.2.2.2 ≠ 0 by omega)
  have a4 := Int.emod_lt_of_pos (seedN (seedN z)) (show 0 < v.2.2.2 by omega)
  simp only [rollD, hv, Bool.true_and, Bool.and_eq_true, inB, decide_eq_true_eq, rollF, e1, e2]
  omega
def turnD (v : DVar) (g : DGame) (b : DBoard) : DGame :=
  if overD b = true then (b, g.2.1, (0, 0), 3, g.2.1, resD v b, g.2.2.2.2.2.2 + 1) else ((b.2, b.1), 1 - g.2.1, (0, 0), 1, 0, 0, g.2.2.2.2.2.2 + 1)
def c_spec_l08Turn : Con where
  ins := [(true, .v tVar), (true, .v tGame), (true, .v tBoard)]
  outs := [(true, .pr (.pr (.own 2 tI) (.own 2 tI)) (.v (.pr tI (.pr tRoll tVar))))]
  sh := false
  pre := fun x => (varD x.1 = true ∧ Bd x.2.2.1.1 ∧ Bd x.2.2.1.2) ∧ (0 ≤ x.2.1.2.1 ∧ x.2.1.2.1 ≤ 1) ∧ 0 ≤ x.2.1.2.2.2.2.2.2 ∧ x.2.1.2.2.2.2.2.2 ≤ 100000
  out := fun x => (turnD x.1 x.2.1 x.2.2.1, ())
  upd := fun x => x
  eat := false
theorem k_spec_l08Turn [B : Base] : ConOk Try.prog 19 c_spec_l08Turn := by
  refine fn_okW (C := cx Try.prog 42 c_spec_l08Turn) (cs := [(36, c_spec_l02Over), (46, c_spec_l02Own), (40, c_spec_l08Result), (47, c_spec_l02Swap)]) (res := Try.f19.results.toList) (fun _ => ⟨[], [(3, ⟨[[], [0], [0, 1], [], [3], [0, 1, 2, 3, 4], [0, 1, 2, 3, 4, 5], [0, 1, 2, 3, 4, 5, 6], [0, 1, 2, 3, 4, 5, 6, 7]], [[3, 4], [3, 4], [3, 4], [0, 1, 2], [0, 1, 2], [], [], [], []], []⟩)], []⟩) Try.func19 (by kernel_rfl) rfl rfl rfl tysOk.look eqTsOk.look (AllCs.ok (l := [(36, c_spec_l02Over), (46, c_spec_l02Own), (40, c_spec_l08Result), (47, c_spec_l02Swap)]) ⟨k_spec_l02Over, k_spec_l02Own, k_spec_l08Result, k_spec_l02Swap, trivial⟩) mixed rfl rfl rfl rfl ?_
  refine of_nf (P := ∀ v : Int × Int × Int × Int, ∀ g : ((List Int) × List Int) × Int × (Int × Int) × Int × Int × Int × Int, ∀ b : (List Int) × List Int, ((varD v = true ∧ Bd b.1 ∧ Bd b.2) ∧ (0 ≤ g.2.1 ∧ g.2.1 ≤ 1) ∧ 0 ≤ g.2.2.2.2.2.2 ∧ g.2.2.2.2.2.2 ≤ 100000) → ((lensI c_spec_l08Turn.ins (v, g, b, ())) → ((inK .i64 (g.2.2.2.2.2.2 + 1)) ∧ ((Bd b.1 ∧ Bd b.2) ∧ (bsp (overD b) ((List.length b.1 ≤ 1099511627776) ∧ ((List.length b.2 ≤ 1099511627776) ∧ ((varD v = true ∧ Bd b.1 ∧ Bd b.2) ∧ (@Eq (HO c_spec_l08Turn.outs) ((b, g.2.1, (0, 0), 3, g.2.1, resD v b, g.2.2.2.2.2.2 + 1), ()) (c_spec_l08Turn.out (v, g, b, ())))))) ((List.length b.1 ≤ 1099511627776 ∧ List.length b.2 ≤ 1099511627776) ∧ ((inK .i64 (1 - g.2.1)) ∧ (@Eq (HO c_spec_l08Turn.outs) (((b.2, b.1), (1 - g.2.1), (0, 0), 1, 0, 0, g.2.2.2.2.2.2 + 1), ()) (c_spec_l08Turn.out (v, g, b, ())))))))))) (by kernel_rfl) ?_
  rintro v g b ⟨⟨hv, hb⟩, hp, ht⟩ hl
  have hD := turnD.eq_1 v g b
  have out : ∀ r, turnD v g b = r → @Eq (HO c_spec_l08Turn.outs) (r, ()) (c_spec_l08Turn.out (v, g, b, ())) := fun r h => by subst h; rfl
  refine ⟨by simp only [inK]; omega, hb, bspB (fun h => ?_) (fun h => ?_)⟩
  · exact ⟨hb.1.1, hb.2.1, ⟨hv, hb⟩, out _ (hD.trans (if_pos h))⟩
  · exact ⟨⟨hb.1.1, hb.2.1⟩, by simp only [inK]; omega, out _ (hD.trans (if_neg (by rw [h]; decide)))⟩
def stepO (v : DVar) (p : DGame × Int) : DGame × Int := (openD p.1 (rollF v p.2).1 (rollF v p.2).2, seedN (seedN p.2))
/-- opening rolls until they end -/
def openIt (v : DVar) : Nat → DGame × Int → DGame × Int
  | 0, p => p
  | n + 1, p => if p.1.2.2.2.1 = 0 then openIt v n (stepO v p) else p
/-- the game and the seed when a turn begins with its roll -/
def rolled (v : DVar) (p : DGame × Int) : DGame × Int :=
  if p.1.2.2.2.1 = 1 then ((p.1.1, p.1.2.1, rollF v p.2, p.1.2.2.2), seedN (seedN p.2)) else p
def fitsA (v : DVar) (g : DGame) : Bool := (ordersD g.2.2.1).all (fitsP v g.1)
def turnIt (v : DVar) : Nat → DGame × Int → (DGame × Int) × Bool
  | 0, p => (p, true)
  | n + 1, p => if p.1.2.2.2.1 = 3 then (p, true)
    else if fitsA v (rolled v p).1 = true then turnIt v n (turnD v (rolled v p).1 ((allD v (rolled v p).1.1 (rolled v p).1.2.2.1).getD 0 ([], ([], []))).2, (rolled v p).2)
    else ((zeroG, 0), false)
def newG (v : DVar) : DGame := ((startD v, startD v), 0, (0, 0), 0, 0, 0, 0)
def opened (v : DVar) (z : Int) : DGame × Int := openIt v 100 (newG v, z)
def selfD (v : DVar) (z n : Int) : DGame × Int × Int :=
  if varD v = false then (zeroG, 0, 1) else if bigD v = false then (zeroG, 0, 2)
  else if inB z 1 2147483646 = false ∨ inB n 0 2000 = false then (zeroG, 0, 2)
  else if v.2.2.2 = 1 then (zeroG, 0, 5)
  else if (opened v z).1.2.2.2.1 = 0 then (zeroG, 0, 3)
  else if (turnIt v n.toNat (opened v z)).2 = true then ((turnIt v n.toNat (opened v z)).1.1, (turnIt v n.toNat (opened v z)).1.2, 0) else (zeroG, 0, 3)
end Go.Proofs.Yteojdnkgjdffcaa
