/-
  Plain: sums of exact numbers; the contract of CompareExact.
-/
import Derived.Test.YtghfpidpefdndaaVEx
import Derived.Test.YtghfpidpefdndaaVCmp
namespace Go.Proofs.Ytghfpidpefdndaa
open Go.RowKit
set_option linter.unusedSimpArgs false
set_option linter.unusedVariables false
theorem mkD_eq {v : DVar} {n : Int} {d : Nat} (h : (mkD v n d).2 = true) : (mkD v n d).1 = ((strip (bsD v) d n).1, ((strip (bsD v) d n).2 : Int)) := by
  unfold mkD at h ⊢
  split at h
  · next g => rw [if_pos g]
  · cases h
/-- a number over the depth 120 -/
def valD (v : DVar) (x : DExact) : Int := x.1 * (bsD v : Int) ^ (120 - x.2.toNat)
theorem strip_val {v : DVar} {x : DExact} (hv : varD v = true) (hx : exD v x = true) : strip (bsD v) 120 (valD v x) = (x.1, x.2.toNat) := by
  obtain ⟨-, b1, b2, -⟩ := bsD_facts hv
  obtain ⟨⟨-, x2, x2'⟩, -, -, x5⟩ := exD_in hv hx
  exact strip_of b1 120 _ (by omega) rfl (by rcases x5 with h | h; exact .inl (by omega); exact .inr h)
/-- a sum over a depth that is a valid number -/
theorem mk_val {v : DVar} {r : DExact} {N : Int} {d : Nat} (hv : varD v = true) (hr : exD v r = true) (hd : d ≤ 120) (h : N * (bsD v : Int) ^ (120 - d) = valD v r) : mkD v N d = (r, true) := by
  obtain ⟨-, b1, b2, -⟩ := bsD_facts hv
  have h1 := strip_val hv hr
  have h2 := strip_eq (bsD v) b1 d N
  have h3 := strip_depth (bsD v) d N
  have h4 := strip_end (bsD v) d N
  have hz : (strip (bsD v) d N) = (r.1, r.2.toNat) := by
    rw [← h1]
    refine (strip_of b1 120 _ (by omega) ?_ h4).symm
    rw [← h]
    conv => lhs; rw [h2]
    rw [Int.mul_assoc, ← Int.pow_add]
    congr 2; omega
  obtain ⟨⟨-, x2, x2'⟩, -⟩ := exD_in hv hr
  have e : ((r.2.toNat : Nat) : Int) = r.2 := by omega
  unfold mkD
  rw [hz]
  dsimp only
  rw [e, if_pos hr]
theorem val_mk {v : DVar} {N : Int} {d : Nat} (hv : varD v = true) (hd : d ≤ 120) (h : (mkD v N d).2 = true) : valD v (mkD v N d).1 = N * (bsD v : Int) ^ (120 - d) ∧ (mkD v N d).1.2 ≤ d := by
  obtain ⟨-, b1, b2, -⟩ := bsD_facts hv
  have h2 := strip_eq (bsD v) b1 d N
  have h3 := strip_depth (bsD v) d N
  rw [mkD_eq h]
  refine ⟨?_, by dsimp only; omega⟩
  unfold valD
  dsimp only
  rw [Int.toNat_natCast]
  conv => rhs; rw [h2]
  rw [Int.mul_assoc, ← Int.pow_add]
  congr 2; omega
/-- the sum's parts, the smaller depth first -/
theorem sum_parts {v : DVar} {x y : DExact} (hv : varD v = true) (hx : exD v x = true) (hy : exD v y = true) (hle : x.2 ≤ y.2) (h : (add1D v x y).2 = true) :
    x.1.natAbs * bsD v ^ (y.2 - x.2).toNat ≤ 2000000000000000000 ∧ add1D v x y = mkD v (x.1 * ((bsD v ^ (y.2 - x.2).toNat : Nat) : Int) + y.1) y.2.toNat ∧ valD v (add1D v x y).1 = valD v x + valD v y ∧ (add1D v x y).1.2 ≤ y.2 ∧ (x.2 < y.2 → (add1D v x y).1.2 = y.2) := by
  obtain ⟨-, b1, b2, -⟩ := bsD_facts hv
  obtain ⟨⟨-, x2, x2'⟩, -, -, -⟩ := exD_in hv hx
  obtain ⟨⟨-, y2, y2'⟩, -, -, y5⟩ := exD_in hv hy
  obtain ⟨a1, a2⟩ := add_ref hv hx hy hle
  have hb : x.1.natAbs * bsD v ^ (y.2 - x.2).toNat ≤ 2000000000000000000 := by
    rcases Nat.lt_or_ge 2000000000000000000 (x.1.natAbs * bsD v ^ (y.2 - x.2).toNat) with g | g
    · rw [a2 g] at h; cases h
    · exact g
  have hE := (a1 hb).2
  refine ⟨hb, hE, ?_⟩
  rw [hE] at h ⊢
  obtain ⟨hval, hdep⟩ := val_mk hv (by omega) h
  refine ⟨?_, by omega, fun hlt => ?_⟩
  · rw [hval, Int.add_mul]
    unfold valD
    congr 1
    rw [Int.natCast_pow, Int.mul_assoc, ← Int.pow_add]
    congr 2; omega
  · rw [mkD_eq h]
    obtain ⟨j, hj⟩ : ∃ j, y.2.toNat = j + 1 := ⟨y.2.toNat - 1, by omega⟩
    have hny : Int.tmod y.1 (bsD v) ≠ 0 := by rcases y5 with h | h; omega; exact h
    have hN : ¬ Int.tmod (x.1 * ((bsD v ^ (y.2 - x.2).toNat : Nat) : Int) + y.1) (bsD v) = 0 := fun h0 => by
      have k1 : (bsD v : Int) ∣ x.1 * ((bsD v ^ (y.2 - x.2).toNat : Nat) : Int) + y.1 := Int.dvd_of_tmod_eq_zero h0
      have k2 : (bsD v : Int) ∣ x.1 * ((bsD v ^ (y.2 - x.2).toNat : Nat) : Int) := by
        obtain ⟨k, hk⟩ : ∃ k, (y.2 - x.2).toNat = k + 1 := ⟨(y.2 - x.2).toNat - 1, by omega⟩
        rw [hk, Nat.pow_succ, Int.natCast_mul, ← Int.mul_assoc]
        exact Int.dvd_mul_left _ _
      exact hny (Int.tmod_eq_zero_of_dvd ((Int.dvd_add_right k2).1 k1))
    rw [hj]
    simp only [strip]
    rw [if_neg hN]
    dsimp only; omega
theorem addDI_comm {v : DVar} {x y : DExact} (hv : varD v = true) (hx : exD v x = true) (hy : exD v y = true) : addDI v x y = addDI v y x := by
  obtain ⟨a1, a2⟩ := add_refI hv hx hy
  obtain ⟨c1, c2⟩ := add_refI hv hy hx
  rw [Int.max_comm y.2 x.2] at c1 c2
  rcases Nat.lt_or_ge 2000000000000000000 (x.1.natAbs * bsD v ^ (max x.2 y.2 - x.2).toNat) with g | g
  · rw [a1 (.inl g), c1 (.inr g)]
  · rcases Nat.lt_or_ge 2000000000000000000 (y.1.natAbs * bsD v ^ (max x.2 y.2 - y.2).toNat) with k | k
    · rw [a1 (.inr k), c1 (.inl k)]
    · rw [a2 g k, c2 k g, Int.add_comm]
theorem add_val {v : DVar} {x y : DExact} (hv : varD v = true) (hx : exD v x = true) (hy : exD v y = true) (h : (addDI v x y).2 = true) : valD v (addDI v x y).1 = valD v x + valD v y := by
  unfold addDI at h ⊢
  split at h
  · next g => rw [if_pos g, (sum_parts hv hy hx (by omega) h).2.2.1, Int.add_comm]
  · next g => rw [if_neg g]; exact (sum_parts hv hx hy (by omega) h).2.2.1
theorem neg_ok {v : DVar} {y : DExact} (hy : exD v y = true) : exD v (-y.1, y.2) = true := by
  unfold exD at hy ⊢
  dsimp only
  simp only [inB, Int.neg_tmod, Bool.and_eq_true, Bool.or_eq_true, decide_eq_true_eq] at hy ⊢
  generalize Int.tmod y.1 (bsD v) = t at *
  refine ⟨hy.1, by omega, ?_⟩
  rcases hy.2.2 with h | ⟨h1, h2⟩
  · exact .inl h
  · exact .inr ⟨h1, by omega⟩
theorem neg_mk {v : DVar} {y : DExact} (hv : varD v = true) (hy : exD v y = true) : mkD v (y.1 * -1) y.2.toNat = ((-y.1, y.2), true) := by
  obtain ⟨⟨-, y2, y2'⟩, -⟩ := exD_in hv hy
  refine mk_val hv (neg_ok hy) (by omega) ?_
  unfold valD
  rw [show y.1 * -1 = -y.1 by omega]
/-- a sum is undone by the opposite number -/
theorem add_back {v : DVar} {x y : DExact} (hv : varD v = true) (hx : exD v x = true) (hy : exD v y = true) (h : (addDI v x y).2 = true) (hs : exD v (addDI v x y).1 = true) : addDI v (addDI v x y).1 (-y.1, y.2) = (x, true) := by
  obtain ⟨-, b1, b2, -⟩ := bsD_facts hv
  have hval := add_val hv hx hy h
  obtain ⟨⟨y1, y2, y2'⟩, -⟩ := exD_in hv hy
  have hb : ((addDI v x y).1.2 ≤ y.2 → (addDI v x y).1.1.natAbs * bsD v ^ (y.2 - (addDI v x y).1.2).toNat ≤ 3000000000000000000) ∧ (y.2 < (addDI v x y).1.2 → y.1.natAbs * bsD v ^ ((addDI v x y).1.2 - y.2).toNat ≤ 2000000000000000000) := by
    unfold addDI at h ⊢
    split at h
    · next g =>
      rw [if_pos g]
      obtain ⟨p1, p2, p3, p4, p5⟩ := sum_parts hv hy hx (by omega) h
      have e := p5 g
      rw [e]
      exact ⟨fun k => by omega, fun _ => p1⟩
    · next g =>
      rw [if_neg g]
      obtain ⟨p1, p2, p3, p4, -⟩ := sum_parts hv hx hy (by omega) h
      refine ⟨fun k => ?_, fun k => by omega⟩
      -- the sum over the depth of y
      obtain ⟨⟨-, s2, s2'⟩, -⟩ := exD_in hv (by unfold addDI at hs; rw [if_neg g] at hs; exact hs)
      rw [p2] at h k ⊢
      have hq := strip_eq (bsD v) b1 y.2.toNat (x.1 * ((bsD v ^ (y.2 - x.2).toNat : Nat) : Int) + y.1)
      have hd := strip_depth (bsD v) y.2.toNat (x.1 * ((bsD v ^ (y.2 - x.2).toNat : Nat) : Int) + y.1)
      rw [mkD_eq h]
      dsimp only
      have hn : (x.1 * ((bsD v ^ (y.2 - x.2).toNat : Nat) : Int)).natAbs = x.1.natAbs * bsD v ^ (y.2 - x.2).toNat := by rw [Int.natAbs_mul, Int.natAbs_natCast]
      have hN : (x.1 * ((bsD v ^ (y.2 - x.2).toNat : Nat) : Int) + y.1).natAbs ≤ 3000000000000000000 := by omega
      generalize x.1 * ((bsD v ^ (y.2 - x.2).toNat : Nat) : Int) + y.1 = N at *
      have e : (y.2 - ((strip (bsD v) y.2.toNat N).2 : Int)).toNat = y.2.toNat - (strip (bsD v) y.2.toNat N).2 := by omega
      rw [e]
      have : (strip (bsD v) y.2.toNat N).1.natAbs * bsD v ^ (y.2.toNat - (strip (bsD v) y.2.toNat N).2) = N.natAbs := by
        conv => rhs; rw [hq]
        rw [Int.natAbs_mul, Int.natAbs_pow, Int.natAbs_natCast]
      omega
  obtain ⟨⟨-, s2, s2'⟩, -⟩ := exD_in hv hs
  generalize (addDI v x y).1 = s at *
  have hneg : valD v (-y.1, y.2) = - valD v y := by unfold valD; dsimp only; rw [Int.neg_mul]
  have hx0 : valD v s + valD v (-y.1, y.2) = valD v x := by rw [hneg, hval]; omega
  unfold addDI
  split
  · next g =>
    dsimp only at g
    unfold add1D add2D
    dsimp only
    have := hb.2 g
    rw [if_pos (by simp; omega)]
    refine mk_val hv hx (by omega) ?_
    rw [← hx0, Int.add_mul, Int.add_comm]
    unfold valD
    dsimp only
    congr 1
    rw [Int.mul_assoc, ← Int.pow_add]
    congr 2; omega
  · next g =>
    dsimp only at g
    unfold add1D add2D
    dsimp only
    have := hb.1 (by omega)
    rw [if_pos (by simp; omega)]
    refine mk_val hv hx (by omega) ?_
    rw [← hx0, Int.add_mul]
    unfold valD
    dsimp only
    congr 1
    rw [Int.mul_assoc, ← Int.pow_add]
    congr 2; omega
/-- comparing is the sign of the difference -/
theorem cmp_val {v : DVar} {x y : DExact} (hv : varD v = true) (hx : exD v x = true) (hy : exD v y = true) : cmpD v x y = if valD v x = valD v y then 0 else if valD v x < valD v y then -1 else 1 := by
  obtain ⟨-, b1, b2, -⟩ := bsD_facts hv
  obtain ⟨⟨-, x2, x2'⟩, -⟩ := exD_in hv hx
  obtain ⟨⟨-, y2, y2'⟩, -⟩ := exD_in hv hy
  have hK : 0 < (bsD v : Int) ^ (120 - x.2.toNat - y.2.toNat) := Int.pow_pos (by omega)
  have e1 : valD v x = x.1 * (bsD v : Int) ^ y.2.toNat * (bsD v : Int) ^ (120 - x.2.toNat - y.2.toNat) := by
    unfold valD; rw [Int.mul_assoc, ← Int.pow_add]; congr 2; omega
  have e2 : valD v y = y.1 * (bsD v : Int) ^ x.2.toNat * (bsD v : Int) ^ (120 - x.2.toNat - y.2.toNat) := by
    unfold valD; rw [Int.mul_assoc, ← Int.pow_add]; congr 2; omega
  rw [e1, e2]
  unfold cmpD
  generalize x.1 * (bsD v : Int) ^ y.2.toNat = p at *
  generalize y.1 * (bsD v : Int) ^ x.2.toNat = q at *
  generalize (bsD v : Int) ^ (120 - x.2.toNat - y.2.toNat) = K at *
  have k1 : p * K = q * K ↔ p = q := ⟨fun h => Int.eq_of_mul_eq_mul_right (by omega) h, fun h => by rw [h]⟩
  have k2 : p * K < q * K ↔ p < q := ⟨fun h => Int.lt_of_mul_lt_mul_right h (by omega), fun h => Int.mul_lt_mul_of_pos_right h hK⟩
  simp only [k1, k2]
theorem val_sign {v : DVar} {y : DExact} (hv : varD v = true) : (0 < y.1 → 0 < valD v y) ∧ (y.1 < 0 → valD v y < 0) ∧ (y.1 = 0 → valD v y = 0) := by
  obtain ⟨-, b1, b2, -⟩ := bsD_facts hv
  have hK : 0 < (bsD v : Int) ^ (120 - y.2.toNat) := Int.pow_pos (by omega)
  unfold valD
  refine ⟨fun h => Int.mul_pos h hK, fun h => Int.mul_neg_of_neg_of_pos h hK, fun h => by rw [h, Int.zero_mul]⟩
theorem addX_zero {v : DVar} {x y : DExact} (h : (addX v x y).2 = 0) : varD v = true ∧ exD v x = true ∧ exD v y = true ∧ (addDI v x y).2 = true ∧ addX v x y = ((addDI v x y).1, 0) ∧ exD v (addDI v x y).1 = true := by
  unfold addX at h
  split at h
  · next g => exact absurd h g
  · next g =>
    obtain ⟨hv, hx, hy⟩ := codeX_two (Decidable.not_not.1 g)
    split at h
    · next k =>
      have he : exD v (addDI v x y).1 = true := by
        unfold addDI add1D add2D at k ⊢
        split at k
        · next a => rw [if_pos a]; split at k
                    · next b => rw [if_pos b]; exact mkD_ok k
                    · cases k
        · next a => rw [if_neg a]; split at k
                    · next b => rw [if_pos b]; exact mkD_ok k
                    · cases k
      refine ⟨hv, hx, hy, k, ?_, he⟩
      unfold addX
      rw [if_neg g, if_pos k]
    · exact absurd (show (3 : Int) = 0 from h) (by decide)
theorem addX_comm (v : DVar) (x y : DExact) : addX v y x = addX v x y := by
  have hc : codeX v [y, x] = codeX v [x, y] := by simp [codeX, allX, Bool.and_comm]
  unfold addX
  rw [hc]
  split
  · rfl
  · next g =>
    obtain ⟨hv, hx, hy⟩ := codeX_two (Decidable.not_not.1 g)
    rw [addDI_comm hv hy hx]
theorem addX_bdS {v : DVar} {x y : DExact} : (addX v x y).1.2 ≤ 60 := by
  by_cases h : (addX v x y).2 = 0
  · obtain ⟨hv, -, -, -, e, he⟩ := addX_zero h
    rw [e]; exact (exD_in hv he).1.2.2
  · unfold addX at h ⊢
    split
    · show (0 : Int) ≤ 60; decide
    · split
      · next a b => rw [if_neg a, if_pos b] at h; exact absurd rfl h
      · show (0 : Int) ≤ 60; decide
def cmpX (v : DVar) (x y : DExact) : Int × Int := if codeX v [x, y] ≠ 0 then (0, codeX v [x, y]) else (cmpD v x y, 0)
def c_impl_CompareExact : Con where
  ins := [(true, .v tVar), (true, .v tRoll), (true, .v tRoll)]
  outs := [(false, .v tI), (false, .v tI)]
  sh := false
  pre := fun x => x.2.1.2 ≤ 9223372036854775807 ∧ x.2.2.1.2 ≤ 9223372036854775807
  out := fun x => ((cmpX x.1 x.2.1 x.2.2.1).1, (cmpX x.1 x.2.1 x.2.2.1).2, ())
  upd := fun x => x
theorem k_impl_CompareExact : ConOk Try.prog 60 c_impl_CompareExact := by
  refine fn_okW (C := cx Try.prog 21 c_impl_CompareExact) (cs := [(87, c_impl_checkExacts), (135, c_impl_compareExact)]) (res := Try.f60.results.toList) (fun _ => ⟨[], [], []⟩) Try.func60 (by kernel_rfl) rfl rfl rfl tysOk.look eqTsOk.look (AllCs.ok (l := [(87, c_impl_checkExacts), (135, c_impl_compareExact)]) ⟨k_impl_checkExacts, k_impl_compareExact, trivial⟩) mixed rfl rfl rfl ?_
  refine of_nf (P := ∀ v : Int × Int × Int × Int, ∀ x : Int × Int, ∀ y : Int × Int, (x.2 ≤ 9223372036854775807 ∧ y.2 ≤ 9223372036854775807) → ((lensI c_impl_CompareExact.ins (v, x, y, ())) → ((bdX [x, y]) ∧ (bsp (decide ((codeX v [x, y]) ≠ (0 : Int))) (@Eq (HO c_impl_CompareExact.outs) (0, codeX v [x, y], ()) (c_impl_CompareExact.out (v, x, y, ()))) ((varD v = true ∧ exD v x = true ∧ exD v y = true) ∧ (@Eq (HO c_impl_CompareExact.outs) (cmpD v x y, 0, ()) (c_impl_CompareExact.out (v, x, y, ())))))))) (by kernel_rfl) ?_
  rintro v x y ⟨hx, hy⟩ hl
  refine ⟨bdX_two hx hy, bspD (fun h => ?_) (fun h => ⟨?_, ?_⟩)⟩
  · simp only [c_impl_CompareExact, cmpX, if_pos h]
  · exact codeX_two (Decidable.not_not.1 h)
  · simp only [c_impl_CompareExact, cmpX, if_neg h]
end Go.Proofs.Ytghfpidpefdndaa
