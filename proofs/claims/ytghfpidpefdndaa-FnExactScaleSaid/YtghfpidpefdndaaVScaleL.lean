/-
  The law FnExactScale.
-/
import Derived.Test.YtghfpidpefdndaaVEx
import Derived.Test.YtghfpidpefdndaaVDrawX
import Derived.Test.YtghfpidpefdndaaAbL
namespace Go.Proofs.Ytghfpidpefdndaa
open Go.RowKit
set_option linter.unusedSimpArgs false
set_option linter.unusedVariables false
theorem add2D_okX {v : DVar} {a c : Int} {d e : Nat} (h : (add2D v a c d e).2 = true) : exD v (add2D v a c d e).1 = true := by
  unfold add2D at h ⊢
  split at h
  · next g => rw [if_pos g]; exact mkD_ok h
  · cases h
theorem addDI_okX {v : DVar} {x y : DExact} (h : (addDI v x y).2 = true) : exD v (addDI v x y).1 = true := by
  unfold addDI at h ⊢
  split at h
  · next g => rw [if_pos g]; exact add2D_okX h
  · next g => rw [if_neg g]; exact add2D_okX h
/-- three times a number is the sum of three of it -/
theorem three {v : DVar} {x : DExact} (hv : varD v = true) (hx : exD v x = true) (h2 : (addDI v x x).2 = true) :
    addDI v (addDI v x x).1 x = mkD v (x.1 * 3) x.2.toNat := by
  obtain ⟨-, b1, b2, -⟩ := bsD_facts hv
  obtain ⟨⟨⟨x1, x1'⟩, x2, x2'⟩, xb, -, -⟩ := exD_in hv hx
  have hA : addDI v x x = mkD v (x.1 + x.1) x.2.toNat := by
    unfold addDI add1D add2D
    rw [if_neg (by omega), if_pos (by simp), show (x.2 - x.2).toNat = 0 by omega]
    simp
  have hq := strip_eq (bsD v) b1 x.2.toNat (x.1 + x.1)
  have hd := strip_depth (bsD v) x.2.toNat (x.1 + x.1)
  have hm : (mkD v (x.1 + x.1) x.2.toNat).1 = ((strip (bsD v) x.2.toNat (x.1 + x.1)).1, ((strip (bsD v) x.2.toNat (x.1 + x.1)).2 : Int)) := by
    rw [hA] at h2
    unfold mkD at h2 ⊢
    split at h2
    · next g => rw [if_pos g]
    · cases h2
  rw [hA, hm]
  generalize strip (bsD v) x.2.toNat (x.1 + x.1) = z at *
  unfold addDI
  rw [if_neg (by dsimp only; omega)]
  unfold add1D add2D
  dsimp only
  have e : (x.2 - (z.2 : Int)).toNat = x.2.toNat - z.2 := by omega
  rw [e, ← hq]
  have ha : z.1.natAbs * bsD v ^ (x.2.toNat - z.2) = (x.1 + x.1).natAbs := by
    rw [hq, Int.natAbs_mul, Int.natAbs_pow, Int.natAbs_natCast]
  rw [ha, if_pos (by simp; omega)]
  congr 1; omega
theorem addX_bd {v : DVar} {x y : DExact} : (addX v x y).1.2 ≤ 60 := by
  unfold addX
  split
  · show (0 : Int) ≤ 60; decide
  · next h =>
    split
    · next g =>
      obtain ⟨hv, -, -⟩ := codeX_two (Decidable.not_not.1 h)
      exact (exD_in hv (addDI_okX g)).1.2.2
    · decide
theorem okC_of {c : List Int} (h : wfD (TC.sl (.i .u8)) c) (hl : ¬ 4096 < (c.length : Int)) : okC c := by
  refine ⟨by omega, fun i => ?_⟩
  by_cases hi : i < c.length
  · have := h _ (getD_memX hi 0)
    simp only [wfD, inK] at this
    omega
  · rw [List.getD_eq_getElem?_getD, List.getElem?_eq_none (by omega)]; decide
theorem scale_law {v : DVar} {x : DExact} (h1 : (addX v x x).2 = 0) (h3 : (scaleX v x 3).2 = 0) : addX v (addX v x x).1 x = scaleX v x 3 := by
  have hc : codeX v [x, x] = 0 := by
    unfold addX at h1
    split at h1
    · next g => exact absurd h1 g
    · next g => exact Decidable.not_not.1 g
  obtain ⟨hv, hx, -⟩ := codeX_two hc
  have hA : addX v x x = if (addDI v x x).2 = true then ((addDI v x x).1, 0) else ((0, 0), 3) := by unfold addX; rw [if_neg (by omega)]
  have ht : (addDI v x x).2 = true := by
    cases h : (addDI v x x).2
    · rw [hA, h] at h1; exact absurd (show (3 : Int) = 0 from h1) (by decide)
    · rfl
  rw [if_pos ht] at hA
  rw [hA]
  have hy := addDI_okX ht
  have h3' := three hv hx ht
  have hc2 : codeX v [(addDI v x x).1, x] = 0 := by simp [codeX, allX, hv, hx, hy]
  have hc1 : codeX v [x] = 0 := by simp [codeX, allX, hv, hx]
  have e1 : addX v (addDI v x x).1 x = if (addDI v (addDI v x x).1 x).2 = true then ((addDI v (addDI v x x).1 x).1, 0) else ((0, 0), 3) := by unfold addX; rw [if_neg (by rw [hc2]; decide)]
  have e2 : scaleX v x 3 = if (mkD v (x.1 * 3) x.2.toNat).2 = true then ((mkD v (x.1 * 3) x.2.toNat).1, 0) else ((0, 0), 3) := by unfold scaleX; rw [if_neg (by rw [hc1]; decide), if_neg (by decide)]
  show addX v (addDI v x x).1 x = _
  rw [e1, e2, h3']
def c_laws_big : Con where
  ins := [(false, .v (.sl (.i .u8)))]
  outs := [(false, .v .b)]
  sh := false
  pre := fun _ => True
  out := fun x => (decide (4096 < (List.length x.1 : Int)), ())
  upd := fun x => x
theorem k_laws_big : ConOk Try.prog 58 c_laws_big := by
  refine fn_ok (C := cx Try.prog 6 c_laws_big) (cs := []) (res := Try.f58.results.toList) (fun _ => ⟨[], [], []⟩) Try.func58 (by kernel_rfl) rfl rfl rfl tysOk.look eqTsOk.look (AllCs.ok (l := []) trivial) mixed rfl rfl rfl ?_
  refine of_nf (P := ∀ c : List Int, (True) → ((lensI c_laws_big.ins (c, ())) → (@Eq (HO c_laws_big.outs) ((decide ((4096 : Int) < (c.length : Int))), ()) (c_laws_big.out (c, ()))))) (by kernel_rfl) ?_
  rintro c hp hl
  rfl
def c_laws_FnExactScale : Con where
  ins := [(false, .v (.sl (.i .u8)))]
  outs := [(false, .v .b)]
  sh := false
  pre := fun x => wfD (TC.sl (.i .u8)) x.1
  out := fun _ => (true, ())
  upd := fun x => x
theorem k_laws_FnExactScale : ConOk Try.prog 11 c_laws_FnExactScale := by
  refine fn_ok (C := cx Try.prog 91 c_laws_FnExactScale) (cs := [(58, c_laws_big), (61, c_spec_DrawScaleExact), (62, c_impl_ScaleExact), (63, c_spec_ScaleExact), (64, c_impl_AddExact), (65, c_spec_IsExact)]) (res := Try.f11.results.toList) (fun _ => ⟨[], [], []⟩) Try.func11 (by kernel_rfl) rfl rfl rfl tysOk.look eqTsOk.look (AllCs.ok (l := [(58, c_laws_big), (61, c_spec_DrawScaleExact), (62, c_impl_ScaleExact), (63, c_spec_ScaleExact), (64, c_impl_AddExact), (65, c_spec_IsExact)]) ⟨k_laws_big, k_spec_DrawScaleExact, k_impl_ScaleExact, k_spec_ScaleExact, k_impl_AddExact, k_spec_IsExact, trivial⟩) mixed rfl rfl rfl ?_
  refine of_nf (P := ∀ c : List Int, (wfD (TC.sl (.i .u8)) c) → ((lensI c_laws_FnExactScale.ins (c, ())) → (True ∧ (bsp (decide (4096 < (List.length c : Int))) (@Eq (HO c_laws_FnExactScale.outs) (true, ()) (c_laws_FnExactScale.out (c, ()))) ((okC c) ∧ (((drawScale c).2.1.2 ≤ 9223372036854775807) ∧ (((drawScale c).2.1.2 ≤ 9223372036854775807) ∧ (bsp (decide ((scaleX (drawScale c).1 (drawScale c).2.1 (drawScale c).2.2).2 ≠ (scaleX (drawScale c).1 (drawScale c).2.1 (drawScale c).2.2).2)) (@Eq (HO c_laws_FnExactScale.outs) (false, ()) (c_laws_FnExactScale.out (c, ()))) (bsp (!(decide ((scaleX (drawScale c).1 (drawScale c).2.1 (drawScale c).2.2).1.1 = (scaleX (drawScale c).1 (drawScale c).2.1 (drawScale c).2.2).1.1) && (decide ((scaleX (drawScale c).1 (drawScale c).2.1 (drawScale c).2.2).1.2 = (scaleX (drawScale c).1 (drawScale c).2.1 (drawScale c).2.2).1.2) && (true)))) (@Eq (HO c_laws_FnExactScale.outs) (false, ()) (c_laws_FnExactScale.out (c, ()))) (((drawScale c).2.1.2 ≤ 9223372036854775807 ∧ (drawScale c).2.1.2 ≤ 9223372036854775807) ∧ (((addX (drawScale c).1 (drawScale c).2.1 (drawScale c).2.1).1.2 ≤ 9223372036854775807 ∧ (drawScale c).2.1.2 ≤ 9223372036854775807) ∧ (((drawScale c).2.1.2 ≤ 9223372036854775807) ∧ (bsp (decide ((addX (drawScale c).1 (drawScale c).2.1 (drawScale c).2.1).2 ≠ (0 : Int))) (((drawScale c).2.1.2 ≤ 9223372036854775807) ∧ (bsp (!(varD (drawScale c).1 && exD (drawScale c).1 (drawScale c).2.1)) (@Eq (HO c_laws_FnExactScale.outs) (true, ()) (c_laws_FnExactScale.out (c, ()))) (bsp (decide ((scaleX (drawScale c).1 (drawScale c).2.1 (3 : Int)).2 ≠ (0 : Int))) (@Eq (HO c_laws_FnExactScale.outs) (true, ()) (c_laws_FnExactScale.out (c, ()))) (@Eq (HO c_laws_FnExactScale.outs) ((decide ((addX (drawScale c).1 (drawScale c).2.1 (drawScale c).2.1).2 ≠ (0 : Int))), ()) (c_laws_FnExactScale.out (c, ())))))) (bsp (decide ((addX (drawScale c).1 (addX (drawScale c).1 (drawScale c).2.1 (drawScale c).2.1).1 (drawScale c).2.1).2 ≠ (0 : Int))) (((drawScale c).2.1.2 ≤ 9223372036854775807) ∧ (bsp (!(varD (drawScale c).1 && exD (drawScale c).1 (drawScale c).2.1)) (@Eq (HO c_laws_FnExactScale.outs) (true, ()) (c_laws_FnExactScale.out (c, ()))) (bsp (decide ((scaleX (drawScale c).1 (drawScale c).2.1 (3 : Int)).2 ≠ (0 : Int))) (@Eq (HO c_laws_FnExactScale.outs) (true, ()) (c_laws_FnExactScale.out (c, ()))) (@Eq (HO c_laws_FnExactScale.outs) ((decide ((addX (drawScale c).1 (drawScale c).2.1 (drawScale c).2.1).2 ≠ (0 : Int))), ()) (c_laws_FnExactScale.out (c, ())))))) (bsp (decide ((scaleX (drawScale c).1 (drawScale c).2.1 (3 : Int)).2 ≠ (0 : Int))) (((drawScale c).2.1.2 ≤ 9223372036854775807) ∧ (bsp (!(varD (drawScale c).1 && exD (drawScale c).1 (drawScale c).2.1)) (@Eq (HO c_laws_FnExactScale.outs) (true, ()) (c_laws_FnExactScale.out (c, ()))) (bsp (decide ((scaleX (drawScale c).1 (drawScale c).2.1 (3 : Int)).2 ≠ (0 : Int))) (@Eq (HO c_laws_FnExactScale.outs) (true, ()) (c_laws_FnExactScale.out (c, ()))) (@Eq (HO c_laws_FnExactScale.outs) ((decide ((addX (drawScale c).1 (drawScale c).2.1 (drawScale c).2.1).2 ≠ (0 : Int))), ()) (c_laws_FnExactScale.out (c, ())))))) (@Eq (HO c_laws_FnExactScale.outs) ((decide ((addX (drawScale c).1 (addX (drawScale c).1 (drawScale c).2.1 (drawScale c).2.1).1 (drawScale c).2.1).1.1 = (scaleX (drawScale c).1 (drawScale c).2.1 (3 : Int)).1.1) && (decide ((addX (drawScale c).1 (addX (drawScale c).1 (drawScale c).2.1 (drawScale c).2.1).1 (drawScale c).2.1).1.2 = (scaleX (drawScale c).1 (drawScale c).2.1 (3 : Int)).1.2) && (true))), ()) (c_laws_FnExactScale.out (c, ())))))))))))))))))) (by kernel_rfl) ?_
  rintro c hw hl
  refine ⟨trivial, bspD (fun _ => rfl) (fun hb => ?_)⟩
  have hc := okC_of hw hb
  refine ⟨hc, ?_⟩
  have hx : (drawScale c).2.1.2 ≤ 1000 := (drawX_bd (drawV_ok (fromD_ok hc))).2.2
  clear hl hw hb hc
  generalize (drawScale c).1 = v at *
  generalize (drawScale c).2.1 = x at *
  generalize (drawScale c).2.2 = k at *
  have hx' : x.2 ≤ 9223372036854775807 := by omega
  have ha := addX_bd (v := v) (x := x) (y := x)
  have ha' : (addX v x x).1.2 ≤ 9223372036854775807 := by omega
  have hs := scale_law (v := v) (x := x)
  repeat' first
    | refine ⟨hx', ?_⟩
    | refine ⟨⟨hx', hx'⟩, ?_⟩
    | refine ⟨⟨ha', hx'⟩, ?_⟩
    | exact rfl
    | refine bspD (fun h => absurd rfl h) (fun _ => ?_)
    | refine bspD (fun h => ?_) (fun h => ?_)
    | (refine bspB (fun h => ?_) (fun _ => ?_); focus (exfalso; simp at h; done))
    | refine bspB (fun h => ?_) (fun h => ?_)
    | fail
  all_goals (simp only [ne_eq, Decidable.not_not] at *; simp_all [c_laws_FnExactScale])
end Go.Proofs.Ytghfpidpefdndaa
