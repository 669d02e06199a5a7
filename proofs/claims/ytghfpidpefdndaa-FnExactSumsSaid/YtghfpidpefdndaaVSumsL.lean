/-
  The law FnExactSums.
-/
import Derived.Test.YtghfpidpefdndaaVSumsM
import Derived.Test.YtghfpidpefdndaaVDrawX
import Derived.Test.YtghfpidpefdndaaAbL
namespace Go.Proofs.Ytghfpidpefdndaa
open Go.RowKit
set_option linter.unusedSimpArgs false
set_option linter.unusedVariables false
theorem okC_ofS {c : List Int} (h : wfD (TC.sl (.i .u8)) c) (hl : ¬ 4096 < (c.length : Int)) : okC c := by
  refine ⟨by omega, fun i => ?_⟩
  by_cases hi : i < c.length
  · have := h _ (getD_memX hi 0)
    simp only [wfD, inK] at this
    omega
  · rw [List.getD_eq_getElem?_getD, List.getElem?_eq_none (by omega)]; decide
def c_laws_big : Con where
  ins := [(false, .v (.sl (.i .u8)))]
  outs := [(false, .v .b)]
  sh := false
  pre := fun _ => True
  out := fun x => (decide (4096 < (List.length x.1 : Int)), ())
  upd := fun x => x
theorem k_laws_big : ConOk Try.prog 58 c_laws_big := by
  refine fn_ok (C := cx Try.prog 6 c_laws_big) (cs := []) (res := Try.f58.results.toList) (fun _ => ⟨[], [], []⟩) Try.func58 (by kernel_rfl) rfl rfl rfl tysOk.look eqTsOk.look (AllCs.ok (l := []) trivial) mixed rfl rfl rfl ?_
  refine of_nf (P := ∀ c : List Int, (True) → ((lensI c_laws_big.ins (c, ())) → (@Eq (HO c_laws_big.outs) ((decide ((4096 : Int) < (c.length : Int))), ()) (c_laws_big.out (c, ()))))) (by kernel_rfl) ?_
  rintro c hp hl
  rfl
theorem sums_law {v : DVar} {x y : DExact} (h : (addX v x y).2 = 0) : scaleX v y (-1) = ((-y.1, y.2), 0) ∧ addX v (addX v x y).1 (-y.1, y.2) = (x, 0) ∧
    cmpX v (addX v x y).1 x = (if 0 < y.1 then 1 else if y.1 < 0 then -1 else 0, 0) ∧ varD v = true ∧ exD v (addX v x y).1 = true := by
  obtain ⟨hv, hx, hy, ht, e, he⟩ := addX_zero h
  have hb := add_back hv hx hy ht he
  have hval := add_val hv hx hy ht
  have hcmp := cmp_val hv he hx
  have hsg := val_sign (v := v) (y := y) hv
  rw [e]
  dsimp only
  generalize (addDI v x y).1 = s at *
  have hn := neg_ok hy
  have c1 : codeX v [y] = 0 := by simp [codeX, allX, hv, hy]
  have c2 : codeX v [s, (-y.1, y.2)] = 0 := by simp [codeX, allX, hv, he, hn]
  have c3 : codeX v [s, x] = 0 := by simp [codeX, allX, hv, he, hx]
  refine ⟨?_, ?_, ?_, hv, he⟩
  · unfold scaleX
    rw [if_neg (by rw [c1]; decide), if_neg (by decide), neg_mk hv hy]; rfl
  · unfold addX
    rw [if_neg (by rw [c2]; decide), hb]; rfl
  · unfold cmpX
    rw [if_neg (by rw [c3]; decide), hcmp, hval]
    congr 1
    obtain ⟨g1, g2, g3⟩ := hsg
    generalize valD v x = X at *
    generalize valD v y = Y at *
    rcases Int.lt_trichotomy y.1 0 with k | k | k
    · have := g2 k
      rw [if_neg (by omega), if_pos (by omega), if_neg (by omega), if_pos (by omega)]
    · have := g3 k
      rw [if_pos (by omega), if_neg (by omega), if_neg (by omega)]
    · have := g1 k
      rw [if_neg (by omega), if_neg (by omega), if_pos (by omega)]
def c_laws_FnExactSums : Con where
  ins := [(false, .v (.sl (.i .u8)))]
  outs := [(false, .v .b)]
  sh := false
  pre := fun x => wfD (TC.sl (.i .u8)) x.1
  out := fun _ => (true, ())
  upd := fun x => x
theorem k_laws_FnExactSums : ConOk Try.prog 12 c_laws_FnExactSums := by
  refine fn_ok (C := cx Try.prog 119 c_laws_FnExactSums) (cs := [(58, c_laws_big), (66, c_spec_DrawAddExact), (64, c_impl_AddExact), (67, c_spec_AddExact), (62, c_impl_ScaleExact), (60, c_impl_CompareExact), (68, c_impl_IsExact)]) (res := Try.f12.results.toList) (fun _ => ⟨[], [], []⟩) Try.func12 (by kernel_rfl) rfl rfl rfl tysOk.look eqTsOk.look (AllCs.ok (l := [(58, c_laws_big), (66, c_spec_DrawAddExact), (64, c_impl_AddExact), (67, c_spec_AddExact), (62, c_impl_ScaleExact), (60, c_impl_CompareExact), (68, c_impl_IsExact)]) ⟨k_laws_big, k_spec_DrawAddExact, k_impl_AddExact, k_spec_AddExact, k_impl_ScaleExact, k_impl_CompareExact, k_impl_IsExact, trivial⟩) mixed rfl rfl rfl ?_
  refine of_nf (P := ∀ c : List Int, (wfD (TC.sl (.i .u8)) c) → ((lensI c_laws_FnExactSums.ins (c, ())) → (True ∧ (bsp (decide (4096 < (List.length c : Int))) (@Eq (HO c_laws_FnExactSums.outs) (true, ()) (c_laws_FnExactSums.out (c, ()))) ((okC c) ∧ (((drawAdd c).2.1.2 ≤ 9223372036854775807 ∧ (drawAdd c).2.2.2 ≤ 9223372036854775807) ∧ (((drawAdd c).2.2.2 ≤ 9223372036854775807 ∧ (drawAdd c).2.1.2 ≤ 9223372036854775807) ∧ (((drawAdd c).2.1.2 ≤ 9223372036854775807 ∧ (drawAdd c).2.2.2 ≤ 9223372036854775807) ∧ (bsp (decide ((addX (drawAdd c).1 (drawAdd c).2.1 (drawAdd c).2.2).2 ≠ (addX (drawAdd c).1 (drawAdd c).2.1 (drawAdd c).2.2).2)) (@Eq (HO c_laws_FnExactSums.outs) (false, ()) (c_laws_FnExactSums.out (c, ()))) (bsp (decide ((addX (drawAdd c).1 (drawAdd c).2.2 (drawAdd c).2.1).2 ≠ (addX (drawAdd c).1 (drawAdd c).2.1 (drawAdd c).2.2).2)) (@Eq (HO c_laws_FnExactSums.outs) (false, ()) (c_laws_FnExactSums.out (c, ()))) (bsp (!(decide ((addX (drawAdd c).1 (drawAdd c).2.1 (drawAdd c).2.2).1.1 = (addX (drawAdd c).1 (drawAdd c).2.1 (drawAdd c).2.2).1.1) && (decide ((addX (drawAdd c).1 (drawAdd c).2.1 (drawAdd c).2.2).1.2 = (addX (drawAdd c).1 (drawAdd c).2.1 (drawAdd c).2.2).1.2) && (true)))) (@Eq (HO c_laws_FnExactSums.outs) (false, ()) (c_laws_FnExactSums.out (c, ()))) (bsp (!(decide ((addX (drawAdd c).1 (drawAdd c).2.2 (drawAdd c).2.1).1.1 = (addX (drawAdd c).1 (drawAdd c).2.1 (drawAdd c).2.2).1.1) && (decide ((addX (drawAdd c).1 (drawAdd c).2.2 (drawAdd c).2.1).1.2 = (addX (drawAdd c).1 (drawAdd c).2.1 (drawAdd c).2.2).1.2) && (true)))) (@Eq (HO c_laws_FnExactSums.outs) (false, ()) (c_laws_FnExactSums.out (c, ()))) (bsp (decide ((addX (drawAdd c).1 (drawAdd c).2.1 (drawAdd c).2.2).2 ≠ (0 : Int))) (@Eq (HO c_laws_FnExactSums.outs) (true, ()) (c_laws_FnExactSums.out (c, ()))) (((drawAdd c).2.2.2 ≤ 9223372036854775807) ∧ (((addX (drawAdd c).1 (drawAdd c).2.1 (drawAdd c).2.2).1.2 ≤ 9223372036854775807 ∧ (scaleX (drawAdd c).1 (drawAdd c).2.2 (-1 : Int)).1.2 ≤ 9223372036854775807) ∧ (((addX (drawAdd c).1 (drawAdd c).2.1 (drawAdd c).2.2).1.2 ≤ 9223372036854775807 ∧ (drawAdd c).2.1.2 ≤ 9223372036854775807) ∧ (bsp (decide ((0 : Int) < (drawAdd c).2.2.1)) (bsp (decide ((drawAdd c).2.2.1 < (0 : Int))) (bsp (decide ((scaleX (drawAdd c).1 (drawAdd c).2.2 (-1 : Int)).2 = (0 : Int))) (bsp (decide ((addX (drawAdd c).1 (addX (drawAdd c).1 (drawAdd c).2.1 (drawAdd c).2.2).1 (scaleX (drawAdd c).1 (drawAdd c).2.2 (-1 : Int)).1).2 = (0 : Int))) (bsp (decide ((addX (drawAdd c).1 (addX (drawAdd c).1 (drawAdd c).2.1 (drawAdd c).2.2).1 (scaleX (drawAdd c).1 (drawAdd c).2.2 (-1 : Int)).1).1.1 = (drawAdd c).2.1.1) && (decide ((addX (drawAdd c).1 (addX (drawAdd c).1 (drawAdd c).2.1 (drawAdd c).2.2).1 (scaleX (drawAdd c).1 (drawAdd c).2.2 (-1 : Int)).1).1.2 = (drawAdd c).2.1.2) && (true))) (bsp (decide ((cmpX (drawAdd c).1 (addX (drawAdd c).1 (drawAdd c).2.1 (drawAdd c).2.2).1 (drawAdd c).2.1).2 = (0 : Int))) (bsp (decide ((cmpX (drawAdd c).1 (addX (drawAdd c).1 (drawAdd c).2.1 (drawAdd c).2.2).1 (drawAdd c).2.1).1 = (-1 : Int))) (((addX (drawAdd c).1 (drawAdd c).2.1 (drawAdd c).2.2).1.2 ≤ 9223372036854775807) ∧ (@Eq (HO c_laws_FnExactSums.outs) ((varD (drawAdd c).1 && exD (drawAdd c).1 (addX (drawAdd c).1 (drawAdd c).2.1 (drawAdd c).2.2).1), ()) (c_laws_FnExactSums.out (c, ())))) (@Eq (HO c_laws_FnExactSums.outs) (false, ()) (c_laws_FnExactSums.out (c, ())))) (@Eq (HO c_laws_FnExactSums.outs) (false, ()) (c_laws_FnExactSums.out (c, ())))) (@Eq (HO c_laws_FnExactSums.outs) (false, ()) (c_laws_FnExactSums.out (c, ())))) (@Eq (HO c_laws_FnExactSums.outs) (false, ()) (c_laws_FnExactSums.out (c, ())))) (@Eq (HO c_laws_FnExactSums.outs) (false, ()) (c_laws_FnExactSums.out (c, ())))) (bsp (decide ((scaleX (drawAdd c).1 (drawAdd c).2.2 (-1 : Int)).2 = (0 : Int))) (bsp (decide ((addX (drawAdd c).1 (addX (drawAdd c).1 (drawAdd c).2.1 (drawAdd c).2.2).1 (scaleX (drawAdd c).1 (drawAdd c).2.2 (-1 : Int)).1).2 = (0 : Int))) (bsp (decide ((addX (drawAdd c).1 (addX (drawAdd c).1 (drawAdd c).2.1 (drawAdd c).2.2).1 (scaleX (drawAdd c).1 (drawAdd c).2.2 (-1 : Int)).1).1.1 = (drawAdd c).2.1.1) && (decide ((addX (drawAdd c).1 (addX (drawAdd c).1 (drawAdd c).2.1 (drawAdd c).2.2).1 (scaleX (drawAdd c).1 (drawAdd c).2.2 (-1 : Int)).1).1.2 = (drawAdd c).2.1.2) && (true))) (bsp (decide ((cmpX (drawAdd c).1 (addX (drawAdd c).1 (drawAdd c).2.1 (drawAdd c).2.2).1 (drawAdd c).2.1).2 = (0 : Int))) (bsp (decide ((cmpX (drawAdd c).1 (addX (drawAdd c).1 (drawAdd c).2.1 (drawAdd c).2.2).1 (drawAdd c).2.1).1 = (1 : Int))) (((addX (drawAdd c).1 (drawAdd c).2.1 (drawAdd c).2.2).1.2 ≤ 9223372036854775807) ∧ (@Eq (HO c_laws_FnExactSums.outs) ((varD (drawAdd c).1 && exD (drawAdd c).1 (addX (drawAdd c).1 (drawAdd c).2.1 (drawAdd c).2.2).1), ()) (c_laws_FnExactSums.out (c, ())))) (@Eq (HO c_laws_FnExactSums.outs) (false, ()) (c_laws_FnExactSums.out (c, ())))) (@Eq (HO c_laws_FnExactSums.outs) (false, ()) (c_laws_FnExactSums.out (c, ())))) (@Eq (HO c_laws_FnExactSums.outs) (false, ()) (c_laws_FnExactSums.out (c, ())))) (@Eq (HO c_laws_FnExactSums.outs) (false, ()) (c_laws_FnExactSums.out (c, ())))) (@Eq (HO c_laws_FnExactSums.outs) (false, ()) (c_laws_FnExactSums.out (c, ()))))) (bsp (decide ((drawAdd c).2.2.1 < (0 : Int))) (bsp (decide ((scaleX (drawAdd c).1 (drawAdd c).2.2 (-1 : Int)).2 = (0 : Int))) (bsp (decide ((addX (drawAdd c).1 (addX (drawAdd c).1 (drawAdd c).2.1 (drawAdd c).2.2).1 (scaleX (drawAdd c).1 (drawAdd c).2.2 (-1 : Int)).1).2 = (0 : Int))) (bsp (decide ((addX (drawAdd c).1 (addX (drawAdd c).1 (drawAdd c).2.1 (drawAdd c).2.2).1 (scaleX (drawAdd c).1 (drawAdd c).2.2 (-1 : Int)).1).1.1 = (drawAdd c).2.1.1) && (decide ((addX (drawAdd c).1 (addX (drawAdd c).1 (drawAdd c).2.1 (drawAdd c).2.2).1 (scaleX (drawAdd c).1 (drawAdd c).2.2 (-1 : Int)).1).1.2 = (drawAdd c).2.1.2) && (true))) (bsp (decide ((cmpX (drawAdd c).1 (addX (drawAdd c).1 (drawAdd c).2.1 (drawAdd c).2.2).1 (drawAdd c).2.1).2 = (0 : Int))) (bsp (decide ((cmpX (drawAdd c).1 (addX (drawAdd c).1 (drawAdd c).2.1 (drawAdd c).2.2).1 (drawAdd c).2.1).1 = (-1 : Int))) (((addX (drawAdd c).1 (drawAdd c).2.1 (drawAdd c).2.2).1.2 ≤ 9223372036854775807) ∧ (@Eq (HO c_laws_FnExactSums.outs) ((varD (drawAdd c).1 && exD (drawAdd c).1 (addX (drawAdd c).1 (drawAdd c).2.1 (drawAdd c).2.2).1), ()) (c_laws_FnExactSums.out (c, ())))) (@Eq (HO c_laws_FnExactSums.outs) (false, ()) (c_laws_FnExactSums.out (c, ())))) (@Eq (HO c_laws_FnExactSums.outs) (false, ()) (c_laws_FnExactSums.out (c, ())))) (@Eq (HO c_laws_FnExactSums.outs) (false, ()) (c_laws_FnExactSums.out (c, ())))) (@Eq (HO c_laws_FnExactSums.outs) (false, ()) (c_laws_FnExactSums.out (c, ())))) (@Eq (HO c_laws_FnExactSums.outs) (false, ()) (c_laws_FnExactSums.out (c, ())))) (bsp (decide ((scaleX (drawAdd c).1 (drawAdd c).2.2 (-1 : Int)).2 = (0 : Int))) (bsp (decide ((addX (drawAdd c).1 (addX (drawAdd c).1 (drawAdd c).2.1 (drawAdd c).2.2).1 (scaleX (drawAdd c).1 (drawAdd c).2.2 (-1 : Int)).1).2 = (0 : Int))) (bsp (decide ((addX (drawAdd c).1 (addX (drawAdd c).1 (drawAdd c).2.1 (drawAdd c).2.2).1 (scaleX (drawAdd c).1 (drawAdd c).2.2 (-1 : Int)).1).1.1 = (drawAdd c).2.1.1) && (decide ((addX (drawAdd c).1 (addX (drawAdd c).1 (drawAdd c).2.1 (drawAdd c).2.2).1 (scaleX (drawAdd c).1 (drawAdd c).2.2 (-1 : Int)).1).1.2 = (drawAdd c).2.1.2) && (true))) (bsp (decide ((cmpX (drawAdd c).1 (addX (drawAdd c).1 (drawAdd c).2.1 (drawAdd c).2.2).1 (drawAdd c).2.1).2 = (0 : Int))) (bsp (decide ((cmpX (drawAdd c).1 (addX (drawAdd c).1 (drawAdd c).2.1 (drawAdd c).2.2).1 (drawAdd c).2.1).1 = (0 : Int))) (((addX (drawAdd c).1 (drawAdd c).2.1 (drawAdd c).2.2).1.2 ≤ 9223372036854775807) ∧ (@Eq (HO c_laws_FnExactSums.outs) ((varD (drawAdd c).1 && exD (drawAdd c).1 (addX (drawAdd c).1 (drawAdd c).2.1 (drawAdd c).2.2).1), ()) (c_laws_FnExactSums.out (c, ())))) (@Eq (HO c_laws_FnExactSums.outs) (false, ()) (c_laws_FnExactSums.out (c, ())))) (@Eq (HO c_laws_FnExactSums.outs) (false, ()) (c_laws_FnExactSums.out (c, ())))) (@Eq (HO c_laws_FnExactSums.outs) (false, ()) (c_laws_FnExactSums.out (c, ())))) (@Eq (HO c_laws_FnExactSums.outs) (false, ()) (c_laws_FnExactSums.out (c, ())))) (@Eq (HO c_laws_FnExactSums.outs) (false, ()) (c_laws_FnExactSums.out (c, ())))))))))))))))))))))) (by kernel_rfl) ?_
  rintro c hw hl
  refine ⟨trivial, bspD (fun _ => rfl) (fun hb => ?_)⟩
  have hc := okC_ofS hw hb
  refine ⟨hc, ?_⟩
  have hF := fromD_ok hc
  have hx : (drawAdd c).2.1.2 ≤ 1000 := (drawX_bd (drawV_ok hF)).2.2
  have hy : (drawAdd c).2.2.2 ≤ 1000 := (drawX_bd (drawX_ok (drawV_ok hF)).1).2.2
  clear hl hw hb hc hF
  generalize (drawAdd c).1 = v at *
  generalize (drawAdd c).2.1 = x at *
  generalize (drawAdd c).2.2 = y at *
  have hs60 := addX_bdS (v := v) (x := x) (y := y)
  have k1 : x.2 ≤ 9223372036854775807 := by omega
  have k2 : y.2 ≤ 9223372036854775807 := by omega
  have k3 : (addX v x y).1.2 ≤ 9223372036854775807 := by omega
  rw [addX_comm v x y]
  refine ⟨⟨k1, k2⟩, ⟨k2, k1⟩, ⟨k1, k2⟩, bspD (fun h => absurd rfl h) (fun _ => bspD (fun h => absurd rfl h) (fun _ => bspB (fun h => ?_) (fun _ => bspB (fun h => ?_) (fun _ => bspD (fun _ => rfl) (fun h0 => ?_)))))⟩
  · exfalso; simp at h
  · exfalso; simp at h
  obtain ⟨l1, l2, l3, l4, l5⟩ := sums_law (Decidable.not_not.1 h0)
  rw [l1]
  dsimp only
  rw [l2, l3, l4, l5]
  dsimp only
  refine ⟨k2, ⟨k3, k2⟩, ⟨k3, k1⟩, ?_⟩
  repeat' first
    | exact rfl
    | refine ⟨k3, ?_⟩
    | refine bspD (fun h => ?_) (fun h => ?_)
    | refine bspB (fun h => ?_) (fun h => ?_)
    | fail
  all_goals first | (exfalso; omega) | (exfalso; simp_all; done) | (exfalso; simp_all; omega)
end Go.Proofs.Ytghfpidpefdndaa
