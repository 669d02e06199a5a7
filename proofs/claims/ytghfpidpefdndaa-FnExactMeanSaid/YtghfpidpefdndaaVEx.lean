/-
  Contracts: AddExact, ScaleExact, IsExact.
-/
import Derived.Test.YtghfpidpefdndaaVMul
import Derived.Test.YtghfpidpefdndaaVMul2
import Derived.Test.YtghfpidpefdndaaVCodeX
namespace Go.Proofs.Ytghfpidpefdndaa
open Go.RowKit
set_option linter.unusedSimpArgs false
set_option linter.unusedVariables false
def addX (v : DVar) (x y : DExact) : DExact × Int := if codeX v [x, y] ≠ 0 then ((0, 0), codeX v [x, y]) else if (addDI v x y).2 = true then ((addDI v x y).1, 0) else ((0, 0), 3)
def scaleX (v : DVar) (x : DExact) (k : Int) : DExact × Int :=
  if codeX v [x] ≠ 0 then ((0, 0), codeX v [x]) else if inB k (-1000) 1000 = false then ((0, 0), 2) else if (mkD v (x.1 * k) x.2.toNat).2 = true then ((mkD v (x.1 * k) x.2.toNat).1, 0) else ((0, 0), 3)
theorem bdX_one {x : DExact} (h : x.2 ≤ 9223372036854775807) : bdX [x] := fun i => by
  match i with
  | 0 => exact h
  | i + 1 => simp
theorem bdX_two {x y : DExact} (h : x.2 ≤ 9223372036854775807) (k : y.2 ≤ 9223372036854775807) : bdX [x, y] := fun i => by
  match i with
  | 0 => exact h
  | 1 => exact k
  | i + 2 => simp
theorem codeX_one {v : DVar} {x : DExact} (h : codeX v [x] = 0) : varD v = true ∧ exD v x = true := by
  have := codeX_zero h
  simpa [allX] using this
theorem codeX_two {v : DVar} {x y : DExact} (h : codeX v [x, y] = 0) : varD v = true ∧ exD v x = true ∧ exD v y = true := by
  have := codeX_zero h
  simpa [allX] using this
theorem codeX_twice (v : DVar) (x : DExact) : codeX v [x, x] = codeX v [x] := by simp [codeX, allX]
def c_spec_l09Code : Con where
  ins := [(true, .v tVar), (true, .v tRoll), (true, .v tRoll)]
  outs := [(false, .v tI)]
  sh := false
  pre := fun x => x.2.1.2 ≤ 9223372036854775807 ∧ x.2.2.1.2 ≤ 9223372036854775807
  out := fun x => (codeX x.1 [x.2.1, x.2.2.1], ())
  upd := fun x => x
theorem k_spec_l09Code : ConOk Try.prog 137 c_spec_l09Code := by
  refine fn_okW (C := cx Try.prog 20 c_spec_l09Code) (cs := [(82, c_spec_IsVariant), (83, c_spec_l09Valid)]) (res := Try.f137.results.toList) (fun _ => ⟨[], [], []⟩) Try.func137 (by kernel_rfl) rfl rfl rfl tysOk.look eqTsOk.look (AllCs.ok (l := [(82, c_spec_IsVariant), (83, c_spec_l09Valid)]) ⟨k_spec_IsVariant, k_spec_l09Valid, trivial⟩) mixed rfl rfl rfl ?_
  refine of_nf (P := ∀ v : Int × Int × Int × Int, ∀ x : Int × Int, ∀ y : Int × Int, (x.2 ≤ 9223372036854775807 ∧ y.2 ≤ 9223372036854775807) → ((lensI c_spec_l09Code.ins (v, x, y, ())) → (True ∧ (bsp (!(varD v)) (@Eq (HO c_spec_l09Code.outs) (1, ()) (c_spec_l09Code.out (v, x, y, ()))) ((varD v = true ∧ x.2 ≤ 9223372036854775807) ∧ (bsp (!(exD v x)) (@Eq (HO c_spec_l09Code.outs) (2, ()) (c_spec_l09Code.out (v, x, y, ()))) ((varD v = true ∧ y.2 ≤ 9223372036854775807) ∧ (bsp (!(exD v y)) (@Eq (HO c_spec_l09Code.outs) (2, ()) (c_spec_l09Code.out (v, x, y, ()))) (@Eq (HO c_spec_l09Code.outs) (0, ()) (c_spec_l09Code.out (v, x, y, ()))))))))))) (by kernel_rfl) ?_
  rintro v x y ⟨hx, hy⟩ hl
  have out : ∀ k : Int, codeX v [x, y] = k → @Eq (HO c_spec_l09Code.outs) (k, ()) (c_spec_l09Code.out (v, x, y, ())) := fun k h => by subst h; rfl
  refine ⟨trivial, bspB (fun h => out _ (by simp_all [codeX])) (fun h => ?_)⟩
  simp only [Bool.not_eq_false'] at h
  refine ⟨⟨h, hx⟩, bspB (fun g => out _ (by simp_all [codeX, allX])) (fun g => ⟨⟨h, hy⟩, bspB (fun g2 => out _ (by simp_all [codeX, allX])) (fun g2 => out _ (by simp_all [codeX, allX]))⟩)⟩
def c_impl_AddExact : Con where
  ins := [(true, .v tVar), (true, .v tRoll), (true, .v tRoll)]
  outs := [(true, .v tRoll), (false, .v tI)]
  sh := false
  pre := fun x => x.2.1.2 ≤ 9223372036854775807 ∧ x.2.2.1.2 ≤ 9223372036854775807
  out := fun x => ((addX x.1 x.2.1 x.2.2.1).1, (addX x.1 x.2.1 x.2.2.1).2, ())
  upd := fun x => x
theorem k_impl_AddExact : ConOk Try.prog 64 c_impl_AddExact := by
  refine fn_okW (C := cx Try.prog 31 c_impl_AddExact) (cs := [(87, c_impl_checkExacts), (139, c_impl_addExact)]) (res := Try.f64.results.toList) (fun _ => ⟨[], [], []⟩) Try.func64 (by kernel_rfl) rfl rfl rfl tysOk.look eqTsOk.look (AllCs.ok (l := [(87, c_impl_checkExacts), (139, c_impl_addExact)]) ⟨k_impl_checkExacts, k_impl_addExact, trivial⟩) mixed rfl rfl rfl ?_
  refine of_nf (P := ∀ v : Int × Int × Int × Int, ∀ x : Int × Int, ∀ y : Int × Int, (x.2 ≤ 9223372036854775807 ∧ y.2 ≤ 9223372036854775807) → ((lensI c_impl_AddExact.ins (v, x, y, ())) → ((bdX [x, y]) ∧ (bsp (decide ((codeX v [x, y]) ≠ (0 : Int))) (@Eq (HO c_impl_AddExact.outs) ((0, 0), codeX v [x, y], ()) (c_impl_AddExact.out (v, x, y, ()))) ((varD v = true ∧ exIn x ∧ exIn y) ∧ (bsp (!(addDI v x y).2) (@Eq (HO c_impl_AddExact.outs) ((0, 0), 3, ()) (c_impl_AddExact.out (v, x, y, ()))) (@Eq (HO c_impl_AddExact.outs) ((addDI v x y).1, 0, ()) (c_impl_AddExact.out (v, x, y, ()))))))))) (by kernel_rfl) ?_
  rintro v x y ⟨hx, hy⟩ hl
  have out : ∀ r : DExact × Int, addX v x y = r → @Eq (HO c_impl_AddExact.outs) (r.1, r.2, ()) (c_impl_AddExact.out (v, x, y, ())) := fun r h => by subst h; rfl

  refine ⟨bdX_two hx hy, bspD (fun h => out (_, _) (if_pos h)) (fun h => ?_)⟩

  obtain ⟨hv, ex, ey⟩ := codeX_two (Decidable.not_not.1 h)
  have hA := addX.eq_1 v x y
  rw [if_neg h] at hA
  refine ⟨⟨hv, (exD_in hv ex).1, (exD_in hv ey).1⟩, bspB (fun g => out (_, _) (hA.trans (if_neg (by simpa using g)))) (fun g => out (_, _) (hA.trans (if_pos (by simpa using g))))⟩
def c_impl_ScaleExact : Con where
  ins := [(true, .v tVar), (true, .v tRoll), (false, .v tI)]
  outs := [(true, .v tRoll), (false, .v tI)]
  sh := false
  pre := fun x => x.2.1.2 ≤ 9223372036854775807
  out := fun x => ((scaleX x.1 x.2.1 x.2.2.1).1, (scaleX x.1 x.2.1 x.2.2.1).2, ())
  upd := fun x => x
theorem k_impl_ScaleExact : ConOk Try.prog 62 c_impl_ScaleExact := by
  refine fn_okW (C := cx Try.prog 34 c_impl_ScaleExact) (cs := [(87, c_impl_checkExacts), (114, c_impl_within), (136, c_impl_scaleExact)]) (res := Try.f62.results.toList) (fun _ => ⟨[], [], []⟩) Try.func62 (by kernel_rfl) rfl rfl rfl tysOk.look eqTsOk.look (AllCs.ok (l := [(87, c_impl_checkExacts), (114, c_impl_within), (136, c_impl_scaleExact)]) ⟨k_impl_checkExacts, k_impl_within, k_impl_scaleExact, trivial⟩) mixed rfl rfl rfl ?_
  refine of_nf (P := ∀ v : Int × Int × Int × Int, ∀ x : Int × Int, ∀ k : Int, (x.2 ≤ 9223372036854775807) → ((lensI c_impl_ScaleExact.ins (v, x, k, ())) → ((bdX [x]) ∧ (bsp (decide ((codeX v [x]) ≠ (0 : Int))) (@Eq (HO c_impl_ScaleExact.outs) ((0, 0), codeX v [x], ()) (c_impl_ScaleExact.out (v, x, k, ()))) (True ∧ (bsp (!(inB k (-1000 : Int) (1000 : Int))) (@Eq (HO c_impl_ScaleExact.outs) ((0, 0), 2, ()) (c_impl_ScaleExact.out (v, x, k, ()))) (((varD v = true ∧ exD v x = true) ∧ -1000 ≤ k ∧ k ≤ 1000) ∧ (bsp (!(mkD v (x.1 * k) (Int.toNat x.2)).2) (@Eq (HO c_impl_ScaleExact.outs) ((0, 0), 3, ()) (c_impl_ScaleExact.out (v, x, k, ()))) (@Eq (HO c_impl_ScaleExact.outs) ((mkD v (x.1 * k) (Int.toNat x.2)).1, 0, ()) (c_impl_ScaleExact.out (v, x, k, ()))))))))))) (by kernel_rfl) ?_
  rintro v x k hx hl
  have out : ∀ r : DExact × Int, scaleX v x k = r → @Eq (HO c_impl_ScaleExact.outs) (r.1, r.2, ()) (c_impl_ScaleExact.out (v, x, k, ())) := fun r h => by subst h; rfl

  refine ⟨bdX_one hx, bspD (fun h => out (_, _) (if_pos h)) (fun h => ?_)⟩

  obtain ⟨hv, ex⟩ := codeX_one (Decidable.not_not.1 h)
  have hA := scaleX.eq_1 v x k
  rw [if_neg h] at hA
  refine ⟨trivial, bspB (fun g => out (_, _) (hA.trans (if_pos (by simpa using g)))) (fun g => ?_)⟩
  have g' : inB k (-1000) 1000 = true := by simpa using g
  have gk := inBx.1 g'
  rw [if_neg (by rw [g']; decide)] at hA
  refine ⟨⟨⟨hv, ex⟩, gk⟩, bspB (fun g => out (_, _) (hA.trans (if_neg (by simpa using g)))) (fun g => out (_, _) (hA.trans (if_pos (by simpa using g))))⟩
def c_impl_IsExact : Con where
  ins := [(true, .v tVar), (true, .v tRoll)]
  outs := [(false, .v .b)]
  sh := false
  pre := fun x => x.2.1.2 ≤ 9223372036854775807
  out := fun x => ((varD x.1 && exD x.1 x.2.1), ())
  upd := fun x => x
theorem k_impl_IsExact : ConOk Try.prog 68 c_impl_IsExact := by
  refine fn_okW (C := cx Try.prog 12 c_impl_IsExact) (cs := [(141, c_impl_IsVariant), (142, c_impl_isExact)]) (res := Try.f68.results.toList) (fun _ => ⟨[], [], []⟩) Try.func68 (by kernel_rfl) rfl rfl rfl tysOk.look eqTsOk.look (AllCs.ok (l := [(141, c_impl_IsVariant), (142, c_impl_isExact)]) ⟨k_impl_IsVariant, k_impl_isExact, trivial⟩) mixed rfl rfl rfl ?_
  refine of_nf (P := ∀ v : Int × Int × Int × Int, ∀ x : Int × Int, (x.2 ≤ 9223372036854775807) → ((lensI c_impl_IsExact.ins (v, x, ())) → (True ∧ (bsp (varD v) ((varD v = true ∧ x.2 ≤ 9223372036854775807) ∧ (@Eq (HO c_impl_IsExact.outs) (exD v x, ()) (c_impl_IsExact.out (v, x, ())))) (@Eq (HO c_impl_IsExact.outs) (false, ()) (c_impl_IsExact.out (v, x, ()))))))) (by kernel_rfl) ?_
  rintro v x hx hl
  refine ⟨trivial, bspB (fun h => ⟨⟨h, hx⟩, ?_⟩) (fun h => ?_)⟩ <;> simp_all [c_impl_IsExact]
def c_spec_AddExact : Con where
  ins := [(true, .v tVar), (true, .v tRoll), (true, .v tRoll)]
  outs := [(true, .v tRoll), (false, .v tI)]
  sh := false
  pre := fun x => x.2.1.2 ≤ 9223372036854775807 ∧ x.2.2.1.2 ≤ 9223372036854775807
  out := fun x => ((addX x.1 x.2.1 x.2.2.1).1, (addX x.1 x.2.1 x.2.2.1).2, ())
  upd := fun x => x
theorem k_spec_AddExact : ConOk Try.prog 67 c_spec_AddExact := by
  refine fn_okW (C := cx Try.prog 30 c_spec_AddExact) (cs := [(137, c_spec_l09Code), (140, c_spec_l09Add)]) (res := Try.f67.results.toList) (fun _ => ⟨[], [], []⟩) Try.func67 (by kernel_rfl) rfl rfl rfl tysOk.look eqTsOk.look (AllCs.ok (l := [(137, c_spec_l09Code), (140, c_spec_l09Add)]) ⟨k_spec_l09Code, k_spec_l09Add, trivial⟩) mixed rfl rfl rfl ?_
  refine of_nf (P := ∀ v : Int × Int × Int × Int, ∀ x : Int × Int, ∀ y : Int × Int, (x.2 ≤ 9223372036854775807 ∧ y.2 ≤ 9223372036854775807) → ((lensI c_spec_AddExact.ins (v, x, y, ())) → ((x.2 ≤ 9223372036854775807 ∧ y.2 ≤ 9223372036854775807) ∧ (bsp (decide ((codeX v [x, y]) ≠ (0 : Int))) (@Eq (HO c_spec_AddExact.outs) ((0, 0), codeX v [x, y], ()) (c_spec_AddExact.out (v, x, y, ()))) ((varD v = true ∧ exD v x = true ∧ exD v y = true) ∧ (bsp (!(addDI v x y).2) (@Eq (HO c_spec_AddExact.outs) ((0, 0), 3, ()) (c_spec_AddExact.out (v, x, y, ()))) (@Eq (HO c_spec_AddExact.outs) ((addDI v x y).1, 0, ()) (c_spec_AddExact.out (v, x, y, ()))))))))) (by kernel_rfl) ?_
  rintro v x y ⟨hx, hy⟩ hl
  have out : ∀ r : DExact × Int, addX v x y = r → @Eq (HO c_spec_AddExact.outs) (r.1, r.2, ()) (c_spec_AddExact.out (v, x, y, ())) := fun r h => by subst h; rfl

  refine ⟨⟨hx, hy⟩, bspD (fun h => out (_, _) (if_pos h)) (fun h => ?_)⟩

  obtain ⟨hv, ex, ey⟩ := codeX_two (Decidable.not_not.1 h)
  have hA := addX.eq_1 v x y
  rw [if_neg h] at hA
  refine ⟨⟨hv, ex, ey⟩, bspB (fun g => out (_, _) (hA.trans (if_neg (by simpa using g)))) (fun g => out (_, _) (hA.trans (if_pos (by simpa using g))))⟩
def c_spec_ScaleExact : Con where
  ins := [(true, .v tVar), (true, .v tRoll), (false, .v tI)]
  outs := [(true, .v tRoll), (false, .v tI)]
  sh := false
  pre := fun x => x.2.1.2 ≤ 9223372036854775807
  out := fun x => ((scaleX x.1 x.2.1 x.2.2.1).1, (scaleX x.1 x.2.1 x.2.2.1).2, ())
  upd := fun x => x
theorem k_spec_ScaleExact : ConOk Try.prog 63 c_spec_ScaleExact := by
  refine fn_okW (C := cx Try.prog 34 c_spec_ScaleExact) (cs := [(137, c_spec_l09Code), (109, c_spec_l01In), (138, c_spec_l09Mul)]) (res := Try.f63.results.toList) (fun _ => ⟨[], [], []⟩) Try.func63 (by kernel_rfl) rfl rfl rfl tysOk.look eqTsOk.look (AllCs.ok (l := [(137, c_spec_l09Code), (109, c_spec_l01In), (138, c_spec_l09Mul)]) ⟨k_spec_l09Code, k_spec_l01In, k_spec_l09Mul, trivial⟩) mixed rfl rfl rfl ?_
  refine of_nf (P := ∀ v : Int × Int × Int × Int, ∀ x : Int × Int, ∀ k : Int, (x.2 ≤ 9223372036854775807) → ((lensI c_spec_ScaleExact.ins (v, x, k, ())) → ((x.2 ≤ 9223372036854775807 ∧ x.2 ≤ 9223372036854775807) ∧ (bsp (decide ((codeX v [x, x]) ≠ (0 : Int))) (@Eq (HO c_spec_ScaleExact.outs) ((0, 0), codeX v [x, x], ()) (c_spec_ScaleExact.out (v, x, k, ()))) (True ∧ (bsp (!(inB k (-1000 : Int) (1000 : Int))) (@Eq (HO c_spec_ScaleExact.outs) ((0, 0), 2, ()) (c_spec_ScaleExact.out (v, x, k, ()))) (((varD v = true ∧ exD v x = true) ∧ -1000 ≤ k ∧ k ≤ 1000) ∧ (bsp (!(mkD v (x.1 * k) (Int.toNat x.2)).2) (@Eq (HO c_spec_ScaleExact.outs) ((0, 0), 3, ()) (c_spec_ScaleExact.out (v, x, k, ()))) (@Eq (HO c_spec_ScaleExact.outs) ((mkD v (x.1 * k) (Int.toNat x.2)).1, 0, ()) (c_spec_ScaleExact.out (v, x, k, ()))))))))))) (by kernel_rfl) ?_
  rintro v x k hx hl
  have out : ∀ r : DExact × Int, scaleX v x k = r → @Eq (HO c_spec_ScaleExact.outs) (r.1, r.2, ()) (c_spec_ScaleExact.out (v, x, k, ())) := fun r h => by subst h; rfl

  rw [codeX_twice]
  refine ⟨⟨hx, hx⟩, bspD (fun h => out (_, _) (if_pos h)) (fun h => ?_)⟩

  obtain ⟨hv, ex⟩ := codeX_one (Decidable.not_not.1 h)
  have hA := scaleX.eq_1 v x k
  rw [if_neg h] at hA
  refine ⟨trivial, bspB (fun g => out (_, _) (hA.trans (if_pos (by simpa using g)))) (fun g => ?_)⟩
  have g' : inB k (-1000) 1000 = true := by simpa using g
  have gk := inBx.1 g'
  rw [if_neg (by rw [g']; decide)] at hA
  refine ⟨⟨⟨hv, ex⟩, gk⟩, bspB (fun g => out (_, _) (hA.trans (if_neg (by simpa using g)))) (fun g => out (_, _) (hA.trans (if_pos (by simpa using g))))⟩
def c_spec_IsExact : Con where
  ins := [(true, .v tVar), (true, .v tRoll)]
  outs := [(false, .v .b)]
  sh := false
  pre := fun x => x.2.1.2 ≤ 9223372036854775807
  out := fun x => ((varD x.1 && exD x.1 x.2.1), ())
  upd := fun x => x
theorem k_spec_IsExact : ConOk Try.prog 65 c_spec_IsExact := by
  refine fn_okW (C := cx Try.prog 12 c_spec_IsExact) (cs := [(82, c_spec_IsVariant), (83, c_spec_l09Valid)]) (res := Try.f65.results.toList) (fun _ => ⟨[], [], []⟩) Try.func65 (by kernel_rfl) rfl rfl rfl tysOk.look eqTsOk.look (AllCs.ok (l := [(82, c_spec_IsVariant), (83, c_spec_l09Valid)]) ⟨k_spec_IsVariant, k_spec_l09Valid, trivial⟩) mixed rfl rfl rfl ?_
  refine of_nf (P := ∀ v : Int × Int × Int × Int, ∀ x : Int × Int, (x.2 ≤ 9223372036854775807) → ((lensI c_spec_IsExact.ins (v, x, ())) → (True ∧ (bsp (varD v) ((varD v = true ∧ x.2 ≤ 9223372036854775807) ∧ (@Eq (HO c_spec_IsExact.outs) (exD v x, ()) (c_spec_IsExact.out (v, x, ())))) (@Eq (HO c_spec_IsExact.outs) (false, ()) (c_spec_IsExact.out (v, x, ()))))))) (by kernel_rfl) ?_
  rintro v x hx hl
  refine ⟨trivial, bspB (fun h => ⟨⟨h, hx⟩, ?_⟩) (fun h => ?_)⟩ <;> simp_all [c_spec_IsExact]
end Go.Proofs.Ytghfpidpefdndaa
