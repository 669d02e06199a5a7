/-
  Contracts: texts of exact numbers.
-/
import Derived.Test.YtokddngcfkimlaaDoorVExact
import Derived.Test.YtokddngcfkimlaaDoorVDec
import Derived.Test.YtokddngcfkimlaaDoorAbL
namespace Go.Proofs.YtokddngcfkimlaaDoor
open Go.RowKit
set_option linter.unusedSimpArgs false
set_option linter.unusedVariables false
structure D63 (d : Int) : Prop where
  le : d ≤ 9223372036854775807
def exS (v : DVar) (x : DExact) : ByteArray :=
  if (varD v && exD v x) = true then (if x.2 = 0 then decS x.1 else decS x.1 ++ slB ++ decS (sclV (bsD v) x.2 : Int)) else nilB
theorem sclV_le {v : DVar} (hv : varD v = true) (d : Int) : sclV (bsD v) d ≤ 1000000000000000 := by
  obtain ⟨-, b1, b2, s1, s2⟩ := bsD_facts hv
  cases h : sclB (bsD v) d with
  | true => exact (scl_bd b1 h).2
  | false => simp [sclV, h]
theorem exD_in {v : DVar} {x : DExact} (h : exD v x = true) : inK .i64 x.1 ∧ 0 ≤ x.2 := by
  simp only [exD, inB, Bool.and_eq_true, decide_eq_true_eq] at h
  simp only [inK]; omega
def c_impl_IsExact : Con where
  ins := [(true, .v tVar), (true, .v tRoll)]
  outs := [(false, .v .b)]
  sh := false
  pre := fun x => x.2.1.2 ≤ 9223372036854775807
  out := fun x => ((varD x.1 && exD x.1 x.2.1), ())
  upd := fun x => x
theorem k_impl_IsExact [B : Base] : ConOk Tryd.prog 8 c_impl_IsExact := by
  refine fn_okW (C := cx Tryd.prog 12 c_impl_IsExact) (cs := [(19, c_impl_IsVariant), (20, c_impl_isExact)]) (res := Tryd.f8.results.toList) (fun _ => ⟨[], [], []⟩) Tryd.func8 (by kernel_rfl) rfl rfl rfl tysOk.look eqTsOk.look (AllCs.ok (l := [(19, c_impl_IsVariant), (20, c_impl_isExact)]) ⟨k_impl_IsVariant, k_impl_isExact, trivial⟩) mixed rfl rfl rfl ?_
  refine of_nf (P := ∀ v : Int × Int × Int × Int, ∀ x : Int × Int, (x.2 ≤ 9223372036854775807) → ((lensI c_impl_IsExact.ins (v, x, ())) → (True ∧ (bsp (varD v) ((varD v = true ∧ x.2 ≤ 9223372036854775807) ∧ (@Eq (HO c_impl_IsExact.outs) (exD v x, ()) (c_impl_IsExact.out (v, x, ())))) (@Eq (HO c_impl_IsExact.outs) (false, ()) (c_impl_IsExact.out (v, x, ()))))))) (by kernel_rfl) ?_
  rintro v x hx hl
  refine ⟨trivial, bspB (fun h => ⟨⟨h, hx⟩, ?_⟩) (fun h => ?_)⟩ <;> simp_all [c_impl_IsExact]
def c_spec_IsExact : Con where
  ins := [(true, .v tVar), (true, .v tRoll)]
  outs := [(false, .v .b)]
  sh := false
  pre := fun x => x.2.1.2 ≤ 9223372036854775807
  out := fun x => ((varD x.1 && exD x.1 x.2.1), ())
  upd := fun x => x
theorem k_spec_IsExact [B : Base] : ConOk Tryd.prog 7 c_spec_IsExact := by
  refine fn_okW (C := cx Tryd.prog 12 c_spec_IsExact) (cs := [(17, c_spec_IsVariant), (18, c_spec_l09Valid)]) (res := Tryd.f7.results.toList) (fun _ => ⟨[], [], []⟩) Tryd.func7 (by kernel_rfl) rfl rfl rfl tysOk.look eqTsOk.look (AllCs.ok (l := [(17, c_spec_IsVariant), (18, c_spec_l09Valid)]) ⟨k_spec_IsVariant, k_spec_l09Valid, trivial⟩) mixed rfl rfl rfl ?_
  refine of_nf (P := ∀ v : Int × Int × Int × Int, ∀ x : Int × Int, (x.2 ≤ 9223372036854775807) → ((lensI c_spec_IsExact.ins (v, x, ())) → (True ∧ (bsp (varD v) ((varD v = true ∧ x.2 ≤ 9223372036854775807) ∧ (@Eq (HO c_spec_IsExact.outs) (exD v x, ()) (c_spec_IsExact.out (v, x, ())))) (@Eq (HO c_spec_IsExact.outs) (false, ()) (c_spec_IsExact.out (v, x, ()))))))) (by kernel_rfl) ?_
  rintro v x hx hl
  refine ⟨trivial, bspB (fun h => ⟨⟨h, hx⟩, ?_⟩) (fun h => ?_)⟩ <;> simp_all [c_spec_IsExact]
def c_impl_ExactText : Con where
  ins := [(true, .v tVar), (true, .v tRoll)]
  outs := [(false, .v .s)]
  sh := false
  pre := fun x => D63 x.2.1.2
  out := fun x => (exS x.1 x.2.1, ())
  upd := fun x => x
theorem k_impl_ExactText [B : Base] : ConOk Tryd.prog 6 c_impl_ExactText := by
  refine fn_okW (C := cx Tryd.prog 31 c_impl_ExactText) (cs := [(8, c_impl_IsExact), (15, c_impl_decimal), (16, c_impl_scaleOf)]) (res := Tryd.f6.results.toList) (fun _ => ⟨[], [], []⟩) Tryd.func6 (by kernel_rfl) rfl rfl rfl tysOk.look eqTsOk.look (AllCs.ok (l := [(8, c_impl_IsExact), (15, c_impl_decimal), (16, c_impl_scaleOf)]) ⟨k_impl_IsExact, k_impl_decimal, k_impl_scaleOf, trivial⟩) mixed rfl rfl rfl ?_
  refine of_nf (P := ∀ v : Int × Int × Int × Int, ∀ x : Int × Int, (D63 x.2) → ((lensI c_impl_ExactText.ins (v, x, ())) → ((x.2 ≤ 9223372036854775807) ∧ (bsp (!(varD v && exD v x)) (@Eq (HO c_impl_ExactText.outs) ((ByteArray.mk #[]), ()) (c_impl_ExactText.out (v, x, ()))) (bsp (decide (x.2 = (0 : Int))) ((inK .i64 x.1) ∧ (@Eq (HO c_impl_ExactText.outs) (decS x.1, ()) (c_impl_ExactText.out (v, x, ())))) ((varD v = true ∧ x.2 ≤ 9223372036854775807) ∧ ((inK .i64 x.1) ∧ ((ByteArray.size (decS x.1) + ByteArray.size (ByteArray.mk #[47]) ≤ 9223372036854775807) ∧ ((inK .i64 (sclV (bsD v) x.2 : Int)) ∧ ((ByteArray.size (decS x.1 ++ (ByteArray.mk #[47])) + ByteArray.size (decS (sclV (bsD v) x.2 : Int)) ≤ 9223372036854775807) ∧ (@Eq (HO c_impl_ExactText.outs) (((decS x.1 ++ (ByteArray.mk #[47])) ++ decS (sclV (bsD v) x.2 : Int)), ()) (c_impl_ExactText.out (v, x, ()))))))))))))) (by kernel_rfl) ?_
  rintro v x ⟨hx⟩ hl
  have hD := exS.eq_1 v x
  have out : ∀ r, exS v x = r → @Eq (HO c_impl_ExactText.outs) (r, ()) (c_impl_ExactText.out (v, x, ())) := fun r h => by subst h; rfl
  refine ⟨hx, bspB (fun h => out _ (hD.trans (if_neg (by revert h; cases varD v && exD v x <;> simp)))) (fun h => ?_)⟩
  have h' : (varD v && exD v x) = true := by revert h; cases varD v && exD v x <;> simp
  rw [if_pos h'] at hD
  rw [Bool.and_eq_true] at h'
  obtain ⟨hi, h0⟩ := exD_in h'.2
  refine bspD (fun h => ⟨hi, out _ (hD.trans (if_pos h))⟩) (fun h => ?_)
  have hs := sclV_le h'.1 x.2
  have hin : inK .i64 (sclV (bsD v) x.2 : Int) := by simp only [inK]; omega
  have a := decS_size hi
  have b := decS_size hin
  have k1 : (ByteArray.mk #[47]).size = 1 := rfl
  exact ⟨⟨h'.1, hx⟩, hi, by omega, hin, by rw [app_size]; omega, out _ (hD.trans (if_neg h))⟩
def c_spec_ExactText : Con where
  ins := [(true, .v tVar), (true, .v tRoll)]
  outs := [(false, .v .s)]
  sh := false
  pre := fun x => D63 x.2.1.2
  out := fun x => (exS x.1 x.2.1, ())
  upd := fun x => x
theorem k_spec_ExactText [B : Base] : ConOk Tryd.prog 13 c_spec_ExactText := by
  refine fn_okW (C := cx Tryd.prog 31 c_spec_ExactText) (cs := [(7, c_spec_IsExact), (33, c_spec_l09Decimal), (31, c_spec_l09Scale)]) (res := Tryd.f13.results.toList) (fun _ => ⟨[], [], []⟩) Tryd.func13 (by kernel_rfl) rfl rfl rfl tysOk.look eqTsOk.look (AllCs.ok (l := [(7, c_spec_IsExact), (33, c_spec_l09Decimal), (31, c_spec_l09Scale)]) ⟨k_spec_IsExact, k_spec_l09Decimal, k_spec_l09Scale, trivial⟩) mixed rfl rfl rfl ?_
  refine of_nf (P := ∀ v : Int × Int × Int × Int, ∀ x : Int × Int, (D63 x.2) → ((lensI c_spec_ExactText.ins (v, x, ())) → ((x.2 ≤ 9223372036854775807) ∧ (bsp (!(varD v && exD v x)) (@Eq (HO c_spec_ExactText.outs) ((ByteArray.mk #[]), ()) (c_spec_ExactText.out (v, x, ()))) (bsp (decide (x.2 = (0 : Int))) ((inK .i64 x.1) ∧ (@Eq (HO c_spec_ExactText.outs) (decS x.1, ()) (c_spec_ExactText.out (v, x, ())))) ((varD v = true ∧ x.2 ≤ 9223372036854775807) ∧ ((inK .i64 x.1) ∧ ((ByteArray.size (decS x.1) + ByteArray.size (ByteArray.mk #[47]) ≤ 9223372036854775807) ∧ ((inK .i64 (sclV (bsD v) x.2 : Int)) ∧ ((ByteArray.size (decS x.1 ++ (ByteArray.mk #[47])) + ByteArray.size (decS (sclV (bsD v) x.2 : Int)) ≤ 9223372036854775807) ∧ (@Eq (HO c_spec_ExactText.outs) (((decS x.1 ++ (ByteArray.mk #[47])) ++ decS (sclV (bsD v) x.2 : Int)), ()) (c_spec_ExactText.out (v, x, ()))))))))))))) (by kernel_rfl) ?_
  rintro v x ⟨hx⟩ hl
  have hD := exS.eq_1 v x
  have out : ∀ r, exS v x = r → @Eq (HO c_spec_ExactText.outs) (r, ()) (c_spec_ExactText.out (v, x, ())) := fun r h => by subst h; rfl
  refine ⟨hx, bspB (fun h => out _ (hD.trans (if_neg (by revert h; cases varD v && exD v x <;> simp)))) (fun h => ?_)⟩
  have h' : (varD v && exD v x) = true := by revert h; cases varD v && exD v x <;> simp
  rw [if_pos h'] at hD
  rw [Bool.and_eq_true] at h'
  obtain ⟨hi, h0⟩ := exD_in h'.2
  refine bspD (fun h => ⟨hi, out _ (hD.trans (if_pos h))⟩) (fun h => ?_)
  have hs := sclV_le h'.1 x.2
  have hin : inK .i64 (sclV (bsD v) x.2 : Int) := by simp only [inK]; omega
  have a := decS_size hi
  have b := decS_size hin
  have k1 : (ByteArray.mk #[47]).size = 1 := rfl
  exact ⟨⟨h'.1, hx⟩, hi, by omega, hin, by rw [app_size]; omega, out _ (hD.trans (if_neg h))⟩
end Go.Proofs.YtokddngcfkimlaaDoor
