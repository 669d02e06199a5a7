/-
  Contracts: texts of steps and turns.
-/
import Derived.Test.YtmklkigppmgigaaGreatDoorVRollT
import Derived.Test.YtmklkigppmgigaaGreatDoorVJoin
namespace Go.Proofs.YtmklkigppmgigaaGreatDoor
open Go.RowKit
set_option linter.unusedSimpArgs false
set_option linter.unusedVariables false
def plainD (v : DVar) (s : DStep) : Bool :=
  inB s.1 0 v.1 && inB s.2.2.1 1 v.2.2.2 && (if s.2.1 = -1 then !s.2.2.2 && decide (s.1 < v.1) && decide (s.1 < s.2.2.1) else decide (0 ≤ s.2.1) && decide (s.2.1 = s.1 - s.2.2.1))
theorem plainD_in {v : DVar} {s : DStep} (hv : varD v = true) (h : plainD v s = true) : (0 ≤ s.1 ∧ s.1 ≤ 24) ∧ (1 ≤ s.2.2.1 ∧ s.2.2.1 ≤ 6) ∧ (-1 ≤ s.2.1 ∧ s.2.1 ≤ 24) ∧ s.1 ≤ v.1 ∧ (s.2.1 = -1 → s.2.2.2 = false) := by
  obtain ⟨⟨g1, g1'⟩, -, -, g4⟩ := varD_iff.1 hv
  simp only [plainD, Bool.and_eq_true, inB, decide_eq_true_eq] at h
  obtain ⟨⟨h1, h2⟩, h3⟩ := h
  split at h3
  · next e =>
    simp only [Bool.and_eq_true, Bool.not_eq_true', decide_eq_true_eq] at h3
    exact ⟨by omega, by omega, by omega, by omega, fun _ => h3.1.1⟩
  · next e =>
    simp only [Bool.and_eq_true, decide_eq_true_eq] at h3
    exact ⟨by omega, by omega, by omega, by omega, fun h => absurd h e⟩
def barB : ByteArray := ByteArray.mk #[98, 97, 114]
def offB : ByteArray := ByteArray.mk #[111, 102, 102]
def starB : ByteArray := ByteArray.mk #[42]
def opB : ByteArray := ByteArray.mk #[40]
def clB : ByteArray := ByteArray.mk #[41]
def spB : ByteArray := ByteArray.mk #[32]
def minB : ByteArray := ByteArray.mk #[45]
def colB : ByteArray := ByteArray.mk #[58, 32]
def fromT (v : DVar) (s : DStep) : ByteArray := if s.1 < v.1 then decS (s.1 + 1) else barB
def stepS (v : DVar) (s : DStep) : ByteArray :=
  if 0 ≤ s.2.1 then fromT v s ++ slB ++ decS (s.2.1 + 1) ++ (if s.2.2.2 = true then starB else nilB)
  else fromT v s ++ slB ++ offB ++ (if s.2.2.1 = s.1 + 1 then nilB else opB ++ decS s.2.2.1 ++ clB)
theorem fromT_size {v : DVar} {s : DStep} (h : 0 ≤ s.1 ∧ s.1 ≤ 24) : (fromT v s).size ≤ 21 := by
  unfold fromT
  split
  · exact decS_size (by simp only [inK]; omega)
  · decide
theorem stepS_size {v : DVar} {s : DStep} (hv : varD v = true) (h : plainD v s = true) : (stepS v s).size ≤ 100 := by
  obtain ⟨h1, h2, h3, -⟩ := plainD_in hv h
  have a := fromT_size (v := v) h1
  have b := decS_size (n := s.2.1 + 1) (by simp only [inK]; omega)
  have c := decS_size (n := s.2.2.1) (by simp only [inK]; omega)
  have k1 : slB.size = 1 := rfl
  have k2 : offB.size = 3 := rfl
  have k3 : starB.size = 1 := rfl
  have k4 : opB.size = 1 := rfl
  have k5 : clB.size = 1 := rfl
  have k6 : nilB.size = 0 := rfl
  unfold stepS
  split <;> split <;> simp only [app_size] <;> omega
theorem slOff : (ByteArray.mk #[47, 111, 102, 102]) = slB ++ offB := rfl
theorem barSl : (ByteArray.mk #[98, 97, 114, 47]) = barB ++ slB := rfl
def c_impl_plainStep : Con where
  ins := [(true, .v tVar), (true, .v tStep)]
  outs := [(false, .v .b)]
  sh := false
  pre := fun x => varD x.1 = true
  out := fun x => (plainD x.1 x.2.1, ())
  upd := fun x => x
theorem k_impl_plainStep [B : Base] : ConOk Tryz.prog 27 c_impl_plainStep := by
  refine fn_okW (C := cx Tryz.prog 52 c_impl_plainStep) (cs := [(35, c_impl_within)]) (res := Tryz.f27.results.toList) (fun _ => ⟨[], [], []⟩) Tryz.func27 (by kernel_rfl) rfl rfl rfl tysOk.look eqTsOk.look (AllCs.ok (l := [(35, c_impl_within)]) ⟨k_impl_within, trivial⟩) mixed rfl rfl rfl ?_
  refine of_nf (P := ∀ v : Int × Int × Int × Int, ∀ s : Int × Int × Int × Bool, (varD v = true) → ((lensI c_impl_plainStep.ins (v, s, ())) → (True ∧ (bsp (!(inB s.1 (0 : Int) v.1)) (@Eq (HO c_impl_plainStep.outs) (false, ()) (c_impl_plainStep.out (v, s, ()))) (True ∧ (bsp (!(inB s.2.2.1 (1 : Int) v.2.2.2)) (@Eq (HO c_impl_plainStep.outs) (false, ()) (c_impl_plainStep.out (v, s, ()))) (bsp (decide (s.2.1 = (-1 : Int))) (bsp (!s.2.2.2) (bsp (decide (s.1 < v.1)) (@Eq (HO c_impl_plainStep.outs) ((decide (s.1 < s.2.2.1)), ()) (c_impl_plainStep.out (v, s, ()))) (@Eq (HO c_impl_plainStep.outs) (false, ()) (c_impl_plainStep.out (v, s, ())))) (@Eq (HO c_impl_plainStep.outs) (false, ()) (c_impl_plainStep.out (v, s, ())))) (bsp (decide ((0 : Int) ≤ s.2.1)) ((inK .i64 (s.1 - s.2.2.1)) ∧ (@Eq (HO c_impl_plainStep.outs) ((decide (s.2.1 = (s.1 - s.2.2.1))), ()) (c_impl_plainStep.out (v, s, ())))) (@Eq (HO c_impl_plainStep.outs) (false, ()) (c_impl_plainStep.out (v, s, ()))))))))))) (by kernel_rfl) ?_
  rintro v s hv hl
  have hr := (varD_iff.1 hv)
  have out : ∀ r, plainD v s = r → @Eq (HO c_impl_plainStep.outs) (r, ()) (c_impl_plainStep.out (v, s, ())) := fun r h => by subst h; rfl
  have key : ∀ r : Bool, inB s.1 0 v.1 = true → inB s.2.2.1 1 v.2.2.2 = true → (if s.2.1 = -1 then !s.2.2.2 && decide (s.1 < v.1) && decide (s.1 < s.2.2.1) else decide (0 ≤ s.2.1) && decide (s.2.1 = s.1 - s.2.2.1)) = r → @Eq (HO c_impl_plainStep.outs) (r, ()) (c_impl_plainStep.out (v, s, ())) := fun r h1 h2 h3 => out r (by simp only [plainD, h1, h2, Bool.true_and, h3])
  refine ⟨trivial, bspB (fun h => out _ (by simp_all [plainD])) (fun h => ⟨trivial, bspB (fun h2 => out _ (by simp_all [plainD])) (fun h2 => ?_)⟩)⟩
  have i1 : inB s.1 0 v.1 = true := by simpa using h
  have i2 : inB s.2.2.1 1 v.2.2.2 = true := by simpa using h2
  have j1 := i1
  have j2 := i2
  simp only [inB, Bool.and_eq_true, decide_eq_true_eq] at j1 j2
  refine bspD (fun e => ?_) (fun e => ?_)
  · refine bspB (fun b => bspD (fun c => key _ i1 i2 ?_) (fun c => key _ i1 i2 ?_)) (fun b => key _ i1 i2 ?_)
    all_goals (rw [if_pos e]; clear out key; simp_all <;> (intros; omega))
  · refine bspD (fun b => ⟨by simp only [inK]; omega, key _ i1 i2 ?_⟩) (fun b => key _ i1 i2 ?_)
    all_goals (rw [if_neg e]; clear out key; simp_all <;> (intros; omega))
def c_spec_l06Plain : Con where
  ins := [(true, .v tVar), (true, .v tStep)]
  outs := [(false, .v .b)]
  sh := false
  pre := fun x => varD x.1 = true
  out := fun x => (plainD x.1 x.2.1, ())
  upd := fun x => x
theorem k_spec_l06Plain [B : Base] : ConOk Tryz.prog 40 c_spec_l06Plain := by
  refine fn_okW (C := cx Tryz.prog 52 c_spec_l06Plain) (cs := [(55, c_spec_l01In)]) (res := Tryz.f40.results.toList) (fun _ => ⟨[], [], []⟩) Tryz.func40 (by kernel_rfl) rfl rfl rfl tysOk.look eqTsOk.look (AllCs.ok (l := [(55, c_spec_l01In)]) ⟨k_spec_l01In, trivial⟩) mixed rfl rfl rfl ?_
  refine of_nf (P := ∀ v : Int × Int × Int × Int, ∀ s : Int × Int × Int × Bool, (varD v = true) → ((lensI c_spec_l06Plain.ins (v, s, ())) → (True ∧ (bsp (!(inB s.1 (0 : Int) v.1)) (@Eq (HO c_spec_l06Plain.outs) (false, ()) (c_spec_l06Plain.out (v, s, ()))) (True ∧ (bsp (!(inB s.2.2.1 (1 : Int) v.2.2.2)) (@Eq (HO c_spec_l06Plain.outs) (false, ()) (c_spec_l06Plain.out (v, s, ()))) (bsp (decide (s.2.1 = (-1 : Int))) (bsp (!s.2.2.2) (bsp (decide (s.1 < v.1)) (@Eq (HO c_spec_l06Plain.outs) ((decide (s.1 < s.2.2.1)), ()) (c_spec_l06Plain.out (v, s, ()))) (@Eq (HO c_spec_l06Plain.outs) (false, ()) (c_spec_l06Plain.out (v, s, ())))) (@Eq (HO c_spec_l06Plain.outs) (false, ()) (c_spec_l06Plain.out (v, s, ())))) ((inK .i64 (s.1 - s.2.2.1)) ∧ (bsp (decide (s.2.1 = (s.1 - s.2.2.1))) (@Eq (HO c_spec_l06Plain.outs) ((decide ((0 : Int) ≤ s.2.1)), ()) (c_spec_l06Plain.out (v, s, ()))) (@Eq (HO c_spec_l06Plain.outs) (false, ()) (c_spec_l06Plain.out (v, s, ())))))))))))) (by kernel_rfl) ?_
  rintro v s hv hl
  have hr := (varD_iff.1 hv)
  have out : ∀ r, plainD v s = r → @Eq (HO c_spec_l06Plain.outs) (r, ()) (c_spec_l06Plain.out (v, s, ())) := fun r h => by subst h; rfl
  have key : ∀ r : Bool, inB s.1 0 v.1 = true → inB s.2.2.1 1 v.2.2.2 = true → (if s.2.1 = -1 then !s.2.2.2 && decide (s.1 < v.1) && decide (s.1 < s.2.2.1) else decide (0 ≤ s.2.1) && decide (s.2.1 = s.1 - s.2.2.1)) = r → @Eq (HO c_spec_l06Plain.outs) (r, ()) (c_spec_l06Plain.out (v, s, ())) := fun r h1 h2 h3 => out r (by simp only [plainD, h1, h2, Bool.true_and, h3])
  refine ⟨trivial, bspB (fun h => out _ (by simp_all [plainD])) (fun h => ⟨trivial, bspB (fun h2 => out _ (by simp_all [plainD])) (fun h2 => ?_)⟩)⟩
  have i1 : inB s.1 0 v.1 = true := by simpa using h
  have i2 : inB s.2.2.1 1 v.2.2.2 = true := by simpa using h2
  have j1 := i1
  have j2 := i2
  simp only [inB, Bool.and_eq_true, decide_eq_true_eq] at j1 j2
  refine bspD (fun e => ?_) (fun e => ?_)
  · refine bspB (fun b => bspD (fun c => key _ i1 i2 ?_) (fun c => key _ i1 i2 ?_)) (fun b => key _ i1 i2 ?_)
    all_goals (rw [if_pos e]; clear out key; simp_all <;> (intros; omega))
  · refine ⟨by simp only [inK]; omega, bspD (fun b => key _ i1 i2 ?_) (fun b => key _ i1 i2 ?_)⟩
    all_goals (rw [if_neg e]; clear out key; simp_all <;> (intros; omega))
def c_impl_stepText : Con where
  ins := [(true, .v tVar), (true, .v tStep)]
  outs := [(false, .v .s)]
  sh := false
  pre := fun x => varD x.1 = true ∧ plainD x.1 x.2.1 = true
  out := fun x => (stepS x.1 x.2.1, ())
  upd := fun x => x
theorem k_impl_stepText [B : Base] : ConOk Tryz.prog 28 c_impl_stepText := by
  refine fn_okW (C := cx Tryz.prog 51 c_impl_stepText) (cs := [(36, c_impl_decimal)]) (res := Tryz.f28.results.toList) (fun _ => ⟨[], [], []⟩) Tryz.func28 (by kernel_rfl) rfl rfl rfl tysOk.look eqTsOk.look (AllCs.ok (l := [(36, c_impl_decimal)]) ⟨k_impl_decimal, trivial⟩) mixed rfl rfl rfl ?_
  refine of_nf (P := ∀ v : Int × Int × Int × Int, ∀ s : Int × Int × Int × Bool, (varD v = true ∧ plainD v s = true) → ((lensI c_impl_stepText.ins (v, s, ())) → (bsp (decide (s.1 < v.1)) ((inK .i64 (s.1 + 1)) ∧ ((inK .i64 (s.1 + 1)) ∧ ((ByteArray.size (decS (s.1 + 1)) + ByteArray.size (ByteArray.mk #[47, 111, 102, 102]) ≤ 9223372036854775807) ∧ (bsp (decide ((0 : Int) ≤ s.2.1)) ((ByteArray.size (decS (s.1 + 1)) + ByteArray.size (ByteArray.mk #[47]) ≤ 9223372036854775807) ∧ ((inK .i64 (s.2.1 + 1)) ∧ ((inK .i64 (s.2.1 + 1)) ∧ ((ByteArray.size (decS (s.1 + 1) ++ (ByteArray.mk #[47])) + ByteArray.size (decS (s.2.1 + 1)) ≤ 9223372036854775807) ∧ (bsp s.2.2.2 ((ByteArray.size ((decS (s.1 + 1) ++ (ByteArray.mk #[47])) ++ decS (s.2.1 + 1)) + ByteArray.size (ByteArray.mk #[42]) ≤ 9223372036854775807) ∧ (bsp (decide (s.2.1 = (-1 : Int))) ((inK .i64 (s.1 + 1)) ∧ (bsp (decide (s.2.2.1 ≠ (s.1 + 1))) ((inK .i64 s.2.2.1) ∧ ((ByteArray.size (ByteArray.mk #[40]) + ByteArray.size (decS s.2.2.1) ≤ 9223372036854775807) ∧ ((ByteArray.size ((ByteArray.mk #[40]) ++ decS s.2.2.1) + ByteArray.size (ByteArray.mk #[41]) ≤ 9223372036854775807) ∧ ((ByteArray.size (((decS (s.1 + 1) ++ (ByteArray.mk #[47])) ++ decS (s.2.1 + 1)) ++ (ByteArray.mk #[42])) + ByteArray.size (((ByteArray.mk #[40]) ++ decS s.2.2.1) ++ (ByteArray.mk #[41])) ≤ 9223372036854775807) ∧ (@Eq (HO c_impl_stepText.outs) (((((decS (s.1 + 1) ++ (ByteArray.mk #[47])) ++ decS (s.2.1 + 1)) ++ (ByteArray.mk #[42])) ++ (((ByteArray.mk #[40]) ++ decS s.2.2.1) ++ (ByteArray.mk #[41]))), ()) (c_impl_stepText.out (v, s, ()))))))) (@Eq (HO c_impl_stepText.outs) ((((decS (s.1 + 1) ++ (ByteArray.mk #[47])) ++ decS (s.2.1 + 1)) ++ (ByteArray.mk #[42])), ()) (c_impl_stepText.out (v, s, ()))))) (@Eq (HO c_impl_stepText.outs) ((((decS (s.1 + 1) ++ (ByteArray.mk #[47])) ++ decS (s.2.1 + 1)) ++ (ByteArray.mk #[42])), ()) (c_impl_stepText.out (v, s, ()))))) (bsp (decide (s.2.1 = (-1 : Int))) ((inK .i64 (s.1 + 1)) ∧ (bsp (decide (s.2.2.1 ≠ (s.1 + 1))) ((inK .i64 s.2.2.1) ∧ ((ByteArray.size (ByteArray.mk #[40]) + ByteArray.size (decS s.2.2.1) ≤ 9223372036854775807) ∧ ((ByteArray.size ((ByteArray.mk #[40]) ++ decS s.2.2.1) + ByteArray.size (ByteArray.mk #[41]) ≤ 9223372036854775807) ∧ ((ByteArray.size ((decS (s.1 + 1) ++ (ByteArray.mk #[47])) ++ decS (s.2.1 + 1)) + ByteArray.size (((ByteArray.mk #[40]) ++ decS s.2.2.1) ++ (ByteArray.mk #[41])) ≤ 9223372036854775807) ∧ (@Eq (HO c_impl_stepText.outs) ((((decS (s.1 + 1) ++ (ByteArray.mk #[47])) ++ decS (s.2.1 + 1)) ++ (((ByteArray.mk #[40]) ++ decS s.2.2.1) ++ (ByteArray.mk #[41]))), ()) (c_impl_stepText.out (v, s, ()))))))) (@Eq (HO c_impl_stepText.outs) (((decS (s.1 + 1) ++ (ByteArray.mk #[47])) ++ decS (s.2.1 + 1)), ()) (c_impl_stepText.out (v, s, ()))))) (@Eq (HO c_impl_stepText.outs) (((decS (s.1 + 1) ++ (ByteArray.mk #[47])) ++ decS (s.2.1 + 1)), ()) (c_impl_stepText.out (v, s, ()))))))))) (bsp s.2.2.2 ((ByteArray.size (decS (s.1 + 1) ++ (ByteArray.mk #[47, 111, 102, 102])) + ByteArray.size (ByteArray.mk #[42]) ≤ 9223372036854775807) ∧ (bsp (decide (s.2.1 = (-1 : Int))) ((inK .i64 (s.1 + 1)) ∧ (bsp (decide (s.2.2.1 ≠ (s.1 + 1))) ((inK .i64 s.2.2.1) ∧ ((ByteArray.size (ByteArray.mk #[40]) + ByteArray.size (decS s.2.2.1) ≤ 9223372036854775807) ∧ ((ByteArray.size ((ByteArray.mk #[40]) ++ decS s.2.2.1) + ByteArray.size (ByteArray.mk #[41]) ≤ 9223372036854775807) ∧ ((ByteArray.size ((decS (s.1 + 1) ++ (ByteArray.mk #[47, 111, 102, 102])) ++ (ByteArray.mk #[42])) + ByteArray.size (((ByteArray.mk #[40]) ++ decS s.2.2.1) ++ (ByteArray.mk #[41])) ≤ 9223372036854775807) ∧ (@Eq (HO c_impl_stepText.outs) ((((decS (s.1 + 1) ++ (ByteArray.mk #[47, 111, 102, 102])) ++ (ByteArray.mk #[42])) ++ (((ByteArray.mk #[40]) ++ decS s.2.2.1) ++ (ByteArray.mk #[41]))), ()) (c_impl_stepText.out (v, s, ()))))))) (@Eq (HO c_impl_stepText.outs) (((decS (s.1 + 1) ++ (ByteArray.mk #[47, 111, 102, 102])) ++ (ByteArray.mk #[42])), ()) (c_impl_stepText.out (v, s, ()))))) (@Eq (HO c_impl_stepText.outs) (((decS (s.1 + 1) ++ (ByteArray.mk #[47, 111, 102, 102])) ++ (ByteArray.mk #[42])), ()) (c_impl_stepText.out (v, s, ()))))) (bsp (decide (s.2.1 = (-1 : Int))) ((inK .i64 (s.1 + 1)) ∧ (bsp (decide (s.2.2.1 ≠ (s.1 + 1))) ((inK .i64 s.2.2.1) ∧ ((ByteArray.size (ByteArray.mk #[40]) + ByteArray.size (decS s.2.2.1) ≤ 9223372036854775807) ∧ ((ByteArray.size ((ByteArray.mk #[40]) ++ decS s.2.2.1) + ByteArray.size (ByteArray.mk #[41]) ≤ 9223372036854775807) ∧ ((ByteArray.size (decS (s.1 + 1) ++ (ByteArray.mk #[47, 111, 102, 102])) + ByteArray.size (((ByteArray.mk #[40]) ++ decS s.2.2.1) ++ (ByteArray.mk #[41])) ≤ 9223372036854775807) ∧ (@Eq (HO c_impl_stepText.outs) (((decS (s.1 + 1) ++ (ByteArray.mk #[47, 111, 102, 102])) ++ (((ByteArray.mk #[40]) ++ decS s.2.2.1) ++ (ByteArray.mk #[41]))), ()) (c_impl_stepText.out (v, s, ()))))))) (@Eq (HO c_impl_stepText.outs) ((decS (s.1 + 1) ++ (ByteArray.mk #[47, 111, 102, 102])), ()) (c_impl_stepText.out (v, s, ()))))) (@Eq (HO c_impl_stepText.outs) ((decS (s.1 + 1) ++ (ByteArray.mk #[47, 111, 102, 102])), ()) (c_impl_stepText.out (v, s, ()))))))))) ((ByteArray.size (ByteArray.mk #[98, 97, 114]) + ByteArray.size (ByteArray.mk #[47, 111, 102, 102]) ≤ 9223372036854775807) ∧ (bsp (decide ((0 : Int) ≤ s.2.1)) ((ByteArray.size (ByteArray.mk #[98, 97, 114]) + ByteArray.size (ByteArray.mk #[47]) ≤ 9223372036854775807) ∧ ((inK .i64 (s.2.1 + 1)) ∧ ((inK .i64 (s.2.1 + 1)) ∧ ((ByteArray.size ((ByteArray.mk #[98, 97, 114]) ++ (ByteArray.mk #[47])) + ByteArray.size (decS (s.2.1 + 1)) ≤ 9223372036854775807) ∧ (bsp s.2.2.2 ((ByteArray.size (((ByteArray.mk #[98, 97, 114]) ++ (ByteArray.mk #[47])) ++ decS (s.2.1 + 1)) + ByteArray.size (ByteArray.mk #[42]) ≤ 9223372036854775807) ∧ (bsp (decide (s.2.1 = (-1 : Int))) ((inK .i64 (s.1 + 1)) ∧ (bsp (decide (s.2.2.1 ≠ (s.1 + 1))) ((inK .i64 s.2.2.1) ∧ ((ByteArray.size (ByteArray.mk #[40]) + ByteArray.size (decS s.2.2.1) ≤ 9223372036854775807) ∧ ((ByteArray.size ((ByteArray.mk #[40]) ++ decS s.2.2.1) + ByteArray.size (ByteArray.mk #[41]) ≤ 9223372036854775807) ∧ ((ByteArray.size ((((ByteArray.mk #[98, 97, 114]) ++ (ByteArray.mk #[47])) ++ decS (s.2.1 + 1)) ++ (ByteArray.mk #[42])) + ByteArray.size (((ByteArray.mk #[40]) ++ decS s.2.2.1) ++ (ByteArray.mk #[41])) ≤ 9223372036854775807) ∧ (@Eq (HO c_impl_stepText.outs) ((((((ByteArray.mk #[98, 97, 114]) ++ (ByteArray.mk #[47])) ++ decS (s.2.1 + 1)) ++ (ByteArray.mk #[42])) ++ (((ByteArray.mk #[40]) ++ decS s.2.2.1) ++ (ByteArray.mk #[41]))), ()) (c_impl_stepText.out (v, s, ()))))))) (@Eq (HO c_impl_stepText.outs) (((((ByteArray.mk #[98, 97, 114]) ++ (ByteArray.mk #[47])) ++ decS (s.2.1 + 1)) ++ (ByteArray.mk #[42])), ()) (c_impl_stepText.out (v, s, ()))))) (@Eq (HO c_impl_stepText.outs) (((((ByteArray.mk #[98, 97, 114]) ++ (ByteArray.mk #[47])) ++ decS (s.2.1 + 1)) ++ (ByteArray.mk #[42])), ()) (c_impl_stepText.out (v, s, ()))))) (bsp (decide (s.2.1 = (-1 : Int))) ((inK .i64 (s.1 + 1)) ∧ (bsp (decide (s.2.2.1 ≠ (s.1 + 1))) ((inK .i64 s.2.2.1) ∧ ((ByteArray.size (ByteArray.mk #[40]) + ByteArray.size (decS s.2.2.1) ≤ 9223372036854775807) ∧ ((ByteArray.size ((ByteArray.mk #[40]) ++ decS s.2.2.1) + ByteArray.size (ByteArray.mk #[41]) ≤ 9223372036854775807) ∧ ((ByteArray.size (((ByteArray.mk #[98, 97, 114]) ++ (ByteArray.mk #[47])) ++ decS (s.2.1 + 1)) + ByteArray.size (((ByteArray.mk #[40]) ++ decS s.2.2.1) ++ (ByteArray.mk #[41])) ≤ 9223372036854775807) ∧ (@Eq (HO c_impl_stepText.outs) (((((ByteArray.mk #[98, 97, 114]) ++ (ByteArray.mk #[47])) ++ decS (s.2.1 + 1)) ++ (((ByteArray.mk #[40]) ++ decS s.2.2.1) ++ (ByteArray.mk #[41]))), ()) (c_impl_stepText.out (v, s, ()))))))) (@Eq (HO c_impl_stepText.outs) ((((ByteArray.mk #[98, 97, 114]) ++ (ByteArray.mk #[47])) ++ decS (s.2.1 + 1)), ()) (c_impl_stepText.out (v, s, ()))))) (@Eq (HO c_impl_stepText.outs) ((((ByteArray.mk #[98, 97, 114]) ++ (ByteArray.mk #[47])) ++ decS (s.2.1 + 1)), ()) (c_impl_stepText.out (v, s, ()))))))))) (bsp s.2.2.2 ((ByteArray.size ((ByteArray.mk #[98, 97, 114]) ++ (ByteArray.mk #[47, 111, 102, 102])) + ByteArray.size (ByteArray.mk #[42]) ≤ 9223372036854775807) ∧ (bsp (decide (s.2.1 = (-1 : Int))) ((inK .i64 (s.1 + 1)) ∧ (bsp (decide (s.2.2.1 ≠ (s.1 + 1))) ((inK .i64 s.2.2.1) ∧ ((ByteArray.size (ByteArray.mk #[40]) + ByteArray.size (decS s.2.2.1) ≤ 9223372036854775807) ∧ ((ByteArray.size ((ByteArray.mk #[40]) ++ decS s.2.2.1) + ByteArray.size (ByteArray.mk #[41]) ≤ 9223372036854775807) ∧ ((ByteArray.size (((ByteArray.mk #[98, 97, 114]) ++ (ByteArray.mk #[47, 111, 102, 102])) ++ (ByteArray.mk #[42])) + ByteArray.size (((ByteArray.mk #[40]) ++ decS s.2.2.1) ++ (ByteArray.mk #[41])) ≤ 9223372036854775807) ∧ (@Eq (HO c_impl_stepText.outs) (((((ByteArray.mk #[98, 97, 114]) ++ (ByteArray.mk #[47, 111, 102, 102])) ++ (ByteArray.mk #[42])) ++ (((ByteArray.mk #[40]) ++ decS s.2.2.1) ++ (ByteArray.mk #[41]))), ()) (c_impl_stepText.out (v, s, ()))))))) (@Eq (HO c_impl_stepText.outs) ((((ByteArray.mk #[98, 97, 114]) ++ (ByteArray.mk #[47, 111, 102, 102])) ++ (ByteArray.mk #[42])), ()) (c_impl_stepText.out (v, s, ()))))) (@Eq (HO c_impl_stepText.outs) ((((ByteArray.mk #[98, 97, 114]) ++ (ByteArray.mk #[47, 111, 102, 102])) ++ (ByteArray.mk #[42])), ()) (c_impl_stepText.out (v, s, ()))))) (bsp (decide (s.2.1 = (-1 : Int))) ((inK .i64 (s.1 + 1)) ∧ (bsp (decide (s.2.2.1 ≠ (s.1 + 1))) ((inK .i64 s.2.2.1) ∧ ((ByteArray.size (ByteArray.mk #[40]) + ByteArray.size (decS s.2.2.1) ≤ 9223372036854775807) ∧ ((ByteArray.size ((ByteArray.mk #[40]) ++ decS s.2.2.1) + ByteArray.size (ByteArray.mk #[41]) ≤ 9223372036854775807) ∧ ((ByteArray.size ((ByteArray.mk #[98, 97, 114]) ++ (ByteArray.mk #[47, 111, 102, 102])) + ByteArray.size (((ByteArray.mk #[40]) ++ decS s.2.2.1) ++ (ByteArray.mk #[41])) ≤ 9223372036854775807) ∧ (@Eq (HO c_impl_stepText.outs) ((((ByteArray.mk #[98, 97, 114]) ++ (ByteArray.mk #[47, 111, 102, 102])) ++ (((ByteArray.mk #[40]) ++ decS s.2.2.1) ++ (ByteArray.mk #[41]))), ()) (c_impl_stepText.out (v, s, ()))))))) (@Eq (HO c_impl_stepText.outs) (((ByteArray.mk #[98, 97, 114]) ++ (ByteArray.mk #[47, 111, 102, 102])), ()) (c_impl_stepText.out (v, s, ()))))) (@Eq (HO c_impl_stepText.outs) (((ByteArray.mk #[98, 97, 114]) ++ (ByteArray.mk #[47, 111, 102, 102])), ()) (c_impl_stepText.out (v, s, ())))))))))) (by kernel_rfl) ?_
  rintro v s ⟨hv, hp⟩ hl
  have P := plainD_in hv hp
  clear hl hp hv
  obtain ⟨p1, p2, p3, p4, p5⟩ := P
  have a := decS_size (n := s.1 + 1) (by simp only [inK]; omega)
  have b := decS_size (n := s.2.1 + 1) (by simp only [inK]; omega)
  have c := decS_size (n := s.2.2.1) (by simp only [inK]; omega)
  have out : ∀ r, stepS v s = r → @Eq (HO c_impl_stepText.outs) (r, ()) (c_impl_stepText.out (v, s, ())) := fun r h => by subst h; rfl
  have k1 : (ByteArray.mk #[47]).size = 1 := rfl
  have k2 : (ByteArray.mk #[111, 102, 102]).size = 3 := rfl
  have k3 : (ByteArray.mk #[42]).size = 1 := rfl
  have k4 : (ByteArray.mk #[40]).size = 1 := rfl
  have k5 : (ByteArray.mk #[41]).size = 1 := rfl
  have k6 : (ByteArray.mk #[98, 97, 114]).size = 3 := rfl
  have k7 : (ByteArray.mk #[98, 97, 114, 47]).size = 4 := rfl
  have k8 : (ByteArray.mk #[47, 111, 102, 102]).size = 4 := rfl
  simp only [app_size]
  repeat' first
    | refine bspD (fun _ => ?_) (fun _ => ?_)
    | refine bspB (fun _ => ?_) (fun _ => ?_)
    | refine ⟨(by simp only [inK]; omega), ?_⟩
    | refine ⟨(by omega), ?_⟩
    | refine ⟨⟨by omega, by omega⟩, ?_⟩
    | fail
  all_goals clear a b c k1 k2 k3 k4 k5 k6 k7 k8
  all_goals first
    | (exfalso; simp_all; done)
    | (exfalso; omega)
    | (refine out _ (bytes_ext ?_); clear out p1 p2 p3 p4 p5; unfold stepS fromT; simp only [*, if_true, if_false, Bool.false_eq_true, ne_eq, not_true_eq_false, not_false_eq_true, Decidable.not_not] at *; simp [ByteArray.data_append, slB, offB, starB, opB, clB, barB, nilB, *]; done)
    | skip
def c_spec_l06Step : Con where
  ins := [(true, .v tVar), (true, .v tStep)]
  outs := [(false, .v .s)]
  sh := false
  pre := fun x => varD x.1 = true ∧ plainD x.1 x.2.1 = true
  out := fun x => (stepS x.1 x.2.1, ())
  upd := fun x => x
theorem k_spec_l06Step [B : Base] : ConOk Tryz.prog 41 c_spec_l06Step := by
  refine fn_okW (C := cx Tryz.prog 46 c_spec_l06Step) (cs := [(38, c_spec_l01Number)]) (res := Tryz.f41.results.toList) (fun _ => ⟨[], [], []⟩) Tryz.func41 (by kernel_rfl) rfl rfl rfl tysOk.look eqTsOk.look (AllCs.ok (l := [(38, c_spec_l01Number)]) ⟨k_spec_l01Number, trivial⟩) mixed rfl rfl rfl ?_
  refine of_nf (P := ∀ v : Int × Int × Int × Int, ∀ s : Int × Int × Int × Bool, (varD v = true ∧ plainD v s = true) → ((lensI c_spec_l06Step.ins (v, s, ())) → (bsp (decide (s.1 < v.1)) ((inK .i64 (s.1 + 1)) ∧ ((0 ≤ (s.1 + 1) ∧ (s.1 + 1) ≤ 99) ∧ ((ByteArray.size (decS (s.1 + 1)) + ByteArray.size (ByteArray.mk #[47]) ≤ 9223372036854775807) ∧ (bsp (decide ((0 : Int) ≤ s.2.1)) ((inK .i64 (s.2.1 + 1)) ∧ ((0 ≤ (s.2.1 + 1) ∧ (s.2.1 + 1) ≤ 99) ∧ ((ByteArray.size (decS (s.1 + 1) ++ (ByteArray.mk #[47])) + ByteArray.size (decS (s.2.1 + 1)) ≤ 9223372036854775807) ∧ (bsp s.2.2.2 ((ByteArray.size ((decS (s.1 + 1) ++ (ByteArray.mk #[47])) ++ decS (s.2.1 + 1)) + ByteArray.size (ByteArray.mk #[42]) ≤ 9223372036854775807) ∧ (@Eq (HO c_spec_l06Step.outs) ((((decS (s.1 + 1) ++ (ByteArray.mk #[47])) ++ decS (s.2.1 + 1)) ++ (ByteArray.mk #[42])), ()) (c_spec_l06Step.out (v, s, ())))) (@Eq (HO c_spec_l06Step.outs) (((decS (s.1 + 1) ++ (ByteArray.mk #[47])) ++ decS (s.2.1 + 1)), ()) (c_spec_l06Step.out (v, s, ()))))))) ((ByteArray.size (decS (s.1 + 1) ++ (ByteArray.mk #[47])) + ByteArray.size (ByteArray.mk #[111, 102, 102]) ≤ 9223372036854775807) ∧ ((inK .i64 (s.1 + 1)) ∧ (bsp (decide (s.2.2.1 ≠ (s.1 + 1))) ((ByteArray.size ((decS (s.1 + 1) ++ (ByteArray.mk #[47])) ++ (ByteArray.mk #[111, 102, 102])) + ByteArray.size (ByteArray.mk #[40]) ≤ 9223372036854775807) ∧ ((0 ≤ s.2.2.1 ∧ s.2.2.1 ≤ 99) ∧ ((ByteArray.size (((decS (s.1 + 1) ++ (ByteArray.mk #[47])) ++ (ByteArray.mk #[111, 102, 102])) ++ (ByteArray.mk #[40])) + ByteArray.size (decS s.2.2.1) ≤ 9223372036854775807) ∧ ((ByteArray.size ((((decS (s.1 + 1) ++ (ByteArray.mk #[47])) ++ (ByteArray.mk #[111, 102, 102])) ++ (ByteArray.mk #[40])) ++ decS s.2.2.1) + ByteArray.size (ByteArray.mk #[41]) ≤ 9223372036854775807) ∧ (@Eq (HO c_spec_l06Step.outs) ((((((decS (s.1 + 1) ++ (ByteArray.mk #[47])) ++ (ByteArray.mk #[111, 102, 102])) ++ (ByteArray.mk #[40])) ++ decS s.2.2.1) ++ (ByteArray.mk #[41])), ()) (c_spec_l06Step.out (v, s, ()))))))) (@Eq (HO c_spec_l06Step.outs) (((decS (s.1 + 1) ++ (ByteArray.mk #[47])) ++ (ByteArray.mk #[111, 102, 102])), ()) (c_spec_l06Step.out (v, s, ())))))))))) (bsp (decide ((0 : Int) ≤ s.2.1)) ((inK .i64 (s.2.1 + 1)) ∧ ((0 ≤ (s.2.1 + 1) ∧ (s.2.1 + 1) ≤ 99) ∧ ((ByteArray.size (ByteArray.mk #[98, 97, 114, 47]) + ByteArray.size (decS (s.2.1 + 1)) ≤ 9223372036854775807) ∧ (bsp s.2.2.2 ((ByteArray.size ((ByteArray.mk #[98, 97, 114, 47]) ++ decS (s.2.1 + 1)) + ByteArray.size (ByteArray.mk #[42]) ≤ 9223372036854775807) ∧ (@Eq (HO c_spec_l06Step.outs) ((((ByteArray.mk #[98, 97, 114, 47]) ++ decS (s.2.1 + 1)) ++ (ByteArray.mk #[42])), ()) (c_spec_l06Step.out (v, s, ())))) (@Eq (HO c_spec_l06Step.outs) (((ByteArray.mk #[98, 97, 114, 47]) ++ decS (s.2.1 + 1)), ()) (c_spec_l06Step.out (v, s, ()))))))) ((ByteArray.size (ByteArray.mk #[98, 97, 114, 47]) + ByteArray.size (ByteArray.mk #[111, 102, 102]) ≤ 9223372036854775807) ∧ ((inK .i64 (s.1 + 1)) ∧ (bsp (decide (s.2.2.1 ≠ (s.1 + 1))) ((ByteArray.size ((ByteArray.mk #[98, 97, 114, 47]) ++ (ByteArray.mk #[111, 102, 102])) + ByteArray.size (ByteArray.mk #[40]) ≤ 9223372036854775807) ∧ ((0 ≤ s.2.2.1 ∧ s.2.2.1 ≤ 99) ∧ ((ByteArray.size (((ByteArray.mk #[98, 97, 114, 47]) ++ (ByteArray.mk #[111, 102, 102])) ++ (ByteArray.mk #[40])) + ByteArray.size (decS s.2.2.1) ≤ 9223372036854775807) ∧ ((ByteArray.size ((((ByteArray.mk #[98, 97, 114, 47]) ++ (ByteArray.mk #[111, 102, 102])) ++ (ByteArray.mk #[40])) ++ decS s.2.2.1) + ByteArray.size (ByteArray.mk #[41]) ≤ 9223372036854775807) ∧ (@Eq (HO c_spec_l06Step.outs) ((((((ByteArray.mk #[98, 97, 114, 47]) ++ (ByteArray.mk #[111, 102, 102])) ++ (ByteArray.mk #[40])) ++ decS s.2.2.1) ++ (ByteArray.mk #[41])), ()) (c_spec_l06Step.out (v, s, ()))))))) (@Eq (HO c_spec_l06Step.outs) (((ByteArray.mk #[98, 97, 114, 47]) ++ (ByteArray.mk #[111, 102, 102])), ()) (c_spec_l06Step.out (v, s, ())))))))))) (by kernel_rfl) ?_
  rintro v s ⟨hv, hp⟩ hl
  have P := plainD_in hv hp
  clear hl hp hv
  obtain ⟨p1, p2, p3, p4, p5⟩ := P
  have a := decS_size (n := s.1 + 1) (by simp only [inK]; omega)
  have b := decS_size (n := s.2.1 + 1) (by simp only [inK]; omega)
  have c := decS_size (n := s.2.2.1) (by simp only [inK]; omega)
  have out : ∀ r, stepS v s = r → @Eq (HO c_spec_l06Step.outs) (r, ()) (c_spec_l06Step.out (v, s, ())) := fun r h => by subst h; rfl
  have k1 : (ByteArray.mk #[47]).size = 1 := rfl
  have k2 : (ByteArray.mk #[111, 102, 102]).size = 3 := rfl
  have k3 : (ByteArray.mk #[42]).size = 1 := rfl
  have k4 : (ByteArray.mk #[40]).size = 1 := rfl
  have k5 : (ByteArray.mk #[41]).size = 1 := rfl
  have k6 : (ByteArray.mk #[98, 97, 114]).size = 3 := rfl
  have k7 : (ByteArray.mk #[98, 97, 114, 47]).size = 4 := rfl
  have k8 : (ByteArray.mk #[47, 111, 102, 102]).size = 4 := rfl
  simp only [app_size]
  repeat' first
    | refine bspD (fun _ => ?_) (fun _ => ?_)
    | refine bspB (fun _ => ?_) (fun _ => ?_)
    | refine ⟨(by simp only [inK]; omega), ?_⟩
    | refine ⟨(by omega), ?_⟩
    | refine ⟨⟨by omega, by omega⟩, ?_⟩
    | fail
  all_goals clear a b c k1 k2 k3 k4 k5 k6 k7 k8
  all_goals first
    | (exfalso; simp_all; done)
    | (exfalso; omega)
    | (refine out _ (bytes_ext ?_); clear out p1 p2 p3 p4 p5; unfold stepS fromT; simp only [*, if_true, if_false, Bool.false_eq_true, ne_eq, not_true_eq_false, not_false_eq_true, Decidable.not_not] at *; simp [ByteArray.data_append, slB, offB, starB, opB, clB, barB, nilB, *]; done)
    | skip
end Go.Proofs.YtmklkigppmgigaaGreatDoor
