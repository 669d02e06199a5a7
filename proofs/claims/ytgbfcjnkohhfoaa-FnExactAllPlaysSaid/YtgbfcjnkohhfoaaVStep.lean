/-
  Contracts: steps.
-/
import Derived.Test.YtgbfcjnkohhfoaaVGame
import Derived.Test.YtgbfcjnkohhfoaaAbW
namespace Go.Proofs.Ytgbfcjnkohhfoaa
open Go.RowKit
set_option linter.unusedSimpArgs false
set_option linter.unusedVariables false
/-- both sides of a board are sides of the variant -/
def okB (v : DVar) (b : DBoard) : Prop := varD v = true ∧ sideD v b.1 = true ∧ sideD v b.2 = true
theorem okB_of {v : DVar} {b : DBoard} (h : boardD v b = true) : okB v b := by
  simp only [boardD, Bool.and_eq_true] at h
  exact ⟨h.1, h.2.1, h.2.2.1⟩
theorem okB.facts {v : DVar} {b : DBoard} (h : okB v b) : Bd b.1 ∧ Bd b.2 ∧ (b.1.length : Int) = v.1 + 1 ∧ (b.2.length : Int) = v.1 + 1 ∧ 2 ≤ v.1 ∧ v.1 ≤ 24 ∧ 1 ≤ v.2.2.1 ∧ v.2.2.1 ≤ v.1 ∧ 1 ≤ v.2.2.2 ∧ v.2.2.2 ≤ 6 := by
  obtain ⟨h0, h1, h2⟩ := h
  obtain ⟨d1, l1⟩ := sideD_bd h0 h1
  obtain ⟨d2, l2⟩ := sideD_bd h0 h2
  obtain ⟨⟨v1, v2⟩, _, ⟨v5, v6⟩, v7, v8⟩ := varD_iff.1 h0
  exact ⟨d1, d2, l1, l2, v1, v2, v5, v6, v7, v8⟩
def openB (v : DVar) (b : DBoard) (i : Int) : Bool := decide (b.2.getD (v.1 - 1 - i).toNat 0 ≤ 1)
def stepD (v : DVar) (b : DBoard) (f d : Int) : Option DStep :=
  if b.1.getD f.toNat 0 = 0 ∨ (0 < b.1.getD v.1.toNat 0 ∧ f ≠ v.1) then none
  else if 0 ≤ f - d then (if openB v b (f - d) then some (f, f - d, d, decide (b.2.getD (v.1 - 1 - (f - d)).toNat 0 = 1)) else none)
  else if v.2.2.1 ≤ topD b.1 ∨ (f ≠ d - 1 ∧ f < topD b.1) then none
  else some (f, -1, d, false)
def zeroS : DStep := (0, 0, 0, false)
/-- the steps from the points below k -/
def legalR (v : DVar) (b : DBoard) (d : Int) : Nat → List DStep
  | 0 => []
  | k + 1 => (stepD v b k d).toList ++ legalR v b d k
def legalD (v : DVar) (b : DBoard) (d : Int) : List DStep := if overD b then [] else legalR v b d (v.1 + 1).toNat
theorem legalR_len (v : DVar) (b : DBoard) (d : Int) : ∀ k, (legalR v b d k).length ≤ k
  | 0 => by simp [legalR]
  | k + 1 => by
    have := legalR_len v b d k
    have : (stepD v b k d).toList.length ≤ 1 := by cases stepD v b k d <;> simp
    simp only [legalR, List.length_append]; omega
def addAt (l : List Int) (i : Int) (x : Int) : List Int := l.set i.toNat (l.getD i.toNat 0 + x)
def subAt (l : List Int) (i : Int) : List Int := l.set i.toNat (l.getD i.toNat 0 - 1)
def afterD (v : DVar) (b : DBoard) (s : DStep) : DBoard :=
  ((if 0 ≤ s.2.1 then addAt (subAt b.1 s.1) s.2.1 1 else subAt b.1 s.1), (if s.2.2.2 then addAt (subAt b.2 (v.1 - 1 - s.2.1)) v.1 1 else b.2))
/-- a step's points lie on the board -/
def stepIn (v : DVar) (s : DStep) : Prop := (0 ≤ s.1 ∧ s.1 ≤ v.1) ∧ (-1 ≤ s.2.1 ∧ s.2.1 < v.1) ∧ (s.2.2.2 = true → 0 ≤ s.2.1)
theorem stepD_in {v : DVar} {b : DBoard} {f d : Int} {s : DStep} (hf : 0 ≤ f ∧ f ≤ v.1) (hd : 1 ≤ d) (hv : 2 ≤ v.1) (h : stepD v b f d = some s) : stepIn v s := by
  unfold stepD at h
  split at h
  · cases h
  · split at h
    · split at h
      · cases h; exact ⟨hf, ⟨by dsimp only; omega, by dsimp only; omega⟩, fun _ => by dsimp only; omega⟩
      · cases h
    · split at h
      · cases h
      · cases h; exact ⟨hf, ⟨by dsimp only; omega, by dsimp only; omega⟩, fun h => by cases h⟩
theorem getD_set (l : List Int) (i : Nat) (x : Int) (j : Nat) : (l.set i x).getD j 0 = if i = j ∧ j < l.length then x else l.getD j 0 := by
  rw [List.getD_eq_getElem?_getD, List.getElem?_set, List.getD_eq_getElem?_getD]
  by_cases e : i = j
  · subst e
    by_cases h : i < l.length
    · simp [h]
    · simp [h]
  · simp [e]
theorem sum_set {l : List Int} {i : Nat} (x : Int) (h : i < l.length) : (l.set i x).sum = l.sum - l.getD i 0 + x := by
  induction l generalizing i with
  | nil => simp at h
  | cons y l ih =>
    cases i with
    | zero => simp; omega
    | succ i =>
      have := ih (i := i) (by simpa using h)
      simp only [List.set_cons_succ, List.sum_cons, this, List.getD_cons_succ]; omega
theorem fits_sub {c : Int} {l : List Int} {i : Int} (h : fitsD c l = true) (hi : i.toNat < l.length) (h1 : 1 ≤ l.getD i.toNat 0) : fitsD (c - 1) (subAt l i) = true ∧ (subAt l i).length = l.length := by
  obtain ⟨h2, h3⟩ := fitsD_iff.1 h
  refine ⟨fitsD_iff.2 ⟨fun z hz => ?_, ?_⟩, by simp [subAt]⟩
  · rcases List.mem_or_eq_of_mem_set hz with hz | rfl
    · exact h2 _ hz
    · omega
  · rw [subAt, sum_set _ hi]; omega
theorem fits_add {c : Int} {l : List Int} {i : Int} (h : fitsD (c - 1) l = true) (hi : i.toNat < l.length) : fitsD c (addAt l i 1) = true ∧ (addAt l i 1).length = l.length := by
  obtain ⟨h2, h3⟩ := fitsD_iff.1 h
  refine ⟨fitsD_iff.2 ⟨fun z hz => ?_, ?_⟩, by simp [addAt]⟩
  · rcases List.mem_or_eq_of_mem_set hz with hz | rfl
    · exact h2 _ hz
    · have := h2 _ (getD_neg hi); omega
  · rw [addAt, sum_set _ hi]; omega
theorem fits_mono {c : Int} {l : List Int} (h : fitsD (c - 1) l = true) : fitsD c l = true := by
  obtain ⟨h2, h3⟩ := fitsD_iff.1 h
  exact fitsD_iff.2 ⟨h2, by omega⟩
/-- what a step needs of a board: a checker at From, a single one where it hits -/
def stepFits (v : DVar) (b : DBoard) (s : DStep) : Prop := stepIn v s ∧ 1 ≤ b.1.getD s.1.toNat 0 ∧ (s.2.2.2 = true → 1 ≤ b.2.getD (v.1 - 1 - s.2.1).toNat 0)
theorem stepD_fits {v : DVar} {b : DBoard} {f d : Int} {s : DStep} (hb : okB v b) (hf : 0 ≤ f ∧ f ≤ v.1) (hd : 1 ≤ d) (h : stepD v b f d = some s) : stepFits v b s := by
  obtain ⟨b1, _, _, _, v1, _⟩ := hb.facts
  refine ⟨stepD_in hf hd v1 h, ?_⟩
  have := b1.at f.toNat
  unfold stepD at h
  split at h
  · cases h
  · next g =>
    have g0 : b.1.getD f.toNat 0 ≠ 0 := fun e => g (.inl e)
    split at h
    · split at h
      · cases h; exact ⟨by dsimp only; omega, fun h => by dsimp only at h ⊢; have := of_decide_eq_true h; omega⟩
      · cases h
    · split at h
      · cases h
      · cases h; exact ⟨by dsimp only; omega, fun h => by cases h⟩
theorem okB_after {v : DVar} {b : DBoard} {s : DStep} (hb : okB v b) (hs : stepFits v b s) : okB v (afterD v b s) := by
  obtain ⟨b1, b2, l1, l2, v1, v2, _⟩ := hb.facts
  obtain ⟨h0, h1, h2⟩ := hb
  obtain ⟨⟨⟨f0, f1⟩, ⟨t0, t1⟩, t2⟩, c1, c2⟩ := hs
  simp only [sideD, Bool.and_eq_true, decide_eq_true_eq] at h1 h2
  have mk : ∀ zs : List Int, zs.length = b.1.length ∨ zs.length = b.2.length → fitsD v.2.1 zs = true → sideD v zs = true := fun zs hz hf => by
    simp only [sideD, hf, Bool.and_true, decide_eq_true_eq]; omega
  refine ⟨h0, ?_, ?_⟩ <;> simp only [afterD]
  · obtain ⟨g1, g2⟩ := fits_sub (i := s.1) h1.2 (by omega) c1
    split
    · obtain ⟨g3, g4⟩ := fits_add (i := s.2.1) g1 (by omega)
      exact mk _ (by omega) g3
    · exact mk _ (by omega) (fits_mono g1)
  · split
    · next hh =>
      have := t2 hh
      obtain ⟨g1, g2⟩ := fits_sub (i := v.1 - 1 - s.2.1) h2.2 (by omega) (c2 hh)
      obtain ⟨g3, g4⟩ := fits_add (i := v.1) g1 (by omega)
      exact mk _ (by omega) g3
    · exact mk _ (by omega) h2.2
def c_impl_openPoint : Con where
  ins := [(true, .v tVar), (true, .v tBoard), (false, .v tI)]
  outs := [(false, .v .b)]
  sh := false
  pre := fun x => okB x.1 x.2.1 ∧ 0 ≤ x.2.2.1 ∧ x.2.2.1 < x.1.1
  out := fun x => (openB x.1 x.2.1 x.2.2.1, ())
  upd := fun x => x
  eat := false
theorem k_impl_openPoint [B : Base] : ConOk Try.prog 105 c_impl_openPoint := by
  refine fn_okW (C := cx Try.prog 17 c_impl_openPoint) (cs := []) (res := Try.f105.results.toList) (fun _ => ⟨[], [], []⟩) Try.func105 (by kernel_rfl) rfl rfl rfl tysOk.look eqTsOk.look (AllCs.ok (l := []) trivial) mixed rfl rfl rfl rfl ?_
  refine @of_nf (∀ v : Int × Int × Int × Int, ∀ b : (List Int) × List Int, ∀ i : Int, (okB v b ∧ 0 ≤ i ∧ i < v.1) → ((lensI c_impl_openPoint.ins (v, b, i, ())) → ((inK .i64 (v.1 - 1)) ∧ ((inK .i64 ((v.1 - 1) - i)) ∧ ((0 ≤ ((v.1 - 1) - i) ∧ ((v.1 - 1) - i) < (b.2.length : Int)) ∧ ((((v.1 - 1) - i).toNat < b.2.length) ∧ (@Eq (HO c_impl_openPoint.outs) ((decide ((b.2.getD ((v.1 - 1) - i).toNat 0) ≤ (1 : Int))), ()) (c_impl_openPoint.out (v, b, i, ()))))))))) _ (by kernel_rfl) ?_
  rintro v b i ⟨hb, h0, h1⟩ hl
  obtain ⟨b1, b2, l1, l2, v1, v2, _⟩ := hb.facts
  simp only [inK]
  exact ⟨by omega, by omega, by omega, by omega, rfl⟩
def c_spec_l04Open : Con where
  ins := [(true, .v tVar), (true, .v tBoard), (false, .v tI)]
  outs := [(false, .v .b)]
  sh := false
  pre := fun x => okB x.1 x.2.1 ∧ 0 ≤ x.2.2.1 ∧ x.2.2.1 < x.1.1
  out := fun x => (openB x.1 x.2.1 x.2.2.1, ())
  upd := fun x => x
  eat := false
theorem k_spec_l04Open [B : Base] : ConOk Try.prog 103 c_spec_l04Open := by
  refine fn_okW (C := cx Try.prog 17 c_spec_l04Open) (cs := []) (res := Try.f103.results.toList) (fun _ => ⟨[], [], []⟩) Try.func103 (by kernel_rfl) rfl rfl rfl tysOk.look eqTsOk.look (AllCs.ok (l := []) trivial) mixed rfl rfl rfl rfl ?_
  refine @of_nf (∀ v : Int × Int × Int × Int, ∀ b : (List Int) × List Int, ∀ i : Int, (okB v b ∧ 0 ≤ i ∧ i < v.1) → ((lensI c_spec_l04Open.ins (v, b, i, ())) → ((inK .i64 (v.1 - 1)) ∧ ((inK .i64 ((v.1 - 1) - i)) ∧ ((0 ≤ ((v.1 - 1) - i) ∧ ((v.1 - 1) - i) < (b.2.length : Int)) ∧ ((((v.1 - 1) - i).toNat < b.2.length) ∧ (@Eq (HO c_spec_l04Open.outs) ((decide ((b.2.getD ((v.1 - 1) - i).toNat 0) ≤ (1 : Int))), ()) (c_spec_l04Open.out (v, b, i, ()))))))))) _ (by kernel_rfl) ?_
  rintro v b i ⟨hb, h0, h1⟩ hl
  obtain ⟨b1, b2, l1, l2, v1, v2, _⟩ := hb.facts
  simp only [inK]
  exact ⟨by omega, by omega, by omega, by omega, rfl⟩
/-- the reference's step: the step is told even where the point is not open -/
def l04D (v : DVar) (b : DBoard) (f d : Int) : DStep × Bool :=
  if overD b = true ∨ b.1.getD f.toNat 0 = 0 ∨ (0 < b.1.getD v.1.toNat 0 ∧ f ≠ v.1) then (zeroS, false)
  else if 0 ≤ f - d then ((f, f - d, d, decide (b.2.getD (v.1 - 1 - (f - d)).toNat 0 = 1)), openB v b (f - d))
  else if v.2.2.1 ≤ topD b.1 ∨ (f - d < -1 ∧ f < topD b.1) then (zeroS, false)
  else ((f, -1, d, false), true)
theorem l04D_opt (v : DVar) (b : DBoard) (f d : Int) : (if (l04D v b f d).2 = true then some (l04D v b f d).1 else none) = if overD b = true then none else stepD v b f d := by
  by_cases ho : overD b = true
  · rw [show l04D v b f d = (zeroS, false) from if_pos (.inl ho)]; simp [ho]
  rw [if_neg ho]
  by_cases h1 : b.1.getD f.toNat 0 = 0 ∨ (0 < b.1.getD v.1.toNat 0 ∧ f ≠ v.1)
  · rw [show l04D v b f d = (zeroS, false) from if_pos (.inr h1), show stepD v b f d = none from if_pos h1]; simp
  have n1 : ¬ (overD b = true ∨ b.1.getD f.toNat 0 = 0 ∨ (0 < b.1.getD v.1.toNat 0 ∧ f ≠ v.1)) := fun h => h.elim ho h1
  by_cases h2 : 0 ≤ f - d
  · rw [l04D, stepD, if_neg n1, if_neg h1, if_pos h2, if_pos h2]
  by_cases h3 : v.2.2.1 ≤ topD b.1 ∨ (f - d < -1 ∧ f < topD b.1)
  · have h4 : v.2.2.1 ≤ topD b.1 ∨ (f ≠ d - 1 ∧ f < topD b.1) := by omega
    rw [l04D, stepD, if_neg n1, if_neg h1, if_neg h2, if_neg h2, if_pos h3, if_pos h4]; simp
  · have h4 : ¬ (v.2.2.1 ≤ topD b.1 ∨ (f ≠ d - 1 ∧ f < topD b.1)) := by omega
    rw [l04D, stepD, if_neg n1, if_neg h1, if_neg h2, if_neg h2, if_neg h3, if_neg h4]; simp
def legalR2 (v : DVar) (b : DBoard) (d : Int) (k : Nat) : List DStep := if overD b = true then [] else legalR v b d k
theorem legalR2_succ (v : DVar) (b : DBoard) (d : Int) (k : Nat) : legalR2 v b d (k + 1) = (if (l04D v b k d).2 = true then some (l04D v b k d).1 else none).toList ++ legalR2 v b d k := by
  rw [l04D_opt]
  unfold legalR2
  cases overD b <;> simp [legalR]
def c_impl_stepFrom : Con where
  ins := [(true, .v tVar), (true, .v tBoard), (false, .v tI), (false, .v tI)]
  outs := [(true, .v tStep), (false, .v .b)]
  sh := false
  pre := fun x => okB x.1 x.2.1 ∧ (0 ≤ x.2.2.1 ∧ x.2.2.1 ≤ x.1.1) ∧ 1 ≤ x.2.2.2.1 ∧ x.2.2.2.1 ≤ 6
  out := fun x => (Option.getD (stepD x.1 x.2.1 x.2.2.1 x.2.2.2.1) zeroS, Option.isSome (stepD x.1 x.2.1 x.2.2.1 x.2.2.2.1), ())
  upd := fun x => x
  eat := false
theorem k_impl_stepFrom [B : Base] : ConOk Try.prog 104 c_impl_stepFrom := by
  refine fn_okW (C := cx Try.prog 81 c_impl_stepFrom) (cs := [(105, c_impl_openPoint), (92, c_impl_highest)]) (res := Try.f104.results.toList) (fun _ => ⟨[], [], []⟩) Try.func104 (by kernel_rfl) rfl rfl rfl tysOk.look eqTsOk.look (AllCs.ok (l := [(105, c_impl_openPoint), (92, c_impl_highest)]) ⟨k_impl_openPoint, k_impl_highest, trivial⟩) mixed rfl rfl rfl rfl ?_
  refine of_nf (P := ∀ v : Int × Int × Int × Int, ∀ b : (List Int) × List Int, ∀ f : Int, ∀ d : Int, (okB v b ∧ (0 ≤ f ∧ f ≤ v.1) ∧ 1 ≤ d ∧ d ≤ 6) → ((lensI c_impl_stepFrom.ins (v, b, f, d, ())) → ((0 ≤ f ∧ f < (b.1.length : Int)) ∧ ((f.toNat < b.1.length) ∧ (bsp (decide ((b.1.getD f.toNat 0) = (0 : Int))) (@Eq (HO c_impl_stepFrom.outs) ((0, 0, 0, false), false, ()) (c_impl_stepFrom.out (v, b, f, d, ()))) ((0 ≤ v.1 ∧ v.1 < (b.1.length : Int)) ∧ ((v.1.toNat < b.1.length) ∧ (bsp (decide ((0 : Int) < (b.1.getD v.1.toNat 0))) (bsp (decide (f ≠ v.1)) (@Eq (HO c_impl_stepFrom.outs) ((0, 0, 0, false), false, ()) (c_impl_stepFrom.out (v, b, f, d, ()))) ((inK .i64 (f - d)) ∧ (bsp (decide ((0 : Int) ≤ (f - d))) ((okB v b ∧ 0 ≤ (f - d) ∧ (f - d) < v.1) ∧ (bsp (!(openB v b (f - d))) (@Eq (HO c_impl_stepFrom.outs) ((0, 0, 0, false), false, ()) (c_impl_stepFrom.out (v, b, f, d, ()))) ((inK .i64 (v.1 - 1)) ∧ ((inK .i64 ((v.1 - 1) - (f - d))) ∧ ((0 ≤ ((v.1 - 1) - (f - d)) ∧ ((v.1 - 1) - (f - d)) < (b.2.length : Int)) ∧ ((((v.1 - 1) - (f - d)).toNat < b.2.length) ∧ (@Eq (HO c_impl_stepFrom.outs) ((f, (f - d), d, (decide ((b.2.getD ((v.1 - 1) - (f - d)).toNat 0) = (1 : Int)))), true, ()) (c_impl_stepFrom.out (v, b, f, d, ()))))))))) (True ∧ (bsp (decide (v.2.2.1 ≤ (topD b.1))) (@Eq (HO c_impl_stepFrom.outs) ((0, 0, 0, false), false, ()) (c_impl_stepFrom.out (v, b, f, d, ()))) ((inK .i64 (d - 1)) ∧ (bsp (decide (f ≠ (d - 1))) (bsp (decide (f < (topD b.1))) (@Eq (HO c_impl_stepFrom.outs) ((0, 0, 0, false), false, ()) (c_impl_stepFrom.out (v, b, f, d, ()))) (@Eq (HO c_impl_stepFrom.outs) ((f, (-1), d, false), true, ()) (c_impl_stepFrom.out (v, b, f, d, ())))) (@Eq (HO c_impl_stepFrom.outs) ((f, (-1), d, false), true, ()) (c_impl_stepFrom.out (v, b, f, d, ())))))))))) ((inK .i64 (f - d)) ∧ (bsp (decide ((0 : Int) ≤ (f - d))) ((okB v b ∧ 0 ≤ (f - d) ∧ (f - d) < v.1) ∧ (bsp (!(openB v b (f - d))) (@Eq (HO c_impl_stepFrom.outs) ((0, 0, 0, false), false, ()) (c_impl_stepFrom.out (v, b, f, d, ()))) ((inK .i64 (v.1 - 1)) ∧ ((inK .i64 ((v.1 - 1) - (f - d))) ∧ ((0 ≤ ((v.1 - 1) - (f - d)) ∧ ((v.1 - 1) - (f - d)) < (b.2.length : Int)) ∧ ((((v.1 - 1) - (f - d)).toNat < b.2.length) ∧ (@Eq (HO c_impl_stepFrom.outs) ((f, (f - d), d, (decide ((b.2.getD ((v.1 - 1) - (f - d)).toNat 0) = (1 : Int)))), true, ()) (c_impl_stepFrom.out (v, b, f, d, ()))))))))) (True ∧ (bsp (decide (v.2.2.1 ≤ (topD b.1))) (@Eq (HO c_impl_stepFrom.outs) ((0, 0, 0, false), false, ()) (c_impl_stepFrom.out (v, b, f, d, ()))) ((inK .i64 (d - 1)) ∧ (bsp (decide (f ≠ (d - 1))) (bsp (decide (f < (topD b.1))) (@Eq (HO c_impl_stepFrom.outs) ((0, 0, 0, false), false, ()) (c_impl_stepFrom.out (v, b, f, d, ()))) (@Eq (HO c_impl_stepFrom.outs) ((f, (-1), d, false), true, ()) (c_impl_stepFrom.out (v, b, f, d, ())))) (@Eq (HO c_impl_stepFrom.outs) ((f, (-1), d, false), true, ()) (c_impl_stepFrom.out (v, b, f, d, ()))))))))))))))))) (by kernel_rfl) ?_
  rintro v b f d ⟨hb, h0, h1, h2⟩ hl
  obtain ⟨b1, b2, l1, l2, v1, v2, v3, v4, v5, v6⟩ := hb.facts
  clear hl
  repeat' first
    | refine ⟨trivial, ?_⟩
    | refine bspD (fun _ => ?_) (fun _ => ?_)
    | refine bspB (fun _ => ?_) (fun _ => ?_)
    | refine ⟨⟨b1, b2⟩, ?_⟩
    | refine ⟨⟨hb, by omega, by omega⟩, ?_⟩
    | refine ⟨(by first | omega | (simp only [inK]; omega)), ?_⟩
    | fail
  all_goals (clear hb b1 b2; simp only [c_impl_stepFrom]; unfold stepD; repeat' split)
  all_goals first | rfl | (exfalso; omega) | (exfalso; simp_all; done) | (exfalso; simp_all; omega)
def c_spec_l04Step : Con where
  ins := [(true, .v tVar), (true, .v tBoard), (false, .v tI), (false, .v tI)]
  outs := [(true, .v tStep), (false, .v .b)]
  sh := false
  pre := fun x => okB x.1 x.2.1 ∧ (0 ≤ x.2.2.1 ∧ x.2.2.1 ≤ x.1.1) ∧ 1 ≤ x.2.2.2.1 ∧ x.2.2.2.1 ≤ 6
  out := fun x => ((l04D x.1 x.2.1 x.2.2.1 x.2.2.2.1).1, (l04D x.1 x.2.1 x.2.2.1 x.2.2.2.1).2, ())
  upd := fun x => x
  eat := false
theorem k_spec_l04Step [B : Base] : ConOk Try.prog 99 c_spec_l04Step := by
  refine fn_okW (C := cx Try.prog 81 c_spec_l04Step) (cs := [(66, c_spec_l02Over), (103, c_spec_l04Open), (88, c_spec_l02Last)]) (res := Try.f99.results.toList) (fun _ => ⟨[], [(5, ⟨[[], [], [], [], [3], [], [5], [5, 6], [], [5, 6, 7, 8], [3, 4, 5, 6, 7, 8, 9], [3, 4, 5, 6, 7, 8, 9, 10], [3, 4, 5, 6, 7, 8, 9, 10, 11], [0, 1, 2, 3, 4, 5, 6, 7, 8, 9, 10, 11, 12], [], [], [], [14, 15, 16], [0, 1, 2, 3, 4, 5, 6, 7, 8, 9, 10, 11, 12, 13, 14, 15, 16, 17], [0, 1, 2, 3, 4, 5, 6, 7, 8, 9, 10, 11, 12, 13, 14, 15, 16, 17, 18]], [[1, 2, 3, 4, 5, 6, 7, 8, 9, 10, 11, 12, 14, 15, 16, 17], [0, 2, 3, 4, 5, 6, 7, 8, 9, 10, 11, 12, 14, 15, 16, 17], [0, 1, 3, 4, 5, 6, 7, 8, 9, 10, 11, 12, 14, 15, 16, 17], [0, 1, 2, 5, 6, 7, 8, 9, 14, 15, 16, 17], [0, 1, 2, 5, 6, 7, 8, 9, 14, 15, 16, 17], [0, 1, 2, 3, 4, 8, 14, 15, 16, 17], [0, 1, 2, 3, 4, 8, 14, 15, 16, 17], [0, 1, 2, 3, 4, 8, 14, 15, 16, 17], [0, 1, 2, 3, 4, 5, 6, 7, 14, 15, 16, 17], [0, 1, 2, 3, 4, 14, 15, 16, 17], [0, 1, 2, 14, 15, 16, 17], [0, 1, 2, 14, 15, 16, 17], [0, 1, 2, 14, 15, 16, 17], [14, 15, 16, 17], [0, 1, 2, 3, 4, 5, 6, 7, 8, 9, 10, 11, 12, 13, 15, 16], [0, 1, 2, 3, 4, 5, 6, 7, 8, 9, 10, 11, 12, 13, 14, 16], [0, 1, 2, 3, 4, 5, 6, 7, 8, 9, 10, 11, 12, 13, 14, 15], [0, 1, 2, 3, 4, 5, 6, 7, 8, 9, 10, 11, 12, 13], [], []], []⟩)], []⟩) Try.func99 (by kernel_rfl) rfl rfl rfl tysOk.look eqTsOk.look (AllCs.ok (l := [(66, c_spec_l02Over), (103, c_spec_l04Open), (88, c_spec_l02Last)]) ⟨k_spec_l02Over, k_spec_l04Open, k_spec_l02Last, trivial⟩) mixed rfl rfl rfl rfl ?_
  refine of_nf (P := ∀ v : Int × Int × Int × Int, ∀ b : (List Int) × List Int, ∀ f : Int, ∀ d : Int, (okB v b ∧ (0 ≤ f ∧ f ≤ v.1) ∧ 1 ≤ d ∧ d ≤ 6) → ((lensI c_spec_l04Step.ins (v, b, f, d, ())) → ((Bd b.1 ∧ Bd b.2) ∧ (bsp (overD b) (@Eq (HO c_spec_l04Step.outs) ((0, 0, 0, false), false, ()) (c_spec_l04Step.out (v, b, f, d, ()))) ((0 ≤ f ∧ f < (b.1.length : Int)) ∧ ((f.toNat < b.1.length) ∧ (bsp (decide ((b.1.getD f.toNat 0) = (0 : Int))) (@Eq (HO c_spec_l04Step.outs) ((0, 0, 0, false), false, ()) (c_spec_l04Step.out (v, b, f, d, ()))) ((0 ≤ v.1 ∧ v.1 < (b.1.length : Int)) ∧ ((v.1.toNat < b.1.length) ∧ (bsp (decide ((0 : Int) < (b.1.getD v.1.toNat 0))) (bsp (decide (f ≠ v.1)) (@Eq (HO c_spec_l04Step.outs) ((0, 0, 0, false), false, ()) (c_spec_l04Step.out (v, b, f, d, ()))) ((inK .i64 (f - d)) ∧ (bsp (decide ((0 : Int) ≤ (f - d))) ((inK .i64 (v.1 - 1)) ∧ ((inK .i64 ((v.1 - 1) - (f - d))) ∧ ((0 ≤ ((v.1 - 1) - (f - d)) ∧ ((v.1 - 1) - (f - d)) < (b.2.length : Int)) ∧ ((((v.1 - 1) - (f - d)).toNat < b.2.length) ∧ ((okB v b ∧ 0 ≤ (f - d) ∧ (f - d) < v.1) ∧ (@Eq (HO c_spec_l04Step.outs) ((f, (f - d), d, (decide ((b.2.getD ((v.1 - 1) - (f - d)).toNat 0) = (1 : Int)))), openB v b (f - d), ()) (c_spec_l04Step.out (v, b, f, d, ())))))))) (True ∧ (bsp (decide (v.2.2.1 ≤ (topD b.1))) (@Eq (HO c_spec_l04Step.outs) ((0, 0, 0, false), false, ()) (c_spec_l04Step.out (v, b, f, d, ()))) (bsp (decide ((f - d) < (-1 : Int))) (bsp (decide (f < (topD b.1))) (@Eq (HO c_spec_l04Step.outs) ((0, 0, 0, false), false, ()) (c_spec_l04Step.out (v, b, f, d, ()))) (@Eq (HO c_spec_l04Step.outs) ((f, (-1), d, false), true, ()) (c_spec_l04Step.out (v, b, f, d, ())))) (@Eq (HO c_spec_l04Step.outs) ((f, (-1), d, false), true, ()) (c_spec_l04Step.out (v, b, f, d, ()))))))))) ((inK .i64 (f - d)) ∧ (bsp (decide ((0 : Int) ≤ (f - d))) ((inK .i64 (v.1 - 1)) ∧ ((inK .i64 ((v.1 - 1) - (f - d))) ∧ ((0 ≤ ((v.1 - 1) - (f - d)) ∧ ((v.1 - 1) - (f - d)) < (b.2.length : Int)) ∧ ((((v.1 - 1) - (f - d)).toNat < b.2.length) ∧ ((okB v b ∧ 0 ≤ (f - d) ∧ (f - d) < v.1) ∧ (@Eq (HO c_spec_l04Step.outs) ((f, (f - d), d, (decide ((b.2.getD ((v.1 - 1) - (f - d)).toNat 0) = (1 : Int)))), openB v b (f - d), ()) (c_spec_l04Step.out (v, b, f, d, ())))))))) (True ∧ (bsp (decide (v.2.2.1 ≤ (topD b.1))) (@Eq (HO c_spec_l04Step.outs) ((0, 0, 0, false), false, ()) (c_spec_l04Step.out (v, b, f, d, ()))) (bsp (decide ((f - d) < (-1 : Int))) (bsp (decide (f < (topD b.1))) (@Eq (HO c_spec_l04Step.outs) ((0, 0, 0, false), false, ()) (c_spec_l04Step.out (v, b, f, d, ()))) (@Eq (HO c_spec_l04Step.outs) ((f, (-1), d, false), true, ()) (c_spec_l04Step.out (v, b, f, d, ())))) (@Eq (HO c_spec_l04Step.outs) ((f, (-1), d, false), true, ()) (c_spec_l04Step.out (v, b, f, d, ())))))))))))))))))) (by kernel_rfl) ?_
  rintro v b f d ⟨hb, h0, h1, h2⟩ hl
  obtain ⟨b1, b2, l1, l2, v1, v2, v3, v4, v5, v6⟩ := hb.facts
  clear hl
  repeat' first
    | refine ⟨trivial, ?_⟩
    | refine bspD (fun _ => ?_) (fun _ => ?_)
    | refine bspB (fun _ => ?_) (fun _ => ?_)
    | refine ⟨⟨b1, b2⟩, ?_⟩
    | refine ⟨⟨hb, by omega, by omega⟩, ?_⟩
    | refine ⟨(by first | omega | (simp only [inK]; omega)), ?_⟩
    | fail
  all_goals (clear hb b1 b2; simp only [c_spec_l04Step]; unfold l04D; repeat' split)
  all_goals first | rfl | (exfalso; omega) | (exfalso; simp_all; done) | (exfalso; simp_all; omega)
def c_impl_legalSteps : Con where
  ins := [(true, .v tVar), (true, .v tBoard), (false, .v tI)]
  outs := [(false, .v (.sl tStep))]
  sh := false
  pre := fun x => okB x.1 x.2.1 ∧ 1 ≤ x.2.2.1 ∧ x.2.2.1 ≤ 6
  out := fun x => (legalD x.1 x.2.1 x.2.2.1, ())
  upd := fun x => x
  eat := false
theorem k_impl_legalSteps [B : Base] : ConOk Try.prog 100 c_impl_legalSteps := by
  refine fn_okW (C := cx Try.prog 33 c_impl_legalSteps) (cs := [(74, c_impl_boardOver), (104, c_impl_stepFrom)]) (res := Try.f100.results.toList) (fun x => ⟨[{ sh := ⟨[(2, .one (.i .i64)), (3, .one (.ref 0)), (4, .one (.ref 1)), (7, .one (.ref 2)), (8, .one (.i .i64))], [(0, .box [.i .i64, .i .i64, .i .i64, .i .i64]), (1, .box [.ref 3, .ref 4]), (2, .own 90 tStep true), (3, .imm tI false), (4, .imm tI false)]⟩, nx := 5, I := fun _ dat_ => (x.2.2.1 = dat_.1.1 ∧ x.1.1 = dat_.2.1.1 ∧ x.1.2.1 = dat_.2.1.2.1 ∧ x.1.2.2.1 = dat_.2.1.2.2.1 ∧ x.1.2.2.2 = dat_.2.1.2.2.2.1 ∧ x.2.1.1 = dat_.2.2.2.2.1 ∧ x.2.1.2 = dat_.2.2.2.2.2.1) ∧ ((dat_.2.2.2.1 ++ legalR x.1 x.2.1 x.2.2.1 (Int.toNat (dat_.1.2.2.2.2.1 + 1)) = legalR x.1 x.2.1 x.2.2.1 (Int.toNat (x.1.1 + 1))) ∧ -1 ≤ dat_.1.2.2.2.2.1 ∧ dat_.1.2.2.2.2.1 ≤ x.1.1), mu := fun dat_ => Int.toNat (dat_.1.2.2.2.2.1 + 1) }], [], []⟩) Try.func100 (by kernel_rfl) rfl rfl rfl tysOk.look eqTsOk.look (AllCs.ok (l := [(74, c_impl_boardOver), (104, c_impl_stepFrom)]) ⟨k_impl_boardOver, k_impl_stepFrom, trivial⟩) mixed rfl rfl rfl rfl ?_
  refine of_nf (P := ∀ v : Int × Int × Int × Int, ∀ b : (List Int) × List Int, ∀ d : Int, (okB v b ∧ 1 ≤ d ∧ d ≤ 6) → ((lensI c_impl_legalSteps.ins (v, b, d, ())) → ((Bd b.1 ∧ Bd b.2) ∧ (bsp (overD b) (@Eq (HO c_impl_legalSteps.outs) ([], ()) (c_impl_legalSteps.out (v, b, d, ()))) (((d = d ∧ v.1 = v.1 ∧ v.2.1 = v.2.1 ∧ v.2.2.1 = v.2.2.1 ∧ v.2.2.2 = v.2.2.2 ∧ b.1 = b.1 ∧ b.2 = b.2) ∧ (([] ++ legalR v b d (Int.toNat (v.1 + 1)) = legalR v b d (Int.toNat (v.1 + 1))) ∧ -1 ≤ v.1 ∧ v.1 ≤ v.1)) ∧ (∀ t2 : Int, ∀ i : Int, ∀ t3_0 : Int, ∀ t3_1 : Int, ∀ t3_2 : Int, ∀ t3_3 : Int, ∀ steps : List (Int × Int × Int × Bool), ∀ t4_0 : List Int, ∀ t4_1 : List Int, ((d = t2 ∧ v.1 = t3_0 ∧ v.2.1 = t3_1 ∧ v.2.2.1 = t3_2 ∧ v.2.2.2 = t3_3 ∧ b.1 = t4_0 ∧ b.2 = t4_1) ∧ ((steps ++ legalR v b d (Int.toNat (i + 1)) = legalR v b d (Int.toNat (v.1 + 1))) ∧ -1 ≤ i ∧ i ≤ v.1)) → (bsp (decide ((0 : Int) ≤ i)) ((okB (t3_0, t3_1, t3_2, t3_3) (t4_0, t4_1) ∧ (0 ≤ i ∧ i ≤ (t3_0, t3_1, t3_2, t3_3).1) ∧ 1 ≤ t2 ∧ t2 ≤ 6) ∧ (bsp (Option.isSome (stepD (t3_0, t3_1, t3_2, t3_3) (t4_0, t4_1) i t2)) ((steps.length + ([(Option.getD (stepD (t3_0, t3_1, t3_2, t3_3) (t4_0, t4_1) i t2) zeroS)] : List (Int × Int × Int × Bool)).length ≤ AB) ∧ ((inK .i64 (i - 1)) ∧ (((d = t2 ∧ v.1 = t3_0 ∧ v.2.1 = t3_1 ∧ v.2.2.1 = t3_2 ∧ v.2.2.2 = t3_3 ∧ b.1 = t4_0 ∧ b.2 = t4_1) ∧ (((steps ++ [(Option.getD (stepD (t3_0, t3_1, t3_2, t3_3) (t4_0, t4_1) i t2) zeroS)]) ++ legalR v b d (Int.toNat ((i - 1) + 1)) = legalR v b d (Int.toNat (v.1 + 1))) ∧ -1 ≤ (i - 1) ∧ (i - 1) ≤ v.1)) ∧ ((Int.toNat ((i - 1) + 1) : Nat) < Int.toNat (i + 1))))) ((inK .i64 (i - 1)) ∧ (((d = t2 ∧ v.1 = t3_0 ∧ v.2.1 = t3_1 ∧ v.2.2.1 = t3_2 ∧ v.2.2.2 = t3_3 ∧ b.1 = t4_0 ∧ b.2 = t4_1) ∧ ((steps ++ legalR v b d (Int.toNat ((i - 1) + 1)) = legalR v b d (Int.toNat (v.1 + 1))) ∧ -1 ≤ (i - 1) ∧ (i - 1) ≤ v.1)) ∧ ((Int.toNat ((i - 1) + 1) : Nat) < Int.toNat (i + 1)))))) (@Eq (HO c_impl_legalSteps.outs) (steps, ()) (c_impl_legalSteps.out (v, b, d, ())))))))))) (by kernel_rfl) ?_
  rintro v b d ⟨hb, h0, h1⟩ hl
  obtain ⟨b1, b2, l1, l2, v1, v2, v3, v4, v5, v6⟩ := hb.facts
  refine ⟨⟨b1, b2⟩, bspB (fun h => ?_) (fun ho => ⟨⟨(by first | trivial | rfl | (and_intros <;> rfl)), by simp, by omega, by omega⟩, ?_⟩)⟩
  · simp only [c_impl_legalSteps, legalD, h, if_true]

  rintro t2 i t3_0 t3_1 t3_2 t3_3 steps t4_0 t4_1 ⟨⟨rfl, rfl, rfl, rfl, rfl, rfl, rfl⟩, ⟨hs, i0, i1⟩⟩
  simp only [Prod.eta]
  have hlen : steps.length ≤ 25 := by
    have := legalR_len v b d (v.1 + 1).toNat
    have := congrArg List.length hs
    simp only [List.length_append] at this
    omega
  refine bspD (fun hge => ?_) (fun hlt => ?_)
  · obtain ⟨k, rfl⟩ : ∃ k : Nat, i = k := ⟨i.toNat, by omega⟩
    rw [show ((k : Int) + 1).toNat = k + 1 by omega, legalR] at hs
    refine ⟨⟨hb, ⟨by omega, by omega⟩, h0, h1⟩, bspB (fun hy => ?_) (fun hn => ?_)⟩
    · obtain ⟨s, es⟩ := Option.isSome_iff_exists.1 hy
      rw [es] at hs ⊢
      refine ⟨by simp [AB]; omega, by simp only [inK]; omega, ⟨(by first | trivial | rfl | (and_intros <;> rfl)), ?_, by omega, by omega⟩, by omega⟩
      rw [show ((k : Int) - 1 + 1).toNat = k by omega, ← hs]
      simp
    · have es : stepD v b k d = none := by simpa using hn
      rw [es] at hs
      refine ⟨by simp only [inK]; omega, ⟨(by first | trivial | rfl | (and_intros <;> rfl)), ?_, by omega, by omega⟩, by omega⟩
      rw [show ((k : Int) - 1 + 1).toNat = k by omega, ← hs]
      simp
  · have : i = -1 := by omega
    subst this
    simp only [Int.reduceNeg, Int.add_left_neg, Int.toNat_zero, legalR, List.append_nil] at hs
    subst hs
    simp [c_impl_legalSteps, legalD, ho]
def c_spec_l04Legal : Con where
  ins := [(true, .v tVar), (true, .v tBoard), (false, .v tI)]
  outs := [(false, .v (.sl tStep))]
  sh := false
  pre := fun x => okB x.1 x.2.1 ∧ 1 ≤ x.2.2.1 ∧ x.2.2.1 ≤ 6
  out := fun x => (legalD x.1 x.2.1 x.2.2.1, ())
  upd := fun x => x
  eat := false
theorem k_spec_l04Legal [B : Base] : ConOk Try.prog 93 c_spec_l04Legal := by
  refine fn_okW (C := cx Try.prog 32 c_spec_l04Legal) (cs := [(99, c_spec_l04Step)]) (res := Try.f93.results.toList) (fun x => ⟨[{ sh := ⟨[(2, .one (.i .i64)), (3, .one (.ref 0)), (4, .one (.ref 1)), (7, .one (.ref 2)), (8, .one (.i .i64))], [(0, .box [.i .i64, .i .i64, .i .i64, .i .i64]), (1, .box [.ref 3, .ref 4]), (2, .own 90 tStep true), (3, .imm tI false), (4, .imm tI false)]⟩, nx := 5, I := fun _ dat_ => (x.2.2.1 = dat_.1.1 ∧ x.1.1 = dat_.2.1.1 ∧ x.1.2.1 = dat_.2.1.2.1 ∧ x.1.2.2.1 = dat_.2.1.2.2.1 ∧ x.1.2.2.2 = dat_.2.1.2.2.2.1 ∧ x.2.1.1 = dat_.2.2.2.2.1 ∧ x.2.1.2 = dat_.2.2.2.2.2.1) ∧ ((dat_.2.2.2.1 ++ legalR2 x.1 x.2.1 x.2.2.1 (Int.toNat (dat_.1.2.2.2.2.1 + 1)) = legalR2 x.1 x.2.1 x.2.2.1 (Int.toNat (x.1.1 + 1))) ∧ -1 ≤ dat_.1.2.2.2.2.1 ∧ dat_.1.2.2.2.2.1 ≤ x.1.1), mu := fun dat_ => Int.toNat (dat_.1.2.2.2.2.1 + 1) }], [], []⟩) Try.func93 (by kernel_rfl) rfl rfl rfl tysOk.look eqTsOk.look (AllCs.ok (l := [(99, c_spec_l04Step)]) ⟨k_spec_l04Step, trivial⟩) mixed rfl rfl rfl rfl ?_
  refine of_nf (P := ∀ v : Int × Int × Int × Int, ∀ b : (List Int) × List Int, ∀ d : Int, (okB v b ∧ 1 ≤ d ∧ d ≤ 6) → ((lensI c_spec_l04Legal.ins (v, b, d, ())) → (((d = d ∧ v.1 = v.1 ∧ v.2.1 = v.2.1 ∧ v.2.2.1 = v.2.2.1 ∧ v.2.2.2 = v.2.2.2 ∧ b.1 = b.1 ∧ b.2 = b.2) ∧ (([] ++ legalR2 v b d (Int.toNat (v.1 + 1)) = legalR2 v b d (Int.toNat (v.1 + 1))) ∧ -1 ≤ v.1 ∧ v.1 ≤ v.1)) ∧ (∀ t2 : Int, ∀ i : Int, ∀ t3_0 : Int, ∀ t3_1 : Int, ∀ t3_2 : Int, ∀ t3_3 : Int, ∀ steps : List (Int × Int × Int × Bool), ∀ t4_0 : List Int, ∀ t4_1 : List Int, ((d = t2 ∧ v.1 = t3_0 ∧ v.2.1 = t3_1 ∧ v.2.2.1 = t3_2 ∧ v.2.2.2 = t3_3 ∧ b.1 = t4_0 ∧ b.2 = t4_1) ∧ ((steps ++ legalR2 v b d (Int.toNat (i + 1)) = legalR2 v b d (Int.toNat (v.1 + 1))) ∧ -1 ≤ i ∧ i ≤ v.1)) → (bsp (decide ((0 : Int) ≤ i)) ((okB (t3_0, t3_1, t3_2, t3_3) (t4_0, t4_1) ∧ (0 ≤ i ∧ i ≤ (t3_0, t3_1, t3_2, t3_3).1) ∧ 1 ≤ t2 ∧ t2 ≤ 6) ∧ (bsp (l04D (t3_0, t3_1, t3_2, t3_3) (t4_0, t4_1) i t2).2 ((steps.length + ([(l04D (t3_0, t3_1, t3_2, t3_3) (t4_0, t4_1) i t2).1] : List (Int × Int × Int × Bool)).length ≤ AB) ∧ ((inK .i64 (i - 1)) ∧ (((d = t2 ∧ v.1 = t3_0 ∧ v.2.1 = t3_1 ∧ v.2.2.1 = t3_2 ∧ v.2.2.2 = t3_3 ∧ b.1 = t4_0 ∧ b.2 = t4_1) ∧ (((steps ++ [(l04D (t3_0, t3_1, t3_2, t3_3) (t4_0, t4_1) i t2).1]) ++ legalR2 v b d (Int.toNat ((i - 1) + 1)) = legalR2 v b d (Int.toNat (v.1 + 1))) ∧ -1 ≤ (i - 1) ∧ (i - 1) ≤ v.1)) ∧ ((Int.toNat ((i - 1) + 1) : Nat) < Int.toNat (i + 1))))) ((inK .i64 (i - 1)) ∧ (((d = t2 ∧ v.1 = t3_0 ∧ v.2.1 = t3_1 ∧ v.2.2.1 = t3_2 ∧ v.2.2.2 = t3_3 ∧ b.1 = t4_0 ∧ b.2 = t4_1) ∧ ((steps ++ legalR2 v b d (Int.toNat ((i - 1) + 1)) = legalR2 v b d (Int.toNat (v.1 + 1))) ∧ -1 ≤ (i - 1) ∧ (i - 1) ≤ v.1)) ∧ ((Int.toNat ((i - 1) + 1) : Nat) < Int.toNat (i + 1)))))) (@Eq (HO c_spec_l04Legal.outs) (steps, ()) (c_spec_l04Legal.out (v, b, d, ())))))))) (by kernel_rfl) ?_
  rintro v b d ⟨hb, h0, h1⟩ hl
  obtain ⟨b1, b2, l1, l2, v1, v2, v3, v4, v5, v6⟩ := hb.facts
  refine ⟨⟨(by first | trivial | rfl | (and_intros <;> rfl)), by simp, by omega, by omega⟩, ?_⟩
  rintro t2 i t3_0 t3_1 t3_2 t3_3 steps t4_0 t4_1 ⟨⟨rfl, rfl, rfl, rfl, rfl, rfl, rfl⟩, ⟨hs, i0, i1⟩⟩
  simp only [Prod.eta]
  have hlen : steps.length ≤ 25 := by
    have := legalR_len v b d (v.1 + 1).toNat
    have := congrArg List.length hs
    simp only [List.length_append] at this
    have : (legalR2 v b d (v.1 + 1).toNat).length ≤ (legalR v b d (v.1 + 1).toNat).length := by unfold legalR2; split <;> simp
    omega
  refine bspD (fun hge => ?_) (fun hlt => ?_)
  · obtain ⟨k, rfl⟩ : ∃ k : Nat, i = k := ⟨i.toNat, by omega⟩
    rw [show ((k : Int) + 1).toNat = k + 1 by omega, legalR2_succ] at hs
    refine ⟨⟨hb, ⟨by omega, by omega⟩, h0, h1⟩, bspB (fun hy => ?_) (fun hn => ?_)⟩
    · rw [if_pos hy] at hs
      refine ⟨by simp [AB]; omega, by simp only [inK]; omega, ⟨(by first | trivial | rfl | (and_intros <;> rfl)), ?_, by omega, by omega⟩, by omega⟩
      rw [show ((k : Int) - 1 + 1).toNat = k by omega, ← hs]
      simp
    · rw [if_neg (by simp [hn])] at hs
      refine ⟨by simp only [inK]; omega, ⟨(by first | trivial | rfl | (and_intros <;> rfl)), ?_, by omega, by omega⟩, by omega⟩
      rw [show ((k : Int) - 1 + 1).toNat = k by omega, ← hs]
      simp
  · have : i = -1 := by omega
    subst this
    have e0 : legalR2 v b d (Int.toNat (-1 + 1)) = [] := by simp [legalR2, legalR]
    rw [e0, List.append_nil] at hs
    subst hs
    rfl
def c_impl_afterStep : Con where
  ins := [(true, .v tVar), (true, .v tBoard), (true, .v tStep)]
  outs := [(true, .pr (.own 2 tI) (.own 2 tI))]
  sh := false
  pre := fun x => okB x.1 x.2.1 ∧ stepIn x.1 x.2.2.1
  out := fun x => (afterD x.1 x.2.1 x.2.2.1, ())
  upd := fun x => x
  eat := false
theorem k_impl_afterStep [B : Base] : ConOk Try.prog 101 c_impl_afterStep := by
  refine fn_okW (C := cx Try.prog 52 c_impl_afterStep) (cs := [(57, c_impl_cloneBoard)]) (res := Try.f101.results.toList) (fun _ => ⟨[], [], []⟩) Try.func101 (by kernel_rfl) rfl rfl rfl tysOk.look eqTsOk.look (AllCs.ok (l := [(57, c_impl_cloneBoard)]) ⟨k_impl_cloneBoard, trivial⟩) mixed rfl rfl rfl rfl ?_
  refine of_nf (P := ∀ v : Int × Int × Int × Int, ∀ b : (List Int) × List Int, ∀ s : Int × Int × Int × Bool, (okB v b ∧ stepIn v s) → ((lensI c_impl_afterStep.ins (v, b, s, ())) → ((NeB b) ∧ ((0 ≤ s.1 ∧ s.1 < (b.1.length : Int)) ∧ ((s.1.toNat < b.1.length) ∧ ((inK .i64 ((b.1.getD s.1.toNat 0) - 1)) ∧ ((0 ≤ s.1 ∧ s.1 < (b.1.length : Int)) ∧ ((s.1.toNat < b.1.length) ∧ (bsp (decide ((0 : Int) ≤ s.2.1)) ((0 ≤ s.2.1 ∧ s.2.1 < ((b.1.set s.1.toNat ((b.1.getD s.1.toNat 0) - 1)).length : Int)) ∧ ((s.2.1.toNat < (b.1.set s.1.toNat ((b.1.getD s.1.toNat 0) - 1)).length) ∧ ((inK .i64 (((b.1.set s.1.toNat ((b.1.getD s.1.toNat 0) - 1)).getD s.2.1.toNat 0) + 1)) ∧ ((0 ≤ s.2.1 ∧ s.2.1 < ((b.1.set s.1.toNat ((b.1.getD s.1.toNat 0) - 1)).length : Int)) ∧ ((s.2.1.toNat < (b.1.set s.1.toNat ((b.1.getD s.1.toNat 0) - 1)).length) ∧ (bsp s.2.2.2 ((inK .i64 (v.1 - 1)) ∧ ((inK .i64 ((v.1 - 1) - s.2.1)) ∧ ((0 ≤ ((v.1 - 1) - s.2.1) ∧ ((v.1 - 1) - s.2.1) < (b.2.length : Int)) ∧ ((((v.1 - 1) - s.2.1).toNat < b.2.length) ∧ ((inK .i64 ((b.2.getD ((v.1 - 1) - s.2.1).toNat 0) - 1)) ∧ ((0 ≤ ((v.1 - 1) - s.2.1) ∧ ((v.1 - 1) - s.2.1) < (b.2.length : Int)) ∧ ((((v.1 - 1) - s.2.1).toNat < b.2.length) ∧ ((0 ≤ v.1 ∧ v.1 < ((b.2.set ((v.1 - 1) - s.2.1).toNat ((b.2.getD ((v.1 - 1) - s.2.1).toNat 0) - 1)).length : Int)) ∧ ((v.1.toNat < (b.2.set ((v.1 - 1) - s.2.1).toNat ((b.2.getD ((v.1 - 1) - s.2.1).toNat 0) - 1)).length) ∧ ((inK .i64 (((b.2.set ((v.1 - 1) - s.2.1).toNat ((b.2.getD ((v.1 - 1) - s.2.1).toNat 0) - 1)).getD v.1.toNat 0) + 1)) ∧ ((0 ≤ v.1 ∧ v.1 < ((b.2.set ((v.1 - 1) - s.2.1).toNat ((b.2.getD ((v.1 - 1) - s.2.1).toNat 0) - 1)).length : Int)) ∧ ((v.1.toNat < (b.2.set ((v.1 - 1) - s.2.1).toNat ((b.2.getD ((v.1 - 1) - s.2.1).toNat 0) - 1)).length) ∧ (@Eq (HO c_impl_afterStep.outs) (((b.1.set s.1.toNat ((b.1.getD s.1.toNat 0) - 1)).set s.2.1.toNat (((b.1.set s.1.toNat ((b.1.getD s.1.toNat 0) - 1)).getD s.2.1.toNat 0) + 1), (b.2.set ((v.1 - 1) - s.2.1).toNat ((b.2.getD ((v.1 - 1) - s.2.1).toNat 0) - 1)).set v.1.toNat (((b.2.set ((v.1 - 1) - s.2.1).toNat ((b.2.getD ((v.1 - 1) - s.2.1).toNat 0) - 1)).getD v.1.toNat 0) + 1)), ()) (c_impl_afterStep.out (v, b, s, ()))))))))))))))) (@Eq (HO c_impl_afterStep.outs) (((b.1.set s.1.toNat ((b.1.getD s.1.toNat 0) - 1)).set s.2.1.toNat (((b.1.set s.1.toNat ((b.1.getD s.1.toNat 0) - 1)).getD s.2.1.toNat 0) + 1), b.2), ()) (c_impl_afterStep.out (v, b, s, ()))))))))) (bsp s.2.2.2 ((inK .i64 (v.1 - 1)) ∧ ((inK .i64 ((v.1 - 1) - s.2.1)) ∧ ((0 ≤ ((v.1 - 1) - s.2.1) ∧ ((v.1 - 1) - s.2.1) < (b.2.length : Int)) ∧ ((((v.1 - 1) - s.2.1).toNat < b.2.length) ∧ ((inK .i64 ((b.2.getD ((v.1 - 1) - s.2.1).toNat 0) - 1)) ∧ ((0 ≤ ((v.1 - 1) - s.2.1) ∧ ((v.1 - 1) - s.2.1) < (b.2.length : Int)) ∧ ((((v.1 - 1) - s.2.1).toNat < b.2.length) ∧ ((0 ≤ v.1 ∧ v.1 < ((b.2.set ((v.1 - 1) - s.2.1).toNat ((b.2.getD ((v.1 - 1) - s.2.1).toNat 0) - 1)).length : Int)) ∧ ((v.1.toNat < (b.2.set ((v.1 - 1) - s.2.1).toNat ((b.2.getD ((v.1 - 1) - s.2.1).toNat 0) - 1)).length) ∧ ((inK .i64 (((b.2.set ((v.1 - 1) - s.2.1).toNat ((b.2.getD ((v.1 - 1) - s.2.1).toNat 0) - 1)).getD v.1.toNat 0) + 1)) ∧ ((0 ≤ v.1 ∧ v.1 < ((b.2.set ((v.1 - 1) - s.2.1).toNat ((b.2.getD ((v.1 - 1) - s.2.1).toNat 0) - 1)).length : Int)) ∧ ((v.1.toNat < (b.2.set ((v.1 - 1) - s.2.1).toNat ((b.2.getD ((v.1 - 1) - s.2.1).toNat 0) - 1)).length) ∧ (@Eq (HO c_impl_afterStep.outs) ((b.1.set s.1.toNat ((b.1.getD s.1.toNat 0) - 1), (b.2.set ((v.1 - 1) - s.2.1).toNat ((b.2.getD ((v.1 - 1) - s.2.1).toNat 0) - 1)).set v.1.toNat (((b.2.set ((v.1 - 1) - s.2.1).toNat ((b.2.getD ((v.1 - 1) - s.2.1).toNat 0) - 1)).getD v.1.toNat 0) + 1)), ()) (c_impl_afterStep.out (v, b, s, ()))))))))))))))) (@Eq (HO c_impl_afterStep.outs) ((b.1.set s.1.toNat ((b.1.getD s.1.toNat 0) - 1), b.2), ()) (c_impl_afterStep.out (v, b, s, ()))))))))))))) (by kernel_rfl) ?_
  rintro v b s ⟨hb, h0, h1, h2⟩ hl
  obtain ⟨b1, b2, l1, l2, v1, v2, v3, v4, v5, v6⟩ := hb.facts
  have hne : NeB b := ⟨⟨fun e => by rw [e] at l1; simp at l1; omega, by omega⟩, fun e => by rw [e] at l2; simp at l2; omega, by omega⟩
  have p1 : ∀ k, -1 ≤ (b.1.set s.1.toNat (b.1.getD s.1.toNat 0 - 1)).getD k 0 ∧ (b.1.set s.1.toNat (b.1.getD s.1.toNat 0 - 1)).getD k 0 ≤ 15 := fun k => by
    have := b1.at k; have := b1.at s.1.toNat
    rw [getD_set]; split <;> omega
  have p2 : ∀ k, -1 ≤ (b.2.set (v.1 - 1 - s.2.1).toNat (b.2.getD (v.1 - 1 - s.2.1).toNat 0 - 1)).getD k 0 ∧ (b.2.set (v.1 - 1 - s.2.1).toNat (b.2.getD (v.1 - 1 - s.2.1).toNat 0 - 1)).getD k 0 ≤ 15 := fun k => by
    have := b2.at k; have := b2.at (v.1 - 1 - s.2.1).toNat
    rw [getD_set]; split <;> omega
  have q1 := b1.at s.1.toNat
  have q2 := p1 s.2.1.toNat
  have q3 := b2.at (v.1 - 1 - s.2.1).toNat
  have q4 := p2 v.1.toNat
  clear hl p1 p2 hb
  simp only [List.length_set]
  repeat' first
    | refine ⟨hne, ?_⟩
    | refine bspD (fun _ => ?_) (fun _ => ?_)
    | refine bspB (fun _ => ?_) (fun _ => ?_)
    | refine ⟨(by first | omega | (simp only [inK]; omega)), ?_⟩
    | fail
  all_goals (clear q1 q2 q3 q4 hne b1 b2; simp_all [c_impl_afterStep, afterD, addAt, subAt] <;> (intros; omega))
def c_spec_l04Apply : Con where
  ins := [(true, .v tVar), (true, .v tBoard), (true, .v tStep)]
  outs := [(true, .pr (.own 2 tI) (.own 2 tI))]
  sh := false
  pre := fun x => okB x.1 x.2.1 ∧ stepIn x.1 x.2.2.1
  out := fun x => (afterD x.1 x.2.1 x.2.2.1, ())
  upd := fun x => x
  eat := false
theorem k_spec_l04Apply [B : Base] : ConOk Try.prog 94 c_spec_l04Apply := by
  refine fn_okW (C := cx Try.prog 68 c_spec_l04Apply) (cs := [(67, c_spec_l02Own)]) (res := Try.f94.results.toList) (fun _ => ⟨[], [(1, ⟨[[], [0], [0, 1], [], [3], [0, 1, 2, 3, 4], [0, 1, 2, 3, 4, 5], [0, 1, 2, 3, 4, 5, 6]], [[3, 4], [3, 4], [3, 4], [0, 1, 2], [0, 1, 2], [], [], []], []⟩), (2, ⟨[[], [], [1], [], [], [4], [3, 4, 5], [3, 4, 5, 6], [3, 4, 5, 6, 7], [0, 1, 2, 3, 4, 5, 6, 7, 8], [0, 1, 2, 3, 4, 5, 6, 7, 8, 9]], [[1, 2, 3, 4, 5, 6, 7, 8], [0, 3, 4, 5, 6, 7, 8], [0, 3, 4, 5, 6, 7, 8], [0, 1, 2, 4, 5], [0, 1, 2, 3], [0, 1, 2, 3], [0, 1, 2], [0, 1, 2], [0, 1, 2], [], []], []⟩), (4, ⟨[[], [], [1], [], [], [4], [3, 4, 5], [3, 4, 5, 6], [3, 4, 5, 6, 7], [0, 1, 2, 3, 4, 5, 6, 7, 8], [0, 1, 2, 3, 4, 5, 6, 7, 8, 9]], [[1, 2, 3, 4, 5, 6, 7, 8], [0, 3, 4, 5, 6, 7, 8], [0, 3, 4, 5, 6, 7, 8], [0, 1, 2, 4, 5], [0, 1, 2, 3], [0, 1, 2, 3], [0, 1, 2], [0, 1, 2], [0, 1, 2], [], []], []⟩), (8, ⟨[[], [], [1], [], [], [4], [3, 4, 5], [3, 4, 5, 6], [3, 4, 5, 6, 7], [0, 1, 2, 3, 4, 5, 6, 7, 8], [0, 1, 2, 3, 4, 5, 6, 7, 8, 9]], [[1, 2, 3, 4, 5, 6, 7, 8], [0, 3, 4, 5, 6, 7, 8], [0, 3, 4, 5, 6, 7, 8], [0, 1, 2, 4, 5], [0, 1, 2, 3], [0, 1, 2, 3], [0, 1, 2], [0, 1, 2], [0, 1, 2], [], []], []⟩)], []⟩) Try.func94 (by kernel_rfl) rfl rfl rfl tysOk.look eqTsOk.look (AllCs.ok (l := [(67, c_spec_l02Own)]) ⟨k_spec_l02Own, trivial⟩) mixed rfl rfl rfl rfl ?_
  refine of_nf (P := ∀ v : Int × Int × Int × Int, ∀ b : (List Int) × List Int, ∀ s : Int × Int × Int × Bool, (okB v b ∧ stepIn v s) → ((lensI c_spec_l04Apply.ins (v, b, s, ())) → ((List.length b.1 ≤ 1099511627776) ∧ ((List.length b.2 ≤ 1099511627776) ∧ ((0 ≤ s.1 ∧ s.1 < (b.1.length : Int)) ∧ ((s.1.toNat < b.1.length) ∧ ((inK .i64 ((b.1.getD s.1.toNat 0) - 1)) ∧ ((0 ≤ s.1 ∧ s.1 < (b.1.length : Int)) ∧ ((s.1.toNat < b.1.length) ∧ (bsp (decide ((0 : Int) ≤ s.2.1)) ((0 ≤ s.2.1 ∧ s.2.1 < ((b.1.set s.1.toNat ((b.1.getD s.1.toNat 0) - 1)).length : Int)) ∧ ((s.2.1.toNat < (b.1.set s.1.toNat ((b.1.getD s.1.toNat 0) - 1)).length) ∧ ((inK .i64 (((b.1.set s.1.toNat ((b.1.getD s.1.toNat 0) - 1)).getD s.2.1.toNat 0) + 1)) ∧ ((0 ≤ s.2.1 ∧ s.2.1 < ((b.1.set s.1.toNat ((b.1.getD s.1.toNat 0) - 1)).length : Int)) ∧ ((s.2.1.toNat < (b.1.set s.1.toNat ((b.1.getD s.1.toNat 0) - 1)).length) ∧ (bsp s.2.2.2 ((inK .i64 (v.1 - 1)) ∧ ((inK .i64 ((v.1 - 1) - s.2.1)) ∧ ((0 ≤ ((v.1 - 1) - s.2.1) ∧ ((v.1 - 1) - s.2.1) < (b.2.length : Int)) ∧ ((((v.1 - 1) - s.2.1).toNat < b.2.length) ∧ ((inK .i64 ((b.2.getD ((v.1 - 1) - s.2.1).toNat 0) - 1)) ∧ ((0 ≤ ((v.1 - 1) - s.2.1) ∧ ((v.1 - 1) - s.2.1) < (b.2.length : Int)) ∧ ((((v.1 - 1) - s.2.1).toNat < b.2.length) ∧ ((0 ≤ v.1 ∧ v.1 < ((b.2.set ((v.1 - 1) - s.2.1).toNat ((b.2.getD ((v.1 - 1) - s.2.1).toNat 0) - 1)).length : Int)) ∧ ((v.1.toNat < (b.2.set ((v.1 - 1) - s.2.1).toNat ((b.2.getD ((v.1 - 1) - s.2.1).toNat 0) - 1)).length) ∧ ((inK .i64 (((b.2.set ((v.1 - 1) - s.2.1).toNat ((b.2.getD ((v.1 - 1) - s.2.1).toNat 0) - 1)).getD v.1.toNat 0) + 1)) ∧ ((0 ≤ v.1 ∧ v.1 < ((b.2.set ((v.1 - 1) - s.2.1).toNat ((b.2.getD ((v.1 - 1) - s.2.1).toNat 0) - 1)).length : Int)) ∧ ((v.1.toNat < (b.2.set ((v.1 - 1) - s.2.1).toNat ((b.2.getD ((v.1 - 1) - s.2.1).toNat 0) - 1)).length) ∧ (@Eq (HO c_spec_l04Apply.outs) (((b.1.set s.1.toNat ((b.1.getD s.1.toNat 0) - 1)).set s.2.1.toNat (((b.1.set s.1.toNat ((b.1.getD s.1.toNat 0) - 1)).getD s.2.1.toNat 0) + 1), (b.2.set ((v.1 - 1) - s.2.1).toNat ((b.2.getD ((v.1 - 1) - s.2.1).toNat 0) - 1)).set v.1.toNat (((b.2.set ((v.1 - 1) - s.2.1).toNat ((b.2.getD ((v.1 - 1) - s.2.1).toNat 0) - 1)).getD v.1.toNat 0) + 1)), ()) (c_spec_l04Apply.out (v, b, s, ()))))))))))))))) (@Eq (HO c_spec_l04Apply.outs) (((b.1.set s.1.toNat ((b.1.getD s.1.toNat 0) - 1)).set s.2.1.toNat (((b.1.set s.1.toNat ((b.1.getD s.1.toNat 0) - 1)).getD s.2.1.toNat 0) + 1), b.2), ()) (c_spec_l04Apply.out (v, b, s, ()))))))))) (bsp s.2.2.2 ((inK .i64 (v.1 - 1)) ∧ ((inK .i64 ((v.1 - 1) - s.2.1)) ∧ ((0 ≤ ((v.1 - 1) - s.2.1) ∧ ((v.1 - 1) - s.2.1) < (b.2.length : Int)) ∧ ((((v.1 - 1) - s.2.1).toNat < b.2.length) ∧ ((inK .i64 ((b.2.getD ((v.1 - 1) - s.2.1).toNat 0) - 1)) ∧ ((0 ≤ ((v.1 - 1) - s.2.1) ∧ ((v.1 - 1) - s.2.1) < (b.2.length : Int)) ∧ ((((v.1 - 1) - s.2.1).toNat < b.2.length) ∧ ((0 ≤ v.1 ∧ v.1 < ((b.2.set ((v.1 - 1) - s.2.1).toNat ((b.2.getD ((v.1 - 1) - s.2.1).toNat 0) - 1)).length : Int)) ∧ ((v.1.toNat < (b.2.set ((v.1 - 1) - s.2.1).toNat ((b.2.getD ((v.1 - 1) - s.2.1).toNat 0) - 1)).length) ∧ ((inK .i64 (((b.2.set ((v.1 - 1) - s.2.1).toNat ((b.2.getD ((v.1 - 1) - s.2.1).toNat 0) - 1)).getD v.1.toNat 0) + 1)) ∧ ((0 ≤ v.1 ∧ v.1 < ((b.2.set ((v.1 - 1) - s.2.1).toNat ((b.2.getD ((v.1 - 1) - s.2.1).toNat 0) - 1)).length : Int)) ∧ ((v.1.toNat < (b.2.set ((v.1 - 1) - s.2.1).toNat ((b.2.getD ((v.1 - 1) - s.2.1).toNat 0) - 1)).length) ∧ (@Eq (HO c_spec_l04Apply.outs) ((b.1.set s.1.toNat ((b.1.getD s.1.toNat 0) - 1), (b.2.set ((v.1 - 1) - s.2.1).toNat ((b.2.getD ((v.1 - 1) - s.2.1).toNat 0) - 1)).set v.1.toNat (((b.2.set ((v.1 - 1) - s.2.1).toNat ((b.2.getD ((v.1 - 1) - s.2.1).toNat 0) - 1)).getD v.1.toNat 0) + 1)), ()) (c_spec_l04Apply.out (v, b, s, ()))))))))))))))) (@Eq (HO c_spec_l04Apply.outs) ((b.1.set s.1.toNat ((b.1.getD s.1.toNat 0) - 1), b.2), ()) (c_spec_l04Apply.out (v, b, s, ())))))))))))))) (by kernel_rfl) ?_
  rintro v b s ⟨hb, h0, h1, h2⟩ hl
  obtain ⟨b1, b2, l1, l2, v1, v2, v3, v4, v5, v6⟩ := hb.facts
  have hne : NeB b := ⟨⟨fun e => by rw [e] at l1; simp at l1; omega, by omega⟩, fun e => by rw [e] at l2; simp at l2; omega, by omega⟩
  have p1 : ∀ k, -1 ≤ (b.1.set s.1.toNat (b.1.getD s.1.toNat 0 - 1)).getD k 0 ∧ (b.1.set s.1.toNat (b.1.getD s.1.toNat 0 - 1)).getD k 0 ≤ 15 := fun k => by
    have := b1.at k; have := b1.at s.1.toNat
    rw [getD_set]; split <;> omega
  have p2 : ∀ k, -1 ≤ (b.2.set (v.1 - 1 - s.2.1).toNat (b.2.getD (v.1 - 1 - s.2.1).toNat 0 - 1)).getD k 0 ∧ (b.2.set (v.1 - 1 - s.2.1).toNat (b.2.getD (v.1 - 1 - s.2.1).toNat 0 - 1)).getD k 0 ≤ 15 := fun k => by
    have := b2.at k; have := b2.at (v.1 - 1 - s.2.1).toNat
    rw [getD_set]; split <;> omega
  have q1 := b1.at s.1.toNat
  have q2 := p1 s.2.1.toNat
  have q3 := b2.at (v.1 - 1 - s.2.1).toNat
  have q4 := p2 v.1.toNat
  clear hl p1 p2 hb
  simp only [List.length_set]
  repeat' first
    | refine ⟨hne, ?_⟩
    | refine bspD (fun _ => ?_) (fun _ => ?_)
    | refine bspB (fun _ => ?_) (fun _ => ?_)
    | refine ⟨(by first | omega | (simp only [inK]; omega)), ?_⟩
    | fail
  all_goals (clear q1 q2 q3 q4 hne b1 b2; simp_all [c_spec_l04Apply, afterD, addAt, subAt] <;> (intros; omega))
/-- whether a step is legal -/
def legalB (v : DVar) (b : DBoard) (s : DStep) : Bool := !overD b && (inB s.2.2.1 1 v.2.2.2 && (inB s.1 0 v.1 && decide (stepD v b s.1 s.2.2.1 = some s)))
theorem eq4 (x s : DStep) : (decide (x.1 = s.1) && (decide (x.2.1 = s.2.1) && (decide (x.2.2.1 = s.2.2.1) && (x.2.2.2 == s.2.2.2 && true)))) = decide (x = s) := by
  obtain ⟨a, b, c, d⟩ := x
  obtain ⟨a', b', c', d'⟩ := s
  simp only [Prod.mk.injEq, Bool.and_true, Bool.decide_and]
  cases d <;> cases d' <;> rfl
theorem inB_iff {n lo hi : Int} : inB n lo hi = true ↔ lo ≤ n ∧ n ≤ hi := by simp [inB]
end Go.Proofs.Ytgbfcjnkohhfoaa
