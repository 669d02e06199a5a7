/-
  Contracts: expected numbers of rolls, the reference's.
-/
import Derived.Test.YtoobijimfccfgaaVExpI
import Derived.Test.YtoobijimfccfgaaVCG
namespace Go.Proofs.Ytoobijimfccfgaa
open Go.RowKit
set_option linter.unusedSimpArgs false
set_option linter.unusedVariables false
abbrev MS := List Bool × List DExact
abbrev DTab := DVar × List Bool × List DExact × Bool
def bestS (E : MS → List Int → (DExact × Bool) × MS) (v : DVar) : List (List Int) → Int → Int × DExact → MS → (Int × DExact × Bool) × MS
  | [], _, b, T => ((b.1, b.2, true), T)
  | q :: qs, i, b, T => if (E T q).1.2 = false then ((0, (0, 0), false), (E T q).2)
    else bestS E v qs (i + 1) (if i = 0 ∨ cmpD v (E T q).1.1 b.2 < 0 then (i, (E T q).1.1) else b) (E T q).2
def rollsS (E : MS → List Int → (DExact × Bool) × MS) (v : DVar) (p : List Int) : List DRoll → List DExact → MS → (List DExact × Bool) × MS
  | [], vs, T => ((vs, true), T)
  | r :: rs, vs, T => if (bestS E v (specRes p r) 0 (0, (0, 0)) T).1.2.2 = false then (([], false), (bestS E v (specRes p r) 0 (0, (0, 0)) T).2)
    else rollsS E v p rs (vs ++ [(bestS E v (specRes p r) 0 (0, (0, 0)) T).1.2.1]) (bestS E v (specRes p r) 0 (0, (0, 0)) T).2
/-- what is kept of a position's rolls -/
def tabS (v : DVar) (k : Nat) (c : (List DExact × Bool) × MS) : (DExact × Bool) × MS :=
  if (finE v c.1).2 = false then (((0, 0), false), c.2) else (finE v c.1, (c.2.1.set k true, c.2.2.set k (finE v c.1).1))
def expS (v : DVar) : Nat → MS → List Int → (DExact × Bool) × MS
  | 0, T, _ => (((0, 0), true), T)
  | n + 1, T, p => if keyP v p = 0 then (((0, 0), true), T) else
    if T.1.getD (keyP v p).toNat false = true then ((T.2.getD (keyP v p).toNat (0, 0), true), T)
    else tabS v (keyP v p).toNat (rollsS (expS v n) v p (rollsTo v.2.2.2.toNat) [] T)
/-- a table of the variant: one place a position, valid numbers -/
structure OkMS (v : DVar) (T : MS) : Prop where
  l1 : T.1.length = chs v.2.1.toNat v.2.2.1.toNat
  l2 : T.2.length = chs v.2.1.toNat v.2.2.1.toNat
  x : ∀ i : Nat, exD v (T.2.getD i (0, 0)) = true
structure PreS (n : Nat) (t : DTab) (p : List Int) : Prop where
  v : varD t.1 = true
  g : t.2.2.2 = false
  c : chs t.1.2.1.toNat t.1.2.2.1.toNat ≤ 1000000
  b : bearD t.1 p = true
  ok : OkMS t.1 (t.2.1, t.2.2.1)
  le : wS pw p p.length ≤ (n : Int)
structure PreT (n : Nat) (t : DTab) (p : List Int) : Prop where
  i : PreS n t p
  pos : p.sum ≠ 0
/-- of a list of results: each has at most n pips -/
structure PreL (n : Nat) (t : DTab) (l : List (List Int)) : Prop where
  v : varD t.1 = true
  g : t.2.2.2 = false
  c : chs t.1.2.1.toNat t.1.2.2.1.toNat ≤ 1000000
  b : ∀ q, q ∈ l → bearD t.1 q = true ∧ wS pw q q.length ≤ (n : Int)
  ok : OkMS t.1 (t.2.1, t.2.2.1)
  len : l.length ≤ 1000000
def exS (n : Nat) (t : DTab) (p : List Int) : (DExact × Bool) × MS := expS t.1 n (t.2.1, t.2.2.1) p
def roS (n : Nat) (t : DTab) (p : List Int) (r : DRoll) : (Int × DExact × Bool) × MS := bestS (expS t.1 (n - 1)) t.1 (specRes p r) 0 (0, (0, 0)) (t.2.1, t.2.2.1)
def beS (n : Nat) (t : DTab) (l : List (List Int)) : (Int × DExact × Bool) × MS := bestS (expS t.1 n) t.1 l 0 (0, (0, 0)) (t.2.1, t.2.2.1)
theorem numE_key {v : DVar} {p : List Int} (hv : varD v = true) (hb : bearD v p = true) : 0 ≤ keyP v p ∧ (keyP v p).toNat < chs v.2.1.toNat v.2.2.1.toNat := by
  obtain ⟨h1, h2, h3, h4, h5⟩ := bear_ok hv hb
  have h6 := (varD_iff.1 hv).2.1
  have := numE_bd (fun j => (h1.nn j)) p.length v.2.1.toNat (Nat.le_refl _) (by omega) (by omega) (by rw [sumTo_all]; omega)
  unfold keyP
  rw [show v.2.2.1.toNat = p.length by omega]
  omega
theorem sum_zeros : ∀ {l : List Int}, (∀ j : Nat, l.getD j 0 = 0) → l.sum = 0
  | [], _ => rfl
  | z :: l, h => by
    have h0 : z = 0 := h 0
    have := sum_zeros (l := l) fun j => by simpa using h (j + 1)
    simp [h0, this]
theorem numE_zeroS {zs : List Int} : ∀ {j l : Nat}, (∀ k, k < j → zs.getD k 0 = 0) → numE zs j l = 0
  | 0, l, _ => rfl
  | j + 1, l, h => by
    simp only [numE]
    rw [h j (by omega), numE_zeroS fun k hk => h k (by omega)]; rfl
theorem skipTo_mono {i l : Nat} : ∀ {a b : Nat}, a ≤ b → skipTo i l a ≤ skipTo i l b
  | a, 0, h => by obtain rfl : a = 0 := by omega
                  exact Nat.le_refl _
  | a, b + 1, h => by
    by_cases e : a = b + 1
    · subst e; exact Nat.le_refl _
    · have := skipTo_mono (i := i) (l := l) (a := a) (b := b) (by omega)
      simp only [skipTo]; omega
/-- a position is found again by its number -/
theorem numE_inj {zs ys : List Int} (hz : ∀ j : Nat, 0 ≤ zs.getD j 0) (hy : ∀ j : Nat, 0 ≤ ys.getD j 0) : ∀ (j l : Nat), j ≤ zs.length → j ≤ ys.length → j ≤ 24 → l ≤ 15 → sumTo zs j ≤ (l : Int) → sumTo ys j ≤ (l : Int) → numE zs j l = numE ys j l → ∀ k, k < j → zs.getD k 0 = ys.getD k 0
  | 0, _, _, _, _, _, _, _, _ => fun k hk => by omega
  | j + 1, l, h1, h2, h3, h4, h5, h6, e => by
    have z0 := hz j
    have y0 := hy j
    rw [sumTo_succ (by omega)] at h5 h6
    have s1 := (sumTo_le_sum hz j (by omega)).1
    have s2 := (sumTo_le_sum hy j (by omega)).1
    have b1 := numE_bd hz j (l - (zs.getD j 0).toNat) (by omega) (by omega) (by omega) (by omega)
    have b2 := numE_bd hy j (l - (ys.getD j 0).toNat) (by omega) (by omega) (by omega) (by omega)
    simp only [numE] at e
    have hd : zs.getD j 0 = ys.getD j 0 := by
      apply Decidable.byContradiction
      intro hne
      by_cases hlt : zs.getD j 0 < ys.getD j 0
      · have := skipTo_mono (i := j) (l := l) (a := (zs.getD j 0).toNat + 1) (b := (ys.getD j 0).toNat) (by omega)
        simp only [skipTo] at this
        omega
      · have := skipTo_mono (i := j) (l := l) (a := (ys.getD j 0).toNat + 1) (b := (zs.getD j 0).toNat) (by omega)
        simp only [skipTo] at this
        omega
    rw [hd] at e
    intro k hk
    by_cases hkj : k = j
    · subst hkj; exact hd
    · exact numE_inj hz hy j (l - (ys.getD j 0).toNat) (by omega) (by omega) (by omega) (by omega) (by rw [← hd]; omega) (by omega) (by omega) k (by omega)
theorem key_inj {v : DVar} {p q : List Int} (hv : varD v = true) (hp : bearD v p = true) (hq : bearD v q = true) (e : keyP v p = keyP v q) : p = q := by
  obtain ⟨h1, h2, h3, h4, h5⟩ := bear_ok hv hp
  obtain ⟨k1, k2, k3, k4, k5⟩ := bear_ok hv hq
  have h6 := (varD_iff.1 hv).2.1
  have hl : p.length = q.length := by omega
  unfold keyP at e
  rw [hl] at e
  have := numE_inj h1.nn k1.nn q.length v.2.1.toNat (by omega) (Nat.le_refl _) (by omega) (by omega) (by rw [← hl, sumTo_all]; omega) (by rw [sumTo_all]; omega) (by omega)
  refine List.ext_getElem hl fun i a b => ?_
  have := this i b
  rw [List.getD_eq_getElem?_getD, List.getD_eq_getElem?_getD, List.getElem?_eq_getElem a, List.getElem?_eq_getElem b] at this
  exact this
theorem key_zero {v : DVar} {p : List Int} (hv : varD v = true) (hp : bearD v p = true) : keyP v p = 0 ↔ p.sum = 0 := by
  obtain ⟨h1, h2, h3, h4, h5⟩ := bear_ok hv hp
  have h6 := (varD_iff.1 hv).2.1
  refine ⟨fun e => ?_, fun e => ?_⟩
  · have hz : numE (List.replicate p.length (0 : Int)) p.length v.2.1.toNat = 0 := numE_zeroS fun k _ => by
      rw [List.getD_eq_getElem?_getD, List.getElem?_replicate]; split <;> rfl
    have r0 : ∀ j : Nat, (List.replicate p.length (0 : Int)).getD j 0 = 0 := fun j => by
      rw [List.getD_eq_getElem?_getD, List.getElem?_replicate]; split <;> rfl
    have hs : sumTo (List.replicate p.length (0 : Int)) p.length = 0 := by
      unfold sumTo
      exact sum_zeros fun j => by rw [List.take_of_length_le (by simp)]; exact r0 j
    unfold keyP at e
    have := numE_inj h1.nn (ys := List.replicate p.length (0 : Int)) (fun j => by rw [r0]; decide) p.length v.2.1.toNat (Nat.le_refl _) (by simp) (by omega) (by omega) (by rw [sumTo_all]; omega) (by rw [hs]; omega) (by omega)
    refine sum_zeros fun j => ?_
    by_cases hj : j < p.length
    · rw [this j hj, r0]
    · rw [List.getD_eq_getElem?_getD, List.getElem?_eq_none (by omega)]; rfl
  · have hz : ∀ j : Nat, p.getD j 0 = 0 := zero_of_sum h1.nn e
    unfold keyP
    rw [numE_zeroS fun k _ => hz k]; rfl
def ESk (v : DVar) (n : Nat) (E : MS → List Int → (DExact × Bool) × MS) : Prop := ∀ T q, OkMS v T → bearD v q = true → wS pw q q.length ≤ (n : Int) → exD v (E T q).1.1 = true ∧ OkMS v (E T q).2
theorem bestS_ok {v : DVar} {n : Nat} {E : MS → List Int → (DExact × Bool) × MS} (hE : ESk v n E) : ∀ (qs : List (List Int)) (i : Int) (b : Int × DExact) (T : MS), (∀ q, q ∈ qs → bearD v q = true ∧ wS pw q q.length ≤ (n : Int)) → OkMS v T → exD v b.2 = true →
    OkMS v (bestS E v qs i b T).2 ∧ exD v (bestS E v qs i b T).1.2.1 = true
  | [], i, b, T, _, hT, hb => ⟨hT, hb⟩
  | q :: qs, i, b, T, hq, hT, hb => by
    obtain ⟨h1, h2⟩ := hq q (by simp)
    obtain ⟨e1, e2⟩ := hE T q hT h1 h2
    simp only [bestS]
    split
    · exact ⟨e2, (exD_zero _)⟩
    · refine bestS_ok hE qs _ _ _ (fun x hx => hq x (List.mem_cons_of_mem _ hx)) e2 ?_
      split
      · exact e1
      · exact hb
theorem rollsS_ok {v : DVar} {n : Nat} {E : MS → List Int → (DExact × Bool) × MS} (hE : ESk v n E) {p : List Int} (hres : ∀ r, rollD v r = true → ∀ q, q ∈ specRes p r → bearD v q = true ∧ wS pw q q.length ≤ (n : Int)) : ∀ (rs : List DRoll) (vs : List DExact) (T : MS), (∀ r, r ∈ rs → rollD v r = true) → OkMS v T → allX v vs = true →
    OkMS v (rollsS E v p rs vs T).2 ∧ allX v (rollsS E v p rs vs T).1.1 = true
  | [], vs, T, _, hT, hv => ⟨hT, hv⟩
  | r :: rs, vs, T, hr, hT, hv => by
    obtain ⟨e1, e2⟩ := bestS_ok hE (specRes p r) 0 (0, (0, 0)) T (hres r (hr r (by simp))) hT (exD_zero _)
    simp only [rollsS]
    split
    · exact ⟨e1, rfl⟩
    · refine rollsS_ok hE hres rs _ _ (fun x hx => hr x (List.mem_cons_of_mem _ hx)) e1 ?_
      simp only [allX, List.all_append, List.all_cons, List.all_nil, Bool.and_true, Bool.and_eq_true]
      exact ⟨hv, e2⟩
theorem spec_next {v : DVar} {p : List Int} (hv : varD v = true) (hb : bearD v p = true) (hs : p.sum ≠ 0) {n : Nat} (hn : wS pw p p.length ≤ (n : Int)) {r : DRoll} (hr : rollD v r = true) {q : List Int} (hq : q ∈ specRes p r) : bearD v q = true ∧ wS pw q q.length ≤ ((n - 1 : Nat) : Int) := by
  have hR := bear_res hv hb hr
  rw [specRes_eq hR.ok hR.lo hR.mid, ← implRes_eq hR.ok hR.lo hR.mid] at hq
  have := impl_next hv hb hs hn hr hq
  exact ⟨this.1, this.2.1⟩
theorem OkMS.set {v : DVar} {T : MS} {k : Nat} {x : DExact} {b : Bool} (h : OkMS v T) (hx : exD v x = true) : OkMS v (T.1.set k b, T.2.set k x) := by
  refine ⟨by rw [List.length_set]; exact h.l1, by rw [List.length_set]; exact h.l2, fun i => ?_⟩
  have := h.x i
  simp only [List.getD_eq_getElem?_getD, List.getElem?_set] at this ⊢
  split
  · split
    · exact hx
    · exact (exD_zero _)
  · exact this
theorem expS_ok {v : DVar} (hv : varD v = true) : ∀ n, ESk v n (expS v n)
  | 0 => fun T q hT _ _ => ⟨(exD_zero _), hT⟩
  | n + 1 => fun T q hT hb hn => by
    simp only [expS]
    split
    · exact ⟨(exD_zero _), hT⟩
    next hs =>
    have hs : q.sum ≠ 0 := fun e => hs ((key_zero hv hb).2 e)
    split
    · exact ⟨hT.x _, hT⟩
    · have hR := rollsS_ok (expS_ok hv n) (p := q) (fun r hr q' hq' => spec_next hv hb hs hn hr hq') (rollsTo v.2.2.2.toNat) [] T (fun r hr => rolls_ok hv hr) hT rfl
      unfold tabS
      split
      · exact ⟨(exD_zero _), hR.1⟩
      · exact ⟨finE_ok.1, hR.1.set finE_ok.1⟩
theorem exD_1 {v : DVar} : exD v (1, 0) = true := by simp [exD, inB]
theorem specRes_len {p : List Int} {r : DRoll} (hp : ResOk p r) : (specRes p r).length ≤ 663552 := by
  rw [specRes_eq hp.ok hp.lo hp.mid, ← implRes_eq hp.ok hp.lo hp.mid]; exact implRes_lenE hp
def c_spec_l11Greedy : Con where
  ins := [(false, .v (.sl tSI))]
  outs := [(false, .v tSI)]
  sh := false
  pre := fun _ => False
  out := fun _ => (([] : List Int), ())
  upd := fun x => x
  eat := false
theorem k_spec_l11Greedy [B : Base] : ConOk Try.prog 35 c_spec_l11Greedy :=
  ⟨⟨_, _, Try.func35, by kernel_rfl, rfl⟩, fun _ _ _ _ _ _ _ _ _ _ _ _ h => h.elim⟩
def c_spec_l11One : Con where
  ins := []
  outs := [(true, .v tRoll)]
  sh := false
  pre := fun _ => True
  out := fun _ => ((1, 0), ())
  upd := fun x => x
  eat := false
theorem k_spec_l11One [B : Base] : ConOk Try.prog 24 c_spec_l11One := by
  refine fn_ok (C := cx Try.prog 2 c_spec_l11One) (cs := []) (res := Try.f24.results.toList) (fun _ => ⟨[], [], []⟩) Try.func24 (by kernel_rfl) rfl rfl rfl tysOk.look eqTsOk.look (AllCs.ok (l := []) trivial) mixed rfl rfl rfl rfl ?_
  refine of_nf (P := (True) → ((lensI c_spec_l11One.ins (())) → (@Eq (HO c_spec_l11One.outs) ((1, 0), ()) (c_spec_l11One.out (()))))) (by kernel_rfl) ?_
  intro _ hl
  rfl
def c_spec_l11Value (n : Nat) : Con where
  ins := [(false, .bo (.pr (.v tVar) (.pr (.own 4 .b) (.pr (.own 26 tRoll) (.v .b))))), (false, .v tSI)]
  outs := [(true, .v tRoll), (false, .v .b)]
  sh := false
  pre := fun x => PreS n x.1 x.2.1
  out := fun x => ((exS n x.1 x.2.1).1.1, (exS n x.1 x.2.1).1.2, ())
  upd := fun x => ((x.1.1, (exS n x.1 x.2.1).2.1, (exS n x.1 x.2.1).2.2, x.1.2.2.2), x.2.1, ())
  eat := false
def c_spec_l11Best (n : Nat) : Con where
  ins := [(false, .bo (.pr (.v tVar) (.pr (.own 4 .b) (.pr (.own 26 tRoll) (.v .b))))), (false, .v (.sl tSI))]
  outs := [(false, .v tI), (true, .v tRoll), (false, .v .b)]
  sh := false
  pre := fun x => PreL n x.1 x.2.1
  out := fun x => ((beS n x.1 x.2.1).1.1, (beS n x.1 x.2.1).1.2.1, (beS n x.1 x.2.1).1.2.2, ())
  upd := fun x => ((x.1.1, (beS n x.1 x.2.1).2.1, (beS n x.1 x.2.1).2.2, x.1.2.2.2), x.2.1, ())
  eat := false
theorem k_spec_l11Best [B : Base] {n : Nat} (h : ConOk Try.prog 11 (c_spec_l11Value n)) : ConOk Try.prog 36 (c_spec_l11Best n) := by
  refine fn_okW (C := cx Try.prog 47 (c_spec_l11Best n)) (cs := [(11, (c_spec_l11Value n)), (53, c_spec_l09Compare)]) (res := Try.f36.results.toList) (fun x => ⟨[{ sh := ⟨[(0, .one (.ref 0)), (1, .one (.ref 3)), (5, .one (.ref 4)), (7, .one (.i .i64)), (8, .one (.ref 5)), (9, .one (.i .i64))], [(3, .imm tSI false), (4, .box [.i .i64, .i .i64]), (5, .box [.i .i64, .i .i64]), (0, .box [.i .i64, .i .i64, .i .i64, .i .i64, .ref 1, .ref 2, .b]), (1, .own 4 .b true), (2, .own 26 tRoll true)]⟩, nx := 6, I := fun _ dat_ => (x.2.1 = dat_.2.1 ∧ (0 : Int) = dat_.2.2.1.1 ∧ (0 : Int) = dat_.2.2.1.2.1 ∧ x.1.1.1 = dat_.2.2.2.2.1.1 ∧ x.1.1.2.1 = dat_.2.2.2.2.1.2.1 ∧ x.1.1.2.2.1 = dat_.2.2.2.2.1.2.2.1 ∧ x.1.1.2.2.2 = dat_.2.2.2.2.1.2.2.2.1 ∧ x.1.2.2.2 = dat_.2.2.2.2.1.2.2.2.2.2.2.1) ∧ (bestS (expS x.1.1 n) x.1.1 (List.drop (Int.toNat dat_.1.2.2.2.2.2.1) x.2.1) dat_.1.2.2.2.2.2.1 (dat_.1.2.2.2.1, (dat_.2.2.2.1.1, dat_.2.2.2.1.2.1)) (dat_.2.2.2.2.2.1, dat_.2.2.2.2.2.2.1) = beS n x.1 x.2.1 ∧ OkMS x.1.1 (dat_.2.2.2.2.2.1, dat_.2.2.2.2.2.2.1) ∧ exD x.1.1 (dat_.2.2.2.1.1, dat_.2.2.2.1.2.1) = true ∧ 0 ≤ dat_.1.2.2.2.2.2.1 ∧ dat_.1.2.2.2.2.2.1 ≤ (List.length x.2.1 : Int)), mu := fun dat_ => Int.toNat ((List.length x.2.1 : Int) - dat_.1.2.2.2.2.2.1) }], [(9, ⟨[[], [0], [0, 1], [0, 1, 2], [0, 1, 2, 3], [0, 1, 2, 3, 4], [0, 1, 2, 3, 4, 5], [0, 1, 2], [0, 1, 2], [0, 1, 2, 3, 4, 5, 6, 7, 8], [0, 1, 2, 3, 4, 5, 6, 7, 8, 9], [0, 1, 2, 3, 4, 5, 6, 7, 8, 9, 10]], [[], [], [], [7, 8], [7, 8], [7, 8], [7, 8], [3, 4, 5, 6, 8], [3, 4, 5, 6, 7], [], [], []], []⟩), (12, ⟨[[], [], [0], [0, 1, 2], [0, 1, 2, 3]], [[1], [0, 2], [1], [], []], []⟩)], []⟩) Try.func36 (by kernel_rfl) rfl rfl rfl tysOk.look eqTsOk.look (AllCs.ok (l := [(11, (c_spec_l11Value n)), (53, c_spec_l09Compare)]) ⟨h, k_spec_l09Compare, trivial⟩) mixed rfl rfl rfl rfl ?_
  refine of_nf (P := ∀ o : (Int × Int × Int × Int) × (List Bool) × (List (Int × Int)) × Bool, ∀ l : List (List Int), (PreL n o l) → ((lensI (c_spec_l11Best n).ins (o, l, ())) → (((l = l ∧ (0 : Int) = 0 ∧ (0 : Int) = 0 ∧ o.1.1 = o.1.1 ∧ o.1.2.1 = o.1.2.1 ∧ o.1.2.2.1 = o.1.2.2.1 ∧ o.1.2.2.2 = o.1.2.2.2 ∧ o.2.2.2 = o.2.2.2) ∧ (bestS (expS o.1 n) o.1 (List.drop (Int.toNat (0 : Int)) l) (0 : Int) ((0 : Int), ((0 : Int), (0 : Int))) (o.2.1, o.2.2.1) = beS n o l ∧ OkMS o.1 (o.2.1, o.2.2.1) ∧ exD o.1 ((0 : Int), (0 : Int)) = true ∧ 0 ≤ (0 : Int) ∧ (0 : Int) ≤ (List.length l : Int))) ∧ (∀ k : Int, ∀ i : Int, ∀ ll : List (List Int), ∀ t5_0 : Int, ∀ t5_1 : Int, ∀ b_0 : Int, ∀ b_1 : Int, ∀ o_0 : Int, ∀ o_1 : Int, ∀ o_2 : Int, ∀ o_3 : Int, ∀ o_6 : Bool, ∀ o_4 : List Bool, ∀ o_5 : List (Int × Int), ((l = ll ∧ (0 : Int) = t5_0 ∧ (0 : Int) = t5_1 ∧ o.1.1 = o_0 ∧ o.1.2.1 = o_1 ∧ o.1.2.2.1 = o_2 ∧ o.1.2.2.2 = o_3 ∧ o.2.2.2 = o_6) ∧ (bestS (expS o.1 n) o.1 (List.drop (Int.toNat i) l) i (k, (b_0, b_1)) (o_4, o_5) = beS n o l ∧ OkMS o.1 (o_4, o_5) ∧ exD o.1 (b_0, b_1) = true ∧ 0 ≤ i ∧ i ≤ (List.length l : Int))) → (bsp (decide (i < (ll.length : Int))) ((0 ≤ i ∧ i < (ll.length : Int)) ∧ ((i.toNat < ll.length) ∧ ((PreS n ((o_0, o_1, o_2, o_3), o_4, o_5, o_6) (ll.getD i.toNat [])) ∧ (bsp (!(exS n ((o_0, o_1, o_2, o_3), o_4, o_5, o_6) (ll.getD i.toNat [])).1.2) (@Eq (HO (c_spec_l11Best n).outs) (0, (0, 0), false, ()) ((c_spec_l11Best n).out (o, l, ())) ∧ @Eq (HI (c_spec_l11Best n).ins) ((((o_0, o_1, o_2, o_3), o_4, o_5, o_6).1, (exS n ((o_0, o_1, o_2, o_3), o_4, o_5, o_6) (ll.getD i.toNat [])).2.1, (exS n ((o_0, o_1, o_2, o_3), o_4, o_5, o_6) (ll.getD i.toNat [])).2.2, ((o_0, o_1, o_2, o_3), o_4, o_5, o_6).2.2.2), l, ()) ((c_spec_l11Best n).upd (o, l, ()))) (bsp (decide (i = (0 : Int))) ((inK .i64 (i + 1)) ∧ (((l = ll ∧ (0 : Int) = t5_0 ∧ (0 : Int) = t5_1 ∧ o.1.1 = ((o_0, o_1, o_2, o_3), o_4, o_5, o_6).1.1 ∧ o.1.2.1 = ((o_0, o_1, o_2, o_3), o_4, o_5, o_6).1.2.1 ∧ o.1.2.2.1 = ((o_0, o_1, o_2, o_3), o_4, o_5, o_6).1.2.2.1 ∧ o.1.2.2.2 = ((o_0, o_1, o_2, o_3), o_4, o_5, o_6).1.2.2.2 ∧ o.2.2.2 = ((o_0, o_1, o_2, o_3), o_4, o_5, o_6).2.2.2) ∧ (bestS (expS o.1 n) o.1 (List.drop (Int.toNat (i + 1)) l) (i + 1) (i, ((exS n ((o_0, o_1, o_2, o_3), o_4, o_5, o_6) (ll.getD i.toNat [])).1.1.1, (exS n ((o_0, o_1, o_2, o_3), o_4, o_5, o_6) (ll.getD i.toNat [])).1.1.2)) ((exS n ((o_0, o_1, o_2, o_3), o_4, o_5, o_6) (ll.getD i.toNat [])).2.1, (exS n ((o_0, o_1, o_2, o_3), o_4, o_5, o_6) (ll.getD i.toNat [])).2.2) = beS n o l ∧ OkMS o.1 ((exS n ((o_0, o_1, o_2, o_3), o_4, o_5, o_6) (ll.getD i.toNat [])).2.1, (exS n ((o_0, o_1, o_2, o_3), o_4, o_5, o_6) (ll.getD i.toNat [])).2.2) ∧ exD o.1 ((exS n ((o_0, o_1, o_2, o_3), o_4, o_5, o_6) (ll.getD i.toNat [])).1.1.1, (exS n ((o_0, o_1, o_2, o_3), o_4, o_5, o_6) (ll.getD i.toNat [])).1.1.2) = true ∧ 0 ≤ (i + 1) ∧ (i + 1) ≤ (List.length l : Int))) ∧ ((Int.toNat ((List.length l : Int) - (i + 1)) : Nat) < Int.toNat ((List.length l : Int) - i)))) ((varD ((o_0, o_1, o_2, o_3), o_4, o_5, o_6).1 = true ∧ exD ((o_0, o_1, o_2, o_3), o_4, o_5, o_6).1 (exS n ((o_0, o_1, o_2, o_3), o_4, o_5, o_6) (ll.getD i.toNat [])).1.1 = true ∧ exD ((o_0, o_1, o_2, o_3), o_4, o_5, o_6).1 (b_0, b_1) = true) ∧ (bsp (decide ((cmpD ((o_0, o_1, o_2, o_3), o_4, o_5, o_6).1 (exS n ((o_0, o_1, o_2, o_3), o_4, o_5, o_6) (ll.getD i.toNat [])).1.1 (b_0, b_1)) < (0 : Int))) ((inK .i64 (i + 1)) ∧ (((l = ll ∧ (0 : Int) = t5_0 ∧ (0 : Int) = t5_1 ∧ o.1.1 = ((o_0, o_1, o_2, o_3), o_4, o_5, o_6).1.1 ∧ o.1.2.1 = ((o_0, o_1, o_2, o_3), o_4, o_5, o_6).1.2.1 ∧ o.1.2.2.1 = ((o_0, o_1, o_2, o_3), o_4, o_5, o_6).1.2.2.1 ∧ o.1.2.2.2 = ((o_0, o_1, o_2, o_3), o_4, o_5, o_6).1.2.2.2 ∧ o.2.2.2 = ((o_0, o_1, o_2, o_3), o_4, o_5, o_6).2.2.2) ∧ (bestS (expS o.1 n) o.1 (List.drop (Int.toNat (i + 1)) l) (i + 1) (i, ((exS n ((o_0, o_1, o_2, o_3), o_4, o_5, o_6) (ll.getD i.toNat [])).1.1.1, (exS n ((o_0, o_1, o_2, o_3), o_4, o_5, o_6) (ll.getD i.toNat [])).1.1.2)) ((exS n ((o_0, o_1, o_2, o_3), o_4, o_5, o_6) (ll.getD i.toNat [])).2.1, (exS n ((o_0, o_1, o_2, o_3), o_4, o_5, o_6) (ll.getD i.toNat [])).2.2) = beS n o l ∧ OkMS o.1 ((exS n ((o_0, o_1, o_2, o_3), o_4, o_5, o_6) (ll.getD i.toNat [])).2.1, (exS n ((o_0, o_1, o_2, o_3), o_4, o_5, o_6) (ll.getD i.toNat [])).2.2) ∧ exD o.1 ((exS n ((o_0, o_1, o_2, o_3), o_4, o_5, o_6) (ll.getD i.toNat [])).1.1.1, (exS n ((o_0, o_1, o_2, o_3), o_4, o_5, o_6) (ll.getD i.toNat [])).1.1.2) = true ∧ 0 ≤ (i + 1) ∧ (i + 1) ≤ (List.length l : Int))) ∧ ((Int.toNat ((List.length l : Int) - (i + 1)) : Nat) < Int.toNat ((List.length l : Int) - i)))) ((inK .i64 (i + 1)) ∧ (((l = ll ∧ (0 : Int) = t5_0 ∧ (0 : Int) = t5_1 ∧ o.1.1 = ((o_0, o_1, o_2, o_3), o_4, o_5, o_6).1.1 ∧ o.1.2.1 = ((o_0, o_1, o_2, o_3), o_4, o_5, o_6).1.2.1 ∧ o.1.2.2.1 = ((o_0, o_1, o_2, o_3), o_4, o_5, o_6).1.2.2.1 ∧ o.1.2.2.2 = ((o_0, o_1, o_2, o_3), o_4, o_5, o_6).1.2.2.2 ∧ o.2.2.2 = ((o_0, o_1, o_2, o_3), o_4, o_5, o_6).2.2.2) ∧ (bestS (expS o.1 n) o.1 (List.drop (Int.toNat (i + 1)) l) (i + 1) (k, (b_0, b_1)) ((exS n ((o_0, o_1, o_2, o_3), o_4, o_5, o_6) (ll.getD i.toNat [])).2.1, (exS n ((o_0, o_1, o_2, o_3), o_4, o_5, o_6) (ll.getD i.toNat [])).2.2) = beS n o l ∧ OkMS o.1 ((exS n ((o_0, o_1, o_2, o_3), o_4, o_5, o_6) (ll.getD i.toNat [])).2.1, (exS n ((o_0, o_1, o_2, o_3), o_4, o_5, o_6) (ll.getD i.toNat [])).2.2) ∧ exD o.1 (b_0, b_1) = true ∧ 0 ≤ (i + 1) ∧ (i + 1) ≤ (List.length l : Int))) ∧ ((Int.toNat ((List.length l : Int) - (i + 1)) : Nat) < Int.toNat ((List.length l : Int) - i))))))))))) (@Eq (HO (c_spec_l11Best n).outs) (k, (b_0, b_1), true, ()) ((c_spec_l11Best n).out (o, l, ())) ∧ @Eq (HI (c_spec_l11Best n).ins) (((o_0, o_1, o_2, o_3), o_4, o_5, o_6), l, ()) ((c_spec_l11Best n).upd (o, l, ())))))))) (by kernel_rfl) ?_
  rintro o l ⟨hv, hg, hc, hb, ho, hlen⟩ hl

  have out : ∀ R, beS n o l = R → @Eq (HO (c_spec_l11Best n).outs) (R.1.1, R.1.2.1, R.1.2.2, ()) ((c_spec_l11Best n).out (o, l, ())) ∧ @Eq (HI (c_spec_l11Best n).ins) ((o.1, R.2.1, R.2.2, o.2.2.2), l, ()) ((c_spec_l11Best n).upd (o, l, ())) := fun R e => by subst e; exact ⟨rfl, rfl⟩

  have hE := expS_ok hv n
  refine ⟨⟨(by first | trivial | rfl | (and_intros <;> rfl)), rfl, ho, exD_zero _, by omega, by omega⟩, ?_⟩
  rintro k i ll t5_0 t5_1 b_0 b_1 o_0 o_1 o_2 o_3 o_6 o_4 o_5 ⟨⟨rfl, rfl, rfl, rfl, rfl, rfl, rfl, rfl⟩, ⟨hT, hk, hx, i0, i1⟩⟩
  simp only [Prod.eta]
  refine bspD (fun hlt => ?_) (fun hge => ?_)
  · obtain ⟨q, rfl⟩ : ∃ q : Nat, i = q := ⟨i.toNat, by omega⟩
    simp only [Int.toNat_natCast] at hT ⊢
    have hm := getP_mem (l := l) (k := q) (by omega)
    obtain ⟨hq1, hq2⟩ := hb _ hm
    obtain ⟨v1, v2⟩ := hE (o_4, o_5) _ hk hq1 hq2
    rw [drop_consX (l := l) (k := q) (by omega) []] at hT
    simp only [bestS] at hT
    refine ⟨⟨by omega, by omega⟩, by omega, ⟨hv, hg, hc, hq1, hk, hq2⟩, bspB (fun hf => ?_) (fun hf => bspD (fun h0 => ⟨by simp only [inK]; omega, ⟨(by first | trivial | rfl | (and_intros <;> rfl)), ?_, v2, v1, by omega, by omega⟩, by omega⟩) (fun h0 => ⟨⟨hv, v1, hx⟩, bspD (fun hc => ⟨by simp only [inK]; omega, ⟨(by first | trivial | rfl | (and_intros <;> rfl)), ?_, v2, v1, by omega, by omega⟩, by omega⟩) (fun hc => ⟨by simp only [inK]; omega, ⟨(by first | trivial | rfl | (and_intros <;> rfl)), ?_, v2, hx, by omega, by omega⟩, by omega⟩)⟩))⟩
    · have hf' : (expS o.1 n (o_4, o_5) (l.getD q [])).1.2 = false := by simpa [exS] using hf
      rw [if_pos hf'] at hT
      exact out ((0, (0, 0), false), _) hT.symm
    all_goals
      have hf' : ¬ (expS o.1 n (o_4, o_5) (l.getD q [])).1.2 = false := by simpa [exS] using hf
      rw [if_neg hf'] at hT
      rw [show ((q : Int) + 1).toNat = q + 1 by omega]
    · rw [if_pos (.inl h0)] at hT
      exact hT
    · rw [if_pos (.inr hc)] at hT
      exact hT
    · rw [if_neg (fun h => h.elim h0 hc)] at hT
      exact hT
  · rw [List.drop_eq_nil_of_le (by omega)] at hT
    exact out ((k, (b_0, b_1), true), (o_4, o_5)) hT.symm
def c_spec_l11Roll (n : Nat) : Con where
  ins := [(false, .bo (.pr (.v tVar) (.pr (.own 4 .b) (.pr (.own 26 tRoll) (.v .b))))), (false, .v tSI), (true, .v tRoll)]
  outs := [(true, .v tRoll), (false, .v .b)]
  sh := false
  pre := fun x => PreT n x.1 x.2.1 ∧ rollD x.1.1 x.2.2.1 = true
  out := fun x => ((roS n x.1 x.2.1 x.2.2.1).1.2.1, (roS n x.1 x.2.1 x.2.2.1).1.2.2, ())
  upd := fun x => ((x.1.1, (roS n x.1 x.2.1 x.2.2.1).2.1, (roS n x.1 x.2.1 x.2.2.1).2.2, x.1.2.2.2), x.2.1, x.2.2.1, ())
  eat := false
theorem k_spec_l11Roll [B : Base] {n : Nat} (h : ConOk Try.prog 36 (c_spec_l11Best (n - 1))) (h2 : ConOk Try.prog 11 (c_spec_l11Value (n - 1))) : ConOk Try.prog 21 (c_spec_l11Roll n) := by
  refine fn_okW (C := cx Try.prog 38 (c_spec_l11Roll n)) (cs := [(34, c_spec_l10Results), (35, c_spec_l11Greedy), (11, (c_spec_l11Value (n - 1))), (36, (c_spec_l11Best (n - 1)))]) (res := Try.f21.results.toList) (fun _ => ⟨[], [(1, ⟨[[], [0], [0, 1], [0, 1, 2], [], [], [0, 1, 2, 3, 4, 5], [0, 1, 2, 3, 4, 5, 6]], [[4, 5], [4, 5], [4, 5], [4, 5], [0, 1, 2, 3, 5], [0, 1, 2, 3, 4], [], []], []⟩)], []⟩) Try.func21 (by kernel_rfl) rfl rfl rfl tysOk.look eqTsOk.look (AllCs.ok (l := [(34, c_spec_l10Results), (35, c_spec_l11Greedy), (11, (c_spec_l11Value (n - 1))), (36, (c_spec_l11Best (n - 1)))]) ⟨k_spec_l10Results, k_spec_l11Greedy, h2, h, trivial⟩) mixed rfl rfl rfl rfl ?_
  refine of_nf (P := ∀ o : (Int × Int × Int × Int) × (List Bool) × (List (Int × Int)) × Bool, ∀ p : List Int, ∀ r : Int × Int, (PreT n o p ∧ rollD o.1 r = true) → ((lensI (c_spec_l11Roll n).ins (o, p, r, ())) → ((ResOk p r) ∧ (bsp o.2.2.2 ((False) ∧ ((PreS (n - 1) o ([] : List Int)) ∧ (@Eq (HO (c_spec_l11Roll n).outs) ((exS (n - 1) o ([] : List Int)).1.1, (exS (n - 1) o ([] : List Int)).1.2, ()) ((c_spec_l11Roll n).out (o, p, r, ())) ∧ @Eq (HI (c_spec_l11Roll n).ins) ((o.1, (exS (n - 1) o ([] : List Int)).2.1, (exS (n - 1) o ([] : List Int)).2.2, o.2.2.2), p, r, ()) ((c_spec_l11Roll n).upd (o, p, r, ()))))) ((PreL (n - 1) o (specRes p r)) ∧ (@Eq (HO (c_spec_l11Roll n).outs) ((beS (n - 1) o (specRes p r)).1.2.1, (beS (n - 1) o (specRes p r)).1.2.2, ()) ((c_spec_l11Roll n).out (o, p, r, ())) ∧ @Eq (HI (c_spec_l11Roll n).ins) ((o.1, (beS (n - 1) o (specRes p r)).2.1, (beS (n - 1) o (specRes p r)).2.2, o.2.2.2), p, r, ()) ((c_spec_l11Roll n).upd (o, p, r, ())))))))) (by kernel_rfl) ?_
  rintro o p r ⟨⟨⟨hv, hg, hc, hb, ho, hle⟩, hpos⟩, hr⟩ hl

  have out : ∀ R, roS n o p r = R → @Eq (HO (c_spec_l11Roll n).outs) (R.1.2.1, R.1.2.2, ()) ((c_spec_l11Roll n).out (o, p, r, ())) ∧ @Eq (HI (c_spec_l11Roll n).ins) ((o.1, R.2.1, R.2.2, o.2.2.2), p, r, ()) ((c_spec_l11Roll n).upd (o, p, r, ())) := fun R e => by subst e; exact ⟨rfl, rfl⟩

  have hR := bear_res hv hb hr
  have hlen := specRes_len hR
  exact ⟨hR, bspB (fun h => by rw [hg] at h; cases h) (fun _ => ⟨⟨hv, hg, hc, fun q hq => spec_next hv hb hpos hle hr hq, ho, by omega⟩, out _ rfl⟩)⟩
theorem k_spec_l11Value [B : Base] {n : Nat} (h : ConOk Try.prog 21 (c_spec_l11Roll n)) : ConOk Try.prog 11 (c_spec_l11Value n) := by
  refine fn_okW (C := cx Try.prog 107 (c_spec_l11Value n)) (cs := [(19, c_spec_l10Number), (20, c_spec_l09Rolls), (21, (c_spec_l11Roll n)), (22, c_spec_l09Mean), (24, c_spec_l11One), (23, c_spec_l09Add)]) (res := Try.f11.results.toList) (fun x => ⟨[{ sh := ⟨[(0, .one (.ref 0)), (1, .one (.ref 3)), (4, .one (.ref 4)), (6, .one (.i .i64)), (7, .one (.ref 5)), (8, .one (.ref 6)), (9, .one (.i .i64))], [(3, .imm tI false), (4, .box [.i .i64, .i .i64]), (5, .imm tRoll true), (6, .own 26 tRoll true), (0, .box [.i .i64, .i .i64, .i .i64, .i .i64, .ref 1, .ref 2, .b]), (1, .own 4 .b true), (2, .own 26 tRoll true)]⟩, nx := 7, I := fun _ dat_ => ((numE x.2.1 (List.length x.2.1) (Int.toNat x.1.1.2.1) : Int) = dat_.1.2.2.2.1 ∧ x.2.1 = dat_.2.1 ∧ (0 : Int) = dat_.2.2.1.1 ∧ (0 : Int) = dat_.2.2.1.2.1 ∧ rollsTo (Int.toNat x.1.1.2.2.2) = dat_.2.2.2.1 ∧ x.1.1.1 = dat_.2.2.2.2.2.1.1 ∧ x.1.1.2.1 = dat_.2.2.2.2.2.1.2.1 ∧ x.1.1.2.2.1 = dat_.2.2.2.2.2.1.2.2.1 ∧ x.1.1.2.2.2 = dat_.2.2.2.2.2.1.2.2.2.1 ∧ x.1.2.2.2 = dat_.2.2.2.2.2.1.2.2.2.2.2.2.1) ∧ (rollsS (expS x.1.1 (n - 1)) x.1.1 x.2.1 (List.drop (Int.toNat dat_.1.2.2.2.2.2.2.1) (rollsTo (Int.toNat x.1.1.2.2.2))) dat_.2.2.2.2.1 (dat_.2.2.2.2.2.2.1, dat_.2.2.2.2.2.2.2.1) = rollsS (expS x.1.1 (n - 1)) x.1.1 x.2.1 (rollsTo (Int.toNat x.1.1.2.2.2)) [] (x.1.2.1, x.1.2.2.1) ∧ OkMS x.1.1 (dat_.2.2.2.2.2.2.1, dat_.2.2.2.2.2.2.2.1) ∧ allX x.1.1 dat_.2.2.2.2.1 = true ∧ List.length (dat_.2.2.2.2.1 : List DExact) = Int.toNat dat_.1.2.2.2.2.2.2.1 ∧ 0 ≤ dat_.1.2.2.2.2.2.2.1 ∧ dat_.1.2.2.2.2.2.2.1 ≤ (List.length (rollsTo (Int.toNat x.1.1.2.2.2)) : Int)), mu := fun dat_ => Int.toNat ((List.length (rollsTo (Int.toNat x.1.1.2.2.2)) : Int) - dat_.1.2.2.2.2.2.2.1) }], [(18, ⟨[[], [0], [0, 1], [0, 1, 2], [], [], [0, 1, 2, 3, 4, 5], [0, 1, 2, 3, 4, 5, 6], [0, 1, 2, 3, 4, 5, 6, 7], [0, 1, 2, 3, 4, 5, 6, 7], [], [0, 1, 2, 3, 4, 5, 6, 7, 8, 10], [0, 1, 2, 3, 4, 5, 6, 7, 8, 9, 10, 11]], [[4, 5, 10], [4, 5, 10], [4, 5, 10], [4, 5, 10], [0, 1, 2, 3, 5, 10], [0, 1, 2, 3, 4, 10], [10], [10], [9, 10], [8, 10, 11], [0, 1, 2, 3, 4, 5, 6, 7, 8, 9], [9], []], []⟩), (22, ⟨[[], [0], [0, 1], [0, 1, 2], [], [], [0, 1, 2, 3, 4, 5], [0, 1, 2, 3, 4, 5, 6]], [[4, 5], [4, 5], [4, 5], [4, 5], [0, 1, 2, 3, 5], [0, 1, 2, 3, 4], [], []], []⟩)], []⟩) Try.func11 (by kernel_rfl) rfl rfl rfl tysOk.look eqTsOk.look (AllCs.ok (l := [(19, c_spec_l10Number), (20, c_spec_l09Rolls), (21, (c_spec_l11Roll n)), (22, c_spec_l09Mean), (24, c_spec_l11One), (23, c_spec_l09Add)]) ⟨k_spec_l10Number, k_spec_l09Rolls, h, k_spec_l09Mean, k_spec_l11One, k_spec_l09Add, trivial⟩) mixed rfl rfl rfl rfl ?_
  refine of_nf (P := ∀ o : (Int × Int × Int × Int) × (List Bool) × (List (Int × Int)) × Bool, ∀ p : List Int, (PreS n o p) → ((lensI (c_spec_l11Value n).ins (o, p, ())) → (((varD o.1 = true ∧ bearD o.1 p = true) ∧ chs (Int.toNat o.1.2.1) (Int.toNat o.1.2.2.1) ≤ 1000000) ∧ (bsp (decide ((numE p (List.length p) (Int.toNat o.1.2.1) : Int) = (0 : Int))) (@Eq (HO (c_spec_l11Value n).outs) ((0, 0), true, ()) ((c_spec_l11Value n).out (o, p, ())) ∧ @Eq (HI (c_spec_l11Value n).ins) (o, p, ()) ((c_spec_l11Value n).upd (o, p, ()))) ((0 ≤ (numE p (List.length p) (Int.toNat o.1.2.1) : Int) ∧ (numE p (List.length p) (Int.toNat o.1.2.1) : Int) < (o.2.1.length : Int)) ∧ (((numE p (List.length p) (Int.toNat o.1.2.1) : Int).toNat < o.2.1.length) ∧ (bsp (o.2.1.getD (numE p (List.length p) (Int.toNat o.1.2.1) : Int).toNat false) ((0 ≤ (numE p (List.length p) (Int.toNat o.1.2.1) : Int) ∧ (numE p (List.length p) (Int.toNat o.1.2.1) : Int) < (o.2.2.1.length : Int)) ∧ (((numE p (List.length p) (Int.toNat o.1.2.1) : Int).toNat < o.2.2.1.length) ∧ (@Eq (HO (c_spec_l11Value n).outs) ((o.2.2.1.getD (numE p (List.length p) (Int.toNat o.1.2.1) : Int).toNat (0, 0)), true, ()) ((c_spec_l11Value n).out (o, p, ())) ∧ @Eq (HI (c_spec_l11Value n).ins) (o, p, ()) ((c_spec_l11Value n).upd (o, p, ()))))) ((0 ≤ o.1.2.2.2 ∧ o.1.2.2.2 ≤ 6) ∧ ((((numE p (List.length p) (Int.toNat o.1.2.1) : Int) = (numE p (List.length p) (Int.toNat o.1.2.1) : Int) ∧ p = p ∧ (0 : Int) = 0 ∧ (0 : Int) = 0 ∧ rollsTo (Int.toNat o.1.2.2.2) = (rollsTo (Int.toNat o.1.2.2.2)) ∧ o.1.1 = o.1.1 ∧ o.1.2.1 = o.1.2.1 ∧ o.1.2.2.1 = o.1.2.2.1 ∧ o.1.2.2.2 = o.1.2.2.2 ∧ o.2.2.2 = o.2.2.2) ∧ (rollsS (expS o.1 (n - 1)) o.1 p (List.drop (Int.toNat (0 : Int)) (rollsTo (Int.toNat o.1.2.2.2))) [] (o.2.1, o.2.2.1) = rollsS (expS o.1 (n - 1)) o.1 p (rollsTo (Int.toNat o.1.2.2.2)) [] (o.2.1, o.2.2.1) ∧ OkMS o.1 (o.2.1, o.2.2.1) ∧ allX o.1 [] = true ∧ List.length ([] : List DExact) = Int.toNat (0 : Int) ∧ 0 ≤ (0 : Int) ∧ (0 : Int) ≤ (List.length (rollsTo (Int.toNat o.1.2.2.2)) : Int))) ∧ (∀ key : Int, ∀ i : Int, ∀ t1 : List Int, ∀ t4_0 : Int, ∀ t4_1 : Int, ∀ rs : List (Int × Int), ∀ vs : List (Int × Int), ∀ o_0 : Int, ∀ o_1 : Int, ∀ o_2 : Int, ∀ o_3 : Int, ∀ o_6 : Bool, ∀ o_4 : List Bool, ∀ o_5 : List (Int × Int), (((numE p (List.length p) (Int.toNat o.1.2.1) : Int) = key ∧ p = t1 ∧ (0 : Int) = t4_0 ∧ (0 : Int) = t4_1 ∧ rollsTo (Int.toNat o.1.2.2.2) = rs ∧ o.1.1 = o_0 ∧ o.1.2.1 = o_1 ∧ o.1.2.2.1 = o_2 ∧ o.1.2.2.2 = o_3 ∧ o.2.2.2 = o_6) ∧ (rollsS (expS o.1 (n - 1)) o.1 p (List.drop (Int.toNat i) (rollsTo (Int.toNat o.1.2.2.2))) vs (o_4, o_5) = rollsS (expS o.1 (n - 1)) o.1 p (rollsTo (Int.toNat o.1.2.2.2)) [] (o.2.1, o.2.2.1) ∧ OkMS o.1 (o_4, o_5) ∧ allX o.1 vs = true ∧ List.length (vs : List DExact) = Int.toNat i ∧ 0 ≤ i ∧ i ≤ (List.length (rollsTo (Int.toNat o.1.2.2.2)) : Int))) → (bsp (decide (i < (rs.length : Int))) ((0 ≤ i ∧ i < (rs.length : Int)) ∧ ((i.toNat < rs.length) ∧ ((PreT n ((o_0, o_1, o_2, o_3), o_4, o_5, o_6) t1 ∧ rollD ((o_0, o_1, o_2, o_3), o_4, o_5, o_6).1 (rs.getD i.toNat (0, 0)) = true) ∧ (bsp (!(roS n ((o_0, o_1, o_2, o_3), o_4, o_5, o_6) t1 (rs.getD i.toNat (0, 0))).1.2.2) (@Eq (HO (c_spec_l11Value n).outs) ((0, 0), false, ()) ((c_spec_l11Value n).out (o, p, ())) ∧ @Eq (HI (c_spec_l11Value n).ins) ((((o_0, o_1, o_2, o_3), o_4, o_5, o_6).1, (roS n ((o_0, o_1, o_2, o_3), o_4, o_5, o_6) t1 (rs.getD i.toNat (0, 0))).2.1, (roS n ((o_0, o_1, o_2, o_3), o_4, o_5, o_6) t1 (rs.getD i.toNat (0, 0))).2.2, ((o_0, o_1, o_2, o_3), o_4, o_5, o_6).2.2.2), p, ()) ((c_spec_l11Value n).upd (o, p, ()))) ((vs.length + ([(roS n ((o_0, o_1, o_2, o_3), o_4, o_5, o_6) t1 (rs.getD i.toNat (0, 0))).1.2.1] : List (Int × Int)).length ≤ AB) ∧ ((inK .i64 (i + 1)) ∧ ((((numE p (List.length p) (Int.toNat o.1.2.1) : Int) = key ∧ p = t1 ∧ (0 : Int) = t4_0 ∧ (0 : Int) = t4_1 ∧ rollsTo (Int.toNat o.1.2.2.2) = rs ∧ o.1.1 = ((o_0, o_1, o_2, o_3), o_4, o_5, o_6).1.1 ∧ o.1.2.1 = ((o_0, o_1, o_2, o_3), o_4, o_5, o_6).1.2.1 ∧ o.1.2.2.1 = ((o_0, o_1, o_2, o_3), o_4, o_5, o_6).1.2.2.1 ∧ o.1.2.2.2 = ((o_0, o_1, o_2, o_3), o_4, o_5, o_6).1.2.2.2 ∧ o.2.2.2 = ((o_0, o_1, o_2, o_3), o_4, o_5, o_6).2.2.2) ∧ (rollsS (expS o.1 (n - 1)) o.1 p (List.drop (Int.toNat (i + 1)) (rollsTo (Int.toNat o.1.2.2.2))) (vs ++ [(roS n ((o_0, o_1, o_2, o_3), o_4, o_5, o_6) t1 (rs.getD i.toNat (0, 0))).1.2.1]) ((roS n ((o_0, o_1, o_2, o_3), o_4, o_5, o_6) t1 (rs.getD i.toNat (0, 0))).2.1, (roS n ((o_0, o_1, o_2, o_3), o_4, o_5, o_6) t1 (rs.getD i.toNat (0, 0))).2.2) = rollsS (expS o.1 (n - 1)) o.1 p (rollsTo (Int.toNat o.1.2.2.2)) [] (o.2.1, o.2.2.1) ∧ OkMS o.1 ((roS n ((o_0, o_1, o_2, o_3), o_4, o_5, o_6) t1 (rs.getD i.toNat (0, 0))).2.1, (roS n ((o_0, o_1, o_2, o_3), o_4, o_5, o_6) t1 (rs.getD i.toNat (0, 0))).2.2) ∧ allX o.1 (vs ++ [(roS n ((o_0, o_1, o_2, o_3), o_4, o_5, o_6) t1 (rs.getD i.toNat (0, 0))).1.2.1]) = true ∧ List.length ((vs ++ [(roS n ((o_0, o_1, o_2, o_3), o_4, o_5, o_6) t1 (rs.getD i.toNat (0, 0))).1.2.1]) : List DExact) = Int.toNat (i + 1) ∧ 0 ≤ (i + 1) ∧ (i + 1) ≤ (List.length (rollsTo (Int.toNat o.1.2.2.2)) : Int))) ∧ ((Int.toNat ((List.length (rollsTo (Int.toNat o.1.2.2.2)) : Int) - (i + 1)) : Nat) < Int.toNat ((List.length (rollsTo (Int.toNat o.1.2.2.2)) : Int) - i))))))))) (((varD (o_0, o_1, o_2, o_3) = true ∧ allX (o_0, o_1, o_2, o_3) vs = true) ∧ (List.length vs : Int) = kindsD (o_0, o_1, o_2, o_3)) ∧ (bsp (!(meanE (o_0, o_1, o_2, o_3) vs).2) (@Eq (HO (c_spec_l11Value n).outs) ((0, 0), false, ()) ((c_spec_l11Value n).out (o, p, ())) ∧ @Eq (HI (c_spec_l11Value n).ins) (((o_0, o_1, o_2, o_3), o_4, o_5, o_6), p, ()) ((c_spec_l11Value n).upd (o, p, ()))) (True ∧ ((varD (o_0, o_1, o_2, o_3) = true ∧ exD (o_0, o_1, o_2, o_3) (meanE (o_0, o_1, o_2, o_3) vs).1 = true ∧ exD (o_0, o_1, o_2, o_3) (1, 0) = true) ∧ (bsp (!(addDI (o_0, o_1, o_2, o_3) (meanE (o_0, o_1, o_2, o_3) vs).1 (1, 0)).2) (@Eq (HO (c_spec_l11Value n).outs) ((0, 0), false, ()) ((c_spec_l11Value n).out (o, p, ())) ∧ @Eq (HI (c_spec_l11Value n).ins) (((o_0, o_1, o_2, o_3), o_4, o_5, o_6), p, ()) ((c_spec_l11Value n).upd (o, p, ()))) ((0 ≤ key ∧ key < (o_4.length : Int)) ∧ ((key.toNat < o_4.length) ∧ ((0 ≤ key ∧ key < (o_5.length : Int)) ∧ ((key.toNat < o_5.length) ∧ (@Eq (HO (c_spec_l11Value n).outs) ((addDI (o_0, o_1, o_2, o_3) (meanE (o_0, o_1, o_2, o_3) vs).1 (1, 0)).1, true, ()) ((c_spec_l11Value n).out (o, p, ())) ∧ @Eq (HI (c_spec_l11Value n).ins) (((o_0, o_1, o_2, o_3), (o_4.set key.toNat true), (o_5.set key.toNat (addDI (o_0, o_1, o_2, o_3) (meanE (o_0, o_1, o_2, o_3) vs).1 (1, 0)).1), o_6), p, ()) ((c_spec_l11Value n).upd (o, p, ()))))))))))))))))))))))) (by kernel_rfl) ?_
  rintro o p ⟨hv, hg, hc, hb, ho, hle⟩ hl

  have out : ∀ R, exS n o p = R → @Eq (HO (c_spec_l11Value n).outs) (R.1.1, R.1.2, ()) ((c_spec_l11Value n).out (o, p, ())) ∧ @Eq (HI (c_spec_l11Value n).ins) ((o.1, R.2.1, R.2.2, o.2.2.2), p, ()) ((c_spec_l11Value n).upd (o, p, ())) := fun R e => by subst e; exact ⟨rfl, rfl⟩

  have hs6 := (varD_iff.1 hv).2.2.2
  have h36 := rollsTo_len o.1.2.2.2.toNat (by omega)
  have hAB : AB = 1099511627776 := rfl
  obtain ⟨y0, y1⟩ := numE_key hv hb
  have l1 := ho.l1
  have l2 := ho.l2
  dsimp only at l1 l2
  change 0 ≤ (numE p p.length o.1.2.1.toNat : Int) at y0
  have y1' : (numE p p.length o.1.2.1.toNat : Int).toNat < chs o.1.2.1.toNat o.1.2.2.1.toNat := y1
  refine ⟨⟨⟨hv, hb⟩, hc⟩, bspD (fun hk => ?_) (fun hk => ?_)⟩
  · refine out (((0, 0), true), (o.2.1, o.2.2.1)) ?_
    unfold exS
    cases n with
    | zero => rfl
    | succ m => simp only [expS]; rw [if_pos (show keyP o.1 p = 0 from hk)]
  have hpos : p.sum ≠ 0 := fun e => hk ((key_zero hv hb).2 e)
  have hp := pips_pos hv hb hpos
  obtain ⟨m, rfl⟩ : ∃ m : Nat, n = m + 1 := ⟨n - 1, by omega⟩
  have hX : exS (m + 1) o p = expS o.1 (m + 1) (o.2.1, o.2.2.1) p := rfl
  simp only [expS] at hX
  rw [if_neg (show ¬ keyP o.1 p = 0 from hk)] at hX
  refine ⟨⟨y0, by omega⟩, by omega, bspB (fun hm => ?_) (fun hm => ?_)⟩
  · refine ⟨⟨y0, by omega⟩, by omega, out ((o.2.2.1.getD (keyP o.1 p).toNat (0, 0), true), (o.2.1, o.2.2.1)) ?_⟩
    rw [hX, if_pos (show o.2.1.getD (keyP o.1 p).toNat false = true from hm)]
  have hm' : ¬ o.2.1.getD (keyP o.1 p).toNat false = true := by
    have : o.2.1.getD (keyP o.1 p).toNat false = false := hm
    rw [this]; decide
  rw [if_neg hm'] at hX
  refine ⟨by omega, ⟨(by first | trivial | rfl | (and_intros <;> rfl)), rfl, ho, rfl, rfl, by omega, by omega⟩, ?_⟩
  rintro key i t1 t4_0 t4_1 rs vs o_0 o_1 o_2 o_3 o_6 o_4 o_5 ⟨⟨rfl, rfl, rfl, rfl, rfl, rfl, rfl, rfl, rfl, rfl⟩, ⟨hT, hok, hx, hvl, i0, i1⟩⟩
  simp only [Prod.eta]
  change rollsS (expS o.1 m) o.1 p _ vs (o_4, o_5) = rollsS (expS o.1 m) o.1 p _ [] (o.2.1, o.2.2.1) at hT
  rw [← hT] at hX
  have l3 := hok.l1
  have l4 := hok.l2
  dsimp only at l3 l4
  refine bspD (fun hlt => ?_) (fun hge => ?_)
  · obtain ⟨k, rfl⟩ : ∃ k : Nat, i = k := ⟨i.toNat, by omega⟩
    simp only [Int.toNat_natCast] at hT hvl hX ⊢
    have hr := rolls_ok hv (getD_memX (l := rollsTo o.1.2.2.2.toNat) (k := k) (by omega) (0, 0))
    have hB := bestS_ok (expS_ok hv m) (specRes p ((rollsTo o.1.2.2.2.toNat).getD k (0, 0))) 0 (0, (0, 0)) (o_4, o_5) (fun q hq => spec_next hv hb hpos hle hr hq) hok (exD_zero _)
    rw [drop_consX (l := rollsTo o.1.2.2.2.toNat) (k := k) (by omega) (0, 0)] at hT hX
    simp only [rollsS] at hT
    refine ⟨⟨by omega, by omega⟩, by omega, ⟨⟨⟨hv, hg, hc, hb, hok, hle⟩, hpos⟩, hr⟩, bspB (fun hf => ?_) (fun hf => ⟨by simp only [List.length_cons, List.length_nil]; omega, by simp only [inK]; omega, ⟨(by first | trivial | rfl | (and_intros <;> rfl)), ?_, hB.1, ?_, by simp; omega, by omega, by omega⟩, by omega⟩)⟩
    · have hf' : (bestS (expS o.1 m) o.1 (specRes p ((rollsTo o.1.2.2.2.toNat).getD k (0, 0))) 0 (0, (0, 0)) (o_4, o_5)).1.2.2 = false := by simpa [roS] using hf
      refine out (((0, 0), false), (bestS (expS o.1 m) o.1 (specRes p ((rollsTo o.1.2.2.2.toNat).getD k (0, 0))) 0 (0, (0, 0)) (o_4, o_5)).2) (hX.trans ?_)
      simp only [rollsS]
      rw [if_pos hf']
      unfold tabS finE
      rw [if_pos (by rw [if_pos rfl])]
    · have hf' : ¬ (bestS (expS o.1 m) o.1 (specRes p ((rollsTo o.1.2.2.2.toNat).getD k (0, 0))) 0 (0, (0, 0)) (o_4, o_5)).1.2.2 = false := by simpa [roS] using hf
      rw [if_neg hf'] at hT
      rw [show ((k : Int) + 1).toNat = k + 1 by omega]
      exact hT
    · simp only [allX, List.all_append, List.all_cons, List.all_nil, Bool.and_true, Bool.and_eq_true]
      exact ⟨hx, hB.2⟩
  · rw [List.drop_eq_nil_of_le (by omega)] at hX
    simp only [rollsS] at hX
    have hfin : finE o.1 (vs, true) = if (meanE o.1 vs).2 = false then ((0, 0), false) else addDI o.1 (meanE o.1 vs).1 (1, 0) := by
      unfold finE; rw [if_neg (show ¬ true = false from fun h => nomatch h)]
    unfold tabS at hX
    simp only [hfin] at hX
    refine ⟨⟨⟨hv, hx⟩, by unfold kindsD; rw [if_pos hv]; omega⟩, bspB (fun hf => ?_) (fun hf => ?_)⟩
    · have hf' : (meanE o.1 vs).2 = false := by simpa using hf
      simp only [if_pos hf', if_true] at hX
      exact out (((0, 0), false), (o_4, o_5)) hX
    · have hf' : ¬ (meanE o.1 vs).2 = false := by simpa using hf
      simp only [if_neg hf'] at hX
      refine ⟨trivial, ⟨hv, meanE_ok (by simpa using hf), exD_1⟩, bspB (fun hg2 => ?_) (fun hg2 => ?_)⟩
      · have hg' : (addDI o.1 (meanE o.1 vs).1 (1, 0)).2 = false := by simpa using hg2
        rw [if_pos hg'] at hX
        exact out (((0, 0), false), (o_4, o_5)) hX
      · have hg' : ¬ (addDI o.1 (meanE o.1 vs).1 (1, 0)).2 = false := by simpa using hg2
        have hg1 : (addDI o.1 (meanE o.1 vs).1 (1, 0)).2 = true := by simpa using hg2
        rw [if_neg hg'] at hX
        refine ⟨⟨y0, by omega⟩, by omega, ⟨y0, by omega⟩, by omega, out (((addDI o.1 (meanE o.1 vs).1 (1, 0)).1, true), (o_4.set (keyP o.1 p).toNat true, o_5.set (keyP o.1 p).toNat (addDI o.1 (meanE o.1 vs).1 (1, 0)).1)) (hX.trans ?_)⟩
        rw [← hg1]
theorem k_rolls0 [B : Base] : ConOk Try.prog 21 (c_spec_l11Roll 0) :=
  ⟨⟨_, _, Try.func21, by kernel_rfl, rfl⟩, fun _ _ _ _ x _ _ _ _ _ _ _ h => by
    obtain ⟨⟨⟨hv, _, _, hb, _, hle⟩, hs⟩, -⟩ := h
    have := pips_pos hv hb hs
    exact absurd this (by omega)⟩
theorem k_tab [B : Base] : ∀ n, ConOk Try.prog 11 (c_spec_l11Value n)
  | 0 => k_spec_l11Value k_rolls0
  | n + 1 => k_spec_l11Value (k_spec_l11Roll (n := n + 1) (k_spec_l11Best (k_tab n)) (k_tab n))
end Go.Proofs.Ytoobijimfccfgaa
