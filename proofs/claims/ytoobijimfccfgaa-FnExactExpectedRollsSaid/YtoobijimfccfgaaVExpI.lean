/-
  Contracts: expected numbers of rolls, the program's.
-/
import Derived.Test.YtoobijimfccfgaaVResC
import Derived.Test.YtoobijimfccfgaaVBearN
import Derived.Test.YtoobijimfccfgaaVMean
import Derived.Test.YtoobijimfccfgaaVCG
namespace Go.Proofs.Ytoobijimfccfgaa
open Go.RowKit
set_option linter.unusedSimpArgs false
set_option linter.unusedVariables false
abbrev MI := List (Int × DExact) × List (Int × Bool)
abbrev DOne := DVar × Bool × MI
/-- the best one of results, with what has been told meanwhile -/
def bestI (E : MI → List Int → (DExact × Bool) × MI) (v : DVar) : List (List Int) → List Int × DExact → MI → (List Int × DExact × Bool) × MI
  | [], b, T => ((b.1, b.2, true), T)
  | q :: qs, b, T => if (E T q).1.2 = false then (([], (0, 0), false), (E T q).2)
    else bestI E v qs (if b.1 = [] ∨ cmpD v (E T q).1.1 b.2 < 0 then (q, (E T q).1.1) else b) (E T q).2
def rollsI (E : MI → List Int → (DExact × Bool) × MI) (v : DVar) (p : List Int) : List DRoll → List DExact → MI → (List DExact × Bool) × MI
  | [], vs, T => ((vs, true), T)
  | r :: rs, vs, T => if (bestI E v (implRes p r) ([], (0, 0)) T).1.2.2 = false then (([], false), (bestI E v (implRes p r) ([], (0, 0)) T).2)
    else rollsI E v p rs (vs ++ [(bestI E v (implRes p r) ([], (0, 0)) T).1.2.1]) (bestI E v (implRes p r) ([], (0, 0)) T).2
def finE (v : DVar) (c : List DExact × Bool) : DExact × Bool :=
  if c.2 = false then ((0, 0), false) else if (meanE v c.1).2 = false then ((0, 0), false) else addDI v (meanE v c.1).1 (1, 0)
def compI (E : MI → List Int → (DExact × Bool) × MI) (v : DVar) (p : List Int) (T : MI) : (DExact × Bool) × MI :=
  (finE v (rollsI E v p (rollsTo v.2.2.2.toNat) [] T).1, (rollsI E v p (rollsTo v.2.2.2.toNat) [] T).2)
def keyP (v : DVar) (p : List Int) : Int := (numE p p.length v.2.1.toNat : Int)
def expI (v : DVar) : Nat → MI → List Int → (DExact × Bool) × MI
  | 0, T, _ => (((0, 0), true), T)
  | n + 1, T, p => if p.sum = 0 then (((0, 0), true), T) else
    if (mget tI (keyP v p) T.1).isSome = true then (((mget tI (keyP v p) T.1).getD (0, 0), !(mget tI (keyP v p) T.2).getD false), T)
    else ((compI (expI v n) v p T).1, (mset tI (keyP v p) (compI (expI v n) v p T).1.1 (compI (expI v n) v p T).2.1, mset tI (keyP v p) (!(compI (expI v n) v p T).1.2) (compI (expI v n) v p T).2.2))
def okMI (v : DVar) (T : MI) : Prop := ∀ k x, mget tI k T.1 = some x → exD v x = true
structure PreI (n : Nat) (o : DOne) (p : List Int) : Prop where
  v : varD o.1 = true
  g : o.2.1 = false
  b : bearD o.1 p = true
  ok : okMI o.1 o.2.2
  le : wS pw p p.length ≤ (n : Int)
structure PreJ (n : Nat) (o : DOne) (p : List Int) : Prop where
  i : PreI n o p
  pos : p.sum ≠ 0
def exI (n : Nat) (o : DOne) (p : List Int) : (DExact × Bool) × MI := expI o.1 n o.2.2 p
def coI (n : Nat) (o : DOne) (p : List Int) : (DExact × Bool) × MI := compI (expI o.1 (n - 1)) o.1 p o.2.2
def chI (n : Nat) (o : DOne) (p : List Int) (r : DRoll) : (List Int × DExact × Bool) × MI := bestI (expI o.1 (n - 1)) o.1 (implRes p r) ([], (0, 0)) o.2.2

theorem mgetI_mset {V : Type} (k k' : Int) (x : V) : ∀ m : List (Int × V), mget tI k (mset tI k' x m) = if k = k' then some x else mget tI k m
  | [] => by simp [mset, mget, keyEq]; split <;> simp_all
  | p :: m => by
    have ih := mgetI_mset k k' x m
    by_cases h1 : k' = p.1
    · have : keyEq tI k' p.1 = true := by simp [keyEq, h1]
      simp only [mset, this]
      by_cases h2 : k = k'
      · rw [if_pos h2]; simp [mget, keyEq, h2]
      · rw [if_neg h2]
        have e1 : keyEq tI k k' = false := by simp [keyEq, h2]
        have e2 : keyEq tI k p.1 = false := by simp [keyEq, ← h1, h2]
        simp only [mget, e1, e2]
    · have : keyEq tI k' p.1 = false := by simp [keyEq, h1]
      simp only [mset, this, mget]
      rw [ih]
      by_cases h2 : k = k'
      · have : keyEq tI k p.1 = false := by simp [keyEq, h2, h1]
        rw [this, if_pos h2]
      · rw [if_neg h2, if_neg h2]
theorem exD_one {v : DVar} : exIn (1, 0) := by simp [exIn]
theorem add2D_no {v : DVar} {a c : Int} {d e : Nat} (h : (add2D v a c d e).2 = false) : (add2D v a c d e).1 = (0, 0) := by
  unfold add2D at h ⊢
  split at h
  · next g =>
    rw [if_pos g]
    unfold mkD at h ⊢
    split at h
    · cases h
    · next g2 => rw [if_neg g2]
  · next g => rw [if_neg g]
theorem addDI_no {v : DVar} {x y : DExact} (h : (addDI v x y).2 = false) : (addDI v x y).1 = (0, 0) := by
  unfold addDI add1D at h ⊢
  split at h
  · next g => rw [if_pos g]; exact add2D_no h
  · next g => rw [if_neg g]; exact add2D_no h
theorem meanE_ok {v : DVar} {l : List DExact} (h : (meanE v l).2 = true) : exD v (meanE v l).1 = true := by
  unfold meanE at h ⊢
  split at h
  · next g => rw [if_pos g]; exact mkD_ok h
  · cases h
theorem finE_ok {v : DVar} {c : List DExact × Bool} : exD v (finE v c).1 = true ∧ ((finE v c).2 = false → (finE v c).1 = (0, 0)) := by
  unfold finE
  split
  · exact ⟨(exD_zero _), fun _ => rfl⟩
  · split
    · exact ⟨(exD_zero _), fun _ => rfl⟩
    · cases h : (addDI v (meanE v c.1).1 (1, 0)).2 with
      | true => exact ⟨addDI_ok h, fun h => by cases h⟩
      | false => rw [addDI_no h]; exact ⟨(exD_zero _), fun _ => rfl⟩
/-- results of a roll: positions with fewer pips -/
theorem bear_next {v : DVar} {p : List Int} {r : DRoll} (hv : varD v = true) (hb : bearD v p = true) (hr : rollD v r = true) {q : List Int} (hq : q ∈ resP p r) :
    bearD v q = true ∧ wS pw q q.length ≤ wS pw p p.length ∧ (p.sum ≠ 0 → wS pw q q.length < wS pw p p.length) ∧ q.length ≠ 0 ∧ q.length = p.length := by
  have hc : codeP v p = 0 := by unfold codeP; rw [if_neg (by rw [hv]; decide), if_neg (by rw [hb]; decide)]
  obtain ⟨hR, -, -⟩ := br_ok hc hr
  obtain ⟨_, hn0, _, hsum, hlen⟩ := bear_ok hv hb
  have hqo := resP_ok hR.ok hR.lo hR.mid q hq
  obtain ⟨o, ho, hqr⟩ := (resP_mem hR.ok hR.lo hR.mid q).1 hq
  obtain ⟨d1, _, d3, _⟩ := ordP_dice hR.lo hR.mid o ho
  obtain ⟨k1, k2, k3, k4⟩ := reach_pips d1 hR.ok q hqr
  have hbq : bearD v q = true := by
    simp only [bearD, Bool.and_eq_true, decide_eq_true_eq]
    exact ⟨by rw [hqo.len]; exact hlen, fits_of hqo.nn (by omega)⟩
  rw [hqo.len]
  exact ⟨hbq, k2, k3 d3, by omega, rfl⟩
theorem bear_res {v : DVar} {p : List Int} {r : DRoll} (hv : varD v = true) (hb : bearD v p = true) (hr : rollD v r = true) : ResOk p r := by
  have hc : codeP v p = 0 := by unfold codeP; rw [if_neg (by rw [hv]; decide), if_neg (by rw [hb]; decide)]
  exact (br_ok hc hr).1
theorem bear_bd {v : DVar} {p : List Int} (hv : varD v = true) (hb : bearD v p = true) : Bd p := by
  obtain ⟨h1, h2, h3, _⟩ := bear_ok hv hb
  refine ⟨by omega, fun z hz => ?_⟩
  obtain ⟨i, hi, rfl⟩ := List.getElem_of_mem hz
  have := h1.le i
  rwa [List.getD_eq_getElem?_getD, List.getElem?_eq_getElem hi] at this
/-- pips of at most n: no checkers where n is 0 -/
theorem pips_pos {v : DVar} {p : List Int} (hv : varD v = true) (hb : bearD v p = true) (hs : p.sum ≠ 0) : 1 ≤ wS pw p p.length := by
  obtain ⟨h1, h2, h3, _⟩ := bear_ok hv hb
  apply Decidable.byContradiction
  intro hn
  apply hs
  have hz : ∀ j : Nat, p.getD j 0 = 0 := fun j => by
    by_cases hj : j < p.length
    · have := wS_at (f := pw) (fun i => by simp [pw]; omega) h1.nn p.length hj
      have h0 := h1.nn j
      have h1' : pw j * p.getD j 0 = (j : Int) * p.getD j 0 + p.getD j 0 := by simp only [pw, Int.add_mul, Int.one_mul]
      have h2' : 0 ≤ (j : Int) * p.getD j 0 := Int.mul_nonneg (by omega) h0
      omega
    · rw [List.getD_eq_getElem?_getD, List.getElem?_eq_none (by omega)]; rfl
  have : ∀ l : List Int, (∀ j : Nat, l.getD j 0 = 0) → l.sum = 0 := by
    intro l
    induction l with
    | nil => intro _; rfl
    | cons z l ih =>
      intro h
      have := h 0
      have := ih fun j => by simpa using h (j + 1)
      simp_all
  exact this p hz
def EOk (v : DVar) (n : Nat) (E : MI → List Int → (DExact × Bool) × MI) : Prop := ∀ T q, okMI v T → bearD v q = true → wS pw q q.length ≤ (n : Int) → exD v (E T q).1.1 = true ∧ okMI v (E T q).2
theorem bestI_ok {v : DVar} {n : Nat} {E : MI → List Int → (DExact × Bool) × MI} (hE : EOk v n E) : ∀ (qs : List (List Int)) (b : List Int × DExact) (T : MI), (∀ q, q ∈ qs → bearD v q = true ∧ wS pw q q.length ≤ (n : Int)) → okMI v T → exD v b.2 = true →
    okMI v (bestI E v qs b T).2 ∧ exD v (bestI E v qs b T).1.2.1 = true
  | [], b, T, _, hT, hb => ⟨hT, hb⟩
  | q :: qs, b, T, hq, hT, hb => by
    obtain ⟨h1, h2⟩ := hq q (by simp)
    obtain ⟨e1, e2⟩ := hE T q hT h1 h2
    simp only [bestI]
    split
    · exact ⟨e2, (exD_zero _)⟩
    · refine bestI_ok hE qs _ _ (fun x hx => hq x (List.mem_cons_of_mem _ hx)) e2 ?_
      split
      · exact e1
      · exact hb
theorem rollsI_ok {v : DVar} {n : Nat} {E : MI → List Int → (DExact × Bool) × MI} (hE : EOk v n E) {p : List Int} (hres : ∀ r, rollD v r = true → ∀ q, q ∈ implRes p r → bearD v q = true ∧ wS pw q q.length ≤ (n : Int)) : ∀ (rs : List DRoll) (vs : List DExact) (T : MI), (∀ r, r ∈ rs → rollD v r = true) → okMI v T → allX v vs = true →
    okMI v (rollsI E v p rs vs T).2 ∧ allX v (rollsI E v p rs vs T).1.1 = true
  | [], vs, T, _, hT, hv => ⟨hT, hv⟩
  | r :: rs, vs, T, hr, hT, hv => by
    obtain ⟨e1, e2⟩ := bestI_ok hE (implRes p r) ([], (0, 0)) T (hres r (hr r (by simp))) hT (exD_zero _)
    simp only [rollsI]
    split
    · exact ⟨e1, rfl⟩
    · refine rollsI_ok hE hres rs _ _ (fun x hx => hr x (List.mem_cons_of_mem _ hx)) e1 ?_
      simp only [allX, List.all_append, List.all_cons, List.all_nil, Bool.and_true, Bool.and_eq_true]
      exact ⟨hv, e2⟩
theorem implRes_lenE {p : List Int} {r : DRoll} (hp : ResOk p r) : (implRes p r).length ≤ 663552 := by
  have h2 := canonD_length ((ordP r).flatMap fun o => rowsP o p)
  have h3 := res_len hp (ordP r) fun o ho => ho
  have h4 : (ordP r).length ≤ 2 := by unfold ordP; split <;> simp
  unfold implRes
  omega
theorem rolls_ok {v : DVar} (hv : varD v = true) {r : DRoll} (h : r ∈ rollsTo v.2.2.2.toNat) : rollD v r = true := rollsTo_ok hv h
theorem impl_next {v : DVar} {p : List Int} (hv : varD v = true) (hb : bearD v p = true) (hs : p.sum ≠ 0) {n : Nat} (hn : wS pw p p.length ≤ (n : Int)) {r : DRoll} (hr : rollD v r = true) {q : List Int} (hq : q ∈ implRes p r) : bearD v q = true ∧ wS pw q q.length ≤ ((n - 1 : Nat) : Int) ∧ q.length ≠ 0 := by
  have hR := bear_res hv hb hr
  rw [implRes_eq hR.ok hR.lo hR.mid] at hq
  obtain ⟨h1, h2, h3, h4, -⟩ := bear_next hv hb hr hq
  have := h3 hs
  have := pips_pos hv hb hs
  exact ⟨h1, by omega, h4⟩
theorem okMI_set {v : DVar} {T : MI} {k : Int} {x : DExact} {F : List (Int × Bool)} (h : okMI v T) (hx : exD v x = true) : okMI v (mset tI k x T.1, F) := fun k' y hy => by
  simp only [mgetI_mset] at hy
  split at hy
  · cases hy; exact hx
  · exact h k' y hy
theorem expI_ok {v : DVar} (hv : varD v = true) : ∀ n, EOk v n (expI v n)
  | 0 => fun T q hT _ _ => ⟨(exD_zero _), hT⟩
  | n + 1 => fun T q hT hb hn => by
    simp only [expI]
    split
    · exact ⟨(exD_zero _), hT⟩
    next hs =>
    split
    · next hk =>
      obtain ⟨x, hx⟩ := Option.isSome_iff_exists.1 hk
      rw [hx]; exact ⟨hT _ _ hx, hT⟩
    · have hR := rollsI_ok (expI_ok hv n) (p := q) (fun r hr q' hq' => by
        have := impl_next hv hb hs hn hr hq'
        exact ⟨this.1, this.2.1⟩) (rollsTo v.2.2.2.toNat) [] T (fun r hr => rolls_ok hv hr) hT rfl
      exact ⟨finE_ok.1, okMI_set hR.1 finE_ok.1⟩
def c_impl_greedyResult : Con where
  ins := [(false, .v tSI), (true, .v tRoll)]
  outs := [(false, .v tSI)]
  sh := false
  pre := fun _ => False
  out := fun x => (x.1, ())
  upd := fun x => x
  eat := false
theorem k_impl_greedyResult [B : Base] : ConOk Try.prog 57 c_impl_greedyResult :=
  ⟨⟨_, _, Try.func57, by kernel_rfl, rfl⟩, fun _ _ _ _ _ _ _ _ _ _ _ _ h => h.elim⟩
def c__impl_onesided_expected (n : Nat) : Con where
  ins := [(false, .bo (.pr (.v tVar) (.pr (.v .b) (.pr (.mp true tI tRoll) (.mp false tI .b))))), (false, .v tSI)]
  outs := [(true, .v tRoll), (false, .v .b)]
  sh := false
  pre := fun x => PreI n x.1 x.2.1
  out := fun x => ((exI n x.1 x.2.1).1.1, (exI n x.1 x.2.1).1.2, ())
  upd := fun x => ((x.1.1, x.1.2.1, (exI n x.1 x.2.1).2), x.2.1, ())
  eat := false
def c__impl_onesided_compute (n : Nat) : Con where
  ins := [(false, .bo (.pr (.v tVar) (.pr (.v .b) (.pr (.mp true tI tRoll) (.mp false tI .b))))), (false, .v tSI)]
  outs := [(true, .v tRoll), (false, .v .b)]
  sh := false
  pre := fun x => PreJ n x.1 x.2.1
  out := fun x => ((coI n x.1 x.2.1).1.1, (coI n x.1 x.2.1).1.2, ())
  upd := fun x => ((x.1.1, x.1.2.1, (coI n x.1 x.2.1).2), x.2.1, ())
  eat := false
def c__impl_onesided_choice (n : Nat) : Con where
  ins := [(false, .bo (.pr (.v tVar) (.pr (.v .b) (.pr (.mp true tI tRoll) (.mp false tI .b))))), (false, .v tSI), (true, .v tRoll)]
  outs := [(false, .v tSI), (true, .v tRoll), (false, .v .b)]
  sh := false
  pre := fun x => PreJ n x.1 x.2.1 ∧ rollD x.1.1 x.2.2.1 = true
  out := fun x => ((chI n x.1 x.2.1 x.2.2.1).1.1, (chI n x.1 x.2.1 x.2.2.1).1.2.1, (chI n x.1 x.2.1 x.2.2.1).1.2.2, ())
  upd := fun x => ((x.1.1, x.1.2.1, (chI n x.1 x.2.1 x.2.2.1).2), x.2.1, x.2.2.1, ())
  eat := false
theorem k__impl_onesided_choice [B : Base] {n : Nat} (h : ConOk Try.prog 15 (c__impl_onesided_expected (n - 1))) : ConOk Try.prog 46 (c__impl_onesided_choice n) := by
  refine fn_okW (C := cx Try.prog 68 (c__impl_onesided_choice n)) (cs := [(57, c_impl_greedyResult), (15, (c__impl_onesided_expected (n - 1))), (58, c_impl_bearoffResults), (59, c_impl_compareExact)]) (res := Try.f46.results.toList) (fun x => ⟨[{ sh := ⟨[(0, .one (.ref 0)), (7, .one (.ref 3)), (12, .one (.ref 4)), (13, .one (.ref 5)), (36, .one (.ref 6)), (37, .one (.i .i64)), (38, .one (.i .i64))], [(3, .box [.i .i64, .i .i64]), (4, .imm tI true), (5, .box [.i .i64, .i .i64]), (6, .own 24 tSI true), (0, .box [.i .i64, .i .i64, .i .i64, .i .i64, .b, .ref 1, .ref 2]), (1, .mp true tI tRoll), (2, .mp false tI .b)]⟩, nx := 7, I := fun _ dat_ => (((implRes x.2.1 x.2.2.1).length : Int) = dat_.1.2.2.2.2.2.1 ∧ (0 : Int) = dat_.2.1.1 ∧ (0 : Int) = dat_.2.1.2.1 ∧ implRes x.2.1 x.2.2.1 = dat_.2.2.2.2.1 ∧ x.1.1.1 = dat_.2.2.2.2.2.1.1 ∧ x.1.1.2.1 = dat_.2.2.2.2.2.1.2.1 ∧ x.1.1.2.2.1 = dat_.2.2.2.2.2.1.2.2.1 ∧ x.1.1.2.2.2 = dat_.2.2.2.2.2.1.2.2.2.1 ∧ x.1.2.1 = dat_.2.2.2.2.2.1.2.2.2.2.1) ∧ (bestI (expI x.1.1 (n - 1)) x.1.1 (List.drop (Int.toNat dat_.1.2.2.2.2.2.2.1) (implRes x.2.1 x.2.2.1)) (dat_.2.2.1, (dat_.2.2.2.1.1, dat_.2.2.2.1.2.1)) (dat_.2.2.2.2.2.2.1, dat_.2.2.2.2.2.2.2.1) = chI n x.1 x.2.1 x.2.2.1 ∧ okMI x.1.1 (dat_.2.2.2.2.2.2.1, dat_.2.2.2.2.2.2.2.1) ∧ exD x.1.1 (dat_.2.2.2.1.1, dat_.2.2.2.1.2.1) = true ∧ List.length dat_.2.2.1 ≠ 0 ∧ 1 ≤ dat_.1.2.2.2.2.2.2.1 ∧ dat_.1.2.2.2.2.2.2.1 ≤ (List.length (implRes x.2.1 x.2.2.1) : Int)), mu := fun dat_ => Int.toNat ((List.length (implRes x.2.1 x.2.2.1) : Int) - dat_.1.2.2.2.2.2.2.1), pl := true }], [(4, ⟨[[], [], [], [0], [0, 1, 3], [0, 1, 2, 3, 4]], [[1, 2], [0, 2, 3], [0, 1, 3, 4], [1, 2], [2], []], [[], [], [36], [], [], []]⟩), (13, ⟨[[], [0], [0, 1], [0, 1, 2], [0, 1, 2, 3], [0, 1, 2, 3, 4], [0, 1, 2, 3, 4, 5], [0, 1, 2], [0, 1, 2], [0, 1, 2, 3, 4, 5, 6, 7, 8], [0, 1, 2, 3, 4, 5, 6, 7, 8, 9], [0, 1, 2, 3, 4, 5, 6, 7, 8, 9, 10]], [[], [], [], [7, 8], [7, 8], [7, 8], [7, 8], [3, 4, 5, 6, 8], [3, 4, 5, 6, 7], [], [], []], []⟩), (14, ⟨[[], [], [0], [0, 1, 2]], [[1], [0, 2], [1], []], []⟩), (16, ⟨[[], [], [0], [0, 1, 2], [0, 1, 2, 3]], [[1], [0, 2], [1], [], []], []⟩)], []⟩) Try.func46 (by kernel_rfl) rfl rfl rfl tysOk.look eqTsOk.look (AllCs.ok (l := [(57, c_impl_greedyResult), (15, (c__impl_onesided_expected (n - 1))), (58, c_impl_bearoffResults), (59, c_impl_compareExact)]) ⟨k_impl_greedyResult, h, k_impl_bearoffResults, k_impl_compareExact, trivial⟩) mixed rfl rfl rfl rfl ?_
  refine of_nf (P := ∀ o : (Int × Int × Int × Int) × Bool × (List (Int × Int × Int)) × List (Int × Bool), ∀ p : List Int, ∀ r : Int × Int, (PreJ n o p ∧ rollD o.1 r = true) → ((lensI (c__impl_onesided_choice n).ins (o, p, r, ())) → (bsp o.2.1 ((False) ∧ ((PreI (n - 1) o p) ∧ (@Eq (HO (c__impl_onesided_choice n).outs) (p, (exI (n - 1) o p).1.1, (exI (n - 1) o p).1.2, ()) ((c__impl_onesided_choice n).out (o, p, r, ())) ∧ @Eq (HI (c__impl_onesided_choice n).ins) ((o.1, o.2.1, (exI (n - 1) o p).2), p, r, ()) ((c__impl_onesided_choice n).upd (o, p, r, ()))))) ((ResOk p r) ∧ ((bsp (decide ((0 : Int) < ((implRes p r).length : Int))) ((0 ≤ (0 : Int) ∧ 0 < ((implRes p r).length : Int)) ∧ ((0 < (implRes p r).length) ∧ ((PreI (n - 1) o ((implRes p r).getD 0 [])) ∧ (bsp (!(exI (n - 1) o ((implRes p r).getD 0 [])).1.2) (@Eq (HO (c__impl_onesided_choice n).outs) ([], (0, 0), false, ()) ((c__impl_onesided_choice n).out (o, p, r, ())) ∧ @Eq (HI (c__impl_onesided_choice n).ins) ((o.1, o.2.1, (exI (n - 1) o ((implRes p r).getD 0 [])).2), p, r, ()) ((c__impl_onesided_choice n).upd (o, p, r, ()))) ((inK .i64 ((0 : Int) + 1)) ∧ ((((implRes p r).length : Int) = ((implRes p r).length : Int) ∧ (0 : Int) = 0 ∧ (0 : Int) = 0 ∧ implRes p r = (implRes p r) ∧ o.1.1 = o.1.1 ∧ o.1.2.1 = o.1.2.1 ∧ o.1.2.2.1 = o.1.2.2.1 ∧ o.1.2.2.2 = o.1.2.2.2 ∧ o.2.1 = o.2.1) ∧ (bestI (expI o.1 (n - 1)) o.1 (List.drop (Int.toNat ((0 : Int) + 1)) (implRes p r)) (((implRes p r).getD 0 []), ((exI (n - 1) o ((implRes p r).getD 0 [])).1.1.1, (exI (n - 1) o ((implRes p r).getD 0 [])).1.1.2)) ((exI (n - 1) o ((implRes p r).getD 0 [])).2.1, (exI (n - 1) o ((implRes p r).getD 0 [])).2.2) = chI n o p r ∧ okMI o.1 ((exI (n - 1) o ((implRes p r).getD 0 [])).2.1, (exI (n - 1) o ((implRes p r).getD 0 [])).2.2) ∧ exD o.1 ((exI (n - 1) o ((implRes p r).getD 0 [])).1.1.1, (exI (n - 1) o ((implRes p r).getD 0 [])).1.1.2) = true ∧ List.length ((implRes p r).getD 0 []) ≠ 0 ∧ 1 ≤ ((0 : Int) + 1) ∧ ((0 : Int) + 1) ≤ (List.length (implRes p r) : Int)))))))) (@Eq (HO (c__impl_onesided_choice n).outs) ([], (0, 0), true, ()) ((c__impl_onesided_choice n).out (o, p, r, ())) ∧ @Eq (HI (c__impl_onesided_choice n).ins) (o, p, r, ()) ((c__impl_onesided_choice n).upd (o, p, r, ())))) ∧ (∀ m : Int, ∀ i : Int, ∀ t7_0 : Int, ∀ t7_1 : Int, ∀ b : List Int, ∀ l_0 : Int, ∀ l_1 : Int, ∀ res : List (List Int), ∀ o_0 : Int, ∀ o_1 : Int, ∀ o_2 : Int, ∀ o_3 : Int, ∀ o_4 : Bool, ∀ o_5 : List (Int × Int × Int), ∀ o_6 : List (Int × Bool), ((((implRes p r).length : Int) = m ∧ (0 : Int) = t7_0 ∧ (0 : Int) = t7_1 ∧ implRes p r = res ∧ o.1.1 = o_0 ∧ o.1.2.1 = o_1 ∧ o.1.2.2.1 = o_2 ∧ o.1.2.2.2 = o_3 ∧ o.2.1 = o_4) ∧ (bestI (expI o.1 (n - 1)) o.1 (List.drop (Int.toNat i) (implRes p r)) (b, (l_0, l_1)) (o_5, o_6) = chI n o p r ∧ okMI o.1 (o_5, o_6) ∧ exD o.1 (l_0, l_1) = true ∧ List.length b ≠ 0 ∧ 1 ≤ i ∧ i ≤ (List.length (implRes p r) : Int))) → (bsp (decide (i < m)) ((0 ≤ i ∧ i < (res.length : Int)) ∧ ((i.toNat < res.length) ∧ ((PreI (n - 1) ((o_0, o_1, o_2, o_3), o_4, o_5, o_6) (res.getD i.toNat [])) ∧ (bsp (!(exI (n - 1) ((o_0, o_1, o_2, o_3), o_4, o_5, o_6) (res.getD i.toNat [])).1.2) (@Eq (HO (c__impl_onesided_choice n).outs) ([], (0, 0), false, ()) ((c__impl_onesided_choice n).out (o, p, r, ())) ∧ @Eq (HI (c__impl_onesided_choice n).ins) ((((o_0, o_1, o_2, o_3), o_4, o_5, o_6).1, ((o_0, o_1, o_2, o_3), o_4, o_5, o_6).2.1, (exI (n - 1) ((o_0, o_1, o_2, o_3), o_4, o_5, o_6) (res.getD i.toNat [])).2), p, r, ()) ((c__impl_onesided_choice n).upd (o, p, r, ()))) (((b.length) ≠ 0) ∧ ((varD ((o_0, o_1, o_2, o_3), o_4, o_5, o_6).1 = true ∧ exD ((o_0, o_1, o_2, o_3), o_4, o_5, o_6).1 (exI (n - 1) ((o_0, o_1, o_2, o_3), o_4, o_5, o_6) (res.getD i.toNat [])).1.1 = true ∧ exD ((o_0, o_1, o_2, o_3), o_4, o_5, o_6).1 (l_0, l_1) = true) ∧ (bsp (decide ((cmpD ((o_0, o_1, o_2, o_3), o_4, o_5, o_6).1 (exI (n - 1) ((o_0, o_1, o_2, o_3), o_4, o_5, o_6) (res.getD i.toNat [])).1.1 (l_0, l_1)) < (0 : Int))) ((inK .i64 (i + 1)) ∧ (((((implRes p r).length : Int) = m ∧ (0 : Int) = t7_0 ∧ (0 : Int) = t7_1 ∧ implRes p r = res ∧ o.1.1 = ((o_0, o_1, o_2, o_3), o_4, o_5, o_6).1.1 ∧ o.1.2.1 = ((o_0, o_1, o_2, o_3), o_4, o_5, o_6).1.2.1 ∧ o.1.2.2.1 = ((o_0, o_1, o_2, o_3), o_4, o_5, o_6).1.2.2.1 ∧ o.1.2.2.2 = ((o_0, o_1, o_2, o_3), o_4, o_5, o_6).1.2.2.2 ∧ o.2.1 = ((o_0, o_1, o_2, o_3), o_4, o_5, o_6).2.1) ∧ (bestI (expI o.1 (n - 1)) o.1 (List.drop (Int.toNat (i + 1)) (implRes p r)) ((res.getD i.toNat []), ((exI (n - 1) ((o_0, o_1, o_2, o_3), o_4, o_5, o_6) (res.getD i.toNat [])).1.1.1, (exI (n - 1) ((o_0, o_1, o_2, o_3), o_4, o_5, o_6) (res.getD i.toNat [])).1.1.2)) ((exI (n - 1) ((o_0, o_1, o_2, o_3), o_4, o_5, o_6) (res.getD i.toNat [])).2.1, (exI (n - 1) ((o_0, o_1, o_2, o_3), o_4, o_5, o_6) (res.getD i.toNat [])).2.2) = chI n o p r ∧ okMI o.1 ((exI (n - 1) ((o_0, o_1, o_2, o_3), o_4, o_5, o_6) (res.getD i.toNat [])).2.1, (exI (n - 1) ((o_0, o_1, o_2, o_3), o_4, o_5, o_6) (res.getD i.toNat [])).2.2) ∧ exD o.1 ((exI (n - 1) ((o_0, o_1, o_2, o_3), o_4, o_5, o_6) (res.getD i.toNat [])).1.1.1, (exI (n - 1) ((o_0, o_1, o_2, o_3), o_4, o_5, o_6) (res.getD i.toNat [])).1.1.2) = true ∧ List.length (res.getD i.toNat []) ≠ 0 ∧ 1 ≤ (i + 1) ∧ (i + 1) ≤ (List.length (implRes p r) : Int))) ∧ ((Int.toNat ((List.length (implRes p r) : Int) - (i + 1)) : Nat) < Int.toNat ((List.length (implRes p r) : Int) - i)))) ((inK .i64 (i + 1)) ∧ (((((implRes p r).length : Int) = m ∧ (0 : Int) = t7_0 ∧ (0 : Int) = t7_1 ∧ implRes p r = res ∧ o.1.1 = ((o_0, o_1, o_2, o_3), o_4, o_5, o_6).1.1 ∧ o.1.2.1 = ((o_0, o_1, o_2, o_3), o_4, o_5, o_6).1.2.1 ∧ o.1.2.2.1 = ((o_0, o_1, o_2, o_3), o_4, o_5, o_6).1.2.2.1 ∧ o.1.2.2.2 = ((o_0, o_1, o_2, o_3), o_4, o_5, o_6).1.2.2.2 ∧ o.2.1 = ((o_0, o_1, o_2, o_3), o_4, o_5, o_6).2.1) ∧ (bestI (expI o.1 (n - 1)) o.1 (List.drop (Int.toNat (i + 1)) (implRes p r)) (b, (l_0, l_1)) ((exI (n - 1) ((o_0, o_1, o_2, o_3), o_4, o_5, o_6) (res.getD i.toNat [])).2.1, (exI (n - 1) ((o_0, o_1, o_2, o_3), o_4, o_5, o_6) (res.getD i.toNat [])).2.2) = chI n o p r ∧ okMI o.1 ((exI (n - 1) ((o_0, o_1, o_2, o_3), o_4, o_5, o_6) (res.getD i.toNat [])).2.1, (exI (n - 1) ((o_0, o_1, o_2, o_3), o_4, o_5, o_6) (res.getD i.toNat [])).2.2) ∧ exD o.1 (l_0, l_1) = true ∧ List.length b ≠ 0 ∧ 1 ≤ (i + 1) ∧ (i + 1) ≤ (List.length (implRes p r) : Int))) ∧ ((Int.toNat ((List.length (implRes p r) : Int) - (i + 1)) : Nat) < Int.toNat ((List.length (implRes p r) : Int) - i))))))))))) (@Eq (HO (c__impl_onesided_choice n).outs) (b, (l_0, l_1), true, ()) ((c__impl_onesided_choice n).out (o, p, r, ())) ∧ @Eq (HI (c__impl_onesided_choice n).ins) (((o_0, o_1, o_2, o_3), o_4, o_5, o_6), p, r, ()) ((c__impl_onesided_choice n).upd (o, p, r, ())))))))))) (by kernel_rfl) ?_
  rintro o p r ⟨⟨⟨hv, hg, hb, ho, hle⟩, hpos⟩, hr⟩ hl

  have out : ∀ R, chI n o p r = R → @Eq (HO (c__impl_onesided_choice n).outs) (R.1.1, R.1.2.1, R.1.2.2, ()) ((c__impl_onesided_choice n).out (o, p, r, ())) ∧ @Eq (HI (c__impl_onesided_choice n).ins) ((o.1, o.2.1, R.2), p, r, ()) ((c__impl_onesided_choice n).upd (o, p, r, ())) := fun R e => by subst e; exact ⟨rfl, rfl⟩

  have hR := bear_res hv hb hr
  have hE := expI_ok hv (n - 1)
  have hnext : ∀ q T, q ∈ implRes p r → okMI o.1 T → PreI (n - 1) (o.1, o.2.1, T) q := fun q T hq hT => by
    have := impl_next hv hb hpos hle hr hq
    exact ⟨hv, hg, this.1, hT, this.2.1⟩
  have hlen := implRes_lenE hR
  have hval : ∀ q T, q ∈ implRes p r → okMI o.1 T → exD o.1 (expI o.1 (n - 1) T q).1.1 = true ∧ okMI o.1 (expI o.1 (n - 1) T q).2 := fun q T hq hT => by
    have := impl_next hv hb hpos hle hr hq
    exact hE T q hT this.1 this.2.1
  have hT0 : chI n o p r = bestI (expI o.1 (n - 1)) o.1 (implRes p r) ([], (0, 0)) o.2.2 := rfl
  refine bspB (fun h => by rw [hg] at h; cases h) (fun _ => ⟨hR, bspD (fun h0 => ?_) (fun h0 => ?_), ?_⟩)
  · have hm := getP_mem (l := implRes p r) (k := 0) (by omega)
    have hc := drop_consX (l := implRes p r) (k := 0) (by omega) []
    rw [List.drop_zero] at hc
    rw [hc] at hT0
    simp only [bestI] at hT0
    have hq := impl_next hv hb hpos hle hr hm
    obtain ⟨v1, v2⟩ := hval _ o.2.2 hm ho
    refine ⟨⟨by omega, by omega⟩, by omega, hnext _ _ hm ho, bspB (fun hf => ?_) (fun hf => ⟨by simp only [inK]; omega, (by first | trivial | rfl | (and_intros <;> rfl)), ?_, v2, v1, hq.2.2, by omega, by omega⟩)⟩
    · have hf' : (expI o.1 (n - 1) o.2.2 ((implRes p r).getD 0 [])).1.2 = false := by simpa [exI] using hf
      rw [if_pos hf'] at hT0
      exact out _ hT0
    · have hf' : ¬ (expI o.1 (n - 1) o.2.2 ((implRes p r).getD 0 [])).1.2 = false := by simpa [exI] using hf
      rw [if_neg hf', if_pos (.inl (by first | trivial | rfl))] at hT0
      exact hT0.symm
  · have : implRes p r = [] := List.eq_nil_of_length_eq_zero (by omega)
    rw [this] at hT0
    exact out _ hT0
  rintro m i t7_0 t7_1 b l_0 l_1 res o_0 o_1 o_2 o_3 o_4 o_5 o_6 ⟨⟨rfl, rfl, rfl, rfl, rfl, rfl, rfl, rfl, rfl⟩, ⟨hT, hk, hx, hbn, i0, i1⟩⟩
  simp only [Prod.eta]
  refine bspD (fun hlt => ?_) (fun hge => ?_)
  · obtain ⟨k, rfl⟩ : ∃ k : Nat, i = k := ⟨i.toNat, by omega⟩
    simp only [Int.toNat_natCast] at hT ⊢
    have hm := getP_mem (l := implRes p r) (k := k) (by omega)
    rw [drop_consX (l := implRes p r) (k := k) (by omega) []] at hT
    simp only [bestI] at hT
    have hq := impl_next hv hb hpos hle hr hm
    obtain ⟨v1, v2⟩ := hval _ (o_5, o_6) hm hk
    refine ⟨⟨by omega, by omega⟩, by omega, hnext _ _ hm hk, bspB (fun hf => ?_) (fun hf => ⟨hbn, ⟨hv, v1, hx⟩, bspD (fun hc => ⟨by simp only [inK]; omega, ⟨(by first | trivial | rfl | (and_intros <;> rfl)), ?_, v2, v1, hq.2.2, by omega, by omega⟩, by omega⟩) (fun hc => ⟨by simp only [inK]; omega, ⟨(by first | trivial | rfl | (and_intros <;> rfl)), ?_, v2, hx, hbn, by omega, by omega⟩, by omega⟩)⟩)⟩
    · have hf' : (expI o.1 (n - 1) (o_5, o_6) ((implRes p r).getD k [])).1.2 = false := by simpa [exI] using hf
      rw [if_pos hf'] at hT
      exact out _ hT.symm
    · have hf' : ¬ (expI o.1 (n - 1) (o_5, o_6) ((implRes p r).getD k [])).1.2 = false := by simpa [exI] using hf
      rw [if_neg hf', if_pos (.inr hc)] at hT
      rw [show ((k : Int) + 1).toNat = k + 1 by omega]
      exact hT
    · have hf' : ¬ (expI o.1 (n - 1) (o_5, o_6) ((implRes p r).getD k [])).1.2 = false := by simpa [exI] using hf
      rw [if_neg hf', if_neg (fun h => h.elim (fun h => hbn (by rw [h]; rfl)) hc)] at hT
      rw [show ((k : Int) + 1).toNat = k + 1 by omega]
      exact hT
  · rw [List.drop_eq_nil_of_le (by omega)] at hT
    exact out _ hT.symm
theorem k__impl_onesided_compute [B : Base] {n : Nat} (h : ConOk Try.prog 46 (c__impl_onesided_choice n)) : ConOk Try.prog 31 (c__impl_onesided_compute n) := by
  refine fn_okW (C := cx Try.prog 61 (c__impl_onesided_compute n)) (cs := [(45, c_impl_AllRolls), (46, (c__impl_onesided_choice n)), (47, c_impl_meanExact), (48, c_impl_addExact)]) (res := Try.f31.results.toList) (fun x => ⟨[{ sh := ⟨[(0, .one (.ref 0)), (1, .one (.ref 3)), (4, .one (.ref 4)), (6, .one (.ref 5)), (18, .one (.ref 6)), (19, .one (.i .i64)), (20, .one (.i .i64))], [(3, .imm tI false), (4, .box [.i .i64, .i .i64]), (5, .own 26 tRoll true), (6, .imm tRoll true), (0, .box [.i .i64, .i .i64, .i .i64, .i .i64, .b, .ref 1, .ref 2]), (1, .mp true tI tRoll), (2, .mp false tI .b)]⟩, nx := 7, I := fun _ dat_ => (((if varD x.1.1 then rollsTo (Int.toNat x.1.1.2.2.2) else []).length : Int) = dat_.1.2.2.2.2.2.1 ∧ x.2.1 = dat_.2.1 ∧ (0 : Int) = dat_.2.2.1.1 ∧ (0 : Int) = dat_.2.2.1.2.1 ∧ (if varD x.1.1 then rollsTo (Int.toNat x.1.1.2.2.2) else []) = dat_.2.2.2.2.1 ∧ x.1.1.1 = dat_.2.2.2.2.2.1.1 ∧ x.1.1.2.1 = dat_.2.2.2.2.2.1.2.1 ∧ x.1.1.2.2.1 = dat_.2.2.2.2.2.1.2.2.1 ∧ x.1.1.2.2.2 = dat_.2.2.2.2.2.1.2.2.2.1 ∧ x.1.2.1 = dat_.2.2.2.2.2.1.2.2.2.2.1) ∧ (rollsI (expI x.1.1 (n - 1)) x.1.1 x.2.1 (List.drop (Int.toNat dat_.1.2.2.2.2.2.2.1) (rollsTo (Int.toNat x.1.1.2.2.2))) dat_.2.2.2.1 (dat_.2.2.2.2.2.2.1, dat_.2.2.2.2.2.2.2.1) = rollsI (expI x.1.1 (n - 1)) x.1.1 x.2.1 (rollsTo (Int.toNat x.1.1.2.2.2)) [] x.1.2.2 ∧ okMI x.1.1 (dat_.2.2.2.2.2.2.1, dat_.2.2.2.2.2.2.2.1) ∧ allX x.1.1 dat_.2.2.2.1 = true ∧ List.length (dat_.2.2.2.1 : List DExact) = Int.toNat dat_.1.2.2.2.2.2.2.1 ∧ 0 ≤ dat_.1.2.2.2.2.2.2.1 ∧ dat_.1.2.2.2.2.2.2.1 ≤ (List.length (rollsTo (Int.toNat x.1.1.2.2.2)) : Int)), mu := fun dat_ => Int.toNat ((List.length (rollsTo (Int.toNat x.1.1.2.2.2)) : Int) - dat_.1.2.2.2.2.2.2.1) }], [(13, ⟨[[], [0], [0, 1], [0, 1, 2], [], [], [0, 1, 2, 3, 4, 5], [0, 1, 2, 3, 4, 5, 6], [0, 1, 2, 3, 4, 5, 6], [0, 1, 2, 3, 4, 5, 6, 7, 8], [0, 1, 2, 3, 4, 5, 6, 7, 8, 9]], [[4, 5], [4, 5], [4, 5], [4, 5], [0, 1, 2, 3, 5], [0, 1, 2, 3, 4], [], [8], [7], [], []], []⟩)], []⟩) Try.func31 (by kernel_rfl) rfl rfl rfl tysOk.look eqTsOk.look (AllCs.ok (l := [(45, c_impl_AllRolls), (46, (c__impl_onesided_choice n)), (47, c_impl_meanExact), (48, c_impl_addExact)]) ⟨k_impl_AllRolls, h, k_impl_meanExact, k_impl_addExact, trivial⟩) mixed rfl rfl rfl rfl ?_
  refine of_nf (P := ∀ o : (Int × Int × Int × Int) × Bool × (List (Int × Int × Int)) × List (Int × Bool), ∀ p : List Int, (PreJ n o p) → ((lensI (c__impl_onesided_compute n).ins (o, p, ())) → (True ∧ (((((if varD o.1 then rollsTo (Int.toNat o.1.2.2.2) else []).length : Int) = ((if varD o.1 then rollsTo (Int.toNat o.1.2.2.2) else []).length : Int) ∧ p = p ∧ (0 : Int) = 0 ∧ (0 : Int) = 0 ∧ (if varD o.1 then rollsTo (Int.toNat o.1.2.2.2) else []) = (if varD o.1 then rollsTo (Int.toNat o.1.2.2.2) else []) ∧ o.1.1 = o.1.1 ∧ o.1.2.1 = o.1.2.1 ∧ o.1.2.2.1 = o.1.2.2.1 ∧ o.1.2.2.2 = o.1.2.2.2 ∧ o.2.1 = o.2.1) ∧ (rollsI (expI o.1 (n - 1)) o.1 p (List.drop (Int.toNat (0 : Int)) (rollsTo (Int.toNat o.1.2.2.2))) [] (o.2.2.1, o.2.2.2) = rollsI (expI o.1 (n - 1)) o.1 p (rollsTo (Int.toNat o.1.2.2.2)) [] o.2.2 ∧ okMI o.1 (o.2.2.1, o.2.2.2) ∧ allX o.1 [] = true ∧ List.length ([] : List DExact) = Int.toNat (0 : Int) ∧ 0 ≤ (0 : Int) ∧ (0 : Int) ≤ (List.length (rollsTo (Int.toNat o.1.2.2.2)) : Int))) ∧ (∀ m : Int, ∀ i : Int, ∀ t1 : List Int, ∀ t4_0 : Int, ∀ t4_1 : Int, ∀ vs : List (Int × Int), ∀ rs : List (Int × Int), ∀ o_0 : Int, ∀ o_1 : Int, ∀ o_2 : Int, ∀ o_3 : Int, ∀ o_4 : Bool, ∀ o_5 : List (Int × Int × Int), ∀ o_6 : List (Int × Bool), ((((if varD o.1 then rollsTo (Int.toNat o.1.2.2.2) else []).length : Int) = m ∧ p = t1 ∧ (0 : Int) = t4_0 ∧ (0 : Int) = t4_1 ∧ (if varD o.1 then rollsTo (Int.toNat o.1.2.2.2) else []) = rs ∧ o.1.1 = o_0 ∧ o.1.2.1 = o_1 ∧ o.1.2.2.1 = o_2 ∧ o.1.2.2.2 = o_3 ∧ o.2.1 = o_4) ∧ (rollsI (expI o.1 (n - 1)) o.1 p (List.drop (Int.toNat i) (rollsTo (Int.toNat o.1.2.2.2))) vs (o_5, o_6) = rollsI (expI o.1 (n - 1)) o.1 p (rollsTo (Int.toNat o.1.2.2.2)) [] o.2.2 ∧ okMI o.1 (o_5, o_6) ∧ allX o.1 vs = true ∧ List.length (vs : List DExact) = Int.toNat i ∧ 0 ≤ i ∧ i ≤ (List.length (rollsTo (Int.toNat o.1.2.2.2)) : Int))) → (bsp (decide (i < m)) ((0 ≤ i ∧ i < (rs.length : Int)) ∧ ((i.toNat < rs.length) ∧ ((PreJ n ((o_0, o_1, o_2, o_3), o_4, o_5, o_6) t1 ∧ rollD ((o_0, o_1, o_2, o_3), o_4, o_5, o_6).1 (rs.getD i.toNat (0, 0)) = true) ∧ (bsp (!(chI n ((o_0, o_1, o_2, o_3), o_4, o_5, o_6) t1 (rs.getD i.toNat (0, 0))).1.2.2) (@Eq (HO (c__impl_onesided_compute n).outs) ((0, 0), false, ()) ((c__impl_onesided_compute n).out (o, p, ())) ∧ @Eq (HI (c__impl_onesided_compute n).ins) ((((o_0, o_1, o_2, o_3), o_4, o_5, o_6).1, ((o_0, o_1, o_2, o_3), o_4, o_5, o_6).2.1, (chI n ((o_0, o_1, o_2, o_3), o_4, o_5, o_6) t1 (rs.getD i.toNat (0, 0))).2), p, ()) ((c__impl_onesided_compute n).upd (o, p, ()))) ((vs.length + ([(chI n ((o_0, o_1, o_2, o_3), o_4, o_5, o_6) t1 (rs.getD i.toNat (0, 0))).1.2.1] : List (Int × Int)).length ≤ AB) ∧ ((inK .i64 (i + 1)) ∧ (((((if varD o.1 then rollsTo (Int.toNat o.1.2.2.2) else []).length : Int) = m ∧ p = t1 ∧ (0 : Int) = t4_0 ∧ (0 : Int) = t4_1 ∧ (if varD o.1 then rollsTo (Int.toNat o.1.2.2.2) else []) = rs ∧ o.1.1 = ((o_0, o_1, o_2, o_3), o_4, o_5, o_6).1.1 ∧ o.1.2.1 = ((o_0, o_1, o_2, o_3), o_4, o_5, o_6).1.2.1 ∧ o.1.2.2.1 = ((o_0, o_1, o_2, o_3), o_4, o_5, o_6).1.2.2.1 ∧ o.1.2.2.2 = ((o_0, o_1, o_2, o_3), o_4, o_5, o_6).1.2.2.2 ∧ o.2.1 = ((o_0, o_1, o_2, o_3), o_4, o_5, o_6).2.1) ∧ (rollsI (expI o.1 (n - 1)) o.1 p (List.drop (Int.toNat (i + 1)) (rollsTo (Int.toNat o.1.2.2.2))) (vs ++ [(chI n ((o_0, o_1, o_2, o_3), o_4, o_5, o_6) t1 (rs.getD i.toNat (0, 0))).1.2.1]) ((chI n ((o_0, o_1, o_2, o_3), o_4, o_5, o_6) t1 (rs.getD i.toNat (0, 0))).2.1, (chI n ((o_0, o_1, o_2, o_3), o_4, o_5, o_6) t1 (rs.getD i.toNat (0, 0))).2.2) = rollsI (expI o.1 (n - 1)) o.1 p (rollsTo (Int.toNat o.1.2.2.2)) [] o.2.2 ∧ okMI o.1 ((chI n ((o_0, o_1, o_2, o_3), o_4, o_5, o_6) t1 (rs.getD i.toNat (0, 0))).2.1, (chI n ((o_0, o_1, o_2, o_3), o_4, o_5, o_6) t1 (rs.getD i.toNat (0, 0))).2.2) ∧ allX o.1 (vs ++ [(chI n ((o_0, o_1, o_2, o_3), o_4, o_5, o_6) t1 (rs.getD i.toNat (0, 0))).1.2.1]) = true ∧ List.length ((vs ++ [(chI n ((o_0, o_1, o_2, o_3), o_4, o_5, o_6) t1 (rs.getD i.toNat (0, 0))).1.2.1]) : List DExact) = Int.toNat (i + 1) ∧ 0 ≤ (i + 1) ∧ (i + 1) ≤ (List.length (rollsTo (Int.toNat o.1.2.2.2)) : Int))) ∧ ((Int.toNat ((List.length (rollsTo (Int.toNat o.1.2.2.2)) : Int) - (i + 1)) : Nat) < Int.toNat ((List.length (rollsTo (Int.toNat o.1.2.2.2)) : Int) - i))))))))) (((varD (o_0, o_1, o_2, o_3) = true ∧ allX (o_0, o_1, o_2, o_3) vs = true) ∧ (List.length vs : Int) = kindsD (o_0, o_1, o_2, o_3)) ∧ (bsp (!(meanE (o_0, o_1, o_2, o_3) vs).2) (@Eq (HO (c__impl_onesided_compute n).outs) ((0, 0), false, ()) ((c__impl_onesided_compute n).out (o, p, ())) ∧ @Eq (HI (c__impl_onesided_compute n).ins) (((o_0, o_1, o_2, o_3), o_4, o_5, o_6), p, ()) ((c__impl_onesided_compute n).upd (o, p, ()))) ((varD (o_0, o_1, o_2, o_3) = true ∧ exIn (meanE (o_0, o_1, o_2, o_3) vs).1 ∧ exIn (1, 0)) ∧ (@Eq (HO (c__impl_onesided_compute n).outs) ((addDI (o_0, o_1, o_2, o_3) (meanE (o_0, o_1, o_2, o_3) vs).1 (1, 0)).1, (addDI (o_0, o_1, o_2, o_3) (meanE (o_0, o_1, o_2, o_3) vs).1 (1, 0)).2, ()) ((c__impl_onesided_compute n).out (o, p, ())) ∧ @Eq (HI (c__impl_onesided_compute n).ins) (((o_0, o_1, o_2, o_3), o_4, o_5, o_6), p, ()) ((c__impl_onesided_compute n).upd (o, p, ())))))))))))) (by kernel_rfl) ?_
  rintro o p ⟨⟨hv, hg, hb, ho, hle⟩, hpos⟩ hl

  have out : ∀ R, coI n o p = R → @Eq (HO (c__impl_onesided_compute n).outs) (R.1.1, R.1.2, ()) ((c__impl_onesided_compute n).out (o, p, ())) ∧ @Eq (HI (c__impl_onesided_compute n).ins) ((o.1, o.2.1, R.2), p, ()) ((c__impl_onesided_compute n).upd (o, p, ())) := fun R e => by subst e; exact ⟨rfl, rfl⟩

  have hrs : (if varD o.1 then rollsTo (Int.toNat o.1.2.2.2) else []) = rollsTo o.1.2.2.2.toNat := if_pos hv
  have h36 := rollsTo_len o.1.2.2.2.toNat (by have := (varD_iff.1 hv).2.2.2; omega)
  have hs6 := (varD_iff.1 hv).2.2.2
  have hAB : AB = 1099511627776 := rfl
  simp only [hrs]
  refine ⟨trivial, ⟨(by first | trivial | rfl | (and_intros <;> rfl)), rfl, ho, rfl, rfl, by omega, by omega⟩, ?_⟩
  rintro m i t1 t4_0 t4_1 vs rs o_0 o_1 o_2 o_3 o_4 o_5 o_6 ⟨⟨rfl, rfl, rfl, rfl, rfl, rfl, rfl, rfl, rfl, rfl⟩, ⟨hT, hk, hx, hvl, i0, i1⟩⟩
  simp only [Prod.eta]
  refine bspD (fun hlt => ?_) (fun hge => ?_)
  · obtain ⟨k, rfl⟩ : ∃ k : Nat, i = k := ⟨i.toNat, by omega⟩
    simp only [Int.toNat_natCast] at hT hvl ⊢
    have hr := rolls_ok hv (getD_memX (l := rollsTo o.1.2.2.2.toNat) (k := k) (by omega) (0, 0))
    have hB := bestI_ok (expI_ok hv (n - 1)) (implRes p ((rollsTo o.1.2.2.2.toNat).getD k (0, 0))) ([], (0, 0)) (o_5, o_6) (fun q hq => by
      have := impl_next hv hb hpos hle hr hq
      exact ⟨this.1, this.2.1⟩) hk (exD_zero _)
    rw [drop_consX (l := rollsTo o.1.2.2.2.toNat) (k := k) (by omega) (0, 0)] at hT
    simp only [rollsI] at hT
    refine ⟨⟨by omega, by omega⟩, by omega, ⟨⟨⟨hv, hg, hb, hk, hle⟩, hpos⟩, hr⟩, bspB (fun hf => ?_) (fun hf => ⟨by simp only [List.length_cons, List.length_nil]; omega, by simp only [inK]; omega, ⟨(by first | trivial | rfl | (and_intros <;> rfl)), ?_, hB.1, ?_, by simp; omega, by omega, by omega⟩, by omega⟩)⟩
    · have hf' : (bestI (expI o.1 (n - 1)) o.1 (implRes p ((rollsTo o.1.2.2.2.toNat).getD k (0, 0))) ([], (0, 0)) (o_5, o_6)).1.2.2 = false := by simpa [chI] using hf
      rw [if_pos hf'] at hT
      refine out (((0, 0), false), _) ?_
      unfold coI compI
      rw [← hT]
      rfl
    · have hf' : ¬ (bestI (expI o.1 (n - 1)) o.1 (implRes p ((rollsTo o.1.2.2.2.toNat).getD k (0, 0))) ([], (0, 0)) (o_5, o_6)).1.2.2 = false := by simpa [chI] using hf
      rw [if_neg hf'] at hT
      rw [show ((k : Int) + 1).toNat = k + 1 by omega]
      exact hT
    · simp only [allX, List.all_append, List.all_cons, List.all_nil, Bool.and_true, Bool.and_eq_true]
      exact ⟨hx, hB.2⟩
  · rw [List.drop_eq_nil_of_le (by omega)] at hT
    have hC : coI n o p = (finE o.1 (vs, true), (o_5, o_6)) := by
      unfold coI compI
      rw [← hT]
      rfl
    refine ⟨⟨⟨hv, hx⟩, by unfold kindsD; rw [if_pos hv]; omega⟩, bspB (fun hf => ?_) (fun hf => ?_)⟩
    · have hf' : (meanE o.1 vs).2 = false := by simpa using hf
      exact out (((0, 0), false), _) (hC.trans (by unfold finE; rw [if_neg (show ¬ true = false from fun h => nomatch h), if_pos hf']))
    · have hf' : ¬ (meanE o.1 vs).2 = false := by simpa using hf
      refine ⟨⟨hv, (exD_in hv (meanE_ok (by simpa using hf))).1, exD_one (v := o.1)⟩, out (addDI o.1 (meanE o.1 vs).1 (1, 0), (o_5, o_6)) (hC.trans (by unfold finE; rw [if_neg (show ¬ true = false from fun h => nomatch h), if_neg hf']))⟩
theorem k__impl_onesided_expected [B : Base] {n : Nat} (h : ConOk Try.prog 31 (c__impl_onesided_compute n)) : ConOk Try.prog 15 (c__impl_onesided_expected n) := by
  refine fn_okW (C := cx Try.prog 60 (c__impl_onesided_expected n)) (cs := [(29, c_impl_total), (30, c_impl_bearoffNumber), (31, (c__impl_onesided_compute n))]) (res := Try.f15.results.toList) (fun _ => ⟨[], [(6, ⟨[[], [], [1], [1, 2], [1, 2, 3], [], [1, 2, 3, 4, 5], [1, 2, 3, 4, 5, 6], [0], [0, 1, 2, 3, 4, 5, 6, 7, 8]], [[1, 2, 3, 4, 5, 6, 7], [0, 5, 8], [0, 5, 8], [0, 5, 8], [0, 5, 8], [0, 1, 2, 3, 4, 8], [0, 8], [0, 8], [1, 2, 3, 4, 5, 6, 7], []], [[], [4], [4], [4], [4], [4], [4], [4], [], []]⟩), (8, ⟨[[], [0], [0, 1], [0, 1, 2], [], [], [0, 1, 2, 3, 4, 5]], [[4, 5], [4, 5], [4, 5], [4, 5], [0, 1, 2, 3, 5], [0, 1, 2, 3, 4], []], []⟩)], []⟩) Try.func15 (by kernel_rfl) rfl rfl rfl tysOk.look eqTsOk.look (AllCs.ok (l := [(29, c_impl_total), (30, c_impl_bearoffNumber), (31, (c__impl_onesided_compute n))]) ⟨k_impl_total, k_impl_bearoffNumber, h, trivial⟩) mixed rfl rfl rfl rfl ?_
  refine of_nf (P := ∀ o : (Int × Int × Int × Int) × Bool × (List (Int × Int × Int)) × List (Int × Bool), ∀ p : List Int, (PreI n o p) → ((lensI (c__impl_onesided_expected n).ins (o, p, ())) → ((Bd p) ∧ (bsp (decide ((List.sum p) = (0 : Int))) (@Eq (HO (c__impl_onesided_expected n).outs) ((0, 0), true, ()) ((c__impl_onesided_expected n).out (o, p, ())) ∧ @Eq (HI (c__impl_onesided_expected n).ins) (o, p, ()) ((c__impl_onesided_expected n).upd (o, p, ()))) ((varD o.1 = true ∧ bearD o.1 p = true) ∧ (bsp ((mget tI (numE p (List.length p) (Int.toNat o.1.2.1) : Int) o.2.2.1).isSome) (@Eq (HO (c__impl_onesided_expected n).outs) (((mget tI (numE p (List.length p) (Int.toNat o.1.2.1) : Int) o.2.2.1).getD (0, 0)), (!((mget tI (numE p (List.length p) (Int.toNat o.1.2.1) : Int) o.2.2.2).getD false)), ()) ((c__impl_onesided_expected n).out (o, p, ())) ∧ @Eq (HI (c__impl_onesided_expected n).ins) (o, p, ()) ((c__impl_onesided_expected n).upd (o, p, ()))) ((PreJ n o p) ∧ (@Eq (HO (c__impl_onesided_expected n).outs) ((coI n o p).1.1, (coI n o p).1.2, ()) ((c__impl_onesided_expected n).out (o, p, ())) ∧ @Eq (HI (c__impl_onesided_expected n).ins) ((o.1, o.2.1, (mset tI (numE p (List.length p) (Int.toNat o.1.2.1) : Int) (coI n o p).1.1 (coI n o p).2.1), (mset tI (numE p (List.length p) (Int.toNat o.1.2.1) : Int) (!(coI n o p).1.2) (coI n o p).2.2)), p, ()) ((c__impl_onesided_expected n).upd (o, p, ())))))))))) (by kernel_rfl) ?_
  rintro o p ⟨hv, hg, hb, ho, hle⟩ hl

  have out : ∀ R, exI n o p = R → @Eq (HO (c__impl_onesided_expected n).outs) (R.1.1, R.1.2, ()) ((c__impl_onesided_expected n).out (o, p, ())) ∧ @Eq (HI (c__impl_onesided_expected n).ins) ((o.1, o.2.1, R.2), p, ()) ((c__impl_onesided_expected n).upd (o, p, ())) := fun R e => by subst e; exact ⟨rfl, rfl⟩

  refine ⟨bear_bd hv hb, bspD (fun hs => ?_) (fun hs => ?_)⟩
  · refine out (((0, 0), true), o.2.2) ?_
    unfold exI
    cases n with
    | zero => rfl
    | succ m => simp only [expI]; rw [if_pos hs]
  have hp := pips_pos hv hb hs
  obtain ⟨m, rfl⟩ : ∃ m : Nat, n = m + 1 := ⟨n - 1, by omega⟩
  refine ⟨⟨hv, hb⟩, bspB (fun hk => ?_) (fun hk => ⟨⟨⟨hv, hg, hb, ho, hle⟩, hs⟩, ?_⟩)⟩
  · refine out (((mget tI (keyP o.1 p) o.2.2.1).getD (0, 0), !(mget tI (keyP o.1 p) o.2.2.2).getD false), o.2.2) ?_
    unfold exI
    simp only [expI]
    rw [if_neg hs, if_pos (show (mget tI (keyP o.1 p) o.2.2.1).isSome = true from hk)]
  · refine out ((coI (m + 1) o p).1, (mset tI (keyP o.1 p) (coI (m + 1) o p).1.1 (coI (m + 1) o p).2.1, mset tI (keyP o.1 p) (!(coI (m + 1) o p).1.2) (coI (m + 1) o p).2.2)) ?_
    unfold exI
    simp only [expI]
    rw [if_neg hs, if_neg (by unfold keyP; rw [hk]; decide)]
    rfl
theorem k_comp0 [B : Base] : ConOk Try.prog 31 (c__impl_onesided_compute 0) :=
  ⟨⟨_, _, Try.func31, by kernel_rfl, rfl⟩, fun _ _ _ _ x _ _ _ _ _ _ _ h => by
    obtain ⟨⟨hv, _, hb, _, hle⟩, hs⟩ := h
    have := pips_pos hv hb hs
    exact absurd this (by omega)⟩
theorem k_one [B : Base] : ∀ n, ConOk Try.prog 15 (c__impl_onesided_expected n)
  | 0 => k__impl_onesided_expected k_comp0
  | n + 1 => k__impl_onesided_expected (k__impl_onesided_compute (k__impl_onesided_choice (n := n + 1) (k_one n)))
end Go.Proofs.Ytoobijimfccfgaa
