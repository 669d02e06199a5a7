/-
  The law FnExactMean.
-/
import Derived.Test.YtghfpidpefdndaaVMean
import Derived.Test.YtghfpidpefdndaaVCmp
import Derived.Test.YtghfpidpefdndaaVSumsM
import Derived.Test.YtghfpidpefdndaaVDrawX
namespace Go.Proofs.Ytghfpidpefdndaa
open Go.RowKit
set_option linter.unusedSimpArgs false
set_option linter.unusedVariables false
def sumW : List DRoll → Int
  | [] => 0
  | r :: rs => wtD r + sumW rs
def sumVal (v : DVar) : List DRoll → List DExact → Int
  | r :: rs, x :: xs => valD v x * wtD r + sumVal v rs xs
  | _, _ => 0
theorem sumW_rolls {k : Nat} (h : k ≤ 6) : sumW (rollsTo k) = (k : Int) * k := by
  have : k = 0 ∨ k = 1 ∨ k = 2 ∨ k = 3 ∨ k = 4 ∨ k = 5 ∨ k = 6 := by omega
  rcases this with rfl | rfl | rfl | rfl | rfl | rfl | rfl <;> decide
theorem mul_val {v : DVar} {x : DExact} {k : Int} (hv : varD v = true) (hx : exD v x = true) (h : (mkD v (x.1 * k) x.2.toNat).2 = true) : valD v (mkD v (x.1 * k) x.2.toNat).1 = valD v x * k := by
  obtain ⟨⟨-, x2, x2'⟩, -⟩ := exD_in hv hx
  rw [(val_mk hv (by omega) h).1]
  unfold valD
  rw [Int.mul_right_comm]
theorem sumD_val {v : DVar} (hv : varD v = true) : ∀ {rs : List DRoll} {xs : List DExact} {s : DExact}, rs.length ≤ xs.length → (∀ x, x ∈ xs → exD v x = true) → exD v s = true → (sumD v rs xs s).2 = true →
    exD v (sumD v rs xs s).1 = true ∧ valD v (sumD v rs xs s).1 = valD v s + sumVal v rs xs
  | [], xs, s, _, _, hs, _ => by simp [sumD, sumVal, hs]
  | r :: rs, [], s, hl, _, _, _ => by simp at hl
  | r :: rs, x :: xs, s, hl, hx, hs, h => by
    simp only [sumD] at h ⊢
    split at h
    · next h1 =>
      split at h
      · next h2 =>
        rw [if_pos h1, if_pos h2]
        have hm := mkD_ok h1
        have hx0 := hx x (by simp)
        obtain ⟨i1, i2⟩ := sumD_val hv (by simpa using hl) (fun y hy => hx y (List.mem_cons_of_mem _ hy)) (addDI_ok h2) h
        refine ⟨i1, ?_⟩
        rw [i2, add_val hv hs hm h2, mul_val hv hx0 h1]
        simp only [sumVal]; omega
      · cases h
    · cases h
/-- the mean times the base is the sum -/
theorem mean_val {v : DVar} {l : List DExact} (hv : varD v = true) (hl : allX v l = true) (hk : (l.length : Int) = kindsD v) (h : (meanE v l).2 = true) :
    exD v (meanE v l).1 = true ∧ (bsD v : Int) * valD v (meanE v l).1 = sumVal v (rollsTo v.2.2.2.toNat) l := by
  have hn : l.length = (rollsTo v.2.2.2.toNat).length := by simp only [kindsD, hv, if_true] at hk; omega
  unfold meanE at h ⊢
  split at h
  · next g =>
    rw [if_pos g]
    refine ⟨mkD_ok h, ?_⟩
    obtain ⟨i1, i2⟩ := sumD_val hv (by omega) (fun x hx => List.all_eq_true.1 hl x hx) (exD_zero v) g
    obtain ⟨⟨-, s2, s2'⟩, -⟩ := exD_in hv i1
    have e0 : valD v (0, 0) = 0 := by simp [valD]
    rw [e0, Int.zero_add] at i2
    have s60 : (sumA v l).1.2 ≤ 60 := s2'
    rw [(val_mk hv (by omega) h).1, ← i2]
    show (bsD v : Int) * _ = valD v (sumA v l).1
    unfold valD
    rw [Int.mul_left_comm]
    congr 1
    rw [← Int.pow_succ']
    congr 1
    show 120 - ((sumA v l).1.2.toNat + 1) + 1 = 120 - (sumA v l).1.2.toNat
    have : (sumA v l).1.2 ≤ 60 := s2'
    omega
  · cases h
theorem wt_pos (r : DRoll) : 1 ≤ wtD r := by unfold wtD; split <;> omega
theorem sum_less {v : DVar} {m : Int} : ∀ {rs : List DRoll} {xs : List DExact}, rs.length = xs.length → rs ≠ [] → (∀ x, x ∈ xs → valD v x < m) → sumVal v rs xs < m * sumW rs
  | [], _, _, h, _ => absurd rfl h
  | r :: rs, [], hl, _, _ => by simp at hl
  | r :: rs, x :: xs, hl, _, hx => by
    simp only [sumVal, sumW]
    have h1 : valD v x * wtD r < m * wtD r := Int.mul_lt_mul_of_pos_right (hx x (by simp)) (by have := wt_pos r; omega)
    rw [Int.mul_add]
    cases rs with
    | nil => cases xs with
             | nil => simp only [sumVal, sumW]; omega
             | cons y ys => simp at hl
    | cons r' rs' =>
      have := sum_less (v := v) (m := m) (rs := r' :: rs') (xs := xs) (by simpa using hl) (by simp) (fun y hy => hx y (List.mem_cons_of_mem _ hy))
      omega
theorem sum_more {v : DVar} {m : Int} : ∀ {rs : List DRoll} {xs : List DExact}, rs.length = xs.length → rs ≠ [] → (∀ x, x ∈ xs → m < valD v x) → m * sumW rs < sumVal v rs xs
  | [], _, _, h, _ => absurd rfl h
  | r :: rs, [], hl, _, _ => by simp at hl
  | r :: rs, x :: xs, hl, _, hx => by
    simp only [sumVal, sumW]
    have h1 : m * wtD r < valD v x * wtD r := Int.mul_lt_mul_of_pos_right (hx x (by simp)) (by have := wt_pos r; omega)
    rw [Int.mul_add]
    cases rs with
    | nil => cases xs with
             | nil => simp only [sumVal, sumW]; omega
             | cons y ys => simp at hl
    | cons r' rs' =>
      have := sum_more (v := v) (m := m) (rs := r' :: rs') (xs := xs) (by simpa using hl) (by simp) (fun y hy => hx y (List.mem_cons_of_mem _ hy))
      omega
theorem base_sq {v : DVar} (hv : varD v = true) : (bsD v : Int) = sumW (rollsTo v.2.2.2.toNat) ∧ rollsTo v.2.2.2.toNat ≠ [] := by
  obtain ⟨e, b1, b2, s1, s2⟩ := bsD_facts hv
  refine ⟨?_, fun h => ?_⟩
  · rw [sumW_rolls (by omega), ← e, show ((v.2.2.2.toNat : Nat) : Int) = v.2.2.2 by omega]
  · have := rollsTo_cnt (k := v.2.2.2.toNat) (by omega)
    rw [h] at this
    have hk : 1 ≤ v.2.2.2.toNat ∧ v.2.2.2.toNat ≤ 6 := by omega
    generalize v.2.2.2.toNat = k at *
    have : k = 1 ∨ k = 2 ∨ k = 3 ∨ k = 4 ∨ k = 5 ∨ k = 6 := by omega
    rcases this with rfl | rfl | rfl | rfl | rfl | rfl <;> simp at this
/-- the mean is not above all values, nor below all -/
theorem mean_between {v : DVar} {l : List DExact} (hv : varD v = true) (hl : allX v l = true) (hk : (l.length : Int) = kindsD v) (h : (meanE v l).2 = true) :
    ¬ (∀ x, x ∈ l → 0 < cmpD v (meanE v l).1 x) ∧ ¬ (∀ x, x ∈ l → cmpD v (meanE v l).1 x < 0) := by
  have hn : l.length = (rollsTo v.2.2.2.toNat).length := by simp only [kindsD, hv, if_true] at hk; omega
  obtain ⟨h1, h2⟩ := mean_val hv hl hk h
  obtain ⟨q1, q2⟩ := base_sq hv
  rw [q1] at h2
  have hc : ∀ x, x ∈ l → cmpD v (meanE v l).1 x = if valD v (meanE v l).1 = valD v x then 0 else if valD v (meanE v l).1 < valD v x then -1 else 1 := fun x hx => cmp_val hv h1 (List.all_eq_true.1 hl x hx)
  rw [Int.mul_comm] at h2
  refine ⟨fun H => ?_, fun H => ?_⟩
  · have := sum_less (v := v) (m := valD v (meanE v l).1) hn.symm q2 (fun x hx => by
      have k := H x hx
      rw [hc x hx] at k
      split at k
      · omega
      · split at k <;> omega)
    omega
  · have := sum_more (v := v) (m := valD v (meanE v l).1) hn.symm q2 (fun x hx => by
      have k := H x hx
      rw [hc x hx] at k
      split at k
      · omega
      · split at k <;> omega)
    omega
theorem val_int {v : DVar} {n : Int} : valD v (n, 0) = n * (bsD v : Int) ^ 120 := by simp [valD]
theorem ex_int {v : DVar} {n : Int} (h : n.natAbs ≤ 1000000000000000000) : exD v (n, 0) = true := by simp [exD, inB]; omega
theorem sum_seven {v : DVar} (hv : varD v = true) : ∀ {rs : List DRoll} {n : Nat} {W : Int}, rs.length ≤ n → 0 ≤ W → W + sumW rs ≤ 1000 → sumD v rs (List.replicate n (7, 0)) (7 * W, 0) = ((7 * (W + sumW rs), 0), true)
  | [], n, W, _, _, _ => by simp [sumD, sumW]
  | r :: rs, 0, W, hl, _, _ => by simp at hl
  | r :: rs, n + 1, W, hl, h0, h1 => by
    have hw := wt_pos r
    have hs : 0 ≤ sumW rs := by
      clear h1 hl
      induction rs with
      | nil => decide
      | cons a l ih => have := wt_pos a; simp only [sumW]; omega
    simp only [sumW] at h1
    have e1 : mkD v (7 * wtD r) 0 = ((7 * wtD r, 0), true) := mk_val hv (ex_int (by omega)) (by omega) (by rw [val_int])
    have e2 : addDI v (7 * W, 0) (7 * wtD r, 0) = ((7 * (W + wtD r), 0), true) := by
      have : addDI v (7 * W, 0) (7 * wtD r, 0) = mkD v (7 * W + 7 * wtD r) 0 := by simp [addDI, add1D, add2D]
      rw [this]
      refine mk_val hv (ex_int (by omega)) (by omega) ?_
      rw [val_int]
      congr 1; omega
    simp only [List.replicate_succ, sumD]
    have e3 : Int.toNat 0 = 0 := rfl
    rw [e3, e1, if_pos rfl]
    dsimp only
    rw [e2, if_pos rfl]
    have ih := sum_seven hv (rs := rs) (n := n) (W := W + wtD r) (by simpa using hl) (by omega) (by omega)
    dsimp only
    rw [ih]
    simp only [sumW, Int.add_assoc]
theorem mean_seven {v : DVar} {n : Nat} (hv : varD v = true) (hn : (n : Int) = kindsD v) : meanX v (List.replicate n (7, 0)) = ((7, 0), 0) := by
  have hl : n = (rollsTo v.2.2.2.toNat).length := by simp only [kindsD, hv, if_true] at hn; omega
  obtain ⟨q1, q2⟩ := base_sq hv
  obtain ⟨-, b1, b2, -⟩ := bsD_facts hv
  have hs := sum_seven hv (rs := rollsTo v.2.2.2.toNat) (n := n) (W := 0) (by omega) (by omega) (by omega)
  rw [← q1, Int.zero_add] at hs
  have ha : sumA v (List.replicate n (7, 0)) = ((7 * (bsD v : Int), 0), true) := hs
  have hm : meanE v (List.replicate n (7, 0)) = ((7, 0), true) := by
    unfold meanE
    rw [ha, if_pos rfl]
    refine mk_val hv (ex_int (by decide)) (by show 0 + 1 ≤ 120; decide) ?_
    rw [val_int]
    show 7 * (bsD v : Int) * (bsD v : Int) ^ (120 - (0 + 1)) = _
    rw [Int.mul_assoc, ← Int.pow_succ']
  have hc : codeX v (List.replicate n (7, 0)) = 0 := codeX_ok hv fun j hj => by
    rw [List.getD_eq_getElem?_getD, List.getElem?_eq_getElem hj, List.getElem_replicate]
    exact ex_int (by decide)
  unfold meanX
  rw [if_neg (by rw [hc]; decide), if_neg (by simp; omega), hm, if_pos rfl]
def meanStep (v : DVar) (p : List DExact × DSrc) : List DExact × DSrc :=
  if 0 < (nextD (nextD p.2 3).2 3).1 then (p.1 ++ [(drawX (nextD (nextD p.2 3).2 3).2 v).1], (drawX (nextD (nextD p.2 3).2 3).2 v).2) else (p.1 ++ [((nextD p.2 3).1, 0)], (nextD (nextD p.2 3).2 3).2)
def iterM (v : DVar) (p : List DExact × DSrc) : Nat → List DExact × DSrc
  | 0 => p
  | n + 1 => meanStep v (iterM v p n)
def kindsM (v : DVar) : Nat := (rollsTo (min v.2.2.2 6).toNat).length
def drawM (c : List Int) : DVar × List DExact :=
  let a := drawV (fromD c)
  let p := iterM a.1 ([], a.2) (kindsM a.1)
  (a.1, if (nextD p.2 16).1 = 0 then p.1 ++ [(0, 0)] else p.1)
theorem iterM_ok {v : DVar} {s : DSrc} (h : okS s) : ∀ n, okS (iterM v ([], s) n).2 ∧ (iterM v ([], s) n).2.1 = s.1 ∧ (iterM v ([], s) n).1.length = n ∧ ∀ x, x ∈ (iterM v ([], s) n).1 → okX64 x
  | 0 => ⟨h, rfl, rfl, fun x hx => by simp [iterM] at hx⟩
  | n + 1 => by
    obtain ⟨i1, i2, i3, i4⟩ := iterM_ok h n
    have b1 := nextD_bd i1 3
    have j1 := nextD_ok i1 3
    have j2 := nextD_ok j1 3
    have j3 := drawX_ok (v := v) j2
    have j4 := drawX_bd (v := v) j2
    simp only [iterM, meanStep]
    split
    · refine ⟨j3.1, by rw [j3.2, nextD_code, nextD_code, i2], by simp [i3], fun x hx => ?_⟩
      rcases List.mem_append.1 hx with hx | hx
      · exact i4 x hx
      · rw [List.mem_singleton.1 hx]; exact j4
    · refine ⟨j2, by rw [nextD_code, nextD_code, i2], by simp [i3], fun x hx => ?_⟩
      rcases List.mem_append.1 hx with hx | hx
      · exact i4 x hx
      · rw [List.mem_singleton.1 hx]; unfold okX64; dsimp only; omega
def c_spec_DrawMeanExact : Con where
  ins := [(false, .v (.sl (.i .u8)))]
  outs := [(true, .v tVar), (false, .v (.sl tRoll))]
  sh := false
  pre := fun x => okC x.1
  out := fun x => ((drawM x.1).1, (drawM x.1).2, ())
  upd := fun x => x
theorem k_spec_DrawMeanExact : ConOk Try.prog 59 c_spec_DrawMeanExact := by
  refine fn_ok (C := cx Try.prog 48 c_spec_DrawMeanExact) (cs := [(131, c_spec_l01From), (132, c_spec_l09DrawVariant), (84, c_spec_l09Rolls), (133, c_spec_l01Next), (134, c_spec_l09DrawExact)]) (res := Try.f59.results.toList) (fun x => ⟨[{ sh := ⟨[(2, .one (.ref 0)), (4, .one (.ref 1)), (5, .one (.ref 2)), (6, .one (.ref 3)), (7, .one (.i .i64)), (8, .one (.i .i64))], [(0, .box [.i .i64, .i .i64, .i .i64, .i .i64]), (1, .box [.ref 4, .i .i64, .i .i64]), (2, .box [.i .i64, .i .i64, .i .i64, .i .i64]), (3, .own 27 tRoll true), (4, .imm (.i .u8) false)]⟩, nx := 5, I := fun _ dat_ => (((rollsTo (Int.toNat (0, 0, 0, (min (drawV (fromD x.1)).1.2.2.2 (6 : Int))).2.2.2)).length : Int) = dat_.1.2.2.2.2.1 ∧ (0 : Int) = dat_.2.1.1 ∧ (0 : Int) = dat_.2.1.2.1 ∧ (0 : Int) = dat_.2.1.2.2.1 ∧ (0 : Int) = dat_.2.1.2.2.2.1 ∧ (drawV (fromD x.1)).1.1 = dat_.2.2.2.1.1 ∧ (drawV (fromD x.1)).1.2.1 = dat_.2.2.2.1.2.1 ∧ (drawV (fromD x.1)).1.2.2.1 = dat_.2.2.2.1.2.2.1 ∧ (drawV (fromD x.1)).1.2.2.2 = dat_.2.2.2.1.2.2.2.1 ∧ (fromD x.1).1 = dat_.2.2.2.2.2.1) ∧ ((dat_.2.2.2.2.1 = (iterM (drawV (fromD x.1)).1 ([], (drawV (fromD x.1)).2) (Int.toNat dat_.1.2.2.2.2.2.1)).1 ∧ (x.1, dat_.2.2.1.2.1, dat_.2.2.1.2.2.1) = (iterM (drawV (fromD x.1)).1 ([], (drawV (fromD x.1)).2) (Int.toNat dat_.1.2.2.2.2.2.1)).2) ∧ 0 ≤ dat_.1.2.2.2.2.2.1 ∧ dat_.1.2.2.2.2.2.1 ≤ (kindsM (drawV (fromD x.1)).1 : Int)), mu := fun dat_ => Int.toNat ((kindsM (drawV (fromD x.1)).1 : Int) - dat_.1.2.2.2.2.2.1) }], [], []⟩) Try.func59 (by kernel_rfl) rfl rfl rfl tysOk.look eqTsOk.look (AllCs.ok (l := [(131, c_spec_l01From), (132, c_spec_l09DrawVariant), (84, c_spec_l09Rolls), (133, c_spec_l01Next), (134, c_spec_l09DrawExact)]) ⟨k_spec_l01From, k_spec_l09DrawVariant, k_spec_l09Rolls, k_spec_l01Next, k_spec_l09DrawExact, trivial⟩) mixed rfl rfl rfl ?_
  refine of_nf (P := ∀ c : List Int, (okC c) → ((lensI c_spec_DrawMeanExact.ins (c, ())) → ((okC c) ∧ ((okS (fromD c)) ∧ ((0 ≤ (0, 0, 0, (min (drawV (fromD c)).1.2.2.2 (6 : Int))).2.2.2 ∧ (0, 0, 0, (min (drawV (fromD c)).1.2.2.2 (6 : Int))).2.2.2 ≤ 6) ∧ (((((rollsTo (Int.toNat (0, 0, 0, (min (drawV (fromD c)).1.2.2.2 (6 : Int))).2.2.2)).length : Int) = ((rollsTo (Int.toNat (0, 0, 0, (min (drawV (fromD c)).1.2.2.2 (6 : Int))).2.2.2)).length : Int) ∧ (0 : Int) = 0 ∧ (0 : Int) = 0 ∧ (0 : Int) = 0 ∧ (0 : Int) = 0 ∧ (drawV (fromD c)).1.1 = (drawV (fromD c)).1.1 ∧ (drawV (fromD c)).1.2.1 = (drawV (fromD c)).1.2.1 ∧ (drawV (fromD c)).1.2.2.1 = (drawV (fromD c)).1.2.2.1 ∧ (drawV (fromD c)).1.2.2.2 = (drawV (fromD c)).1.2.2.2 ∧ (fromD c).1 = (fromD c).1) ∧ (([] = (iterM (drawV (fromD c)).1 ([], (drawV (fromD c)).2) (Int.toNat (0 : Int))).1 ∧ (c, (drawV (fromD c)).2.2.1, (drawV (fromD c)).2.2.2) = (iterM (drawV (fromD c)).1 ([], (drawV (fromD c)).2) (Int.toNat (0 : Int))).2) ∧ 0 ≤ (0 : Int) ∧ (0 : Int) ≤ (kindsM (drawV (fromD c)).1 : Int))) ∧ (∀ n : Int, ∀ i : Int, ∀ t2_0 : Int, ∀ t2_1 : Int, ∀ t2_2 : Int, ∀ t2_3 : Int, ∀ s_1 : Int, ∀ s_2 : Int, ∀ t5_0 : Int, ∀ t5_1 : Int, ∀ t5_2 : Int, ∀ t5_3 : Int, ∀ out : List (Int × Int), ∀ s_0 : List Int, ((((rollsTo (Int.toNat (0, 0, 0, (min (drawV (fromD c)).1.2.2.2 (6 : Int))).2.2.2)).length : Int) = n ∧ (0 : Int) = t2_0 ∧ (0 : Int) = t2_1 ∧ (0 : Int) = t2_2 ∧ (0 : Int) = t2_3 ∧ (drawV (fromD c)).1.1 = t5_0 ∧ (drawV (fromD c)).1.2.1 = t5_1 ∧ (drawV (fromD c)).1.2.2.1 = t5_2 ∧ (drawV (fromD c)).1.2.2.2 = t5_3 ∧ (fromD c).1 = s_0) ∧ ((out = (iterM (drawV (fromD c)).1 ([], (drawV (fromD c)).2) (Int.toNat i)).1 ∧ (c, s_1, s_2) = (iterM (drawV (fromD c)).1 ([], (drawV (fromD c)).2) (Int.toNat i)).2) ∧ 0 ≤ i ∧ i ≤ (kindsM (drawV (fromD c)).1 : Int))) → (bsp (decide (i < n)) ((okS (s_0, s_1, s_2) ∧ (3 : Int) ≤ 1000000000000) ∧ ((okS (s_0, (nextD (s_0, s_1, s_2) (3 : Int)).2.2) ∧ (3 : Int) ≤ 1000000000000) ∧ (bsp (decide ((0 : Int) < (nextD (s_0, (nextD (s_0, s_1, s_2) (3 : Int)).2.2) (3 : Int)).1)) ((okS (s_0, (nextD (s_0, (nextD (s_0, s_1, s_2) (3 : Int)).2.2) (3 : Int)).2.2)) ∧ ((out.length + ([(drawX (s_0, (nextD (s_0, (nextD (s_0, s_1, s_2) (3 : Int)).2.2) (3 : Int)).2.2) (t5_0, t5_1, t5_2, t5_3)).1] : List (Int × Int)).length ≤ AB) ∧ ((inK .i64 (i + 1)) ∧ (((((rollsTo (Int.toNat (0, 0, 0, (min (drawV (fromD c)).1.2.2.2 (6 : Int))).2.2.2)).length : Int) = n ∧ (0 : Int) = t2_0 ∧ (0 : Int) = t2_1 ∧ (0 : Int) = t2_2 ∧ (0 : Int) = t2_3 ∧ (drawV (fromD c)).1.1 = t5_0 ∧ (drawV (fromD c)).1.2.1 = t5_1 ∧ (drawV (fromD c)).1.2.2.1 = t5_2 ∧ (drawV (fromD c)).1.2.2.2 = t5_3 ∧ (fromD c).1 = s_0) ∧ (((out ++ [(drawX (s_0, (nextD (s_0, (nextD (s_0, s_1, s_2) (3 : Int)).2.2) (3 : Int)).2.2) (t5_0, t5_1, t5_2, t5_3)).1]) = (iterM (drawV (fromD c)).1 ([], (drawV (fromD c)).2) (Int.toNat (i + 1))).1 ∧ (c, (drawX (s_0, (nextD (s_0, (nextD (s_0, s_1, s_2) (3 : Int)).2.2) (3 : Int)).2.2) (t5_0, t5_1, t5_2, t5_3)).2.2.1, (drawX (s_0, (nextD (s_0, (nextD (s_0, s_1, s_2) (3 : Int)).2.2) (3 : Int)).2.2) (t5_0, t5_1, t5_2, t5_3)).2.2.2) = (iterM (drawV (fromD c)).1 ([], (drawV (fromD c)).2) (Int.toNat (i + 1))).2) ∧ 0 ≤ (i + 1) ∧ (i + 1) ≤ (kindsM (drawV (fromD c)).1 : Int))) ∧ ((Int.toNat ((kindsM (drawV (fromD c)).1 : Int) - (i + 1)) : Nat) < Int.toNat ((kindsM (drawV (fromD c)).1 : Int) - i)))))) ((out.length + ([((nextD (s_0, s_1, s_2) (3 : Int)).1, 0)] : List (Int × Int)).length ≤ AB) ∧ ((inK .i64 (i + 1)) ∧ (((((rollsTo (Int.toNat (0, 0, 0, (min (drawV (fromD c)).1.2.2.2 (6 : Int))).2.2.2)).length : Int) = n ∧ (0 : Int) = t2_0 ∧ (0 : Int) = t2_1 ∧ (0 : Int) = t2_2 ∧ (0 : Int) = t2_3 ∧ (drawV (fromD c)).1.1 = t5_0 ∧ (drawV (fromD c)).1.2.1 = t5_1 ∧ (drawV (fromD c)).1.2.2.1 = t5_2 ∧ (drawV (fromD c)).1.2.2.2 = t5_3 ∧ (fromD c).1 = s_0) ∧ (((out ++ [((nextD (s_0, s_1, s_2) (3 : Int)).1, 0)]) = (iterM (drawV (fromD c)).1 ([], (drawV (fromD c)).2) (Int.toNat (i + 1))).1 ∧ (c, (nextD (s_0, (nextD (s_0, s_1, s_2) (3 : Int)).2.2) (3 : Int)).2.2.1, (nextD (s_0, (nextD (s_0, s_1, s_2) (3 : Int)).2.2) (3 : Int)).2.2.2) = (iterM (drawV (fromD c)).1 ([], (drawV (fromD c)).2) (Int.toNat (i + 1))).2) ∧ 0 ≤ (i + 1) ∧ (i + 1) ≤ (kindsM (drawV (fromD c)).1 : Int))) ∧ ((Int.toNat ((kindsM (drawV (fromD c)).1 : Int) - (i + 1)) : Nat) < Int.toNat ((kindsM (drawV (fromD c)).1 : Int) - i)))))))) ((okS (s_0, s_1, s_2) ∧ (16 : Int) ≤ 1000000000000) ∧ (bsp (decide ((nextD (s_0, s_1, s_2) (16 : Int)).1 = (0 : Int))) ((out.length + ([(0, 0)] : List (Int × Int)).length ≤ AB) ∧ (@Eq (HO c_spec_DrawMeanExact.outs) ((t5_0, t5_1, t5_2, t5_3), (out ++ [(0, 0)]), ()) (c_spec_DrawMeanExact.out (c, ())))) (@Eq (HO c_spec_DrawMeanExact.outs) ((t5_0, t5_1, t5_2, t5_3), out, ()) (c_spec_DrawMeanExact.out (c, ()))))))))))))) (by kernel_rfl) ?_
  rintro c hc hl
  have hF := fromD_ok hc
  have hS0 := drawV_ok hF
  have hvb := drawV_bd hF
  have hc0 : (drawV (fromD c)).2.1 = c := drawV_code _
  have out : ∀ l : List DExact, (drawM c).2 = l → @Eq (HO c_spec_DrawMeanExact.outs) ((drawV (fromD c)).1, l, ()) (c_spec_DrawMeanExact.out (c, ())) := fun l h => by subst h; rfl
  have hM : (drawM c).2 = if (nextD (iterM (drawV (fromD c)).1 ([], (drawV (fromD c)).2) (kindsM (drawV (fromD c)).1)).2 16).1 = 0 then (iterM (drawV (fromD c)).1 ([], (drawV (fromD c)).2) (kindsM (drawV (fromD c)).1)).1 ++ [(0, 0)] else (iterM (drawV (fromD c)).1 ([], (drawV (fromD c)).2) (kindsM (drawV (fromD c)).1)).1 := rfl
  simp only [fromD_code]
  have hk36 : kindsM (drawV (fromD c)).1 ≤ 36 := by
    have := rollsTo_len (min (drawV (fromD c)).1.2.2.2 6).toNat (by omega)
    unfold kindsM
    omega
  generalize drawV (fromD c) = A at *
  have hkm : (rollsTo (min A.1.2.2.2 6).toNat).length = kindsM A.1 := rfl
  rw [hkm]
  unfold okV64 at hvb
  refine ⟨hc, hF, ⟨by omega, by omega⟩, ⟨(by first | trivial | rfl | (and_intros <;> rfl)), ⟨rfl, ?_⟩, by omega, by omega⟩, ?_⟩
  · show (c, A.2.2.1, A.2.2.2) = A.2
    rw [← hc0]
  rintro n i t2_0 t2_1 t2_2 t2_3 s_1 s_2 t5_0 t5_1 t5_2 t5_3 out s_0 ⟨⟨rfl, rfl, rfl, rfl, rfl, rfl, rfl, rfl, rfl, rfl⟩, ⟨⟨ho, hs⟩, i0, i1⟩⟩
  simp only [Prod.eta]
  obtain ⟨k, rfl⟩ : ∃ k : Nat, i = k := ⟨i.toNat, by omega⟩
  simp only [Int.toNat_natCast, show ((k : Int) + 1).toNat = k + 1 by omega, iterM] at ho hs ⊢
  obtain ⟨j1, j2, j3, j4⟩ := iterM_ok (v := A.1) hS0 k
  have j5 := j2.trans hc0
  rw [hs]
  subst ho
  have hend : kindsM A.1 ≤ k → (drawM c).2 = if (nextD (iterM A.1 ([], A.2) k).2 16).1 = 0 then (iterM A.1 ([], A.2) k).1 ++ [(0, 0)] else (iterM A.1 ([], A.2) k).1 := fun h => by rw [hM, show kindsM A.1 = k by omega]
  have hmS := meanStep.eq_1 A.1 (iterM A.1 ([], A.2) k)
  generalize iterM A.1 ([], A.2) k = P at *
  have r1 := nextD_ok j1 3
  have r2 := nextD_ok r1 3
  have c2 : (nextD (nextD P.2 3).2 3).2.1 = c := by rw [nextD_code, nextD_code]; exact j5
  have c3 := (drawX_ok (v := A.1) r2).2.trans c2
  simp only [nextD_eta, src_eta, nextD_code, j5, c3]
  refine bspD (fun hlt => ⟨⟨j1, by decide⟩, ⟨r1, by decide⟩, bspD (fun hg => ⟨r2, by simp [AB]; omega, by simp only [inK]; omega, ⟨(by first | trivial | rfl | (and_intros <;> rfl)), ⟨?_, ?_⟩, by omega, by omega⟩, by omega⟩) (fun hg => ⟨by simp [AB]; omega, by simp only [inK]; omega, ⟨(by first | trivial | rfl | (and_intros <;> rfl)), ⟨?_, ?_⟩, by omega, by omega⟩, by omega⟩)⟩) (fun hge => ⟨⟨j1, by decide⟩, bspD (fun hz => ⟨by simp [AB]; omega, out _ ((hend (by omega)).trans (if_pos hz))⟩) (fun hz => out _ ((hend (by omega)).trans (if_neg hz)))⟩)
  · rw [hmS, if_pos hg]
  · rw [hmS, if_pos hg, ← c3]
  · rw [hmS, if_neg hg]
  · rw [hmS, if_neg hg]
def c_laws_big : Con where
  ins := [(false, .v (.sl (.i .u8)))]
  outs := [(false, .v .b)]
  sh := false
  pre := fun _ => True
  out := fun x => (decide (4096 < (List.length x.1 : Int)), ())
  upd := fun x => x
theorem k_laws_big : ConOk Try.prog 58 c_laws_big := by
  refine fn_ok (C := cx Try.prog 6 c_laws_big) (cs := []) (res := Try.f58.results.toList) (fun _ => ⟨[], [], []⟩) Try.func58 (by kernel_rfl) rfl rfl rfl tysOk.look eqTsOk.look (AllCs.ok (l := []) trivial) mixed rfl rfl rfl ?_
  refine of_nf (P := ∀ c : List Int, (True) → ((lensI c_laws_big.ins (c, ())) → (@Eq (HO c_laws_big.outs) ((decide ((4096 : Int) < (c.length : Int))), ()) (c_laws_big.out (c, ()))))) (by kernel_rfl) ?_
  rintro c hp hl
  rfl
theorem okC_ofM {c : List Int} (h : wfD (TC.sl (.i .u8)) c) (hl : ¬ 4096 < (c.length : Int)) : okC c := by
  refine ⟨by omega, fun i => ?_⟩
  by_cases hi : i < c.length
  · have := h _ (getD_memX hi 0)
    simp only [wfD, inK] at this
    omega
  · rw [List.getD_eq_getElem?_getD, List.getElem?_eq_none (by omega)]; decide
theorem drawM_bd {c : List Int} (hc : okC c) : bdX (drawM c).2 ∧ (drawM c).2.length ≤ 37 := by
  have hF := fromD_ok hc
  have hvb := drawV_bd hF
  obtain ⟨j1, j2, j3, j4⟩ := iterM_ok (v := (drawV (fromD c)).1) (drawV_ok hF) (kindsM (drawV (fromD c)).1)
  have hk36 : kindsM (drawV (fromD c)).1 ≤ 36 := by
    have := rollsTo_len (min (drawV (fromD c)).1.2.2.2 6).toNat (by omega)
    unfold kindsM
    omega
  have hall : ∀ x, x ∈ (drawM c).2 → x.2 ≤ 1000 := fun x hx => by
    unfold drawM at hx
    simp only [] at hx
    split at hx
    · rcases List.mem_append.1 hx with hx | hx
      · exact (j4 x hx).2.2
      · rw [List.mem_singleton.1 hx]; decide
    · exact (j4 x hx).2.2
  refine ⟨fun i => ?_, ?_⟩
  · by_cases hi : i < (drawM c).2.length
    · have := hall _ (getD_memX hi (0, 0)); omega
    · rw [List.getD_eq_getElem?_getD, List.getElem?_eq_none (by omega)]; decide
  · unfold drawM
    simp only []
    split
    · rw [List.length_append, j3]; simp; omega
    · rw [j3]; omega
def sevens (l : List DExact) (k : Nat) : Prop := l = List.replicate k (7, 0)
theorem all_take_succ {α : Type} (p : α → Bool) {l : List α} {k : Nat} (h : k < l.length) (d : α) : (l.take (k + 1)).all p = ((l.take k).all p && p (l.getD k d)) := by
  rw [List.take_add_one, List.all_append, List.getD_eq_getElem?_getD, List.getElem?_eq_getElem h]; simp
theorem meanX_zero {v : DVar} {l : List DExact} (h : (meanX v l).2 = 0) : varD v = true ∧ allX v l = true ∧ (l.length : Int) = kindsD v ∧ (meanE v l).2 = true ∧ (meanX v l).1 = (meanE v l).1 := by
  unfold meanX at h ⊢
  split at h
  · next g => exact absurd h g
  · next g =>
    obtain ⟨hv, ha⟩ := codeX_zero (Decidable.not_not.1 g)
    rw [if_neg g]
    split at h
    · exact absurd (show (2 : Int) = 0 from h) (by decide)
    · next k =>
      rw [if_neg k]
      split at h
      · next m => rw [if_pos m]; exact ⟨hv, ha, Decidable.not_not.1 k, m, rfl⟩
      · exact absurd (show (3 : Int) = 0 from h) (by decide)
theorem all_cmp {v : DVar} {l : List DExact} {m : DExact} (p : Int → Bool) (h : (l.all fun y => p (cmpD v m y)) = true) : ∀ x, x ∈ l → p (cmpD v m x) = true := fun x hx => List.all_eq_true.1 h x hx
def c_laws_FnExactMean : Con where
  ins := [(false, .v (.sl (.i .u8)))]
  outs := [(false, .v .b)]
  sh := false
  pre := fun x => wfD (TC.sl (.i .u8)) x.1
  out := fun _ => (true, ())
  upd := fun x => x
theorem k_laws_FnExactMean : ConOk Try.prog 10 c_laws_FnExactMean := by
  refine fn_ok (C := cx Try.prog 100 c_laws_FnExactMean) (cs := [(58, c_laws_big), (59, c_spec_DrawMeanExact), (19, c_impl_MeanExact), (16, c_spec_MeanExact), (60, c_impl_CompareExact)]) (res := Try.f10.results.toList) (fun x => ⟨[{ sh := ⟨[(3, .one (.ref 0)), (4, .one (.ref 1)), (5, .one (.ref 2)), (9, .one (.ref 3)), (10, .one .b), (11, .one .b), (12, .one (.i .i64))], [(0, .box [.i .i64, .i .i64, .i .i64, .i .i64]), (1, .imm tRoll true), (2, .box [.i .i64, .i .i64]), (3, .own 27 tRoll true)]⟩, nx := 4, I := fun _ dat_ => ((drawM x.1).1.1 = dat_.2.1.1 ∧ (drawM x.1).1.2.1 = dat_.2.1.2.1 ∧ (drawM x.1).1.2.2.1 = dat_.2.1.2.2.1 ∧ (drawM x.1).1.2.2.2 = dat_.2.1.2.2.2.1 ∧ (drawM x.1).2 = dat_.2.2.1 ∧ (meanX (drawM x.1).1 (drawM x.1).2).1.1 = dat_.2.2.2.1.1 ∧ (meanX (drawM x.1).1 (drawM x.1).2).1.2 = dat_.2.2.2.1.2.1) ∧ ((sevens dat_.2.2.2.2.1 (Int.toNat dat_.1.2.2.2.2.2.2.1) ∧ dat_.1.2.2.2.2.1 = List.all (List.take (Int.toNat dat_.1.2.2.2.2.2.2.1) (drawM x.1).2) (fun y => decide (0 < cmpD (drawM x.1).1 (meanX (drawM x.1).1 (drawM x.1).2).1 y)) ∧ dat_.1.2.2.2.2.2.1 = List.all (List.take (Int.toNat dat_.1.2.2.2.2.2.2.1) (drawM x.1).2) (fun y => decide (cmpD (drawM x.1).1 (meanX (drawM x.1).1 (drawM x.1).2).1 y < 0))) ∧ 0 ≤ dat_.1.2.2.2.2.2.2.1 ∧ dat_.1.2.2.2.2.2.2.1 ≤ (List.length (drawM x.1).2 : Int)), mu := fun dat_ => Int.toNat ((List.length (drawM x.1).2 : Int) - dat_.1.2.2.2.2.2.2.1) }], [(17, ⟨[[], [], [], [], [2, 3], [2, 3, 4], [0, 1, 2, 3, 4, 5], [0, 1, 2, 3, 4, 5, 6], [0, 1, 2, 3, 4, 5, 6, 7], [0, 1, 2, 3, 4, 5, 6, 7], [0, 1, 2, 3, 4, 5, 6, 7, 8], [0, 1, 2, 3, 4, 5, 6, 7, 8, 9, 10]], [[1, 2, 3, 4, 5], [0, 2, 3, 4, 5], [0, 1, 3], [0, 1, 2], [0, 1], [0, 1], [], [], [9], [8, 10], [9], []], []⟩)], []⟩) Try.func10 (by kernel_rfl) rfl rfl rfl tysOk.look eqTsOk.look (AllCs.ok (l := [(58, c_laws_big), (59, c_spec_DrawMeanExact), (19, c_impl_MeanExact), (16, c_spec_MeanExact), (60, c_impl_CompareExact)]) ⟨k_laws_big, k_spec_DrawMeanExact, k_impl_MeanExact, k_spec_MeanExact, k_impl_CompareExact, trivial⟩) mixed rfl rfl rfl ?_
  refine of_nf (P := ∀ c : List Int, (wfD (TC.sl (.i .u8)) c) → ((lensI c_laws_FnExactMean.ins (c, ())) → (True ∧ (bsp (decide (4096 < (List.length c : Int))) (@Eq (HO c_laws_FnExactMean.outs) (true, ()) (c_laws_FnExactMean.out (c, ()))) ((okC c) ∧ ((bdX (drawM c).2) ∧ ((bdX (drawM c).2) ∧ (bsp (decide ((meanX (drawM c).1 (drawM c).2).2 ≠ (meanX (drawM c).1 (drawM c).2).2)) (@Eq (HO c_laws_FnExactMean.outs) (false, ()) (c_laws_FnExactMean.out (c, ()))) (bsp (!(decide ((meanX (drawM c).1 (drawM c).2).1.1 = (meanX (drawM c).1 (drawM c).2).1.1) && (decide ((meanX (drawM c).1 (drawM c).2).1.2 = (meanX (drawM c).1 (drawM c).2).1.2) && (true)))) (@Eq (HO c_laws_FnExactMean.outs) (false, ()) (c_laws_FnExactMean.out (c, ()))) (bsp (decide ((meanX (drawM c).1 (drawM c).2).2 ≠ (0 : Int))) (@Eq (HO c_laws_FnExactMean.outs) (true, ()) (c_laws_FnExactMean.out (c, ()))) ((((drawM c).1.1 = (drawM c).1.1 ∧ (drawM c).1.2.1 = (drawM c).1.2.1 ∧ (drawM c).1.2.2.1 = (drawM c).1.2.2.1 ∧ (drawM c).1.2.2.2 = (drawM c).1.2.2.2 ∧ (drawM c).2 = (drawM c).2 ∧ (meanX (drawM c).1 (drawM c).2).1.1 = (meanX (drawM c).1 (drawM c).2).1.1 ∧ (meanX (drawM c).1 (drawM c).2).1.2 = (meanX (drawM c).1 (drawM c).2).1.2) ∧ ((sevens [] (Int.toNat (0 : Int)) ∧ true = List.all (List.take (Int.toNat (0 : Int)) (drawM c).2) (fun y => decide (0 < cmpD (drawM c).1 (meanX (drawM c).1 (drawM c).2).1 y)) ∧ true = List.all (List.take (Int.toNat (0 : Int)) (drawM c).2) (fun y => decide (cmpD (drawM c).1 (meanX (drawM c).1 (drawM c).2).1 y < 0))) ∧ 0 ≤ (0 : Int) ∧ (0 : Int) ≤ (List.length (drawM c).2 : Int))) ∧ (∀ above : Bool, ∀ below : Bool, ∀ i : Int, ∀ t3_0 : Int, ∀ t3_1 : Int, ∀ t3_2 : Int, ∀ t3_3 : Int, ∀ t4 : List (Int × Int), ∀ t5_0 : Int, ∀ t5_1 : Int, ∀ same : List (Int × Int), (((drawM c).1.1 = t3_0 ∧ (drawM c).1.2.1 = t3_1 ∧ (drawM c).1.2.2.1 = t3_2 ∧ (drawM c).1.2.2.2 = t3_3 ∧ (drawM c).2 = t4 ∧ (meanX (drawM c).1 (drawM c).2).1.1 = t5_0 ∧ (meanX (drawM c).1 (drawM c).2).1.2 = t5_1) ∧ ((sevens same (Int.toNat i) ∧ above = List.all (List.take (Int.toNat i) (drawM c).2) (fun y => decide (0 < cmpD (drawM c).1 (meanX (drawM c).1 (drawM c).2).1 y)) ∧ below = List.all (List.take (Int.toNat i) (drawM c).2) (fun y => decide (cmpD (drawM c).1 (meanX (drawM c).1 (drawM c).2).1 y < 0))) ∧ 0 ≤ i ∧ i ≤ (List.length (drawM c).2 : Int))) → (bsp (decide (i < (t4.length : Int))) ((same.length + ([(7, 0)] : List (Int × Int)).length ≤ AB) ∧ ((0 ≤ i ∧ i < (t4.length : Int)) ∧ ((i.toNat < t4.length) ∧ (((t5_0, t5_1).2 ≤ 9223372036854775807 ∧ (t4.getD i.toNat (0, 0)).2 ≤ 9223372036854775807) ∧ (bsp (decide ((cmpX (t3_0, t3_1, t3_2, t3_3) (t5_0, t5_1) (t4.getD i.toNat (0, 0))).2 ≠ (0 : Int))) (@Eq (HO c_laws_FnExactMean.outs) (false, ()) (c_laws_FnExactMean.out (c, ()))) (bsp above (bsp below ((inK .i64 (i + 1)) ∧ ((((drawM c).1.1 = t3_0 ∧ (drawM c).1.2.1 = t3_1 ∧ (drawM c).1.2.2.1 = t3_2 ∧ (drawM c).1.2.2.2 = t3_3 ∧ (drawM c).2 = t4 ∧ (meanX (drawM c).1 (drawM c).2).1.1 = t5_0 ∧ (meanX (drawM c).1 (drawM c).2).1.2 = t5_1) ∧ ((sevens (same ++ [(7, 0)]) (Int.toNat (i + 1)) ∧ (decide ((0 : Int) < (cmpX (t3_0, t3_1, t3_2, t3_3) (t5_0, t5_1) (t4.getD i.toNat (0, 0))).1)) = List.all (List.take (Int.toNat (i + 1)) (drawM c).2) (fun y => decide (0 < cmpD (drawM c).1 (meanX (drawM c).1 (drawM c).2).1 y)) ∧ (decide ((cmpX (t3_0, t3_1, t3_2, t3_3) (t5_0, t5_1) (t4.getD i.toNat (0, 0))).1 < (0 : Int))) = List.all (List.take (Int.toNat (i + 1)) (drawM c).2) (fun y => decide (cmpD (drawM c).1 (meanX (drawM c).1 (drawM c).2).1 y < 0))) ∧ 0 ≤ (i + 1) ∧ (i + 1) ≤ (List.length (drawM c).2 : Int))) ∧ ((Int.toNat ((List.length (drawM c).2 : Int) - (i + 1)) : Nat) < Int.toNat ((List.length (drawM c).2 : Int) - i)))) ((inK .i64 (i + 1)) ∧ ((((drawM c).1.1 = t3_0 ∧ (drawM c).1.2.1 = t3_1 ∧ (drawM c).1.2.2.1 = t3_2 ∧ (drawM c).1.2.2.2 = t3_3 ∧ (drawM c).2 = t4 ∧ (meanX (drawM c).1 (drawM c).2).1.1 = t5_0 ∧ (meanX (drawM c).1 (drawM c).2).1.2 = t5_1) ∧ ((sevens (same ++ [(7, 0)]) (Int.toNat (i + 1)) ∧ (decide ((0 : Int) < (cmpX (t3_0, t3_1, t3_2, t3_3) (t5_0, t5_1) (t4.getD i.toNat (0, 0))).1)) = List.all (List.take (Int.toNat (i + 1)) (drawM c).2) (fun y => decide (0 < cmpD (drawM c).1 (meanX (drawM c).1 (drawM c).2).1 y)) ∧ false = List.all (List.take (Int.toNat (i + 1)) (drawM c).2) (fun y => decide (cmpD (drawM c).1 (meanX (drawM c).1 (drawM c).2).1 y < 0))) ∧ 0 ≤ (i + 1) ∧ (i + 1) ≤ (List.length (drawM c).2 : Int))) ∧ ((Int.toNat ((List.length (drawM c).2 : Int) - (i + 1)) : Nat) < Int.toNat ((List.length (drawM c).2 : Int) - i))))) (bsp below ((inK .i64 (i + 1)) ∧ ((((drawM c).1.1 = t3_0 ∧ (drawM c).1.2.1 = t3_1 ∧ (drawM c).1.2.2.1 = t3_2 ∧ (drawM c).1.2.2.2 = t3_3 ∧ (drawM c).2 = t4 ∧ (meanX (drawM c).1 (drawM c).2).1.1 = t5_0 ∧ (meanX (drawM c).1 (drawM c).2).1.2 = t5_1) ∧ ((sevens (same ++ [(7, 0)]) (Int.toNat (i + 1)) ∧ false = List.all (List.take (Int.toNat (i + 1)) (drawM c).2) (fun y => decide (0 < cmpD (drawM c).1 (meanX (drawM c).1 (drawM c).2).1 y)) ∧ (decide ((cmpX (t3_0, t3_1, t3_2, t3_3) (t5_0, t5_1) (t4.getD i.toNat (0, 0))).1 < (0 : Int))) = List.all (List.take (Int.toNat (i + 1)) (drawM c).2) (fun y => decide (cmpD (drawM c).1 (meanX (drawM c).1 (drawM c).2).1 y < 0))) ∧ 0 ≤ (i + 1) ∧ (i + 1) ≤ (List.length (drawM c).2 : Int))) ∧ ((Int.toNat ((List.length (drawM c).2 : Int) - (i + 1)) : Nat) < Int.toNat ((List.length (drawM c).2 : Int) - i)))) ((inK .i64 (i + 1)) ∧ ((((drawM c).1.1 = t3_0 ∧ (drawM c).1.2.1 = t3_1 ∧ (drawM c).1.2.2.1 = t3_2 ∧ (drawM c).1.2.2.2 = t3_3 ∧ (drawM c).2 = t4 ∧ (meanX (drawM c).1 (drawM c).2).1.1 = t5_0 ∧ (meanX (drawM c).1 (drawM c).2).1.2 = t5_1) ∧ ((sevens (same ++ [(7, 0)]) (Int.toNat (i + 1)) ∧ false = List.all (List.take (Int.toNat (i + 1)) (drawM c).2) (fun y => decide (0 < cmpD (drawM c).1 (meanX (drawM c).1 (drawM c).2).1 y)) ∧ false = List.all (List.take (Int.toNat (i + 1)) (drawM c).2) (fun y => decide (cmpD (drawM c).1 (meanX (drawM c).1 (drawM c).2).1 y < 0))) ∧ 0 ≤ (i + 1) ∧ (i + 1) ≤ (List.length (drawM c).2 : Int))) ∧ ((Int.toNat ((List.length (drawM c).2 : Int) - (i + 1)) : Nat) < Int.toNat ((List.length (drawM c).2 : Int) - i))))))))))) ((bdX same) ∧ (bsp (decide ((meanX (t3_0, t3_1, t3_2, t3_3) same).2 = (0 : Int))) (bsp (decide ((meanX (t3_0, t3_1, t3_2, t3_3) same).1.1 = (7 : Int)) && (decide ((meanX (t3_0, t3_1, t3_2, t3_3) same).1.2 = (0 : Int)) && (true))) (bsp (!above) (@Eq (HO c_laws_FnExactMean.outs) ((!below), ()) (c_laws_FnExactMean.out (c, ()))) (@Eq (HO c_laws_FnExactMean.outs) (false, ()) (c_laws_FnExactMean.out (c, ())))) (@Eq (HO c_laws_FnExactMean.outs) (false, ()) (c_laws_FnExactMean.out (c, ())))) (@Eq (HO c_laws_FnExactMean.outs) (false, ()) (c_laws_FnExactMean.out (c, ())))))))))))))))))) (by kernel_rfl) ?_
  rintro c hw hl
  refine ⟨trivial, bspD (fun _ => rfl) (fun hb => ?_)⟩
  have hc := okC_ofM hw hb
  obtain ⟨hbd, hlen⟩ := drawM_bd hc
  refine ⟨hc, ?_⟩
  clear hl hw hb hc
  generalize (drawM c).1 = v at *
  generalize (drawM c).2 = L at *
  refine ⟨hbd, hbd, bspD (fun h => absurd rfl h) (fun _ => bspB (fun h => ?_) (fun _ => bspD (fun _ => rfl) (fun h0 => ?_)))⟩
  · exfalso; simp at h
  obtain ⟨hv, hall, hk, hm2, hm1⟩ := meanX_zero (Decidable.not_not.1 h0)
  have hval := (mean_val hv hall hk hm2).1
  have hbt := mean_between hv hall hk hm2
  have h7 := mean_seven hv hk
  rw [← hm1] at hval hbt
  clear h0 hm1 hm2
  generalize (meanX v L).1 = m at *
  refine ⟨⟨(by first | trivial | rfl | (and_intros <;> rfl)), ⟨rfl, by simp, by simp⟩, by omega, by omega⟩, ?_⟩
  rintro above below i t3_0 t3_1 t3_2 t3_3 t4 t5_0 t5_1 same ⟨⟨rfl, rfl, rfl, rfl, rfl, rfl, rfl⟩, ⟨⟨hsame, habove, hbelow⟩, i0, i1⟩⟩
  simp only [Prod.eta]
  obtain ⟨k, rfl⟩ : ∃ k : Nat, i = k := ⟨i.toNat, by omega⟩
  simp only [Int.toNat_natCast, show ((k : Int) + 1).toNat = k + 1 by omega] at hsame habove hbelow ⊢
  unfold sevens at hsame
  subst hsame
  subst habove
  subst hbelow
  have hm60 : m.2 ≤ 9223372036854775807 := by have := (exD_in hv hval).1.2.2; omega
  refine bspD (fun hlt => ?_) (fun hge => ?_)
  · have hk1 : k < L.length := by omega
    have hx := allX_at hall hk1
    have hc0 : codeX v [m, L.getD k (0, 0)] = 0 := by simp only [codeX, allX, List.all_cons, List.all_nil, hv, hval, hx]; decide
    have hcmp : cmpX v m (L.getD k (0, 0)) = (cmpD v m (L.getD k (0, 0)), 0) := by unfold cmpX; rw [if_neg (by rw [hc0]; decide)]
    have a1 := all_take_succ (fun y => decide (0 < cmpD v m y)) hk1 (0, 0)
    have a2 := all_take_succ (fun y => decide (cmpD v m y < 0)) hk1 (0, 0)
    have hc2 : (cmpX v m (L.getD k (0, 0))).2 = 0 := by rw [hcmp]
    have hr : List.replicate k ((7 : Int), (0 : Int)) ++ [(7, 0)] = List.replicate (k + 1) (7, 0) := by rw [List.replicate_succ']
    refine ⟨by simp [AB]; omega, ⟨by omega, by omega⟩, hk1, ⟨hm60, hbd k⟩, bspD (fun h => absurd hc2 h) (fun _ => bspB (fun g1 => bspB (fun g2 => ?_) (fun g2 => ?_)) (fun g1 => bspB (fun g2 => ?_) (fun g2 => ?_)))⟩
    all_goals
      refine ⟨by simp only [inK]; omega, ⟨(by first | trivial | rfl | (and_intros <;> rfl)), ⟨hr, ?_, ?_⟩, by omega, by omega⟩, by omega⟩
      all_goals simp only [hcmp, a1, a2, g1, g2, Bool.true_and, Bool.false_and]
  · have e : k = L.length := by omega
    subst e
    rw [h7]
    rw [List.take_length]
    have n1 : (L.all fun y => decide (0 < cmpD v m y)) = false := by
      cases h : L.all fun y => decide (0 < cmpD v m y)
      · rfl
      · exact absurd (fun x hx => of_decide_eq_true (List.all_eq_true.1 h x hx)) hbt.1
    have n2 : (L.all fun y => decide (cmpD v m y < 0)) = false := by
      cases h : L.all fun y => decide (cmpD v m y < 0)
      · rfl
      · exact absurd (fun x hx => of_decide_eq_true (List.all_eq_true.1 h x hx)) hbt.2
    rw [n1, n2]
    refine ⟨fun i => ?_, bspD (fun _ => bspB (fun _ => bspB (fun _ => rfl) (fun h => absurd h (by decide))) (fun h => ?_)) (fun h => absurd rfl h)⟩
    · rw [List.getD_eq_getElem?_getD, List.getElem?_replicate]
      split <;> decide
    · exfalso; simp at h
end Go.Proofs.Ytghfpidpefdndaa
