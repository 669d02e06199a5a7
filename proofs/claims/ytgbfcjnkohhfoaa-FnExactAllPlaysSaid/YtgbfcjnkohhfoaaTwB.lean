/-
  The copy of a board, by hand: its two rows are twins.
-/
import Derived.Test.YtgbfcjnkohhfoaaTwC
namespace Go.Proofs.Ytgbfcjnkohhfoaa
open Go.RowKit Go.Lib
set_option linter.unusedSimpArgs false
set_option linter.unusedVariables false

/-- the operations of a region of a chain of code -/
def opsAt (r : Nat) : Code → List Oper
  | .region id ops _ => bif nb id r then ops.toList else []
  | .seq a b => opsAt r a ++ opsAt r b
  | _ => []
/-- where a region stands in the text of the program -/
def posAt (r : Nat) (c : Option Code) : String := match opsAt r (c.getD .skip) with | o :: _ => o.pos | [] => ""
noncomputable def ps0 : String := posAt 0 Try.f57.body
noncomputable def ps1 : String := posAt 1 Try.f57.body
noncomputable def ob0 : Oper := ⟨some 3, .fieldAddr 35 (.tmp 1) 0, 0, ps1, #[], none⟩
noncomputable def ob1 : Oper := ⟨some 4, .load 24 (.tmp 3), 24, ps1, #[⟨0, .data⟩], none⟩
noncomputable def ob2 : Oper := ⟨some 5, .call { callee := .value (.func 85), args := #[.tmp 4], argTypes := #[24] }, 24, ps1, #[⟨1, .data⟩], none⟩
noncomputable def ob3 : Oper := ⟨some 6, .fieldAddr 35 (.tmp 1) 1, 0, ps1, #[], none⟩
noncomputable def ob4 : Oper := ⟨some 7, .load 24 (.tmp 6), 24, ps1, #[⟨3, .data⟩], none⟩
noncomputable def ob5 : Oper := ⟨some 8, .call { callee := .value (.func 85), args := #[.tmp 7], argTypes := #[24] }, 24, ps1, #[⟨4, .data⟩, ⟨2, .chain⟩], none⟩
noncomputable def ob6 : Oper := ⟨some 9, .build 35 #[(0, .tmp 5), (1, .tmp 8)], 35, ps1, #[⟨2, .data⟩, ⟨5, .data⟩], none⟩
noncomputable def ob7 : Oper := ⟨none, .store 35 (.tmp 2) (.tmp 9), 0, ps1, #[⟨6, .data⟩, ⟨5, .chain⟩, ⟨0, .phase⟩, ⟨1, .phase⟩, ⟨2, .phase⟩, ⟨3, .phase⟩, ⟨4, .phase⟩, ⟨5, .phase⟩, ⟨6, .phase⟩], none⟩
noncomputable def opsB : Array Oper := #[ob0, ob1, ob2, ob3, ob4, ob5, ob6, ob7]
noncomputable def oa0 : Oper := ⟨some 1, .box 35 (.tmp 0), 0, ps0, #[], none⟩
noncomputable def oa1 : Oper := ⟨some 2, .alloc 35, 0, ps0, #[], none⟩
noncomputable def codeB : Code := .seq (.region 0 #[oa0, oa1] false) (.seq (.region 1 opsB true) .ret)
theorem codeB_eq : Try.f57.body = some codeB := by kernel_rfl

theorem wpOp_value {P : Program} {ops : Array Oper} {Q : Exit → Act → World → Prop} {i : Nat} {K : Act → World → Prop} {a : Act} {w : World} {o : Oper} {v : Value} (h : ops[i]? = some o) (hg : o.guard = none) (he : (execOp a.eval o).run P w = .ok (.value v) w) (hK : K (a.put o.dst v) w) : wpOp P ops Q i K a w := by
  simp only [wpOp, h]
  rw [if_pos (by simp [Region.wanted, hg])]
  refine .inl ?_
  unfold Oper.wp
  rw [he, Oper.upon_value]
  exact hK
theorem wpOp_valueW {P : Program} {ops : Array Oper} {Q : Exit → Act → World → Prop} {i : Nat} {K : Act → World → Prop} {a : Act} {w w' : World} {o : Oper} {v : Value} (h : ops[i]? = some o) (hg : o.guard = none) (he : (execOp a.eval o).run P w = .ok (.value v) w') (hK : K (a.put o.dst v) w') : wpOp P ops Q i K a w := by
  simp only [wpOp, h]
  rw [if_pos (by simp [Region.wanted, hg])]
  refine .inl ?_
  unfold Oper.wp
  rw [he, Oper.upon_value]
  exact hK
theorem wpOp_enter {P : Program} {ops : Array Oper} {Q : Exit → Act → World → Prop} {i : Nat} {K : Act → World → Prop} {a : Act} {w : World} {o : Oper} {f : FuncId} {args : Array Value} (h : ops[i]? = some o) (hg : o.guard = none) (he : (execOp a.eval o).run P w = .ok (.enter f args) w)
    (hK : Calls P f args w fun e w' => ∃ v, e = .returned v ∧ K (a.put o.dst v) w') : wpOp P ops Q i K a w := by
  simp only [wpOp, h]
  rw [if_pos (by simp [Region.wanted, hg])]
  refine .inl ?_
  unfold Oper.wp
  rw [he, Oper.upon_enter]
  refine hK.mono ?_
  rintro e w' ⟨v, rfl, h⟩
  exact h
theorem put_at' {a : Act} {t u : Nat} {v : Value} (h : t ≠ u) : (a.put (some t) v).tmps[u]? = a.tmps[u]? := by simp [Act.put, h]
theorem put_self' {a : Act} {t : Nat} {v : Value} (h : t < a.tmps.size) : (a.put (some t) v).tmps[t]? = some v := by simp [Act.put, h]
theorem put_size' {a : Act} {d : Option Nat} {v : Value} : (a.put d v).tmps.size = a.tmps.size := by cases d <;> simp [Act.put]
theorem put_def' {a : Act} {d : Option Nat} {v : Value} : (a.put d v).defers = a.defers := by cases d <;> simp [Act.put]
theorem eval_at' {a : Act} {t : Nat} {v : Value} (h : a.tmps[t]? = some v) : a.eval (.tmp t) = v := by simp [Act.eval, h]
theorem read_cells {w : World} {v : Value} {xs : List Int} (h : Rep False (fun _ => False) w tSI [v] xs) (h0 : xs ≠ []) : ∃ b off cap, v = .slice (some ⟨b, off, none⟩) xs.length cap ∧ ∀ (i : Nat) (x : Int), xs[i]? = some x → w.cell? ⟨b, off + i, none⟩ = some (.int .i64 x) := by
  obtain ⟨a, cap, hv, _, _, _, _, h6⟩ := h
  simp only [List.cons.injEq, and_true] at hv
  subst hv
  obtain ⟨b, off, rfl, _, hc⟩ := h6.resolve_left h0
  refine ⟨b, off, cap, rfl, fun i x hx => ?_⟩
  obtain ⟨us, h1, h2, h3⟩ := hc i x hx
  simp only [Rep] at h3
  subst h3
  simpa [TC.n] using h2 0 _ rfl

abbrev tiBd : TI := ⟨.st [(0, 1, false), (1, 1, false)], [.slice none 0 0, .slice none 0 0], tBoard⟩
abbrev tiSl : TI := ⟨.sl 2, [.slice none 0 0], tSI⟩
theorem ty_bd : TIOk Try.prog 35 tiBd := tysOk.look _ _ (by kernel_rfl)
theorem ty_sl : TIOk Try.prog 24 tiSl := tysOk.look _ _ (by kernel_rfl)
theorem fieldB {f off : Nat} {g : Bool} (hf : [(0, 1, false), (1, 1, false)][f]? = some (off, 1, g)) (b p : Nat) (w : World) :
    (Instr.fieldAt 35 (.pointer (some ⟨b, p, none⟩)) f).run Try.prog w = .ok (.pointer (some ⟨b, p + off, none⟩)) w := by
  obtain ⟨gs, hu, hm⟩ := ty_bd.st (fs := [(0, 1, false), (1, 1, false)]) rfl
  obtain ⟨fd, hfd, htr⟩ := mapM_get hm hf
  unfold trip at htr
  obtain ⟨i, hi, he⟩ := Option.map_eq_some_iff.1 htr
  simp only [Prod.mk.injEq] at he
  have hfd' : gs[f]? = some fd := by simpa using hfd
  have hpos : i.size ≠ 0 := by omega
  have hsz : (sizeOf fd.type).run Try.prog w = .ok i.size w := by simp [sizeOf, typeInfo, hi]
  have ea : ∀ j, (⟨b, p, none⟩ : Addr).add j = ⟨b, p + j, none⟩ := fun j => by unfold Addr.add; split <;> simp_all
  simp [Instr.fieldAt, run_underlying hu, hfd', Instr.sureAddr, fieldPlace, hsz, hpos, ea, he.1]
theorem loadB {w : World} {b o : Nat} {v : Value} (hc : w.cell? ⟨b, o, none⟩ = some v) : (Instr.loadAt 24 (.pointer (some ⟨b, o, none⟩))).run Try.prog w = .ok v w := by
  obtain ⟨u, hu, hr⟩ := run_load ty_sl (w := w) (b := b) (o := o) (us := [v]) rfl (fun j x hj => by
    cases j with
    | zero => simp only [List.getElem?_cons_zero, Option.some.injEq] at hj; subst hj; exact hc
    | succ j => simp at hj) (ρ := fun _ => none) (l := [.con v]) (y := .one (.con v)) ⟨v, [], rfl, rfl, rfl⟩ rfl
  simp only [Den, den1, Option.some.injEq] at hu
  subst hu; exact hr
theorem buildB {a : Act} {w : World} {b1 o1 n1 c1 b2 o2 n2 c2 : Nat} (h1 : a.tmps[5]? = some (.slice (some ⟨b1, o1, none⟩) n1 c1)) (h2 : a.tmps[8]? = some (.slice (some ⟨b2, o2, none⟩) n2 c2)) :
    (execOp a.eval ob6).run Try.prog w = .ok (.value (.agg #[.slice (some ⟨b1, o1, none⟩) n1 c1, .slice (some ⟨b2, o2, none⟩) n2 c2])) w := by
  obtain ⟨gs, hu, hm⟩ := ty_bd.st (fs := [(0, 1, false), (1, 1, false)]) rfl
  have hz : tiBd.zv = .agg #[.slice none 0 0, .slice none 0 0] := rfl
  have hrt := run_trips (P := Try.prog) w hm
  simp [execOp, ob6, Instr.build, ty_bd.zero, hz, Value.cells, run_underlying hu, Array.mapM_eq_mapM_toList, hrt, eval_at' h1, eval_at' h2, Instr.fill, Array.zipIdx]
section
variable (p1 p2 : Nat) (u1 u2 : Value) (xs ys : List Int) (W : World)
/-- where the region stands: i of the first copy's three operations, j of the second's first two -/
def StB (i j : Nat) (a : Act) (w : World) : Prop :=
  a.tmps.size = 10 ∧ a.defers = [] ∧ a.tmps[1]? = some (.pointer (some ⟨p1, 0, none⟩)) ∧ a.tmps[2]? = some (.pointer (some ⟨p2, 0, none⟩)) ∧
  (1 ≤ i → a.tmps[3]? = some (.pointer (some ⟨p1, 0, none⟩))) ∧ (2 ≤ i → a.tmps[4]? = some u1) ∧ (3 ≤ i → ∃ c1, a.tmps[5]? = some (.slice (some ⟨W.heap.size + 1, 0, none⟩) xs.length c1) ∧ Copied W xs c1 w) ∧ (i < 3 → w = W) ∧
  (1 ≤ j → a.tmps[6]? = some (.pointer (some ⟨p1, 1, none⟩))) ∧ (2 ≤ j → a.tmps[7]? = some u2)
def maskB (i j : Nat) : Array Bool := #[decide (1 ≤ i), decide (2 ≤ i), decide (3 ≤ i), decide (1 ≤ j), decide (2 ≤ j), false, false, false]
/-- what is known of the world before the region -/
structure PreB : Prop where
  c0 : W.cell? ⟨p1, 0, none⟩ = some u1
  c1 : W.cell? ⟨p1, 1, none⟩ = some u2
  x0 : 0 < xs.length
  x1 : xs.length ≤ 1099511627776
  y0 : 0 < ys.length
  y1 : ys.length ≤ 1099511627776
  rx : Rep False (fun _ => False) W tSI [u1] xs
  ry : Rep False (fun _ => False) W tSI [u2] ys
  lt : p1 < W.heap.size
variable {p1 p2 u1 u2 xs ys W}
theorem StB.cell {i j : Nat} {a : Act} {w : World} (hs : StB p1 p2 u1 u2 xs W i j a w) {b o : Nat} {v : Value} (h : W.cell? ⟨b, o, none⟩ = some v) : w.cell? ⟨b, o, none⟩ = some v := by
  obtain ⟨_, _, _, _, _, _, h3, h4, _, _⟩ := hs
  by_cases hi : i < 3
  · rw [h4 hi]; exact h
  · obtain ⟨c1, _, hC⟩ := h3 (by omega)
    rw [cell_agree (hC.old b (cell_lt h))]; exact h
theorem StB.stepA (hp : PreB p1 u1 u2 xs ys W) {Q : Exit → Act → World → Prop} {K : Act → World → Prop} {i j : Nat} {a : Act} {w : World} (hs : StB p1 p2 u1 u2 xs W i j a w) (hi : i < 3) (hK : ∀ a' w', StB p1 p2 u1 u2 xs W (i + 1) j a' w' → K a' w') : wpOp Try.prog opsB Q i K a w := by
  have hs0 := hs
  obtain ⟨h1, h2, h3, h4, h5, h6, h7, h8, h9, h10⟩ := hs
  have hw := h8 hi
  match i, hi with
  | 0, _ =>
    refine wpOp_value (o := ob0) (v := .pointer (some ⟨p1, 0, none⟩)) rfl rfl ?_ (hK _ _ ?_)
    · simp [execOp, ob0, eval_at' h3, fieldB (f := 0) (off := 0) (g := false) rfl]
    · refine ⟨by rw [put_size']; exact h1, by rw [put_def']; exact h2, ?_, ?_, fun _ => ?_, by omega, by omega, fun _ => hw, fun h => ?_, fun h => ?_⟩
      all_goals simp only [ob0]
      · rw [put_at' (by decide)]; exact h3
      · rw [put_at' (by decide)]; exact h4
      · rw [put_self' (by omega)]
      · rw [put_at' (by decide)]; exact h9 h
      · rw [put_at' (by decide)]; exact h10 h
  | 1, _ =>
    refine wpOp_value (o := ob1) (v := u1) rfl rfl ?_ (hK _ _ ?_)
    · simp [execOp, ob1, eval_at' (h5 (by omega)), loadB (hs0.cell hp.c0)]
    · refine ⟨by rw [put_size']; exact h1, by rw [put_def']; exact h2, ?_, ?_, fun _ => ?_, fun _ => ?_, by omega, fun _ => hw, fun h => ?_, fun h => ?_⟩
      all_goals simp only [ob1]
      · rw [put_at' (by decide)]; exact h3
      · rw [put_at' (by decide)]; exact h4
      · rw [put_at' (by decide)]; exact h5 (by omega)
      · rw [put_self' (by omega)]
      · rw [put_at' (by decide)]; exact h9 h
      · rw [put_at' (by decide)]; exact h10 h
  | 2, _ =>
    obtain ⟨b, off, cap, hu, hc⟩ := read_cells hp.rx (by intro e; have := hp.x0; rw [e] at this; simp at this)
    subst hw
    refine wpOp_enter (o := ob2) (f := 85) (args := #[u1]) rfl rfl ?_ ?_
    · have := callFunc_enter (P := Try.prog) (f := 85) Try.func85 (by kernel_rfl) rfl #[u1] w
      simp [execOp, ob2, resolve, Act.eval, Deferred.ofValue, invoke, h6 (by omega), this]
    · rw [hu]
      refine (clone_at b off cap xs w hp.x0 hp.x1 hc).mono ?_
      rintro e w' ⟨c1, rfl, hC⟩
      refine ⟨_, rfl, hK _ _ ?_⟩
      refine ⟨by rw [put_size']; exact h1, by rw [put_def']; exact h2, ?_, ?_, fun _ => ?_, fun _ => ?_, fun _ => ⟨c1, ?_, hC⟩, by omega, fun h => ?_, fun h => ?_⟩
      all_goals simp only [ob2]
      · rw [put_at' (by decide)]; exact h3
      · rw [put_at' (by decide)]; exact h4
      · rw [put_at' (by decide)]; exact h5 (by omega)
      · rw [put_at' (by decide)]; exact h6 (by omega)
      · rw [put_self' (by omega)]
      · rw [put_at' (by decide)]; exact h9 h
      · rw [put_at' (by decide)]; exact h10 h
theorem StB.stepB (hp : PreB p1 u1 u2 xs ys W) {Q : Exit → Act → World → Prop} {K : Act → World → Prop} {i j : Nat} {a : Act} {w : World} (hs : StB p1 p2 u1 u2 xs W i j a w) (hj : j < 2) (hK : ∀ a' w', StB p1 p2 u1 u2 xs W i (j + 1) a' w' → K a' w') : wpOp Try.prog opsB Q (3 + j) K a w := by
  have hs0 := hs
  obtain ⟨h1, h2, h3, h4, h5, h6, h7, h8, h9, h10⟩ := hs
  match j, hj with
  | 0, _ =>
    refine wpOp_value (o := ob3) (v := .pointer (some ⟨p1, 1, none⟩)) rfl rfl ?_ (hK _ _ ?_)
    · simp [execOp, ob3, eval_at' h3, fieldB (f := 1) (off := 1) (g := false) rfl]
    · refine ⟨by rw [put_size']; exact h1, by rw [put_def']; exact h2, ?_, ?_, fun h => ?_, fun h => ?_, fun h => ?_, h8, fun h => ?_, by omega⟩
      all_goals simp only [ob3]
      · rw [put_at' (by decide)]; exact h3
      · rw [put_at' (by decide)]; exact h4
      · rw [put_at' (by decide)]; exact h5 h
      · rw [put_at' (by decide)]; exact h6 h
      · rw [put_at' (by decide)]; exact h7 h
      · rw [put_self' (by omega)]
  | 1, _ =>
    have hc := hs0.cell hp.c1
    refine wpOp_value (o := ob4) (v := u2) rfl rfl ?_ (hK _ _ ?_)
    · simp [execOp, ob4, eval_at' (h9 (by omega)), loadB hc]
    · refine ⟨by rw [put_size']; exact h1, by rw [put_def']; exact h2, ?_, ?_, fun h => ?_, fun h => ?_, fun h => ?_, h8, fun h => ?_, fun h => ?_⟩
      all_goals simp only [ob4]
      · rw [put_at' (by decide)]; exact h3
      · rw [put_at' (by decide)]; exact h4
      · rw [put_at' (by decide)]; exact h5 h
      · rw [put_at' (by decide)]; exact h6 h
      · rw [put_at' (by decide)]; exact h7 h
      · rw [put_at' (by decide)]; exact h9 (by omega)
      · rw [put_self' (by omega)]
theorem readyB : ∀ i, i ≤ 3 → ∀ j, j ≤ 2 → ¬ (i = 3 ∧ j = 2) → Region.ready .any opsB (maskB i j) = (if i < 3 then [i] else []) ++ (if j < 2 then [3 + j] else []) := by
  intro i hi j hj h
  have h1 : i = 0 ∨ i = 1 ∨ i = 2 ∨ i = 3 := by omega
  have h2 : j = 0 ∨ j = 1 ∨ j = 2 := by omega
  rcases h1 with rfl | rfl | rfl | rfl <;> rcases h2 with rfl | rfl | rfl <;> first | (exact absurd ⟨rfl, rfl⟩ h) | (clear h hi hj; show @Eq (List Nat) _ _; kernel_rfl)
theorem maskA : ∀ i, i < 3 → ∀ j, j ≤ 2 → (maskB i j).setIfInBounds i true = maskB (i + 1) j := by
  intro i hi j hj
  have h1 : i = 0 ∨ i = 1 ∨ i = 2 := by omega
  have h2 : j = 0 ∨ j = 1 ∨ j = 2 := by omega
  rcases h1 with rfl | rfl | rfl <;> rcases h2 with rfl | rfl | rfl <;> rfl
theorem maskC : ∀ i, i ≤ 3 → ∀ j, j < 2 → (maskB i j).setIfInBounds (3 + j) true = maskB i (j + 1) := by
  intro i hi j hj
  have h1 : i = 0 ∨ i = 1 ∨ i = 2 ∨ i = 3 := by omega
  have h2 : j = 0 ∨ j = 1 := by omega
  rcases h1 with rfl | rfl | rfl | rfl <;> rcases h2 with rfl | rfl <;> rfl
theorem rdy5 : Region.ready .any opsB (maskB 3 2) = [5] := by kernel_rfl
theorem rdy6 : Region.ready .any opsB ((maskB 3 2).setIfInBounds 5 true) = [6] := by kernel_rfl
theorem rdy7 : Region.ready .any opsB (((maskB 3 2).setIfInBounds 5 true).setIfInBounds 6 true) = [7] := by kernel_rfl
theorem rdy8 : Region.ready .any opsB ((((maskB 3 2).setIfInBounds 5 true).setIfInBounds 6 true).setIfInBounds 7 true) = [] := by kernel_rfl
theorem wpOp_skip {P : Program} {ops : Array Oper} {Q : Exit → Act → World → Prop} {i : Nat} {K : Act → World → Prop} {a : Act} {w w' : World} {o : Oper} (h : ops[i]? = some o) (hg : o.guard = none) (he : (execOp a.eval o).run P w = .ok .skip w') (hK : K (a.put o.dst undef) w') : wpOp P ops Q i K a w := by
  simp only [wpOp, h]
  rw [if_pos (by simp [Region.wanted, hg])]
  refine .inl ?_
  unfold Oper.wp
  rw [he, Oper.upon_skip]
  exact hK
theorem tailB (hp : PreB p1 u1 u2 xs ys W) {cur2 : Array Value} {e2 : Nat} (h2 : W.heap[p2]? = some (.cells cur2 e2 (0, 0))) (hc2 : cur2.size = 2) {Q : Exit → Act → World → Prop} {a : Act} {w : World} (hs : StB p1 p2 u1 u2 xs W 3 2 a w)
    (hQ : ∀ a' w1 w2 c1 c2, Copied W xs c1 w1 → Copied w1 ys c2 w2 → a'.defers = [] → a'.tmps[2]? = some (.pointer (some ⟨p2, 0, none⟩)) →
      Q .normal a' (w2.setRow p2 #[.slice (some ⟨W.heap.size + 1, 0, none⟩) xs.length c1, .slice (some ⟨w1.heap.size + 1, 0, none⟩) ys.length c2])) : wpAny Try.prog .any opsB Q 3 (maskB 3 2) a w := by
  obtain ⟨h1, hd, _, h4, _, _, h7, _, _, h10⟩ := hs
  obtain ⟨c1, h5, hC1⟩ := h7 (Nat.le_refl _)
  have h7 := h10 (Nat.le_refl _)
  have hsz : W.heap.size ≤ w.heap.size := by rw [hC1.size]; omega
  obtain ⟨b, off, cap, hu, hc⟩ := read_cells hp.ry (by intro e; have := hp.y0; rw [e] at this; simp at this)
  have hc' : ∀ (i : Nat) (x : Int), ys[i]? = some x → w.cell? ⟨b, off + i, none⟩ = some (.int .i64 x) := fun i x hx => by
    rw [cell_agree (hC1.old b (cell_lt (hc i x hx)))]; exact hc i x hx
  refine ⟨fun h => (by rw [rdy5] at h; cases h), fun i hi => ?_⟩
  rw [rdy5, List.mem_singleton] at hi
  subst hi
  refine wpOp_enter (o := ob5) (f := 85) (args := #[u2]) rfl rfl ?_ ?_
  · have := callFunc_enter (P := Try.prog) (f := 85) Try.func85 (by kernel_rfl) rfl #[u2] w
    simp [execOp, ob5, resolve, Act.eval, Deferred.ofValue, invoke, h7, this]
  rw [hu]
  refine (clone_at b off cap ys w hp.y0 hp.y1 hc').mono ?_
  rintro e w' ⟨c2, rfl, hC2⟩
  refine ⟨_, rfl, ?_⟩
  simp only [ob5]
  generalize hr1 : Value.slice (some ⟨W.heap.size + 1, 0, none⟩) xs.length c1 = r1 at *
  generalize hr2 : Value.slice (some ⟨w.heap.size + 1, 0, none⟩) ys.length c2 = r2
  generalize ha1 : a.put (some 8) r2 = a1
  have g8 : a1.tmps[8]? = some r2 := by rw [← ha1, put_self' (by omega)]
  have g5 : a1.tmps[5]? = some r1 := by rw [← ha1, put_at' (by decide)]; exact h5
  have g2 : a1.tmps[2]? = some (.pointer (some ⟨p2, 0, none⟩)) := by rw [← ha1, put_at' (by decide)]; exact h4
  have gs : a1.tmps.size = 10 := by rw [← ha1, put_size']; exact h1
  have gd : a1.defers = [] := by rw [← ha1, put_def']; exact hd
  refine ⟨fun h => (by rw [rdy6] at h; cases h), fun i hi => ?_⟩
  rw [rdy6, List.mem_singleton] at hi
  subst hi
  refine wpOp_value (o := ob6) (v := .agg #[r1, r2]) rfl rfl ?_ ?_
  · subst hr1; subst hr2; exact buildB g5 g8
  simp only [ob6]
  generalize ha2 : a1.put (some 9) (.agg #[r1, r2]) = a2
  have k9 : a2.tmps[9]? = some (.agg #[r1, r2]) := by rw [← ha2, put_self' (by omega)]
  have k2 : a2.tmps[2]? = some (.pointer (some ⟨p2, 0, none⟩)) := by rw [← ha2, put_at' (by decide)]; exact g2
  have kd : a2.defers = [] := by rw [← ha2, put_def']; exact gd
  refine ⟨fun h => (by rw [rdy7] at h; cases h), fun i hi => ?_⟩
  rw [rdy7, List.mem_singleton] at hi
  subst hi
  have hp2 : p2 < W.heap.size := (Array.getElem?_eq_some_iff.1 h2).1
  have hg : w'.heap[p2]? = some (.cells cur2 e2 (0, 0)) := by rw [hC2.old p2 (by omega), hC1.old p2 hp2]; exact h2
  have hst := run_storeAt ty_bd hg (o := 0) (v := .agg #[r1, r2]) (by simp [Value.cells]) (by simp [Value.cells, ← hr1, ← hr2, Value.oneCell']) (by simp [hc2])
  refine wpOp_skip (o := ob7) (w' := w'.setRow p2 #[r1, r2]) rfl rfl ?_ ?_
  · simp only [execOp, ob7, eval_at' k9, eval_at' k2, Sem.run_bind, hst]
    have : cur2.toList.drop 2 = [] := List.drop_eq_nil_of_le (by simp [hc2])
    simp [Value.cells, this]
  · refine ⟨rdy8, ?_⟩
    subst hr1; subst hr2
    simp only [ob7]
    exact hQ _ w w' c1 c2 hC1 hC2 (by rw [put_def']; exact kd) (by simp only [Act.put]; exact k2)
theorem walkB (hp : PreB p1 u1 u2 xs ys W) {cur2 : Array Value} {e2 : Nat} (h2 : W.heap[p2]? = some (.cells cur2 e2 (0, 0))) (hc2 : cur2.size = 2) {Q : Exit → Act → World → Prop}
    (hQ : ∀ a' w1 w2 c1 c2, Copied W xs c1 w1 → Copied w1 ys c2 w2 → a'.defers = [] → a'.tmps[2]? = some (.pointer (some ⟨p2, 0, none⟩)) →
      Q .normal a' (w2.setRow p2 #[.slice (some ⟨W.heap.size + 1, 0, none⟩) xs.length c1, .slice (some ⟨w1.heap.size + 1, 0, none⟩) ys.length c2])) :
    ∀ m i j, i ≤ 3 → j ≤ 2 → m + (i + j) = 5 → ∀ a w, StB p1 p2 u1 u2 xs W i j a w → wpAny Try.prog .any opsB Q (m + 3) (maskB i j) a w := by
  intro m
  induction m with
  | zero =>
    intro i j hi hj hm a w hs
    obtain rfl : i = 3 := by omega
    obtain rfl : j = 2 := by omega
    exact tailB hp h2 hc2 hs hQ
  | succ m ih =>
    intro i j hi hj hm a w hs
    have hr := readyB i hi j hj (by omega)
    rw [show m + 1 + 3 = (m + 3) + 1 by omega]
    refine ⟨fun h => ?_, fun k hk => ?_⟩
    · rw [hr] at h
      by_cases h3 : i < 3
      · simp [h3] at h
      · have : j < 2 := by omega
        simp [this] at h
    · rw [hr] at hk
      rcases List.mem_append.1 hk with hk | hk
      · split at hk
        · next h3 =>
          simp only [List.mem_singleton] at hk
          subst hk
          refine hs.stepA hp h3 fun a' w' h' => ?_
          rw [maskA k h3 j hj]
          exact ih (k + 1) j (by omega) hj (by omega) a' w' h'
        · simp at hk
      · split at hk
        · next h3 =>
          simp only [List.mem_singleton] at hk
          subst hk
          refine hs.stepB hp h3 fun a' w' h' => ?_
          rw [maskC i hi j h3]
          exact ih i (j + 1) hi (by omega) (by omega) a' w' h'
        · simp at hk
end
end Go.Proofs.Ytgbfcjnkohhfoaa
