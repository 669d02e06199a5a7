/-
  The law FnExactIsGame returns true for every input; its arguments read afterwards as before. No condition beyond the given statement's own.
-/
import Derived.Test.YtmcjabodkjlkgaaRows
import Derived.Test.YtmcjabodkjlkgaaIsGameL
import Derived.ProofKit
import Derived.OpenShut
import Derived.ChangeOld
import Derived.Lib.SmallJoins
namespace Go.Proofs.Ytmcjabodkjlkgaa.fnExactIsGame
open Go.ChangeShapes Go.WideShapes Go.ChangeAt Go.RowKit Go.Joins
set_option linter.unusedVariables false

theorem own : ownKnob Try.prog.godebug = none := by kernel_rfl
theorem laidOut : laidOutB Try.prog = true := by kernel_rfl
theorem cells_laws_Variant : Try.prog.cellsOf 23 = 4 := by kernel_rfl
theorem cellsG : Try.prog.cellsOf 81 = 9 := by kernel_rfl
theorem cellsB : Try.prog.cellsOf 26 = 2 := by kernel_rfl
theorem cellsR : Try.prog.cellsOf 79 = 2 := by kernel_rfl
theorem cellsI : Try.prog.cellsOf 2 = 1 := by kernel_rfl
theorem cellsS : Try.prog.cellsOf 24 = 1 := by kernel_rfl
open Go.Deep
section
variable {H : Type} {enc : TypeId × Value → H} {w : World} {base : Nat} {spare : Nat → Bool} {held : Bool}
theorem open_two {n : Nat} {t : TypeId} {f0 f1 : Field} {c0 c1 : Value} {y : DataW H × List MemPlace} (hs : Try.prog.underlying t = some (.struct #[f0, f1])) (hone : oneCellFields Try.prog #[f0, f1] = true)
    (h : DataW.trod enc Try.prog w base spare held n t [c0, c1] = some y) : ∃ m y0 y1, DataW.trod enc Try.prog w base spare held m f0.type [c0] = some y0 ∧ DataW.trod enc Try.prog w base spare held m f1.type [c1] = some y1 := by
  obtain ⟨xs, m, _, hx, _, hlen, hg⟩ := DataW.trod_struct hs h
  obtain ⟨o0, k0⟩ := hone_of hone 0 f0 rfl
  obtain ⟨o1, k1⟩ := hone_of hone 1 f1 rfl
  match xs, hlen with
  | [y0, y1], _ =>
    exact ⟨m, y0, y1, by simpa [o0, k0] using hg 0 f0 rfl, by simpa [o1, k1] using hg 1 f1 rfl⟩
set_option maxRecDepth 100000 in
theorem open_game {r : Reach} {b0 : Nat} {v : Value} {d : DataW H} {p : List MemPlace} (hv : Value.okWide Try.prog w r b0 81 v) (h : DataW.Trod enc Try.prog w base spare held 81 v d p) :
    ∃ (c0 c1 c2 c3 c4 c5 c6 c7 c8 : Value) (n : Nat), v = .agg #[c0, c1, c2, c3, c4, c5, c6, c7, c8] ∧ (∃ y : (DataW H × List MemPlace) × Nat, DataW.trod enc Try.prog w base spare held y.2 24 [c0] = some y.1) ∧ (∃ y : (DataW H × List MemPlace) × Nat, DataW.trod enc Try.prog w base spare held y.2 24 [c1] = some y.1) ∧
      (∃ y : (DataW H × List MemPlace) × Nat, DataW.trod enc Try.prog w base spare held y.2 2 [c2] = some y.1) ∧ (∃ y : (DataW H × List MemPlace) × Nat, DataW.trod enc Try.prog w base spare held y.2 2 [c3] = some y.1) ∧ (∃ y : (DataW H × List MemPlace) × Nat, DataW.trod enc Try.prog w base spare held y.2 2 [c4] = some y.1) ∧
      (∃ y : (DataW H × List MemPlace) × Nat, DataW.trod enc Try.prog w base spare held y.2 2 [c5] = some y.1) ∧ (∃ y : (DataW H × List MemPlace) × Nat, DataW.trod enc Try.prog w base spare held y.2 2 [c6] = some y.1) ∧ (∃ y : (DataW H × List MemPlace) × Nat, DataW.trod enc Try.prog w base spare held y.2 2 [c7] = some y.1) ∧ (∃ y : (DataW H × List MemPlace) × Nat, DataW.trod enc Try.prog w base spare held y.2 2 [c8] = some y.1) := by
  obtain ⟨cs, rfl, hsz⟩ := okWide_struct Try.underlying81 hv
  obtain ⟨l⟩ := cs
  match l, hsz.trans cellsG with
  | [c0, c1, c2, c3, c4, c5, c6, c7, c8], _ =>
    obtain ⟨fuel, hf⟩ := h
    obtain ⟨xs, n, _, hx, _, hlen, hg⟩ := DataW.trod_struct Try.underlying81 hf
    match xs, hlen with
    | [y0, y1, y2, y3, y4, y5, y6], _ =>
      have g0 : DataW.trod enc Try.prog w base spare held n 26 [c0, c1] = some y0 := by simpa [Value.cells, cellsB] using hg 0 _ rfl
      have g1 : DataW.trod enc Try.prog w base spare held n 2 [c2] = some y1 := by simpa [Value.cells, cellsI] using hg 1 _ rfl
      have g2 : DataW.trod enc Try.prog w base spare held n 79 [c3, c4] = some y2 := by simpa [Value.cells, cellsR] using hg 2 _ rfl
      have g3 : DataW.trod enc Try.prog w base spare held n 2 [c5] = some y3 := by simpa [Value.cells, cellsI] using hg 3 _ rfl
      have g4 : DataW.trod enc Try.prog w base spare held n 2 [c6] = some y4 := by simpa [Value.cells, cellsI] using hg 4 _ rfl
      have g5 : DataW.trod enc Try.prog w base spare held n 2 [c7] = some y5 := by simpa [Value.cells, cellsI] using hg 5 _ rfl
      have g6 : DataW.trod enc Try.prog w base spare held n 2 [c8] = some y6 := by simpa [Value.cells, cellsI] using hg 6 _ rfl
      obtain ⟨m, u0, u1, hu0, hu1⟩ := open_two Try.underlying26 (by kernel_rfl) g0
      obtain ⟨m', t0, t1, ht0, ht1⟩ := open_two Try.underlying79 (by kernel_rfl) g2
      exact ⟨c0, c1, c2, c3, c4, c5, c6, c7, c8, n, rfl, ⟨(u0, m), hu0⟩, ⟨(u1, m), hu1⟩, ⟨(y1, n), g1⟩, ⟨(t0, m'), ht0⟩, ⟨(t1, m'), ht1⟩, ⟨(y3, n), g3⟩, ⟨(y4, n), g4⟩, ⟨(y5, n), g5⟩, ⟨(y6, n), g6⟩⟩
end

set_option maxRecDepth 100000 in
theorem lifted (os : Os) (started : os.Started) (H : Type) (enc : TypeId × Value → H) :
    ReturnsInHanded {} Try.checked os 12 .any (Rows.fnExactIsGameSpec.pre6 enc Try.prog Try.f12 Rows.fnExactIsGameRow.domain false) (Rows.fnExactIsGameSpec.post enc Try.prog Try.f12 false true false false) := by
  refine returnsInHanded_of_change (C := Try.checked) own started (by kernel_rfl) Try.func12
    (ChangeSpec.witness6 (enc := enc) (C := Try.checked) false ⟨#[], #[.agg #[.int .i64 0, .int .i64 0, .int .i64 0, .int .i64 0], .agg #[.slice none 0 0, .slice none 0 0, .int .i64 0, .int .i64 0, .int .i64 0, .int .i64 0, .int .i64 0, .int .i64 0, .int .i64 0]], []⟩ 8 (by kernel_rfl) (by kernel_rfl) (by kernel_rfl) (by kernel_rfl)) ?_
  intro W base args ds gs before hval0 hW hcnd _
  have hval : ∀ (j : Nat) t v, Try.f12.params[j]? = some t → args[j]? = some v → Value.okWide Try.prog W .any base t v := hval0
  have hW' := hW
  obtain ⟨p, q, hA0, hV, rfl, hfz, hnd⟩ := hW
  have hA : DataW.TrodAll enc Try.prog W 0 (fun _ => true) true Try.f12.params.toList args.toList ds p := hA0
  rw [Try.params12] at hA hval
  obtain ⟨v0, vs0, d0, ds0, p0, q0, hargs, rfl, rfl, h0, r0⟩ := trodAll_cons hA
  obtain ⟨v1, vs1, d1, ds1, p1, q1, rfl, rfl, rfl, h1, r1⟩ := trodAll_cons r0
  obtain ⟨rfl, rfl, rfl⟩ := trodAll_nil r1
  obtain rfl : args = #[v0, v1] := by cases args; simp_all
  obtain ⟨rfl, rfl⟩ := trodVars_none hV
  have k0 := h0
  have lt0 : ∀ x ∈ p0, x.block < W.heap.size := by obtain ⟨m, hm⟩ := k0; exact DataW.trod_lt m _ _ _ hm
  obtain ⟨c0_0, c0_1, c0_2, c0_3, y0_0, y0_1, y0_2, y0_3, m0, rfl, hd0, hp0, hy0_0, hy0_1, hy0_2, hy0_3⟩ := open_agg4 Try.underlying23 (by kernel_rfl) cells_laws_Variant (hval 0 23 v0 rfl rfl) h0
  obtain ⟨a0_0, e0_0, _, w0_0⟩ := DataW.trod_int Try.underlying2 hy0_0
  simp at e0_0
  subst e0_0
  obtain ⟨a0_1, e0_1, _, w0_1⟩ := DataW.trod_int Try.underlying2 hy0_1
  simp at e0_1
  subst e0_1
  obtain ⟨a0_2, e0_2, _, w0_2⟩ := DataW.trod_int Try.underlying2 hy0_2
  simp at e0_2
  subst e0_2
  obtain ⟨a0_3, e0_3, _, w0_3⟩ := DataW.trod_int Try.underlying2 hy0_3
  simp at e0_3
  subst e0_3
  have k1 := h1
  have lt1 : ∀ x ∈ p1, x.block < W.heap.size := by obtain ⟨m, hm⟩ := k1; exact DataW.trod_lt m _ _ _ hm
  obtain ⟨c1_0, c1_1, c1_2, c1_3, c1_4, c1_5, c1_6, c1_7, c1_8, n1, rfl, ⟨y1_0, hy1_0⟩, ⟨y1_1, hy1_1⟩, ⟨y1_2, hy1_2⟩, ⟨y1_3, hy1_3⟩, ⟨y1_4, hy1_4⟩, ⟨y1_5, hy1_5⟩, ⟨y1_6, hy1_6⟩, ⟨y1_7, hy1_7⟩, ⟨y1_8, hy1_8⟩⟩ := open_game (hval 1 81 v1 rfl rfl) h1
  obtain ⟨a1_0, l1_0, k1_0, z1_0, rfl, w1_0⟩ : ∃ a l k zs, c1_0 = .slice a l k ∧ IsRow .i64 W a l k zs := by
    rcases open_ints Try.underlying24 Try.underlying2 (by kernel_rfl) hy1_0 with ⟨hcs, _⟩ | ⟨x, l, c, zs, hcs, _, hl, hm, hz, _, hcell, hwz⟩
    · simp at hcs
      exact ⟨none, 0, 0, [], hcs, .inl ⟨rfl, rfl, rfl, rfl⟩⟩
    · simp at hcs
      exact ⟨some x, l, c, zs, hcs, .inr ⟨_, rfl, hl, hm, by simpa using hz, hcell, hwz⟩⟩
  obtain ⟨a1_1, l1_1, k1_1, z1_1, rfl, w1_1⟩ : ∃ a l k zs, c1_1 = .slice a l k ∧ IsRow .i64 W a l k zs := by
    rcases open_ints Try.underlying24 Try.underlying2 (by kernel_rfl) hy1_1 with ⟨hcs, _⟩ | ⟨x, l, c, zs, hcs, _, hl, hm, hz, _, hcell, hwz⟩
    · simp at hcs
      exact ⟨none, 0, 0, [], hcs, .inl ⟨rfl, rfl, rfl, rfl⟩⟩
    · simp at hcs
      exact ⟨some x, l, c, zs, hcs, .inr ⟨_, rfl, hl, hm, by simpa using hz, hcell, hwz⟩⟩
  obtain ⟨a1_2, e1_2, _, w1_2⟩ := DataW.trod_int Try.underlying2 hy1_2
  simp at e1_2
  subst e1_2
  obtain ⟨a1_3, e1_3, _, w1_3⟩ := DataW.trod_int Try.underlying2 hy1_3
  simp at e1_3
  subst e1_3
  obtain ⟨a1_4, e1_4, _, w1_4⟩ := DataW.trod_int Try.underlying2 hy1_4
  simp at e1_4
  subst e1_4
  obtain ⟨a1_5, e1_5, _, w1_5⟩ := DataW.trod_int Try.underlying2 hy1_5
  simp at e1_5
  subst e1_5
  obtain ⟨a1_6, e1_6, _, w1_6⟩ := DataW.trod_int Try.underlying2 hy1_6
  simp at e1_6
  subst e1_6
  obtain ⟨a1_7, e1_7, _, w1_7⟩ := DataW.trod_int Try.underlying2 hy1_7
  simp at e1_7
  subst e1_7
  obtain ⟨a1_8, e1_8, _, w1_8⟩ := DataW.trod_int Try.underlying2 hy1_8
  simp at e1_8
  subst e1_8
  clear hA0 hval0
  refine (lawIsGame a0_0 a0_1 a0_2 a0_3 w0_0 w0_1 w0_2 w0_3 a1_0 l1_0 k1_0 z1_0 a1_1 l1_1 k1_1 z1_1 a1_2 a1_3 a1_4 a1_5 a1_6 a1_7 a1_8 w1_2 w1_3 w1_4 w1_5 w1_6 w1_7 w1_8 W w1_0 w1_1).mono fun e W' ⟨he, bel⟩ => ?_
  subst he
  exact ⟨_, rfl, _, _, _, [], _, [], hW', trodAll_mk1 (shut_bool Try.underlying4 _), (trodAll_cons_mk (Below.trod laidOut (by kernel_rfl) (of_decide_eq_true (by kernel_rfl)) k0 bel lt0) (trodAll_cons_mk (Below.trod laidOut (by kernel_rfl) (of_decide_eq_true (by kernel_rfl)) k1 bel lt1) trodAll_mk0)), rfl, bel.frame _, fun h => by cases h⟩

theorem proved : Rows.FnExactIsGameSaid :=
  OpenClaim.holds_of_wide 12 Try.f12 rfl rfl rfl rfl rfl rfl rfl ⟨rfl, rfl, rfl, rfl, rfl⟩ rfl rfl rfl rfl rfl (by kernel_rfl) Try.func12 (by kernel_rfl)
    (of_decide_eq_true (by kernel_rfl)) (by unfold Func.isWrapper; first | (rw [if_pos (by decide +kernel)]; kernel_rfl) | (rw [if_neg (by decide +kernel)]; exact ⟨rfl, rfl⟩))
    (fun os started H enc _ => lifted os started H enc)
#print axioms proved
end Go.Proofs.Ytmcjabodkjlkgaa.fnExactIsGame
