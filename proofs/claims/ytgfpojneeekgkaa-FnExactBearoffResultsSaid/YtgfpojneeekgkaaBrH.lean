/-
  The law FnExactBearoffResults: the region that marks the rows, by hand.
-/
import Derived.Test.YtgfpojneeekgkaaVBrL
import Derived.Test.YtgfpojneeekgkaaMarkX
namespace Go.Proofs.Ytgfpojneeekgkaa
open Go.RowKit

/-- the operations of a region of a chain of code -/
def opsRg (r : Nat) : Code → List Oper
  | .region id ops _ => bif nb id r then ops.toList else []
  | .seq a b => opsRg r a ++ opsRg r b
  | _ => []
/-- where a region stands in the text of the program -/
def posRg (r : Nat) (c : Option Code) : String := match opsRg r (c.getD .skip) with | o :: _ => o.pos | [] => ""
noncomputable def ps15 : String := posRg 15 (some code_laws_FnExactBearoffResults)
noncomputable def o15a : Oper := ⟨some 71, .move (.tmp 10), 27, ps15, #[], none⟩
noncomputable def o15b : Oper := ⟨some 72, .move (.tmp 13), 3, ps15, #[], none⟩
noncomputable def o15c : Oper := ⟨some 73, .call { callee := .value (.func 15), args := #[.tmp 71, .tmp 72], argTypes := #[27, 3] }, 3, ps15, #[⟨0, .data⟩, ⟨1, .data⟩], none⟩
noncomputable def o15d : Oper := ⟨some 13, .assign (.tmp 73), 3, ps15, #[⟨2, .data⟩, ⟨2, .chain⟩, ⟨0, .phase⟩, ⟨1, .phase⟩, ⟨2, .phase⟩], none⟩
noncomputable def ops15 : Array Oper := #[o15a, o15b, o15c, o15d]
theorem code15 : restAt 15 (restAt 5 code_laws_FnExactBearoffResults) = .seq (.region 15 ops15 false) (restAt 16 code_laws_FnExactBearoffResults) := by kernel_rfl

theorem wpOps_one {P : Program} {ops : Array Oper} {Q : Exit → Act → World → Prop} {i : Nat} {rest : List Nat} {a : Act} {w : World} {o : Oper} (h : ops[i]? = some o) (hg : o.guard = none) (hw : o.wp P a w (wpOps P ops Q rest) Q) : wpOps P ops Q (i :: rest) a w := by
  simp only [wpOps, h]
  rw [if_pos (by simp [Region.wanted, hg])]
  exact .inl hw
theorem wp_value {P : Program} {o : Oper} {a : Act} {w : World} {v : Value} {next : Act → World → Prop} {Q : Exit → Act → World → Prop} (h : (execOp a.eval o).run P w = .ok (.value v) w) (hn : next (a.put o.dst v) w) : o.wp P a w next Q := by
  unfold Oper.wp
  rw [h, Oper.upon_value]
  exact hn
theorem put_at {a : Act} {t u : Nat} {v : Value} (h : t ≠ u) : (a.put (some t) v).tmps[u]? = a.tmps[u]? := by simp [Act.put, h]
theorem put_self {a : Act} {t : Nat} {v : Value} (h : t < a.tmps.size) : (a.put (some t) v).tmps[t]? = some v := by simp [Act.put, h]
theorem put_size {a : Act} {t : Nat} {v : Value} : (a.put (some t) v).tmps.size = a.tmps.size := by simp [Act.put]
theorem eval_at {a : Act} {t : Nat} {v : Value} (h : a.tmps[t]? = some v) : a.eval (.tmp t) = v := by simp [Act.eval, h]
/-- the region, as a call -/
theorem region15 {a : Act} {w : World} {v : Value} {m : Int} {R : Int → World → Prop} {Q : Exit → Act → World → Prop} (hs : a.tmps.size = 109) (h10 : a.tmps[10]? = some v) (h13 : a.tmps[13]? = some (.int .i64 m))
    (hcall : Calls Try.prog 15 #[v, .int .i64 m] w fun e w' => ∃ n, e = .returned (.int .i64 n) ∧ R n w')
    (next : ∀ n w', R n w' → Q .normal ((((a.put (some 71) v).put (some 72) (.int .i64 m)).put (some 73) (.int .i64 n)).put (some 13) (.int .i64 n)) w') : (Code.region 15 ops15 false).wp Try.prog Q a w := by
  refine wp_region ?_
  rw [show List.range ops15.size = [0, 1, 2, 3] from rfl]
  refine wpOps_one (o := o15a) rfl rfl (wp_value (v := v) ?_ ?_)
  · simp [execOp, o15a, eval_at h10]
  refine wpOps_one (o := o15b) rfl rfl (wp_value (v := .int .i64 m) ?_ ?_)
  · have : (a.put (some 71) v).tmps[13]? = some (.int .i64 m) := by rw [put_at (by decide)]; exact h13
    simp only [o15a]
    simp [execOp, o15b, eval_at this]
  simp only [o15a, o15b]
  generalize ha2 : (a.put (some 71) v).put (some 72) (.int .i64 m) = a2
  have e71 : a2.tmps[71]? = some v := by rw [← ha2, put_at (by decide), put_self (by omega)]
  have e72 : a2.tmps[72]? = some (.int .i64 m) := by rw [← ha2, put_self (by rw [put_size]; omega)]
  have s2 : a2.tmps.size = 109 := by rw [← ha2, put_size, put_size]; exact hs
  refine wpOps_one (o := o15c) rfl rfl ?_
  have hen : (execOp a2.eval o15c).run Try.prog w = .ok (.enter 15 #[v, .int .i64 m]) w := by
    have := callFunc_enter (P := Try.prog) (f := 15) Try.func15 (by kernel_rfl) rfl #[v, .int .i64 m] w
    simp [execOp, o15c, resolve, Act.eval, Deferred.ofValue, invoke, e71, e72, this]
  unfold Oper.wp
  rw [hen, Oper.upon_enter]
  refine hcall.mono ?_
  rintro e w' ⟨n, rfl, hR⟩
  simp only [o15c]
  refine wpOps_one (o := o15d) rfl rfl (wp_value (v := .int .i64 n) ?_ ?_)
  · have : (a2.put (some 73) (.int .i64 n)).tmps[73]? = some (.int .i64 n) := put_self (by omega)
    simp [execOp, o15d, eval_at this]
  · simp only [wpOps, o15d]
    rw [← ha2]
    exact next n w' hR
end Go.Proofs.Ytgfpojneeekgkaa
