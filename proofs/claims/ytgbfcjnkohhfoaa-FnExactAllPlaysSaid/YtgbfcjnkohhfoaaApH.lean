/-
  The law FnExactAllPlays: the region that marks the plays, by hand.
-/
import Derived.Test.YtgbfcjnkohhfoaaTwMk
namespace Go.Proofs.Ytgbfcjnkohhfoaa
open Go.RowKit

noncomputable def ps17 : String := posAt 17 Try.f3.body
noncomputable def o17a : Oper := ⟨some 74, .move (.tmp 11), 30, ps17, #[], none⟩
noncomputable def o17b : Oper := ⟨some 75, .move (.tmp 14), 3, ps17, #[], none⟩
noncomputable def o17c : Oper := ⟨some 76, .call { callee := .value (.func 14), args := #[.tmp 74, .tmp 75], argTypes := #[30, 3] }, 3, ps17, #[⟨0, .data⟩, ⟨1, .data⟩], none⟩
noncomputable def o17d : Oper := ⟨some 14, .assign (.tmp 76), 3, ps17, #[⟨2, .data⟩, ⟨2, .chain⟩, ⟨0, .phase⟩, ⟨1, .phase⟩, ⟨2, .phase⟩], none⟩
noncomputable def ops17 : Array Oper := #[o17a, o17b, o17c, o17d]
theorem code17 : restAt 17 (restAt 7 code_laws_FnExactAllPlays) = .seq (.region 17 ops17 false) (restAt 18 code_laws_FnExactAllPlays) := by kernel_rfl

theorem wpOps_one {P : Program} {ops : Array Oper} {Q : Exit → Act → World → Prop} {i : Nat} {rest : List Nat} {a : Act} {w : World} {o : Oper} (h : ops[i]? = some o) (hg : o.guard = none) (hw : o.wp P a w (wpOps P ops Q rest) Q) : wpOps P ops Q (i :: rest) a w := by
  simp only [wpOps, h]
  rw [if_pos (by simp [Region.wanted, hg])]
  exact .inl hw
theorem wp_value {P : Program} {o : Oper} {a : Act} {w : World} {v : Value} {next : Act → World → Prop} {Q : Exit → Act → World → Prop} (h : (execOp a.eval o).run P w = .ok (.value v) w) (hn : next (a.put o.dst v) w) : o.wp P a w next Q := by
  unfold Oper.wp
  rw [h, Oper.upon_value]
  exact hn
theorem put_at {a : Act} {t u : Nat} {v : Value} (h : t ≠ u) : (a.put (some t) v).tmps[u]? = a.tmps[u]? := by simp [Act.put, h]
theorem put_self {a : Act} {t : Nat} {v : Value} (h : t < a.tmps.size) : (a.put (some t) v).tmps[t]? = some v := by simp [Act.put, h]
theorem put_size {a : Act} {t : Nat} {v : Value} : (a.put (some t) v).tmps.size = a.tmps.size := by simp [Act.put]
theorem eval_at {a : Act} {t : Nat} {v : Value} (h : a.tmps[t]? = some v) : a.eval (.tmp t) = v := by simp [Act.eval, h]
/-- the region, as a call -/
theorem region17 {a : Act} {w : World} {v : Value} {m : Int} {R : Int → World → Prop} {Q : Exit → Act → World → Prop} (hs : a.tmps.size = 112) (h11 : a.tmps[11]? = some v) (h14 : a.tmps[14]? = some (.int .i64 m))
    (hcall : Calls Try.prog 14 #[v, .int .i64 m] w fun e w' => ∃ n, e = .returned (.int .i64 n) ∧ R n w')
    (next : ∀ n w', R n w' → Q .normal ((((a.put (some 74) v).put (some 75) (.int .i64 m)).put (some 76) (.int .i64 n)).put (some 14) (.int .i64 n)) w') : (Code.region 17 ops17 false).wp Try.prog Q a w := by
  refine wp_region ?_
  rw [show List.range ops17.size = [0, 1, 2, 3] from rfl]
  refine wpOps_one (o := o17a) rfl rfl (wp_value (v := v) ?_ ?_)
  · simp [execOp, o17a, eval_at h11]
  refine wpOps_one (o := o17b) rfl rfl (wp_value (v := .int .i64 m) ?_ ?_)
  · have : (a.put (some 74) v).tmps[14]? = some (.int .i64 m) := by rw [put_at (by decide)]; exact h14
    simp only [o17a]
    simp [execOp, o17b, eval_at this]
  simp only [o17a, o17b]
  generalize ha2 : (a.put (some 74) v).put (some 75) (.int .i64 m) = a2
  have e74 : a2.tmps[74]? = some v := by rw [← ha2, put_at (by decide), put_self (by omega)]
  have e75 : a2.tmps[75]? = some (.int .i64 m) := by rw [← ha2, put_self (by rw [put_size]; omega)]
  have s2 : a2.tmps.size = 112 := by rw [← ha2, put_size, put_size]; exact hs
  refine wpOps_one (o := o17c) rfl rfl ?_
  have hen : (execOp a2.eval o17c).run Try.prog w = .ok (.enter 14 #[v, .int .i64 m]) w := by
    have := callFunc_enter (P := Try.prog) (f := 14) Try.func14 (by kernel_rfl) rfl #[v, .int .i64 m] w
    simp [execOp, o17c, resolve, Act.eval, Deferred.ofValue, invoke, e74, e75, this]
  unfold Oper.wp
  rw [hen, Oper.upon_enter]
  refine hcall.mono ?_
  rintro e w' ⟨n, rfl, hR⟩
  simp only [o17c]
  refine wpOps_one (o := o17d) rfl rfl (wp_value (v := .int .i64 n) ?_ ?_)
  · have : (a2.put (some 76) (.int .i64 n)).tmps[76]? = some (.int .i64 n) := put_self (by omega)
    simp [execOp, o17d, eval_at this]
  · simp only [wpOps, o17d]
    rw [← ha2]
    exact next n w' hR
end Go.Proofs.Ytgbfcjnkohhfoaa
