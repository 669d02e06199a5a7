/-
  '==' and '!=' on two rolls.
-/
import Derived.Test.YtmcjabodkjlkgaaRollW
import Derived.Laws.StructEq
namespace Go.Proofs.Ytmcjabodkjlkgaa
open Go.RowKit

theorem roll_fields : (Try.prog.fieldsOf 42).toList.map (fun f => (f.name != "_", f.type, f.offset)) = [(true, 2, 0), (true, 2, 1)] := by kernel_rfl
theorem eqIn_roll (E F X Y : Int) (w : World) : (Op.equalIn 10000 42 (.agg #[.int .i64 E, .int .i64 F]) (.agg #[.int .i64 X, .int .i64 Y])).run Try.prog w = .ok (E == X && F == Y) w := by
  rw [run_equalIn_struct w 9999 _ _ _ (by kernel_rfl) (by kernel_rfl)]
  have h := roll_fields
  generalize (Try.prog.fieldsOf 42).toList = l at h ⊢
  obtain _ | ⟨f, l⟩ := l
  · exact absurd (congrArg List.length h) (by simp)
  obtain _ | ⟨g, l⟩ := l
  · exact absurd (congrArg List.length h) (by simp)
  obtain _ | ⟨_, _⟩ := l
  rotate_left
  · exact absurd (congrArg List.length h) (by simp)
  simp only [List.map_cons, List.map_nil, List.cons.injEq, Prod.mk.injEq, and_true] at h
  obtain ⟨⟨h1, h2, h3⟩, h4, h5, h6⟩ := h
  have h1' : f.name ≠ "_" := by simpa using h1
  have h4' : g.name ≠ "_" := by simpa using h4
  unfold Op.eqFields
  rw [if_pos h1', h2, h3]
  unfold Op.eqFields
  rw [if_pos h4', h5, h6]
  unfold Op.eqFields
  simp only [part, Sem.run_bind, isAgg, run_underlying (P := Try.prog) Try.underlying2]
  simp
  rw [run_equalIn_int w 9998 _ .i64 .i64 E X Try.underlying2]
  by_cases h : E = X
  · subst h
    simp
    rw [run_equalIn_int w 9998 _ .i64 .i64 F Y Try.underlying2]
    by_cases h' : F = Y <;> simp [h']
  · simp [h]
theorem run_eqlRoll (E F X Y : Int) (w : World) : (binOp .eql 42 (.agg #[.int .i64 E, .int .i64 F]) (.agg #[.int .i64 X, .int .i64 Y])).run Try.prog w = .ok (.bool (E == X && F == Y)) w := by
  rw [run_eql_struct, eqIn_roll]; rfl
theorem run_neqRoll (E F X Y : Int) (w : World) : (binOp .neq 42 (.agg #[.int .i64 E, .int .i64 F]) (.agg #[.int .i64 X, .int .i64 Y])).run Try.prog w = .ok (.bool (!(E == X && F == Y))) w := by
  rw [run_neq_struct, eqIn_roll]; rfl
theorem run_guardRoll (op : BinOp) (x y : Operand) (xs ys : Array Value) (w : World) : (eqGuard op 42 x y (.agg xs) (.agg ys)).run Try.prog w = .ok () w :=
  run_eqGuard_agg w op _ x y xs ys (by kernel_rfl)
attribute [go_sem] eqIn_roll run_eqlRoll run_neqRoll run_guardRoll
end Go.Proofs.Ytmcjabodkjlkgaa
