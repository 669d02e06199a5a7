/-
  Contracts: texts of turns; the law FnExactTurnText.
-/
import Derived.Test.YtfmdjcdaflennaaDoorVStepT
namespace Go.Proofs.YtfmdjcdaflennaaDoor
open Go.RowKit
set_option linter.unusedSimpArgs false
set_option linter.unusedVariables false
def stepsS (v : DVar) (ss : List DStep) : ByteArray :=
  if varD v = false then nilB else if 4 < ss.length then nilB else if ss = [] then minB else if ss.all (plainD v) = true then joinS (ss.map (stepS v)) spB else nilB
def turnS (v : DVar) (r : DRoll) (ss : List DStep) : ByteArray := if rollD v r = false then nilB else if stepsS v ss = nilB then nilB else rollS v r ++ colB ++ stepsS v ss
theorem decS_ne {n : Int} : (decS n).size ≠ 0 := by
  have : ∀ u : Nat, Lib.decDigits u ≠ [] := fun u => by
    rw [Lib.decDigits]; split <;> simp
  have e : (decS n).size = (Lib.itoa n).length := by simp [decS, ByteArray.size]
  rw [e]
  unfold Lib.itoa
  split
  · simp
  · exact fun h => this _ (List.length_eq_zero_iff.1 h)
theorem rollS_nil {v : DVar} {r : DRoll} : rollS v r = nilB ↔ rollD v r = false := by
  unfold rollS
  cases h : rollD v r with
  | true =>
    refine ⟨fun e => ?_, fun e => by cases e⟩
    exfalso
    rw [if_pos rfl] at e
    have h1 := congrArg ByteArray.size e
    have := decS_ne (n := r.1)
    have k : nilB.size = 0 := rfl
    rw [app_size, k] at h1; omega
  | false => exact ⟨fun _ => rfl, fun _ => rfl⟩
theorem stepsS_size (v : DVar) (ss : List DStep) : (stepsS v ss).size ≤ 500 := by
  unfold stepsS
  split
  · decide
  · next hv =>
    split
    · decide
    · split
      · decide
      · split
        · next h =>
          have := joinS_size (s := spB) (q := 1) (k := 100) (n := ss.length) (xs := ss.map (stepS v)) (Nat.le_refl _) (by simp) (fun x hx => by
            obtain ⟨s, hs, rfl⟩ := List.mem_map.1 hx
            exact stepS_size (by simpa using hv) (List.all_eq_true.1 h s hs))
          omega
        · decide
theorem rollS_size {v : DVar} {r : DRoll} : (rollS v r).size ≤ 42 := by
  unfold rollS
  split
  · next h =>
    have hr := rollD_in h
    have s1 := decS_size (n := r.1) (by simp only [inK]; omega)
    have s2 := decS_size (n := r.2) (by simp only [inK]; omega)
    rw [app_size]; omega
  · decide
end Go.Proofs.YtfmdjcdaflennaaDoor
