/-
  Plain arithmetic of exact numbers: scales, which are powers of the base.
-/
import Derived.Test.YtokddngcfkimlaaDoorProg
namespace Go.Proofs.YtokddngcfkimlaaDoor

/-- the scale of a depth is at most MaxScale -/
def sclB (b : Nat) (d : Int) : Bool := decide (b = 1) || decide (d ≤ 0) || decide (b ^ d.toNat ≤ 1000000000000000)
/-- the scale of a depth, or 0 -/
def sclV (b : Nat) (d : Int) : Nat := if sclB b d then b ^ d.toNat else 0

theorem pow_succ' (b k : Nat) : b ^ (k + 1) = b ^ k * b := Nat.pow_succ b k
theorem scl_ok {b : Nat} {d : Int} (h : sclB b d = true) : sclV b d = b ^ d.toNat := by simp [sclV, h]
theorem scl_one {d : Int} : sclB 1 d = true ∧ sclV 1 d = 1 := by simp [sclB, sclV]
theorem scl_neg {b : Nat} {d : Int} (h : d ≤ 0) : sclB b d = true ∧ sclV b d = 1 := by
  have : d.toNat = 0 := by omega
  simp [sclB, sclV, h, this]
theorem scl_no {b k : Nat} {d : Int} (hb : 2 ≤ b) (hk : (k : Int) < d) (h : 1000000000000000 < b ^ (k + 1)) : sclB b d = false ∧ sclV b d = 0 := by
  have h1 : b ^ (k + 1) ≤ b ^ d.toNat := Nat.pow_le_pow_right (by omega) (by omega)
  have : sclB b d = false := by
    simp [sclB]; omega
  simp [sclV, this]
theorem scl_yes {b k : Nat} {d : Int} (hk : (k : Int) = d) (h : b ^ k ≤ 1000000000000000) : sclB b d = true ∧ sclV b d = b ^ k := by
  have e : d.toNat = k := by omega
  simp [sclV, sclB, e, h]
theorem pow_bd {b : Nat} (k : Nat) (hb : 1 ≤ b) : 1 ≤ b ^ k := Nat.pow_pos hb
theorem scl_bd {b : Nat} {d : Int} (hb : 1 ≤ b) (h : sclB b d = true) : 1 ≤ sclV b d ∧ sclV b d ≤ 1000000000000000 := by
  rw [scl_ok h]
  refine ⟨pow_bd _ hb, ?_⟩
  simp [sclB] at h
  rcases h with (h | h) | h
  · subst h; simp
  · have : d.toNat = 0 := by omega
    simp [this]
  · exact h
end Go.Proofs.YtokddngcfkimlaaDoor
