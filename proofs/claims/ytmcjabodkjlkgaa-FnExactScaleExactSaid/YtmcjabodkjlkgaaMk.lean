/-
  What makeExact returns for numbers within bounds; equality of exact numbers; lists of one and of two numbers.
-/
import Derived.Test.YtmcjabodkjlkgaaFit2
import Derived.Test.YtmcjabodkjlkgaaExs
namespace Go.Proofs.Ytmcjabodkjlkgaa
open Go.RowKit

def okN (n : Int) : Bool := inB n (-1000000000000000000) 1000000000000000000
def makeCode (p c h s n d : Int) : Int := if varB p c h s then (if okN n && inB d 0 60 && sclB (s * s).toNat d then 0 else 2) else 1
def makeNum (p c h s n d : Int) : Int := if makeCode p c h s n d = 0 then (strip (s * s).toNat d.toNat n).1 else 0
def makeDep (p c h s n d : Int) : Int := if makeCode p c h s n d = 0 then (strip (s * s).toNat d.toNat n).2 else 0

theorem scl_pow {b : Nat} {d : Int} (h : sclB b d = true) : b ^ d.toNat ≤ 1000000000000000 := by
  simp [sclB] at h
  rcases h with (h | h) | h
  · subst h; simp
  · have : d.toNat = 0 := by omega
    simp [this]
  · exact h

theorem okN_abs {n : Int} : okN n = true ↔ n.natAbs ≤ 1000000000000000000 := by
  simp [okN, inB]; omega
theorem fitOk_of {b D : Nat} {n : Int} (hb : 1 ≤ b) (hn : okN n = true) : fitOk b D n = true := by
  show okN _ = true
  rw [okN_abs] at hn ⊢
  exact Nat.le_trans (strip_abs b hb D n) hn
theorem mkOk_of {b D : Nat} {n : Int} (hb : 1 ≤ b) (hD : b ^ D ≤ 1000000000000000) : mkOk b D n = fitOk b D n := by
  have hk := strip_depth b D n
  have he := strip_end b D n
  have hs := (scl_le (k := (strip b D n).2) hb hk hD).1
  unfold mkOk exB fitOk
  rcases he with h | h
  · simp [h]
  · by_cases h1 : b = 1
    · subst h1; rw [strip_one] at h; simp at h
    · have h2 : 2 ≤ b := by omega
      simp [hs, h, h2]

theorem eqExact_any (x d y f : Int) (w : World) :
    Calls Try.prog 32 #[.agg #[.int .i64 x, .int .i64 d], .agg #[.int .i64 y, .int .i64 f]] w fun e w' => e = .returned (.bool (decide (x = y) && decide (d = f))) ∧ Below w.heap.size w w' := by
  by_cases h1 : x = y
  · have b1 : (x != y) = false := by simpa using h1
    have H1 := hid h1
    clear h1
    by_cases h2 : d = f
    · have b2 : (d != f) = false := by simpa using h2
      have H2 := hid h2
      clear h2
      go_enter Try.func32, Try.ntmps32
      go_wp2
      go_ret
      exact ⟨ret_bool (by simp [H1.out, H2.out]), by (repeat' (first | exact Below.refl _ _ | (with_reducible assumption) | (with_reducible refine xAlloc ?_ _) | (with_reducible refine Below.drew ?_) | (with_reducible refine xDrewN ?_ _) | (with_reducible refine xThen ?_ (by with_reducible assumption)) | (with_reducible refine Below.setCell ?_ (by first | omega | (simp; omega) | simp) _)))⟩
    · have b2 : (d != f) = true := by simpa using h2
      go_enter Try.func32, Try.ntmps32
      go_wp2
      go_ret
      exact ⟨ret_bool (by simp [h2]), by (repeat' (first | exact Below.refl _ _ | (with_reducible assumption) | (with_reducible refine xAlloc ?_ _) | (with_reducible refine Below.drew ?_) | (with_reducible refine xDrewN ?_ _) | (with_reducible refine xThen ?_ (by with_reducible assumption)) | (with_reducible refine Below.setCell ?_ (by first | omega | (simp; omega) | simp) _)))⟩
  · have b1 : (x != y) = true := by simpa using h1
    go_enter Try.func32, Try.ntmps32
    go_wp2
    go_ret
    exact ⟨ret_bool (by simp [h1]), by (repeat' (first | exact Below.refl _ _ | (with_reducible assumption) | (with_reducible refine xAlloc ?_ _) | (with_reducible refine Below.drew ?_) | (with_reducible refine xDrewN ?_ _) | (with_reducible refine xThen ?_ (by with_reducible assumption)) | (with_reducible refine Below.setCell ?_ (by first | omega | (simp; omega) | simp) _)))⟩

theorem eqExact_same (x d : Int) (w : World) :
    Calls Try.prog 32 #[.agg #[.int .i64 x, .int .i64 d], .agg #[.int .i64 x, .int .i64 d]] w fun e w' => e = .returned (.bool true) ∧ Below w.heap.size w w' := by
  have := eqExact_any x d x d w
  simpa using this

theorem ExsAt.two_at (g : Nat) (w : World) (x d y f : Int) (t : TypeId) (cap : Nat) (hg : g = w.heap.size) : ExsAt (w.alloc (.cells #[.int .i64 x, .int .i64 d, .int .i64 y, .int .i64 f] t)) (.slice (some ⟨g, 0, none⟩) 2 cap) [(x, d), (y, f)] := by
  subst hg; exact ExsAt.two w x d y f t cap
theorem ExsAt.one_at (g : Nat) (w : World) (x d : Int) (t : TypeId) (cap : Nat) (hg : g = w.heap.size) : ExsAt (w.alloc (.cells #[.int .i64 x, .int .i64 d] t)) (.slice (some ⟨g, 0, none⟩) 1 cap) [(x, d)] := by
  subst hg; exact ExsAt.one w x d t cap

theorem exB_true {b : Nat} {x d : Int} (h : exB b x d = true) : 0 ≤ d ∧ d ≤ 60 ∧ x.natAbs ≤ 1000000000000000000 ∧ b ^ d.toNat ≤ 1000000000000000 ∧ (d.toNat = 0 ∨ x.tmod b ≠ 0) := by
  simp only [exB, Bool.and_eq_true, Bool.or_eq_true, decide_eq_true_eq] at h
  obtain ⟨⟨h0, h1⟩, h2⟩ := h
  have h1' := inB_true h1
  rcases h2 with h2 | ⟨⟨h2, h3⟩, h4⟩
  · subst h2; simp; omega
  · have := exB_deep h2 h3
    have hp := scl_pow h3
    exact ⟨h0, this, by omega, hp, .inr h4⟩
theorem code1_eq (p c h s x d : Int) : exsCode p c h s [(x, d)] = code2 p c h s x d x d := by simp [exsCode, code2]
theorem code2_cases (p c h s x dx y dy : Int) : (code2 p c h s x dx y dy = 1 ∨ code2 p c h s x dx y dy = 2) ∨ (code2 p c h s x dx y dy = 0 ∧ varB p c h s = true ∧ exB (s * s).toNat x dx = true ∧ exB (s * s).toNat y dy = true) := by
  unfold code2
  cases varB p c h s <;> cases exB (s * s).toNat x dx <;> cases exB (s * s).toNat y dy <;> simp
end Go.Proofs.Ytmcjabodkjlkgaa
