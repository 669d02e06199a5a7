/-
  Contracts of impl.choose, impl.listsUpTo and spec.l10Ways: what they return, for sums up to 15 and up to 25 elements.
-/
import Derived.Test.YtdifaojcjcnokaaIn
import Derived.Test.YtdifaojcjcnokaaMathCh
namespace Go.Proofs.Ytdifaojcjcnokaa
open Go.RowKit

theorem choose_any (n k : Int) (m q : Nat) (hn : n = k + m) (hk : k = q) (hm : m ≤ 15) (hq : q ≤ 25) (w : World) :
    Calls Try.prog 82 #[.int .i64 n, .int .i64 k] w fun e w' => e = .returned (.int .i64 (chs m q)) ∧ w = w' := by
  subst hk hn
  have h1 : ¬ ((q : Int) < 0) := by omega
  have h2 : ¬ ((q : Int) + m < q) := by omega
  go_enter Try.func82, Try.ntmps82
  go_wp2
  go_loop [5, 6] (fun out i => ∃ j : Nat, j ≤ q ∧ i = .int .i64 ((j : Int) + 1) ∧ out = .int .i64 (chs m j)) (fun _ i => q + 1 - (intOf i).toNat)
  case atStart => exact ⟨0, by omega, rfl, rfl⟩
  case round =>
    obtain ⟨j, hj, rfl, rfl⟩ := hrel
    obtain ⟨hb0, hb1⟩ := chs_bdI (m := m) (i := j) hm (by omega)
    have hc := chs_pos (m := m) (i := j) hm (by omega)
    have he : ((q : Int) + m - q + ((j : Int) + 1)) = (m : Int) + ((j : Int) + 1) := by omega
    go_wp2
    · go_round
      case rel => exact ⟨j + 1, by omega, by go_num, by rw [chs_step]⟩
      case measure => simp [intOf]; omega
    · go_ret
      have : j = q := by omega
      subst this
      exact ⟨rfl, rfl⟩

theorem listsUpTo_any (m q : Nat) (hm : m ≤ 15) (hq : q ≤ 25) (w : World) :
    Calls Try.prog 50 #[.int .i64 q, .int .i64 m] w fun e w' => e = .returned (.int .i64 (chs m q)) ∧ w = w' := by
  go_enter Try.func50, Try.ntmps50
  go_wp2_with (go_at_call 82; refine (choose_any _ _ m q (by omega) rfl hm hq _).mono ?_; rintro e w' ⟨rfl, rfl⟩)
  go_ret
  exact ⟨rfl, rfl⟩

theorem ways_any (m q : Nat) (hm : m ≤ 15) (hq : q ≤ 25) (w : World) :
    Calls Try.prog 48 #[.int .i64 m, .int .i64 q] w fun e w' => e = .returned (.int .i64 (ways m q)) ∧ w = w' := by
  go_enter Try.func48, Try.ntmps48
  go_wp2
  go_loop [5, 6] (fun out i => ∃ j : Nat, j ≤ q ∧ i = .int .i64 ((j : Int) + 1) ∧ out = .int .i64 (chs m j) ∧ chs m j ≤ 1000000) (fun _ i => q + 1 - (intOf i).toNat)
  case atStart => exact ⟨0, by omega, rfl, rfl, by simp [chs]⟩
  case round =>
    obtain ⟨j, hj, rfl, rfl, hs⟩ := hrel
    obtain ⟨hb0, hb1⟩ := chs_bdI (m := m) (i := j) hm (by omega)
    have hc := chs_pos (m := m) (i := j) hm (by omega)
    by_cases hlt : j < q
    · have hn := chs_step m j
      have HN := hid hn
      have HM := hid (chs_mono (i := j + 1) (j := q) hm (by omega) (by omega))
      clear hn
      by_cases hg : (chs m j : Int) * ((m : Int) + ((j : Int) + 1)) / ((j : Int) + 1) ≤ 1000000
      · go_wp2
        go_round
        case rel => exact ⟨j + 1, by omega, by go_num, by rw [HN.out], by have := HN.out; omega⟩
        case measure => simp [intOf]; omega
      · go_wp2
        go_ret
        have h1 := HN.out
        have h2 := HM.out
        have : ways m q = -1 := by unfold ways; rw [if_neg]; omega
        exact ⟨ret_int this.symm, rfl⟩
    · go_wp2
      go_ret
      have : j = q := by omega
      subst this
      exact ⟨by simp [ways, hs], rfl⟩

theorem ways_ok {m q : Nat} (h : chs m q ≤ 1000000) : ways m q = chs m q := by simp [ways, h]
end Go.Proofs.Ytdifaojcjcnokaa
