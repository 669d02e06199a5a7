/-
  The walk of markPlayS over the rows of plays.
-/
import Derived.Test.YtgbfcjnkohhfoaaTwAp
import Derived.Test.YtgbfcjnkohhfoaaSortW
namespace Go.Proofs.Ytgbfcjnkohhfoaa
open Go.RowKit Go.Lib
set_option linter.unusedVariables false

/-- row q of plays holds ys -/
def LfP (F : Nat → Value × Value × Value) (ys : List DPlay) (q : Nat) (w : World) : Prop :=
  match q % 3 with
  | 0 => LeafT tStep w (F (q / 3)).1 (ys.getD (q / 3) ([], [], [])).1
  | 1 => LeafT tI w (F (q / 3)).2.1 (ys.getD (q / 3) ([], [], [])).2.1
  | _ => LeafT tI w (F (q / 3)).2.2 (ys.getD (q / 3) ([], [], [])).2.2
theorem LfP.move {F : Nat → Value × Value × Value} {ys : List DPlay} {q : Nat} {w w' : World} (h : LfP F ys q w) (hh : ∀ b, blkOf (lf F q) = some b → w'.heap[b]? = w.heap[b]?) : LfP F ys q w' := by
  have hc : q % 3 = 0 ∨ q % 3 = 1 ∨ q % 3 = 2 := by omega
  unfold LfP lf at *
  rcases hc with c | c | c <;> rw [c] at h hh ⊢ <;> exact LeafT.move h hh
/-- where the walk stands: m rows are marked -/
structure MkTo (O : Nat → Prop) (w0 : World) (F : Nat → Value × Value × Value) (xs ys : List DPlay) (m : Nat) (w : World) : Prop where
  low : ∀ q, q < m → LfP F ys q w
  high : ∀ q, m ≤ q → q < 3 * xs.length → LfP F xs q w
  eff : BelowM (fun b => ¬ O b ∧ ∃ q, q < 3 * xs.length ∧ blkOf (lf F q) = some b) w0 w
section
variable {O : Nat → Prop} {w : World} {xs ys : List DPlay} {g : Nat} {F : Nat → Value × Value × Value}
theorem MkTo.start (hL : Leaves O w xs g F) : MkTo O w F xs ys 0 w := by
  refine ⟨fun q h => absurd h (by omega), fun q _ hq => ?_, BelowM.refl _ _⟩
  have hi : q / 3 < xs.length := by omega
  have hx := List.getElem?_eq_getElem hi
  have hg : xs.getD (q / 3) ([], [], []) = xs[q / 3] := by rw [List.getD_eq_getElem?_getD, hx]; rfl
  have hc : q % 3 = 0 ∨ q % 3 = 1 ∨ q % 3 = 2 := by omega
  unfold LfP
  rw [hg]
  rcases hc with c | c | c <;> rw [c]
  · exact (hL.S hx).1
  · exact (hL.A hx).1
  · exact (hL.B hx).1
theorem MkTo.step (hL : Leaves O w xs g F) (hA : ApOk xs) {m : Nat} {w1 w2 : World} (h : MkTo O w F xs ys m w1) (hm : m < 3 * xs.length) (hl : LfP F ys m w2) (hB : BelowM (fun b => blkOf (lf F m) = some b) w1 w2) : MkTo O w F xs ys (m + 1) w2 := by
  have other : ∀ q, q < 3 * xs.length → q ≠ m → ∀ b, blkOf (lf F q) = some b → w2.heap[b]? = w1.heap[b]? := fun q hq hne b hb => by
    have := (hL.off hq hb).2.2
    exact hB.block b (Nat.lt_of_lt_of_le this h.eff.size) fun hb2 => hL.apart hA hq hm hne hb hb2
  refine ⟨fun q hq => ?_, fun q hq hq2 => (h.high q (by omega) hq2).move (other q hq2 (by omega)), h.eff.trans ⟨hB.os, hB.tape, hB.output, hB.size, fun b hlt hn => hB.block b hlt fun hb => hn ⟨(hL.off hm hb).2.1, m, hm, hb⟩⟩⟩
  by_cases e : q = m
  · subst e; exact hl
  · exact (h.low q (by omega)).move (other q (by omega) e)
theorem MkTo.cell (hL : Leaves O w xs g F) {m : Nat} {w1 : World} (h : MkTo O w F xs ys m w1) {j : Nat} {v : Value} (hc : w.cell? ⟨g, j, none⟩ = some v) : w1.cell? ⟨g, j, none⟩ = some v := by
  obtain ⟨cur, e, hg, _⟩ := hL.out
  rw [cell_agree (h.eff.block g (Array.getElem?_eq_some_iff.1 hg).1 fun ⟨_, q, hq, hb⟩ => (hL.off hq hb).1 rfl)]
  exact hc
end

theorem markPlay_nil {w : World} {k : Int} {a : Option Addr} {cap : Nat} : Calls Try.prog 14 #[.slice a 0 cap, .int .i64 k] w fun e w' => e = .returned (.int .i64 k) ∧ w' = w := by
  go_enter Try.func14, Try.ntmps14
  go_wp2
  go_loopg [1, 5] 0 (fun g s1 s5 wr => s1 = .int .i64 k ∧ s5 = .int .i64 0 ∧ wr = w)
  case atStart => exact ⟨rfl, rfl, rfl⟩
  case round =>
    obtain ⟨rfl, rfl, rfl⟩ := hrel
    go_wp2
    go_ret
    exact ⟨rfl, rfl⟩
set_option maxHeartbeats 1000000 in
theorem markPlay_walk [B : Base] {O : Nat → Prop} {w : World} {g cap : Nat} {xs : List DPlay} {F : Nat → Value × Value × Value} (hL : Leaves O w xs g F) (hA : ApOk xs) (hbase : ∀ b, ¬ O b → B.W.heap.size ≤ b) (hold : OldOk w) :
    Calls Try.prog 14 #[.slice (some ⟨g, 0, none⟩) xs.length cap, .int .i64 1] w fun e w' => e = .returned (.int .i64 (1 + ((sum3 (lens3 xs) : Nat) : Int))) ∧ MkTo O w F xs (markPl 1 (lens3 xs)) (3 * xs.length) w' := by
  have hlen : (lens3 xs).length = xs.length := by simp [lens3]
  have hsum := hA.sum
  have hn := hA.len
  obtain ⟨K, hK⟩ : ∃ K : Nat → Int, ∀ i, K i = 1 + ((sum3 ((lens3 xs).take i) : Nat) : Int) := ⟨_, fun _ => rfl⟩
  have hKb : ∀ i, 0 ≤ K i ∧ K i ≤ 60000000 := fun i => by have := sum3_le (lens3 xs) i; rw [hK]; omega
  obtain ⟨M, hM⟩ : ∃ M : Nat → World → Prop, ∀ m w', M m w' ↔ MkTo O w F xs (markPl 1 (lens3 xs)) m w' := ⟨_, fun _ _ => Iff.rfl⟩
  -- a play's data
  have hgx : ∀ i (h : i < xs.length), xs.getD i ([], [], []) = xs[i] := fun i h => by rw [List.getD_eq_getElem?_getD, List.getElem?_eq_getElem h]; rfl
  have hgm : ∀ i (h : i < xs.length), (markPl 1 (lens3 xs)).getD i ([], [], []) = markP (K i) (xs[i].1.length, xs[i].2.1.length, xs[i].2.2.length) := fun i h => by
    rw [List.getD_eq_getElem?_getD, markPl_at (lens3 xs) 1 i (by omega), hK]
    simp [lens3]
  have hks : ∀ i (h : i < xs.length), K (i + 1) = K i + 4 * (xs[i].1.length : Int) + (xs[i].2.1.length : Int) + (xs[i].2.2.length : Int) := fun i h => by
    rw [hK, hK, sum3_take (by omega : i < (lens3 xs).length)]
    have : (lens3 xs)[i] = (xs[i].1.length, xs[i].2.1.length, xs[i].2.2.length) := by simp [lens3]
    rw [this]
    simp only [tot3]
    omega
  have hold' : ∀ m w', M m w' → OldOk w' := fun m w' h => by
    have h := (hM _ _).1 h
    exact ⟨Nat.le_trans hold.size h.eff.size, fun b hb => (h.eff.block b (Nat.lt_of_lt_of_le hb hold.size) fun hno => by have := hbase b hno.1; omega).trans (hold.block b hb)⟩
  have hnew : ∀ q, q < 3 * xs.length → ∀ b, blkOf (lf F q) = some b → B.W.heap.size ≤ b := fun q hq b hb => hbase b (hL.off hq hb).2.1
  have lf0 : ∀ i, lf F (3 * i) = (F i).1 := fun i => by unfold lf; rw [show 3 * i % 3 = 0 by omega, show 3 * i / 3 = i by omega]; rfl
  have lf1 : ∀ i, lf F (3 * i + 1) = (F i).2.1 := fun i => by unfold lf; rw [show (3 * i + 1) % 3 = 1 by omega, show (3 * i + 1) / 3 = i by omega]; rfl
  have lf2 : ∀ i, lf F (3 * i + 2) = (F i).2.2 := fun i => by unfold lf; rw [show (3 * i + 2) % 3 = 2 by omega, show (3 * i + 2) / 3 = i by omega]; rfl
  have st0 : ∀ (i : Nat) (h : i < xs.length) (wr : World), M (3 * i) wr → Calls Try.prog 30 #[(F i).1, .int .i64 (K i)] wr fun e w' => e = .returned (.int .i64 (K i + 4 * (xs[i].1.length : Int))) ∧ M (3 * i + 1) w' := by
    intro i hi wr hm
    have h := (hM _ _).1 hm
    have hl := h.high (3 * i) (Nat.le_refl _) (by omega)
    unfold LfP at hl
    rw [show 3 * i % 3 = 0 by omega, show 3 * i / 3 = i by omega, hgx i hi] at hl
    have hp := (hA.sh _ (List.getElem_mem hi)).1
    have hk := hKb i
    refine (mark_steps (k := K i) hl (hold' _ _ hm) (fun b hb => hnew (3 * i) (by omega) b (by rw [lf0]; exact hb)) (by omega) (by omega) (by omega)).mono ?_
    rintro e w' ⟨rfl, hl', hB⟩
    refine ⟨rfl, (hM _ _).2 (h.step hL hA (by omega) ?_ (by rw [lf0]; exact hB))⟩
    unfold LfP
    rw [show 3 * i % 3 = 0 by omega, show 3 * i / 3 = i by omega, hgm i hi]
    exact hl'
  have st1 : ∀ (i : Nat) (h : i < xs.length) (wr : World), M (3 * i + 1) wr → Calls Try.prog 29 #[(F i).2.1, .int .i64 (K i + 4 * (xs[i].1.length : Int))] wr fun e w' => e = .returned (.int .i64 (K i + 4 * (xs[i].1.length : Int) + (xs[i].2.1.length : Int))) ∧ M (3 * i + 2) w' := by
    intro i hi wr hm
    have h := (hM _ _).1 hm
    have hl := h.high (3 * i + 1) (Nat.le_refl _) (by omega)
    unfold LfP at hl
    rw [show (3 * i + 1) % 3 = 1 by omega, show (3 * i + 1) / 3 = i by omega, hgx i hi] at hl
    have hp := hA.sh _ (List.getElem_mem hi)
    have hk := hKb i
    refine (mark_ints (k := K i + 4 * (xs[i].1.length : Int)) hl (hold' _ _ hm) (fun b hb => hnew (3 * i + 1) (by omega) b (by rw [lf1]; exact hb)) (by omega) (by omega) (by omega)).mono ?_
    rintro e w' ⟨rfl, hl', hB⟩
    refine ⟨rfl, (hM _ _).2 (h.step hL hA (by omega) ?_ (by rw [lf1]; exact hB))⟩
    unfold LfP
    rw [show (3 * i + 1) % 3 = 1 by omega, show (3 * i + 1) / 3 = i by omega, hgm i hi]
    exact hl'
  have st2 : ∀ (i : Nat) (h : i < xs.length) (wr : World), M (3 * i + 2) wr → Calls Try.prog 29 #[(F i).2.2, .int .i64 (K i + 4 * (xs[i].1.length : Int) + (xs[i].2.1.length : Int))] wr fun e w' => e = .returned (.int .i64 (K (i + 1))) ∧ M (3 * (i + 1)) w' := by
    intro i hi wr hm
    have h := (hM _ _).1 hm
    have hl := h.high (3 * i + 2) (Nat.le_refl _) (by omega)
    unfold LfP at hl
    rw [show (3 * i + 2) % 3 = 2 by omega, show (3 * i + 2) / 3 = i by omega, hgx i hi] at hl
    have hp := hA.sh _ (List.getElem_mem hi)
    have hk := hKb i
    refine (mark_ints (k := K i + 4 * (xs[i].1.length : Int) + (xs[i].2.1.length : Int)) hl (hold' _ _ hm) (fun b hb => hnew (3 * i + 2) (by omega) b (by rw [lf2]; exact hb)) (by omega) (by omega) (by omega)).mono ?_
    rintro e w' ⟨rfl, hl', hB⟩
    refine ⟨by rw [hks i hi], (hM _ _).2 (h.step hL hA (by omega) ?_ (by rw [lf2]; exact hB))⟩
    unfold LfP
    rw [show (3 * i + 2) % 3 = 2 by omega, show (3 * i + 2) / 3 = i by omega, hgm i hi]
    exact hl'
  have hcell : ∀ (i : Nat), i < xs.length → ∀ (m : Nat) (wr : World), M m wr → wr.cell? ⟨g, i * 3, none⟩ = some (F i).1 ∧ wr.cell? ⟨g, i * 3 + 1, none⟩ = some (F i).2.1 ∧ wr.cell? ⟨g, i * 3 + 2, none⟩ = some (F i).2.2 := fun i hi m wr hm => by
    have h := (hM _ _).1 hm
    have c := hL.cell i hi
    exact ⟨h.cell hL c.1, h.cell hL c.2.1, h.cell hL c.2.2⟩
  have h0 : M 0 w := (hM _ _).2 (MkTo.start hL)
  have hK0 : K 0 = 1 := by rw [hK]; simp [sum3]
  have hKn : K xs.length = 1 + ((sum3 (lens3 xs) : Nat) : Int) := by rw [hK, ← hlen, List.take_length]
  suffices hsuff : Calls Try.prog 14 #[.slice (some ⟨g, 0, none⟩) xs.length cap, .int .i64 1] w fun e w' => e = .returned (.int .i64 (1 + ((sum3 (lens3 xs) : Nat) : Int))) ∧ M (3 * xs.length) w' from hsuff.mono fun e w' h => ⟨h.1, (hM _ _).1 h.2⟩
  rw [← hKn]
  have H0 := hid st0
  have H1 := hid st1
  have H2 := hid st2
  have HC := hid hcell
  have HS := hid h0
  rw [← hK0]
  clear st0 st1 st2 hcell h0 lf0 lf1 lf2 hnew hold' hks hgm hgx hKb hM hKn hK hK0 hsum hlen hL hA hbase hold
  go_enter Try.func14, Try.ntmps14
  go_wp2
  go_loopg [1, 5] xs.length (fun g0 s1 s5 wr => ∃ i : Nat, i ≤ xs.length ∧ xs.length - i ≤ g0 ∧ s1 = .int .i64 (K i) ∧ s5 = .int .i64 i ∧ M (3 * i) wr)
  case atStart => exact ⟨0, by omega, by omega, rfl, rfl, HS.out⟩
  case round =>
    obtain ⟨i, hi, hg0, rfl, rfl, hm⟩ := hrel
    by_cases hlt : i < xs.length
    · obtain ⟨c0, c1, c2⟩ := HC.out i hlt _ wr hm
      have hcall := H0.out i hlt wr hm
      have HM := hid hm
      clear hm
      go_wp2_with fail
      refine hcall.mono ?_
      rintro e w1 ⟨rfl, hm1⟩
      clear hcall c0 c1 c2
      obtain ⟨c0, c1, c2⟩ := HC.out i hlt _ w1 hm1
      have hcall := H1.out i hlt w1 hm1
      have HM1 := hid hm1
      clear hm1
      go_wp2_with fail
      refine hcall.mono ?_
      rintro e w2 ⟨rfl, hm2⟩
      clear hcall c0 c1 c2
      obtain ⟨c0, c1, c2⟩ := HC.out i hlt _ w2 hm2
      have hcall := H2.out i hlt w2 hm2
      have HM2 := hid hm2
      clear hm2
      go_wp2_with fail
      refine hcall.mono ?_
      rintro e w3 ⟨rfl, hm3⟩
      clear hcall c0 c1 c2
      have HM3 := hid hm3
      clear hm3
      go_wp2
      go_roundg (xs.length - (i + 1))
      case measure => omega
      case rel => exact ⟨i + 1, by omega, Nat.le_refl _, rfl, by go_num, HM3.out⟩
    · have : i = xs.length := by omega
      subst this
      go_wp2
      go_ret
      exact ⟨rfl, hm⟩
end Go.Proofs.Ytgbfcjnkohhfoaa
