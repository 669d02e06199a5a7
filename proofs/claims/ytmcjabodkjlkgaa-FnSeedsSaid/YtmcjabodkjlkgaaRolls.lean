/-
  Slices of rolls in memory: the laws' own comparison, marks and the look whether they are held; sizes up to 2^20 elements.
-/
import Derived.Test.YtmcjabodkjlkgaaGameV
namespace Go.Proofs.Ytmcjabodkjlkgaa
open Go.RowKit

def rollCells (rs : List (Int × Int)) : List Value := rs.flatMap fun r => [.int .i64 r.1, .int .i64 r.2]
theorem rollCells_len (rs : List (Int × Int)) : (rollCells rs).length = rs.length * 2 := by
  induction rs with
  | nil => rfl
  | cons r rs ih => simp only [rollCells, List.flatMap_cons, List.length_append, List.length_cons, List.length_nil] at *; omega
theorem rollCells_get (rs : List (Int × Int)) : ∀ i, i < rs.length → (rollCells rs)[i * 2]? = some (.int .i64 (rs.getD i (0, 0)).1) ∧ (rollCells rs)[i * 2 + 1]? = some (.int .i64 (rs.getD i (0, 0)).2) := by
  induction rs with
  | nil => intro i h; simp at h
  | cons r rs ih =>
    intro i h
    have e : rollCells (r :: rs) = .int .i64 r.1 :: .int .i64 r.2 :: rollCells rs := rfl
    rw [e]
    cases i with
    | zero => simp
    | succ i =>
      have := ih i (by simpa using h)
      have e1 : (i + 1) * 2 = i * 2 + 1 + 1 := by omega
      rw [e1]
      simpa using this
theorem rollCells_append (a b : List (Int × Int)) : rollCells (a ++ b) = rollCells a ++ rollCells b := by simp [rollCells]
theorem rollCells_one (x y : Int) : rollCells [(x, y)] = [.int .i64 x, .int .i64 y] := rfl

/-- the slice value v has the rolls rs in the world w -/
def RollsAt (w : World) (v : Value) (rs : List (Int × Int)) : Prop :=
  ∃ a cap, v = .slice a rs.length cap ∧ rs.length ≤ 1048576 ∧ (rs = [] ∨ ∃ b off, a = some ⟨b, off, none⟩ ∧ ∀ i, i < rs.length → w.cell? ⟨b, off + i * 2, none⟩ = some (.int .i64 (rs.getD i (0, 0)).1) ∧ w.cell? ⟨b, off + i * 2 + 1, none⟩ = some (.int .i64 (rs.getD i (0, 0)).2))
theorem RollsAt.mono {w w1 : World} {v : Value} {rs : List (Int × Int)} (h : RollsAt w v rs) (hb : Below w.heap.size w w1) : RollsAt w1 v rs := by
  obtain ⟨a, cap, rfl, hm, hz⟩ := h
  refine ⟨a, cap, rfl, hm, hz.imp id ?_⟩
  rintro ⟨b, off, rfl, hc⟩
  exact ⟨b, off, rfl, fun i hi => ⟨xcell hb (hc i hi).1, xcell hb (hc i hi).2⟩⟩

/-- a fresh slice of rolls: nil, or at the head of a block of the call's own from block lo on -/
def FreshRolls (w : World) (lo : Nat) (v : Value) (rs : List (Int × Int)) : Prop :=
  rs.length ≤ 1048576 ∧ ((v = .slice none 0 0 ∧ rs = []) ∨ ∃ g cap cur, v = .slice (some ⟨g, 0, none⟩) rs.length cap ∧ lo ≤ g ∧ w.heap[g]? = some (.cells cur 42 (0, 0)) ∧ rs.length ≤ cap ∧ cap ≤ maxLen ∧ cap * 2 ≤ cur.size ∧ cur.toList.take (rs.length * 2) = rollCells rs)
theorem FreshRolls.nil (w : World) (lo : Nat) : FreshRolls w lo (.slice none 0 0) [] := ⟨by decide, .inl ⟨rfl, rfl⟩⟩
theorem FreshRolls.mono {w w1 : World} {lo : Nat} {v : Value} {rs : List (Int × Int)} (h : FreshRolls w lo v rs) (hb : Below w.heap.size w w1) : FreshRolls w1 lo v rs := by
  obtain ⟨hm, h⟩ := h
  refine ⟨hm, h.imp id ?_⟩
  rintro ⟨g, cap, cur, hv, hg, hh, r⟩
  exact ⟨g, cap, cur, hv, hg, blk_mono hb hh, r⟩
theorem FreshRolls.low {w : World} {lo lo' : Nat} {v : Value} {rs : List (Int × Int)} (h : FreshRolls w lo v rs) (hl : lo' ≤ lo) : FreshRolls w lo' v rs := by
  obtain ⟨hm, h⟩ := h
  refine ⟨hm, h.imp id ?_⟩
  rintro ⟨g, cap, cur, hv, hg, r⟩
  exact ⟨g, cap, cur, hv, by omega, r⟩
theorem FreshRolls.at {w : World} {lo : Nat} {v : Value} {rs : List (Int × Int)} (h : FreshRolls w lo v rs) : RollsAt w v rs := by
  obtain ⟨hm, ⟨rfl, rfl⟩ | ⟨g, cap, cur, rfl, hg, hh, h1, h2, h3, h4⟩⟩ := h
  · exact ⟨none, 0, rfl, by decide, .inl rfl⟩
  · refine ⟨_, _, rfl, hm, .inr ⟨g, 0, rfl, fun i hi => ?_⟩⟩
    have hg := rollCells_get rs i hi
    have get : ∀ j, j < rs.length * 2 → cur[j]? = (rollCells rs)[j]? := fun j hj => by
      rw [← h4]
      simp [hj]
    rw [cell_at hh, cell_at hh, Nat.zero_add, get _ (by omega), get _ (by omega)]
    exact hg
theorem FreshRolls.of_owns {w : World} {lo : Nat} {v : Value} {rs : List (Int × Int)} (hm : rs.length ≤ 1048576) (h : w.ownsRow lo 42 2 v rs.length (rollCells rs)) : FreshRolls w lo v rs := by
  obtain ⟨_, ⟨rfl, h0⟩ | ⟨g, cap, cur, rfl, hg, hh, h1, h2, h3, h4⟩⟩ := h
  · exact ⟨hm, .inl ⟨rfl, List.length_eq_zero_iff.1 h0⟩⟩
  · exact ⟨hm, .inr ⟨g, cap, cur, rfl, hg, hh, h1, h2, by omega, h4⟩⟩

/-- a slice whose n rolls hold the marks from k on -/
def HeldRolls (w : World) (v : Value) (k : Int) (n : Nat) : Prop :=
  (v = .slice none 0 0 ∧ n = 0) ∨ ∃ g cap cur, v = .slice (some ⟨g, 0, none⟩) n cap ∧ w.heap[g]? = some (.cells (marked cur k (n * 2)) 42 (0, 0)) ∧ n * 2 ≤ cur.size
theorem HeldRolls.mono {w w' : World} {v : Value} {k : Int} {n : Nat} (h : HeldRolls w v k n) (hb : Below w.heap.size w w') : HeldRolls w' v k n := by
  refine h.imp id ?_
  rintro ⟨g, cap, cur, hv, hh, hn⟩
  exact ⟨g, cap, cur, hv, blk_mono hb hh, hn⟩

set_option maxHeartbeats 400000 in
theorem eqRolls_any (v1 v2 : Value) (rs : List (Int × Int)) (w : World) (h1 : RollsAt w v1 rs) (h2 : RollsAt w v2 rs) :
    Calls Try.prog 42 #[v1, v2] w fun e w' => e = .returned (.bool true) ∧ Below w.heap.size w w' := by
  obtain ⟨a, cap, rfl, hm, hz⟩ := h1
  obtain ⟨a', cap', rfl, hm', hz'⟩ := h2
  go_enter Try.func42, Try.ntmps42
  go_wp2
  go_loopw [5] (fun i wr => ∃ k : Nat, k ≤ rs.length ∧ i = .int .i64 k ∧ Below w.heap.size w wr) (fun i _ => rs.length - (intOf i).toNat)
  case atStart => exact ⟨0, by omega, rfl, Below.refl _ _⟩
  case round =>
    obtain ⟨k, hk, rfl, hbw⟩ := hrel
    have HB := hid hbw
    by_cases hlt : k < rs.length
    · obtain ⟨b, off, rfl, hcell⟩ := hz.resolve_left (by rintro rfl; simp at hlt)
      obtain ⟨b', off', rfl, hcell'⟩ := hz'.resolve_left (by rintro rfl; simp at hlt)
      have kx0 := xcell hbw (hcell k hlt).1
      have kx1 := xcell hbw (hcell k hlt).2
      have kx2 := xcell hbw (hcell' k hlt).1
      have kx3 := xcell hbw (hcell' k hlt).2
      obtain ⟨x, HX⟩ := named (rs.getD k (0, 0)).1
      obtain ⟨y, HY⟩ := named (rs.getD k (0, 0)).2
      rw [← HX.out] at kx0 kx2
      rw [← HY.out] at kx1 kx3
      have i1 : (k : Int) < (rs.length : Int) := by omega
      clear hcell hz hcell' hz' hbw
      go_wp2
      have hk0 := fun xe : ExtW wr => xe.cell kx0
      have hk1 := fun xe : ExtW wr => xe.cell kx1
      have hk2 := fun xe : ExtW wr => xe.cell kx2
      have hk3 := fun xe : ExtW wr => xe.cell kx3
      have hne : Nonempty (ExtW wr) := ⟨⟨_, Below.refl _ _⟩⟩
      refine wp_region_ext (by kernel_rfl) (by kernel_rfl) ?_
      repeat (first | go_big_quiet_step ((first | (go_at_call 76; exact ext_call (eqRoll_any _ _ _)))) | quiet_step ((first | (go_at_call 76; exact ext_call (eqRoll_any _ _ _)))))
      refine wpQuiet_nil ?_
      rintro w1 ⟨⟨_, hb⟩, rfl⟩
      clear hne hk0 hk1 hk2 hk3
      go_wp2
      go_roundw
      case rel => exact ⟨k + 1, by omega, by go_num, xThen HB.out hb⟩
      case measure => simp [intOf]; omega
    · clear hbw
      go_wp2
      go_ret
      exact ⟨rfl, HB.out⟩

set_option maxHeartbeats 400000 in
theorem markRolls0_any (g n cap : Nat) (k : Int) (cur : Array Value) (w : World) (hh : w.heap[g]? = some (.cells cur 42 (0, 0))) (hn : n * 2 ≤ cur.size) (hm : n ≤ 1048576) (k0 : 0 ≤ k) (k1 : k ≤ 1099511627776) :
    Calls Try.prog 43 #[.slice (some ⟨g, 0, none⟩) n cap, .int .i64 k] w fun e w' => e = .returned (.int .i64 (k + n * 2)) ∧ Wrote g w w' ∧ w'.heap[g]? = some (.cells (marked cur k (n * 2)) 42 (0, 0)) := by
  go_enter Try.func43, Try.ntmps43
  go_wp2
  go_loopw [1, 5] (fun q i wr => ∃ j : Nat, j ≤ n ∧ i = .int .i64 j ∧ q = .int .i64 (k + j * 2) ∧ Wrote g w wr ∧ wr.heap[g]? = some (.cells (marked cur k (j * 2)) 42 (0, 0))) (fun _ i _ => n - (intOf i).toNat)
  case atStart => exact ⟨0, by omega, rfl, by simp, Wrote.refl _ _, hh⟩
  case round =>
    obtain ⟨j, hj, rfl, rfl, hw, hb⟩ := hrel
    have HW := hid hw
    have HB := hid hb
    by_cases hlt : j < n
    · have hs0 : j * 2 < (marked cur k (j * 2)).size := by rw [marked_size]; omega
      have hs1 : j * 2 + 1 < (marked cur k (j * 2)).size := by rw [marked_size]; omega
      have hc0 : wr.cell? ⟨g, j * 2, none⟩ = some ((marked cur k (j * 2))[j * 2]) := by rw [cell_at hb, Array.getElem?_eq_getElem hs0]
      have hc1 : wr.cell? ⟨g, j * 2 + 1, none⟩ = some ((marked cur k (j * 2))[j * 2 + 1]) := by rw [cell_at hb, Array.getElem?_eq_getElem hs1]
      have hf0 : wr.frozen? ⟨g, j * 2, none⟩ = false := frozen_at hb
      have hf1 : wr.frozen? ⟨g, j * 2 + 1, none⟩ = false := frozen_at hb
      generalize (marked cur k (j * 2))[j * 2] = old0 at hc0
      generalize (marked cur k (j * 2))[j * 2 + 1] = old1 at hc1
      have i1 : (j : Int) < (n : Int) := by omega
      clear hw hb hs0 hs1
      go_wp2
      go_roundw
      case rel =>
        refine ⟨j + 1, by omega, by go_num, by go_num, (HW.out.setCell _ _).setCell _ _, ?_⟩
        rw [heap_setCell_at (heap_setCell_at HB.out)]
        have e : (j + 1) * 2 = j * 2 + 1 + 1 := by omega
        rw [e]
        simp only [marked]
        congr 4
        all_goals (simp; omega)
      case measure => simp [intOf]; omega
    · have : j = n := by omega
      subst this
      clear hw hb
      go_wp2
      go_ret
      exact ⟨rfl, HW.out, HB.out⟩

set_option maxHeartbeats 400000 in
theorem heldRolls0_any (g n cap : Nat) (k : Int) (cur : Array Value) (w : World) (hh : w.heap[g]? = some (.cells (marked cur k (n * 2)) 42 (0, 0))) (hn : n * 2 ≤ cur.size) (hm : n ≤ 1048576) (k0 : 0 ≤ k) (k1 : k ≤ 1099511627776) :
    Calls Try.prog 44 #[.slice (some ⟨g, 0, none⟩) n cap, .int .i64 k] w fun e w' => e = .returned (.int .i64 (k + n * 2)) ∧ w = w' := by
  have HH := hid hh
  clear hh
  go_enter Try.func44, Try.ntmps44
  go_wp2
  go_loop [1, 5] (fun q i => ∃ j : Nat, j ≤ n ∧ i = .int .i64 j ∧ q = .int .i64 (k + j * 2)) (fun _ i => n - (intOf i).toNat)
  case atStart => exact ⟨0, by omega, rfl, by simp⟩
  case round =>
    obtain ⟨j, hj, rfl, rfl⟩ := hrel
    by_cases hlt : j < n
    · have hc0 : w.cell? ⟨g, j * 2, none⟩ = some (.int .i64 (k + j * 2)) := by rw [cell_at HH.out, marked_get cur k (n * 2) hn (j * 2) (by omega)]; simp
      have hc1 : w.cell? ⟨g, j * 2 + 1, none⟩ = some (.int .i64 (k + j * 2 + 1)) := by rw [cell_at HH.out, marked_get cur k (n * 2) hn (j * 2 + 1) (by omega)]; simp; omega
      have i1 : (j : Int) < (n : Int) := by omega
      go_wp2
      go_round
      case rel => exact ⟨j + 1, by omega, by go_num, by go_num⟩
      case measure => simp [intOf]; omega
    · have : j = n := by omega
      subst this
      go_wp2
      go_ret
      exact ⟨rfl, rfl⟩
theorem markRollsN_any (k : Int) (w : World) :
    Calls Try.prog 43 #[.slice none 0 0, .int .i64 k] w fun e w' => e = .returned (.int .i64 k) ∧ w = w' := by
  go_enter Try.func43, Try.ntmps43
  go_wp2
  go_rounds 1
  go_ret
  exact ⟨rfl, rfl⟩
theorem heldRollsN_any (k : Int) (w : World) :
    Calls Try.prog 44 #[.slice none 0 0, .int .i64 k] w fun e w' => e = .returned (.int .i64 k) ∧ w = w' := by
  go_enter Try.func44, Try.ntmps44
  go_wp2
  go_rounds 1
  go_ret
  exact ⟨rfl, rfl⟩

theorem markRolls_any (lo : Nat) (v : Value) (k : Int) (rs : List (Int × Int)) (w : World) (h : FreshRolls w lo v rs) (k0 : 0 ≤ k) (k1 : k ≤ 1099511627776) :
    Calls Try.prog 43 #[v, .int .i64 k] w fun e w' => e = .returned (.int .i64 (k + rs.length * 2)) ∧ HeldRolls w' v k rs.length ∧ Below lo w w' ∧ w'.heap.size = w.heap.size := by
  obtain ⟨hm, ⟨rfl, rfl⟩ | ⟨g, cap, cur, rfl, hg, hh, h1, h2, h3, h4⟩⟩ := h
  · refine (markRollsN_any k w).mono ?_
    rintro e w' ⟨rfl, rfl⟩
    exact ⟨by simp, .inl ⟨rfl, rfl⟩, Below.refl _ _, rfl⟩
  · refine (markRolls0_any g rs.length cap k cur w hh (by omega) hm k0 k1).mono ?_
    rintro e w' ⟨rfl, hw, hh'⟩
    exact ⟨rfl, .inr ⟨g, cap, cur, rfl, hh', by omega⟩, hw.below hg, hw.size⟩
theorem heldRolls_any (v : Value) (k : Int) (n : Nat) (w : World) (h : HeldRolls w v k n) (hm : n ≤ 1048576) (k0 : 0 ≤ k) (k1 : k ≤ 1099511627776) :
    Calls Try.prog 44 #[v, .int .i64 k] w fun e w' => e = .returned (.int .i64 (k + n * 2)) ∧ w = w' := by
  rcases h with ⟨rfl, rfl⟩ | ⟨g, cap, cur, rfl, hh, h1⟩
  · simpa using heldRollsN_any k w
  · exact heldRolls0_any g n cap k cur w hh h1 hm k0 k1
end Go.Proofs.Ytmcjabodkjlkgaa
