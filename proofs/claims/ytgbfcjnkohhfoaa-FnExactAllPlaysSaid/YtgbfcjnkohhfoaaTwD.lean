/-
  The copy of a board keeps its contract: the two rows are twins.
-/
import Derived.Test.YtgbfcjnkohhfoaaTwB
namespace Go.Proofs.Ytgbfcjnkohhfoaa
open Go.RowKit Go.Lib
set_option linter.unusedSimpArgs false
set_option linter.unusedVariables false

def c_impl_cloneBoardB : Con where
  ins := [(true, .v tBoard)]
  outs := [(true, .tw (.own 2 tI) (.own 2 tI))]
  sh := false
  pre := fun x => NeB x.1
  out := fun x => (x.1, ())
  upd := fun x => x
  eat := false

set_option maxHeartbeats 1000000 in
theorem cloneB_walk {u1 u2 : Value} {xs ys : List Int} {w : World} (rx : Rep False (fun _ => False) w tSI [u1] xs) (ry : Rep False (fun _ => False) w tSI [u2] ys) (x0 : 0 < xs.length) (x1 : xs.length ≤ 1099511627776) (y0 : 0 < ys.length) (y1 : ys.length ≤ 1099511627776) :
    Calls Try.prog 57 #[.agg #[u1, u2]] w fun e w' => ∃ c1 c2, e = .returned (.agg #[.slice (some ⟨w.heap.size + 3, 0, none⟩) xs.length c1, .slice (some ⟨w.heap.size + 5, 0, none⟩) ys.length c2]) ∧
      w'.ownsRow w.heap.size 2 1 (.slice (some ⟨w.heap.size + 3, 0, none⟩) xs.length c1) xs.length (xs.map (Value.int .i64)) ∧ w'.ownsRow w.heap.size 2 1 (.slice (some ⟨w.heap.size + 5, 0, none⟩) ys.length c2) ys.length (ys.map (Value.int .i64)) ∧
      (∃ cur, w'.heap[w.heap.size + 1]? = some (.cells cur 35 (0, 0))) ∧ Below w.heap.size w w' := by
  obtain ⟨b1, o1, cap1, rfl, _⟩ := read_cells rx (by rintro rfl; simp at x0)
  obtain ⟨b2, o2, cap2, rfl, _⟩ := read_cells ry (by rintro rfl; simp at y0)
  go_enter Try.func57, Try.ntmps57
  go_wp2
  refine wp_region_any mixed ?_
  generalize hW : ({ heap := _, tape := _, drawn := _, os := _, output := _ } : World) = W
  have hWh : W.heap = ((w.alloc (Obj.cells #[Value.slice (some ⟨b1, o1, none⟩) xs.length cap1, Value.slice (some ⟨b2, o2, none⟩) ys.length cap2] 35)).alloc (Obj.cells #[Value.slice none 0 0, Value.slice none 0 0] 35)).heap := by rw [← hW]
  have hWo : W.os = w.os ∧ W.tape = w.tape ∧ W.output = w.output := by rw [← hW]; exact ⟨rfl, rfl, rfl⟩
  have hsz : W.heap.size = w.heap.size + 2 := by rw [hWh]; simp
  have hold : ∀ b, b < w.heap.size → W.heap[b]? = w.heap[b]? := fun b hb => by
    rw [hWh, Below.heap_alloc _ _ b (by simp; omega)]
    exact Below.heap_alloc w _ b hb
  have hb1 : W.heap[w.heap.size]? = some (.cells #[Value.slice (some ⟨b1, o1, none⟩) xs.length cap1, Value.slice (some ⟨b2, o2, none⟩) ys.length cap2] 35 (0, 0)) := by
    rw [hWh, Below.heap_alloc _ _ _ (by simp)]
    exact heap_alloc_new w _
  have hb2 : W.heap[w.heap.size + 1]? = some (.cells #[Value.slice none 0 0, Value.slice none 0 0] 35 (0, 0)) := by
    rw [hWh]
    have := heap_alloc_new (w.alloc (Obj.cells #[Value.slice (some ⟨b1, o1, none⟩) xs.length cap1, Value.slice (some ⟨b2, o2, none⟩) ys.length cap2] 35)) (Obj.cells #[Value.slice none 0 0, Value.slice none 0 0] 35)
    rw [show (w.alloc (Obj.cells #[Value.slice (some ⟨b1, o1, none⟩) xs.length cap1, Value.slice (some ⟨b2, o2, none⟩) ys.length cap2] 35)).heap.size = w.heap.size + 1 by simp] at this
    exact this
  clear hW hWh
  have mv : ∀ {v : Value} {zs : List Int}, Rep False (fun _ => False) w tSI [v] zs → Rep False (fun _ => False) W tSI [v] zs := fun h => h.move id fun b hb hn => ⟨hn, hold b hb⟩
  have hp : PreB w.heap.size (.slice (some ⟨b1, o1, none⟩) xs.length cap1) (.slice (some ⟨b2, o2, none⟩) ys.length cap2) xs ys W := by
    refine ⟨?_, ?_, x0, x1, y0, y1, mv rx, mv ry, by omega⟩
    · rw [cell_of_row W _ _ _ _ (0, 0) hb1]; rfl
    · rw [cell_of_row W _ _ _ _ (0, 0) hb1]; rfl
  refine walkB (p2 := w.heap.size + 1) hp hb2 rfl ?_ 5 0 0 (by omega) (by omega) (by omega) _ _ ?_
  · intro a' w1 w2 c1 c2 hC1 hC2 hd h2
    have hs1 := hC1.size
    have hs2 := hC2.size
    rw [hsz, show w1.heap.size + 1 = w.heap.size + 5 by omega]
    rw [show w.heap.size + 2 + 1 = w.heap.size + 3 by omega]
    have hrow : w2.heap[w.heap.size + 1]? = some (.cells #[Value.slice none 0 0, Value.slice none 0 0] 35 (0, 0)) := by rw [hC2.old _ (by omega), hC1.old _ (by omega)]; exact hb2
    generalize hw3 : w2.setRow (w.heap.size + 1) #[.slice (some ⟨w.heap.size + 3, 0, none⟩) xs.length c1, .slice (some ⟨w.heap.size + 5, 0, none⟩) ys.length c2] = w3
    have hr3 : w3.heap[w.heap.size + 1]? = some (.cells #[.slice (some ⟨w.heap.size + 3, 0, none⟩) xs.length c1, .slice (some ⟨w.heap.size + 5, 0, none⟩) ys.length c2] 35 (0, 0)) := by rw [← hw3]; exact setRow_heap w2 _ _ _ _ _ hrow
    have ho3 : ∀ b, b ≠ w.heap.size + 1 → w3.heap[b]? = w2.heap[b]? := fun b hb => by rw [← hw3]; exact setRow_other w2 _ _ b hb
    have hz3 : w3.heap.size = w.heap.size + 6 := by rw [← hw3, setRow_size]; omega
    have hm3 : w3.os = w2.os ∧ w3.tape = w2.tape ∧ w3.output = w2.output := by rw [← hw3]; exact ⟨rfl, rfl, rfl⟩
    have q0 : w3.cell? ⟨w.heap.size + 1, 0, none⟩ = some (.slice (some ⟨w.heap.size + 3, 0, none⟩) xs.length c1) := by rw [cell_of_row w3 _ _ _ _ (0, 0) hr3]; rfl
    have q1 : w3.cell? ⟨w.heap.size + 1, 1, none⟩ = some (.slice (some ⟨w.heap.size + 5, 0, none⟩) ys.length c2) := by rw [cell_of_row w3 _ _ _ _ (0, 0) hr3]; rfl
    have f1 : w3.ownsRow w.heap.size 2 1 (.slice (some ⟨w.heap.size + 3, 0, none⟩) xs.length c1) xs.length (xs.map (Value.int .i64)) := by
      have h := hC1.own (base := w.heap.size) (by omega)
      rw [hsz, show w.heap.size + 2 + 1 = w.heap.size + 3 by omega] at h
      refine ⟨h.1, h.2.imp id ?_⟩
      rintro ⟨g, cap, cur, e1, e2, e3, e4⟩
      simp only [Value.slice.injEq, Option.some.injEq, Addr.mk.injEq, and_true, true_and] at e1
      obtain ⟨rfl, rfl⟩ := e1
      exact ⟨_, _, cur, rfl, e2, by rw [ho3 _ (by omega), hC2.old _ (by omega)]; exact e3, e4⟩
    have f2 : w3.ownsRow w.heap.size 2 1 (.slice (some ⟨w.heap.size + 5, 0, none⟩) ys.length c2) ys.length (ys.map (Value.int .i64)) := by
      have h := hC2.own (base := w.heap.size) (by omega)
      rw [show w1.heap.size + 1 = w.heap.size + 5 by omega] at h
      refine ⟨h.1, h.2.imp id ?_⟩
      rintro ⟨g, cap, cur, e1, e2, e3, e4⟩
      simp only [Value.slice.injEq, Option.some.injEq, Addr.mk.injEq, and_true, true_and] at e1
      obtain ⟨rfl, rfl⟩ := e1
      exact ⟨_, _, cur, rfl, e2, by rw [ho3 _ (by omega)]; exact e3, e4⟩
    have fB : Below w.heap.size w w3 := ⟨by rw [hm3.1, hC2.os, hC1.os, hWo.1], by rw [hm3.2.1, hC2.tape, hC1.tape, hWo.2.1], by rw [hm3.2.2, hC2.output, hC1.output, hWo.2.2], by omega, fun b hb => by rw [ho3 b (by omega), hC2.old b (by omega), hC1.old b (by omega)]; exact hold b hb⟩
    have HF := hid (And.intro f1 (And.intro f2 (And.intro (⟨_, hr3⟩ : ∃ cur, w3.heap[w.heap.size + 1]? = some (.cells cur 35 (0, 0))) fB)))
    clear f1 f2 fB hr3 hw3 hC1 hC2 hrow
    obtain ⟨tm, df⟩ := a'
    simp only at hd h2
    subst hd
    clear ho3 hz3 hm3 hs1 hs2 hp mv hb1 hb2 hold hsz hWo
    go_wp2
    refine bodyPost_ret (v := .agg #[.slice (some ⟨w.heap.size + 3, 0, none⟩) xs.length c1, .slice (some ⟨w.heap.size + 5, 0, none⟩) ys.length c2]) (by simp only [results, Try.results57]; go_simp) rfl ?_
    exact ⟨c1, c2, rfl, HF.out⟩
  · exact ⟨rfl, rfl, rfl, rfl, by omega, by omega, by omega, fun _ => rfl, by omega, by omega⟩
theorem k_impl_cloneBoardB [B : Base] : ConOk Try.prog 57 c_impl_cloneBoardB := by
  refine ⟨⟨_, _, Try.func57, by kernel_rfl, codeB_eq⟩, ?_⟩
  rintro z O w args ⟨⟨xs, ys⟩, ⟨⟩⟩ bs hold hnew hO hO2 hbs hA hpre
  obtain ⟨v, vs', b1, b2, rfl, rfl, _, ⟨us, hv, rfl, us1, us2, rfl, hr1, hr2⟩, rfl, rfl⟩ := hA
  obtain ⟨⟨x0, x1⟩, y0, y1⟩ := hpre
  simp only at hr1 hr2 x0 x1 y0 y1
  have e1 := hr1.len
  have e2 := hr2.len
  obtain ⟨u1, rfl⟩ : ∃ u, us1 = [u] := List.length_eq_one_iff.1 e1
  obtain ⟨u2, rfl⟩ : ∃ u, us2 = [u] := List.length_eq_one_iff.1 e2
  have hv' : v = .agg #[u1, u2] := by
    rcases hv with ⟨_, h⟩ | ⟨h, _⟩
    · exact h
    · cases h
  subst hv'
  have m : ∀ {u : Value} {zs : List Int}, Rep (false = true ∧ z) (fun b => b ∈ ([] : List Nat) ++ []) w tSI [u] zs → Rep False (fun _ => False) w tSI [u] zs := fun h => h.move (fun k => k.elim) fun b _ _ => ⟨id, rfl⟩
  refine (cloneB_walk (m hr1) (m hr2) (List.length_pos_iff.2 x0) x1 (List.length_pos_iff.2 y0) y1).mono ?_
  rintro e w' ⟨c1, c2, rfl, f1, f2, ⟨cur, f3⟩, fB⟩
  have hsz := fB.size
  have rep : ∀ {zs : List Int} (n : Prop) (P : Nat → Prop) (i : Nat) (x : Int), zs[i]? = some x → Rep n P w' tI (((zs.map (Value.int .i64)).drop (i * TC.n tI)).take (TC.n tI)) x := by
    intro zs n P i x hx
    have hi := (List.getElem?_eq_some_iff.1 hx).1
    simp only [TC.n, Nat.mul_one, Rep]
    rw [List.drop_eq_getElem_cons (by simpa using hi), List.take_succ_cons, List.take_zero]
    have := (List.getElem?_eq_some_iff.1 hx).2
    simp [this]
  refine ⟨[.agg #[.slice (some ⟨w.heap.size + 3, 0, none⟩) xs.length c1, .slice (some ⟨w.heap.size + 5, 0, none⟩) ys.length c2]], [w.heap.size + 3, w.heap.size + 5], rfl, ?_, ?_, ⟨fB.os, fB.tape, fB.output, fB.size, fun b hb _ => fB.block b hb⟩⟩
  · refine ⟨_, [], [w.heap.size + 3, w.heap.size + 5], [], rfl, rfl, by simp, ⟨[.slice (some ⟨w.heap.size + 3, 0, none⟩) xs.length c1, .slice (some ⟨w.heap.size + 5, 0, none⟩) ys.length c2], .inl ⟨rfl, rfl⟩, [_], [_], [w.heap.size + 3], [w.heap.size + 5], rfl, rfl, ?_, ⟨_, _, rfl, f1, ?_, ?_, ?_, rep _ _⟩, ⟨_, _, rfl, f2, ?_, ?_, ?_, rep _ _⟩, fun _ => .inr ⟨w.heap.size + 1, _, _, _, _, rfl, rfl, ?_, cur, _, f3, ?_⟩⟩, rfl, rfl⟩
    · intro b h1 h2
      simp only [List.mem_singleton] at h1 h2
      omega
    · show xs.length ≤ LB
      unfold LB; omega
    · intro b h; simp only [blkOf, Option.some.injEq] at h; simp [h]
    · intro b h; simp only [List.mem_singleton] at h; simp [blkOf, h]
    · show ys.length ≤ LB
      unfold LB; omega
    · intro b h; simp only [blkOf, Option.some.injEq] at h; simp [h]
    · intro b h; simp only [List.mem_singleton] at h; simp [blkOf, h]
    · rintro (h | h)
      · have := hO _ h; omega
      · simp at h
    · decide
  · exact ⟨_, [], rfl, ⟨_, .inl ⟨rfl, rfl⟩, rfl, trivial⟩, trivial⟩
end Go.Proofs.Ytgbfcjnkohhfoaa
