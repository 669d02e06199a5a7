/-
  Copies of slices and boards, told with where their rows lie: twins.
-/
import Derived.Test.YtgbfcjnkohhfoaaVBoard2
import Derived.Test.YtgbfcjnkohhfoaaSortW
namespace Go.Proofs.Ytgbfcjnkohhfoaa
open Go.RowKit Go.Lib
set_option linter.unusedSimpArgs false
set_option linter.unusedVariables false

/-- an append to an empty row: the result lies in the next block -/
theorem wpList_append_first {P : Program} {w : World} {ops : Array Oper} {rest : List Oper} {o : Oper} {a : Act} {Q : Exit → Act → World → Prop} (hgd : o.guard = none) (s x : Operand) (t : TypeId)
    (ho : o.op = .call { callee := .builtin .append, args := #[s, x], argTypes := #[t, t] })
    (e : TypeId) (i : TypeInfo) (z : Value) (ht : P.underlying t = some (.slice e)) (hi : P.info? e = some i) (hz : i.zero = some z) (hsize : i.size = 1) (hby : i.bytes = 8) (hzs : z.cells.size = 1)
    (b : Addr) (hs : a.eval s = .slice (some b) 0 0)
    (ad : Addr) (m c : Nat) (news : List Value) (hx : a.eval x = .slice (some ad) m c) (hl : news.length = m) (hnews : ∀ j u, news[j]? = some u → w.cell? (ad.add j) = some u)
    (h0 : 0 < m) (hm : m ≤ 1099511627776)
    (h : ∀ cap cur, cur.size = cap → m ≤ cap → cap ≤ maxLen → cur.toList.take m = news → wpList P ops Q rest (a.put o.dst (.slice (some ⟨w.heap.size, 0, none⟩) m cap)) (w.drew.alloc (.cells cur e))) : wpList P ops Q (o :: rest) a w := by
  have hmx : m ≤ maxLen := by unfold maxLen; omega
  have hr := run_append_grow (P := P) w t o.type e i z ht hi hz b 0 0 [] (by simp) (by simp) ad m c news (by rw [hl, hsize]; omega) hnews (by omega) (by omega) (growslice_fits (by omega) (by rw [hby]; omega))
  simp only [Nat.zero_add, List.nil_append] at hr
  refine wpList_plain hgd fun _ hK => ?_
  unfold Oper.wp execOp
  simp only [ho, resolve, invoke, builtin, Sem.run_bind, Sem.run_pure, Result.andThen_ok, List.map_toArray, List.map_cons, List.map_nil, hs, hx, hr]
  refine hK _ _ (h _ _ ?_ (grownCap_ge w m 0 e) (grownCap_le_maxLen w m 0 e hmx) ?_)
  · have := grownCap_ge w m 0 e
    simp only [Array.size_append, List.size_toArray, size_zeroCells, hzs, hl, List.length_nil]
    omega
  · simp only [Array.toList_append, List.append_assoc]
    rw [← hl]
    simp

/-- what a copy leaves behind: the row lies two blocks on -/
structure Copied (w : World) (zs : List Int) (cap : Nat) (w' : World) : Prop where
  size : w'.heap.size = w.heap.size + 2
  row : ∃ cur, w'.heap[w.heap.size + 1]? = some (.cells cur 2 (0, 0)) ∧ cur.size = cap ∧ cur.toList.take zs.length = zs.map (Value.int .i64)
  len : zs.length ≤ cap
  max : cap ≤ maxLen
  old : ∀ b, b < w.heap.size → w'.heap[b]? = w.heap[b]?
  os : w'.os = w.os
  tape : w'.tape = w.tape
  output : w'.output = w.output
theorem Copied.own {w w' : World} {zs : List Int} {cap : Nat} (h : Copied w zs cap w') {base : Nat} (hb : base ≤ w.heap.size + 1) : w'.ownsRow base 2 1 (.slice (some ⟨w.heap.size + 1, 0, none⟩) zs.length cap) zs.length (zs.map (Value.int .i64)) := by
  obtain ⟨cur, h1, h2, h3⟩ := h.row
  exact ⟨by simp, .inr ⟨_, cap, cur, rfl, hb, h1, h.len, h.max, by omega, by simpa using h3⟩⟩

theorem info_i64 : (Try.prog.info? 2).map (fun i => (i.zero, i.size, i.bytes)) = some (some (.int .i64 0), 1, 8) := by kernel_rfl

set_option maxHeartbeats 1000000 in
theorem clone_at (b off cap : Nat) (zs : List Int) (w : World) (h0 : 0 < zs.length) (hm : zs.length ≤ 1099511627776) (hc : ∀ (i : Nat) (x : Int), zs[i]? = some x → w.cell? ⟨b, off + i, none⟩ = some (.int .i64 x)) :
    Calls Try.prog 85 #[.slice (some ⟨b, off, none⟩) zs.length cap] w fun e w' => ∃ cap', e = .returned (.slice (some ⟨w.heap.size + 1, 0, none⟩) zs.length cap') ∧ Copied w zs cap' w' := by
  obtain ⟨i0, hi, hz0, hz1, hz2⟩ := info_parts info_i64
  have HC := hid hc
  clear hc
  have qq : ∀ (w : World) (a : Option Addr) (n c n' c' : Nat), (binOp .eql 24 (.slice a n c) (.slice none n' c')).run Try.prog w = .ok (.bool a.isNone) w := fun w a n c n' c' => Lib.run_eql_slice_nil w _ _ a n c n' c' Try.underlying24
  go_enter Try.func85, Try.ntmps85
  go_wp2_with (at_builtin; refine wpList_append_first rfl _ _ 24 rfl 2 i0 (.int .i64 0) Try.underlying24 hi hz0 hz1 hz2 rfl ⟨w.heap.size, 0, none⟩ rfl ⟨b, off, none⟩ zs.length cap (zs.map (Value.int .i64)) rfl ?qc1 ?qc2 ?qc3 ?qc4 ?_)
  case qc1 => simp
  case qc2 =>
    intro j u hj
    rw [Addr.add_lit]
    refine Lib.cell?_alloc_some _ ?_
    obtain ⟨x, hx, rfl⟩ := List.mem_map.1 (List.mem_of_getElem? hj) |> fun _ => (by
      rw [List.getElem?_map, Option.map_eq_some_iff] at hj; exact hj : ∃ x, zs[j]? = some x ∧ Value.int .i64 x = u)
    exact HC.out j x hx
  case qc3 => exact h0
  case qc4 => exact hm
  intro cap' cur h1 h2 h3 h4
  go_wp2
  go_ret
  refine ⟨cap', by simp, ⟨by simp, ⟨cur, ?_, h1, h4⟩, h2, h3, fun b hb => ?_, rfl, rfl, rfl⟩⟩
  · have := heap_alloc_new (w.alloc (.cells #[] 2)) (.cells cur 2)
    have e : (w.alloc (.cells #[] 2)).heap.size = w.heap.size + 1 := by simp
    rw [e] at this
    exact this
  · show ((w.alloc _).alloc _).heap[b]? = _
    rw [Below.heap_alloc _ _ b (by simp; omega)]
    exact Below.heap_alloc w _ b hb
end Go.Proofs.Ytgbfcjnkohhfoaa
