/-
  The contract of sortedPositions: the list that is handed over becomes the sorted list that holds each of its positions once.
-/
import Derived.Test.YtoobijimfccfgaaCompW
import Derived.Test.YtoobijimfccfgaaSh
import Derived.Deep.Slices
namespace Go.Proofs.Ytoobijimfccfgaa
open Go.RowKit Go.Lib Go.Sort Go.Deep

/-- the cells of a position of n places -/
abbrev PosA (z : Prop) (O : Nat → Prop) (w : World) (n : Nat) := {c : Value × List Int // Rep z O w tSI [c.1] c.2 ∧ c.2.length = n ∧ ∀ j, 0 ≤ c.2.getD j 0 ∧ c.2.getD j 0 ≤ 100}
theorem pos_cells {z : Prop} {O : Nat → Prop} {w : World} {n : Nat} (hn : 0 < n) (x : PosA z O w n) : ∃ b o c, x.1.1 = .slice (some ⟨b, o, none⟩) n c ∧ ¬ O b ∧ b < w.heap.size ∧ CellsI w b o x.1.2 := by
  obtain ⟨⟨v, zs⟩, hr, hl, _⟩ := x
  simp only at hl
  subst hl
  obtain ⟨a, cap, hv, _, _, _, _, h⟩ := hr
  simp only [List.cons.injEq, and_true] at hv
  subst hv
  rcases h with h0 | ⟨b, off, rfl, hO, hc⟩
  · have : zs = [] := h0
    rw [this] at hn; simp at hn
  · have hcell : CellsI w b off zs := fun j hj => by
      obtain ⟨us, _, h2, h3⟩ := hc j zs[j] (List.getElem?_eq_getElem hj)
      have : us = [.int .i64 zs[j]] := h3
      subst this
      have := h2 0 _ rfl
      simp only [TC.n, Nat.mul_one, Nat.add_zero] at this
      rw [this, List.getD_eq_getElem?_getD, List.getElem?_eq_getElem hj]; rfl
    exact ⟨b, off, cap, rfl, hO, cell_lt (hcell 0 hn), hcell⟩
theorem CellsI.of_heap {w w' : World} {b o : Nat} {zs : List Int} (h : CellsI w b o zs) (hh : w'.heap[b]? = w.heap[b]?) : CellsI w' b o zs := fun j hj => by rw [cell_agree hh]; exact h j hj
theorem putRow_heap {α : Type} [Inhabited α] (enc : α → Value) (w : World) (blk off b : Nat) (d : Array α) (h : b ≠ blk) : (putRow enc w blk off d).heap[b]? = w.heap[b]? := by
  simp [putRow, mapBlock, Array.getElem?_modify, Ne.symm h]
theorem sortWorld_heap {α : Type} [Inhabited α] (enc : α → Value) (w : World) (blk off m b : Nat) (d : Array α) (os : Array Obj) (h : b ≠ blk) (hb : b < w.heap.size) : (sortWorld enc w blk off m d os).heap[b]? = w.heap[b]? := by
  unfold sortWorld
  rw [heap_grow_old _ _ (by simpa using hb), putRow_heap enc _ blk off b d h]
  rfl
/-- a value that writes the cells of a block from o on -/
theorem setCells_map (b : Nat) : ∀ (vs : List Value) (o : Nat) (w : World), ∃ F : Array Value → Array Value, w.setCells b o vs = mapBlock w b F ∧ ∀ c, (F c).size = c.size ∧ ∀ i, i < o → (F c)[i]? = c[i]?
  | [], o, w => ⟨fun c => c, (mapBlock_id w b _ fun _ _ _ _ => rfl).symm, fun c => ⟨rfl, fun _ _ => rfl⟩⟩
  | v :: r, o, w => by
    obtain ⟨F, h1, h2⟩ := setCells_map b r (o + 1) (w.setCell ⟨b, o, none⟩ v)
    refine ⟨fun c => F (c.setIfInBounds o v), by rw [World.setCells, h1, setCell_eq, mapBlock_mapBlock], fun c => ⟨by rw [(h2 _).1]; simp, fun i hi => ?_⟩⟩
    rw [(h2 _).2 i (by omega), Array.getElem?_setIfInBounds]
    rw [if_neg (by omega)]

theorem cmp_swo (z : Prop) (O : Nat → Prop) (w : World) (n : Nat) : SWO (ltOf fun (x y : PosA z O w n) => cmpTo x.1.2 y.1.2 n) where
  irrefl x := by simp [ltOf, cmpTo_self]
  trans x y z h1 h2 := by simp only [ltOf, decide_eq_true_eq] at *; exact cmpTo_trans n h1 h2
  ntrans x y z h1 h2 := by simp only [ltOf, decide_eq_false_iff_not] at *; exact cmpTo_ntrans n h1 h2

theorem sortedW (u u' : Value) (R1 R2 : World → Prop) (w : World)
    (hs : Calls Try.prog 79 #[u, .func (.func 80) #[] #[]] w fun e w1 => e = .returned (.tuple #[]) ∧ R1 w1)
    (hc : ∀ w1, R1 w1 → Calls Try.prog 81 #[u, .func (.func 82) #[] #[]] w1 fun e w2 => (∃ k, e = .returned k ∧ k = u') ∧ R2 w2) :
    Calls Try.prog 72 #[u] w fun e w2 => e = .returned u' ∧ R2 w2 := by
  go_enter Try.func72, Try.ntmps72
  go_wp2_with fail
  refine hs.mono ?_
  rintro e w1 ⟨rfl, h1⟩
  go_wp2_with fail
  refine (hc w1 h1).mono ?_
  rintro e w2 ⟨⟨k, rfl, rfl⟩, h2⟩
  go_wp2
  go_ret
  exact ⟨rfl, h2⟩
section
variable {α : Type} [Inhabited α] (val : α → List Int) (n : Nat) (d : Array α)
/-- what CompactFunc keeps of a sorted list: each of its positions once, in order -/
theorem comp_sorted (hl : ∀ x : α, (val x).length = n) (hs : ∀ i j, i < j → j < d.size → ¬ cmpTo (val d[j]!) (val d[i]!) n < 0) : ∀ m, m ≤ d.size →
    SS ((compTo (fun x y => decide (val x = val y)) d m).map val) ∧ (∀ x, x ∈ (compTo (fun x y => decide (val x = val y)) d m).map val ↔ ∃ j, j < m ∧ val d[j]! = x)
  | 0, _ => ⟨List.Pairwise.nil, fun x => by simp [compTo]⟩
  | m + 1, hm => by
    obtain ⟨h1, h2⟩ := comp_sorted hl hs m (by omega)
    rw [compTo_succ]
    cases hk : kpt (fun x y => decide (val x = val y)) d m with
    | false =>
      simp only [Bool.false_eq_true, if_false, List.append_nil]
      refine ⟨h1, fun x => ?_⟩
      rw [h2 x]
      refine ⟨fun ⟨j, hj, e⟩ => ⟨j, by omega, e⟩, fun ⟨j, hj, e⟩ => ?_⟩
      by_cases hjm : j = m
      · subst hjm
        simp only [kpt, Bool.or_eq_false_iff, beq_eq_false_iff_ne, Bool.not_eq_false', decide_eq_true_eq] at hk
        exact ⟨j - 1, by omega, by rw [← hk.2]; exact e⟩
      · exact ⟨j, by omega, e⟩
    | true =>
      simp only [if_true, List.map_append, List.map_cons, List.map_nil]
      refine ⟨List.pairwise_append.2 ⟨h1, by simp, fun a ha b hb => ?_⟩, fun x => ?_⟩
      · rw [List.mem_singleton] at hb
        subst hb
        obtain ⟨j, hj, rfl⟩ := (h2 a).1 ha
        simp only [kpt, Bool.or_eq_true, beq_iff_eq, Bool.not_eq_true', decide_eq_false_iff_not] at hk
        have hne : ¬ val d[m]! = val d[m - 1]! := hk.resolve_left (by omega)
        have k1 := hs (m - 1) m (by omega) (by omega)
        have k2 : cmpTo (val d[m - 1]!) (val d[m]!) n < 0 := by
          apply Decidable.byContradiction
          intro k2
          exact hne (list_ext0 (by rw [hl, hl]) fun j hj => cmpTo_eq n k1 k2 j (by rw [hl] at hj; exact hj))
        simp only [befD, decide_eq_true_eq, hl]
        by_cases hjm : j = m - 1
        · rw [hjm]; exact k2
        · apply Decidable.byContradiction
          intro k3
          exact cmpTo_ntrans n (hs j (m - 1) (by omega) (by omega)) k3 k2
      · rw [List.mem_append, h2 x, List.mem_singleton]
        constructor
        · rintro (⟨j, hj, e⟩ | e)
          · exact ⟨j, by omega, e⟩
          · exact ⟨m, by omega, e.symm⟩
        · rintro ⟨j, hj, e⟩
          by_cases hjm : j = m
          · subst hjm; exact .inr e.symm
          · exact .inl ⟨j, by omega, e⟩
end

theorem mapBlock_heap (w : World) (g b : Nat) (F : Array Value → Array Value) (h : b ≠ g) : (mapBlock w g F).heap[b]? = w.heap[b]? := by
  simp [mapBlock, Array.getElem?_modify, Ne.symm h]
theorem mapBlock_at (w : World) (g : Nat) (F : Array Value → Array Value) {c : Array Value} {e : TypeId} {fz : Nat × Nat} (h : w.heap[g]? = some (.cells c e fz)) : (mapBlock w g F).heap[g]? = some (.cells (F c) e fz) := by
  simp [mapBlock, Array.getElem?_modify, h, onCells]
theorem arr_mem {α : Type} [Inhabited α] (d : Array α) (a : α) : a ∈ d.toList ↔ ∃ j, j < d.size ∧ d[j]! = a := by
  rw [List.mem_iff_getElem?]
  constructor
  · rintro ⟨j, hj⟩
    rw [Array.getElem?_toList] at hj
    obtain ⟨h1, h2⟩ := Array.getElem?_eq_some_iff.1 hj
    exact ⟨j, h1, by rw [getElem!_pos d j h1]; exact h2⟩
  · rintro ⟨j, h1, h2⟩
    exact ⟨j, by rw [Array.getElem?_toList, Array.getElem?_eq_getElem h1, ← h2, getElem!_pos d j h1]⟩

set_option maxHeartbeats 1000000 in
theorem sorted_con {z : Prop} {O : Nat → Prop} {w : World} {g cap e n : Nat} {cur : Array Value} {xs : List (List Int)} {cs : List Value} (hg : w.heap[g]? = some (.cells cur e (0, 0))) (hn : 0 < n) (hx : xs ≠ []) (hcap : xs.length ≤ cap) (hcur : cur.size = cap * 1)
    (hcl : cs.length = xs.length * 1) (hcs : cur.toList.take (xs.length * 1) = cs) (hO : O g) (hel : ∀ (i : Nat) (x : List Int), xs[i]? = some x → Rep z O w tSI ((cs.drop (i * 1)).take 1) x)
    (hpos : ∀ q, q ∈ xs → q.length = n ∧ ∀ j, 0 ≤ q.getD j 0 ∧ q.getD j 0 ≤ 100) (hlen : xs.length ≤ 1099511627776) (hn2 : n < 4611686018427387904) :
    Calls Try.prog 72 #[.slice (some ⟨g, 0, none⟩) xs.length cap] w fun e' w2 => e' = .returned (.slice (some ⟨g, 0, none⟩) (canonD xs).length cap) ∧
      ∃ (cs' : List Value) (cur' : Array Value), w2.heap[g]? = some (.cells cur' e (0, 0)) ∧ cur'.size = cur.size ∧ cur'.toList.take (canonD xs).length = cs' ∧ cs'.length = (canonD xs).length ∧ (canonD xs).length ≤ xs.length ∧
        (∀ (i : Nat) (x : List Int), (canonD xs)[i]? = some x → ∃ c, cs'[i]? = some c ∧ Rep z O w tSI [c] x) ∧ BelowM (fun b => b = g) w w2 := by
  have hq : ∀ i, i < xs.length → ∃ a : PosA z O w n, a.1 = (cs.getD i (.slice none 0 0), xs.getD i []) := fun i hi => by
    have h1 := hel i xs[i] (List.getElem?_eq_getElem hi)
    have e1 : (cs.drop (i * 1)).take 1 = [cs.getD i (.slice none 0 0)] := by
      rw [Nat.mul_one, List.drop_eq_getElem_cons (by omega), List.getD_eq_getElem?_getD, List.getElem?_eq_getElem (by omega)]; rfl
    have e2 : xs.getD i [] = xs[i] := by rw [List.getD_eq_getElem?_getD, List.getElem?_eq_getElem hi]; rfl
    rw [e1] at h1
    have h2 := hpos xs[i] (List.getElem_mem hi)
    exact ⟨⟨(cs.getD i (.slice none 0 0), xs.getD i []), by rw [e2]; exact ⟨h1, h2⟩⟩, rfl⟩
  have hpx : 0 < xs.length := List.length_pos_iff.2 hx
  obtain ⟨a0, -⟩ := hq 0 hpx
  haveI : Inhabited (PosA z O w n) := ⟨a0⟩
  obtain ⟨X, hX⟩ := choose_lt (α := PosA z O w n) hq
  obtain ⟨d, hd⟩ : ∃ d : Array (PosA z O w n), d = ((List.range xs.length).map X).toArray := ⟨_, rfl⟩
  have hds : d.size = xs.length := by rw [hd]; simp
  have hdi : ∀ i, i < xs.length → d[i]! = X i := fun i hi => by rw [getElem!_pos d i (by omega)]; simp [hd]
  obtain ⟨enc, henc⟩ : ∃ enc : PosA z O w n → Value, enc = fun x => x.1.1 := ⟨_, rfl⟩
  have h1 : OneCell enc := fun x => by
    obtain ⟨b, o, c, hb, _⟩ := pos_cells hn x
    rw [henc]; simp only; rw [hb]; rfl
  have hgl : g < w.heap.size := (Array.getElem?_eq_some_iff.1 hg).1
  have hH : Holds enc w g 0 d := fun j hj => by
    rw [hds] at hj
    refine ⟨?_, by simp [World.frozen?, hg]⟩
    rw [hdi j hj, henc]
    simp only [hX j hj, World.cell?, hg, Nat.zero_add, Option.isSome_none, Bool.false_eq_true, if_false]
    have : (cur.toList.take (xs.length * 1))[j]? = cs[j]? := by rw [hcs]
    rw [List.getElem?_take_of_lt (by omega), Array.getElem?_toList] at this
    rw [this, List.getD_eq_getElem?_getD, List.getElem?_eq_getElem (by omega)]; rfl
  -- the comparisons, in every world that has changed in the row alone
  have cells : ∀ (x : PosA z O w n) (W : World), (∀ b, b ≠ g → b < w.heap.size → W.heap[b]? = w.heap[b]?) → ∃ b o c, enc x = .slice (some ⟨b, o, none⟩) x.1.2.length c ∧ CellsI W b o x.1.2 := fun x W hW => by
    obtain ⟨b, o, c, hb, hnO, hbl, hc⟩ := pos_cells hn x
    refine ⟨b, o, c, by rw [henc]; simp only; rw [hb, x.2.2.1], hc.of_heap (hW b (fun e => hnO (e ▸ hO)) hbl)⟩
  have hcmp : ∀ (x y : PosA z O w n) (W : World), (∀ b, b ≠ g → b < w.heap.size → W.heap[b]? = w.heap[b]?) → Calls Try.prog 80 #[enc x, enc y] W fun e w' => e = .returned (.int .i64 (cmpTo x.1.2 y.1.2 n)) ∧ ∃ q, w' = W.drewN q := fun x y W hW => by
    obtain ⟨b1, o1, c1, e1, k1⟩ := cells x W hW
    obtain ⟨b2, o2, c2, e2, k2⟩ := cells y W hW
    have := cmpW b1 o1 c1 b2 o2 c2 x.1.2 y.1.2 W (by rw [x.2.2.1, y.2.2.1]) k1 k2 (by rw [x.2.2.1]; exact hn2) x.2.2.2 y.2.2.2
    rw [← e1, ← e2, x.2.2.1] at this
    exact this
  have heq : ∀ (x y : PosA z O w n) (W : World), (∀ b, b ≠ g → b < w.heap.size → W.heap[b]? = w.heap[b]?) → Calls Try.prog 82 #[enc x, enc y] W fun e w' => e = .returned (.bool (decide (x.1.2 = y.1.2))) ∧ ∃ q, w' = W.drewN q := fun x y W hW => by
    obtain ⟨b1, o1, c1, e1, k1⟩ := cells x W hW
    obtain ⟨b2, o2, c2, e2, k2⟩ := cells y W hW
    have := eqC b1 o1 c1 b2 o2 c2 x.1.2 y.1.2 W (by rw [x.2.2.1, y.2.2.1]) (by rw [x.2.2.1]; exact hn2) k1 k2
    rw [← e1, ← e2] at this
    exact this
  have hs := Any.slices_SortFunc Try.laysSlF6_f61 enc h1 _ (cmp_swo z O w n) 80 #[] g 0 cap d w (enters_of Try.func80 (by kernel_rfl) rfl)
    (CmpReads.lays fun m os dk _ x y => hcmp x y _ fun b h1 h2 => sortWorld_heap enc w g 0 m b dk os h1 h2) hH hgl (by omega)
  change Calls Try.prog 79 _ _ _ at hs
  rw [hds] at hs
  refine sortedW _ _ (fun w1 => ∃ d' k os, PermIn 0 xs.length d d' ∧ SortedIn (ltOf fun (x y : PosA z O w n) => cmpTo x.1.2 y.1.2 n) 0 xs.length d' ∧ w1 = sortWorld enc w g 0 k d' os) _ w hs ?_
  rintro w1 ⟨d', k, os, hp, hso, rfl⟩
  have hds' : d'.size = xs.length := by rw [hp.1, hds]
  have hsame : ∀ b, b ≠ g → b < w.heap.size → (sortWorld enc w g 0 k d' os).heap[b]? = w.heap[b]? := fun b h1 h2 => sortWorld_heap enc w g 0 k b d' os h1 h2
  have hH1 : Holds enc (sortWorld enc w g 0 k d' os) g 0 d' := by
    unfold sortWorld
    exact holds_grow enc _ os g 0 d' (by simpa using hgl) (holds_putRow enc _ g 0 d d' (Go.Sort.holds_ahead enc w k g 0 d hH) (by rw [hds', hds]))
  have hcw := compW enc h1 (fun x y => decide (x.1.2 = y.1.2)) g cap d' (sortWorld enc w g 0 k d' os) hH1 (by omega) (by omega) fun q dk x y _ => heq x y _ fun b h1 h2 => by
    rw [putRow_heap enc _ g 0 b dk h1]; exact hsame b h1 h2
  rw [hds'] at hcw
  have hcomp := comp_sorted (fun x : PosA z O w n => x.1.2) n d' (fun x => x.2.2.1) (fun i j hij hj => by
    have := hso i j (Nat.zero_le _) hij (by omega)
    simpa [ltOf] using this) xs.length (by omega)
  obtain ⟨C, hC⟩ : ∃ C, C = compTo (fun x y : PosA z O w n => decide (x.1.2 = y.1.2)) d' xs.length := ⟨_, rfl⟩
  rw [← hC] at hcw hcomp
  have hcan : C.map (fun x : PosA z O w n => x.1.2) = canonD xs := by
    refine canonD_of (n := n) (fun q hq => (hpos q hq).1) hcomp.1 fun x => ?_
    rw [hcomp.2 x]
    have hperm : ∀ a, a ∈ d'.toList ↔ a ∈ d.toList := fun a => by
      have := hp.2.2.mem_iff (a := a)
      rwa [← hds, show d.extract 0 d.size = d by simp, hds, ← hds', show d'.extract 0 d'.size = d' by simp] at this
    constructor
    · rintro ⟨j, hj, rfl⟩
      obtain ⟨i, hi, e⟩ := (arr_mem d _).1 ((hperm _).1 ((arr_mem d' _).2 ⟨j, by omega, rfl⟩))
      rw [← e, hdi i (by omega), hX i (by omega)]
      simp only
      rw [List.getD_eq_getElem?_getD, List.getElem?_eq_getElem (by omega)]
      exact List.getElem_mem (by omega)
    · intro hx
      obtain ⟨i, hi, e⟩ := List.mem_iff_getElem.1 hx
      obtain ⟨j, hj, e2⟩ := (arr_mem d' _).1 ((hperm _).2 ((arr_mem d (X i)).2 ⟨i, by omega, hdi i hi⟩))
      refine ⟨j, by omega, ?_⟩
      rw [e2, hX i hi, ← e]
      simp only
      rw [List.getD_eq_getElem?_getD, List.getElem?_eq_getElem hi]; rfl
  have hCl : C.length = (canonD xs).length := by rw [← hcan]; simp
  have hCx : C.length ≤ xs.length := by rw [hC]; exact compTo_len _ _ _
  refine hcw.mono ?_
  rintro e' w2 ⟨rfl, zs, hzs, q, dk, hdk, hlow, rfl⟩
  rw [hds', ← hC] at hlow
  refine ⟨⟨_, rfl, by rw [hCl]⟩, C.map enc, ?_⟩
  rw [hds', ← hC]
  obtain ⟨F, hF, hF2⟩ := setCells_map g zs C.length (putRow enc (Go.Sort.ahead (sortWorld enc w g 0 k d' os) q) g 0 dk)
  rw [hF]
  have hw1 : (sortWorld enc w g 0 k d' os).heap[g]? = some (.cells (putCells enc 0 d' cur) e (0, 0)) := by
    unfold sortWorld
    rw [heap_grow_old _ _ (by simpa using hgl)]
    exact mapBlock_at _ g _ hg
  have hw2 : (putRow enc (Go.Sort.ahead (sortWorld enc w g 0 k d' os) q) g 0 dk).heap[g]? = some (.cells (putCells enc 0 dk (putCells enc 0 d' cur)) e (0, 0)) := mapBlock_at _ g _ hw1
  refine ⟨_, mapBlock_at _ g F hw2, by rw [(hF2 _).1]; simp [putCells], ?_, by simp [hCl], by omega, fun i x hi => ?_, ?_⟩
  · rw [← hCl]
    refine List.ext_getElem? fun i => ?_
    by_cases hi : i < C.length
    · rw [List.getElem?_take_of_lt hi, Array.getElem?_toList, (hF2 _).2 i hi]
      have hl := hlow i hi
      rw [List.getElem?_map, hl]
      have : i < dk.size := by rw [hdk, hds']; omega
      simp [putCells, this, show i < cur.size by omega]
    · rw [List.getElem?_eq_none (by simp; omega), List.getElem?_eq_none (by simp; omega)]
  · rw [← hcan, List.getElem?_map] at hi
    obtain ⟨c, hc, rfl⟩ := Option.map_eq_some_iff.1 hi
    exact ⟨enc c, by rw [List.getElem?_map, hc]; rfl, by rw [henc]; exact c.2.1⟩
  · refine ⟨rfl, rfl, rfl, ?_, fun b hb hne => ?_⟩
    · simp [mapBlock, putRow, sortWorld]
    · rw [mapBlock_heap _ g b F hne, putRow_heap enc _ g 0 b dk hne]
      exact hsame b hne hb
end Go.Proofs.Ytoobijimfccfgaa
