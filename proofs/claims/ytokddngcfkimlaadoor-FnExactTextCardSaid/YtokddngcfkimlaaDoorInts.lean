/-
  Slices of int64 in memory, and the contracts of the laws' own copy and comparison of such slices; sizes up to 2^20 elements.
-/
import Derived.Test.YtokddngcfkimlaaDoorIn
namespace Go.Proofs.YtokddngcfkimlaaDoor
open Go.RowKit

/-- the slice value v has the elements zs in the world w -/
def IntsAt (w : World) (v : Value) (zs : List Int) : Prop :=
  ∃ a cap, v = .slice a zs.length cap ∧ zs.length ≤ 1048576 ∧ (zs = [] ∨ ∃ b off, a = some ⟨b, off, none⟩ ∧ ∀ i, i < zs.length → w.cell? ⟨b, off + i, none⟩ = some (.int .i64 (zs.getD i 0)))

def I64 (n : Int) : Prop := -9223372036854775808 ≤ n ∧ n ≤ 9223372036854775807
theorem I64.bd {n : Int} (h : I64 n) : -9223372036854775808 ≤ n ∧ n ≤ 9223372036854775807 := h
theorem I64.of_wf {n : Int} (h : (Lit.int .i64 n).wf = true) : I64 n := by
  simpa [Lit.wf, IntKind.min, IntKind.max, IntKind.signed, IntKind.bits, I64] using h
def I64s (zs : List Int) : Prop := ∀ i, I64 (zs.getD i 0)
theorem I64s.at {zs : List Int} (h : I64s zs) (i : Nat) : -9223372036854775808 ≤ zs.getD i 0 ∧ zs.getD i 0 ≤ 9223372036854775807 := h i

theorem cell_block {w : World} {b o : Nat} {v : Value} (h : w.cell? ⟨b, o, none⟩ = some v) : b < w.heap.size := by
  unfold World.cell? at h
  split at h
  · next hh => exact (Array.getElem?_eq_some_iff.1 hh).1
  · simp at h

theorem IntsAt.mono {w w1 : World} {v : Value} {zs : List Int} (h : IntsAt w v zs) (hb : Below w.heap.size w w1) : IntsAt w1 v zs := by
  obtain ⟨a, cap, rfl, hm, hz⟩ := h
  refine ⟨a, cap, rfl, hm, hz.imp id ?_⟩
  rintro ⟨b, off, rfl, hc⟩
  exact ⟨b, off, rfl, fun i hi => (hb.cell (p := ⟨b, off + i, none⟩) (cell_block (hc i hi))).trans (hc i hi)⟩
theorem IntsAt.alloc {w : World} {v : Value} {zs : List Int} (h : IntsAt w v zs) (o : Obj) : IntsAt (w.alloc o) v zs := h.mono (xAlloc (Below.refl _ _) o)
theorem IntsAt.drew {w : World} {v : Value} {zs : List Int} (h : IntsAt w v zs) : IntsAt w.drew v zs := h.mono (Below.refl _ _).drew
theorem IntsAt.drewN {w : World} {v : Value} {zs : List Int} (h : IntsAt w v zs) (n : Nat) : IntsAt (w.drewN n) v zs := h.mono (xDrewN (Below.refl _ _) n)
theorem IntsAt.nil (w : World) (cap : Nat) (a : Option Addr) : IntsAt w (.slice a 0 cap) [] := ⟨a, cap, rfl, by decide, .inl rfl⟩

/-- a world that has grown from w -/
structure ExtW (w : World) where
  u : World
  b : Below w.heap.size w u
theorem ExtW.cell {w : World} (x : ExtW w) {a : Addr} {v : Value} (h : w.cell? a = some v) : x.u.cell? a = some v := by
  have hs := World.cell?_spot h
  obtain ⟨b, o, sp⟩ := a
  subst hs
  exact (x.b.cell (p := ⟨b, o, none⟩) (cell_block h)).trans h
/-- a region that draws its order, whose operations read or call what lets old memory be: one walk in the order of the text -/
theorem wp_region_ext {P : Program} {id : Nat} {Q : Exit → Act → World → Prop} {a : Act} {w : World} {l : List Oper} (hm : P.follows .mixedOrders = true) (hB : Region.lexB .any l.toArray = true)
    (h : wpQuiet P l.toArray (fun w' => ∃ x : ExtW w, w' = x.u) (fun a' => ∀ w', (∃ x : ExtW w, w' = x.u) → Q .normal a' w') l a) : (Code.region id l.toArray true).wp P Q a w :=
  wp_region_quiet (C := fun w' => ∃ x : ExtW w, w' = x.u) hm hB ⟨⟨w.drew, (Below.refl _ _).drew⟩, rfl⟩ (by simpa using h)
theorem ext_call {P : Program} {f : FuncId} {args : Array Value} {w : World} {x : ExtW w} {v : Value}
    (h : Calls P f args x.u fun e w' => e = .returned v ∧ Below x.u.heap.size x.u w') : Calls P f args x.u fun e w'' => e = .returned v ∧ ∃ y : ExtW w, w'' = y.u :=
  h.mono fun _ w' ⟨he, hb⟩ => ⟨he, ⟨w', xThen x.b hb⟩, rfl⟩
theorem ext_call0 {P : Program} {f : FuncId} {args : Array Value} {w : World} {x : ExtW w} {v : Value}
    (h : Calls P f args x.u fun e w' => e = .returned v ∧ x.u = w') : Calls P f args x.u fun e w'' => e = .returned v ∧ ∃ y : ExtW w, w'' = y.u :=
  h.mono fun _ _ ⟨he, hb⟩ => ⟨he, x, hb.symm⟩

/-- the cells of a copy after k elements -/
def copied (zs : List Int) (k : Nat) : Array Value := ((zs.take k).map (Value.int .i64) ++ List.replicate (zs.length - k) (Value.int .i64 0)).toArray

theorem copied_zero (zs : List Int) : madeCells #[Value.int .i64 0] zs.length = copied zs 0 := by
  apply Array.ext
  · simp [madeCells, copied]
  · intro i h1 h2
    simp [madeCells, copied, Nat.mod_one]
theorem copied_step (zs : List Int) (k : Nat) (h : k < zs.length) : (copied zs k).setIfInBounds k (.int .i64 (zs.getD k 0)) = copied zs (k + 1) := by
  apply Array.ext
  · simp [copied]; omega
  · intro i h1 h2
    simp [copied] at h1 h2 ⊢
    rw [List.getElem_set]
    split
    · next e =>
      subst e
      rw [List.getElem_append_left (by simp; omega)]
      simp [h]
    · next e =>
      by_cases hlt : i < k
      · rw [List.getElem_append_left (by simp; omega), List.getElem_append_left (by simp; omega)]
        simp
      · rw [List.getElem_append_right (by simp; omega), List.getElem_append_right (by simp; omega)]
        simp
theorem copied_old (zs : List Int) (k : Nat) (h : k < zs.length) : (copied zs k)[k]? = some (.int .i64 0) := by
  simp [copied]
  rw [List.getElem?_append_right (by simp; omega)]
  have : k - min k zs.length < zs.length - k := by omega
  simp [this]
theorem copied_all (zs : List Int) : copied zs zs.length = (zs.map (Value.int .i64)).toArray := by simp [copied]

theorem IntsAt.made (w : World) (zs : List Int) (hm : zs.length ≤ 1048576) (t : TypeId) : IntsAt (w.alloc (.cells (zs.map (Value.int .i64)).toArray t)) (.slice (some ⟨w.heap.size, 0, none⟩) zs.length zs.length) zs := by
  refine ⟨_, _, rfl, hm, .inr ⟨_, _, rfl, fun i hi => ?_⟩⟩
  simp [go_sem]
  simp [hi]

theorem info_int64 : (Tryd.prog.info? 2).map (fun i => (i.zero, i.size, i.bytes)) = some (some (.int .i64 0), 1, 8) := by kernel_rfl

/-- a value kept under a name of its own -/
theorem named {α : Type} (x : α) : ∃ y, Hid (y = x) := ⟨x, rfl⟩

def PreEq (xs ys : List Int) (k : Nat) : Prop := ∀ j, j < k → xs.getD j 0 = ys.getD j 0
theorem PreEq.all {xs ys : List Int} (h : PreEq xs ys xs.length) (hl : xs.length = ys.length) : xs = ys := by
  apply List.ext_getElem hl
  intro i h1 h2
  have := h i h1
  simpa [h1, h2] using this

theorem isRow_ints {w : World} {a : Option Addr} {len cap : Nat} {z : List Int} (h : IsRow .i64 w a len cap z) (hl : len ≤ 1048576) :
    ∃ zs : List Int, zs.length = len ∧ IntsAt w (.slice a len cap) zs ∧ I64s zs := by
  rcases h with ⟨rfl, rfl, rfl, rfl⟩ | ⟨x, rfl, hlc, hm, hz, hcell, hwz⟩
  · exact ⟨[], rfl, IntsAt.nil _ _ _, fun i => by simp [I64]⟩
  · have e : (z.take len).length = len := by simp; omega
    refine ⟨z.take len, e, ⟨some x, cap, by rw [e], by omega, ?_⟩, fun i => ?_⟩
    · by_cases h0 : len = 0
      · exact .inl (by simp [h0])
      · refine .inr ?_
        obtain ⟨b, off, spot⟩ := x
        have hc := hcell 0 (by omega)
        have hspot : spot = none := by simpa [Addr.add] using World.cell?_spot hc
        subst hspot
        refine ⟨b, off, rfl, fun i hi => ?_⟩
        rw [e] at hi
        have := hcell i (by omega)
        have ea : (⟨b, off, none⟩ : Addr).add i = ⟨b, off + i, none⟩ := by
          unfold Addr.add
          split
          · next h => subst h; rfl
          · rfl
        rw [ea] at this
        rw [this]
        simp [hi]
    · by_cases hi : i < len
      · have hi' : i < z.length := by omega
        have := I64.of_wf (hwz z[i] (List.getElem_mem hi'))
        simpa [List.getElem?_take, hi, hi'] using this
      · simp [List.getElem?_take, hi, I64]
end Go.Proofs.YtokddngcfkimlaaDoor
