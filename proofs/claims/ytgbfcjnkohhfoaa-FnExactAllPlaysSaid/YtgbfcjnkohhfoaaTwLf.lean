/-
  Whole rows of flat data (leaves): taken as slices of one's own, marked one at a time.
-/
import Derived.Test.YtgbfcjnkohhfoaaVApS
namespace Go.Proofs.Ytgbfcjnkohhfoaa
open Go.RowKit
set_option linter.unusedVariables false

def leafB (v : Value) : Nat → Prop := fun b => blkOf v ≠ some b
/-- a row of flat data in a block of its own -/
def LeafT (t : TC) (w : World) (v : Value) (xs : List t.D) : Prop := Rep True (leafB v) w (.sl t) [v] xs
theorem leafT_of {t : TC} (hn : t.nsl = 0) {O : Nat → Prop} {w : World} {v : Value} {xs : List t.D} (h : Rep True O w (.sl t) [v] xs) : LeafT t w v xs ∧ ∀ b, blkOf v = some b → ¬ O b := by
  obtain ⟨a, cap, hv, h1, h2, h3, h4, h5⟩ := h
  simp only [List.cons.injEq, and_true] at hv
  subst hv
  rcases h4 trivial rfl with rfl | ⟨b, rfl, hb, hW⟩
  · have hx : xs = [] := by rcases h5 with h | ⟨b, off, h, _⟩; exact h; cases h
    subst hx
    exact ⟨⟨none, cap, rfl, h1, h2, h3, fun _ _ => .inl rfl, .inl rfl⟩, by simp [blkOf]⟩
  · have hnb : ¬ leafB (.slice (some ⟨b, 0, none⟩) xs.length cap) b := fun h => h rfl
    refine ⟨⟨_, cap, rfl, h1, h2, by simp, fun _ _ => .inr ⟨b, rfl, hnb, hW⟩, ?_⟩, fun b' h => ?_⟩
    · rcases h5 with h | ⟨b', off, e, _, hc⟩
      · exact .inl h
      · simp only [Option.some.injEq, Addr.mk.injEq, and_true] at e
        obtain ⟨rfl, rfl⟩ := e
        refine .inr ⟨b, 0, rfl, hnb, fun i x hx => ?_⟩
        obtain ⟨us, u1, u2, u3⟩ := hc i x hx
        exact ⟨us, u1, u2, u3.flat hn⟩
    · simp only [blkOf, Option.some.injEq] at h; subst h; exact hb
theorem LeafT.move {t : TC} {w w' : World} {v : Value} {xs : List t.D} (h : LeafT t w v xs) (hh : ∀ b, blkOf v = some b → w'.heap[b]? = w.heap[b]?) : LeafT t w' v xs :=
  Rep.move id (fun b _ hn => ⟨hn, hh b (Decidable.not_not.1 hn)⟩) h
theorem LeafT.rep {t : TC} {O : Nat → Prop} {w : World} {v : Value} {xs : List t.D} (h : LeafT t w v xs) (hO : ∀ b, blkOf v = some b → ¬ O b) : Rep True O w (.sl t) [v] xs :=
  Rep.move id (fun b _ hn => ⟨hO b (Decidable.not_not.1 hn), rfl⟩) h
theorem LeafT.lt {t : TC} {w : World} {v : Value} {xs : List t.D} (h : LeafT t w v xs) {b : Nat} (hb : blkOf v = some b) : ∃ cur e cap, v = .slice (some ⟨b, 0, none⟩) xs.length cap ∧ w.heap[b]? = some (.cells cur e (0, 0)) ∧ (isI64 t = true → e = 2) ∧ (isI64 t = false → e ≠ 2) ∧ (isStep t = true → e = stepTy) ∧ (isStep t = false → e ≠ stepTy) := by
  obtain ⟨a, cap, hv, _, _, _, h4, _⟩ := h
  simp only [List.cons.injEq, and_true] at hv
  subst hv
  rcases h4 trivial rfl with rfl | ⟨b', rfl, _, _, cur, e, hg, _, he⟩
  · simp [blkOf] at hb
  · simp only [blkOf, Option.some.injEq] at hb; subst hb; exact ⟨cur, e, cap, rfl, hg, he⟩
theorem row_part {t : TC} {cur : Array Value} {n i : Nat} {us : List Value} (hl : us.length = t.n) (hi : i < n) (h : ∀ (j : Nat) (v : Value), us[j]? = some v → cur[i * t.n + j]? = some v) : ((cur.toList.take (n * t.n)).drop (i * t.n)).take t.n = us := by
  refine List.ext_getElem? fun j => ?_
  rw [List.getElem?_take, List.getElem?_drop, List.getElem?_take]
  by_cases hj : j < t.n
  · have hlt : i * t.n + j < n * t.n := by
      have := Nat.mul_le_mul_right t.n (show i + 1 ≤ n by omega)
      rw [Nat.add_mul] at this; omega
    rw [if_pos hj, if_pos hlt, List.getElem?_eq_getElem (by omega : j < us.length)]
    have := h j _ (List.getElem?_eq_getElem (by omega : j < us.length))
    simpa using this
  · rw [if_neg hj, List.getElem?_eq_none (by omega)]
/-- a leaf as a slice of one's own -/
theorem LeafT.own {t : TC} (hn : t.nsl = 0) {e : Nat} (he : ∀ e', (isI64 t = true → e' = 2) ∧ (isI64 t = false → e' ≠ 2) ∧ (isStep t = true → e' = stepTy) ∧ (isStep t = false → e' ≠ stepTy) → e' = e) {w : World} {v : Value} {xs : List t.D} (h : LeafT t w v xs) :
    ∃ (cs : List Value) (bs : List Nat), w.ownsRow 0 e t.n v xs.length cs ∧ xs.length ≤ LB ∧ (∀ b, blkOf v = some b → b ∈ bs) ∧ (∀ b, b ∈ bs → blkOf v = some b) ∧
      ∀ (z : Prop) (O : Nat → Prop) (i : Nat) (x : t.D), xs[i]? = some x → Rep z O w t ((cs.drop (i * t.n)).take t.n) x := by
  obtain ⟨a, cap, hv, h1, h2, h3, h4, h5⟩ := h
  simp only [List.cons.injEq, and_true] at hv
  subst hv
  rcases h4 trivial rfl with rfl | ⟨b, rfl, hb, hcm, cur, e', hg, hcs, hee⟩
  · have hc0 := h3 rfl
    have hx : xs = [] := List.eq_nil_of_length_eq_zero (by omega)
    subst hx
    subst hc0
    exact ⟨[], [], World.ownsRow_nil w _ _ _, h2, by simp [blkOf], by simp, by simp⟩
  · obtain rfl := he e' hee
    have hmul := Nat.mul_le_mul_right t.n h1
    refine ⟨cur.toList.take (xs.length * t.n), [b], ⟨by simp; omega, .inr ⟨b, cap, cur, rfl, Nat.zero_le _, hg, h1, hcm, hcs, rfl⟩⟩, h2, by simp [blkOf], by simp [blkOf], fun z O i x hx => ?_⟩
    have hi : i < xs.length := (List.getElem?_eq_some_iff.1 hx).1
    rcases h5 with rfl | ⟨b', off, e1, _, hc⟩
    · simp at hi
    · simp only [Option.some.injEq, Addr.mk.injEq, and_true] at e1
      obtain ⟨rfl, rfl⟩ := e1
      obtain ⟨us, hul, hcell, hr⟩ := hc i x hx
      rw [row_part hul hi fun j u hj => by
        have := hcell j u hj
        rw [cell_of_row w b _ cur _ (0, 0) hg, Nat.zero_add] at this
        exact this]
      exact hr.flat hn
/-- a slice of one's own as a leaf -/
theorem leafT_own {t : TC} {e : Nat} (he : (isI64 t = true → e = 2) ∧ (isI64 t = false → e ≠ 2) ∧ (isStep t = true → e = stepTy) ∧ (isStep t = false → e ≠ stepTy)) {w : World} {v : Value} {xs : List t.D} {cs : List Value} (h : w.ownsRow 0 e t.n v xs.length cs) (hl : xs.length ≤ LB)
    (hc : ∀ (i : Nat) (x : t.D), xs[i]? = some x → Rep True (leafB v) w t ((cs.drop (i * t.n)).take t.n) x) : LeafT t w v xs := by
  have hown := h
  rcases h.2 with ⟨rfl, h0⟩ | ⟨g, cap, cur, rfl, _, hg, hnc, hcm, hcs, hcur⟩
  · have : xs = [] := List.eq_nil_of_length_eq_zero h0
    subst this
    exact ⟨none, 0, rfl, by simp, hl, by simp, fun _ _ => .inl rfl, .inl rfl⟩
  · have hnb : ¬ leafB (.slice (some ⟨g, 0, none⟩) xs.length cap) g := fun h => h rfl
    refine ⟨_, cap, rfl, hnc, hl, by simp, fun _ _ => .inr ⟨g, rfl, hnb, hcm, cur, _, hg, hcs, he⟩, .inr ⟨g, 0, rfl, hnb, fun i x hx => ⟨_, (hc i x hx).len, fun j u hu => ?_, hc i x hx⟩⟩⟩
    have hi : i < xs.length := (List.getElem?_eq_some_iff.1 hx).1
    rw [List.getElem?_take, List.getElem?_drop] at hu
    split at hu
    · next hj =>
      rw [cell_of_row w g _ cur _ (0, 0) hg, Nat.zero_add]
      rw [← hcur, List.getElem?_take] at hu
      split at hu
      · simpa using hu
      · cases hu
    · cases hu
/-- rows in one block hold the same -/
theorem cells_same {w : World} {z z' : Prop} {O O' : Nat → Prop} : ∀ {t : TC} {us : List Value} {x y : t.D}, t.nsl = 0 → Rep z O w t us x → Rep z' O' w t us y → x = y
  | .i _, _, x, y, _, h, k => by simp only [Rep] at h k; rw [h] at k; simpa using k
  | .b, _, x, y, _, h, k => by simp only [Rep] at h k; rw [h] at k; simpa using k
  | .s, _, x, y, _, h, k => by simp only [Rep] at h k; rw [h] at k; simpa using k
  | .sl _, _, _, _, hn, _, _ => by simp [TC.nsl] at hn
  | .tw _ _, _, _, _, hn, _, _ => by simp [TC.nsl] at hn
  | .pr t u, _, x, y, hn, h, k => by
    simp only [TC.nsl] at hn
    obtain ⟨a, b, rfl, h1, h2⟩ := h
    obtain ⟨a', b', e, k1, k2⟩ := k
    obtain ⟨rfl, rfl⟩ := List.append_inj e (by rw [h1.len, k1.len])
    exact Prod.ext (cells_same (by omega) h1 k1) (cells_same (by omega) h2 k2)
theorem leafT_same {t : TC} (hn : t.nsl = 0) {e : Nat} (he : ∀ e', (isI64 t = true → e' = 2) ∧ (isI64 t = false → e' ≠ 2) ∧ (isStep t = true → e' = stepTy) ∧ (isStep t = false → e' ≠ stepTy) → e' = e) {w : World} {v1 v2 : Value} {x1 x2 : List t.D} {b : Nat} (h1 : LeafT t w v1 x1) (h2 : LeafT t w v2 x2) (hl : x1.length = x2.length) (b1 : blkOf v1 = some b) (b2 : blkOf v2 = some b) : x1 = x2 := by
  obtain ⟨c1, _, g1, _, _, _, g6⟩ := h1.own hn he
  obtain ⟨c2, _, k1, _, _, _, k6⟩ := h2.own hn he
  have hc : c1 = c2 := by
    rcases g1.2 with ⟨rfl, _⟩ | ⟨g, cap, cur, rfl, _, hg, _, _, _, r1⟩
    · simp [blkOf] at b1
    rcases k1.2 with ⟨rfl, _⟩ | ⟨g', cap', cur', rfl, _, hg', _, _, _, r2⟩
    · simp [blkOf] at b2
    simp only [blkOf, Option.some.injEq] at b1 b2
    subst b1; subst b2
    rw [hg] at hg'
    simp only [Option.some.injEq, Obj.cells.injEq] at hg'
    obtain ⟨rfl, _⟩ := hg'
    rw [← r1, ← r2, hl]
  subst hc
  refine List.ext_getElem? fun i => ?_
  by_cases hi : i < x1.length
  · have e1 := g6 True (fun _ => False) i x1[i] (List.getElem?_eq_getElem hi)
    have e2 := k6 True (fun _ => False) i x2[i] (List.getElem?_eq_getElem (by omega))
    rw [List.getElem?_eq_getElem hi, List.getElem?_eq_getElem (by omega), cells_same hn e1 e2]
  · rw [List.getElem?_eq_none (by omega), List.getElem?_eq_none (by omega)]
theorem he64 (e' : Nat) (h : (isI64 tI = true → e' = 2) ∧ (isI64 tI = false → e' ≠ 2) ∧ (isStep tI = true → e' = stepTy) ∧ (isStep tI = false → e' ≠ stepTy)) : e' = 2 := h.1 rfl
theorem heSt (e' : Nat) (h : (isI64 tStep = true → e' = 2) ∧ (isI64 tStep = false → e' ≠ 2) ∧ (isStep tStep = true → e' = stepTy) ∧ (isStep tStep = false → e' ≠ stepTy)) : e' = 90 := h.2.2.1 rfl
theorem oe64 : (isI64 tI = true → 2 = 2) ∧ (isI64 tI = false → 2 ≠ 2) ∧ (isStep tI = true → 2 = stepTy) ∧ (isStep tI = false → 2 ≠ stepTy) := ⟨fun _ => rfl, (by intro h; cases h), (by intro h; cases h), fun _ => by decide⟩
theorem oeSt : (isI64 tStep = true → 90 = 2) ∧ (isI64 tStep = false → 90 ≠ 2) ∧ (isStep tStep = true → 90 = stepTy) ∧ (isStep tStep = false → 90 ≠ stepTy) := ⟨(by intro h; cases h), fun _ => by decide, fun _ => rfl, (by intro h; cases h)⟩
theorem valC_one {us : List Value} {u v : Value} (h : ValC false us v) (hu : us = [u]) : v = u := by
  rcases h with ⟨h, _⟩ | ⟨_, h⟩
  · cases h
  · rw [hu] at h; simpa using h.symm
/-- one leaf is marked -/
theorem mark_leaf [B : Base] {P : Program} {f : Nat} {t : TC} {e : Nat} (hn : t.nsl = 0) (he : ∀ e', (isI64 t = true → e' = 2) ∧ (isI64 t = false → e' ≠ 2) ∧ (isStep t = true → e' = stepTy) ∧ (isStep t = false → e' ≠ stepTy) → e' = e) (he2 : (isI64 t = true → e = 2) ∧ (isI64 t = false → e ≠ 2) ∧ (isStep t = true → e = stepTy) ∧ (isStep t = false → e ≠ stepTy))
    {pre : HI [(false, IT.own e t), (false, .v tI)] → Prop} {out : HI [(false, IT.own e t), (false, .v tI)] → HO [(false, OT.v tI)]} {upd : HI [(false, IT.own e t), (false, .v tI)] → HI [(false, IT.own e t), (false, .v tI)]}
    (hk : ConOk P f ⟨[(false, .own e t), (false, .v tI)], [(false, .v tI)], false, pre, out, upd, false⟩) {w : World} {v : Value} {xs : List t.D} (h : LeafT t w v xs) (hold : OldOk w) (hb : ∀ b, blkOf v = some b → B.W.heap.size ≤ b) {k : Int} (hp : pre (xs, k, ())) (hu : (upd (xs, k, ())).1.length = xs.length) :
    Calls P f #[v, .int .i64 k] w fun e w' => e = .returned (.int .i64 (out (xs, k, ())).1) ∧ LeafT t w' v (upd (xs, k, ())).1 ∧ BelowM (fun b => blkOf v = some b) w w' := by
  obtain ⟨cs, bs, g1, g2, g3, g4, g5⟩ := h.own hn he
  have hlt : ∀ b, b ∈ bs → b < w.heap.size := fun b hb => by
    have e := g4 b hb
    rcases g1.2 with ⟨rfl, _⟩ | ⟨g, cap, cur, rfl, _, hg, _⟩
    · simp [blkOf] at e
    · simp only [blkOf, Option.some.injEq] at e; subst e; exact (Array.getElem?_eq_some_iff.1 hg).1
  refine (hk.2 True (fun b => b < w.heap.size) w [v, .int .i64 k] (xs, k, ()) bs hold (fun b hm => hb b (g4 b hm)) (fun b h => h) (fun _ b h => h) hlt ?_ hp).mono ?_
  · exact ⟨v, [.int .i64 k], bs, [], rfl, by simp, by simp, ⟨[v], .inr ⟨rfl, rfl⟩, v, cs, rfl, g1, g2, g3, g4, fun i x hx => g5 _ _ i x hx⟩, .int .i64 k, [], [], [], rfl, rfl, by simp, ⟨[.int .i64 k], .inr ⟨rfl, rfl⟩, rfl, by simp only [Rep]⟩, rfl, rfl⟩
  · rintro e w' ⟨vs, bs', rfl, hR, hV, hB⟩
    obtain ⟨u, vs', b1, b2, rfl, _, _, ⟨us, hu', _, hr⟩, rfl, _⟩ := hR
    simp only [Rep] at hr
    obtain rfl := valC_one hu' hr
    refine ⟨rfl, ?_, ⟨hB.os, hB.tape, hB.output, hB.size, fun b hlt hn => hB.block b hlt fun hm => hn (g4 b hm)⟩⟩
    obtain ⟨v', vs'', e1, ⟨us', hv', _, v3, cs', e3, q1, q2⟩, _⟩ := hV
    simp only [List.cons.injEq] at e1
    obtain ⟨rfl, -⟩ := e1
    obtain rfl := valC_one hv' e3
    exact leafT_own he2 q1 (by rw [hu]; exact g2) fun i x hx => (q2 i x hx).flat hn
theorem mark_ints [B : Base] {w : World} {v : Value} {xs : List Int} (h : LeafT tI w v xs) (hold : OldOk w) (hb : ∀ b, blkOf v = some b → B.W.heap.size ≤ b) {k : Int} (k0 : 0 ≤ k) (k1 : k ≤ 1099511627776) (hx : xs.length ≤ 1099511627776) :
    Calls Try.prog 29 #[v, .int .i64 k] w fun e w' => e = .returned (.int .i64 (k + (xs.length : Int))) ∧ LeafT tI w' v (markL k xs.length) ∧ BelowM (fun b => blkOf v = some b) w w' :=
  mark_leaf (t := tI) rfl he64 oe64 k_laws_markInt64S h hold hb ⟨k0, k1, hx⟩ (markL_length ..)
theorem mark_steps [B : Base] {w : World} {v : Value} {xs : List DStep} (h : LeafT tStep w v xs) (hold : OldOk w) (hb : ∀ b, blkOf v = some b → B.W.heap.size ≤ b) {k : Int} (k0 : 0 ≤ k) (k1 : k ≤ 1099511627776) (hx : xs.length ≤ 1099511627776) :
    Calls Try.prog 30 #[v, .int .i64 k] w fun e w' => e = .returned (.int .i64 (k + 4 * (xs.length : Int))) ∧ LeafT tStep w' v (markS k xs.length) ∧ BelowM (fun b => blkOf v = some b) w w' :=
  mark_leaf (t := tStep) rfl heSt oeSt k_laws_markStepS h hold hb ⟨k0, k1, hx⟩ (markS_length ..)
end Go.Proofs.Ytgbfcjnkohhfoaa
