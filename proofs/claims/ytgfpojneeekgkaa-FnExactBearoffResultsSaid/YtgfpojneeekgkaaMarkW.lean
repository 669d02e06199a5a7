/-
  The walk of markInt64SS: rows of numbers in blocks of their own are marked one after the other.
-/
import Derived.Test.YtgfpojneeekgkaaVBrS
namespace Go.Proofs.Ytgfpojneeekgkaa
open Go.RowKit

def leafB (v : Value) : Nat → Prop := fun b => blkOf v ≠ some b
/-- a row of numbers in a block of its own -/
def LeafAt (w : World) (v : Value) (xs : List Int) : Prop := Rep True (leafB v) w (.sl (.i .i64)) [v] xs
theorem leafAt_of {O : Nat → Prop} {w : World} {v : Value} {xs : List Int} (h : Rep True O w (.sl (.i .i64)) [v] xs) : LeafAt w v xs ∧ ∀ b, blkOf v = some b → ¬ O b := by
  obtain ⟨a, cap, hv, h1, h2, h3, h4, h5⟩ := h
  simp only [List.cons.injEq, and_true] at hv
  subst hv
  rcases h4 trivial rfl with rfl | ⟨b, rfl, hb, hW⟩
  · have hx : xs = [] := by rcases h5 with h | ⟨b, off, h, _⟩; exact h; cases h
    subst hx
    exact ⟨⟨none, cap, rfl, h1, h2, h3, fun _ _ => .inl rfl, .inl rfl⟩, by simp [blkOf]⟩
  · have hnb : ¬ leafB (.slice (some ⟨b, 0, none⟩) xs.length cap) b := fun h => h rfl
    refine ⟨⟨_, cap, rfl, h1, h2, by simp, fun _ _ => .inr ⟨b, rfl, hnb, hW⟩, ?_⟩, fun b' h => ?_⟩
    · rcases h5 with h | ⟨b', off, e, _, hc⟩
      · exact .inl h
      · simp only [Option.some.injEq, Addr.mk.injEq, and_true] at e
        obtain ⟨rfl, rfl⟩ := e
        refine .inr ⟨b, 0, rfl, hnb, fun i x hx => ?_⟩
        obtain ⟨us, u1, u2, u3⟩ := hc i x hx
        exact ⟨us, u1, u2, by simpa only [Rep] using u3⟩
    · simp only [blkOf, Option.some.injEq] at h; subst h; exact hb
theorem LeafAt.move {w w' : World} {v : Value} {xs : List Int} (h : LeafAt w v xs) (hh : ∀ b, blkOf v = some b → w'.heap[b]? = w.heap[b]?) : LeafAt w' v xs :=
  Rep.move id (fun b _ hn => ⟨hn, hh b (Decidable.not_not.1 hn)⟩) h
theorem LeafAt.rep {O : Nat → Prop} {w : World} {v : Value} {xs : List Int} (h : LeafAt w v xs) (hO : ∀ b, blkOf v = some b → ¬ O b) : Rep True O w (.sl (.i .i64)) [v] xs :=
  Rep.move id (fun b _ hn => ⟨hO b (Decidable.not_not.1 hn), rfl⟩) h
theorem leaf_of_own {w : World} {v : Value} {xs : List Int} {cs : List Value} (h : w.ownsRow 0 2 1 v xs.length cs) (hl : xs.length ≤ LB) (hc : ∀ (i : Nat) (x : Int), xs[i]? = some x → ((cs.drop (i * 1)).take 1) = [.int .i64 x]) : LeafAt w v xs := by
  rcases h.2 with ⟨rfl, h0⟩ | ⟨g, cap, cur, rfl, _, hg, hnc, hcm, hcs, hcur⟩
  · have : xs = [] := List.eq_nil_of_length_eq_zero h0
    subst this
    exact ⟨none, 0, rfl, by simp, hl, by simp, fun _ _ => .inl rfl, .inl rfl⟩
  · have hnb : ¬ leafB (.slice (some ⟨g, 0, none⟩) xs.length cap) g := fun h => h rfl
    refine ⟨_, cap, rfl, hnc, hl, by simp, fun _ _ => .inr ⟨g, rfl, hnb, hcm, cur, _, hg, hcs, fun _ => rfl⟩, .inr ⟨g, 0, rfl, hnb, fun i x hx => ⟨[.int .i64 x], rfl, fun j u hu => ?_, by simp only [Rep]⟩⟩⟩
    have hj : j = 0 := by have := (List.getElem?_eq_some_iff.1 hu).1; simpa using this
    subst hj
    simp only [List.getElem?_cons_zero, Option.some.injEq] at hu
    subst hu
    have hi : i < xs.length := (List.getElem?_eq_some_iff.1 hx).1
    have e := hc i x hx
    rw [← hcur] at e
    rw [cell_of_row w g _ cur _ (0, 0) hg]
    simp only [TC.n, Nat.mul_one, Nat.zero_add, Nat.add_zero] at e ⊢
    have e2 : ((cur.toList.take xs.length).drop i)[0]? = some (.int .i64 x) := by
      have := congrArg (fun l : List Value => l[0]?) e
      simpa using this
    rw [List.getElem?_drop, List.getElem?_take, if_pos (by omega)] at e2
    simpa using e2
/-- rows in one block hold the same -/
theorem leaf_same {w : World} {v1 v2 : Value} {x1 x2 : List Int} {b : Nat} (h1 : LeafAt w v1 x1) (h2 : LeafAt w v2 x2) (hl : x1.length = x2.length) (b1 : blkOf v1 = some b) (b2 : blkOf v2 = some b) : x1 = x2 := by
  obtain ⟨cs1, _, g1, _, _, _, _, g6⟩ := own_leaf (base := 0) (fun _ _ _ => Nat.zero_le _) h1
  obtain ⟨cs2, _, k1, _, _, _, _, k6⟩ := own_leaf (base := 0) (fun _ _ _ => Nat.zero_le _) h2
  exact own_same g1 k1 g6 k6 hl b1 b2

/-- one row is marked -/
theorem mark_one [B : Base] {w : World} {v : Value} {xs : List Int} (h : LeafAt w v xs) (hold : OldOk w) (hb : ∀ b, blkOf v = some b → B.W.heap.size ≤ b) {k : Int} (k0 : 0 ≤ k) (k1 : k ≤ 1099511627776) (hx : xs.length ≤ 1099511627776) :
    Calls Try.prog 14 #[v, .int .i64 k] w fun e w' => e = .returned (.int .i64 (k + (xs.length : Int))) ∧ LeafAt w' v (markL k xs.length) ∧ BelowM (fun b => blkOf v = some b) w w' := by
  obtain ⟨cs, bs, g1, g2, g3, g4, g5, g6⟩ := own_leaf (base := 0) (fun _ _ _ => Nat.zero_le _) h
  have hlt : ∀ b, b ∈ bs → b < w.heap.size := fun b hb => by
    have e := g4 b hb
    rcases g1.2 with ⟨rfl, _⟩ | ⟨g, cap, cur, rfl, _, hg, _⟩
    · simp [blkOf] at e
    · simp only [blkOf, Option.some.injEq] at e; subst e; exact (Array.getElem?_eq_some_iff.1 hg).1
  refine (k_laws_markInt64S.2 True (fun b => b < w.heap.size) w [v, .int .i64 k] (xs, k, ()) bs hold (fun b hm => hb b (g4 b hm)) (fun b h => h) (fun _ b h => h) hlt ?_ ⟨k0, k1, hx⟩).mono ?_
  · exact ⟨v, [.int .i64 k], bs, [], rfl, by simp, by simp, ⟨[v], .inr ⟨rfl, rfl⟩, v, cs, rfl, g1, g2, g3, g4, fun i x hx => by simp only [Rep, TC.n]; exact g6 i x hx⟩, .int .i64 k, [], [], [], rfl, rfl, by simp, ⟨[.int .i64 k], .inr ⟨rfl, rfl⟩, rfl, by simp only [Rep]⟩, rfl, rfl⟩
  · rintro e w' ⟨vs, bs', rfl, hR, hV, hB⟩
    obtain ⟨u, vs', b1, b2, rfl, _, _, ⟨us, hu, _, hr⟩, rfl, _⟩ := hR
    simp only [Rep] at hr
    subst hr
    obtain rfl := valC_one hu rfl
    refine ⟨rfl, ?_, ⟨hB.os, hB.tape, hB.output, hB.size, fun b hlt hn => hB.block b hlt fun hm => hn (g4 b hm)⟩⟩
    obtain ⟨v', vs'', e1, ⟨us', hv', _, v3, cs', e3, q1, q2⟩, _⟩ := hV
    simp only [List.cons.injEq] at e1
    obtain ⟨rfl, -⟩ := e1
    subst e3
    obtain rfl := valC_one hv' rfl
    have q1' : w'.ownsRow 0 2 1 v (markL k xs.length).length cs' := q1
    refine leaf_of_own q1' (by rw [markL_length]; exact g2) fun i x hx => ?_
    have := q2 i x hx
    simp only [Rep, TC.n] at this
    exact this
end Go.Proofs.Ytgfpojneeekgkaa
