/-
  A new game whose two sides differ is the caller's own: its sides lie in different blocks.
-/
import Derived.Test.YtgfpojneeekgkaaOwn1
namespace Go.Proofs.Ytgfpojneeekgkaa
open Go.RowKit

theorem own_same {w : World} {base : Nat} {v1 v2 : Value} {x1 x2 : List Int} {c1 c2 : List Value} {b : Nat} (h1 : w.ownsRow base 2 1 v1 x1.length c1) (h2 : w.ownsRow base 2 1 v2 x2.length c2)
    (g1 : ∀ (i : Nat) (x : Int), x1[i]? = some x → ((c1.drop (i * 1)).take 1) = [.int .i64 x]) (g2 : ∀ (i : Nat) (x : Int), x2[i]? = some x → ((c2.drop (i * 1)).take 1) = [.int .i64 x]) (hl : x1.length = x2.length)
    (b1 : blkOf v1 = some b) (b2 : blkOf v2 = some b) : x1 = x2 := by
  have hc : c1 = c2 := by
    rcases h1.2 with ⟨rfl, _⟩ | ⟨g, cap, cur, rfl, _, hg, _, _, _, r1⟩
    · simp [blkOf] at b1
    rcases h2.2 with ⟨rfl, _⟩ | ⟨g', cap', cur', rfl, _, hg', _, _, _, r2⟩
    · simp [blkOf] at b2
    simp only [blkOf, Option.some.injEq] at b1 b2
    subst b1; subst b2
    rw [hg] at hg'
    simp only [Option.some.injEq, Obj.cells.injEq] at hg'
    obtain ⟨rfl, _⟩ := hg'
    rw [← r1, ← r2, hl]
  subst hc
  refine List.ext_getElem? fun i => ?_
  by_cases hi : i < x1.length
  · have e1 := g1 i x1[i] (List.getElem?_eq_getElem hi)
    have e2 := g2 i x2[i] (List.getElem?_eq_getElem (by omega))
    rw [e1] at e2
    simp only [List.cons.injEq, Value.int.injEq, and_true, true_and] at e2
    rw [List.getElem?_eq_getElem hi, List.getElem?_eq_getElem (by omega), e2]
  · rw [List.getElem?_eq_none (by omega), List.getElem?_eq_none (by omega)]

abbrev OutG (R : TC) : List (Bool × OT) := [(true, .v (.pr (.pr (.sl (.i .i64)) (.sl (.i .i64))) R)), (false, .v (.i .i64)), (false, .v (.i .i64))]
abbrev OutGO (R : TC) : List (Bool × OT) := [(true, .pr (.pr (.own 2 (.i .i64)) (.own 2 (.i .i64))) (.v R)), (false, .v (.i .i64)), (false, .v (.i .i64))]
/-- a game and two numbers: the game's sides are the caller's own, if they are shown to be so wherever they do not differ -/
theorem own_game [B : Base] {P : Program} {f : Nat} {ins : List (Bool × IT)} {R : TC} {pre preV preO : HI ins → Prop} {out : HI ins → ((List Int × List Int) × R.D) × Int × Int × Unit} {upd : HI ins → HI ins} (hin : valA ins = true) (hR : R.nsl = 0)
    (hV : ConOk P f ⟨ins, OutG R, false, preV, out, upd, false⟩) (hO : ConOk P f ⟨ins, OutGO R, false, preO, out, upd, false⟩)
    (hp : ∀ x, pre x → preO x ∨ (preV x ∧ (out x).1.1.1.length = (out x).1.1.2.length ∧ (out x).1.1.1 ≠ (out x).1.1.2)) :
    ConOk P f ⟨ins, OutGO R, false, pre, out, upd, false⟩ := by
  refine ⟨hV.1, fun z O w args x bs hold hnew hO1 hO2 hbs hA hpre => ?_⟩
  rcases hp x hpre with h | ⟨h, hlen, hne⟩
  · exact hO.2 z O w args x bs hold hnew hO1 hO2 hbs hA h
  refine (hV.2 True O w args x bs hold hnew hO1 hO2 hbs (hA.weakz fun k => nomatch k.1) h).mono ?_
  rintro e w' ⟨vs, bs', rfl, hR1, hV1, hB⟩
  obtain ⟨v, vs', b1, b2, rfl, rfl, _, ⟨us, hv, hb1, us12, us3, rfl, ⟨us1, us2, rfl, hr1, hr2⟩, hr3⟩, v2, vs2, b3, b4, rfl, rfl, _, ⟨us4, hv4, hb4, hr4⟩, v5, vs5, b5, b6, rfl, rfl, _, ⟨us6, hv6, hb6, hr6⟩, rfl, rfl⟩ := hR1
  subst hb1; subst hb4; subst hb6
  obtain ⟨l1, rfl⟩ : ∃ l, us1 = [l] := List.length_eq_one_iff.1 hr1.len
  obtain ⟨l2, rfl⟩ : ∃ l, us2 = [l] := List.length_eq_one_iff.1 hr2.len
  have hbase : ∀ b, b < w'.heap.size → ¬ (O b ∨ b ∈ ([] : List Nat) ++ ([] ++ ([] ++ []))) → w.heap.size ≤ b := fun b _ hn => Nat.le_of_not_lt fun hlt => hn (.inl (hO2 rfl b hlt))
  obtain ⟨cs1, bs1, g1, g2, g3, g4, g5, g6⟩ := own_leaf (base := w.heap.size) hbase hr1
  obtain ⟨cs2, bs2, k1, k2, k3, k4, k5, k6⟩ := own_leaf (base := w.heap.size) hbase hr2
  have hd : ∀ b, b ∈ bs1 → b ∉ bs2 := fun b h1 h2 => hne (own_same g1 k1 g6 k6 hlen (g4 b h1) (k4 b h2))
  refine ⟨[v, v2, v5], bs1 ++ bs2, rfl, ?_, hV1.val hin, hB⟩
  refine ⟨v, [v2, v5], bs1 ++ bs2, [], rfl, by simp, by simp, ⟨([l1] ++ [l2]) ++ us3, hv, [l1] ++ [l2], us3, bs1 ++ bs2, [], rfl, by simp, by simp, ⟨[l1], [l2], bs1, bs2, rfl, rfl, hd, ⟨l1, cs1, rfl, g1, g2, g3, g4, fun i x hx => ?_⟩, ⟨l2, cs2, rfl, k1, k2, k3, k4, fun i x hx => ?_⟩⟩, rfl, hr3.flat hR⟩,
    v2, [v5], [], [], rfl, rfl, by simp, ⟨us4, hv4, rfl, ?_⟩, v5, [], [], [], rfl, rfl, by simp, ⟨us6, hv6, rfl, ?_⟩, rfl, rfl⟩
  · have := g6 i x hx; simp only [Rep, TC.n]; exact this
  · have := k6 i x hx; simp only [Rep, TC.n]; exact this
  · simpa only [Rep] using hr4
  · simpa only [Rep] using hr6
end Go.Proofs.Ytgfpojneeekgkaa
