/-
  A new slice of numbers that nobody else holds is the caller's own: contracts turned from data to slices of one's own.
-/
import Derived.Test.YtgfpojneeekgkaaLibS
namespace Go.Proofs.Ytgfpojneeekgkaa
open Go.RowKit

theorem RepI.weakz {z z' : Prop} (hz : z' → z) {O : Nat → Prop} {w : World} : ∀ {t : IT} {vs : List Value} {x : t.D} {bs : List Nat}, RepI z O w t vs x bs → RepI z' O w t vs x bs
  | .v _, _, _, _, h => ⟨h.1, h.2.move hz fun _ _ hn => ⟨hn, rfl⟩⟩
  | .own _ _, _, _, _, h => by
    obtain ⟨v, cs, h1, h2, h3, h4, h5, h6⟩ := h
    exact ⟨v, cs, h1, h2, h3, h4, h5, fun i x hx => (h6 i x hx).move hz fun _ _ hn => ⟨hn, rfl⟩⟩
  | .bx _, _, _, _, h => by
    obtain ⟨b, e, us, h1, h2, h3, h4, h5⟩ := h
    exact ⟨b, e, us, h1, h2, h3, h4, h5.move hz fun _ _ hn => ⟨hn, rfl⟩⟩
  | .k _, _, _, _, h => h
  | .pr _ _, _, _, _, h => by
    obtain ⟨us, ws, b1, b2, h1, h2, h3, h4, h5⟩ := h
    exact ⟨us, ws, b1, b2, h1, h2, h3, h4.weakz hz, h5.weakz hz⟩
theorem RepA.weakz {z z' : Prop} (hz : z' → z) {O : Nat → Prop} {w : World} : ∀ {l : List (Bool × IT)} {vs : List Value} {x : HI l} {bs : List Nat}, RepA z O w l vs x bs → RepA z' O w l vs x bs
  | [], _, _, _, h => h
  | _ :: _, _, _, _, h => by
    obtain ⟨v, vs', b1, b2, h1, h2, h3, ⟨us, h4, h5⟩, h6⟩ := h
    exact ⟨v, vs', b1, b2, h1, h2, h3, ⟨us, h4, h5.weakz hz⟩, h6.weakz hz⟩

/-- a whole row of numbers as a slice of one's own -/
theorem own_leaf {O : Nat → Prop} {w : World} {base : Nat} (hO : ∀ b, b < w.heap.size → ¬ O b → base ≤ b) {v : Value} {xs : List Int} (h : Rep True O w (.sl (.i .i64)) [v] xs) :
    ∃ (cs : List Value) (bs : List Nat), w.ownsRow base 2 1 v xs.length cs ∧ xs.length ≤ LB ∧ (∀ b, blkOf v = some b → b ∈ bs) ∧ (∀ b, b ∈ bs → blkOf v = some b) ∧ (∀ b, b ∈ bs → ¬ O b) ∧
      ∀ (i : Nat) (x : Int), xs[i]? = some x → ((cs.drop (i * 1)).take 1) = [.int .i64 x] := by
  obtain ⟨a, cap, hv, h1, h2, h3, h4, h5⟩ := h
  simp only [List.cons.injEq, and_true] at hv
  subst hv
  rcases h4 trivial rfl with rfl | ⟨b, rfl, hb, hcm, cur, e, hg, hcs, he⟩
  · have hc0 := h3 rfl
    have hx : xs = [] := List.eq_nil_of_length_eq_zero (by omega)
    subst hx
    subst hc0
    exact ⟨[], [], World.ownsRow_nil w _ _ 1, h2, by simp [blkOf], by simp, by simp, by simp⟩
  · have he := he rfl
    subst he
    have hlt : b < w.heap.size := (Array.getElem?_eq_some_iff.1 hg).1
    have hcs' : cur.size = cap := by simpa [TC.n] using hcs
    refine ⟨cur.toList.take (xs.length * 1), [b], ⟨by simp; omega, .inr ⟨b, cap, cur, rfl, hO b hlt hb, hg, h1, hcm, by omega, rfl⟩⟩, h2, by simp [blkOf], by simp [blkOf], by simpa using hb, fun i x hx => ?_⟩
    have hi : i < xs.length := (List.getElem?_eq_some_iff.1 hx).1
    rcases h5 with rfl | ⟨b', off, e1, _, hc⟩
    · simp at hi
    · simp only [Option.some.injEq, Addr.mk.injEq, and_true] at e1
      obtain ⟨rfl, rfl⟩ := e1
      obtain ⟨us, _, hcell, hr⟩ := hc i x hx
      simp only [Rep] at hr
      subst hr
      have hc0 := hcell 0 _ rfl
      rw [cell_of_row w b _ cur _ (0, 0) hg] at hc0
      simp only [TC.n, Nat.mul_one, Nat.zero_add, Nat.add_zero] at hc0
      have hl : (cur.toList.take xs.length)[i]? = some (.int .i64 x) := by
        rw [List.getElem?_take, if_pos hi]; simpa using hc0
      rw [Nat.mul_one, Nat.mul_one]
      have hil := (List.getElem?_eq_some_iff.1 hl).1
      rw [List.drop_eq_getElem_cons hil, (List.getElem?_eq_some_iff.1 hl).2]; rfl

def valI : IT → Bool
  | .own _ _ => false
  | .pr t u => valI t && valI u
  | _ => true
def valA : List (Bool × IT) → Bool
  | [] => true
  | t :: l => valI t.2 && valA l
theorem RepU.val {z z' : Prop} {O O' : Nat → Prop} {w w' : World} : ∀ {t : IT} {vs : List Value} {x : t.D}, valI t = true → RepU z O w w' t vs x → RepU z' O' w w' t vs x
  | .v _, _, _, _, _ => trivial
  | .own _ _, _, _, h, _ => by cases h
  | .bx _, _, _, _, h => h
  | .k _, _, _, _, _ => trivial
  | .pr _ _, _, _, hv, h => by
    simp only [valI, Bool.and_eq_true] at hv
    obtain ⟨us, ws, h1, h2, h3, h4⟩ := h
    exact ⟨us, ws, h1, h2, h3.val hv.1, h4.val hv.2⟩
theorem RepV.val {z z' : Prop} {O O' : Nat → Prop} {w w' : World} : ∀ {l : List (Bool × IT)} {vs : List Value} {x : HI l}, valA l = true → RepV z O w w' l vs x → RepV z' O' w w' l vs x
  | [], _, _, _, _ => trivial
  | _ :: _, _, _, hv, h => by
    simp only [valA, Bool.and_eq_true] at hv
    obtain ⟨v, vs', h1, ⟨us, h2, h3, h4⟩, h5⟩ := h
    exact ⟨v, vs', h1, ⟨us, h2, h3, h4.val hv.1⟩, h5.val hv.2⟩

/-- a list of numbers and a number: the list is the caller's own -/
theorem own_out [B : Base] {P : Program} {f : Nat} {ins : List (Bool × IT)} {pre : HI ins → Prop} {out : HI ins → List Int × Int × Unit} {upd : HI ins → HI ins} (hin : valA ins = true)
    (h : ConOk P f ⟨ins, [(false, .v (.sl (.i .i64))), (false, .v (.i .i64))], false, pre, out, upd, false⟩) :
    ConOk P f ⟨ins, [(false, .own 2 (.i .i64)), (false, .v (.i .i64))], false, pre, out, upd, false⟩ := by
  refine ⟨h.1, fun z O w args x bs hold hnew hO hO2 hbs hA hpre => (h.2 True O w args x bs hold hnew hO hO2 hbs (hA.weakz fun k => nomatch k.1) hpre).mono ?_⟩
  rintro e w' ⟨vs, bs', rfl, hR, hV, hB⟩
  obtain ⟨v, vs', b1, b2, rfl, rfl, _, ⟨us, hv, hb1, hr⟩, v2, vs2, b3, b4, rfl, rfl, _, ⟨us2, hv2, hb3, hr2⟩, rfl, rfl⟩ := hR
  subst hb1; subst hb3
  have hu : us = [v] := by
    rcases hv with ⟨h', _⟩ | ⟨_, h'⟩
    · cases h'
    · exact h'
  subst hu
  obtain ⟨cs, bs1, g1, g2, g3, g4, g5, g6⟩ := own_leaf (base := w.heap.size) (fun b _ hn => Nat.le_of_not_lt fun hlt => hn (.inl (hO2 rfl b hlt))) hr
  refine ⟨[v, v2], bs1, rfl, ?_, ?_, hB⟩
  · refine ⟨v, [v2], bs1, [], rfl, by simp, by simp, ⟨[v], .inr ⟨rfl, rfl⟩, v, cs, rfl, g1, g2, g3, g4, fun i x hx => ?_⟩, v2, [], [], [], rfl, rfl, by simp, ⟨us2, hv2, rfl, ?_⟩, rfl, rfl⟩
    · have := g6 i x hx
      simp only [Rep, TC.n]
      exact this
    · simpa only [Rep] using hr2
  · exact hV.val hin
end Go.Proofs.Ytgfpojneeekgkaa
