/-
  Plain: texts split at a byte.
-/
import Derived.Test.YtmklkigppmgigaaGreatDoorPCut
import Derived.Lib.Split
import Derived.Lib.Join
namespace Go.Proofs.YtmklkigppmgigaaGreatDoor
open Go.Lib

/-- the parts between the bytes c -/
def spl (c : UInt8) : List UInt8 → List (List UInt8)
  | [] => [[]]
  | b :: l => if b = c then [] :: spl c l else match spl c l with
    | p :: ps => (b :: p) :: ps
    | [] => [[b]]
theorem spl_no {c : UInt8} : ∀ {p : List UInt8}, c ∉ p → spl c p = [p]
  | [], _ => rfl
  | b :: p, h => by
    simp only [List.mem_cons, not_or] at h
    simp only [spl, if_neg (Ne.symm h.1), spl_no h.2]
theorem spl_at {c : UInt8} {r : List UInt8} : ∀ {p : List UInt8}, c ∉ p → spl c (p ++ c :: r) = p :: spl c r
  | [], _ => by simp [spl]
  | b :: p, h => by
    simp only [List.mem_cons, not_or] at h
    simp only [List.cons_append, spl, if_neg (Ne.symm h.1), spl_at h.2]
theorem spl_ne (c : UInt8) : ∀ l, spl c l ≠ []
  | [] => by simp [spl]
  | b :: l => by
    simp only [spl]
    split
    · simp
    · split <;> simp
theorem spl_mem {c : UInt8} : ∀ {l p : List UInt8}, p ∈ spl c l → c ∉ p
  | [], p, h => by simp [spl] at h; subst h; simp
  | b :: l, p, h => by
    simp only [spl] at h
    split at h
    · rcases List.mem_cons.1 h with rfl | h
      · simp
      · exact spl_mem h
    · next hb =>
      split at h
      · next q qs e =>
        have hq : c ∉ q := spl_mem (l := l) (by rw [e]; simp)
        rcases List.mem_cons.1 h with rfl | h
        · simp only [List.mem_cons, not_or]; exact ⟨Ne.symm hb, hq⟩
        · exact spl_mem (l := l) (by rw [e]; simp [h])
      · next e => exact absurd e (spl_ne c l)
theorem spl_cut {c : UInt8} : ∀ l : List UInt8, (c ∉ l) ∨ ∃ p r, l = p ++ c :: r ∧ c ∉ p
  | [] => .inl (by simp)
  | b :: l => by
    by_cases hb : b = c
    · exact .inr ⟨[], l, by rw [hb]; rfl, by simp⟩
    · rcases spl_cut l with h | ⟨p, r, e, h⟩
      · exact .inl (by simp only [List.mem_cons, not_or]; exact ⟨Ne.symm hb, h⟩)
      · exact .inr ⟨b :: p, r, by rw [e]; rfl, by simp only [List.mem_cons, not_or]; exact ⟨Ne.symm hb, h⟩⟩
/-- the library's split at a single byte -/
theorem splitK_spl {c : UInt8} : ∀ {k : Nat} {l : List UInt8}, l.count c ≤ k → splitK [c] 0 k l = spl c l
  | 0, l, h => by
    have hn : c ∉ l := fun hm => by have := List.count_pos_iff.2 hm; omega
    rw [spl_no hn]; rfl
  | k + 1, l, h => by
    rcases spl_cut (c := c) l with hn | ⟨p, r, rfl, hp⟩
    · rw [spl_no hn, splitK, index_no hn]; rfl
    · rw [spl_at hp, splitK, index_at hp, if_neg (by simp)]
      have e1 : (p ++ c :: r).take ((p.length : Int).toNat + 0) = p := by simp
      have e2 : (p ++ c :: r).drop ((p.length : Int).toNat + [c].length) = r := by
        rw [show p ++ c :: r = (p ++ [c]) ++ r by simp]
        exact List.drop_left' (by simp)
      rw [e1, e2, splitK_spl (k := k)]
      rw [List.count_append, List.count_cons_self] at h; omega
theorem spl_join {c : UInt8} : ∀ {ps : List (List UInt8)}, ps ≠ [] → (∀ p ∈ ps, c ∉ p) → spl c (join ps [c]) = ps
  | [], h, _ => absurd rfl h
  | [p], _, h => by rw [join_one]; exact spl_no (h p (by simp))
  | p :: q :: r, _, h => by
    have e : join (p :: q :: r) [c] = p ++ c :: join (q :: r) [c] := by
      rw [join_cons, join_cons]; simp [joinTail]
    rw [e, spl_at (h p (by simp)), spl_join (by simp) fun x hx => h x (by simp [hx])]
theorem join_spl (c : UInt8) : ∀ l : List UInt8, join (spl c l) [c] = l := fun l => by
  induction hn : l.length using Nat.strongRecOn generalizing l with
  | ind n ih =>
    rcases spl_cut (c := c) l with h | ⟨p, r, rfl, hp⟩
    · rw [spl_no h, join_one]
    · have hr := ih r.length (by rw [← hn]; simp; omega) r rfl
      rw [spl_at hp]
      obtain ⟨q, qs, e⟩ := List.exists_cons_of_ne_nil (spl_ne c r)
      rw [e] at hr ⊢
      rw [join_cons] at hr ⊢
      simp only [joinTail] at hr ⊢
      rw [← hr]; simp
theorem spl_len {c : UInt8} : ∀ {l p : List UInt8}, p ∈ spl c l → p.length ≤ l.length
  | [], p, h => by simp [spl] at h; subst h; simp
  | b :: l, p, h => by
    simp only [spl] at h
    split at h
    · rcases List.mem_cons.1 h with rfl | h
      · simp
      · have := spl_len h; simp; omega
    · split at h
      · next q qs e =>
        have hq : q.length ≤ l.length := spl_len (c := c) (l := l) (by rw [e]; simp)
        rcases List.mem_cons.1 h with rfl | h
        · simp only [List.length_cons]; omega
        · have := spl_len (c := c) (l := l) (p := p) (by rw [e]; simp [h]); simp only [List.length_cons]; omega
      · next e => exact absurd e (spl_ne c l)
theorem spl_cnt {c : UInt8} : ∀ l : List UInt8, (spl c l).length ≤ l.length + 1
  | [] => by simp [spl]
  | b :: l => by
    have ih := spl_cnt (c := c) l
    simp only [spl]
    split
    · simp only [List.length_cons]; omega
    · split
      · next e => rw [e] at ih; simp only [List.length_cons] at ih ⊢; omega
      · simp
end Go.Proofs.YtmklkigppmgigaaGreatDoor
