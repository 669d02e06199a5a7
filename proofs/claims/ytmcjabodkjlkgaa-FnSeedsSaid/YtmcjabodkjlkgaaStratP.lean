/-
  Plain Lean: a group of stratified rolls contains each roll as often as its weight; fewer rolls are a beginning of more.
-/
import Derived.Test.YtmcjabodkjlkgaaMathStrat
namespace Go.Proofs.Ytmcjabodkjlkgaa

theorem swap2_perm (l : List Int) (i k : Nat) (hi : i < l.length) (hk : k < l.length) : (swap2 l i k).Perm l := by
  have e : swap2 l i k = (l.set i l[k]).set k l[i] := by
    unfold swap2
    rw [List.getD_eq_getElem?_getD, List.getD_eq_getElem?_getD, List.getElem?_eq_getElem hi, List.getElem?_eq_getElem hk]
    rfl
  rw [e]
  exact List.set_set_perm hi hk
theorem shuf_perm : ∀ (i : Nat) (l : List Int) (s : Int), i < l.length → (shuf i l s).1.Perm l
  | 0, l, s, _ => List.Perm.refl _
  | i + 1, l, s, h => by
    have hb := nextS_bd s
    have hk : (nextS s % ((i : Int) + 2)).toNat < l.length := by
      have h1 := Int.emod_nonneg (nextS s) (b := (i : Int) + 2) (by omega)
      have h2 := Int.emod_lt_of_pos (nextS s) (b := (i : Int) + 2) (by omega)
      omega
    exact (shuf_perm i _ _ (by rw [swap2_len]; omega)).trans (swap2_perm l _ _ h hk)
theorem grp_perm (s x : Int) (h : 1 ≤ sq s) : (grp s x).Perm ((iota (sq s)).map (pairOf s)) := by
  unfold grp perm
  exact (shuf_perm _ _ _ (by rw [iota_len]; omega)).map _
theorem grp_count (s x : Int) (h : 1 ≤ sq s) (r : Int × Int) : (grp s x).count r = ((iota (sq s)).map (pairOf s)).count r := (grp_perm s x h).count_eq r
/-- all rolls, the higher die first -/
def allR (s : Nat) : List (Int × Int) := (List.range s).flatMap fun (i : Nat) => (List.range (i + 1)).map fun (j : Nat) => ((i : Int) + 1, (j : Int) + 1)
theorem count_all (s : Nat) (h0 : 1 ≤ s) (h1 : s ≤ 6) : ∀ r ∈ allR s, ((iota (sq s)).map (pairOf s)).count r = if r.1 = r.2 then 1 else 2 := by
  have : s = 1 ∨ s = 2 ∨ s = 3 ∨ s = 4 ∨ s = 5 ∨ s = 6 := by omega
  rcases this with rfl | rfl | rfl | rfl | rfl | rfl <;> decide +kernel
theorem strat_get (s x : Int) (n m i : Nat) (hs : 1 ≤ sq s) (hn : i < n) (hm : i < m) : (stratL s x n)[i]? = (stratL s x m)[i]? := by
  have h1 : n ≤ (n + m) * sq s := Nat.le_trans (Nat.le_add_right n m) (Nat.le_mul_of_pos_right _ hs)
  have h2 : m ≤ (n + m) * sq s := Nat.le_trans (Nat.le_add_left m n) (Nat.le_mul_of_pos_right _ hs)
  rw [← strat_take s x n (n + m) hs h1, ← strat_take s x m (n + m) hs h2, List.getElem?_take_of_lt hn, List.getElem?_take_of_lt hm]
theorem strat_grp (s x : Int) (hs : 1 ≤ sq s) : stratL s x (sq s) = grp s x := by
  rw [← strat_take s x (sq s) 1 hs (by omega)]
  simp only [grps, List.append_nil]
  exact List.take_of_length_le (by rw [grp_len]; omega)
end Go.Proofs.Ytmcjabodkjlkgaa
