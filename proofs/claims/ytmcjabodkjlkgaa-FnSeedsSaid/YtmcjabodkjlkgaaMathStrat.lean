/-
  Plain Lean: seeds, the exchange of elements, groups of stratified rolls.
-/
namespace Go.Proofs.Ytmcjabodkjlkgaa

def nextS (x : Int) : Int := 48271 * x % 2147483647
theorem nextS_bd (x : Int) : 0 ≤ nextS x ∧ nextS x < 2147483647 := by unfold nextS; omega
def swap2 (l : List Int) (i k : Nat) : List Int := (l.set i (l.getD k 0)).set k (l.getD i 0)
theorem swap2_len (l : List Int) (i k : Nat) : (swap2 l i k).length = l.length := by simp [swap2]
/-- from place i down to place 1, each exchanged with one at or before it -/
def shuf : Nat → List Int → Int → List Int × Int
  | 0, l, s => (l, s)
  | i + 1, l, s => shuf i (swap2 l (i + 1) (nextS s % ((i : Int) + 2)).toNat) (nextS s)
def iota (m : Nat) : List Int := (List.range m).map fun (j : Nat) => (j : Int)
def pairOf (s x : Int) : Int × Int := (max (1 + x / s) (1 + x % s), min (1 + x / s) (1 + x % s))
def sq (s : Int) : Nat := (s * s).toNat
def perm (s seed : Int) : List Int × Int := shuf (sq s - 1) (iota (sq s)) seed
def grp (s seed : Int) : List (Int × Int) := (perm s seed).1.map (pairOf s)
def grpS (s seed : Int) : Int := (perm s seed).2

theorem iota_len (m : Nat) : (iota m).length = m := by simp [iota]
theorem shuf_len : ∀ (i : Nat) (l : List Int) (s : Int), (shuf i l s).1.length = l.length
  | 0, _, _ => rfl
  | i + 1, l, s => by rw [shuf, shuf_len i, swap2_len]
theorem grp_len (s seed : Int) : (grp s seed).length = sq s := by simp [grp, perm, shuf_len, iota_len]

/-- all elements lie from 0 to below m -/
def In0 (m : Nat) (l : List Int) : Prop := ∀ x ∈ l, 0 ≤ x ∧ x < (m : Int)
theorem In0.at {m : Nat} {l : List Int} (h : In0 m l) {i : Nat} (hi : i < l.length) : 0 ≤ l.getD i 0 ∧ l.getD i 0 < (m : Int) := by
  have : l.getD i 0 ∈ l := by rw [List.getD_eq_getElem?_getD, List.getElem?_eq_getElem hi]; exact List.getElem_mem _
  exact h _ this
theorem In0.swap {m : Nat} {l : List Int} (h : In0 m l) {i k : Nat} (hi : i < l.length) (hk : k < l.length) : In0 m (swap2 l i k) := by
  intro x hx
  rcases List.mem_or_eq_of_mem_set hx with hx | rfl
  · rcases List.mem_or_eq_of_mem_set hx with hx | rfl
    · exact h x hx
    · exact h.at hk
  · exact h.at hi
theorem In0.iota (m : Nat) : In0 m (iota m) := by
  intro x hx
  simp [Go.Proofs.Ytmcjabodkjlkgaa.iota] at hx
  obtain ⟨a, ha, rfl⟩ := hx
  omega

def grps (s : Int) : Nat → Int → List (Int × Int)
  | 0, _ => []
  | j + 1, x => grp s x ++ grps s j (grpS s x)
def seedAft (s : Int) : Nat → Int → Int
  | 0, x => x
  | j + 1, x => seedAft s j (grpS s x)
theorem grps_add (s : Int) (b : Nat) : ∀ (a : Nat) (x : Int), grps s (a + b) x = grps s a x ++ grps s b (seedAft s a x)
  | 0, x => by simp [grps, seedAft]
  | a + 1, x => by
    rw [show a + 1 + b = (a + b) + 1 by omega]
    simp only [grps, seedAft, grps_add s b a, List.append_assoc]
theorem grps_snoc (s : Int) (j : Nat) (x : Int) : grps s (j + 1) x = grps s j x ++ grp s (seedAft s j x) := by
  rw [grps_add]; simp [grps]
theorem seedAft_snoc (s : Int) : ∀ (j : Nat) (x : Int), seedAft s (j + 1) x = grpS s (seedAft s j x)
  | 0, x => rfl
  | j + 1, x => by
    show seedAft s (j + 1) (grpS s x) = _
    rw [seedAft_snoc s j]; rfl
theorem grps_len (s : Int) : ∀ (j : Nat) (x : Int), (grps s j x).length = j * sq s
  | 0, _ => by simp [grps]
  | j + 1, x => by simp only [grps, List.length_append, grps_len s j, grp_len, Nat.succ_mul]; omega
/-- the first n stratified rolls -/
def stratL (s x : Int) (n : Nat) : List (Int × Int) := (grps s n x).take n
theorem strat_take (s x : Int) (n j : Nat) (hm : 1 ≤ sq s) (hj : n ≤ j * sq s) : (grps s j x).take n = stratL s x n := by
  have hn : n ≤ n * sq s := Nat.le_mul_of_pos_right n hm
  have key : ∀ a b : Nat, n ≤ a * sq s → (grps s (a + b) x).take n = (grps s a x).take n := fun a b h => by
    rw [grps_add, List.take_append_of_le_length (by rw [grps_len]; exact h)]
  rcases Nat.le_total n j with h | h
  · obtain ⟨b, rfl⟩ := Nat.exists_eq_add_of_le h
    exact key n b hn
  · obtain ⟨b, rfl⟩ := Nat.exists_eq_add_of_le h
    exact (key j b hj).symm
theorem stratL_len (s x : Int) (n : Nat) (hm : 1 ≤ sq s) : (stratL s x n).length = n := by
  have hn : n ≤ n * sq s := Nat.le_mul_of_pos_right n hm
  simp [stratL, grps_len]
  omega
theorem sq_bd {s : Int} (h0 : 1 ≤ s) (h1 : s ≤ 6) : 1 ≤ sq s ∧ sq s ≤ 36 ∧ ((sq s : Nat) : Int) = s * s := by
  have : s = 1 ∨ s = 2 ∨ s = 3 ∨ s = 4 ∨ s = 5 ∨ s = 6 := by omega
  rcases this with rfl | rfl | rfl | rfl | rfl | rfl <;> decide
theorem perm_in {s : Int} (seed : Int) : ∀ i l, i < l.length → In0 (sq s) l → In0 (sq s) (shuf i l seed).1 := by
  intro i
  induction i generalizing seed with
  | zero => intro l _ h; exact h
  | succ i ih =>
    intro l hl h
    have hk : (nextS seed % ((i : Int) + 2)).toNat < l.length := by
      have h2 : 0 < (i : Int) + 2 := by omega
      have := Int.emod_lt_of_pos (nextS seed) h2
      have := Int.emod_nonneg (nextS seed) (show (i : Int) + 2 ≠ 0 by omega)
      omega
    exact ih (nextS seed) _ (by rw [swap2_len]; omega) (h.swap hl hk)

/-- the first k places counted, the others 0 -/
def iotaTo (m k : Nat) : List Int := iota k ++ List.replicate (m - k) 0
theorem iotaTo_zero (m : Nat) : iotaTo m 0 = List.replicate m 0 := by simp [iotaTo, iota]
theorem iotaTo_all (m : Nat) : iotaTo m m = iota m := by simp [iotaTo]
theorem iotaTo_len (m k : Nat) (h : k ≤ m) : (iotaTo m k).length = m := by simp [iotaTo, iota_len]; omega
theorem iota_succ (k : Nat) : iota (k + 1) = iota k ++ [(k : Int)] := by simp [iota, List.range_succ]
theorem iotaTo_step (m k : Nat) (h : k < m) : (iotaTo m k).set k (k : Int) = iotaTo m (k + 1) := by
  unfold iotaTo
  rw [List.set_append_right _ _ (by simp [iota_len])]
  obtain ⟨d, hd⟩ : ∃ d, m - k = d + 1 := ⟨m - k - 1, by omega⟩
  have e : m - (k + 1) = d := by omega
  rw [hd, e, iota_succ, iota_len, Nat.sub_self, List.replicate_succ, List.set_cons_zero, List.append_assoc]
  rfl
theorem take_map_snoc (s : Int) (l : List Int) (k : Nat) (h : k < l.length) : (l.take (k + 1)).map (pairOf s) = (l.take k).map (pairOf s) ++ [pairOf s (l.getD k 0)] := by
  rw [List.take_succ_eq_append_getElem h, List.map_append]
  simp [h]

/-- the code of a request for rolls -/
def codeR (v : Bool) (seed n : Int) : Int := if v then (if (1 ≤ seed ∧ seed ≤ 2147483646) ∧ 0 ≤ n then (if 400 < n then 3 else 0) else 2) else 1
end Go.Proofs.Ytmcjabodkjlkgaa
