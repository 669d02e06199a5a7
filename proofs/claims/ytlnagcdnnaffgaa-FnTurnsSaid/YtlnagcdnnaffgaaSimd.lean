/-
  Many seeds at once: lanes of 48 bits in one number; the reckoning of the kernel is shown to be that of each lane.
-/
import Derived.Test.YtlnagcdnnaffgaaIn
namespace Go.Proofs.Ytlnagcdnnaffgaa
namespace Simd
def pack : List Nat → Nat
  | [] => 0
  | x :: l => x + 2 ^ 48 * pack l
def Small (b : Nat) (l : List Nat) : Prop := ∀ x, x ∈ l → x < 2 ^ b
theorem and_add {k x y a b : Nat} (hx : x < 2 ^ k) (hy : y < 2 ^ k) : (x + 2 ^ k * a) &&& (y + 2 ^ k * b) = (x &&& y) + 2 ^ k * (a &&& b) := by
  have hxy : x &&& y < 2 ^ k := Nat.and_lt_two_pow _ hy
  apply Nat.eq_of_testBit_eq
  intro i
  rw [Nat.testBit_and, Nat.add_comm x, Nat.add_comm y, Nat.add_comm (x &&& y), Nat.testBit_two_pow_mul_add _ hx, Nat.testBit_two_pow_mul_add _ hy, Nat.testBit_two_pow_mul_add _ hxy]
  split
  · rw [Nat.testBit_and]
  · rw [Nat.testBit_and]
theorem pack_and : ∀ {l m : List Nat}, l.length = m.length → Small 48 l → Small 48 m → pack l &&& pack m = pack (List.zipWith (· &&& ·) l m)
  | [], [], _, _, _ => by simp [pack]
  | x :: l, y :: m, h, hl, hm => by
    simp only [pack, List.zipWith_cons_cons]
    rw [and_add (hl x (by simp)) (hm y (by simp)), pack_and (by simpa using h) (fun z hz => hl z (by simp [hz])) (fun z hz => hm z (by simp [hz]))]
theorem pack_add : ∀ {l m : List Nat}, l.length = m.length → pack l + pack m = pack (List.zipWith (· + ·) l m)
  | [], [], _ => by simp [pack]
  | x :: l, y :: m, h => by
    simp only [pack, List.zipWith_cons_cons]
    rw [← pack_add (by simpa using h), Nat.mul_add]; omega
theorem pack_mul (c : Nat) : ∀ {l : List Nat}, pack l * c = pack (l.map (· * c))
  | [] => by simp [pack]
  | x :: l => by
    simp only [pack, List.map_cons]
    rw [← pack_mul c, Nat.add_mul, Nat.mul_assoc]
/-- the bits of each lane from k on, as far as a mask goes that has at most 48 - k bits -/
theorem pack_shift {k : Nat} (hk : k ≤ 48) : ∀ {l m : List Nat}, l.length = m.length → Small 48 l → Small (48 - k) m → (pack l >>> k) &&& pack m = pack (List.zipWith (fun x y => (x >>> k) &&& y) l m)
  | [], [], _, _, _ => by simp [pack]
  | x :: l, y :: m, h, hl, hm => by
    have hx := hl x (by simp)
    have hy := hm y (by simp)
    have ih := pack_shift hk (l := l) (m := m) (by simpa using h) (fun z hz => hl z (by simp [hz])) (fun z hz => hm z (by simp [hz]))
    simp only [pack, List.zipWith_cons_cons]
    rw [← ih]
    apply Nat.eq_of_testBit_eq
    intro i
    have hy48 : y < 2 ^ 48 := Nat.lt_of_lt_of_le hy (Nat.pow_le_pow_right (by omega) (by omega))
    have hxy : (x >>> k) &&& y < 2 ^ 48 := Nat.lt_of_le_of_lt Nat.and_le_right hy48
    rw [Nat.testBit_and, Nat.testBit_shiftRight, Nat.add_comm x, Nat.add_comm y, Nat.add_comm ((x >>> k) &&& y), Nat.testBit_two_pow_mul_add _ hx, Nat.testBit_two_pow_mul_add _ hy48, Nat.testBit_two_pow_mul_add _ hxy]
    by_cases h1 : i < 48
    · rw [if_pos h1, if_pos h1, Nat.testBit_and, Nat.testBit_shiftRight]
      by_cases h2 : k + i < 48
      · rw [if_pos h2]
      · have : y.testBit i = false := Nat.testBit_lt_two_pow (Nat.lt_of_lt_of_le hy (Nat.pow_le_pow_right (by omega) (by omega)))
        rw [this]; simp
    · rw [if_neg (by omega), if_neg h1, if_neg h1, Nat.testBit_and, Nat.testBit_shiftRight, show k + i - 48 = k + (i - 48) by omega]

theorem or_add {k x y a b : Nat} (hx : x < 2 ^ k) (hy : y < 2 ^ k) : (x + 2 ^ k * a) ||| (y + 2 ^ k * b) = (x ||| y) + 2 ^ k * (a ||| b) := by
  have hxy : x ||| y < 2 ^ k := Nat.or_lt_two_pow hx hy
  apply Nat.eq_of_testBit_eq
  intro i
  rw [Nat.testBit_or, Nat.add_comm x, Nat.add_comm y, Nat.add_comm (x ||| y), Nat.testBit_two_pow_mul_add _ hx, Nat.testBit_two_pow_mul_add _ hy, Nat.testBit_two_pow_mul_add _ hxy]
  split
  · rw [Nat.testBit_or]
  · rw [Nat.testBit_or]
theorem pack_or : ∀ {l m : List Nat}, l.length = m.length → Small 48 l → Small 48 m → pack l ||| pack m = pack (List.zipWith (· ||| ·) l m)
  | [], [], _, _, _ => by simp [pack]
  | x :: l, y :: m, h, hl, hm => by
    simp only [pack, List.zipWith_cons_cons]
    rw [or_add (hl x (by simp)) (hm y (by simp)), pack_or (by simpa using h) (fun z hz => hl z (by simp [hz])) (fun z hz => hm z (by simp [hz]))]
theorem pack_inj : ∀ {l m : List Nat}, l.length = m.length → Small 48 l → Small 48 m → pack l = pack m → l = m
  | [], [], _, _, _, _ => rfl
  | x :: l, y :: m, h, hl, hm, e => by
    have hx := hl x (by simp)
    have hy := hm y (by simp)
    simp only [pack] at e
    have e1 : x = y := by
      have := congrArg (· % 2 ^ 48) e
      simpa [Nat.add_mul_mod_self_left, Nat.mod_eq_of_lt hx, Nat.mod_eq_of_lt hy] using this
    subst e1
    have e2 : pack l = pack m := Nat.eq_of_mul_eq_mul_left (show 0 < 2 ^ 48 by decide) (by omega)
    rw [pack_inj (by simpa using h) (fun z hz => hl z (by simp [hz])) (fun z hz => hm z (by simp [hz])) e2]
/-- n lanes of one number -/
def rep (n c : Nat) : Nat := pack (List.replicate n c)
theorem zip_rep {α : Type} (f : α → Nat → α) (c : Nat) : ∀ {l : List α}, List.zipWith f l (List.replicate l.length c) = l.map (f · c)
  | [] => rfl
  | x :: l => by simp only [List.length_cons, List.replicate_succ, List.zipWith_cons_cons, List.map_cons, zip_rep f c]
theorem small_rep {n b c : Nat} (h : c < 2 ^ b) : Small b (List.replicate n c) := fun x hx => by rw [(List.mem_replicate.1 hx).2]; exact h
theorem and_rep {c : Nat} (hc : c < 2 ^ 48) {l : List Nat} (hl : Small 48 l) : pack l &&& rep l.length c = pack (l.map (· &&& c)) := by
  unfold rep
  rw [pack_and (by simp) hl (small_rep hc), zip_rep (· &&& ·)]
theorem shift_rep {k c : Nat} (hk : k ≤ 48) (hc : c < 2 ^ (48 - k)) {l : List Nat} (hl : Small 48 l) : (pack l >>> k) &&& rep l.length c = pack (l.map fun x => (x >>> k) &&& c) := by
  unfold rep
  rw [pack_shift hk (by simp) hl (small_rep hc), zip_rep (fun x y => (x >>> k) &&& y)]
theorem zip_map {f g : Nat → Nat} {h : Nat → Nat → Nat} : ∀ {l : List Nat}, List.zipWith h (l.map f) (l.map g) = l.map fun x => h (f x) (g x)
  | [] => rfl
  | x :: l => by simp only [List.map_cons, List.zipWith_cons_cons, zip_map]
theorem zip_mapP {f g : Nat × Nat → Nat} {h : Nat → Nat → Nat} : ∀ {l : List (Nat × Nat)}, List.zipWith h (l.map f) (l.map g) = l.map fun x => h (f x) (g x)
  | [] => rfl
  | x :: l => by simp only [List.map_cons, List.zipWith_cons_cons, zip_mapP]
/-- the next state, of one lane -/
def red (T : Nat) : Nat := ((T >>> 31) &&& 131071) + (T &&& 2147483647)
def red2 (R : Nat) : Nat := (R &&& 2147483647) + ((R >>> 31) &&& 1)
def nxt1 (x : Nat) : Nat := red2 (red (x * 48271))
def nxt (M31 M17 O S : Nat) : Nat :=
  (fun T => (fun R => (R &&& M31) + ((R >>> 31) &&& O)) (((T >>> 31) &&& M17) + (T &&& M31))) (S * 48271)
theorem and31 (x : Nat) : x &&& 2147483647 = x % 2147483648 := Nat.and_two_pow_sub_one_eq_mod x 31
theorem and17 (x : Nat) : x &&& 131071 = x % 131072 := Nat.and_two_pow_sub_one_eq_mod x 17
theorem red_eq {T : Nat} (h : T < 2 ^ 47) : red T = T / 2147483648 + T % 2147483648 := by
  unfold red
  rw [and31, and17, Nat.shiftRight_eq_div_pow]
  have : T / 2 ^ 31 < 131072 := by omega
  rw [Nat.mod_eq_of_lt this]
theorem red2_eq {R : Nat} (h : R < 2 ^ 32) : red2 R = R % 2147483648 + R / 2147483648 := by
  unfold red2
  rw [and31, Nat.and_one_is_mod, Nat.shiftRight_eq_div_pow]
  have : R / 2 ^ 31 < 2 := by omega
  rw [Nat.mod_eq_of_lt this]
theorem nxt1_lt {x : Nat} (h : x < 2 ^ 31) : nxt1 x < 2 ^ 31 := by
  unfold nxt1
  rw [red_eq (by omega), red2_eq (by omega)]
  omega
theorem nxt1_eq {x : Nat} (h1 : 1 ≤ x) (h2 : x < 2147483647) : nxt1 x = x * 48271 % 2147483647 := by
  have h0 : x * 48271 % 2147483647 ≠ 0 := fun h => by
    have hd := Nat.dvd_of_mod_eq_zero h
    have := Nat.le_of_dvd (by omega) (Nat.Coprime.dvd_of_dvd_mul_right (show Nat.gcd 2147483647 48271 = 1 by decide) hd)
    omega
  unfold nxt1
  rw [red_eq (by omega), red2_eq (by omega)]
  obtain ⟨q, hq⟩ : ∃ q, q = x * 48271 / 2147483648 := ⟨_, rfl⟩
  obtain ⟨r, hr⟩ : ∃ r, r = x * 48271 % 2147483648 := ⟨_, rfl⟩
  have hT : x * 48271 = (q + r) + 2147483647 * q := by omega
  have hm : x * 48271 % 2147483647 = (q + r) % 2147483647 := by rw [hT, Nat.add_mul_mod_self_left]
  rw [← hq, ← hr, hm]
  rw [hm] at h0
  have hqb : q < 65536 := by omega
  have hrb : r < 2147483648 := by omega
  clear hT hm hq hr
  omega
theorem nxt_pack {l : List Nat} (hl : Small 31 l) : nxt (rep l.length 2147483647) (rep l.length 131071) (rep l.length 1) (pack l) = pack (l.map nxt1) := by
  unfold nxt
  simp only
  rw [pack_mul]
  have hT : Small 48 (l.map (· * 48271)) := fun x hx => by
    obtain ⟨y, hy, rfl⟩ := List.mem_map.1 hx
    have := hl y hy
    omega
  have hlen : l.length = (l.map (· * 48271)).length := by simp
  have hR : ((pack (l.map (· * 48271)) >>> 31) &&& rep l.length 131071) + (pack (l.map (· * 48271)) &&& rep l.length 2147483647) = pack (l.map fun x => red (x * 48271)) := by
    rw [hlen, shift_rep (by omega) (by decide) hT, and_rep (by decide) hT, pack_add (by simp), zip_map (h := (· + ·)), List.map_map]
    rfl
  rw [hR]
  have hRs : Small 48 (l.map fun x => red (x * 48271)) := fun x hx => by
    obtain ⟨y, hy, rfl⟩ := List.mem_map.1 hx
    have := hl y hy
    rw [red_eq (by omega)]
    omega
  have hlen2 : l.length = (l.map fun x => red (x * 48271)).length := by simp
  rw [hlen2, and_rep (by decide) hRs, shift_rep (by omega) (by decide) hRs, pack_add (by simp), zip_map (h := (· + ·)), List.map_map]
  rfl

def run (B : Nat → Nat → Nat) (M31 M17 O : Nat) : Nat → Nat → Nat → Bool
  | 0, _, D => Nat.beq D O
  | k + 1, S, D => bif Nat.beq D O then true else
     (fun Y => (fun Z => run B M31 M17 O k Z (D ||| B Y Z)) (nxt M31 M17 O Y)) (nxt M31 M17 O S)
/-- of one lane: one of the first k pairs is hit -/
def met (b : Nat → Nat → Nat) : Nat → Nat → Prop
  | 0, _ => False
  | k + 1, s => b (nxt1 s) (nxt1 (nxt1 s)) = 1 ∨ met b k (nxt1 (nxt1 s))
theorem all_one {L : List (Nat × Nat)} (hs : ∀ p, p ∈ L → p.2 ≤ 1) (h : Nat.beq (pack (L.map (·.2))) (rep L.length 1) = true) : ∀ p, p ∈ L → p.2 = 1 := by
  have e := Nat.eq_of_beq_eq_true h
  unfold rep at e
  have e2 := pack_inj (by simp) (fun x hx => by
    obtain ⟨p, hp, rfl⟩ := List.mem_map.1 hx
    have := hs p hp; omega) (small_rep (by decide)) e
  intro p hp
  have : p.2 ∈ List.replicate L.length 1 := by rw [← e2]; exact List.mem_map.2 ⟨p, hp, rfl⟩
  exact (List.mem_replicate.1 this).2
theorem run_ok {B : Nat → Nat → Nat} {b : Nat → Nat → Nat} {n : Nat} (hB : ∀ L : List (Nat × Nat), L.length = n → (∀ p, p ∈ L → p.1 < 2 ^ 31 ∧ p.2 < 2 ^ 31) → B (pack (L.map (·.1))) (pack (L.map (·.2))) = pack (L.map fun p => b p.1 p.2)) (hb : ∀ y z, b y z ≤ 1) :
    ∀ (k : Nat) (L : List (Nat × Nat)), L.length = n → (∀ p, p ∈ L → p.1 < 2 ^ 31 ∧ p.2 ≤ 1) → run B (rep n 2147483647) (rep n 131071) (rep n 1) k (pack (L.map (·.1))) (pack (L.map (·.2))) = true → ∀ p, p ∈ L → p.2 = 1 ∨ met b k p.1
  | 0, L, hn, hs, h => fun p hp => .inl (all_one (fun q hq => (hs q hq).2) (by rw [hn]; exact h) p hp)
  | k + 1, L, hn, hs, h => by
    intro p hp
    simp only [run] at h
    cases hd : Nat.beq (pack (L.map (·.2))) (rep n 1) with
    | true => exact .inl (all_one (fun q hq => (hs q hq).2) (by rw [hn]; exact hd) p hp)
    | false =>
      rw [hd] at h
      simp only [cond_false] at h
      have l1 : Small 31 (L.map (·.1)) := fun x hx => by
        obtain ⟨q, hq, rfl⟩ := List.mem_map.1 hx
        exact (hs q hq).1
      have e1 := nxt_pack l1
      rw [List.length_map, hn, List.map_map] at e1
      have l2 : Small 31 (L.map (nxt1 ∘ (·.1))) := fun x hx => by
        obtain ⟨q, hq, rfl⟩ := List.mem_map.1 hx
        exact nxt1_lt (hs q hq).1
      have e2 := nxt_pack l2
      rw [List.length_map, hn, List.map_map] at e2
      rw [e1, e2] at h
      have e3 := hB (L.map fun q => (nxt1 q.1, nxt1 (nxt1 q.1))) (by simpa using hn) (fun q hq => by
        obtain ⟨x, hx, rfl⟩ := List.mem_map.1 hq
        exact ⟨nxt1_lt (hs x hx).1, nxt1_lt (nxt1_lt (hs x hx).1)⟩)
      simp only [List.map_map, Function.comp_def] at e3
      simp only [Function.comp_def] at h
      rw [e3, pack_or (by simp) (fun x hx => by
        obtain ⟨q, hq, rfl⟩ := List.mem_map.1 hx
        have := (hs q hq).2; omega) (fun x hx => by
        obtain ⟨q, hq, rfl⟩ := List.mem_map.1 hx
        have := hb (nxt1 q.1) (nxt1 (nxt1 q.1)); omega), zip_mapP (h := (· ||| ·))] at h
      have hor : ∀ x y : Nat, x ≤ 1 → y ≤ 1 → x ||| y ≤ 1 ∧ (x ||| y = 1 → x = 1 ∨ y = 1) := by
        intro x y hx hy
        have h1 : x = 0 ∨ x = 1 := by omega
        have h2 : y = 0 ∨ y = 1 := by omega
        rcases h1 with rfl | rfl <;> rcases h2 with rfl | rfl <;> decide
      have ih := run_ok hB hb k (L.map fun q => (nxt1 (nxt1 q.1), q.2 ||| b (nxt1 q.1) (nxt1 (nxt1 q.1)))) (by simpa using hn) (fun q hq => by
        obtain ⟨x, hx, rfl⟩ := List.mem_map.1 hq
        exact ⟨nxt1_lt (nxt1_lt (hs x hx).1), (hor _ _ (hs x hx).2 (hb _ _)).1⟩) (by simpa only [List.map_map, Function.comp_def] using h)
      rcases ih _ (List.mem_map.2 ⟨p, hp, rfl⟩) with h1 | h1
      · rcases (hor _ _ (hs p hp).2 (hb _ _)).2 h1 with h2 | h2
        · exact .inl h2
        · exact .inr (.inl h2)
      · exact .inr (.inr h1)

theorem pack_append : ∀ (l m : List Nat), pack (l ++ m) = pack l + 2 ^ (48 * l.length) * pack m
  | [], m => by simp [pack]
  | x :: l, m => by
    simp only [List.cons_append, pack, pack_append l m, List.length_cons]
    rw [show 48 * (l.length + 1) = 48 + 48 * l.length by omega, Nat.pow_add, Nat.mul_add, Nat.mul_assoc]; omega
def one : Nat → Nat
  | 0 => 1
  | m + 1 => one m * (1 + 2 ^ (48 * 2 ^ m))
def idx : Nat → Nat
  | 0 => 0
  | m + 1 => idx m + 2 ^ (48 * 2 ^ m) * (idx m + 2 ^ m * one m)
theorem one_eq : ∀ m, one m = rep (2 ^ m) 1
  | 0 => by simp [one, rep, pack]
  | m + 1 => by
    have : List.replicate (2 ^ (m + 1)) 1 = List.replicate (2 ^ m) 1 ++ List.replicate (2 ^ m) 1 := by rw [List.replicate_append_replicate, Nat.pow_succ, Nat.mul_two]
    unfold rep
    rw [this, pack_append, List.length_replicate]
    simp only [one]
    rw [one_eq m, Nat.mul_add, Nat.mul_one]
    unfold rep
    rw [Nat.mul_comm (pack _) (2 ^ _)]
theorem mul_rep (n c : Nat) : c * rep n 1 = rep n c := by
  unfold rep
  rw [Nat.mul_comm, pack_mul, List.map_replicate, Nat.one_mul]
theorem add_rep (c : Nat) (l : List Nat) : pack l + rep l.length c = pack (l.map (· + c)) := by
  unfold rep
  rw [pack_add (by simp), zip_rep (· + ·)]
theorem idx_eq : ∀ m, idx m = pack (List.range (2 ^ m))
  | 0 => by simp [idx, pack, List.range_succ]
  | m + 1 => by
    rw [Nat.pow_succ, Nat.mul_two, List.range_add, pack_append, List.length_range]
    simp only [idx]
    rw [one_eq, mul_rep, idx_eq m]
    have := add_rep (2 ^ m) (List.range (2 ^ m))
    rw [List.length_range] at this
    rw [this]
    congr 4
    funext x
    omega
theorem batch_eq (m z : Nat) : z * one m + idx m = pack ((List.range (2 ^ m)).map (· + z)) := by
  rw [one_eq, idx_eq, mul_rep]
  have := add_rep z (List.range (2 ^ m))
  rw [List.length_range] at this
  rw [Nat.add_comm, this]
/-- the seeds from z on, in n batches of L -/
def chk (B : Nat → Nat → Nat → Nat) (L M31 M17 O I : Nat) : Nat → Nat → Bool
  | 0, _ => true
  | n + 1, z => bif run (B O) M31 M17 O 40 (z * O + I) 0 then chk B L M31 M17 O I n (z + L) else false
theorem pack_zero : ∀ n, pack (List.replicate n 0) = 0
  | 0 => rfl
  | n + 1 => by simp [List.replicate_succ, pack, pack_zero n]
theorem chk_ok {B : Nat → Nat → Nat → Nat} {b : Nat → Nat → Nat} {m : Nat} (hB : ∀ L : List (Nat × Nat), L.length = 2 ^ m → (∀ p, p ∈ L → p.1 < 2 ^ 31 ∧ p.2 < 2 ^ 31) → B (rep (2 ^ m) 1) (pack (L.map (·.1))) (pack (L.map (·.2))) = pack (L.map fun p => b p.1 p.2)) (hb : ∀ y z, b y z ≤ 1) :
    ∀ (n z : Nat), z + n * 2 ^ m ≤ 2 ^ 31 → chk B (2 ^ m) (2147483647 * one m) (131071 * one m) (one m) (idx m) n z = true → ∀ s, z ≤ s → s < z + n * 2 ^ m → met b 40 s
  | 0, z, _, _, s, h1, h2 => by omega
  | n + 1, z, hz, h, s, h1, h2 => by
    simp only [chk] at h
    cases hr : run (B (one m)) (2147483647 * one m) (131071 * one m) (one m) 40 (z * one m + idx m) 0 with
    | false => rw [hr] at h; cases h
    | true =>
      rw [hr] at h
      simp only [cond_true] at h
      rw [Nat.add_mul, Nat.one_mul] at hz h2
      by_cases hs : s < z + 2 ^ m
      · rw [batch_eq, one_eq, mul_rep, mul_rep] at hr
        have hr' : run (B (rep (2 ^ m) 1)) (rep (2 ^ m) 2147483647) (rep (2 ^ m) 131071) (rep (2 ^ m) 1) 40 (pack (((List.range (2 ^ m)).map fun x => (x + z, 0)).map (·.1))) (pack (((List.range (2 ^ m)).map fun x => (x + z, 0)).map (·.2))) = true := by
          have e : pack (((List.range (2 ^ m)).map fun x => (x + z, 0)).map (·.2)) = 0 := by
            rw [List.map_map]
            have : (List.range (2 ^ m)).map ((fun p : Nat × Nat => p.2) ∘ fun x => (x + z, 0)) = List.replicate (2 ^ m) 0 := by
              rw [List.eq_replicate_iff]
              exact ⟨by simp, fun y hy => by obtain ⟨x, _, rfl⟩ := List.mem_map.1 hy; rfl⟩
            rw [this, pack_zero]
          rw [e, List.map_map]
          exact hr
        have := run_ok hB hb 40 _ (by simp) (fun p hp => by
          obtain ⟨x, hx, rfl⟩ := List.mem_map.1 hp
          have := List.mem_range.1 hx
          exact ⟨by show x + z < 2 ^ 31; omega, Nat.zero_le _⟩) hr' (s, 0) (List.mem_map.2 ⟨s - z, List.mem_range.2 (by omega), by simp; omega⟩)
        exact this.resolve_left (by simp)
      · exact chk_ok hB hb n (z + 2 ^ m) (by omega) h s (by omega) (by omega)
def B2 (O Y Z : Nat) : Nat := (Y + Z) &&& O
def b2 (y z : Nat) : Nat := (y + z) &&& 1
theorem b2_le (y z : Nat) : b2 y z ≤ 1 := Nat.and_le_right
theorem B2_ok (n : Nat) (L : List (Nat × Nat)) (hn : L.length = n) (hs : ∀ p, p ∈ L → p.1 < 2 ^ 31 ∧ p.2 < 2 ^ 31) : B2 (rep n 1) (pack (L.map (·.1))) (pack (L.map (·.2))) = pack (L.map fun p => b2 p.1 p.2) := by
  unfold B2
  rw [pack_add (by simp), zip_mapP (h := (· + ·))]
  have := and_rep (c := 1) (by decide) (l := L.map fun p => p.1 + p.2) (fun x hx => by
    obtain ⟨p, hp, rfl⟩ := List.mem_map.1 hx
    have := hs p hp; omega)
  rw [List.length_map, hn, List.map_map] at this
  rw [this]; rfl

def f1 (w : Nat) : Nat := (w &&& 65535) + ((w >>> 16) &&& 131071)
def f2 (w : Nat) : Nat := (w &&& 255) + ((w >>> 8) &&& 1023)
def f3 (w : Nat) : Nat := (w &&& 15) + ((w >>> 4) &&& 127)
def b3 (y z : Nat) : Nat := ((((f3 (f2 (f1 (y + z * 2)))) * 171 &&& 511) + 448) >>> 9) &&& 1
theorem b3_le (y z : Nat) : b3 y z ≤ 1 := Nat.and_le_right
theorem b3_hit {y z : Nat} (hy : y < 2 ^ 31) (hz : z < 2 ^ 31) (h : b3 y z = 1) : y % 3 ≠ z % 3 := by
  have e1 : ∀ w, w < 2 ^ 33 → f1 w = w % 65536 + w / 65536 := fun w hw => by
    unfold f1
    rw [show (65535 : Nat) = 2 ^ 16 - 1 by rfl, Nat.and_two_pow_sub_one_eq_mod, show (131071 : Nat) = 2 ^ 17 - 1 by rfl, Nat.and_two_pow_sub_one_eq_mod, Nat.shiftRight_eq_div_pow]
    omega
  have e2 : ∀ w, w < 2 ^ 18 → f2 w = w % 256 + w / 256 := fun w hw => by
    unfold f2
    rw [show (255 : Nat) = 2 ^ 8 - 1 by rfl, Nat.and_two_pow_sub_one_eq_mod, show (1023 : Nat) = 2 ^ 10 - 1 by rfl, Nat.and_two_pow_sub_one_eq_mod, Nat.shiftRight_eq_div_pow]
    omega
  have e3 : ∀ w, w < 2 ^ 11 → f3 w = w % 16 + w / 16 := fun w hw => by
    unfold f3
    rw [show (15 : Nat) = 2 ^ 4 - 1 by rfl, Nat.and_two_pow_sub_one_eq_mod, show (127 : Nat) = 2 ^ 7 - 1 by rfl, Nat.and_two_pow_sub_one_eq_mod, Nat.shiftRight_eq_div_pow]
    omega
  unfold b3 at h
  rw [Nat.and_one_is_mod, Nat.shiftRight_eq_div_pow, show (511 : Nat) = 2 ^ 9 - 1 by rfl, Nat.and_two_pow_sub_one_eq_mod] at h
  obtain ⟨w, hw⟩ : ∃ w, w = y + z * 2 := ⟨_, rfl⟩
  rw [← hw] at h
  have w33 : w < 2 ^ 33 := by omega
  have h1 := e1 w w33
  obtain ⟨w1, hw1⟩ : ∃ x, x = f1 w := ⟨_, rfl⟩
  rw [← hw1] at h h1
  have h2 := e2 w1 (by omega)
  obtain ⟨w2, hw2⟩ : ∃ x, x = f2 w1 := ⟨_, rfl⟩
  rw [← hw2] at h h2
  have h3 := e3 w2 (by omega)
  obtain ⟨w3, hw3⟩ : ∃ x, x = f3 w2 := ⟨_, rfl⟩
  rw [← hw3] at h h3
  have m : w3 % 3 = w % 3 := by
    have a1 : w1 % 3 = w % 3 := by omega
    have a2 : w2 % 3 = w1 % 3 := by omega
    have a3 : w3 % 3 = w2 % 3 := by omega
    omega
  have b : w3 < 128 := by omega
  have key : ∀ v, v < 128 → (v * 171 % 2 ^ 9 + 448) / 2 ^ 9 % 2 = 1 → v % 3 ≠ 0 := by decide
  have := key w3 b h
  clear h1 h2 h3 hw1 hw2 hw3 e1 e2 e3 h key
  omega
def fold (O k c1 c2 W : Nat) : Nat := (W &&& (c1 * O)) + ((W >>> k) &&& (c2 * O))
theorem fold_ok {k c1 c2 : Nat} (hk : k ≤ 48) (h1 : c1 < 2 ^ 48) (h2 : c2 < 2 ^ (48 - k)) {l : List Nat} (hl : Small 48 l) : fold (rep l.length 1) k c1 c2 (pack l) = pack (l.map fun x => (x &&& c1) + ((x >>> k) &&& c2)) := by
  unfold fold
  rw [mul_rep, mul_rep, and_rep h1 hl, shift_rep hk h2 hl, pack_add (by simp), zip_map (h := (· + ·))]
def B3 (O Y Z : Nat) : Nat := (((fold O 4 15 127 (fold O 8 255 1023 (fold O 16 65535 131071 (Y + Z * 2)))) * 171 &&& (511 * O)) + 448 * O) >>> 9 &&& O
theorem B3_ok (n : Nat) (L : List (Nat × Nat)) (hn : L.length = n) (hs : ∀ p, p ∈ L → p.1 < 2 ^ 31 ∧ p.2 < 2 ^ 31) : B3 (rep n 1) (pack (L.map (·.1))) (pack (L.map (·.2))) = pack (L.map fun p => b3 p.1 p.2) := by
  have hW : pack (L.map (·.1)) + pack (L.map (·.2)) * 2 = pack (L.map fun p => p.1 + p.2 * 2) := by
    rw [pack_mul, List.map_map, pack_add (by simp), zip_mapP (h := (· + ·))]; rfl
  have bd : ∀ (a b x : Nat), (x &&& a) + b ≤ a + b := fun a b x => Nat.add_le_add_right Nat.and_le_right b
  have bnd : ∀ (k a b x : Nat), (x &&& a) + ((x >>> k) &&& b) ≤ a + b := fun k a b x => Nat.add_le_add Nat.and_le_right Nat.and_le_right
  have s0 : Small 48 (L.map fun p => p.1 + p.2 * 2) := fun x hx => by
    obtain ⟨p, hp, rfl⟩ := List.mem_map.1 hx
    have := hs p hp; omega
  have k1 := fold_ok (k := 16) (c1 := 65535) (c2 := 131071) (by omega) (by decide) (by decide) s0
  rw [List.length_map, hn, List.map_map] at k1
  have s1 : Small 48 (L.map ((fun x => (x &&& 65535) + ((x >>> 16) &&& 131071)) ∘ fun p => p.1 + p.2 * 2)) := fun x hx => by
    obtain ⟨p, hp, rfl⟩ := List.mem_map.1 hx
    exact Nat.lt_of_le_of_lt (bnd _ _ _ _) (by decide)
  have k2 := fold_ok (k := 8) (c1 := 255) (c2 := 1023) (by omega) (by decide) (by decide) s1
  rw [List.length_map, hn, List.map_map] at k2
  have s2 : Small 48 (L.map ((fun x => (x &&& 255) + ((x >>> 8) &&& 1023)) ∘ ((fun x => (x &&& 65535) + ((x >>> 16) &&& 131071)) ∘ fun p => p.1 + p.2 * 2))) := fun x hx => by
    obtain ⟨p, hp, rfl⟩ := List.mem_map.1 hx
    exact Nat.lt_of_le_of_lt (bnd _ _ _ _) (by decide)
  have k3 := fold_ok (k := 4) (c1 := 15) (c2 := 127) (by omega) (by decide) (by decide) s2
  rw [List.length_map, hn, List.map_map] at k3
  unfold B3
  rw [hW, k1, k2, k3, pack_mul, List.map_map]
  generalize hF : (fun x => x * 171) ∘ ((fun x => (x &&& 15) + ((x >>> 4) &&& 127)) ∘ ((fun x => (x &&& 255) + ((x >>> 8) &&& 1023)) ∘ ((fun x => (x &&& 65535) + ((x >>> 16) &&& 131071)) ∘ fun (p : Nat × Nat) => p.1 + p.2 * 2))) = F
  have sF : Small 48 (L.map F) := fun x hx => by
    obtain ⟨p, hp, rfl⟩ := List.mem_map.1 hx
    rw [← hF]
    exact Nat.lt_of_le_of_lt (Nat.mul_le_mul_right 171 (bnd _ _ _ _)) (by decide)
  have k4 := and_rep (c := 511) (by decide) sF
  rw [List.length_map, hn, List.map_map] at k4
  rw [mul_rep, mul_rep, k4]
  have k5 := add_rep 448 (L.map ((fun x => x &&& 511) ∘ F))
  rw [List.length_map, hn, List.map_map] at k5
  rw [k5]
  have s5 : Small 48 (L.map ((fun x => x + 448) ∘ ((fun x => x &&& 511) ∘ F))) := fun x hx => by
    obtain ⟨p, hp, rfl⟩ := List.mem_map.1 hx
    exact Nat.lt_of_le_of_lt (Nat.add_le_add_right Nat.and_le_right 448) (by decide)
  have k6 := shift_rep (k := 9) (c := 1) (by omega) (by decide) s5
  rw [List.length_map, hn, List.map_map] at k6
  rw [k6, ← hF]
  rfl
/-- every seed from lo up to hi is met -/
def cov (b : Nat → Nat → Nat) (lo hi : Nat) : Prop := ∀ s, lo ≤ s → s < hi → met b 40 s
theorem cov_trans {b : Nat → Nat → Nat} {lo mid hi : Nat} (h1 : cov b lo mid) (h2 : cov b mid hi) : cov b lo hi := fun s a c => by
  by_cases h : s < mid
  · exact h1 s a h
  · exact h2 s (by omega) c
theorem cov2 {z z' : Nat} (h : chk B2 (2 ^ 14) (2147483647 * one 14) (131071 * one 14) (one 14) (idx 14) 50 z = true) (e : z + 50 * 2 ^ 14 = z') (hz : z' ≤ 2 ^ 31) : cov b2 z z' := fun s a c =>
  chk_ok (b := b2) (B2_ok (2 ^ 14)) b2_le 50 z (by rw [e]; exact hz) h s a (by rw [e]; exact c)
theorem cov3 {z z' : Nat} (h : chk B3 (2 ^ 14) (2147483647 * one 14) (131071 * one 14) (one 14) (idx 14) 50 z = true) (e : z + 50 * 2 ^ 14 = z') (hz : z' ≤ 2 ^ 31) : cov b3 z z' := fun s a c =>
  chk_ok (b := b3) (B3_ok (2 ^ 14)) b3_le 50 z (by rw [e]; exact hz) h s a (by rw [e]; exact c)
end Simd
end Go.Proofs.Ytlnagcdnnaffgaa
