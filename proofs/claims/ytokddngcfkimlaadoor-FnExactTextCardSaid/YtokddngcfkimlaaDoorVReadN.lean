/-
  Contracts: numerals read, texts cut.
-/
import Derived.Test.YtokddngcfkimlaaDoorVText
import Derived.Test.YtokddngcfkimlaaDoorVDec
import Derived.Test.YtokddngcfkimlaaDoorLibR
namespace Go.Proofs.YtokddngcfkimlaaDoor
open Go.RowKit
set_option linter.unusedSimpArgs false
set_option linter.unusedVariables false
/-- one in, two out -/
theorem conF12 [B : Base] {P : Program} {f : Nat} {t1 r1 r2 : TC} {pre : HI [(false, .v t1)] → Prop} {o : t1.D → r1.D × r2.D} (h1 : flat1 t1 = true) (g1 : flat1 r1 = true) (g2 : flat1 r2 = true)
    (hf : ∃ fn c, P.funcs[f]? = some fn ∧ (fn.name == "runtime.NumGoroutine") = false ∧ fn.body = some c)
    (h : ∀ (a : t1.D) (w : World), OldOk w → pre (a, ()) → Calls P f #[val1 t1 a] w fun e w' => e = .returned (.tuple #[val1 r1 (o a).1, val1 r2 (o a).2]) ∧ Below w.heap.size w w') :
    ConOk P f ⟨[(false, .v t1)], [(false, .v r1), (false, .v r2)], false, pre, fun x => ((o x.1).1, (o x.1).2, ()), fun x => x⟩ := by
  refine ⟨hf, fun O w args x bs hold _ hO hO2 hbs hA hpre => ?_⟩
  obtain ⟨v, vs, b1, b2, rfl, rfl, _, ⟨us, hv, hb1, hr⟩, rfl, rfl⟩ := hA
  subst hb1
  have e1 := (rep_flat h1).1 hr
  obtain rfl := valC_one hv e1
  refine (h x.1 w hold hpre).mono ?_
  rintro e w' ⟨rfl, hb⟩
  refine ⟨[val1 r1 (o x.1).1, val1 r2 (o x.1).2], [], rfl, ?_, ?_, belowM_of hb⟩
  · exact ⟨_, _, [], [], rfl, rfl, by simp, ⟨[_], .inr ⟨rfl, rfl⟩, rfl, (rep_flat g1).2 rfl⟩, _, _, [], [], rfl, rfl, by simp, ⟨[_], .inr ⟨rfl, rfl⟩, rfl, (rep_flat g2).2 rfl⟩, rfl, rfl⟩
  · exact ⟨_, _, rfl, ⟨us, hv, by rw [e1]; exact flat_n h1, trivial⟩, trivial⟩
def cutD (s p : ByteArray) : ByteArray × ByteArray × Bool := (⟨(Lib.cut s.data.toList p.data.toList).1.toArray⟩, ⟨(Lib.cut s.data.toList p.data.toList).2.1.toArray⟩, (Lib.cut s.data.toList p.data.toList).2.2)
def c_impl_readDecimal : Con where
  ins := [(false, .v .s)]
  outs := [(false, .v tI), (false, .v .b)]
  sh := false
  pre := fun x => (x.1).size ≤ 281474976710656
  out := fun x => ((readD x.1).1, (readD x.1).2, ())
  upd := fun x => x
def c_strings_Cut : Con where
  ins := [(false, .v .s), (false, .v .s)]
  outs := [(false, .v .s), (false, .v .s), (false, .v .b)]
  sh := false
  pre := fun x => (x.1).size < 4294967281
  out := fun x => ((cutD x.1 x.2.1).1, (cutD x.1 x.2.1).2.1, (cutD x.1 x.2.1).2.2, ())
  upd := fun x => x
theorem k_impl_readDecimal [B : Base] : ConOk Tryd.prog 22 c_impl_readDecimal :=
  conF12 (t1 := .s) (r1 := .i .i64) (r2 := .b) (pre := c_impl_readDecimal.pre) (o := fun s => readD s) rfl rfl rfl ⟨_, _, Tryd.func22, by kernel_rfl, rfl⟩ fun s w hold hp => readDecimal_calls hp hold
theorem k_strings_Cut [B : Base] : ConOk Tryd.prog 21 c_strings_Cut :=
  conF23 (t1 := .s) (t2 := .s) (r1 := .s) (r2 := .s) (r3 := .b) (pre := c_strings_Cut.pre) (o := fun s p => cutD s p) rfl rfl rfl rfl rfl ⟨_, _, Tryd.func21, by kernel_rfl, rfl⟩ fun s p w hold hp => by
    obtain ⟨m, hm⟩ := Tryd.laysM145.s1_3 B.W B.ok.2
    refine (Any.strings_Cut { Tryd.laysM145 with } s p m w hp (cell_old hold hm)).mono ?_
    rintro e w' ⟨rfl, n, rfl⟩
    exact ⟨rfl, xDrewN (Below.refl _ _) n⟩
/-- digits read from the left: at most k, and the number before a digit at most 10^17 -/
def digR : Nat → Int → List UInt8 → Option Int
  | 0, n, _ => some n
  | _ + 1, n, [] => some n
  | k + 1, n, c :: r => if 48 ≤ c.toNat ∧ c.toNat ≤ 57 ∧ n ≤ 100000000000000000 then digR k (10 * n + ((c.toNat : Int) - 48)) r else none
def sgnL : List UInt8 → Bool
  | c :: _ => c == 45
  | [] => false
/-- l09Read -/
def l09D (s : ByteArray) : Int :=
  if sgnL s.data.toList = true then -((digR 19 0 (s.data.toList.drop 1)).getD 0) else (digR 19 0 s.data.toList).getD 0
theorem byteAt_list (s : ByteArray) (j : Nat) : byteAt s j = ((s.data.toList.getD j 0).toNat : Int) := rfl
theorem byteAt_cons {s : ByteArray} {k : Nat} (h : k < s.size) : ∃ c : UInt8, s.data.toList.drop k = c :: s.data.toList.drop (k + 1) ∧ byteAt s k = (c.toNat : Int) := by
  rw [Lib.size_eq] at h
  refine ⟨s.data.toList[k], List.drop_eq_getElem_cons h, ?_⟩
  unfold byteAt
  rw [Int.toNat_natCast, List.getD_eq_getElem?_getD, List.getElem?_eq_getElem h]; rfl
def RdI (s : ByteArray) (n f i : Int) : Prop :=
  ∃ fr k : Nat, f = fr ∧ i = (fr + k : Nat) ∧ fr = (if sgnL s.data.toList = true then 1 else 0) ∧ k ≤ 19 ∧ fr + k ≤ s.size ∧ digR 19 0 (s.data.toList.drop fr) = digR (19 - k) n (s.data.toList.drop (fr + k)) ∧ 0 ≤ n ∧ n ≤ 1000000000000000009
theorem l09D_eq (s : ByteArray) : l09D s = if sgnL s.data.toList = true then -((digR 19 0 (s.data.toList.drop 1)).getD 0) else (digR 19 0 (s.data.toList.drop 0)).getD 0 := rfl
theorem sgnL_iff {s : ByteArray} : sgnL s.data.toList = true ↔ 0 < s.size ∧ byteAt s 0 = 45 := by
  have hb : byteAt s 0 = ((s.data.toList.getD 0 0).toNat : Int) := rfl
  rw [hb, Lib.size_eq]
  cases s.data.toList with
  | nil => simp [sgnL]
  | cons c r =>
    simp only [sgnL, List.getD_cons_zero, List.length_cons, beq_iff_eq]
    refine ⟨fun h => ⟨by omega, by rw [h]; rfl⟩, fun h => ?_⟩
    have := h.2
    exact UInt8.toNat_inj.1 (by have : (45 : UInt8).toNat = 45 := rfl; omega)
theorem digR_app {k : Nat} : ∀ {l : List UInt8} {k : Nat} {acc a : Int} (r : List UInt8), l.length ≤ k → digR k acc l = some a → digR k acc (l ++ r) = digR (k - l.length) a r
  | [], k, acc, a, r, _, h => by
    have : acc = a := by cases k <;> simpa [digR] using h
    subst this; rfl
  | c :: l, 0, acc, a, r, hk, h => by simp at hk
  | c :: l, k + 1, acc, a, r, hk, h => by
    simp only [digR, List.cons_append, List.length_cons] at h hk ⊢
    split at h
    · next hc =>
      rw [if_pos hc, digR_app (k := k) r (by omega) h]
      congr 1; omega
    · cases h
theorem digR_dec {u : Nat} : u ≤ 1000000000000000000 → digR 19 0 (Lib.decDigits u) = some (u : Int) := by
  induction u using Nat.strongRecOn with
  | ind u ih =>
    intro hu
    by_cases h : u < 10
    · rw [Lib.decDigits_one h]
      simp only [digR, byte_dig h]
      rw [if_pos (by omega)]
      congr 1; omega
    · have hl := decDigits_len (k := 17) (u := u / 10) (by omega)
      rw [decDigits_rec (by omega), digR_app (k := 19) _ (by omega) (ih (u / 10) (by omega) (by omega))]
      obtain ⟨q, hq⟩ : ∃ q, 19 - (Lib.decDigits (u / 10)).length = q + 1 := ⟨18 - (Lib.decDigits (u / 10)).length, by omega⟩
      rw [hq]
      simp only [digR, byte_dig (Nat.mod_lt u (show 0 < 10 by decide))]
      rw [if_pos (by omega)]
      have e : (10 : Int) * ((u / 10 : Nat) : Int) + (((48 + u % 10 : Nat) : Int) - 48) = (u : Int) := by omega
      rw [e]
      cases q <;> rfl
theorem l09D_decS {x : Int} (h0 : -1000000000000000000 ≤ x) (h1 : x ≤ 1000000000000000000) : l09D (decS x) = x := by
  unfold l09D
  rw [decS_list, itoa_abs]
  by_cases h : x < 0
  · rw [if_pos h]
    have e : sgnL ([45] ++ Lib.decDigits x.natAbs) = true := rfl
    rw [if_pos e]
    have e2 : ([45] ++ Lib.decDigits x.natAbs).drop 1 = Lib.decDigits x.natAbs := rfl
    rw [e2, digR_dec (u := x.natAbs) (by omega)]
    simp only [Option.getD_some]; omega
  · rw [if_neg h, List.nil_append]
    obtain ⟨c, r, hc⟩ := List.exists_cons_of_ne_nil (decDigits_ne x.natAbs)
    have hd := decDigits_dig x.natAbs c (by rw [hc]; simp)
    have e : sgnL (Lib.decDigits x.natAbs) = false := by
      rw [hc]; simp only [sgnL, beq_eq_false_iff_ne]
      intro h; rw [h] at hd; exact absurd hd.1 (by decide)
    rw [if_neg (show ¬ sgnL (Lib.decDigits x.natAbs) = true by rw [e]; decide), digR_dec (by omega)]
    simp only [Option.getD_some]; omega
end Go.Proofs.YtokddngcfkimlaaDoor
