/-
  Contracts: numerals read, texts cut.
-/
import Derived.Test.YtjglhhogoaeajaaDoorVText
import Derived.Test.YtjglhhogoaeajaaDoorVDec
import Derived.Test.YtjglhhogoaeajaaDoorLibR
namespace Go.Proofs.YtjglhhogoaeajaaDoor
open Go.RowKit
set_option linter.unusedSimpArgs false
set_option linter.unusedVariables false
/-- one in, two out -/
theorem conF12 [B : Base] {P : Program} {f : Nat} {t1 r1 r2 : TC} {pre : HI [(false, .v t1)] → Prop} {o : t1.D → r1.D × r2.D} (h1 : flat1 t1 = true) (g1 : flat1 r1 = true) (g2 : flat1 r2 = true)
    (hf : ∃ fn c, P.funcs[f]? = some fn ∧ (fn.name == "runtime.NumGoroutine") = false ∧ fn.body = some c)
    (h : ∀ (a : t1.D) (w : World), OldOk w → pre (a, ()) → Calls P f #[val1 t1 a] w fun e w' => e = .returned (.tuple #[val1 r1 (o a).1, val1 r2 (o a).2]) ∧ Below w.heap.size w w') :
    ConOk P f ⟨[(false, .v t1)], [(false, .v r1), (false, .v r2)], false, pre, fun x => ((o x.1).1, (o x.1).2, ()), fun x => x⟩ := by
  refine ⟨hf, fun O w args x bs hold _ hO hO2 hbs hA hpre => ?_⟩
  obtain ⟨v, vs, b1, b2, rfl, rfl, _, ⟨us, hv, hb1, hr⟩, rfl, rfl⟩ := hA
  subst hb1
  have e1 := (rep_flat h1).1 hr
  obtain rfl := valC_one hv e1
  refine (h x.1 w hold hpre).mono ?_
  rintro e w' ⟨rfl, hb⟩
  refine ⟨[val1 r1 (o x.1).1, val1 r2 (o x.1).2], [], rfl, ?_, ?_, belowM_of hb⟩
  · exact ⟨_, _, [], [], rfl, rfl, by simp, ⟨[_], .inr ⟨rfl, rfl⟩, rfl, (rep_flat g1).2 rfl⟩, _, _, [], [], rfl, rfl, by simp, ⟨[_], .inr ⟨rfl, rfl⟩, rfl, (rep_flat g2).2 rfl⟩, rfl, rfl⟩
  · exact ⟨_, _, rfl, ⟨us, hv, by rw [e1]; exact flat_n h1, trivial⟩, trivial⟩
def cutD (s p : ByteArray) : ByteArray × ByteArray × Bool := (⟨(Lib.cut s.data.toList p.data.toList).1.toArray⟩, ⟨(Lib.cut s.data.toList p.data.toList).2.1.toArray⟩, (Lib.cut s.data.toList p.data.toList).2.2)
def c_impl_readDecimal : Con where
  ins := [(false, .v .s)]
  outs := [(false, .v tI), (false, .v .b)]
  sh := false
  pre := fun x => (x.1).size ≤ 281474976710656
  out := fun x => ((readD x.1).1, (readD x.1).2, ())
  upd := fun x => x
def c_strings_Cut : Con where
  ins := [(false, .v .s), (false, .v .s)]
  outs := [(false, .v .s), (false, .v .s), (false, .v .b)]
  sh := false
  pre := fun x => (x.1).size < 4294967281
  out := fun x => ((cutD x.1 x.2.1).1, (cutD x.1 x.2.1).2.1, (cutD x.1 x.2.1).2.2, ())
  upd := fun x => x
theorem k_impl_readDecimal [B : Base] : ConOk Tryd.prog 13 c_impl_readDecimal :=
  conF12 (t1 := .s) (r1 := .i .i64) (r2 := .b) (pre := c_impl_readDecimal.pre) (o := fun s => readD s) rfl rfl rfl ⟨_, _, Tryd.func13, by kernel_rfl, rfl⟩ fun s w hold hp => readDecimal_calls hp hold
theorem k_strings_Cut [B : Base] : ConOk Tryd.prog 12 c_strings_Cut :=
  conF23 (t1 := .s) (t2 := .s) (r1 := .s) (r2 := .s) (r3 := .b) (pre := c_strings_Cut.pre) (o := fun s p => cutD s p) rfl rfl rfl rfl rfl ⟨_, _, Tryd.func12, by kernel_rfl, rfl⟩ fun s p w hold hp => by
    obtain ⟨m, hm⟩ := Tryd.laysM145.s1_3 B.W B.ok.2
    refine (Any.strings_Cut { Tryd.laysM145 with } s p m w hp (cell_old hold hm)).mono ?_
    rintro e w' ⟨rfl, n, rfl⟩
    exact ⟨rfl, xDrewN (Below.refl _ _) n⟩
/-- digits read from the left: at most k, and the number before a digit at most 10^17 -/
def digR : Nat → Int → List UInt8 → Option Int
  | 0, n, _ => some n
  | _ + 1, n, [] => some n
  | k + 1, n, c :: r => if 48 ≤ c.toNat ∧ c.toNat ≤ 57 ∧ n ≤ 100000000000000000 then digR k (10 * n + ((c.toNat : Int) - 48)) r else none
def sgnL : List UInt8 → Bool
  | c :: _ => c == 45
  | [] => false
/-- l09Read -/
def l09D (s : ByteArray) : Int :=
  if sgnL s.data.toList = true then -((digR 19 0 (s.data.toList.drop 1)).getD 0) else (digR 19 0 s.data.toList).getD 0
theorem byteAt_list (s : ByteArray) (j : Nat) : byteAt s j = ((s.data.toList.getD j 0).toNat : Int) := rfl
theorem byteAt_cons {s : ByteArray} {k : Nat} (h : k < s.size) : ∃ c : UInt8, s.data.toList.drop k = c :: s.data.toList.drop (k + 1) ∧ byteAt s k = (c.toNat : Int) := by
  rw [Lib.size_eq] at h
  refine ⟨s.data.toList[k], List.drop_eq_getElem_cons h, ?_⟩
  unfold byteAt
  rw [Int.toNat_natCast, List.getD_eq_getElem?_getD, List.getElem?_eq_getElem h]; rfl
def RdI (s : ByteArray) (n f i : Int) : Prop :=
  ∃ fr k : Nat, f = fr ∧ i = (fr + k : Nat) ∧ fr = (if sgnL s.data.toList = true then 1 else 0) ∧ k ≤ 19 ∧ fr + k ≤ s.size ∧ digR 19 0 (s.data.toList.drop fr) = digR (19 - k) n (s.data.toList.drop (fr + k)) ∧ 0 ≤ n ∧ n ≤ 1000000000000000009
theorem l09D_eq (s : ByteArray) : l09D s = if sgnL s.data.toList = true then -((digR 19 0 (s.data.toList.drop 1)).getD 0) else (digR 19 0 (s.data.toList.drop 0)).getD 0 := rfl
theorem sgnL_iff {s : ByteArray} : sgnL s.data.toList = true ↔ 0 < s.size ∧ byteAt s 0 = 45 := by
  have hb : byteAt s 0 = ((s.data.toList.getD 0 0).toNat : Int) := rfl
  rw [hb, Lib.size_eq]
  cases s.data.toList with
  | nil => simp [sgnL]
  | cons c r =>
    simp only [sgnL, List.getD_cons_zero, List.length_cons, beq_iff_eq]
    refine ⟨fun h => ⟨by omega, by rw [h]; rfl⟩, fun h => ?_⟩
    have := h.2
    exact UInt8.toNat_inj.1 (by have : (45 : UInt8).toNat = 45 := rfl; omega)
def c_spec_l09Read : Con where
  ins := [(false, .v .s)]
  outs := [(false, .v tI)]
  sh := false
  pre := fun _ => True
  out := fun x => (l09D x.1, ())
  upd := fun x => x
theorem k_spec_l09Read [B : Base] : ConOk Tryd.prog 9 c_spec_l09Read := by
  refine fn_ok (C := cx Tryd.prog 49 c_spec_l09Read) (cs := [(16, c_spec_l01In)]) (res := Tryd.f9.results.toList) (fun x => ⟨[{ sh := ⟨[(0, .one .s), (3, .one (.i .i64)), (4, .one (.i .i64)), (5, .one (.i .i64))], []⟩, nx := 0, I := fun _ dat_ => (x.1 = dat_.1.1) ∧ (RdI x.1 dat_.1.2.1 dat_.1.2.2.1 dat_.1.2.2.2.1), mu := fun dat_ => Int.toNat (dat_.1.2.2.1 + 19 - dat_.1.2.2.2.1) }], [], []⟩) Tryd.func9 (by kernel_rfl) rfl rfl rfl tysOk.look eqTsOk.look (AllCs.ok (l := [(16, c_spec_l01In)]) ⟨k_spec_l01In, trivial⟩) mixed rfl rfl rfl ?_
  refine of_nf (P := ∀ s : ByteArray, (True) → ((lensI c_spec_l09Read.ins (s, ())) → (bsp (decide ((0 : Int) < (ByteArray.size s : Int))) ((0 ≤ (0 : Int) ∧ 0 < (ByteArray.size s : Int)) ∧ (bsp (decide ((byteAt s 0) = (45 : Int))) (((s = s) ∧ (RdI s (0 : Int) (1 : Int) (1 : Int))) ∧ (∀ t0 : ByteArray, ∀ n : Int, ∀ f : Int, ∀ i : Int, ((s = t0) ∧ (RdI s n f i)) → (bsp (decide (i < (ByteArray.size t0 : Int))) ((inK .i64 (f + 19)) ∧ (bsp (decide (i < (f + 19))) ((0 ≤ i ∧ i < (ByteArray.size t0 : Int)) ∧ ((inK .i64 (byteAt t0 i)) ∧ ((inK .i64 ((byteAt t0 i) - 48)) ∧ (True ∧ (bsp (!(inB ((byteAt t0 i) - 48) (0 : Int) (9 : Int))) (@Eq (HO c_spec_l09Read.outs) (0, ()) (c_spec_l09Read.out (s, ()))) (bsp (decide ((100000000000000000 : Int) < n)) (@Eq (HO c_spec_l09Read.outs) (0, ()) (c_spec_l09Read.out (s, ()))) ((inK .i64 (10 * n)) ∧ ((inK .i64 ((10 * n) + ((byteAt t0 i) - 48))) ∧ ((inK .i64 (i + 1)) ∧ (((s = t0) ∧ (RdI s ((10 * n) + ((byteAt t0 i) - 48)) f (i + 1))) ∧ ((Int.toNat (f + 19 - (i + 1)) : Nat) < Int.toNat (f + 19 - i)))))))))))) (bsp (decide (f = (1 : Int))) ((inK .i64 (0 - n)) ∧ (@Eq (HO c_spec_l09Read.outs) ((0 - n), ()) (c_spec_l09Read.out (s, ())))) (@Eq (HO c_spec_l09Read.outs) (n, ()) (c_spec_l09Read.out (s, ())))))) (bsp (decide (f = (1 : Int))) ((inK .i64 (0 - n)) ∧ (@Eq (HO c_spec_l09Read.outs) ((0 - n), ()) (c_spec_l09Read.out (s, ())))) (@Eq (HO c_spec_l09Read.outs) (n, ()) (c_spec_l09Read.out (s, ()))))))) (((s = s) ∧ (RdI s (0 : Int) (0 : Int) (0 : Int))) ∧ (∀ t0 : ByteArray, ∀ n : Int, ∀ f : Int, ∀ i : Int, ((s = t0) ∧ (RdI s n f i)) → (bsp (decide (i < (ByteArray.size t0 : Int))) ((inK .i64 (f + 19)) ∧ (bsp (decide (i < (f + 19))) ((0 ≤ i ∧ i < (ByteArray.size t0 : Int)) ∧ ((inK .i64 (byteAt t0 i)) ∧ ((inK .i64 ((byteAt t0 i) - 48)) ∧ (True ∧ (bsp (!(inB ((byteAt t0 i) - 48) (0 : Int) (9 : Int))) (@Eq (HO c_spec_l09Read.outs) (0, ()) (c_spec_l09Read.out (s, ()))) (bsp (decide ((100000000000000000 : Int) < n)) (@Eq (HO c_spec_l09Read.outs) (0, ()) (c_spec_l09Read.out (s, ()))) ((inK .i64 (10 * n)) ∧ ((inK .i64 ((10 * n) + ((byteAt t0 i) - 48))) ∧ ((inK .i64 (i + 1)) ∧ (((s = t0) ∧ (RdI s ((10 * n) + ((byteAt t0 i) - 48)) f (i + 1))) ∧ ((Int.toNat (f + 19 - (i + 1)) : Nat) < Int.toNat (f + 19 - i)))))))))))) (bsp (decide (f = (1 : Int))) ((inK .i64 (0 - n)) ∧ (@Eq (HO c_spec_l09Read.outs) ((0 - n), ()) (c_spec_l09Read.out (s, ())))) (@Eq (HO c_spec_l09Read.outs) (n, ()) (c_spec_l09Read.out (s, ())))))) (bsp (decide (f = (1 : Int))) ((inK .i64 (0 - n)) ∧ (@Eq (HO c_spec_l09Read.outs) ((0 - n), ()) (c_spec_l09Read.out (s, ())))) (@Eq (HO c_spec_l09Read.outs) (n, ()) (c_spec_l09Read.out (s, ()))))))))) (((s = s) ∧ (RdI s (0 : Int) (0 : Int) (0 : Int))) ∧ (∀ t0 : ByteArray, ∀ n : Int, ∀ f : Int, ∀ i : Int, ((s = t0) ∧ (RdI s n f i)) → (bsp (decide (i < (ByteArray.size t0 : Int))) ((inK .i64 (f + 19)) ∧ (bsp (decide (i < (f + 19))) ((0 ≤ i ∧ i < (ByteArray.size t0 : Int)) ∧ ((inK .i64 (byteAt t0 i)) ∧ ((inK .i64 ((byteAt t0 i) - 48)) ∧ (True ∧ (bsp (!(inB ((byteAt t0 i) - 48) (0 : Int) (9 : Int))) (@Eq (HO c_spec_l09Read.outs) (0, ()) (c_spec_l09Read.out (s, ()))) (bsp (decide ((100000000000000000 : Int) < n)) (@Eq (HO c_spec_l09Read.outs) (0, ()) (c_spec_l09Read.out (s, ()))) ((inK .i64 (10 * n)) ∧ ((inK .i64 ((10 * n) + ((byteAt t0 i) - 48))) ∧ ((inK .i64 (i + 1)) ∧ (((s = t0) ∧ (RdI s ((10 * n) + ((byteAt t0 i) - 48)) f (i + 1))) ∧ ((Int.toNat (f + 19 - (i + 1)) : Nat) < Int.toNat (f + 19 - i)))))))))))) (bsp (decide (f = (1 : Int))) ((inK .i64 (0 - n)) ∧ (@Eq (HO c_spec_l09Read.outs) ((0 - n), ()) (c_spec_l09Read.out (s, ())))) (@Eq (HO c_spec_l09Read.outs) (n, ()) (c_spec_l09Read.out (s, ())))))) (bsp (decide (f = (1 : Int))) ((inK .i64 (0 - n)) ∧ (@Eq (HO c_spec_l09Read.outs) ((0 - n), ()) (c_spec_l09Read.out (s, ())))) (@Eq (HO c_spec_l09Read.outs) (n, ()) (c_spec_l09Read.out (s, ())))))))))) (by kernel_rfl) ?_
  rintro s hp hl
  have hD := l09D_eq s
  have hsg := sgnL_iff (s := s)
  have out : ∀ r, l09D s = r → @Eq (HO c_spec_l09Read.outs) (r, ()) (c_spec_l09Read.out (s, ())) := fun r h => by subst h; rfl
  have in1 : 0 < s.size → byteAt s 0 = 45 → RdI s 0 1 1 := fun h h' => ⟨1, 0, rfl, rfl, by rw [if_pos (hsg.2 ⟨h, h'⟩)], by omega, by omega, rfl, by omega, by omega⟩
  have in0 : ¬ (0 < s.size ∧ byteAt s 0 = 45) → RdI s 0 0 0 := fun h => ⟨0, 0, rfl, rfl, by rw [if_neg (fun e => h (hsg.1 e))], by omega, by omega, rfl, by omega, by omega⟩
  refine bspD (fun h0 => ⟨⟨by omega, by omega⟩, bspD (fun hb => ⟨⟨(by first | trivial | rfl | (and_intros <;> rfl)), in1 (by omega) hb⟩, ?_⟩) (fun hb => ⟨⟨(by first | trivial | rfl | (and_intros <;> rfl)), in0 (fun e => hb e.2)⟩, ?_⟩)⟩) (fun h0 => ⟨⟨(by first | trivial | rfl | (and_intros <;> rfl)), in0 (fun e => h0 (by omega))⟩, ?_⟩)
  all_goals
    rintro t0 n f i ⟨rfl, ⟨fr, k, rfl, rfl, hfr, hk, hsz, he, n0, n1⟩⟩
    have hf1 : fr ≤ 1 := by rw [hfr]; split <;> omega
    have fin : (digR 19 0 (s.data.toList.drop fr)) = some n → bsp (decide ((fr : Int) = 1)) (inK .i64 (0 - n) ∧ @Eq (HO c_spec_l09Read.outs) (0 - n, ()) (c_spec_l09Read.out (s, ()))) (@Eq (HO c_spec_l09Read.outs) (n, ()) (c_spec_l09Read.out (s, ()))) := fun h => by
      refine bspD (fun h1 => ⟨by simp only [inK]; omega, out _ ?_⟩) (fun h1 => out _ ?_)
      · by_cases hg : sgnL s.data.toList = true
        · rw [if_pos hg] at hfr hD; subst hfr; rw [hD, h]; simp
        · rw [if_neg hg] at hfr; omega
      · by_cases hg : sgnL s.data.toList = true
        · rw [if_pos hg] at hfr; omega
        · rw [if_neg hg] at hfr hD; subst hfr; rw [hD, h]; rfl
    have bad : (digR 19 0 (s.data.toList.drop fr)) = none → @Eq (HO c_spec_l09Read.outs) (0, ()) (c_spec_l09Read.out (s, ())) := fun h => by
      refine out _ ?_
      by_cases hg : sgnL s.data.toList = true
      · rw [if_pos hg] at hfr hD; subst hfr; rw [hD, h]; rfl
      · rw [if_neg hg] at hfr hD; subst hfr; rw [hD, h]; rfl
    refine bspD (fun hlt => ⟨by simp only [inK]; omega, bspD (fun h19 => ?_) (fun h19 => ?_)⟩) (fun hge => ?_)
    · obtain ⟨c, hc, hbc⟩ := byteAt_cons (s := s) (k := fr + k) (by omega)
      have hcl := c.toNat_lt
      obtain ⟨q, hq⟩ : ∃ q, 19 - k = q + 1 := ⟨18 - k, by omega⟩
      rw [hc, hq, digR] at he
      rw [hbc]
      refine ⟨⟨by omega, by omega⟩, by simp only [inK]; omega, by simp only [inK]; omega, trivial, bspB (fun hb => ?_) (fun hb => bspD (fun hbig => ?_) (fun hbig => ?_))⟩
      · rw [if_neg (fun e => by simp only [inB, Bool.not_eq_true', Bool.and_eq_false_iff, decide_eq_false_iff_not] at hb; omega)] at he
        exact bad he
      · rw [if_neg (fun e => by omega)] at he
        exact bad he
      · simp only [inB, Bool.not_eq_false', Bool.and_eq_true, decide_eq_true_eq] at hb
        rw [if_pos (by omega)] at he
        refine ⟨by simp only [inK]; omega, by simp only [inK]; omega, by simp only [inK]; omega, ⟨(by first | trivial | rfl | (and_intros <;> rfl)), fr, k + 1, rfl, by omega, hfr, by omega, by omega, ?_, by omega, by omega⟩, by omega⟩
        rw [he, show 19 - (k + 1) = q by omega]; rfl
    · obtain rfl : k = 19 := by omega
      exact fin (by rw [he]; rfl)
    · have hdr : s.data.toList.drop (fr + k) = [] := List.drop_eq_nil_of_le (by rw [← Lib.size_eq]; omega)
      rw [hdr] at he
      exact fin (by rw [he]; cases 19 - k <;> rfl)
theorem digR_app {k : Nat} : ∀ {l : List UInt8} {k : Nat} {acc a : Int} (r : List UInt8), l.length ≤ k → digR k acc l = some a → digR k acc (l ++ r) = digR (k - l.length) a r
  | [], k, acc, a, r, _, h => by
    have : acc = a := by cases k <;> simpa [digR] using h
    subst this; rfl
  | c :: l, 0, acc, a, r, hk, h => by simp at hk
  | c :: l, k + 1, acc, a, r, hk, h => by
    simp only [digR, List.cons_append, List.length_cons] at h hk ⊢
    split at h
    · next hc =>
      rw [if_pos hc, digR_app (k := k) r (by omega) h]
      congr 1; omega
    · cases h
theorem digR_dec {u : Nat} : u ≤ 1000000000000000000 → digR 19 0 (Lib.decDigits u) = some (u : Int) := by
  induction u using Nat.strongRecOn with
  | ind u ih =>
    intro hu
    by_cases h : u < 10
    · rw [Lib.decDigits_one h]
      simp only [digR, byte_dig h]
      rw [if_pos (by omega)]
      congr 1; omega
    · have hl := decDigits_len (k := 17) (u := u / 10) (by omega)
      rw [decDigits_rec (by omega), digR_app (k := 19) _ (by omega) (ih (u / 10) (by omega) (by omega))]
      obtain ⟨q, hq⟩ : ∃ q, 19 - (Lib.decDigits (u / 10)).length = q + 1 := ⟨18 - (Lib.decDigits (u / 10)).length, by omega⟩
      rw [hq]
      simp only [digR, byte_dig (Nat.mod_lt u (show 0 < 10 by decide))]
      rw [if_pos (by omega)]
      have e : (10 : Int) * ((u / 10 : Nat) : Int) + (((48 + u % 10 : Nat) : Int) - 48) = (u : Int) := by omega
      rw [e]
      cases q <;> rfl
theorem l09D_decS {x : Int} (h0 : -1000000000000000000 ≤ x) (h1 : x ≤ 1000000000000000000) : l09D (decS x) = x := by
  unfold l09D
  rw [decS_list, itoa_abs]
  by_cases h : x < 0
  · rw [if_pos h]
    have e : sgnL ([45] ++ Lib.decDigits x.natAbs) = true := rfl
    rw [if_pos e]
    have e2 : ([45] ++ Lib.decDigits x.natAbs).drop 1 = Lib.decDigits x.natAbs := rfl
    rw [e2, digR_dec (u := x.natAbs) (by omega)]
    simp only [Option.getD_some]; omega
  · rw [if_neg h, List.nil_append]
    obtain ⟨c, r, hc⟩ := List.exists_cons_of_ne_nil (decDigits_ne x.natAbs)
    have hd := decDigits_dig x.natAbs c (by rw [hc]; simp)
    have e : sgnL (Lib.decDigits x.natAbs) = false := by
      rw [hc]; simp only [sgnL, beq_eq_false_iff_ne]
      intro h; rw [h] at hd; exact absurd hd.1 (by decide)
    rw [if_neg (show ¬ sgnL (Lib.decDigits x.natAbs) = true by rw [e]; decide), digR_dec (by omega)]
    simp only [Option.getD_some]; omega
end Go.Proofs.YtjglhhogoaeajaaDoor
