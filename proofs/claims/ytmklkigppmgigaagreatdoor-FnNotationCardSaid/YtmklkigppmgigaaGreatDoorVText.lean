/-
  Contracts: decimal numerals.
-/
import Derived.Test.YtmklkigppmgigaaGreatDoorVBase
import Derived.Test.YtmklkigppmgigaaGreatDoorTab
namespace Go.Proofs.YtmklkigppmgigaaGreatDoor
open Go.RowKit
set_option linter.unusedSimpArgs false
set_option linter.unusedVariables false
def c_strconv_FormatInt : Con where
  ins := [(false, .v tI), (false, .v tI)]
  outs := [(false, .v .s)]
  sh := false
  pre := fun x => inK .i64 x.1 ∧ x.2.1 = 10
  out := fun x => (decS x.1, ())
  upd := fun x => x
theorem k_strconv_FormatInt [B : Base] : ConOk Tryz.prog 54 c_strconv_FormatInt :=
  conF21 (t1 := .i .i64) (t2 := .i .i64) (r1 := .s) (pre := c_strconv_FormatInt.pre) (o := fun n _ => decS n) rfl rfl rfl ⟨_, _, Tryz.func54, by kernel_rfl, rfl⟩ fun n b w hold hp => by
    obtain ⟨hn, hb⟩ : inK .i64 n ∧ b = 10 := hp
    subst hb
    simp only [inK] at hn
    refine (Any.strconv_FormatInt_10 Tryz.laysM173 n (by omega) (by omega) w (pow10Now hold)).mono ?_
    rintro e w' ⟨rfl, k, os, rfl⟩
    exact ⟨rfl, Lib.below_grow _ _ (Nat.le_refl _) _ _⟩
theorem bytes_ext {a b : ByteArray} (h : a.data.toList = b.data.toList) : a = b := by
  cases a with | mk a => cases b with | mk b => exact congrArg ByteArray.mk (Array.ext' h)
def slB : ByteArray := ByteArray.mk #[47]
def nilB : ByteArray := ByteArray.mk #[]
theorem app_size (a b : ByteArray) : (a ++ b).size = a.size + b.size := ByteArray.size_append
theorem app_assoc (a b c : ByteArray) : a ++ b ++ c = a ++ (b ++ c) := bytes_ext (by simp only [ByteArray.data_append, Array.toList_append, List.append_assoc])
theorem app_nil (a : ByteArray) : a ++ nilB = a := bytes_ext (by simp [ByteArray.data_append, nilB])
theorem decS_data (n : Int) : (decS n).data.toList = Lib.itoa n := by simp [decS]
theorem itoa_nat {n : Int} (h : 0 ≤ n) : Lib.itoa n = Lib.decDigits n.toNat := by unfold Lib.itoa; rw [if_neg (by omega)]
theorem decS_one {n : Int} (h : 0 ≤ n ∧ n < 10) : strOfNums [48 + n] = decS n := by
  refine bytes_ext ?_
  rw [strOfNums_data, decS_data, itoa_nat h.1, Lib.decDigits_one (by omega)]
  simp only [List.map_cons, List.map_nil]
  congr 2; omega
theorem decS_rec {n : Int} (h : 10 ≤ n) : decS (Int.tdiv n 10) ++ strOfNums [48 + Int.tmod n 10] = decS n := by
  refine bytes_ext ?_
  have e1 : Int.tdiv n 10 = n / 10 := Int.tdiv_eq_ediv_of_nonneg (by omega)
  have e2 : Int.tmod n 10 = n % 10 := Int.tmod_eq_emod_of_nonneg (by omega)
  rw [e1, e2, decS_data, itoa_nat (by omega)]
  have e3 : (n / 10).toNat = n.toNat / 10 := by omega
  have e4 : Lib.decDigits n.toNat = Lib.decDigits (n.toNat / 10) ++ [UInt8.ofNat (48 + n.toNat % 10)] := by
    rw [Lib.decDigits, dif_neg (by omega)]
  rw [e4, ByteArray.data_append, Array.toList_append, decS_data, itoa_nat (by omega), e3, strOfNums_data]
  simp only [List.map_cons, List.map_nil]
  congr 3; omega
theorem decS_size {n : Int} (h : inK .i64 n) : (decS n).size ≤ 21 := by
  simp only [inK] at h
  have := Lib.itoa_length_le n (by omega) (by omega)
  have e : (decS n).size = (Lib.itoa n).length := by simp [decS, ByteArray.size]
  omega
def c_impl_decimal : Con where
  ins := [(false, .v tI)]
  outs := [(false, .v .s)]
  sh := false
  pre := fun x => inK .i64 x.1
  out := fun x => (decS x.1, ())
  upd := fun x => x
theorem k_impl_decimal [B : Base] : ConOk Tryz.prog 36 c_impl_decimal := by
  refine fn_ok (C := cx Tryz.prog 5 c_impl_decimal) (cs := [(54, c_strconv_FormatInt)]) (res := Tryz.f36.results.toList) (fun _ => ⟨[], [], []⟩) Tryz.func36 (by kernel_rfl) rfl rfl rfl tysOk.look eqTsOk.look (AllCs.ok (l := [(54, c_strconv_FormatInt)]) ⟨k_strconv_FormatInt, trivial⟩) mixed rfl rfl rfl ?_
  refine of_nf (P := ∀ n : Int, (inK .i64 n) → ((lensI c_impl_decimal.ins (n, ())) → ((inK .i64 n ∧ (10 : Int) = 10) ∧ (@Eq (HO c_impl_decimal.outs) (decS n, ()) (c_impl_decimal.out (n, ())))))) (by kernel_rfl) ?_
  rintro n hp hl
  exact ⟨⟨hp, rfl⟩, rfl⟩
def c_spec_l01Numberx : Con where
  ins := [(false, .v tI)]
  outs := [(false, .v .s)]
  sh := false
  pre := fun _ => False
  out := fun x => (decS x.1, ())
  upd := fun x => x
theorem k_spec_l01Numberx [B : Base] : ConOk Tryz.prog 38 c_spec_l01Numberx := conFalse ⟨_, _, Tryz.func38, by kernel_rfl, rfl⟩ fun _ h => h
def c_spec_l01Number0 : Con where
  ins := [(false, .v tI)]
  outs := [(false, .v .s)]
  sh := false
  pre := fun x => 0 ≤ x.1 ∧ x.1 ≤ 9
  out := fun x => (decS x.1, ())
  upd := fun x => x
theorem k_spec_l01Number0 [B : Base] : ConOk Tryz.prog 38 c_spec_l01Number0 := by
  refine fn_ok (C := cx Tryz.prog 20 c_spec_l01Number0) (cs := [(38, c_spec_l01Numberx)]) (res := Tryz.f38.results.toList) (fun _ => ⟨[], [(3, ⟨[[], [0], [0, 1], [], [3], [3, 4], [3, 4, 5], [3, 4, 5, 6], [3, 4, 5, 6, 7], [0, 1, 2, 3, 4, 5, 6, 7, 8], [0, 1, 2, 3, 4, 5, 6, 7, 8, 9]], [[3, 4, 5, 6, 7, 8], [3, 4, 5, 6, 7, 8], [3, 4, 5, 6, 7, 8], [0, 1, 2], [0, 1, 2], [0, 1, 2], [0, 1, 2], [0, 1, 2], [0, 1, 2], [], []], []⟩)], []⟩) Tryz.func38 (by kernel_rfl) rfl rfl rfl tysOk.look eqTsOk.look (AllCs.ok (l := [(38, c_spec_l01Numberx)]) ⟨k_spec_l01Numberx, trivial⟩) mixed rfl rfl rfl ?_
  refine of_nf (P := ∀ n : Int, (0 ≤ n ∧ n ≤ 9) → ((lensI c_spec_l01Number0.ins (n, ())) → (bsp (decide (n < (10 : Int))) ((inK .i64 (48 + n)) ∧ ((inK .u8 (48 + n)) ∧ (@Eq (HO c_spec_l01Number0.outs) ((strOfNums [(48 + n)]), ()) (c_spec_l01Number0.out (n, ()))))) (((10 : Int) ≠ 0) ∧ ((inK .i64 (Int.tdiv n 10)) ∧ ((False) ∧ (((10 : Int) ≠ 0) ∧ ((inK .i64 (48 + (Int.tmod n 10))) ∧ ((inK .u8 (48 + (Int.tmod n 10))) ∧ ((ByteArray.size (decS (Int.tdiv n 10)) + ByteArray.size (strOfNums [(48 + (Int.tmod n 10))]) ≤ 9223372036854775807) ∧ (@Eq (HO c_spec_l01Number0.outs) ((decS (Int.tdiv n 10) ++ (strOfNums [(48 + (Int.tmod n 10))])), ()) (c_spec_l01Number0.out (n, ()))))))))))))) (by kernel_rfl) ?_
  rintro n ⟨h0, h1⟩ hl
  have out : ∀ r, r = decS n → @Eq (HO c_spec_l01Number0.outs) (r, ()) (c_spec_l01Number0.out (n, ())) := fun r h => by subst h; rfl
  refine bspD (fun h => ⟨by simp only [inK]; omega, by simp only [inK]; omega, out _ (decS_one ⟨h0, h⟩)⟩) (fun h => ?_)
  omega
def c_spec_l01Number : Con where
  ins := [(false, .v tI)]
  outs := [(false, .v .s)]
  sh := false
  pre := fun x => 0 ≤ x.1 ∧ x.1 ≤ 99
  out := fun x => (decS x.1, ())
  upd := fun x => x
theorem k_spec_l01Number [B : Base] : ConOk Tryz.prog 38 c_spec_l01Number := by
  refine fn_ok (C := cx Tryz.prog 20 c_spec_l01Number) (cs := [(38, c_spec_l01Number0)]) (res := Tryz.f38.results.toList) (fun _ => ⟨[], [(3, ⟨[[], [0], [0, 1], [], [3], [3, 4], [3, 4, 5], [3, 4, 5, 6], [3, 4, 5, 6, 7], [0, 1, 2, 3, 4, 5, 6, 7, 8], [0, 1, 2, 3, 4, 5, 6, 7, 8, 9]], [[3, 4, 5, 6, 7, 8], [3, 4, 5, 6, 7, 8], [3, 4, 5, 6, 7, 8], [0, 1, 2], [0, 1, 2], [0, 1, 2], [0, 1, 2], [0, 1, 2], [0, 1, 2], [], []], []⟩)], []⟩) Tryz.func38 (by kernel_rfl) rfl rfl rfl tysOk.look eqTsOk.look (AllCs.ok (l := [(38, c_spec_l01Number0)]) ⟨k_spec_l01Number0, trivial⟩) mixed rfl rfl rfl ?_
  refine of_nf (P := ∀ n : Int, (0 ≤ n ∧ n ≤ 99) → ((lensI c_spec_l01Number.ins (n, ())) → (bsp (decide (n < (10 : Int))) ((inK .i64 (48 + n)) ∧ ((inK .u8 (48 + n)) ∧ (@Eq (HO c_spec_l01Number.outs) ((strOfNums [(48 + n)]), ()) (c_spec_l01Number.out (n, ()))))) (((10 : Int) ≠ 0) ∧ ((inK .i64 (Int.tdiv n 10)) ∧ ((0 ≤ (Int.tdiv n 10) ∧ (Int.tdiv n 10) ≤ 9) ∧ (((10 : Int) ≠ 0) ∧ ((inK .i64 (48 + (Int.tmod n 10))) ∧ ((inK .u8 (48 + (Int.tmod n 10))) ∧ ((ByteArray.size (decS (Int.tdiv n 10)) + ByteArray.size (strOfNums [(48 + (Int.tmod n 10))]) ≤ 9223372036854775807) ∧ (@Eq (HO c_spec_l01Number.outs) ((decS (Int.tdiv n 10) ++ (strOfNums [(48 + (Int.tmod n 10))])), ()) (c_spec_l01Number.out (n, ()))))))))))))) (by kernel_rfl) ?_
  rintro n ⟨h0, h1⟩ hl
  have out : ∀ r, r = decS n → @Eq (HO c_spec_l01Number.outs) (r, ()) (c_spec_l01Number.out (n, ())) := fun r h => by subst h; rfl
  refine bspD (fun h => ⟨by simp only [inK]; omega, by simp only [inK]; omega, out _ (decS_one ⟨h0, h⟩)⟩) (fun h => ?_)

  have e1 : Int.tdiv n 10 = n / 10 := Int.tdiv_eq_ediv_of_nonneg (by omega)
  have e2 : Int.tmod n 10 = n % 10 := Int.tmod_eq_emod_of_nonneg (by omega)
  have hr := decS_rec (n := n) (by omega)
  have hs := decS_size (n := Int.tdiv n 10) (by simp only [inK]; omega)
  have hd : (strOfNums [48 + Int.tmod n 10]).size = 1 := by
    have := congrArg List.length (strOfNums_data [48 + Int.tmod n 10])
    simp only [List.map_cons, List.map_nil, List.length_cons, List.length_nil, Array.length_toList] at this
    exact this
  exact ⟨by decide, by simp only [inK]; omega, ⟨by omega, by omega⟩, by decide, by simp only [inK]; omega, by simp only [inK]; omega, by omega, out _ hr⟩
end Go.Proofs.YtmklkigppmgigaaGreatDoor
