/-
  Contracts: decimal numerals.
-/
import Derived.Test.YtokddngcfkimlaaDoorVBase
import Derived.Test.YtokddngcfkimlaaDoorTab
namespace Go.Proofs.YtokddngcfkimlaaDoor
open Go.RowKit
set_option linter.unusedSimpArgs false
set_option linter.unusedVariables false
def c_strconv_FormatInt : Con where
  ins := [(false, .v tI), (false, .v tI)]
  outs := [(false, .v .s)]
  sh := false
  pre := fun x => inK .i64 x.1 ∧ x.2.1 = 10
  out := fun x => (decS x.1, ())
  upd := fun x => x
theorem k_strconv_FormatInt [B : Base] : ConOk Tryd.prog 38 c_strconv_FormatInt :=
  conF21 (t1 := .i .i64) (t2 := .i .i64) (r1 := .s) (pre := c_strconv_FormatInt.pre) (o := fun n _ => decS n) rfl rfl rfl ⟨_, _, Tryd.func38, by kernel_rfl, rfl⟩ fun n b w hold hp => by
    obtain ⟨hn, hb⟩ : inK .i64 n ∧ b = 10 := hp
    subst hb
    simp only [inK] at hn
    refine (Any.strconv_FormatInt_10 Tryd.laysM173 n (by omega) (by omega) w (pow10Now hold)).mono ?_
    rintro e w' ⟨rfl, k, os, rfl⟩
    exact ⟨rfl, Lib.below_grow _ _ (Nat.le_refl _) _ _⟩
theorem bytes_ext {a b : ByteArray} (h : a.data.toList = b.data.toList) : a = b := by
  cases a with | mk a => cases b with | mk b => exact congrArg ByteArray.mk (Array.ext' h)
def slB : ByteArray := ByteArray.mk #[47]
def nilB : ByteArray := ByteArray.mk #[]
theorem app_size (a b : ByteArray) : (a ++ b).size = a.size + b.size := ByteArray.size_append
theorem app_assoc (a b c : ByteArray) : a ++ b ++ c = a ++ (b ++ c) := bytes_ext (by simp only [ByteArray.data_append, Array.toList_append, List.append_assoc])
theorem app_nil (a : ByteArray) : a ++ nilB = a := bytes_ext (by simp [ByteArray.data_append, nilB])
theorem decS_data (n : Int) : (decS n).data.toList = Lib.itoa n := by simp [decS]
theorem itoa_nat {n : Int} (h : 0 ≤ n) : Lib.itoa n = Lib.decDigits n.toNat := by unfold Lib.itoa; rw [if_neg (by omega)]
theorem decS_one {n : Int} (h : 0 ≤ n ∧ n < 10) : strOfNums [48 + n] = decS n := by
  refine bytes_ext ?_
  rw [strOfNums_data, decS_data, itoa_nat h.1, Lib.decDigits_one (by omega)]
  simp only [List.map_cons, List.map_nil]
  congr 2; omega
theorem decS_rec {n : Int} (h : 10 ≤ n) : decS (Int.tdiv n 10) ++ strOfNums [48 + Int.tmod n 10] = decS n := by
  refine bytes_ext ?_
  have e1 : Int.tdiv n 10 = n / 10 := Int.tdiv_eq_ediv_of_nonneg (by omega)
  have e2 : Int.tmod n 10 = n % 10 := Int.tmod_eq_emod_of_nonneg (by omega)
  rw [e1, e2, decS_data, itoa_nat (by omega)]
  have e3 : (n / 10).toNat = n.toNat / 10 := by omega
  have e4 : Lib.decDigits n.toNat = Lib.decDigits (n.toNat / 10) ++ [UInt8.ofNat (48 + n.toNat % 10)] := by
    rw [Lib.decDigits, dif_neg (by omega)]
  rw [e4, ByteArray.data_append, Array.toList_append, decS_data, itoa_nat (by omega), e3, strOfNums_data]
  simp only [List.map_cons, List.map_nil]
  congr 3; omega
theorem decS_size {n : Int} (h : inK .i64 n) : (decS n).size ≤ 21 := by
  simp only [inK] at h
  have := Lib.itoa_length_le n (by omega) (by omega)
  have e : (decS n).size = (Lib.itoa n).length := by simp [decS, ByteArray.size]
  omega
def c_impl_decimal : Con where
  ins := [(false, .v tI)]
  outs := [(false, .v .s)]
  sh := false
  pre := fun x => inK .i64 x.1
  out := fun x => (decS x.1, ())
  upd := fun x => x
theorem k_impl_decimal [B : Base] : ConOk Tryd.prog 15 c_impl_decimal := by
  refine fn_ok (C := cx Tryd.prog 5 c_impl_decimal) (cs := [(38, c_strconv_FormatInt)]) (res := Tryd.f15.results.toList) (fun _ => ⟨[], [], []⟩) Tryd.func15 (by kernel_rfl) rfl rfl rfl tysOk.look eqTsOk.look (AllCs.ok (l := [(38, c_strconv_FormatInt)]) ⟨k_strconv_FormatInt, trivial⟩) mixed rfl rfl rfl ?_
  refine of_nf (P := ∀ n : Int, (inK .i64 n) → ((lensI c_impl_decimal.ins (n, ())) → ((inK .i64 n ∧ (10 : Int) = 10) ∧ (@Eq (HO c_impl_decimal.outs) (decS n, ()) (c_impl_decimal.out (n, ())))))) (by kernel_rfl) ?_
  rintro n hp hl
  exact ⟨⟨hp, rfl⟩, rfl⟩
end Go.Proofs.YtokddngcfkimlaaDoor
