/-
  Contracts: decimal numerals written digit by digit.
-/
import Derived.Test.YtokddngcfkimlaaDoorVText
namespace Go.Proofs.YtokddngcfkimlaaDoor
open Go.RowKit
set_option linter.unusedSimpArgs false
set_option linter.unusedVariables false
/-- the digits that are still to be written -/
def preD (m : Int) : List UInt8 := if m = 0 then [] else Lib.decDigits m.natAbs
def DecI (n m : Int) (ds : List Int) : Prop := ds.length ≤ 30 ∧ ((ds = [] ∧ m = n) ∨ (ds ≠ [] ∧ Lib.decDigits n.natAbs = preD m ++ (strOfNums ds).data.toList))
theorem dd_step (b : Nat) : (if b / 10 = 0 then [] else Lib.decDigits (b / 10)) ++ [UInt8.ofNat (48 + b % 10)] = Lib.decDigits b := by
  by_cases h : b < 10
  · rw [if_pos (by omega), Lib.decDigits_one h, List.nil_append, Nat.mod_eq_of_lt h]
  · rw [if_neg (by omega)]
    conv => rhs; rw [Lib.decDigits, dif_neg (by omega)]
theorem tdv10_abs (m : Int) : (Int.tdiv m 10).natAbs = m.natAbs / 10 := by rw [Int.natAbs_tdiv]; rfl
theorem tmd10_abs (m : Int) : max (Int.tmod m 10) (0 - Int.tmod m 10) = ((m.natAbs % 10 : Nat) : Int) := by
  have h : (Int.tmod m 10).natAbs = m.natAbs % 10 := by rw [Int.natAbs_tmod]; rfl
  omega
theorem preD_step (m : Int) : preD (Int.tdiv m 10) ++ (strOfNums [48 + max (Int.tmod m 10) (0 - Int.tmod m 10)]).data.toList = Lib.decDigits m.natAbs := by
  rw [← dd_step, tmd10_abs, strOfNums_data]
  unfold preD
  rw [tdv10_abs]
  congr 1
  · have := tdv10_abs m
    split <;> split <;> first | rfl | (exfalso; omega)
theorem decI_len {n m : Int} {ds : List Int} (hn : inK .i64 n) (h : DecI n m ds) : ds.length ≤ 21 := by
  rcases h.2 with ⟨h, -⟩ | ⟨-, h⟩
  · rw [h]; decide
  · simp only [inK] at hn
    have h1 := Lib.itoa_length_le n (by omega) (by omega)
    have h2 : (Lib.decDigits n.natAbs).length ≤ (Lib.itoa n).length := by
      unfold Lib.itoa
      split
      · simp
      · rw [show n.toNat = n.natAbs by omega]; exact Nat.le_refl _
    have h3 := congrArg List.length h
    rw [List.length_append, strOfNums_data] at h3
    simp only [List.length_map] at h3
    omega
theorem decI_step {n m : Int} {ds : List Int} (hn : inK .i64 n) (h : DecI n m ds) (hm : m ≠ 0 ∨ ds = []) : DecI n (Int.tdiv m 10) ([48 + max (Int.tmod m 10) (0 - Int.tmod m 10)] ++ ds) := by
  have hs := preD_step m
  rw [strOfNums_data] at hs
  refine ⟨by have := decI_len hn h; simp; omega, .inr ⟨by simp, ?_⟩⟩
  rw [strOfNums_data, List.map_append, ← List.append_assoc, hs]
  rcases h.2 with ⟨h1, h2⟩ | ⟨h1, h2⟩
  · subst h1; subst h2; simp
  · rw [h2, strOfNums_data]
    unfold preD
    rw [if_neg (hm.resolve_right h1)]
theorem decI_done {n : Int} {ds : List Int} (h : DecI n 0 ds) (h0 : ds ≠ []) : Lib.decDigits n.natAbs = (strOfNums ds).data.toList := by
  rcases h.2 with ⟨h1, -⟩ | ⟨-, h2⟩
  · exact absurd h1 h0
  · rw [h2]; unfold preD; rw [if_pos rfl]; rfl
theorem itoa_abs (n : Int) : Lib.itoa n = (if n < 0 then [45] else []) ++ Lib.decDigits n.natAbs := by
  unfold Lib.itoa
  split
  · rfl
  · next h => rw [show n.toNat = n.natAbs by omega]; rfl
def c_spec_l09Decimal : Con where
  ins := [(false, .v tI)]
  outs := [(false, .v .s)]
  sh := false
  pre := fun x => inK .i64 x.1
  out := fun x => (decS x.1, ())
  upd := fun x => x
theorem k_spec_l09Decimal [B : Base] : ConOk Tryd.prog 33 c_spec_l09Decimal := by
  refine fn_ok (C := cx Tryd.prog 35 c_spec_l09Decimal) (cs := []) (res := Tryd.f33.results.toList) (fun x => ⟨[{ sh := ⟨[(0, .one (.i .i64)), (3, .one (.ref 0)), (4, .one (.i .i64))], [(0, .own 5 (.i .u8) true)]⟩, nx := 1, I := fun _ dat_ => (x.1 = dat_.1.1) ∧ (DecI x.1 dat_.1.2.2.1 dat_.2.1 ∧ inK .i64 dat_.1.2.2.1), mu := fun dat_ => Int.natAbs dat_.1.2.2.1 + (30 - List.length dat_.2.1) }], [], []⟩) Tryd.func33 (by kernel_rfl) rfl rfl rfl tysOk.look eqTsOk.look (AllCs.ok (l := []) trivial) mixed rfl rfl rfl ?_
  refine of_nf (P := ∀ n : Int, (inK .i64 n) → ((lensI c_spec_l09Decimal.ins (n, ())) → (((n = n) ∧ (DecI n n [] ∧ inK .i64 n)) ∧ (∀ t0 : Int, ∀ m : Int, ∀ ds : List Int, ((n = t0) ∧ (DecI n m ds ∧ inK .i64 m)) → (bsp (decide (m ≠ (0 : Int))) (((10 : Int) ≠ 0) ∧ ((inK .i64 (0 - (Int.tmod m 10))) ∧ ((inK .i64 (48 + (max (Int.tmod m 10) (0 - (Int.tmod m 10))))) ∧ ((inK .u8 (48 + (max (Int.tmod m 10) (0 - (Int.tmod m 10))))) ∧ ((([(48 + (max (Int.tmod m 10) (0 - (Int.tmod m 10))))] : List Int).length + ds.length ≤ AB) ∧ (((10 : Int) ≠ 0) ∧ ((inK .i64 (Int.tdiv m 10)) ∧ (((n = t0) ∧ (DecI n (Int.tdiv m 10) (([(48 + (max (Int.tmod m 10) (0 - (Int.tmod m 10))))] : List Int) ++ ds) ∧ inK .i64 (Int.tdiv m 10))) ∧ ((Int.natAbs (Int.tdiv m 10) + (30 - List.length (([(48 + (max (Int.tmod m 10) (0 - (Int.tmod m 10))))] : List Int) ++ ds)) : Nat) < Int.natAbs m + (30 - List.length ds)))))))))) (bsp (decide ((ds.length : Int) = (0 : Int))) (((10 : Int) ≠ 0) ∧ ((inK .i64 (0 - (Int.tmod m 10))) ∧ ((inK .i64 (48 + (max (Int.tmod m 10) (0 - (Int.tmod m 10))))) ∧ ((inK .u8 (48 + (max (Int.tmod m 10) (0 - (Int.tmod m 10))))) ∧ ((([(48 + (max (Int.tmod m 10) (0 - (Int.tmod m 10))))] : List Int).length + ds.length ≤ AB) ∧ (((10 : Int) ≠ 0) ∧ ((inK .i64 (Int.tdiv m 10)) ∧ (((n = t0) ∧ (DecI n (Int.tdiv m 10) (([(48 + (max (Int.tmod m 10) (0 - (Int.tmod m 10))))] : List Int) ++ ds) ∧ inK .i64 (Int.tdiv m 10))) ∧ ((Int.natAbs (Int.tdiv m 10) + (30 - List.length (([(48 + (max (Int.tmod m 10) (0 - (Int.tmod m 10))))] : List Int) ++ ds)) : Nat) < Int.natAbs m + (30 - List.length ds)))))))))) (bsp (decide (t0 < (0 : Int))) ((ByteArray.size (ByteArray.mk #[45]) + ByteArray.size (strOfNums ds) ≤ 9223372036854775807) ∧ (@Eq (HO c_spec_l09Decimal.outs) (((ByteArray.mk #[45]) ++ (strOfNums ds)), ()) (c_spec_l09Decimal.out (n, ())))) (@Eq (HO c_spec_l09Decimal.outs) ((strOfNums ds), ()) (c_spec_l09Decimal.out (n, ())))))))))) (by kernel_rfl) ?_
  rintro n hp hl
  have out : ∀ r, r = decS n → @Eq (HO c_spec_l09Decimal.outs) (r, ()) (c_spec_l09Decimal.out (n, ())) := fun r h => by subst h; rfl
  have inn : DecI n n [] := ⟨by decide, .inl ⟨rfl, rfl⟩⟩
  refine ⟨⟨(by first | trivial | rfl | (and_intros <;> rfl)), inn, hp⟩, ?_⟩
  rintro t0 m ds ⟨rfl, ⟨hd, hm⟩⟩
  have hlen := decI_len hp hd
  have ht := tmd10_abs m
  have hq := tdv10_abs m
  have hng : inK .i64 (0 - Int.tmod m 10) := by
    have h : (Int.tmod m 10).natAbs = m.natAbs % 10 := by rw [Int.natAbs_tmod]; rfl
    simp only [inK]; omega
  have hin : inK .i64 (Int.tdiv m 10) := by simp only [inK] at hm ⊢; omega
  have go : (m ≠ 0 ∨ ds = []) → _ := fun h => decI_step hp hd h
  simp only [ht] at *
  have big : (m ≠ 0 ∨ ds = []) → Int.natAbs (Int.tdiv m 10) + (30 - List.length ([48 + ((m.natAbs % 10 : Nat) : Int)] ++ ds)) < Int.natAbs m + (30 - List.length ds) := fun _ => by
    simp only [List.length_append, List.length_cons, List.length_nil]; omega
  have ab : ([48 + ((m.natAbs % 10 : Nat) : Int)] : List Int).length + ds.length ≤ AB := by
    have : AB = 1099511627776 := rfl
    simp only [List.length_cons, List.length_nil]; omega
  refine bspD (fun h => ⟨by decide, hng, by simp only [inK]; omega, by simp only [inK]; omega, ab, by decide, hin, ⟨(by first | trivial | rfl | (and_intros <;> rfl)), go (.inl h), hin⟩, big (.inl h)⟩) (fun h => ?_)
  refine bspD (fun h0 => ?_) (fun h0 => ?_)
  · have hd0 : ds = [] := List.length_eq_zero_iff.1 (by omega)
    exact ⟨by decide, hng, by simp only [inK]; omega, by simp only [inK]; omega, ab, by decide, hin, ⟨(by first | trivial | rfl | (and_intros <;> rfl)), go (.inr hd0), hin⟩, big (.inr hd0)⟩
  · obtain rfl : m = 0 := by omega
    have hdn := decI_done hd (fun e => h0 (by rw [e]; rfl))
    have hsz : (strOfNums ds).size ≤ 21 := by
      have := congrArg List.length (strOfNums_data ds)
      rw [List.length_map] at this
      have e : (strOfNums ds).size = (strOfNums ds).data.toList.length := (Array.length_toList).symm
      omega
    have k1 : (ByteArray.mk #[45]).size = 1 := rfl
    refine bspD (fun hn => ⟨by omega, out _ (bytes_ext ?_)⟩) (fun hn => out _ (bytes_ext ?_))
    · rw [ByteArray.data_append, Array.toList_append, decS_data, itoa_abs, if_pos hn, hdn]
    · rw [decS_data, itoa_abs, if_neg hn, hdn]; rfl
end Go.Proofs.YtokddngcfkimlaaDoor
