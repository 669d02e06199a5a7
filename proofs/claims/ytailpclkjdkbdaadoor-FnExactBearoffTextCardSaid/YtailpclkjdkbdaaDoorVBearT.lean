/-
  Contracts: texts of bear-off positions.
-/
import Derived.Test.YtailpclkjdkbdaaDoorAbL
import Derived.Test.YtailpclkjdkbdaaDoorVBearI
import Derived.Test.YtailpclkjdkbdaaDoorVDec
import Derived.Test.YtailpclkjdkbdaaDoorVJoin
import Derived.Test.YtailpclkjdkbdaaDoorVLaw
namespace Go.Proofs.YtailpclkjdkbdaaDoor
open Go.RowKit
set_option linter.unusedSimpArgs false
set_option linter.unusedVariables false
def comB : ByteArray := ByteArray.mk #[44]
def bearS (v : DVar) (zs : List Int) : ByteArray := if (varD v && bearD v zs) = true then joinS (zs.map decS) comB else nilB
theorem fitsP_mem {zs : List Int} : ∀ {l : Int}, 0 ≤ l → fitsP l zs = true → ∀ z ∈ zs, 0 ≤ z ∧ z ≤ l := by
  induction zs with
  | nil => intro l _ _ z hz; cases hz
  | cons a r ih =>
    intro l hl h z hz
    simp only [fitsP, Bool.and_eq_true, decide_eq_true_eq] at h
    rcases List.mem_cons.1 hz with rfl | hz
    · exact h.1
    · have := ih (l := l - a) (by omega) h.2 z hz
      omega
theorem bear_in {v : DVar} {zs : List Int} (h : (varD v && bearD v zs) = true) : (∀ z ∈ zs, 0 ≤ z ∧ z ≤ 15) ∧ zs.length ≤ 24 := by
  rw [Bool.and_eq_true] at h
  obtain ⟨hv, hb⟩ := h
  obtain ⟨⟨g1, g1'⟩, ⟨g2, g2'⟩, ⟨g3, g3'⟩, g4⟩ := varD_iff.1 hv
  simp only [bearD, Bool.and_eq_true, decide_eq_true_eq] at hb
  exact ⟨fun z hz => by have := fitsP_mem (by omega) hb.2 z hz; omega, by omega⟩
def c_impl_joinNumbers : Con where
  ins := [(false, .v tSI), (false, .v .s)]
  outs := [(false, .v .s)]
  sh := false
  pre := fun x => (∀ z ∈ x.1, inK .i64 z) ∧ (x.2.1).size ≤ 1000000 ∧ List.length x.1 ≤ 1048576
  out := fun x => (joinS (List.map decS x.1) x.2.1, ())
  upd := fun x => x
theorem k_impl_joinNumbers [B : Base] : ConOk Tryd.prog 12 c_impl_joinNumbers := by
  refine fn_ok (C := cx Tryd.prog 27 c_impl_joinNumbers) (cs := [(17, c_impl_decimal), (18, c_strings_Join)]) (res := Tryd.f12.results.toList) (fun x => ⟨[{ sh := ⟨[(1, .one .s), (5, .one (.ref 0)), (11, .one (.ref 1)), (12, .one (.i .i64)), (13, .one (.i .i64))], [(0, .own 9 .s true), (1, .imm tI false)]⟩, nx := 2, I := fun _ dat_ => (x.2.1 = dat_.1.1 ∧ (x.1.length : Int) = dat_.1.2.2.2.1 ∧ x.1 = dat_.2.2.1) ∧ ((List.length dat_.2.1 = List.length x.1 ∧ (∀ j : Nat, j < Int.toNat dat_.1.2.2.2.2.1 → List.getD dat_.2.1 j ByteArray.empty = decS (List.getD x.1 j 0))) ∧ 0 ≤ dat_.1.2.2.2.2.1 ∧ dat_.1.2.2.2.2.1 ≤ (List.length x.1 : Int)), mu := fun dat_ => Int.toNat ((List.length x.1 : Int) - dat_.1.2.2.2.2.1) }], [], []⟩) Tryd.func12 (by kernel_rfl) rfl rfl rfl tysOk.look eqTsOk.look (AllCs.ok (l := [(17, c_impl_decimal), (18, c_strings_Join)]) ⟨k_impl_decimal, k_strings_Join, trivial⟩) mixed rfl rfl rfl ?_
  refine of_nf (P := ∀ zs : List Int, ∀ s : ByteArray, ((∀ z ∈ zs, inK .i64 z) ∧ (s).size ≤ 1000000 ∧ List.length zs ≤ 1048576) → ((lensI c_impl_joinNumbers.ins (zs, s, ())) → ((0 ≤ (zs.length : Int) ∧ (zs.length : Int) ≤ (zs.length : Int) ∧ (zs.length : Int) ≤ 1099511627776) ∧ (((s = s ∧ (zs.length : Int) = (zs.length : Int) ∧ zs = zs) ∧ ((List.length (List.replicate zs.length (ByteArray.empty : ByteArray)) = List.length zs ∧ (∀ j : Nat, j < Int.toNat (0 : Int) → List.getD (List.replicate zs.length (ByteArray.empty : ByteArray)) j ByteArray.empty = decS (List.getD zs j 0))) ∧ 0 ≤ (0 : Int) ∧ (0 : Int) ≤ (List.length zs : Int))) ∧ (∀ t1 : ByteArray, ∀ l : Int, ∀ i : Int, ∀ ws : List ByteArray, ∀ t11 : List Int, ((s = t1 ∧ (zs.length : Int) = l ∧ zs = t11) ∧ ((List.length ws = List.length zs ∧ (∀ j : Nat, j < Int.toNat i → List.getD ws j ByteArray.empty = decS (List.getD zs j 0))) ∧ 0 ≤ i ∧ i ≤ (List.length zs : Int))) → (bsp (decide (i < l)) ((0 ≤ i ∧ i < (t11.length : Int)) ∧ ((i.toNat < t11.length) ∧ ((inK .i64 (t11.getD i.toNat 0)) ∧ ((0 ≤ i ∧ i < (ws.length : Int)) ∧ ((i.toNat < ws.length) ∧ ((inK .i64 (i + 1)) ∧ (((s = t1 ∧ (zs.length : Int) = l ∧ zs = t11) ∧ ((List.length (ws.set i.toNat (decS (t11.getD i.toNat 0))) = List.length zs ∧ (∀ j : Nat, j < Int.toNat (i + 1) → List.getD (ws.set i.toNat (decS (t11.getD i.toNat 0))) j ByteArray.empty = decS (List.getD zs j 0))) ∧ 0 ≤ (i + 1) ∧ (i + 1) ≤ (List.length zs : Int))) ∧ ((Int.toNat ((List.length zs : Int) - (i + 1)) : Nat) < Int.toNat ((List.length zs : Int) - i))))))))) (((joinS ws t1).size ≤ 140737488355328 ∧ List.length ws ≤ 140737488355328) ∧ (@Eq (HO c_impl_joinNumbers.outs) (joinS ws t1, ()) (c_impl_joinNumbers.out (zs, s, ())))))))))) (by kernel_rfl) ?_
  rintro zs s ⟨hz, hs, hn⟩ hl
  have hlim : ∀ xs : List ByteArray, xs = zs.map decS → (joinS xs s).size ≤ 140737488355328 ∧ xs.length ≤ 140737488355328 := fun xs h => by
    subst h
    have hq := joinS_size (k := 21) (q := 1000000) (s := s) (n := zs.length) (xs := zs.map decS) hs (by simp) (fun x hx => by
      obtain ⟨z, h, rfl⟩ := List.mem_map.1 hx
      exact decS_size (hz z h))
    exact ⟨by omega, by simp; omega⟩
  refine ⟨by omega, ⟨(by first | trivial | rfl | (and_intros <;> rfl)), ⟨by simp, fun j hj => by simp at hj⟩, by omega, by omega⟩, ?_⟩
  rintro t1 l i ws t11 ⟨⟨rfl, rfl, rfl⟩, ⟨⟨hw, hs'⟩, i0, i1⟩⟩
  obtain ⟨k, rfl⟩ : ∃ k : Nat, i = k := ⟨i.toNat, by omega⟩
  simp only [Int.toNat_natCast, show ((k : Int) + 1).toNat = k + 1 by omega] at hs' ⊢
  refine bspD (fun hlt => ?_) (fun hge => ?_)
  · have hk : k < zs.length := by omega
    have hin : inK .i64 (zs.getD k 0) := hz _ (by rw [List.getD_eq_getElem?_getD, List.getElem?_eq_getElem hk]; exact List.getElem_mem hk)
    refine ⟨⟨by omega, by omega⟩, hk, hin, ⟨by omega, by omega⟩, by omega, by simp only [inK]; omega, ⟨(by first | trivial | rfl | (and_intros <;> rfl)), ⟨by simpa using hw, fun j hj => ?_⟩, by omega, by omega⟩, by omega⟩
    rw [getD_set_str (by omega)]
    split
    · next e => rw [e]
    · exact hs' j (by omega)
  · obtain rfl : k = zs.length := by omega
    obtain rfl := eq_map_str (f := decS) 0 hw hs'
    exact ⟨hlim _ rfl, rfl⟩
def c_impl_BearoffText : Con where
  ins := [(true, .v tVar), (false, .v tSI)]
  outs := [(false, .v .s)]
  sh := false
  pre := fun _ => True
  out := fun x => (bearS x.1 x.2.1, ())
  upd := fun x => x
theorem k_impl_BearoffText [B : Base] : ConOk Tryd.prog 7 c_impl_BearoffText := by
  refine fn_okW (C := cx Tryd.prog 11 c_impl_BearoffText) (cs := [(11, c_impl_IsBearoff), (12, c_impl_joinNumbers)]) (res := Tryd.f7.results.toList) (fun _ => ⟨[], [], []⟩) Tryd.func7 (by kernel_rfl) rfl rfl rfl tysOk.look eqTsOk.look (AllCs.ok (l := [(11, c_impl_IsBearoff), (12, c_impl_joinNumbers)]) ⟨k_impl_IsBearoff, k_impl_joinNumbers, trivial⟩) mixed rfl rfl rfl ?_
  refine of_nf (P := ∀ v : Int × Int × Int × Int, ∀ zs : List Int, (True) → ((lensI c_impl_BearoffText.ins (v, zs, ())) → (True ∧ (bsp (!(varD v && bearD v zs)) (@Eq (HO c_impl_BearoffText.outs) ((ByteArray.mk #[]), ()) (c_impl_BearoffText.out (v, zs, ()))) (((∀ z ∈ zs, inK .i64 z) ∧ ((ByteArray.mk #[44])).size ≤ 1000000 ∧ List.length zs ≤ 1048576) ∧ (@Eq (HO c_impl_BearoffText.outs) (joinS (List.map decS zs) (ByteArray.mk #[44]), ()) (c_impl_BearoffText.out (v, zs, ())))))))) (by kernel_rfl) ?_
  rintro v zs hp hl
  have hD := bearS.eq_1 v zs
  refine ⟨trivial, bspB (fun h => ?_) (fun h => ?_)⟩
  · have h' : (varD v && bearD v zs) = false := by revert h; cases varD v && bearD v zs <;> simp
    rw [if_neg (by rw [h']; decide)] at hD
    simp only [c_impl_BearoffText, hD]; rfl
  · have h' : (varD v && bearD v zs) = true := by revert h; cases varD v && bearD v zs <;> simp
    obtain ⟨hb, hl⟩ := bear_in h'
    rw [if_pos h'] at hD
    refine ⟨⟨fun z hz => ?_, by decide, by omega⟩, ?_⟩
    · have := hb z hz; simp only [inK]; omega
    · simp only [c_impl_BearoffText, hD]; rfl
def c_spec_BearoffText : Con where
  ins := [(true, .v tVar), (false, .v tSI)]
  outs := [(false, .v .s)]
  sh := false
  pre := fun _ => True
  out := fun x => (bearS x.1 x.2.1, ())
  upd := fun x => x
theorem k_spec_BearoffText [B : Base] : ConOk Tryd.prog 4 c_spec_BearoffText := by
  refine fn_okW (C := cx Tryd.prog 30 c_spec_BearoffText) (cs := [(9, c_spec_IsBearoff), (10, c_spec_l09Decimal)]) (res := Tryd.f4.results.toList) (fun x => ⟨[{ sh := ⟨[(1, .one (.ref 0)), (2, .one (.ref 1)), (5, .one .s), (6, .one (.i .i64))], [(0, .imm tI false), (1, .box [.i .i64, .i .i64, .i .i64, .i .i64])]⟩, nx := 2, I := fun _ dat_ => (x.2.1 = dat_.2.1 ∧ x.1.1 = dat_.2.2.1.1 ∧ x.1.2.1 = dat_.2.2.1.2.1 ∧ x.1.2.2.1 = dat_.2.2.1.2.2.1 ∧ x.1.2.2.2 = dat_.2.2.1.2.2.2.1) ∧ ((dat_.1.2.2.1 = joinS (List.map decS (List.take (Int.toNat dat_.1.2.2.2.1) x.2.1)) comB ∧ (dat_.1.2.2.2.1 = 0 ∨ (varD x.1 && bearD x.1 x.2.1) = true)) ∧ 0 ≤ dat_.1.2.2.2.1 ∧ dat_.1.2.2.2.1 ≤ (List.length x.2.1 : Int)), mu := fun dat_ => Int.toNat ((List.length x.2.1 : Int) - dat_.1.2.2.2.1) }], [], []⟩) Tryd.func4 (by kernel_rfl) rfl rfl rfl tysOk.look eqTsOk.look (AllCs.ok (l := [(9, c_spec_IsBearoff), (10, c_spec_l09Decimal)]) ⟨k_spec_IsBearoff, k_spec_l09Decimal, trivial⟩) mixed rfl rfl rfl ?_
  refine of_nf (P := ∀ v : Int × Int × Int × Int, ∀ zs : List Int, (True) → ((lensI c_spec_BearoffText.ins (v, zs, ())) → (((zs = zs ∧ v.1 = v.1 ∧ v.2.1 = v.2.1 ∧ v.2.2.1 = v.2.2.1 ∧ v.2.2.2 = v.2.2.2) ∧ (((ByteArray.mk #[]) = joinS (List.map decS (List.take (Int.toNat (0 : Int)) zs)) comB ∧ ((0 : Int) = 0 ∨ (varD v && bearD v zs) = true)) ∧ 0 ≤ (0 : Int) ∧ (0 : Int) ≤ (List.length zs : Int))) ∧ (∀ acc : ByteArray, ∀ i : Int, ∀ t1 : List Int, ∀ t2_0 : Int, ∀ t2_1 : Int, ∀ t2_2 : Int, ∀ t2_3 : Int, ((zs = t1 ∧ v.1 = t2_0 ∧ v.2.1 = t2_1 ∧ v.2.2.1 = t2_2 ∧ v.2.2.2 = t2_3) ∧ ((acc = joinS (List.map decS (List.take (Int.toNat i) zs)) comB ∧ (i = 0 ∨ (varD v && bearD v zs) = true)) ∧ 0 ≤ i ∧ i ≤ (List.length zs : Int))) → (bsp (decide (i < (t1.length : Int))) (True ∧ (bsp (varD (t2_0, t2_1, t2_2, t2_3) && bearD (t2_0, t2_1, t2_2, t2_3) t1) (bsp (decide ((0 : Int) < i)) ((ByteArray.size acc + ByteArray.size (ByteArray.mk #[44]) ≤ 9223372036854775807) ∧ ((0 ≤ i ∧ i < (t1.length : Int)) ∧ ((i.toNat < t1.length) ∧ ((inK .i64 (t1.getD i.toNat 0)) ∧ ((ByteArray.size (acc ++ (ByteArray.mk #[44])) + ByteArray.size (decS (t1.getD i.toNat 0)) ≤ 9223372036854775807) ∧ ((inK .i64 (i + 1)) ∧ (((zs = t1 ∧ v.1 = t2_0 ∧ v.2.1 = t2_1 ∧ v.2.2.1 = t2_2 ∧ v.2.2.2 = t2_3) ∧ ((((acc ++ (ByteArray.mk #[44])) ++ decS (t1.getD i.toNat 0)) = joinS (List.map decS (List.take (Int.toNat (i + 1)) zs)) comB ∧ ((i + 1) = 0 ∨ (varD v && bearD v zs) = true)) ∧ 0 ≤ (i + 1) ∧ (i + 1) ≤ (List.length zs : Int))) ∧ ((Int.toNat ((List.length zs : Int) - (i + 1)) : Nat) < Int.toNat ((List.length zs : Int) - i))))))))) ((0 ≤ i ∧ i < (t1.length : Int)) ∧ ((i.toNat < t1.length) ∧ ((inK .i64 (t1.getD i.toNat 0)) ∧ ((ByteArray.size acc + ByteArray.size (decS (t1.getD i.toNat 0)) ≤ 9223372036854775807) ∧ ((inK .i64 (i + 1)) ∧ (((zs = t1 ∧ v.1 = t2_0 ∧ v.2.1 = t2_1 ∧ v.2.2.1 = t2_2 ∧ v.2.2.2 = t2_3) ∧ (((acc ++ decS (t1.getD i.toNat 0)) = joinS (List.map decS (List.take (Int.toNat (i + 1)) zs)) comB ∧ ((i + 1) = 0 ∨ (varD v && bearD v zs) = true)) ∧ 0 ≤ (i + 1) ∧ (i + 1) ≤ (List.length zs : Int))) ∧ ((Int.toNat ((List.length zs : Int) - (i + 1)) : Nat) < Int.toNat ((List.length zs : Int) - i))))))))) (@Eq (HO c_spec_BearoffText.outs) (acc, ()) (c_spec_BearoffText.out (v, zs, ()))))) (@Eq (HO c_spec_BearoffText.outs) (acc, ()) (c_spec_BearoffText.out (v, zs, ())))))))) (by kernel_rfl) ?_
  rintro v zs hp hl
  have hD := bearS.eq_1 v zs
  have out : ∀ r, bearS v zs = r → @Eq (HO c_spec_BearoffText.outs) (r, ()) (c_spec_BearoffText.out (v, zs, ())) := fun r h => by subst h; rfl
  refine ⟨⟨(by first | trivial | rfl | (and_intros <;> rfl)), ⟨rfl, by simp⟩, by omega, by omega⟩, ?_⟩
  rintro acc i t1 t2_0 t2_1 t2_2 t2_3 ⟨⟨rfl, rfl, rfl, rfl, rfl⟩, ⟨⟨hacc, hv⟩, i0, i1⟩⟩
  simp only [Prod.eta]
  obtain ⟨k, rfl⟩ : ∃ k : Nat, i = k := ⟨i.toNat, by omega⟩
  simp only [Int.toNat_natCast, show ((k : Int) + 1).toNat = k + 1 by omega] at hacc ⊢
  refine bspD (fun hlt => ⟨trivial, bspB (fun hb => ?_) (fun hb => ?_)⟩) (fun hge => ?_)
  · have hk : k < zs.length := by omega
    obtain ⟨hin, hlen⟩ := bear_in hb
    have hz := hin (zs.getD k 0) (by rw [List.getD_eq_getElem?_getD, List.getElem?_eq_getElem hk]; exact List.getElem_mem hk)
    have hi : inK .i64 (zs.getD k 0) := by simp only [inK]; omega
    have hsz := decS_size hi
    have hq := joinS_size (k := 21) (q := 1) (s := comB) (n := k) (xs := (zs.take k).map decS) (Nat.le_refl _) (by simp; omega) (fun x hx => by
      obtain ⟨z, hz, rfl⟩ := List.mem_map.1 hx
      have := hin z (List.mem_of_mem_take hz)
      exact decS_size (by simp only [inK]; omega))
    rw [← hacc] at hq
    have hsn := joinS_snoc ((zs.take k).map decS) (decS (zs.getD k 0)) comB
    rw [← take_map_step _ hk 0, ← hacc] at hsn
    have k1 : (ByteArray.mk #[44]).size = 1 := rfl
    simp only [app_size]
    refine bspD (fun h1 => ?_) (fun h1 => ?_)
    · rw [if_neg (fun e => by have := congrArg List.length e; rw [List.length_map, List.length_take, List.length_nil] at this; omega)] at hsn
      exact ⟨by omega, ⟨by omega, by omega⟩, hk, hi, by omega, by simp only [inK]; omega, ⟨(by first | trivial | rfl | (and_intros <;> rfl)), ⟨hsn.symm, .inr hb⟩, by omega, by omega⟩, by omega⟩
    · have hk0 : k = 0 := by omega
      subst hk0
      rw [if_pos (by simp)] at hsn
      have e0 : acc = nilB := by rw [hacc]; rfl
      refine ⟨⟨by omega, by omega⟩, hk, hi, by omega, by simp only [inK]; omega, ⟨(by first | trivial | rfl | (and_intros <;> rfl)), ⟨?_, .inr hb⟩, by omega, by omega⟩, by omega⟩
      rw [hsn, e0]; exact bytes_ext (by simp [ByteArray.data_append, nilB])
  · have hk0 : k = 0 := by
      rcases hv with h | h
      · omega
      · rw [h] at hb; cases hb
    subst hk0
    rw [if_neg (by rw [hb]; decide)] at hD
    exact out _ (by rw [hD, hacc]; rfl)
  · rw [List.take_of_length_le (by omega)] at hacc
    subst hacc
    refine out _ ?_
    rcases hv with h | h
    · have h0 : zs = [] := List.length_eq_zero_iff.1 (by omega)
      rw [hD]; subst h0; split <;> rfl
    · rw [hD, if_pos h]
def c_laws_FnExactBearoffText : Con where
  ins := [(true, .v tVar), (false, .v tSI)]
  outs := [(false, .v .b)]
  sh := false
  pre := fun x => wfD tVar x.1 ∧ wfD (TC.sl (.i .i64)) x.2.1
  out := fun _ => (true, ())
  upd := fun x => x
theorem k_laws_FnExactBearoffText [B : Base] : ConOk Tryd.prog 3 c_laws_FnExactBearoffText := by
  refine fn_okW (C := cx Tryd.prog 30 c_laws_FnExactBearoffText) (cs := [(5, c_laws_toVariant), (6, c_laws_toInt64S), (4, c_spec_BearoffText), (7, c_impl_BearoffText), (8, c_laws_eqInt64S)]) (res := Tryd.f3.results.toList) (fun _ => ⟨[], [], []⟩) Tryd.func3 (by kernel_rfl) rfl rfl rfl tysOk.look eqTsOk.look (AllCs.ok (l := [(5, c_laws_toVariant), (6, c_laws_toInt64S), (4, c_spec_BearoffText), (7, c_impl_BearoffText), (8, c_laws_eqInt64S)]) ⟨k_laws_toVariant, k_laws_toInt64S, k_spec_BearoffText, k_impl_BearoffText, k_laws_eqInt64S, trivial⟩) mixed rfl rfl rfl ?_
  refine of_nf (P := ∀ v : Int × Int × Int × Int, ∀ zs : List Int, (wfD tVar v ∧ wfD (TC.sl (.i .i64)) zs) → ((lensI c_laws_FnExactBearoffText.ins (v, zs, ())) → (bsp (decide ((1048576 : Int) < (zs.length : Int))) (@Eq (HO c_laws_FnExactBearoffText.outs) (true, ()) (c_laws_FnExactBearoffText.out (v, zs, ()))) (True ∧ ((List.length zs ≤ 1099511627776) ∧ (True ∧ ((List.length zs ≤ 1099511627776) ∧ (True ∧ (True ∧ (bsp (decide (bearS v zs ≠ bearS v zs)) (@Eq (HO c_laws_FnExactBearoffText.outs) (false, ()) (c_laws_FnExactBearoffText.out (v, zs, ()))) ((List.length zs ≤ 1099511627776) ∧ (True ∧ (bsp (!(decide (zs = zs))) (@Eq (HO c_laws_FnExactBearoffText.outs) (false, ()) (c_laws_FnExactBearoffText.out (v, zs, ()))) (@Eq (HO c_laws_FnExactBearoffText.outs) (true, ()) (c_laws_FnExactBearoffText.out (v, zs, ())))))))))))))))) (by kernel_rfl) ?_
  rintro v zs hw hl
  refine bspD (fun _ => rfl) (fun hs => ?_)
  have hle : zs.length ≤ 1048576 := by omega
  repeat' first
    | exact rfl
    | refine ⟨trivial, ?_⟩
    | refine bspB (fun h => absurd h (by simp)) (fun _ => ?_)
    | refine bspD (fun h => absurd rfl h) (fun _ => ?_)
    | refine ⟨(by omega), ?_⟩
    | fail
end Go.Proofs.YtailpclkjdkbdaaDoor
