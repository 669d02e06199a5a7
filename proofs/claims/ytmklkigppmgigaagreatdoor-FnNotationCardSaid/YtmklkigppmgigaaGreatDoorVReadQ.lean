/-
  Contracts: rolls, steps and turns read.
-/
import Derived.Test.YtmklkigppmgigaaGreatDoorVReadS
namespace Go.Proofs.YtmklkigppmgigaaGreatDoor
open Go.RowKit
set_option linter.unusedSimpArgs false
set_option linter.unusedVariables false
noncomputable section
def readR (v : DVar) (s : ByteArray) : DRoll × Bool :=
  if s.size = 2 then (if rollD v (byteAt s 0 - 48, byteAt s 1 - 48) = true then ((byteAt s 0 - 48, byteAt s 1 - 48), true) else ((0, 0), false)) else ((0, 0), false)
def okT (v : DVar) (w : ByteArray) : Bool := (readS v w).2
def stT (v : DVar) (w : ByteArray) : DStep := (readS v w).1
def readSs (v : DVar) (s : ByteArray) : List DStep × Bool :=
  if s = ByteArray.mk #[45] then ([], true) else if 4 < (splS s 32).length then ([], false) else if (splS s 32).all (okT v) = true then ((splS s 32).map (stT v), true) else ([], false)
def readSI (v : DVar) (s : ByteArray) : List DStep × Bool := if varD v = true then readSs v s else ([], false)
def turnR (v : DVar) (s : ByteArray) : DRoll × List DStep × Int :=
  if varD v = false then ((0, 0), [], 1) else if 80 < s.size then ((0, 0), [], 3) else if (cutD s colB).2.2 = false then ((0, 0), [], 6)
  else if (readR v (cutD s colB).1).2 = true ∧ (readSs v (cutD s colB).2.1).2 = true then ((readR v (cutD s colB).1).1, (readSs v (cutD s colB).2.1).1, 0) else ((0, 0), [], 6)
theorem split_splS (s : ByteArray) : splitD s spB = splS s 32 := by
  have h : (splitD s spB).map (·.data.toList) = spl 32 s.data.toList := splitD_one
  unfold splS
  rw [show UInt8.ofNat (32 : Int).toNat = 32 from rfl, ← h, List.map_map]
  conv => lhs; rw [← List.map_id (splitD s spB)]
  exact List.map_congr_left fun w _ => (mkB_of w).symm
theorem wordT_sz {s : ByteArray} {k : Nat} (h : k < (splS s 32).length) : ((splS s 32).getD k ByteArray.empty).size ≤ s.size := splS_sz (getD_memS h)
theorem readSs_len (v : DVar) (s : ByteArray) : (readSs v s).1.length ≤ 4 := by
  unfold readSs
  split
  · decide
  · split
    · decide
    · split
      · rw [List.length_map]; omega
      · decide
theorem turnR_len (v : DVar) (s : ByteArray) : (turnR v s).2.1.length ≤ 4 := by
  unfold turnR
  repeat' split
  all_goals first
    | decide
    | exact readSs_len _ _
theorem readR_ok {v : DVar} {s : ByteArray} (h : (readR v s).2 = true) : s.size = 2 ∧ (1 ≤ byteAt s 0 - 48 ∧ byteAt s 0 - 48 ≤ 6) ∧ 1 ≤ byteAt s 1 - 48 ∧ byteAt s 1 - 48 ≤ 6 := by
  unfold readR at h
  split at h
  · next h2 =>
    split at h
    · next hr => exact ⟨h2, rollD_in hr⟩
    · cases h
  · cases h
theorem cut_join {l sep : List UInt8} (h : (Lib.cut l sep).2.2 = true) : l = (Lib.cut l sep).1 ++ sep ++ (Lib.cut l sep).2.1 := by
  unfold Lib.cut at h ⊢
  rcases Lib.index_spec l sep with ⟨h1, -⟩ | ⟨i, h1, h2, h3, -⟩
  · rw [h1, if_neg (by decide)] at h; cases h
  · rw [h1, if_pos (by omega)]
    unfold Lib.occAt at h3
    obtain ⟨t, ht⟩ := List.isPrefixOf_iff_prefix.1 h3
    have e1 : l.drop (i + sep.length) = t := by
      rw [← List.drop_drop, ← ht]; simp
    simp only [Int.toNat_natCast, e1]
    conv => lhs; rw [← List.take_append_drop i l, ← ht]
    rw [List.append_assoc]
theorem col_list : colB.data.toList = [58, 32] := rfl
theorem cut_two {s : ByteArray} (h : (cutD s colB).2.2 = true) (h2 : (cutD s colB).1.size = 2) : 4 ≤ s.size ∧ s.extract 2 4 = colB ∧ s.extract 0 2 = (cutD s colB).1 ∧ s.extract 4 s.size = (cutD s colB).2.1 := by
  have hj := cut_join (l := s.data.toList) (sep := colB.data.toList) h
  have e1 : (cutD s colB).1.data.toList = (Lib.cut s.data.toList colB.data.toList).1 := mkB_data _
  have e2 : (cutD s colB).2.1.data.toList = (Lib.cut s.data.toList colB.data.toList).2.1 := mkB_data _
  rw [← e1, ← e2, col_list] at hj
  rw [Lib.size_eq] at h2
  have hs := Lib.size_eq s
  generalize (cutD s colB).1 = a at *
  generalize (cutD s colB).2.1 = b at *
  obtain ⟨x, y, hxy⟩ : ∃ x y, a.data.toList = [x, y] := by
    match hl : a.data.toList, h2 with
    | [x, y], _ => exact ⟨x, y, rfl⟩
  rw [hxy] at hj
  have hsz : s.size = b.data.toList.length + 4 := by rw [hs, hj]; simp
  refine ⟨by omega, ?_, ?_, ?_⟩
  · refine bytes_ext ?_
    rw [ext_list, hj, col_list]; rfl
  · refine bytes_ext ?_
    rw [ext_list, hj, hxy]; rfl
  · refine bytes_ext ?_
    rw [ext_list, hj, hsz]
    have hb := Lib.size_eq b
    simp only [List.cons_append, List.nil_append, List.drop_succ_cons, List.drop_zero, Nat.add_sub_cancel]
    exact List.take_of_length_le (Nat.le_refl _)
theorem cut_four {s : ByteArray} (h4 : 4 ≤ s.size) (hc : s.extract 2 4 = colB) (h0 : byteAt (s.extract 0 2) 0 ≠ 58) (h1 : byteAt (s.extract 0 2) 1 ≠ 58) : cutD s colB = (s.extract 0 2, s.extract 4 s.size, true) := by
  have hl : 4 ≤ s.data.toList.length := by rw [← Lib.size_eq]; exact h4
  have hs := Lib.size_eq s
  obtain ⟨a, b, c, d, r, e⟩ : ∃ a b c d r, s.data.toList = a :: b :: c :: d :: r := by
    match hl' : s.data.toList, hl with
    | a :: b :: c :: d :: r, _ => exact ⟨a, b, c, d, r, rfl⟩
  have hce : (s.extract 2 4).data.toList = colB.data.toList := by rw [hc]
  rw [ext_list, e, col_list] at hce
  have hcd : c = 58 ∧ d = 32 := by simpa using hce
  obtain ⟨rfl, rfl⟩ := hcd
  have hx : (s.extract 0 2).data.toList = [a, b] := by rw [ext_list, e]; rfl
  have h0' : byteAt (s.extract 0 2) 0 = (a.toNat : Int) := by
    rw [show byteAt (s.extract 0 2) 0 = (((s.extract 0 2).data.toList.getD 0 0).toNat : Int) from rfl, hx]; rfl
  have h1' : byteAt (s.extract 0 2) 1 = (b.toNat : Int) := by
    rw [show byteAt (s.extract 0 2) 1 = (((s.extract 0 2).data.toList.getD 1 0).toNat : Int) from rfl, hx]; rfl
  rw [h0'] at h0
  rw [h1'] at h1
  have na : (58 : UInt8) ≠ a := fun g => h0 (by rw [← g]; rfl)
  have nb : (58 : UInt8) ≠ b := fun g => h1 (by rw [← g]; rfl)
  have hi : Lib.index s.data.toList [58, 32] = 2 := by
    refine Lib.index_first (i := 2) (by omega) ?_ ?_
    · rw [e]; simp [Lib.occAt, List.isPrefixOf]
    · intro j hj
      rw [e]
      match j, hj with
      | 0, _ => simp [Lib.occAt, List.isPrefixOf, na]
      | 1, _ => simp [Lib.occAt, List.isPrefixOf, nb]
  have hcut : Lib.cut s.data.toList colB.data.toList = ([a, b], r, true) := by
    unfold Lib.cut
    rw [col_list, hi, if_pos (by decide), e]; rfl
  unfold cutD
  rw [hcut]
  refine Prod.ext (bytes_ext ?_) (Prod.ext (bytes_ext ?_) rfl)
  · rw [hx]
  · show _ = (s.extract 4 s.size).data.toList
    rw [ext_list, hs, e]; simp
def c_impl_ReadRoll : Con where
  ins := [(true, .v tVar), (false, .v .s)]
  outs := [(true, .v tRoll), (false, .v .b)]
  sh := false
  pre := fun _ => True
  out := fun x => ((readR x.1 x.2.1).1, (readR x.1 x.2.1).2, ())
  upd := fun x => x
theorem k_impl_ReadRoll [B : Base] : ConOk Tryz.prog 24 c_impl_ReadRoll := by
  refine fn_okW (C := cx Tryz.prog 26 c_impl_ReadRoll) (cs := [(18, c_impl_IsRoll)]) (res := Tryz.f24.results.toList) (fun _ => ⟨[], [(3, ⟨[[], [0], [0, 1], [0, 1, 2], [], [4], [4, 5], [4, 5, 6], [0, 1, 2, 3, 4, 5, 6, 7], [], [0, 1, 2, 3, 4, 5, 6, 7, 8, 9]], [[4, 5, 6, 7, 9], [4, 5, 6, 7, 9], [4, 5, 6, 7, 9], [4, 5, 6, 7, 9], [0, 1, 2, 3, 9], [0, 1, 2, 3, 9], [0, 1, 2, 3, 9], [0, 1, 2, 3, 9], [9], [0, 1, 2, 3, 4, 5, 6, 7, 8], []], []⟩)], []⟩) Tryz.func24 (by kernel_rfl) rfl rfl rfl tysOk.look eqTsOk.look (AllCs.ok (l := [(18, c_impl_IsRoll)]) ⟨k_impl_IsRoll, trivial⟩) mixed rfl rfl rfl ?_
  refine of_nf (P := ∀ v : Int × Int × Int × Int, ∀ s : ByteArray, (True) → ((lensI c_impl_ReadRoll.ins (v, s, ())) → (bsp (decide ((ByteArray.size s : Int) ≠ (2 : Int))) (@Eq (HO c_impl_ReadRoll.outs) ((0, 0), false, ()) (c_impl_ReadRoll.out (v, s, ()))) ((0 ≤ (0 : Int) ∧ 0 < (ByteArray.size s : Int)) ∧ ((inK .i64 (byteAt s 0)) ∧ ((inK .i64 ((byteAt s 0) - 48)) ∧ ((0 ≤ (1 : Int) ∧ 1 < (ByteArray.size s : Int)) ∧ ((inK .i64 (byteAt s 1)) ∧ ((inK .i64 ((byteAt s 1) - 48)) ∧ (True ∧ (bsp (!(rollD v ((byteAt s 0) - 48, (byteAt s 1) - 48))) (@Eq (HO c_impl_ReadRoll.outs) ((0, 0), false, ()) (c_impl_ReadRoll.out (v, s, ()))) (@Eq (HO c_impl_ReadRoll.outs) (((byteAt s 0) - 48, (byteAt s 1) - 48), true, ()) (c_impl_ReadRoll.out (v, s, ())))))))))))))) (by kernel_rfl) ?_
  rintro v s hp hl
  have hD := readR.eq_1 v s
  have out : ∀ r : DRoll × Bool, readR v s = r → @Eq (HO c_impl_ReadRoll.outs) (r.1, r.2, ()) (c_impl_ReadRoll.out (v, s, ())) := fun r h => by subst h; rfl
  refine bspD (fun h => out (_, false) (hD.trans (if_neg (by omega)))) (fun h => ?_)
  rw [if_pos (by omega)] at hD
  have b0 := (s.data.toList.getD 0 0).toNat_lt
  have b1 := (s.data.toList.getD 1 0).toNat_lt
  have e0 : byteAt s 0 = ((s.data.toList.getD 0 0).toNat : Int) := rfl
  have e1 : byteAt s 1 = ((s.data.toList.getD 1 0).toNat : Int) := rfl
  refine ⟨⟨by omega, by omega⟩, by simp only [inK]; omega, by simp only [inK]; omega, ⟨by omega, by omega⟩, by simp only [inK]; omega, by simp only [inK]; omega, trivial, bspB (fun g => out (_, false) (hD.trans (if_neg (by revert g; cases rollD v (byteAt s 0 - 48, byteAt s 1 - 48) <;> simp)))) (fun g => out (_, true) (hD.trans (if_pos (by revert g; cases rollD v (byteAt s 0 - 48, byteAt s 1 - 48) <;> simp))))⟩
def c_impl_ReadSteps : Con where
  ins := [(true, .v tVar), (false, .v .s)]
  outs := [(false, .own 56 tStep), (false, .v .b)]
  sh := false
  pre := fun x => (x.2.1).size ≤ 1048576
  out := fun x => ((readSI x.1 x.2.1).1, (readSI x.1 x.2.1).2, ())
  upd := fun x => x
theorem k_impl_ReadSteps [B : Base] : ConOk Tryz.prog 9 c_impl_ReadSteps := by
  refine fn_okW (C := cx Tryz.prog 42 c_impl_ReadSteps) (cs := [(22, c_impl_IsVariant), (25, c_strings_Split), (26, c_impl_readStep)]) (res := Tryz.f9.results.toList) (fun x => ⟨[{ sh := ⟨[(2, .one (.ref 0)), (7, .one (.ref 1)), (22, .one (.ref 2)), (23, .one (.i .i64)), (24, .one (.i .i64))], [(0, .box [.i .i64, .i .i64, .i .i64, .i .i64]), (1, .own 56 tStep true), (2, .imm .s true)]⟩, nx := 3, I := fun _ dat_ => (((splitD x.2.1 (ByteArray.mk #[32])).length : Int) = dat_.1.2.2.2.1 ∧ x.1.1 = dat_.2.1.1 ∧ x.1.2.1 = dat_.2.1.2.1 ∧ x.1.2.2.1 = dat_.2.1.2.2.1 ∧ x.1.2.2.2 = dat_.2.1.2.2.2.1 ∧ splitD x.2.1 (ByteArray.mk #[32]) = dat_.2.2.2.1) ∧ ((dat_.2.2.1 = List.map (stT x.1) (List.take (Int.toNat dat_.1.2.2.2.2.1) (splS x.2.1 32)) ∧ List.all (List.take (Int.toNat dat_.1.2.2.2.2.1) (splS x.2.1 32)) (okT x.1) = true) ∧ 0 ≤ dat_.1.2.2.2.2.1 ∧ dat_.1.2.2.2.2.1 ≤ (List.length (splS x.2.1 32) : Int)), mu := fun dat_ => Int.toNat ((List.length (splS x.2.1 32) : Int) - dat_.1.2.2.2.2.1) }], [], []⟩) Tryz.func9 (by kernel_rfl) rfl rfl rfl tysOk.look eqTsOk.look (AllCs.ok (l := [(22, c_impl_IsVariant), (25, c_strings_Split), (26, c_impl_readStep)]) ⟨k_impl_IsVariant, k_strings_Split, k_impl_readStep, trivial⟩) mixed rfl rfl rfl ?_
  refine of_nf (P := ∀ v : Int × Int × Int × Int, ∀ s : ByteArray, ((s).size ≤ 1048576) → ((lensI c_impl_ReadSteps.ins (v, s, ())) → (True ∧ (bsp (!(varD v)) (@Eq (HO c_impl_ReadSteps.outs) ([], false, ()) (c_impl_ReadSteps.out (v, s, ()))) (bsp (decide (s = (ByteArray.mk #[45]))) (@Eq (HO c_impl_ReadSteps.outs) ([], true, ()) (c_impl_ReadSteps.out (v, s, ()))) (((s).size ≤ 1048576 ∧ 1 ≤ ((ByteArray.mk #[32])).size) ∧ (bsp (decide ((4 : Int) < ((splitD s (ByteArray.mk #[32])).length : Int))) (@Eq (HO c_impl_ReadSteps.outs) ([], false, ()) (c_impl_ReadSteps.out (v, s, ()))) (((((splitD s (ByteArray.mk #[32])).length : Int) = ((splitD s (ByteArray.mk #[32])).length : Int) ∧ v.1 = v.1 ∧ v.2.1 = v.2.1 ∧ v.2.2.1 = v.2.2.1 ∧ v.2.2.2 = v.2.2.2 ∧ splitD s (ByteArray.mk #[32]) = (splitD s (ByteArray.mk #[32]))) ∧ (([] = List.map (stT v) (List.take (Int.toNat (0 : Int)) (splS s 32)) ∧ List.all (List.take (Int.toNat (0 : Int)) (splS s 32)) (okT v) = true) ∧ 0 ≤ (0 : Int) ∧ (0 : Int) ≤ (List.length (splS s 32) : Int))) ∧ (∀ n : Int, ∀ i : Int, ∀ t2_0 : Int, ∀ t2_1 : Int, ∀ t2_2 : Int, ∀ t2_3 : Int, ∀ l : List (Int × Int × Int × Bool), ∀ w : List ByteArray, ((((splitD s (ByteArray.mk #[32])).length : Int) = n ∧ v.1 = t2_0 ∧ v.2.1 = t2_1 ∧ v.2.2.1 = t2_2 ∧ v.2.2.2 = t2_3 ∧ splitD s (ByteArray.mk #[32]) = w) ∧ ((l = List.map (stT v) (List.take (Int.toNat i) (splS s 32)) ∧ List.all (List.take (Int.toNat i) (splS s 32)) (okT v) = true) ∧ 0 ≤ i ∧ i ≤ (List.length (splS s 32) : Int))) → (bsp (decide (i < n)) ((0 ≤ i ∧ i < (w.length : Int)) ∧ ((i.toNat < w.length) ∧ ((varD (t2_0, t2_1, t2_2, t2_3) = true ∧ ((w.getD i.toNat ByteArray.empty)).size ≤ 1048576) ∧ (bsp (!(readS (t2_0, t2_1, t2_2, t2_3) (w.getD i.toNat ByteArray.empty)).2) (@Eq (HO c_impl_ReadSteps.outs) ([], false, ()) (c_impl_ReadSteps.out (v, s, ()))) ((l.length + ([(readS (t2_0, t2_1, t2_2, t2_3) (w.getD i.toNat ByteArray.empty)).1] : List (Int × Int × Int × Bool)).length ≤ AB) ∧ ((inK .i64 (i + 1)) ∧ (((((splitD s (ByteArray.mk #[32])).length : Int) = n ∧ v.1 = t2_0 ∧ v.2.1 = t2_1 ∧ v.2.2.1 = t2_2 ∧ v.2.2.2 = t2_3 ∧ splitD s (ByteArray.mk #[32]) = w) ∧ (((l ++ [(readS (t2_0, t2_1, t2_2, t2_3) (w.getD i.toNat ByteArray.empty)).1]) = List.map (stT v) (List.take (Int.toNat (i + 1)) (splS s 32)) ∧ List.all (List.take (Int.toNat (i + 1)) (splS s 32)) (okT v) = true) ∧ 0 ≤ (i + 1) ∧ (i + 1) ≤ (List.length (splS s 32) : Int))) ∧ ((Int.toNat ((List.length (splS s 32) : Int) - (i + 1)) : Nat) < Int.toNat ((List.length (splS s 32) : Int) - i))))))))) (@Eq (HO c_impl_ReadSteps.outs) (l, true, ()) (c_impl_ReadSteps.out (v, s, ()))))))))))))) (by kernel_rfl) ?_
  rintro v s hs hl
  have hI := readSI.eq_1 v s
  have out : ∀ r : List DStep × Bool, readSI v s = r → @Eq (HO c_impl_ReadSteps.outs) (r.1, r.2, ()) (c_impl_ReadSteps.out (v, s, ())) := fun r h => by subst h; rfl
  have h32 : ByteArray.mk #[32] = spB := rfl
  rw [h32, split_splS]
  refine ⟨trivial, bspB (fun h => out ([], false) (hI.trans (if_neg (by revert h; cases varD v <;> simp)))) (fun h => ?_)⟩
  have hv : varD v = true := by revert h; cases varD v <;> simp
  have hD := readSs.eq_1 v s
  rw [if_pos hv] at hI
  rw [← hI] at hD
  have hcn := splS_cnt s 32
  refine bspD (fun h1 => out ([], true) (hD.trans (if_pos h1))) (fun h1 => ⟨⟨hs, by decide⟩, ?_⟩)
  rw [if_neg h1] at hD
  refine bspD (fun h4 => out ([], false) (hD.trans (if_pos (by omega)))) (fun h4 => ?_)
  rw [if_neg (by omega)] at hD
  refine ⟨⟨(by first | trivial | rfl | (and_intros <;> rfl)), ⟨rfl, rfl⟩, by omega, by omega⟩, ?_⟩
  rintro n i t2_0 t2_1 t2_2 t2_3 l w ⟨⟨rfl, rfl, rfl, rfl, rfl, rfl⟩, ⟨⟨hl', ha⟩, i0, i1⟩⟩
  obtain ⟨k, rfl⟩ : ∃ k : Nat, i = k := ⟨i.toNat, by omega⟩
  simp only [Prod.eta]
  simp only [Int.toNat_natCast, show ((k : Int) + 1).toNat = k + 1 by omega] at hl' ha ⊢
  refine bspD (fun hlt => ?_) (fun hge => ?_)
  · have hk : k < (splS s 32).length := by omega
    have hsz := wordT_sz hk
    have hm := getD_memS hk
    refine ⟨⟨by omega, by omega⟩, hk, ⟨hv, by omega⟩, bspB (fun hb => ?_) (fun hb => ⟨?_, by simp only [inK]; omega, ⟨(by first | trivial | rfl | (and_intros <;> rfl)), ⟨?_, ?_⟩, by omega, by omega⟩, by omega⟩)⟩
    · refine out ([], false) (hD.trans (if_neg fun hall => ?_))
      have := List.all_eq_true.1 hall _ hm
      unfold okT at this
      rw [this] at hb; cases hb
    · have : AB = 1099511627776 := rfl
      rw [hl']; simp only [List.length_map, List.length_take, List.length_cons, List.length_nil]; omega
    · rw [take_map_step (stT v) hk ByteArray.empty, hl']; rfl
    · rw [take_all_step (okT v) hk ByteArray.empty, ha]
      simpa [okT] using hb
  · rw [List.take_of_length_le (by omega)] at hl' ha
    subst hl'
    exact out (_, true) (hD.trans (if_pos ha))
def c_impl_ReadTurn : Con where
  ins := [(true, .v tVar), (false, .v .s)]
  outs := [(true, .v tRoll), (false, .own 56 tStep), (false, .v tI)]
  sh := false
  pre := fun x => (x.2.1).size ≤ 1048576
  out := fun x => ((turnR x.1 x.2.1).1, (turnR x.1 x.2.1).2.1, (turnR x.1 x.2.1).2.2, ())
  upd := fun x => x
theorem k_impl_ReadTurn [B : Base] : ConOk Tryz.prog 8 c_impl_ReadTurn := by
  refine fn_okW (C := cx Tryz.prog 52 c_impl_ReadTurn) (cs := [(22, c_impl_IsVariant), (23, c_strings_Cut), (24, c_impl_ReadRoll), (9, c_impl_ReadSteps)]) (res := Tryz.f8.results.toList) (fun _ => ⟨[], [], []⟩) Tryz.func8 (by kernel_rfl) rfl rfl rfl tysOk.look eqTsOk.look (AllCs.ok (l := [(22, c_impl_IsVariant), (23, c_strings_Cut), (24, c_impl_ReadRoll), (9, c_impl_ReadSteps)]) ⟨k_impl_IsVariant, k_strings_Cut, k_impl_ReadRoll, k_impl_ReadSteps, trivial⟩) mixed rfl rfl rfl ?_
  refine of_nf (P := ∀ v : Int × Int × Int × Int, ∀ s : ByteArray, ((s).size ≤ 1048576) → ((lensI c_impl_ReadTurn.ins (v, s, ())) → (True ∧ (bsp (!(varD v)) (@Eq (HO c_impl_ReadTurn.outs) ((0, 0), [], 1, ()) (c_impl_ReadTurn.out (v, s, ()))) (bsp (decide ((80 : Int) < (ByteArray.size s : Int))) (@Eq (HO c_impl_ReadTurn.outs) ((0, 0), [], 3, ()) (c_impl_ReadTurn.out (v, s, ()))) (((s).size < 4294967281) ∧ (bsp (!(cutD s (ByteArray.mk #[58, 32])).2.2) (@Eq (HO c_impl_ReadTurn.outs) ((0, 0), [], 6, ()) (c_impl_ReadTurn.out (v, s, ()))) (True ∧ ((((cutD s (ByteArray.mk #[58, 32])).2.1).size ≤ 1048576) ∧ (bsp (!(readR v (cutD s (ByteArray.mk #[58, 32])).1).2) (@Eq (HO c_impl_ReadTurn.outs) ((0, 0), [], 6, ()) (c_impl_ReadTurn.out (v, s, ()))) (bsp (!(readSI v (cutD s (ByteArray.mk #[58, 32])).2.1).2) (@Eq (HO c_impl_ReadTurn.outs) ((0, 0), [], 6, ()) (c_impl_ReadTurn.out (v, s, ()))) (@Eq (HO c_impl_ReadTurn.outs) ((readR v (cutD s (ByteArray.mk #[58, 32])).1).1, (readSI v (cutD s (ByteArray.mk #[58, 32])).2.1).1, 0, ()) (c_impl_ReadTurn.out (v, s, ())))))))))))))) (by kernel_rfl) ?_
  rintro v s hs hl
  have hD := turnR.eq_1 v s
  have out : ∀ r : DRoll × List DStep × Int, turnR v s = r → @Eq (HO c_impl_ReadTurn.outs) (r.1, r.2.1, r.2.2, ()) (c_impl_ReadTurn.out (v, s, ())) := fun r h => by subst h; rfl
  have hcol : ByteArray.mk #[58, 32] = colB := rfl
  rw [hcol]
  have hz := cutD_sz s colB
  refine ⟨trivial, bspB (fun h => out (_, _, 1) (hD.trans (if_pos (by simpa using h)))) (fun h => ?_)⟩
  have hv : varD v = true := by revert h; cases varD v <;> simp
  have hI : ∀ t, readSI v t = readSs v t := fun t => by unfold readSI; rw [if_pos hv]
  rw [hI]
  rw [if_neg (by rw [hv]; decide)] at hD
  refine bspD (fun h8 => out (_, _, 3) (hD.trans (if_pos (by omega)))) (fun h8 => ?_)
  rw [if_neg (by omega)] at hD
  refine ⟨by omega, bspB (fun hc => out (_, _, 6) (hD.trans (if_pos (by revert hc; cases (cutD s colB).2.2 <;> simp)))) (fun hc => ⟨trivial, by omega, ?_⟩)⟩
  rw [if_neg (by revert hc; cases (cutD s colB).2.2 <;> simp)] at hD
  refine bspB (fun h1 => out (_, _, 6) (hD.trans (if_neg fun g => ?_))) (fun h1 => bspB (fun h2 => out (_, _, 6) (hD.trans (if_neg fun g => ?_))) (fun h2 => out (_, _, 0) (hD.trans (if_pos ⟨?_, ?_⟩))))
  · rw [g.1] at h1; cases h1
  · rw [g.2] at h2; cases h2
  · revert h1; cases (readR v (cutD s colB).1).2 <;> simp
  · revert h2; cases (readSs v (cutD s colB).2.1).2 <;> simp
end
end Go.Proofs.YtmklkigppmgigaaGreatDoor
