/-
  Contracts: bear-off positions read.
-/
import Derived.Test.YtpoaimdoogckbaaDoorVBearT
import Derived.Test.YtpoaimdoogckbaaDoorVReadN
import Derived.Test.YtpoaimdoogckbaaDoorPCut
import Derived.Test.YtpoaimdoogckbaaDoorLibP
import Derived.Test.YtpoaimdoogckbaaDoorAbL
namespace Go.Proofs.YtpoaimdoogckbaaDoor
open Go.RowKit
set_option linter.unusedSimpArgs false
set_option linter.unusedVariables false
def c_strings_Split : Con where
  ins := [(false, .v .s), (false, .v .s)]
  outs := [(false, .v (.sl .s))]
  sh := false
  pre := fun x => (x.1).size ≤ 1048576 ∧ 1 ≤ (x.2.1).size
  out := fun x => (splitD x.1 x.2.1, ())
  upd := fun x => x
theorem k_strings_Split [B : Base] : ConOk Tryd.prog 25 c_strings_Split :=
  conSplit (pre := c_strings_Split.pre) (T := 9) (fun _ _ h => h) ⟨_, _, Tryd.func25, by kernel_rfl, rfl⟩ fun s p w hold h1 h2 => by
    obtain ⟨m, hm⟩ := Tryd.laysM146.s1_3 B.W B.ok.2
    exact Any.strings_Split { Tryd.laysM146 with } Tryd.laysM146.i9 s p m w (by omega) (cell_old hold hm) h2
noncomputable section
def okN (w : ByteArray) : Bool := (readD w).2
def numN (w : ByteArray) : Int := (readD w).1
def numsP (s c : ByteArray) : List Int × Bool := if (splitD s c).all okN = true then ((splitD s c).map numN, true) else ([], false)
theorem split_com (s : ByteArray) : (splitD s comB).map (·.data.toList) = spl 44 s.data.toList := splitD_one
theorem split_sz {s : ByteArray} {w : ByteArray} (h : w ∈ splitD s comB) : w.size ≤ s.size := by
  rw [Lib.size_eq, Lib.size_eq]
  refine spl_len (c := 44) ?_
  rw [← split_com]
  exact List.mem_map.2 ⟨w, h, rfl⟩
theorem split_cnt (s : ByteArray) : (splitD s comB).length ≤ s.size + 1 := by
  have h := congrArg List.length (split_com s)
  rw [List.length_map] at h
  have := spl_cnt (c := 44) s.data.toList
  rw [Lib.size_eq]; omega
def mkB (l : List UInt8) : ByteArray := ⟨l.toArray⟩
theorem mkB_data (l : List UInt8) : (mkB l).data.toList = l := by simp [mkB]
theorem mkB_of (s : ByteArray) : mkB s.data.toList = s := bytes_ext (mkB_data _)
def splS (s : ByteArray) (c : Int) : List ByteArray := (spl (UInt8.ofNat c.toNat) s.data.toList).map mkB
def SplI (s : ByteArray) (c : Int) (o : List ByteArray) (fr i : Int) : Prop :=
  ∃ f k : Nat, fr = f ∧ i = k ∧ o.length ≤ k ∧ ((k ≤ s.size ∧ f ≤ k ∧ o.map (·.data.toList) ++ spl (UInt8.ofNat c.toNat) (s.data.toList.drop f) = spl (UInt8.ofNat c.toNat) s.data.toList ∧ UInt8.ofNat c.toNat ∉ (s.data.toList.drop f).take (k - f)) ∨ (k = s.size + 1 ∧ o.map (·.data.toList) = spl (UInt8.ofNat c.toNat) s.data.toList))
theorem ext_list (s : ByteArray) (a b : Nat) : (s.extract a b).data.toList = (s.data.toList.drop a).take (b - a) := by
  rw [Lib.extract_eq]
theorem split_at_k {l : List UInt8} {f k : Nat} (h1 : f ≤ k) (h2 : k < l.length) : l.drop f = (l.drop f).take (k - f) ++ l[k] :: l.drop (k + 1) := by
  conv => lhs; rw [← List.take_append_drop (k - f) (l.drop f)]
  rw [List.drop_drop, show f + (k - f) = k by omega, List.drop_eq_getElem_cons h2]
def c_impl_splitNumbers : Con where
  ins := [(false, .v .s), (false, .v .s)]
  outs := [(false, .own 2 tI), (false, .v .b)]
  sh := false
  pre := fun x => (x.1).size ≤ 1048576 ∧ x.2.1 = comB
  out := fun x => ((numsP x.1 x.2.1).1, (numsP x.1 x.2.1).2, ())
  upd := fun x => x
theorem k_impl_splitNumbers [B : Base] : ConOk Tryd.prog 16 c_impl_splitNumbers := by
  refine fn_ok (C := cx Tryd.prog 32 c_impl_splitNumbers) (cs := [(25, c_strings_Split), (26, c_impl_readDecimal)]) (res := Tryd.f16.results.toList) (fun x => ⟨[{ sh := ⟨[(6, .one (.ref 0)), (13, .one (.ref 1)), (14, .one (.i .i64)), (15, .one (.i .i64))], [(0, .own 2 tI true), (1, .imm .s true)]⟩, nx := 2, I := fun _ dat_ => (((splitD x.1 x.2.1).length : Int) = dat_.1.2.2.1 ∧ splitD x.1 x.2.1 = dat_.2.2.1) ∧ ((dat_.2.1 = List.map numN (List.take (Int.toNat dat_.1.2.2.2.1) (splitD x.1 x.2.1)) ∧ List.all (List.take (Int.toNat dat_.1.2.2.2.1) (splitD x.1 x.2.1)) okN = true) ∧ 0 ≤ dat_.1.2.2.2.1 ∧ dat_.1.2.2.2.1 ≤ (List.length (splitD x.1 x.2.1) : Int)), mu := fun dat_ => Int.toNat ((List.length (splitD x.1 x.2.1) : Int) - dat_.1.2.2.2.1) }], [], []⟩) Tryd.func16 (by kernel_rfl) rfl rfl rfl tysOk.look eqTsOk.look (AllCs.ok (l := [(25, c_strings_Split), (26, c_impl_readDecimal)]) ⟨k_strings_Split, k_impl_readDecimal, trivial⟩) mixed rfl rfl rfl ?_
  refine of_nf (P := ∀ s : ByteArray, ∀ c : ByteArray, ((s).size ≤ 1048576 ∧ c = comB) → ((lensI c_impl_splitNumbers.ins (s, c, ())) → (((s).size ≤ 1048576 ∧ 1 ≤ (c).size) ∧ (((((splitD s c).length : Int) = ((splitD s c).length : Int) ∧ splitD s c = (splitD s c)) ∧ (([] = List.map numN (List.take (Int.toNat (0 : Int)) (splitD s c)) ∧ List.all (List.take (Int.toNat (0 : Int)) (splitD s c)) okN = true) ∧ 0 ≤ (0 : Int) ∧ (0 : Int) ≤ (List.length (splitD s c) : Int))) ∧ (∀ n : Int, ∀ i : Int, ∀ l : List Int, ∀ t13 : List ByteArray, ((((splitD s c).length : Int) = n ∧ splitD s c = t13) ∧ ((l = List.map numN (List.take (Int.toNat i) (splitD s c)) ∧ List.all (List.take (Int.toNat i) (splitD s c)) okN = true) ∧ 0 ≤ i ∧ i ≤ (List.length (splitD s c) : Int))) → (bsp (decide (i < n)) ((0 ≤ i ∧ i < (t13.length : Int)) ∧ ((i.toNat < t13.length) ∧ ((((t13.getD i.toNat ByteArray.empty)).size ≤ 281474976710656) ∧ (bsp (!(readD (t13.getD i.toNat ByteArray.empty)).2) (@Eq (HO c_impl_splitNumbers.outs) ([], false, ()) (c_impl_splitNumbers.out (s, c, ()))) ((l.length + ([(readD (t13.getD i.toNat ByteArray.empty)).1] : List Int).length ≤ AB) ∧ ((inK .i64 (i + 1)) ∧ (((((splitD s c).length : Int) = n ∧ splitD s c = t13) ∧ (((l ++ [(readD (t13.getD i.toNat ByteArray.empty)).1]) = List.map numN (List.take (Int.toNat (i + 1)) (splitD s c)) ∧ List.all (List.take (Int.toNat (i + 1)) (splitD s c)) okN = true) ∧ 0 ≤ (i + 1) ∧ (i + 1) ≤ (List.length (splitD s c) : Int))) ∧ ((Int.toNat ((List.length (splitD s c) : Int) - (i + 1)) : Nat) < Int.toNat ((List.length (splitD s c) : Int) - i))))))))) (@Eq (HO c_impl_splitNumbers.outs) (l, true, ()) (c_impl_splitNumbers.out (s, c, ()))))))))) (by kernel_rfl) ?_
  rintro s c ⟨hs, hc⟩ hl
  subst hc
  have out : ∀ r : List Int × Bool, numsP s comB = r → @Eq (HO c_impl_splitNumbers.outs) (r.1, r.2, ()) (c_impl_splitNumbers.out (s, comB, ())) := fun r h => by subst h; rfl
  have hcnt := split_cnt s
  refine ⟨⟨hs, by decide⟩, ⟨(by first | trivial | rfl | (and_intros <;> rfl)), ⟨rfl, rfl⟩, by omega, by omega⟩, ?_⟩
  rintro n i l t13 ⟨⟨rfl, rfl⟩, ⟨⟨hl', ha⟩, i0, i1⟩⟩
  obtain ⟨k, rfl⟩ : ∃ k : Nat, i = k := ⟨i.toNat, by omega⟩
  simp only [Int.toNat_natCast, show ((k : Int) + 1).toNat = k + 1 by omega] at hl' ha ⊢
  refine bspD (fun hlt => ?_) (fun hge => ?_)
  · have hk : k < (splitD s comB).length := by omega
    have hm : (splitD s comB).getD k ByteArray.empty ∈ splitD s comB := by rw [List.getD_eq_getElem?_getD, List.getElem?_eq_getElem hk]; exact List.getElem_mem hk
    have hsz := split_sz hm
    refine ⟨⟨by omega, by omega⟩, hk, by omega, bspB (fun hb => ?_) (fun hb => ⟨?_, by simp only [inK]; omega, ⟨(by first | trivial | rfl | (and_intros <;> rfl)), ⟨?_, ?_⟩, by omega, by omega⟩, by omega⟩)⟩
    · refine out ([], false) (if_neg fun hall => ?_)
      have := List.all_eq_true.1 hall _ hm
      unfold okN at this
      rw [this] at hb; cases hb
    · have : AB = 1099511627776 := rfl
      rw [hl']; simp only [List.length_map, List.length_take, List.length_cons, List.length_nil]; omega
    · rw [take_map_step numN hk ByteArray.empty, hl']; rfl
    · rw [take_all_step okN hk ByteArray.empty, ha]
      simpa [okN] using hb
  · rw [List.take_of_length_le (by omega)] at hl' ha
    subst hl'
    exact out (_, true) (if_pos ha)
structure BearT (v : DVar) (s : ByteArray) (p : List Int) : Prop where
  ok : (varD v && bearD v p) = true
  tx : bearS v p = s
def readB (v : DVar) (s : ByteArray) : List Int × Bool := by
  classical exact if h : ∃ p, BearT v s p then (Classical.choose h, true) else ([], false)
theorem decS_inj2 {x y : Int} (hx : inK .i64 x) (hy : inK .i64 y) (h : decS x = decS y) : x = y := by
  have := readD_decS hx
  rw [h, readD_decS hy] at this
  exact (congrArg Prod.fst this).symm
theorem no_comma (x : Int) : (44 : UInt8) ∉ (decS x).data.toList := by
  rw [decS_list]; exact itoa_not (by decide) (.inl (by decide))
theorem joinS_list (xs : List ByteArray) (s : ByteArray) : (joinS xs s).data.toList = Lib.join (xs.map (·.data.toList)) s.data.toList := by simp [joinS]
theorem spl_joinS {zs : List Int} (h : zs ≠ []) : spl 44 (joinS (zs.map decS) comB).data.toList = (zs.map decS).map (·.data.toList) := by
  rw [joinS_list]
  refine spl_join (by simpa using h) fun p hp => ?_
  simp only [List.mem_map] at hp
  obtain ⟨w, ⟨z, -, rfl⟩, rfl⟩ := hp
  exact no_comma z
theorem map_data_inj {xs ys : List ByteArray} (h : xs.map (·.data.toList) = ys.map (·.data.toList)) : xs = ys := by
  have e : ∀ zs : List ByteArray, (zs.map (·.data.toList)).map mkB = zs := fun zs => by
    rw [List.map_map]
    conv => rhs; rw [← List.map_id zs]
    exact List.map_congr_left fun w _ => mkB_of w
  rw [← e xs, h, e ys]
theorem decS_size2 {n : Int} (h : 0 ≤ n ∧ n ≤ 15) : (decS n).size ≤ 2 := by
  rw [Lib.size_eq, decS_list, itoa_nat h.1]
  exact decDigits_len (k := 1) (by omega)
theorem bearT_facts {v : DVar} {s : ByteArray} {p : List Int} (h : BearT v s p) : varD v = true ∧ bearD v p = true ∧ p ≠ [] ∧ s = joinS (p.map decS) comB ∧ (∀ z ∈ p, 0 ≤ z ∧ z ≤ 15) ∧ s.size ≤ 100 ∧ s ≠ nilB ∧ spl 44 s.data.toList = (p.map decS).map (·.data.toList) := by
  obtain ⟨h1, h2⟩ := h
  have h3 := Bool.and_eq_true_iff.1 h1
  obtain ⟨hin, hlen⟩ := bear_in h1
  obtain ⟨-, -, ⟨g3, g3'⟩, -⟩ := varD_iff.1 h3.1
  have hb := h3.2
  simp only [bearD, Bool.and_eq_true, decide_eq_true_eq] at hb
  have hne : p ≠ [] := fun e => by rw [e] at hb; simp at hb; omega
  unfold bearS at h2
  rw [if_pos h1] at h2
  have hs := spl_joinS hne
  have hz := joinS_size (k := 2) (q := 1) (s := comB) (n := p.length) (xs := p.map decS) (Nat.le_refl _) (by simp) (fun x hx => by
    obtain ⟨z, hz, rfl⟩ := List.mem_map.1 hx
    exact decS_size2 (hin z hz))
  refine ⟨h3.1, h3.2, hne, h2.symm, hin, by rw [← h2]; omega, fun e => ?_, by rw [← h2]; exact hs⟩
  rw [h2, e] at hs
  obtain ⟨z, zs, rfl⟩ := List.exists_cons_of_ne_nil hne
  have h0 : [[]] = ((z :: zs).map decS).map (·.data.toList) := hs
  simp only [List.map_cons, List.cons.injEq] at h0
  have := trim_decS (x := z) (by have := hin z (by simp); simp only [inK]; omega)
  rw [← decS_list, ← h0.1] at this
  exact absurd this.1 (by decide)
theorem bearT_unique {v : DVar} {s : ByteArray} {p q : List Int} (hp : BearT v s p) (hq : BearT v s q) : p = q := by
  obtain ⟨-, -, -, -, i1, -, -, e1⟩ := bearT_facts hp
  obtain ⟨-, -, -, -, i2, -, -, e2⟩ := bearT_facts hq
  have h := map_data_inj (e1.symm.trans e2)
  have inj : ∀ {p q : List Int}, (∀ z ∈ p, 0 ≤ z ∧ z ≤ 15) → (∀ z ∈ q, 0 ≤ z ∧ z ≤ 15) → p.map decS = q.map decS → p = q := by
    intro p
    induction p with
    | nil => intro q _ _ h; cases q with
      | nil => rfl
      | cons a q => cases h
    | cons a p ih => intro q h1 h2 h; cases q with
      | nil => cases h
      | cons b q =>
        simp only [List.map_cons, List.cons.injEq] at h
        have ha := h1 a (by simp)
        have hb := h2 b (by simp)
        rw [decS_inj2 (by simp only [inK]; omega) (by simp only [inK]; omega) h.1, ih (fun z hz => h1 z (by simp [hz])) (fun z hz => h2 z (by simp [hz])) h.2]
  exact inj i1 i2 h
theorem readB_yes {v : DVar} {s : ByteArray} {p : List Int} (h : BearT v s p) : readB v s = (p, true) := by
  have he : ∃ p, BearT v s p := ⟨p, h⟩
  unfold readB
  rw [dif_pos he, bearT_unique (Classical.choose_spec he) h]
theorem readB_no {v : DVar} {s : ByteArray} (h : ∀ p, ¬ BearT v s p) : readB v s = ([], false) := by
  unfold readB
  rw [dif_neg (fun ⟨p, hp⟩ => h p hp)]
theorem readB_len (v : DVar) (s : ByteArray) : (readB v s).1.length ≤ 24 := by
  by_cases h : ∃ p, BearT v s p
  · obtain ⟨p, hp⟩ := h
    rw [readB_yes hp]; exact (bear_in hp.ok).2
  · rw [readB_no (fun p hp => h ⟨p, hp⟩)]; decide
theorem bearT_of {v : DVar} {s : ByteArray} {p : List Int} (h : bearS v p = s) (hs : s ≠ nilB) : BearT v s p := by
  refine ⟨?_, h⟩
  unfold bearS at h
  split at h
  · assumption
  · exact absurd h.symm hs
theorem split_bear {v : DVar} {s : ByteArray} {p : List Int} (h : BearT v s p) : splitD s comB = p.map decS ∧ splS s 44 = p.map decS := by
  obtain ⟨-, -, -, -, i1, -, -, e1⟩ := bearT_facts h
  have h1 : splitD s comB = p.map decS := map_data_inj ((split_com s).trans e1)
  refine ⟨h1, ?_⟩
  unfold splS
  rw [show UInt8.ofNat (44 : Int).toNat = 44 from rfl, e1, List.map_map]
  conv => rhs; rw [← List.map_id (p.map decS)]
  exact List.map_congr_left fun w _ => mkB_of w
theorem nums_bear {v : DVar} {s : ByteArray} {p : List Int} (h : BearT v s p) : numsP s comB = (p, true) := by
  have hin := (bear_in h.ok).1
  have e := (split_bear h).1
  have hk : ∀ z ∈ p, readD (decS z) = (z, true) := fun z hz => readD_decS (by have := hin z hz; simp only [inK]; omega)
  unfold numsP
  rw [e, if_pos, List.map_map]
  · congr 1
    conv => rhs; rw [← List.map_id p]
    exact List.map_congr_left fun z hz => by simp only [Function.comp, numN, hk z hz, id]
  · rw [List.all_map]
    exact List.all_eq_true.2 fun z hz => by simp only [Function.comp, okN, hk z hz]
theorem nums_text {s : ByteArray} (h : (numsP s comB).2 = true) : s = joinS ((numsP s comB).1.map decS) comB := by
  unfold numsP at h ⊢
  by_cases ha : (splitD s comB).all okN = true
  · rw [if_pos ha]
    have e : ((splitD s comB).map numN).map decS = splitD s comB := by
      rw [List.map_map]
      conv => rhs; rw [← List.map_id (splitD s comB)]
      exact List.map_congr_left fun w hw => (readD_some (List.all_eq_true.1 ha w hw)).1.symm
    simp only [e]
    refine bytes_ext ?_
    rw [joinS_list, split_com]
    exact (join_spl 44 _).symm
  · rw [if_neg ha] at h; cases h
def c_impl_ReadBearoff : Con where
  ins := [(true, .v tVar), (false, .v .s)]
  outs := [(false, .own 2 tI), (false, .v .b)]
  sh := false
  pre := fun x => (x.2.1).size ≤ 1048576
  out := fun x => ((readB x.1 x.2.1).1, (readB x.1 x.2.1).2, ())
  upd := fun x => x
theorem k_impl_ReadBearoff [B : Base] : ConOk Tryd.prog 8 c_impl_ReadBearoff := by
  refine fn_okW (C := cx Tryd.prog 25 c_impl_ReadBearoff) (cs := [(15, c_impl_IsVariant), (16, c_impl_splitNumbers), (17, c_impl_isBearoff)]) (res := Tryd.f8.results.toList) (fun _ => ⟨[], [], []⟩) Tryd.func8 (by kernel_rfl) rfl rfl rfl tysOk.look eqTsOk.look (AllCs.ok (l := [(15, c_impl_IsVariant), (16, c_impl_splitNumbers), (17, c_impl_isBearoff)]) ⟨k_impl_IsVariant, k_impl_splitNumbers, k_impl_isBearoff, trivial⟩) mixed rfl rfl rfl ?_
  refine of_nf (P := ∀ v : Int × Int × Int × Int, ∀ s : ByteArray, ((s).size ≤ 1048576) → ((lensI c_impl_ReadBearoff.ins (v, s, ())) → (True ∧ (bsp (!(varD v)) (@Eq (HO c_impl_ReadBearoff.outs) ([], false, ()) (c_impl_ReadBearoff.out (v, s, ()))) (((s).size ≤ 1048576 ∧ (ByteArray.mk #[44]) = comB) ∧ (bsp (!(numsP s (ByteArray.mk #[44])).2) (@Eq (HO c_impl_ReadBearoff.outs) ([], false, ()) (c_impl_ReadBearoff.out (v, s, ()))) ((varD v = true) ∧ (bsp (!(bearD v (numsP s (ByteArray.mk #[44])).1)) (@Eq (HO c_impl_ReadBearoff.outs) ([], false, ()) (c_impl_ReadBearoff.out (v, s, ()))) (@Eq (HO c_impl_ReadBearoff.outs) ((numsP s (ByteArray.mk #[44])).1, true, ()) (c_impl_ReadBearoff.out (v, s, ()))))))))))) (by kernel_rfl) ?_
  rintro v s hs hl
  have out : ∀ r : List Int × Bool, readB v s = r → @Eq (HO c_impl_ReadBearoff.outs) (r.1, r.2, ()) (c_impl_ReadBearoff.out (v, s, ())) := fun r h => by subst h; rfl
  have no : (∀ p, ¬ BearT v s p) → @Eq (HO c_impl_ReadBearoff.outs) ([], false, ()) (c_impl_ReadBearoff.out (v, s, ())) := fun h => out _ (readB_no h)
  have hc : ByteArray.mk #[44] = comB := rfl
  rw [hc]
  refine ⟨trivial, bspB (fun h => no fun p hp => ?_) (fun h => ⟨⟨hs, rfl⟩, bspB (fun h1 => no fun p hp => ?_) (fun h1 => ⟨by simpa using h, bspB (fun h2 => no fun p hp => ?_) (fun h2 => out (_, true) (readB_yes ⟨?_, ?_⟩))⟩)⟩)⟩
  · have := (bearT_facts hp).1
    rw [this] at h; cases h
  · rw [nums_bear hp] at h1; cases h1
  · rw [nums_bear hp, (bearT_facts hp).2.1] at h2; cases h2
  · rw [Bool.and_eq_true]; exact ⟨by simpa using h, by simpa using h2⟩
  · unfold bearS
    rw [if_pos (by rw [Bool.and_eq_true]; exact ⟨by simpa using h, by simpa using h2⟩)]
    exact (nums_text (by simpa using h1)).symm
end
end Go.Proofs.YtpoaimdoogckbaaDoor
