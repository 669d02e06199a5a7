/-
  Contracts: exact numbers read.
-/
import Derived.Test.YtokddngcfkimlaaDoorVExT
import Derived.Test.YtokddngcfkimlaaDoorVReadN
import Derived.Test.YtokddngcfkimlaaDoorPCut
import Derived.Test.YtokddngcfkimlaaDoorAbL
namespace Go.Proofs.YtokddngcfkimlaaDoor
open Go.RowKit
set_option linter.unusedSimpArgs false
set_option linter.unusedVariables false
noncomputable section
theorem ba_ext {a b : ByteArray} (h : a.data.toList = b.data.toList) : a = b := bytes_ext h
theorem ba_mk (l : List UInt8) : (ByteArray.mk l.toArray).data.toList = l := by simp
theorem app_list (a b : ByteArray) : (a ++ b).data.toList = a.data.toList ++ b.data.toList := by rw [ByteArray.data_append, Array.toList_append]
theorem decS_inj {x y : Int} (hx : inK .i64 x) (hy : inK .i64 y) (h : decS x = decS y) : x = y := by
  have := readD_decS hx
  rw [h, readD_decS hy] at this
  exact (congrArg Prod.fst this).symm
theorem no_slash (x : Int) : (47 : UInt8) ∉ (decS x).data.toList := by
  rw [decS_list]; exact itoa_not (by decide) (.inl (by decide))
theorem cutD_no (x : Int) : cutD (decS x) slB = (decS x, nilB, false) := by
  unfold cutD
  have h : Lib.cut (decS x).data.toList slB.data.toList = ((decS x).data.toList, [], false) := cut_no (no_slash x)
  rw [h]; rfl
theorem cutD_at (x : Int) (t : ByteArray) : cutD (decS x ++ slB ++ t) slB = (decS x, t, true) := by
  unfold cutD
  have e : (decS x ++ slB ++ t).data.toList = (decS x).data.toList ++ 47 :: t.data.toList := by
    rw [app_list, app_list]; simp [slB]
  have h : Lib.cut (decS x ++ slB ++ t).data.toList slB.data.toList = ((decS x).data.toList, t.data.toList, true) := by
    rw [e]; exact cut_at (no_slash x)
  rw [h]
theorem cutD_size (s p : ByteArray) : (cutD s p).1.size ≤ s.size ∧ (cutD s p).2.1.size ≤ s.size := by
  have e : ∀ l : List UInt8, (ByteArray.mk l.toArray).size = l.length := fun l => by rw [Lib.size_eq, ba_mk]
  unfold cutD
  rw [e, e, Lib.size_eq]
  unfold Lib.cut
  split
  · exact ⟨by simp; omega, by simp⟩
  · exact ⟨Nat.le_refl _, by simp⟩
structure ExT (v : DVar) (s : ByteArray) (x : DExact) : Prop where
  ok : (varD v && exD v x) = true
  tx : exS v x = s
def readX (v : DVar) (s : ByteArray) : DExact × Bool := by
  classical exact if h : ∃ x, ExT v s x then (Classical.choose h, true) else ((0, 0), false)
theorem ext_facts {v : DVar} {s : ByteArray} {y : DExact} (h : ExT v s y) : varD v = true ∧ exD v y = true ∧ inK .i64 y.1 ∧ 0 ≤ y.2 ∧ y.2 ≤ 60 ∧ (-1000000000000000000 ≤ y.1 ∧ y.1 ≤ 1000000000000000000) ∧
    ((y.2 = 0 ∧ s = decS y.1) ∨ (y.2 ≠ 0 ∧ 2 ≤ bsD v ∧ sclV (bsD v) y.2 = bsD v ^ y.2.toNat ∧ s = decS y.1 ++ slB ++ decS (sclV (bsD v) y.2 : Int))) := by
  obtain ⟨h1, h2⟩ := h
  have h3 := Bool.and_eq_true_iff.1 h1
  obtain ⟨hi, h0⟩ := exD_in h3.2
  have hx := h3.2
  simp only [exD, inB, Bool.and_eq_true, Bool.or_eq_true, decide_eq_true_eq] at hx
  unfold exS at h2
  rw [if_pos h1] at h2
  have h60 : y.2 ≤ 60 := by
    rcases hx.2.2 with h | ⟨⟨h, h'⟩, -⟩
    · omega
    · by_cases g : 60 < y.2
      · rw [scl_60 h g] at h'; cases h'
      · omega
  refine ⟨h3.1, h3.2, hi, h0, h60, hx.2.1, ?_⟩
  by_cases hy : y.2 = 0
  · rw [if_pos hy] at h2; exact .inl ⟨hy, h2.symm⟩
  · rw [if_neg hy] at h2
    obtain ⟨⟨hb, hs⟩, -⟩ := hx.2.2.resolve_left hy
    exact .inr ⟨hy, hb, scl_ok hs, h2.symm⟩
theorem sclV_in {v : DVar} (hv : varD v = true) (d : Int) : inK .i64 (sclV (bsD v) d : Int) := by
  have := sclV_le hv d
  simp only [inK]; omega
theorem ext_unique {v : DVar} {s : ByteArray} {x y : DExact} (hx : ExT v s x) (hy : ExT v s y) : x = y := by
  obtain ⟨v1, -, i1, a1, -, -, c1⟩ := ext_facts hx
  obtain ⟨v2, -, i2, a2, -, -, c2⟩ := ext_facts hy
  rcases c1 with ⟨z1, e1⟩ | ⟨z1, b1, p1, e1⟩ <;> rcases c2 with ⟨z2, e2⟩ | ⟨z2, b2, p2, e2⟩
  · exact Prod.ext (decS_inj i1 i2 (e1.symm.trans e2)) (z1.trans z2.symm)
  · have := cutD_no x.1
    rw [← e1, e2, cutD_at] at this
    cases congrArg (·.2.2) this
  · have := cutD_no y.1
    rw [← e2, e1, cutD_at] at this
    cases congrArg (·.2.2) this
  · have h := cutD_at x.1 (decS (sclV (bsD v) x.2 : Int))
    rw [← e1, e2, cutD_at] at h
    have f1 := decS_inj i2 i1 (congrArg Prod.fst h)
    have f2 := decS_inj (sclV_in v1 _) (sclV_in v1 _) (congrArg (·.2.1) h)
    have f3 : bsD v ^ y.2.toNat = bsD v ^ x.2.toNat := by rw [← p1, ← p2]; omega
    have f4 := (Nat.pow_right_inj (show 1 < bsD v by omega)).1 f3
    exact Prod.ext f1.symm (by omega)
theorem readX_yes {v : DVar} {s : ByteArray} {x : DExact} (h : ExT v s x) : readX v s = (x, true) := by
  have he : ∃ x, ExT v s x := ⟨x, h⟩
  unfold readX
  rw [dif_pos he, ext_unique (Classical.choose_spec he) h]
theorem readX_no {v : DVar} {s : ByteArray} (h : ∀ x, ¬ ExT v s x) : readX v s = ((0, 0), false) := by
  unfold readX
  rw [dif_neg (fun ⟨x, hx⟩ => h x hx)]
theorem ext_of {v : DVar} {s : ByteArray} {x : DExact} (h : exS v x = s) (hs : s ≠ nilB) : ExT v s x := by
  refine ⟨?_, h⟩
  unfold exS at h
  split at h
  · assumption
  · exact absurd h.symm hs
/-- the last slash among the first k bytes, or the length -/
def lastAt (s : ByteArray) : Nat → Int
  | 0 => s.size
  | k + 1 => if byteAt s k = 47 then k else lastAt s k
theorem lastAt_bd (s : ByteArray) : ∀ {k : Nat}, k ≤ s.size → 0 ≤ lastAt s k ∧ lastAt s k ≤ s.size
  | 0, _ => by unfold lastAt; omega
  | k + 1, h => by
    have := lastAt_bd s (k := k) (by omega)
    unfold lastAt; split <;> omega
theorem lastAt_no {s : ByteArray} : ∀ {k : Nat}, (∀ j : Nat, j < k → byteAt s j ≠ 47) → lastAt s k = s.size
  | 0, _ => rfl
  | k + 1, h => by
    unfold lastAt
    rw [if_neg (h k (by omega))]
    exact lastAt_no fun j hj => h j (by omega)
theorem lastAt_at {s : ByteArray} {j : Nat} (hj : byteAt s j = 47) : ∀ {k : Nat}, j < k → (∀ i : Nat, j < i → i < k → byteAt s i ≠ 47) → lastAt s k = j
  | 0, h, _ => by omega
  | k + 1, h, hn => by
    unfold lastAt
    by_cases e : j = k
    · subst e; rw [if_pos hj]
    · rw [if_neg (hn k (by omega) (by omega))]
      exact lastAt_at hj (by omega) fun i h1 h2 => hn i h1 (by omega)
theorem not_slash {l : List UInt8} (h : (47 : UInt8) ∉ l) {j : Nat} (hj : j < l.length) : ((l.getD j 0).toNat : Int) ≠ 47 := by
  rw [List.getD_eq_getElem?_getD, List.getElem?_eq_getElem hj, Option.getD_some]
  intro e
  have : l[j] = 47 := UInt8.toNat_inj.1 (by have : (47 : UInt8).toNat = 47 := rfl; omega)
  exact h (this ▸ List.getElem_mem hj)
theorem last_no (x : Int) : lastAt (decS x) (decS x).size = (decS x).size := lastAt_no fun j hj => by
  rw [byteAt_list]
  exact not_slash (no_slash x) (by rw [← Lib.size_eq]; exact hj)
theorem last_at (x y : Int) : lastAt (decS x ++ slB ++ decS y) (decS x ++ slB ++ decS y).size = (decS x).size := by
  have e : (decS x ++ slB ++ decS y).data.toList = (decS x).data.toList ++ 47 :: (decS y).data.toList := by
    rw [app_list, app_list]; simp [slB]
  have k1 : slB.size = 1 := rfl
  have hs := Lib.size_eq (decS x)
  have hy := Lib.size_eq (decS y)
  refine lastAt_at ?_ (by rw [app_size, app_size]; omega) fun i h1 h2 => ?_
  · rw [byteAt_list, e, hs, List.getD_eq_getElem?_getD, List.getElem?_append_right (Nat.le_refl _)]
    simp
  · rw [app_size, app_size, k1] at h2
    rw [byteAt_list, e, List.getD_eq_getElem?_getD, List.getElem?_append_right (by omega)]
    obtain ⟨q, hq⟩ : ∃ q, i - (decS x).data.toList.length = q + 1 := ⟨i - (decS x).data.toList.length - 1, by omega⟩
    rw [hq, List.getElem?_cons_succ, ← List.getD_eq_getElem?_getD]
    exact not_slash (no_slash y) (by omega)
theorem ext_num {v : DVar} {s : ByteArray} {y : DExact} (h : ExT v s y) : l09D (s.extract 0 (lastAt s s.size).toNat) = y.1 ∧ s ≠ nilB ∧ s.size ≤ 50 := by
  obtain ⟨hv, -, hi, -, -, hb, c⟩ := ext_facts h
  have hz := decS_size hi
  have hz2 := decS_size (sclV_in hv y.2)
  have ne : decS y.1 ≠ nilB := fun e => by
    have := trim_decS hi
    rw [← decS_list, e] at this
    exact absurd this.1 (by decide)
  have k1 : slB.size = 1 := rfl
  rcases c with ⟨-, e⟩ | ⟨-, -, -, e⟩
  · subst e
    rw [last_no, Int.toNat_natCast, Lib.extract_eq, List.drop_zero, Nat.sub_zero, List.take_of_length_le (by rw [← Lib.size_eq]; exact Nat.le_refl _)]
    exact ⟨l09D_decS hb.1 hb.2, ne, by omega⟩
  · subst e
    rw [last_at, Int.toNat_natCast, Lib.extract_eq, List.drop_zero, Nat.sub_zero, app_list, app_list, List.append_assoc, Lib.size_eq, List.take_left]
    refine ⟨l09D_decS hb.1 hb.2, fun e => ?_, by simp only [app_size]; omega⟩
    have := congrArg ByteArray.size e
    rw [app_size, app_size, k1] at this
    have k0 : nilB.size = 0 := rfl
    omega
def ScI (c0 : Int) (b : Nat) (d c : Int) : Prop := ∃ k : Nat, d = k ∧ c0 = c * ((b ^ k : Nat) : Int) ∧ (k = 0 ∨ 1 ≤ c)
theorem scI_bd {c0 d c : Int} {b : Nat} (hb : 2 ≤ b) (h0 : c0 ≤ 9223372036854775807) (h : ScI c0 b d c) : 0 ≤ d ∧ d ≤ 62 := by
  obtain ⟨k, rfl, e, hk⟩ := h
  refine ⟨by omega, ?_⟩
  rcases hk with rfl | hc
  · omega
  · have h1 : 2 ^ k ≤ b ^ k := Nat.pow_le_pow_left hb k
    have h2 : ((b ^ k : Nat) : Int) ≤ c * ((b ^ k : Nat) : Int) := by
      have := Int.mul_le_mul_of_nonneg_right hc (Int.natCast_nonneg (b ^ k))
      omega
    have h3 : 2 ^ k < 2 ^ 63 := by have e63 : (2 : Nat) ^ 63 = 9223372036854775808 := rfl; omega
    have := (Nat.pow_lt_pow_iff_right (show 1 < 2 by decide)).1 h3
    omega
theorem scI_step {c0 d c : Int} {b : Nat} (hb : 2 ≤ b) (hc : 1 < c) (hm : Int.tmod c b = 0) (h : ScI c0 b d c) : ScI c0 b (d + 1) (Int.tdiv c b) ∧ 1 ≤ Int.tdiv c b ∧ Int.tdiv c b < c := by
  obtain ⟨k, rfl, e, hk⟩ := h
  rw [Int.tmod_eq_emod_of_nonneg (by omega)] at hm
  rw [Int.tdiv_eq_ediv_of_nonneg (by omega)]
  have hd : c / (b : Int) * (b : Int) = c := Int.ediv_mul_cancel (Int.dvd_of_emod_eq_zero hm)
  have hq : 1 ≤ c / (b : Int) := by
    by_cases g : c / (b : Int) < 1
    · have : c / (b : Int) * (b : Int) ≤ 0 * (b : Int) := Int.mul_le_mul_of_nonneg_right (by omega) (by omega)
      omega
    · omega
  refine ⟨⟨k + 1, by omega, ?_, .inr hq⟩, hq, ?_⟩
  · rw [e, Nat.pow_succ, Int.natCast_mul, Int.mul_comm ((b ^ k : Nat) : Int) (b : Int), ← Int.mul_assoc, hd]
  · have : c / (b : Int) * 2 ≤ c / (b : Int) * (b : Int) := Int.mul_le_mul_of_nonneg_left (by omega) (by omega)
    omega
theorem scI_end {m : Nat} {d c : Int} {b : Nat} (hb : 2 ≤ b) (h : ScI ((b ^ m : Nat) : Int) b d c) (he : ¬ 1 < c ∨ Int.tmod c b ≠ 0) : d = m := by
  obtain ⟨k, rfl, e, hk⟩ := h
  have hpos : 0 < b ^ m := Nat.pow_pos (by omega)
  have hkp : 0 < b ^ k := Nat.pow_pos (by omega)
  have hc : 1 ≤ c := by
    rcases hk with rfl | hc
    · simp only [Nat.pow_zero, Int.natCast_one, Int.mul_one] at e; omega
    · exact hc
  obtain ⟨n, rfl⟩ : ∃ n : Nat, c = n := ⟨c.toNat, by omega⟩
  have en : b ^ m = n * b ^ k := by exact_mod_cast e
  rcases Nat.lt_trichotomy k m with g | g | g
  · obtain ⟨j, rfl⟩ : ∃ j, m = k + (j + 1) := ⟨m - k - 1, by omega⟩
    have : n = b ^ (j + 1) := by
      rw [Nat.pow_add, Nat.mul_comm] at en
      exact (Nat.eq_of_mul_eq_mul_right hkp en).symm
    exfalso
    have hn : b ≤ n := by rw [this, Nat.pow_succ]; exact Nat.le_mul_of_pos_left b (Nat.pow_pos (by omega))
    rcases he with he | he
    · omega
    · rw [Int.tmod_eq_emod_of_nonneg (by omega)] at he
      apply he
      rw [this, Nat.pow_succ, Int.natCast_mul]
      exact Int.mul_emod_left _ _
  · omega
  · exfalso
    have h1 : b ^ m < b ^ k := Nat.pow_lt_pow_right (by omega) g
    have h2 : b ^ k ≤ n * b ^ k := Nat.le_mul_of_pos_left _ (by omega)
    omega
def c_impl_ReadExact : Con where
  ins := [(true, .v tVar), (false, .v .s)]
  outs := [(true, .v tRoll), (false, .v .b)]
  sh := false
  pre := fun x => (x.2.1).size ≤ 1048576
  out := fun x => ((readX x.1 x.2.1).1, (readX x.1 x.2.1).2, ())
  upd := fun x => x
theorem k_impl_ReadExact [B : Base] : ConOk Tryd.prog 9 c_impl_ReadExact := by
  refine fn_okW (C := cx Tryd.prog 72 c_impl_ReadExact) (cs := [(19, c_impl_IsVariant), (21, c_strings_Cut), (22, c_impl_readDecimal), (23, c_impl_baseOf), (6, c_impl_ExactText)]) (res := Tryd.f9.results.toList) (fun x => ⟨[{ sh := ⟨[(1, .one .s), (2, .one (.ref 0)), (4, .one (.ref 1)), (11, .one (.ref 2)), (12, .one (.i .i64))], [(0, .box [.i .i64, .i .i64, .i .i64, .i .i64]), (1, .box [.i .i64, .i .i64]), (2, .box [.i .i64, .i .i64])]⟩, nx := 3, I := fun _ dat_ => (x.2.1 = dat_.1.1 ∧ x.1.1 = dat_.2.1.1 ∧ x.1.2.1 = dat_.2.1.2.1 ∧ x.1.2.2.1 = dat_.2.1.2.2.1 ∧ x.1.2.2.2 = dat_.2.1.2.2.2.1 ∧ (0 : Int) = dat_.2.2.1.1 ∧ (0 : Int) = dat_.2.2.1.2.1) ∧ (dat_.2.2.2.1.1 = (readD (cutD x.2.1 slB).1).1 ∧ ScI (readD (cutD x.2.1 slB).2.1).1 (bsD x.1) dat_.2.2.2.1.2.1 dat_.1.2.2.2.2.1), mu := fun dat_ => Int.toNat dat_.1.2.2.2.2.1 }], [], []⟩) Tryd.func9 (by kernel_rfl) rfl rfl rfl tysOk.look eqTsOk.look (AllCs.ok (l := [(19, c_impl_IsVariant), (21, c_strings_Cut), (22, c_impl_readDecimal), (23, c_impl_baseOf), (6, c_impl_ExactText)]) ⟨k_impl_IsVariant, k_strings_Cut, k_impl_readDecimal, k_impl_baseOf, k_impl_ExactText, trivial⟩) mixed rfl rfl rfl ?_
  refine of_nf (P := ∀ v : Int × Int × Int × Int, ∀ s : ByteArray, ((s).size ≤ 1048576) → ((lensI c_impl_ReadExact.ins (v, s, ())) → (True ∧ (bsp (!(varD v)) (@Eq (HO c_impl_ReadExact.outs) ((0, 0), false, ()) (c_impl_ReadExact.out (v, s, ()))) (((s).size < 4294967281) ∧ ((((cutD s (ByteArray.mk #[47])).1).size ≤ 281474976710656) ∧ (bsp (!(readD (cutD s (ByteArray.mk #[47])).1).2) (@Eq (HO c_impl_ReadExact.outs) ((0, 0), false, ()) (c_impl_ReadExact.out (v, s, ()))) (bsp (cutD s (ByteArray.mk #[47])).2.2 ((((cutD s (ByteArray.mk #[47])).2.1).size ≤ 281474976710656) ∧ (bsp (!(readD (cutD s (ByteArray.mk #[47])).2.1).2) (@Eq (HO c_impl_ReadExact.outs) ((0, 0), false, ()) (c_impl_ReadExact.out (v, s, ()))) ((varD v = true) ∧ (bsp (decide ((bsD v : Int) = (1 : Int))) (@Eq (HO c_impl_ReadExact.outs) ((0, 0), false, ()) (c_impl_ReadExact.out (v, s, ()))) (((s = s ∧ v.1 = v.1 ∧ v.2.1 = v.2.1 ∧ v.2.2.1 = v.2.2.1 ∧ v.2.2.2 = v.2.2.2 ∧ (0 : Int) = 0 ∧ (0 : Int) = 0) ∧ ((readD (cutD s (ByteArray.mk #[47])).1).1 = (readD (cutD s slB).1).1 ∧ ScI (readD (cutD s slB).2.1).1 (bsD v) (0 : Int) (readD (cutD s (ByteArray.mk #[47])).2.1).1)) ∧ (∀ t1 : ByteArray, ∀ c : Int, ∀ t2_0 : Int, ∀ t2_1 : Int, ∀ t2_2 : Int, ∀ t2_3 : Int, ∀ t4_0 : Int, ∀ t4_1 : Int, ∀ x_0 : Int, ∀ x_1 : Int, ((s = t1 ∧ v.1 = t2_0 ∧ v.2.1 = t2_1 ∧ v.2.2.1 = t2_2 ∧ v.2.2.2 = t2_3 ∧ (0 : Int) = t4_0 ∧ (0 : Int) = t4_1) ∧ (x_0 = (readD (cutD s slB).1).1 ∧ ScI (readD (cutD s slB).2.1).1 (bsD v) x_1 c)) → (bsp (decide ((1 : Int) < c)) ((varD (t2_0, t2_1, t2_2, t2_3) = true) ∧ (((bsD (t2_0, t2_1, t2_2, t2_3) : Int) ≠ 0) ∧ (bsp (decide ((Int.tmod c (bsD (t2_0, t2_1, t2_2, t2_3) : Int)) = (0 : Int))) ((varD (t2_0, t2_1, t2_2, t2_3) = true) ∧ (((bsD (t2_0, t2_1, t2_2, t2_3) : Int) ≠ 0) ∧ ((inK .i64 (Int.tdiv c (bsD (t2_0, t2_1, t2_2, t2_3) : Int))) ∧ ((inK .i64 (x_1 + 1)) ∧ (((s = t1 ∧ v.1 = t2_0 ∧ v.2.1 = t2_1 ∧ v.2.2.1 = t2_2 ∧ v.2.2.2 = t2_3 ∧ (0 : Int) = t4_0 ∧ (0 : Int) = t4_1) ∧ (x_0 = (readD (cutD s slB).1).1 ∧ ScI (readD (cutD s slB).2.1).1 (bsD v) (x_1 + 1) (Int.tdiv c (bsD (t2_0, t2_1, t2_2, t2_3) : Int)))) ∧ ((Int.toNat (Int.tdiv c (bsD (t2_0, t2_1, t2_2, t2_3) : Int)) : Nat) < Int.toNat c)))))) ((D63 (x_0, x_1).2) ∧ (bsp (decide (exS (t2_0, t2_1, t2_2, t2_3) (x_0, x_1) ≠ t1)) (@Eq (HO c_impl_ReadExact.outs) ((0, 0), false, ()) (c_impl_ReadExact.out (v, s, ()))) (@Eq (HO c_impl_ReadExact.outs) ((x_0, x_1), true, ()) (c_impl_ReadExact.out (v, s, ())))))))) ((D63 (x_0, x_1).2) ∧ (bsp (decide (exS (t2_0, t2_1, t2_2, t2_3) (x_0, x_1) ≠ t1)) (@Eq (HO c_impl_ReadExact.outs) ((0, 0), false, ()) (c_impl_ReadExact.out (v, s, ()))) (@Eq (HO c_impl_ReadExact.outs) ((x_0, x_1), true, ()) (c_impl_ReadExact.out (v, s, ())))))))))))) ((D63 ((readD (cutD s (ByteArray.mk #[47])).1).1, 0).2) ∧ (bsp (decide (exS v ((readD (cutD s (ByteArray.mk #[47])).1).1, 0) ≠ s)) (@Eq (HO c_impl_ReadExact.outs) ((0, 0), false, ()) (c_impl_ReadExact.out (v, s, ()))) (@Eq (HO c_impl_ReadExact.outs) (((readD (cutD s (ByteArray.mk #[47])).1).1, 0), true, ()) (c_impl_ReadExact.out (v, s, ()))))))))))))) (by kernel_rfl) ?_
  rintro v s hp hl
  have out : ∀ r : DExact × Bool, readX v s = r → @Eq (HO c_impl_ReadExact.outs) (r.1, r.2, ()) (c_impl_ReadExact.out (v, s, ())) := fun r h => by subst h; rfl
  have no : (∀ x, ¬ ExT v s x) → @Eq (HO c_impl_ReadExact.outs) ((0, 0), false, ()) (c_impl_ReadExact.out (v, s, ())) := fun h => out _ (readX_no h)
  have hsl : ByteArray.mk #[47] = slB := rfl
  rw [hsl]
  have hc1 : (cutD s slB).1.size ≤ 281474976710656 := by have := cutD_size s slB; omega
  have hc2 : (cutD s slB).2.1.size ≤ 281474976710656 := by have := cutD_size s slB; omega
  refine ⟨trivial, bspB (fun h => no fun x hx => ?_) (fun h => ⟨by omega, hc1, bspB (fun h1 => no fun x hx => ?_) (fun h1 => ?_)⟩)⟩
  · have := (ext_facts hx).1
    rw [this] at h; cases h
  · obtain ⟨-, -, hi, -, -, -, c⟩ := ext_facts hx
    rcases c with ⟨-, e⟩ | ⟨-, -, -, e⟩
    · rw [e, cutD_no, readD_decS hi] at h1; cases h1
    · rw [e, cutD_at, readD_decS hi] at h1; cases h1
  have hv : varD v = true := by simpa using h
  have h1' : (readD (cutD s slB).1).2 = true := by simpa using h1
  have hne : s ≠ nilB := fun e => by rw [e] at h1'; exact absurd h1' (by decide)
  have hin := (readD_some h1').2
  have first : ∀ x, ExT v s x → (readD (cutD s slB).1).1 = x.1 := fun x hx => by
    obtain ⟨-, -, hi, -, -, -, c⟩ := ext_facts hx
    rcases c with ⟨-, e⟩ | ⟨-, -, -, e⟩
    · rw [e, cutD_no, readD_decS hi]
    · rw [e, cutD_at, readD_decS hi]
  refine bspB (fun hcut => ⟨hc2, ?_⟩) (fun hcut => ⟨⟨by simp⟩, bspD (fun hne2 => no fun x hx => ?_) (fun heq => out (_, true) (readX_yes (ext_of (Decidable.not_not.1 heq) hne)))⟩)
  · have second : ∀ x, ExT v s x → x.2 ≠ 0 ∧ 2 ≤ bsD v ∧ readD (cutD s slB).2.1 = (((bsD v ^ x.2.toNat : Nat) : Int), true) := fun x hx => by
      obtain ⟨-, -, hi, -, -, -, c⟩ := ext_facts hx
      rcases c with ⟨-, e⟩ | ⟨h2, hb, hp, e⟩
      · rw [e, cutD_no] at hcut; cases hcut
      · refine ⟨h2, hb, ?_⟩
        rw [← hp]
        conv => lhs; rw [e, cutD_at, readD_decS (sclV_in hv _)]
    refine bspB (fun h2 => no fun x hx => ?_) (fun h2 => ⟨hv, bspD (fun hb => no fun x hx => ?_) (fun hb => ?_)⟩)
    · rw [(second x hx).2.2] at h2; cases h2
    · have := (second x hx).2.1; omega
    have h2' : (readD (cutD s slB).2.1).2 = true := by simpa using h2
    have hin2 := (readD_some h2').2
    obtain ⟨-, b1, b2, -, -⟩ := bsD_facts hv
    have hb2 : 2 ≤ bsD v := by omega
    refine ⟨⟨(by first | trivial | rfl | (and_intros <;> rfl)), rfl, 0, rfl, by simp, .inl rfl⟩, ?_⟩
    rintro t1 c t2_0 t2_1 t2_2 t2_3 t4_0 t4_1 x_0 x_1 ⟨⟨rfl, rfl, rfl, rfl, rfl, rfl, rfl⟩, ⟨hx, hs⟩⟩
    simp only [Prod.eta]
    subst hx
    have hle : (readD (cutD s slB).2.1).1 ≤ 9223372036854775807 := by simp only [inK] at hin2; omega
    have hbd := scI_bd hb2 hle hs
    have fin : (¬ 1 < c ∨ Int.tmod c (bsD v) ≠ 0) → D63 x_1 ∧ bsp (decide (exS v ((readD (cutD s slB).1).1, x_1) ≠ s)) (@Eq (HO c_impl_ReadExact.outs) ((0, 0), false, ()) (c_impl_ReadExact.out (v, s, ()))) (@Eq (HO c_impl_ReadExact.outs) (((readD (cutD s slB).1).1, x_1), true, ()) (c_impl_ReadExact.out (v, s, ()))) := fun he => by
      refine ⟨⟨by omega⟩, bspD (fun hn => no fun x hx => ?_) (fun hn => out (_, true) (readX_yes (ext_of (Decidable.not_not.1 hn) hne)))⟩
      have hs2 := (second x hx).2.2
      rw [hs2] at hs
      have hd := scI_end hb2 hs he
      have hx0 := (ext_facts hx).2.2.2.1
      apply hn
      rw [first x hx, hd, show ((x.2.toNat : Nat) : Int) = x.2 by omega]
      exact hx.tx
    refine bspD (fun h1c => ⟨hv, by omega, bspD (fun hm => ?_) (fun hm => fin (.inr hm))⟩) (fun h1c => fin (.inl h1c))
    obtain ⟨s1, s2, s3⟩ := scI_step hb2 h1c hm hs
    have hcin : c ≤ 9223372036854775807 := by
      obtain ⟨k, -, e, hk⟩ := hs
      have hkp : 1 ≤ ((bsD v ^ k : Nat) : Int) := by have := Nat.pow_pos (n := k) (show 0 < bsD v by omega); omega
      have : c * 1 ≤ c * ((bsD v ^ k : Nat) : Int) := Int.mul_le_mul_of_nonneg_left hkp (by omega)
      omega
    exact ⟨hv, by omega, by simp only [inK]; omega, by simp only [inK]; omega, ⟨(by first | trivial | rfl | (and_intros <;> rfl)), rfl, s1⟩, by omega⟩
  · obtain ⟨-, -, hi, -, -, -, c⟩ := ext_facts hx
    rcases c with ⟨h0, e⟩ | ⟨-, -, -, e⟩
    · apply hne2
      rw [first x hx, ← h0]; exact hx.tx
    · rw [e, cutD_at] at hcut; cases hcut
end
end Go.Proofs.YtokddngcfkimlaaDoor
