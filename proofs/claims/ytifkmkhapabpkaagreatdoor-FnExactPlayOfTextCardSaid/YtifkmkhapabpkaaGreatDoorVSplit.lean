/-
  Contracts: texts split.
-/
import Derived.Test.YtifkmkhapabpkaaGreatDoorVReadN
import Derived.Test.YtifkmkhapabpkaaGreatDoorLibP
namespace Go.Proofs.YtifkmkhapabpkaaGreatDoor
open Go.RowKit
set_option linter.unusedSimpArgs false
set_option linter.unusedVariables false
def c_strings_Split : Con where
  ins := [(false, .v .s), (false, .v .s)]
  outs := [(false, .v (.sl .s))]
  sh := false
  pre := fun x => (x.1).size ≤ 1048576 ∧ 1 ≤ (x.2.1).size
  out := fun x => (splitD x.1 x.2.1, ())
  upd := fun x => x
theorem k_strings_Split [B : Base] : ConOk Tryz.prog 35 c_strings_Split :=
  conSplit (pre := c_strings_Split.pre) (T := 9) (fun _ _ h => h) ⟨_, _, Tryz.func35, by kernel_rfl, rfl⟩ fun s p w hold h1 h2 => by
    obtain ⟨m, hm⟩ := Tryz.laysM146.s1_3 B.W B.ok.2
    exact Any.strings_Split { Tryz.laysM146 with } Tryz.laysM146.i9 s p m w (by omega) (cell_old hold hm) h2
def mkB (l : List UInt8) : ByteArray := ⟨l.toArray⟩
theorem mkB_data (l : List UInt8) : (mkB l).data.toList = l := by simp [mkB]
theorem mkB_of (s : ByteArray) : mkB s.data.toList = s := bytes_ext (mkB_data _)
def splS (s : ByteArray) (c : Int) : List ByteArray := (spl (UInt8.ofNat c.toNat) s.data.toList).map mkB
def SplI (s : ByteArray) (c : Int) (o : List ByteArray) (fr i : Int) : Prop :=
  ∃ f k : Nat, fr = f ∧ i = k ∧ o.length ≤ k ∧ ((k ≤ s.size ∧ f ≤ k ∧ o.map (·.data.toList) ++ spl (UInt8.ofNat c.toNat) (s.data.toList.drop f) = spl (UInt8.ofNat c.toNat) s.data.toList ∧ UInt8.ofNat c.toNat ∉ (s.data.toList.drop f).take (k - f)) ∨ (k = s.size + 1 ∧ o.map (·.data.toList) = spl (UInt8.ofNat c.toNat) s.data.toList))
theorem ext_list (s : ByteArray) (a b : Nat) : (s.extract a b).data.toList = (s.data.toList.drop a).take (b - a) := by
  rw [Lib.extract_eq]
theorem split_at_k {l : List UInt8} {f k : Nat} (h1 : f ≤ k) (h2 : k < l.length) : l.drop f = (l.drop f).take (k - f) ++ l[k] :: l.drop (k + 1) := by
  conv => lhs; rw [← List.take_append_drop (k - f) (l.drop f)]
  rw [List.drop_drop, show f + (k - f) = k by omega, List.drop_eq_getElem_cons h2]
def c_spec_l01Split : Con where
  ins := [(false, .v .s), (false, .v (.i .u8))]
  outs := [(false, .v (.sl .s))]
  sh := false
  pre := fun x => (x.1).size ≤ 1048576 ∧ 0 ≤ x.2.1 ∧ x.2.1 ≤ 255
  out := fun x => (splS x.1 x.2.1, ())
  upd := fun x => x
theorem k_spec_l01Split [B : Base] : ConOk Tryz.prog 26 c_spec_l01Split := by
  refine fn_ok (C := cx Tryz.prog 36 c_spec_l01Split) (cs := []) (res := Tryz.f26.results.toList) (fun x => ⟨[{ sh := ⟨[(0, .one .s), (1, .one (.i .u8)), (5, .one (.ref 0)), (6, .one (.i .i64)), (7, .one (.i .i64))], [(0, .own 9 .s true)]⟩, nx := 1, I := fun _ dat_ => (x.1 = dat_.1.1 ∧ x.2.1 = dat_.1.2.1) ∧ (SplI x.1 x.2.1 dat_.2.1 dat_.1.2.2.2.1 dat_.1.2.2.2.2.1), mu := fun dat_ => Int.toNat ((ByteArray.size x.1 : Int) + 1 - dat_.1.2.2.2.2.1) }], [], []⟩) Tryz.func26 (by kernel_rfl) rfl rfl rfl tysOk.look eqTsOk.look (AllCs.ok (l := []) trivial) mixed rfl rfl rfl ?_
  refine of_nf (P := ∀ s : ByteArray, ∀ c : Int, ((s).size ≤ 1048576 ∧ 0 ≤ c ∧ c ≤ 255) → ((lensI c_spec_l01Split.ins (s, c, ())) → (((s = s ∧ c = c) ∧ (SplI s c [] (0 : Int) (0 : Int))) ∧ (∀ t0 : ByteArray, ∀ t1 : Int, ∀ f : Int, ∀ i : Int, ∀ o : List ByteArray, ((s = t0 ∧ c = t1) ∧ (SplI s c o f i)) → (bsp (decide (i ≤ (ByteArray.size t0 : Int))) (bsp (decide (i = (ByteArray.size t0 : Int))) ((0 ≤ f ∧ f ≤ i ∧ i ≤ (ByteArray.size t0 : Int)) ∧ ((o.length + ([(ByteArray.extract t0 f.toNat i.toNat)] : List ByteArray).length ≤ AB) ∧ ((inK .i64 (i + 1)) ∧ ((inK .i64 (i + 1)) ∧ (((s = t0 ∧ c = t1) ∧ (SplI s c (o ++ [(ByteArray.extract t0 f.toNat i.toNat)]) (i + 1) (i + 1))) ∧ ((Int.toNat ((ByteArray.size s : Int) + 1 - (i + 1)) : Nat) < Int.toNat ((ByteArray.size s : Int) + 1 - i))))))) ((0 ≤ i ∧ i < (ByteArray.size t0 : Int)) ∧ (bsp (decide ((byteAt t0 i) = t1)) ((0 ≤ f ∧ f ≤ i ∧ i ≤ (ByteArray.size t0 : Int)) ∧ ((o.length + ([(ByteArray.extract t0 f.toNat i.toNat)] : List ByteArray).length ≤ AB) ∧ ((inK .i64 (i + 1)) ∧ ((inK .i64 (i + 1)) ∧ (((s = t0 ∧ c = t1) ∧ (SplI s c (o ++ [(ByteArray.extract t0 f.toNat i.toNat)]) (i + 1) (i + 1))) ∧ ((Int.toNat ((ByteArray.size s : Int) + 1 - (i + 1)) : Nat) < Int.toNat ((ByteArray.size s : Int) + 1 - i))))))) ((inK .i64 (i + 1)) ∧ (((s = t0 ∧ c = t1) ∧ (SplI s c o f (i + 1))) ∧ ((Int.toNat ((ByteArray.size s : Int) + 1 - (i + 1)) : Nat) < Int.toNat ((ByteArray.size s : Int) + 1 - i))))))) (@Eq (HO c_spec_l01Split.outs) (o, ()) (c_spec_l01Split.out (s, c, ())))))))) (by kernel_rfl) ?_
  rintro s c ⟨hs, c0, c1⟩ hl
  have out : ∀ r, splS s c = r → @Eq (HO c_spec_l01Split.outs) (r, ()) (c_spec_l01Split.out (s, c, ())) := fun r h => by subst h; rfl
  refine ⟨⟨(by first | trivial | rfl | (and_intros <;> rfl)), 0, 0, rfl, rfl, by simp, .inl ⟨by omega, by omega, rfl, by simp⟩⟩, ?_⟩
  rintro t0 t1 f i o ⟨⟨rfl, rfl⟩, ⟨f, k, rfl, rfl, ho, hI⟩⟩
  simp only [Int.toNat_natCast]
  refine bspD (fun hle => ?_) (fun hgt => ?_)
  · obtain ⟨hk, hfk, he, hn⟩ : k ≤ s.size ∧ f ≤ k ∧ o.map (·.data.toList) ++ spl (UInt8.ofNat c.toNat) (s.data.toList.drop f) = spl (UInt8.ofNat c.toNat) s.data.toList ∧ UInt8.ofNat c.toNat ∉ (s.data.toList.drop f).take (k - f) := hI.resolve_right (fun h => by omega)
    have hab : o.length + [s.extract f k].length ≤ AB := by
      have : AB = 1099511627776 := rfl
      simp only [List.length_cons, List.length_nil]; omega
    refine bspD (fun h1 => ?_) (fun h1 => ⟨⟨by omega, by omega⟩, bspD (fun h2 => ?_) (fun h2 => ?_)⟩)
    · have hks : k = s.size := by omega
      refine ⟨⟨by omega, by omega, by omega⟩, hab, by simp only [inK]; omega, by simp only [inK]; omega, ⟨(by first | trivial | rfl | (and_intros <;> rfl)), k + 1, k + 1, by omega, by omega, by simp; omega, .inr ⟨by omega, ?_⟩⟩, by omega⟩
      have hd : (s.data.toList.drop f).take (k - f) = s.data.toList.drop f := List.take_of_length_le (by rw [List.length_drop, ← Lib.size_eq]; omega)
      rw [hd] at hn
      rw [spl_no hn] at he
      rw [List.map_append, ← he, List.map_cons, List.map_nil, ext_list, hd]
    · have hkl : k < s.data.toList.length := by rw [← Lib.size_eq]; omega
      have hc : s.data.toList[k] = UInt8.ofNat c.toNat := by
        rw [byteAt_list, List.getD_eq_getElem?_getD, List.getElem?_eq_getElem hkl, Option.getD_some] at h2
        refine UInt8.toNat_inj.1 ?_
        rw [UInt8.toNat_ofNat']; omega
      refine ⟨⟨by omega, by omega, by omega⟩, hab, by simp only [inK]; omega, by simp only [inK]; omega, ⟨(by first | trivial | rfl | (and_intros <;> rfl)), k + 1, k + 1, by omega, by omega, by simp; omega, .inl ⟨by omega, by omega, ?_, by simp⟩⟩, by omega⟩
      rw [split_at_k hfk hkl, hc, spl_at hn] at he
      rw [List.map_append, ← he, List.map_cons, List.map_nil, ext_list, List.append_assoc]; rfl
    · have hkl : k < s.data.toList.length := by rw [← Lib.size_eq]; omega
      refine ⟨by simp only [inK]; omega, ⟨(by first | trivial | rfl | (and_intros <;> rfl)), f, k + 1, rfl, by omega, by omega, .inl ⟨by omega, by omega, he, ?_⟩⟩, by omega⟩
      have e1 : (s.data.toList.drop f).take (k + 1 - f) = (s.data.toList.drop f).take (k - f) ++ [s.data.toList[k]] := by
        rw [show k + 1 - f = k - f + 1 by omega, List.take_add_one, List.getElem?_drop, show f + (k - f) = k by omega, List.getElem?_eq_getElem hkl]; rfl
      rw [e1, List.mem_append, List.mem_singleton, not_or]
      refine ⟨hn, fun e => h2 ?_⟩
      rw [byteAt_list, List.getD_eq_getElem?_getD, List.getElem?_eq_getElem hkl, Option.getD_some, ← e, UInt8.toNat_ofNat']
      omega
  · obtain ⟨hk, he⟩ := hI.resolve_left (fun h => by omega)
    refine out _ ?_
    unfold splS
    rw [← he, List.map_map]
    conv => rhs; rw [← List.map_id o]
    exact List.map_congr_left fun w _ => mkB_of w
end Go.Proofs.YtifkmkhapabpkaaGreatDoor
