/-
  Contracts: texts of bear-off positions.
-/
import Derived.Test.YtpoaimdoogckbaaDoorAbL
import Derived.Test.YtpoaimdoogckbaaDoorVBearI
import Derived.Test.YtpoaimdoogckbaaDoorVDec
import Derived.Test.YtpoaimdoogckbaaDoorVJoin
import Derived.Test.YtpoaimdoogckbaaDoorVLaw
namespace Go.Proofs.YtpoaimdoogckbaaDoor
open Go.RowKit
set_option linter.unusedSimpArgs false
set_option linter.unusedVariables false
def comB : ByteArray := ByteArray.mk #[44]
def bearS (v : DVar) (zs : List Int) : ByteArray := if (varD v && bearD v zs) = true then joinS (zs.map decS) comB else nilB
theorem fitsP_mem {zs : List Int} : ∀ {l : Int}, 0 ≤ l → fitsP l zs = true → ∀ z ∈ zs, 0 ≤ z ∧ z ≤ l := by
  induction zs with
  | nil => intro l _ _ z hz; cases hz
  | cons a r ih =>
    intro l hl h z hz
    simp only [fitsP, Bool.and_eq_true, decide_eq_true_eq] at h
    rcases List.mem_cons.1 hz with rfl | hz
    · exact h.1
    · have := ih (l := l - a) (by omega) h.2 z hz
      omega
theorem bear_in {v : DVar} {zs : List Int} (h : (varD v && bearD v zs) = true) : (∀ z ∈ zs, 0 ≤ z ∧ z ≤ 15) ∧ zs.length ≤ 24 := by
  rw [Bool.and_eq_true] at h
  obtain ⟨hv, hb⟩ := h
  obtain ⟨⟨g1, g1'⟩, ⟨g2, g2'⟩, ⟨g3, g3'⟩, g4⟩ := varD_iff.1 hv
  simp only [bearD, Bool.and_eq_true, decide_eq_true_eq] at hb
  exact ⟨fun z hz => by have := fitsP_mem (by omega) hb.2 z hz; omega, by omega⟩
def c_impl_joinNumbers : Con where
  ins := [(false, .v tSI), (false, .v .s)]
  outs := [(false, .v .s)]
  sh := false
  pre := fun x => (∀ z ∈ x.1, inK .i64 z) ∧ (x.2.1).size ≤ 1000000 ∧ List.length x.1 ≤ 1048576
  out := fun x => (joinS (List.map decS x.1) x.2.1, ())
  upd := fun x => x
theorem k_impl_joinNumbers [B : Base] : ConOk Tryd.prog 12 c_impl_joinNumbers := by
  refine fn_ok (C := cx Tryd.prog 27 c_impl_joinNumbers) (cs := [(21, c_impl_decimal), (22, c_strings_Join)]) (res := Tryd.f12.results.toList) (fun x => ⟨[{ sh := ⟨[(1, .one .s), (5, .one (.ref 0)), (11, .one (.ref 1)), (12, .one (.i .i64)), (13, .one (.i .i64))], [(0, .own 9 .s true), (1, .imm tI false)]⟩, nx := 2, I := fun _ dat_ => (x.2.1 = dat_.1.1 ∧ (x.1.length : Int) = dat_.1.2.2.2.1 ∧ x.1 = dat_.2.2.1) ∧ ((List.length dat_.2.1 = List.length x.1 ∧ (∀ j : Nat, j < Int.toNat dat_.1.2.2.2.2.1 → List.getD dat_.2.1 j ByteArray.empty = decS (List.getD x.1 j 0))) ∧ 0 ≤ dat_.1.2.2.2.2.1 ∧ dat_.1.2.2.2.2.1 ≤ (List.length x.1 : Int)), mu := fun dat_ => Int.toNat ((List.length x.1 : Int) - dat_.1.2.2.2.2.1) }], [], []⟩) Tryd.func12 (by kernel_rfl) rfl rfl rfl tysOk.look eqTsOk.look (AllCs.ok (l := [(21, c_impl_decimal), (22, c_strings_Join)]) ⟨k_impl_decimal, k_strings_Join, trivial⟩) mixed rfl rfl rfl ?_
  refine of_nf (P := ∀ zs : List Int, ∀ s : ByteArray, ((∀ z ∈ zs, inK .i64 z) ∧ (s).size ≤ 1000000 ∧ List.length zs ≤ 1048576) → ((lensI c_impl_joinNumbers.ins (zs, s, ())) → ((0 ≤ (zs.length : Int) ∧ (zs.length : Int) ≤ (zs.length : Int) ∧ (zs.length : Int) ≤ 1099511627776) ∧ (((s = s ∧ (zs.length : Int) = (zs.length : Int) ∧ zs = zs) ∧ ((List.length (List.replicate zs.length (ByteArray.empty : ByteArray)) = List.length zs ∧ (∀ j : Nat, j < Int.toNat (0 : Int) → List.getD (List.replicate zs.length (ByteArray.empty : ByteArray)) j ByteArray.empty = decS (List.getD zs j 0))) ∧ 0 ≤ (0 : Int) ∧ (0 : Int) ≤ (List.length zs : Int))) ∧ (∀ t1 : ByteArray, ∀ l : Int, ∀ i : Int, ∀ ws : List ByteArray, ∀ t11 : List Int, ((s = t1 ∧ (zs.length : Int) = l ∧ zs = t11) ∧ ((List.length ws = List.length zs ∧ (∀ j : Nat, j < Int.toNat i → List.getD ws j ByteArray.empty = decS (List.getD zs j 0))) ∧ 0 ≤ i ∧ i ≤ (List.length zs : Int))) → (bsp (decide (i < l)) ((0 ≤ i ∧ i < (t11.length : Int)) ∧ ((i.toNat < t11.length) ∧ ((inK .i64 (t11.getD i.toNat 0)) ∧ ((0 ≤ i ∧ i < (ws.length : Int)) ∧ ((i.toNat < ws.length) ∧ ((inK .i64 (i + 1)) ∧ (((s = t1 ∧ (zs.length : Int) = l ∧ zs = t11) ∧ ((List.length (ws.set i.toNat (decS (t11.getD i.toNat 0))) = List.length zs ∧ (∀ j : Nat, j < Int.toNat (i + 1) → List.getD (ws.set i.toNat (decS (t11.getD i.toNat 0))) j ByteArray.empty = decS (List.getD zs j 0))) ∧ 0 ≤ (i + 1) ∧ (i + 1) ≤ (List.length zs : Int))) ∧ ((Int.toNat ((List.length zs : Int) - (i + 1)) : Nat) < Int.toNat ((List.length zs : Int) - i))))))))) (((joinS ws t1).size ≤ 140737488355328 ∧ List.length ws ≤ 140737488355328) ∧ (@Eq (HO c_impl_joinNumbers.outs) (joinS ws t1, ()) (c_impl_joinNumbers.out (zs, s, ())))))))))) (by kernel_rfl) ?_
  rintro zs s ⟨hz, hs, hn⟩ hl
  have hlim : ∀ xs : List ByteArray, xs = zs.map decS → (joinS xs s).size ≤ 140737488355328 ∧ xs.length ≤ 140737488355328 := fun xs h => by
    subst h
    have hq := joinS_size (k := 21) (q := 1000000) (s := s) (n := zs.length) (xs := zs.map decS) hs (by simp) (fun x hx => by
      obtain ⟨z, h, rfl⟩ := List.mem_map.1 hx
      exact decS_size (hz z h))
    exact ⟨by omega, by simp; omega⟩
  refine ⟨by omega, ⟨(by first | trivial | rfl | (and_intros <;> rfl)), ⟨by simp, fun j hj => by simp at hj⟩, by omega, by omega⟩, ?_⟩
  rintro t1 l i ws t11 ⟨⟨rfl, rfl, rfl⟩, ⟨⟨hw, hs'⟩, i0, i1⟩⟩
  obtain ⟨k, rfl⟩ : ∃ k : Nat, i = k := ⟨i.toNat, by omega⟩
  simp only [Int.toNat_natCast, show ((k : Int) + 1).toNat = k + 1 by omega] at hs' ⊢
  refine bspD (fun hlt => ?_) (fun hge => ?_)
  · have hk : k < zs.length := by omega
    have hin : inK .i64 (zs.getD k 0) := hz _ (by rw [List.getD_eq_getElem?_getD, List.getElem?_eq_getElem hk]; exact List.getElem_mem hk)
    refine ⟨⟨by omega, by omega⟩, hk, hin, ⟨by omega, by omega⟩, by omega, by simp only [inK]; omega, ⟨(by first | trivial | rfl | (and_intros <;> rfl)), ⟨by simpa using hw, fun j hj => ?_⟩, by omega, by omega⟩, by omega⟩
    rw [getD_set_str (by omega)]
    split
    · next e => rw [e]
    · exact hs' j (by omega)
  · obtain rfl : k = zs.length := by omega
    obtain rfl := eq_map_str (f := decS) 0 hw hs'
    exact ⟨hlim _ rfl, rfl⟩
def c_impl_BearoffText : Con where
  ins := [(true, .v tVar), (false, .v tSI)]
  outs := [(false, .v .s)]
  sh := false
  pre := fun _ => True
  out := fun x => (bearS x.1 x.2.1, ())
  upd := fun x => x
theorem k_impl_BearoffText [B : Base] : ConOk Tryd.prog 6 c_impl_BearoffText := by
  refine fn_okW (C := cx Tryd.prog 11 c_impl_BearoffText) (cs := [(11, c_impl_IsBearoff), (12, c_impl_joinNumbers)]) (res := Tryd.f6.results.toList) (fun _ => ⟨[], [], []⟩) Tryd.func6 (by kernel_rfl) rfl rfl rfl tysOk.look eqTsOk.look (AllCs.ok (l := [(11, c_impl_IsBearoff), (12, c_impl_joinNumbers)]) ⟨k_impl_IsBearoff, k_impl_joinNumbers, trivial⟩) mixed rfl rfl rfl ?_
  refine of_nf (P := ∀ v : Int × Int × Int × Int, ∀ zs : List Int, (True) → ((lensI c_impl_BearoffText.ins (v, zs, ())) → (True ∧ (bsp (!(varD v && bearD v zs)) (@Eq (HO c_impl_BearoffText.outs) ((ByteArray.mk #[]), ()) (c_impl_BearoffText.out (v, zs, ()))) (((∀ z ∈ zs, inK .i64 z) ∧ ((ByteArray.mk #[44])).size ≤ 1000000 ∧ List.length zs ≤ 1048576) ∧ (@Eq (HO c_impl_BearoffText.outs) (joinS (List.map decS zs) (ByteArray.mk #[44]), ()) (c_impl_BearoffText.out (v, zs, ())))))))) (by kernel_rfl) ?_
  rintro v zs hp hl
  have hD := bearS.eq_1 v zs
  refine ⟨trivial, bspB (fun h => ?_) (fun h => ?_)⟩
  · have h' : (varD v && bearD v zs) = false := by revert h; cases varD v && bearD v zs <;> simp
    rw [if_neg (by rw [h']; decide)] at hD
    simp only [c_impl_BearoffText, hD]; rfl
  · have h' : (varD v && bearD v zs) = true := by revert h; cases varD v && bearD v zs <;> simp
    obtain ⟨hb, hl⟩ := bear_in h'
    rw [if_pos h'] at hD
    refine ⟨⟨fun z hz => ?_, by decide, by omega⟩, ?_⟩
    · have := hb z hz; simp only [inK]; omega
    · simp only [c_impl_BearoffText, hD]; rfl
end Go.Proofs.YtpoaimdoogckbaaDoor
