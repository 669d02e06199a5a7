/-
  Contracts: texts of bear-off positions.
-/
import Derived.Test.YtpaacgcfnongpaaDoorAbL
import Derived.Test.YtpaacgcfnongpaaDoorVBearI
import Derived.Test.YtpaacgcfnongpaaDoorVDec
import Derived.Test.YtpaacgcfnongpaaDoorVJoin
import Derived.Test.YtpaacgcfnongpaaDoorVLaw
namespace Go.Proofs.YtpaacgcfnongpaaDoor
open Go.RowKit
set_option linter.unusedSimpArgs false
set_option linter.unusedVariables false
def comB : ByteArray := ByteArray.mk #[44]
def bearS (v : DVar) (zs : List Int) : ByteArray := if (varD v && bearD v zs) = true then joinS (zs.map decS) comB else nilB
theorem fitsP_mem {zs : List Int} : ∀ {l : Int}, 0 ≤ l → fitsP l zs = true → ∀ z ∈ zs, 0 ≤ z ∧ z ≤ l := by
  induction zs with
  | nil => intro l _ _ z hz; cases hz
  | cons a r ih =>
    intro l hl h z hz
    simp only [fitsP, Bool.and_eq_true, decide_eq_true_eq] at h
    rcases List.mem_cons.1 hz with rfl | hz
    · exact h.1
    · have := ih (l := l - a) (by omega) h.2 z hz
      omega
theorem bear_in {v : DVar} {zs : List Int} (h : (varD v && bearD v zs) = true) : (∀ z ∈ zs, 0 ≤ z ∧ z ≤ 15) ∧ zs.length ≤ 24 := by
  rw [Bool.and_eq_true] at h
  obtain ⟨hv, hb⟩ := h
  obtain ⟨⟨g1, g1'⟩, ⟨g2, g2'⟩, ⟨g3, g3'⟩, g4⟩ := varD_iff.1 hv
  simp only [bearD, Bool.and_eq_true, decide_eq_true_eq] at hb
  exact ⟨fun z hz => by have := fitsP_mem (by omega) hb.2 z hz; omega, by omega⟩
def c_spec_BearoffText : Con where
  ins := [(true, .v tVar), (false, .v tSI)]
  outs := [(false, .v .s)]
  sh := false
  pre := fun _ => True
  out := fun x => (bearS x.1 x.2.1, ())
  upd := fun x => x
theorem k_spec_BearoffText [B : Base] : ConOk Tryd.prog 12 c_spec_BearoffText := by
  refine fn_okW (C := cx Tryd.prog 30 c_spec_BearoffText) (cs := [(17, c_spec_IsBearoff), (18, c_spec_l09Decimal)]) (res := Tryd.f12.results.toList) (fun x => ⟨[{ sh := ⟨[(1, .one (.ref 0)), (2, .one (.ref 1)), (5, .one .s), (6, .one (.i .i64))], [(0, .imm tI false), (1, .box [.i .i64, .i .i64, .i .i64, .i .i64])]⟩, nx := 2, I := fun _ dat_ => (x.2.1 = dat_.2.1 ∧ x.1.1 = dat_.2.2.1.1 ∧ x.1.2.1 = dat_.2.2.1.2.1 ∧ x.1.2.2.1 = dat_.2.2.1.2.2.1 ∧ x.1.2.2.2 = dat_.2.2.1.2.2.2.1) ∧ ((dat_.1.2.2.1 = joinS (List.map decS (List.take (Int.toNat dat_.1.2.2.2.1) x.2.1)) comB ∧ (dat_.1.2.2.2.1 = 0 ∨ (varD x.1 && bearD x.1 x.2.1) = true)) ∧ 0 ≤ dat_.1.2.2.2.1 ∧ dat_.1.2.2.2.1 ≤ (List.length x.2.1 : Int)), mu := fun dat_ => Int.toNat ((List.length x.2.1 : Int) - dat_.1.2.2.2.1) }], [], []⟩) Tryd.func12 (by kernel_rfl) rfl rfl rfl tysOk.look eqTsOk.look (AllCs.ok (l := [(17, c_spec_IsBearoff), (18, c_spec_l09Decimal)]) ⟨k_spec_IsBearoff, k_spec_l09Decimal, trivial⟩) mixed rfl rfl rfl ?_
  refine of_nf (P := ∀ v : Int × Int × Int × Int, ∀ zs : List Int, (True) → ((lensI c_spec_BearoffText.ins (v, zs, ())) → (((zs = zs ∧ v.1 = v.1 ∧ v.2.1 = v.2.1 ∧ v.2.2.1 = v.2.2.1 ∧ v.2.2.2 = v.2.2.2) ∧ (((ByteArray.mk #[]) = joinS (List.map decS (List.take (Int.toNat (0 : Int)) zs)) comB ∧ ((0 : Int) = 0 ∨ (varD v && bearD v zs) = true)) ∧ 0 ≤ (0 : Int) ∧ (0 : Int) ≤ (List.length zs : Int))) ∧ (∀ acc : ByteArray, ∀ i : Int, ∀ t1 : List Int, ∀ t2_0 : Int, ∀ t2_1 : Int, ∀ t2_2 : Int, ∀ t2_3 : Int, ((zs = t1 ∧ v.1 = t2_0 ∧ v.2.1 = t2_1 ∧ v.2.2.1 = t2_2 ∧ v.2.2.2 = t2_3) ∧ ((acc = joinS (List.map decS (List.take (Int.toNat i) zs)) comB ∧ (i = 0 ∨ (varD v && bearD v zs) = true)) ∧ 0 ≤ i ∧ i ≤ (List.length zs : Int))) → (bsp (decide (i < (t1.length : Int))) (True ∧ (bsp (varD (t2_0, t2_1, t2_2, t2_3) && bearD (t2_0, t2_1, t2_2, t2_3) t1) (bsp (decide ((0 : Int) < i)) ((ByteArray.size acc + ByteArray.size (ByteArray.mk #[44]) ≤ 9223372036854775807) ∧ ((0 ≤ i ∧ i < (t1.length : Int)) ∧ ((i.toNat < t1.length) ∧ ((inK .i64 (t1.getD i.toNat 0)) ∧ ((ByteArray.size (acc ++ (ByteArray.mk #[44])) + ByteArray.size (decS (t1.getD i.toNat 0)) ≤ 9223372036854775807) ∧ ((inK .i64 (i + 1)) ∧ (((zs = t1 ∧ v.1 = t2_0 ∧ v.2.1 = t2_1 ∧ v.2.2.1 = t2_2 ∧ v.2.2.2 = t2_3) ∧ ((((acc ++ (ByteArray.mk #[44])) ++ decS (t1.getD i.toNat 0)) = joinS (List.map decS (List.take (Int.toNat (i + 1)) zs)) comB ∧ ((i + 1) = 0 ∨ (varD v && bearD v zs) = true)) ∧ 0 ≤ (i + 1) ∧ (i + 1) ≤ (List.length zs : Int))) ∧ ((Int.toNat ((List.length zs : Int) - (i + 1)) : Nat) < Int.toNat ((List.length zs : Int) - i))))))))) ((0 ≤ i ∧ i < (t1.length : Int)) ∧ ((i.toNat < t1.length) ∧ ((inK .i64 (t1.getD i.toNat 0)) ∧ ((ByteArray.size acc + ByteArray.size (decS (t1.getD i.toNat 0)) ≤ 9223372036854775807) ∧ ((inK .i64 (i + 1)) ∧ (((zs = t1 ∧ v.1 = t2_0 ∧ v.2.1 = t2_1 ∧ v.2.2.1 = t2_2 ∧ v.2.2.2 = t2_3) ∧ (((acc ++ decS (t1.getD i.toNat 0)) = joinS (List.map decS (List.take (Int.toNat (i + 1)) zs)) comB ∧ ((i + 1) = 0 ∨ (varD v && bearD v zs) = true)) ∧ 0 ≤ (i + 1) ∧ (i + 1) ≤ (List.length zs : Int))) ∧ ((Int.toNat ((List.length zs : Int) - (i + 1)) : Nat) < Int.toNat ((List.length zs : Int) - i))))))))) (@Eq (HO c_spec_BearoffText.outs) (acc, ()) (c_spec_BearoffText.out (v, zs, ()))))) (@Eq (HO c_spec_BearoffText.outs) (acc, ()) (c_spec_BearoffText.out (v, zs, ())))))))) (by kernel_rfl) ?_
  rintro v zs hp hl
  have hD := bearS.eq_1 v zs
  have out : ∀ r, bearS v zs = r → @Eq (HO c_spec_BearoffText.outs) (r, ()) (c_spec_BearoffText.out (v, zs, ())) := fun r h => by subst h; rfl
  refine ⟨⟨(by first | trivial | rfl | (and_intros <;> rfl)), ⟨rfl, by simp⟩, by omega, by omega⟩, ?_⟩
  rintro acc i t1 t2_0 t2_1 t2_2 t2_3 ⟨⟨rfl, rfl, rfl, rfl, rfl⟩, ⟨⟨hacc, hv⟩, i0, i1⟩⟩
  simp only [Prod.eta]
  obtain ⟨k, rfl⟩ : ∃ k : Nat, i = k := ⟨i.toNat, by omega⟩
  simp only [Int.toNat_natCast, show ((k : Int) + 1).toNat = k + 1 by omega] at hacc ⊢
  refine bspD (fun hlt => ⟨trivial, bspB (fun hb => ?_) (fun hb => ?_)⟩) (fun hge => ?_)
  · have hk : k < zs.length := by omega
    obtain ⟨hin, hlen⟩ := bear_in hb
    have hz := hin (zs.getD k 0) (by rw [List.getD_eq_getElem?_getD, List.getElem?_eq_getElem hk]; exact List.getElem_mem hk)
    have hi : inK .i64 (zs.getD k 0) := by simp only [inK]; omega
    have hsz := decS_size hi
    have hq := joinS_size (k := 21) (q := 1) (s := comB) (n := k) (xs := (zs.take k).map decS) (Nat.le_refl _) (by simp; omega) (fun x hx => by
      obtain ⟨z, hz, rfl⟩ := List.mem_map.1 hx
      have := hin z (List.mem_of_mem_take hz)
      exact decS_size (by simp only [inK]; omega))
    rw [← hacc] at hq
    have hsn := joinS_snoc ((zs.take k).map decS) (decS (zs.getD k 0)) comB
    rw [← take_map_step _ hk 0, ← hacc] at hsn
    have k1 : (ByteArray.mk #[44]).size = 1 := rfl
    simp only [app_size]
    refine bspD (fun h1 => ?_) (fun h1 => ?_)
    · rw [if_neg (fun e => by have := congrArg List.length e; rw [List.length_map, List.length_take, List.length_nil] at this; omega)] at hsn
      exact ⟨by omega, ⟨by omega, by omega⟩, hk, hi, by omega, by simp only [inK]; omega, ⟨(by first | trivial | rfl | (and_intros <;> rfl)), ⟨hsn.symm, .inr hb⟩, by omega, by omega⟩, by omega⟩
    · have hk0 : k = 0 := by omega
      subst hk0
      rw [if_pos (by simp)] at hsn
      have e0 : acc = nilB := by rw [hacc]; rfl
      refine ⟨⟨by omega, by omega⟩, hk, hi, by omega, by simp only [inK]; omega, ⟨(by first | trivial | rfl | (and_intros <;> rfl)), ⟨?_, .inr hb⟩, by omega, by omega⟩, by omega⟩
      rw [hsn, e0]; exact bytes_ext (by simp [ByteArray.data_append, nilB])
  · have hk0 : k = 0 := by
      rcases hv with h | h
      · omega
      · rw [h] at hb; cases hb
    subst hk0
    rw [if_neg (by rw [hb]; decide)] at hD
    exact out _ (by rw [hD, hacc]; rfl)
  · rw [List.take_of_length_le (by omega)] at hacc
    subst hacc
    refine out _ ?_
    rcases hv with h | h
    · have h0 : zs = [] := List.length_eq_zero_iff.1 (by omega)
      rw [hD]; subst h0; split <;> rfl
    · rw [hD, if_pos h]
end Go.Proofs.YtpaacgcfnongpaaDoor
