/-
  Contracts: bear-off positions: their numbers' parts, their validity.
-/
import Derived.Test.YtgfpojneeekgkaaVBase
import Derived.Test.YtgfpojneeekgkaaAbW
import Derived.Test.YtgfpojneeekgkaaMathAt
namespace Go.Proofs.Ytgfpojneeekgkaa
open Go.RowKit
set_option linter.unusedSimpArgs false
set_option linter.unusedVariables false
def countD (v : DVar) : Int := if varD v = true then ways v.2.1.toNat v.2.2.1.toNat else -1
def fitsP (left : Int) : List Int → Bool
  | [] => true
  | z :: zs => decide (0 ≤ z) && decide (z ≤ left) && fitsP (left - z) zs
def bearD (v : DVar) (zs : List Int) : Bool := decide ((zs.length : Int) = v.2.2.1) && fitsP v.2.1 zs
def codeP (v : DVar) (zs : List Int) : Int := if varD v = false then 1 else if bearD v zs = false then 2 else 0
theorem fitsP_drop (left : Int) (zs : List Int) (k : Nat) (h : k < zs.length) :
    fitsP left (zs.drop k) = (decide (0 ≤ zs.getD k 0) && decide (zs.getD k 0 ≤ left) && fitsP (left - zs.getD k 0) (zs.drop (k + 1))) := by
  rw [List.drop_eq_getElem_cons h, List.getD_eq_getElem?_getD, List.getElem?_eq_getElem h]; rfl
def c_impl_isBearoff : Con where
  ins := [(true, .v tVar), (false, .v tSI)]
  outs := [(false, .v .b)]
  sh := false
  pre := fun x => varD x.1 = true
  out := fun x => (bearD x.1 x.2.1, ())
  upd := fun x => x
  eat := false
theorem k_impl_isBearoff [B : Base] : ConOk Try.prog 42 c_impl_isBearoff := by
  refine fn_okW (C := cx Try.prog 32 c_impl_isBearoff) (cs := []) (res := Try.f42.results.toList) (fun x => ⟨[{ sh := ⟨[(5, .one (.i .i64)), (15, .one (.ref 0)), (16, .one (.i .i64)), (17, .one (.i .i64))], [(0, .imm tI false)]⟩, nx := 1, I := fun _ dat_ => ((x.2.1.length : Int) = dat_.1.2.2.1 ∧ x.2.1 = dat_.2.1) ∧ (fitsP x.1.2.1 x.2.1 = fitsP dat_.1.1 (List.drop (Int.toNat dat_.1.2.2.2.1) x.2.1) ∧ (0 ≤ dat_.1.1 ∧ dat_.1.1 ≤ 15) ∧ 0 ≤ dat_.1.2.2.2.1 ∧ dat_.1.2.2.2.1 ≤ (List.length x.2.1 : Int)), mu := fun dat_ => Int.toNat ((List.length x.2.1 : Int) - dat_.1.2.2.2.1) }], [], []⟩) Try.func42 (by kernel_rfl) rfl rfl rfl tysOk.look eqTsOk.look (AllCs.ok (l := []) trivial) mixed rfl rfl rfl rfl ?_
  refine of_nf (P := ∀ v : Int × Int × Int × Int, ∀ zs : List Int, (varD v = true) → ((lensI c_impl_isBearoff.ins (v, zs, ())) → (bsp (decide ((zs.length : Int) ≠ v.2.2.1)) (@Eq (HO c_impl_isBearoff.outs) (false, ()) (c_impl_isBearoff.out (v, zs, ()))) ((((zs.length : Int) = (zs.length : Int) ∧ zs = zs) ∧ (fitsP v.2.1 zs = fitsP v.2.1 (List.drop (Int.toNat (0 : Int)) zs) ∧ (0 ≤ v.2.1 ∧ v.2.1 ≤ 15) ∧ 0 ≤ (0 : Int) ∧ (0 : Int) ≤ (List.length zs : Int))) ∧ (∀ left : Int, ∀ n : Int, ∀ i : Int, ∀ l : List Int, (((zs.length : Int) = n ∧ zs = l) ∧ (fitsP v.2.1 zs = fitsP left (List.drop (Int.toNat i) zs) ∧ (0 ≤ left ∧ left ≤ 15) ∧ 0 ≤ i ∧ i ≤ (List.length zs : Int))) → (bsp (decide (i < n)) ((0 ≤ i ∧ i < (l.length : Int)) ∧ ((i.toNat < l.length) ∧ (bsp (decide ((l.getD i.toNat 0) < (0 : Int))) (@Eq (HO c_impl_isBearoff.outs) (false, ()) (c_impl_isBearoff.out (v, zs, ()))) (bsp (decide (left < (l.getD i.toNat 0))) (@Eq (HO c_impl_isBearoff.outs) (false, ()) (c_impl_isBearoff.out (v, zs, ()))) ((inK .i64 (left - (l.getD i.toNat 0))) ∧ ((inK .i64 (i + 1)) ∧ ((((zs.length : Int) = n ∧ zs = l) ∧ (fitsP v.2.1 zs = fitsP (left - (l.getD i.toNat 0)) (List.drop (Int.toNat (i + 1)) zs) ∧ (0 ≤ (left - (l.getD i.toNat 0)) ∧ (left - (l.getD i.toNat 0)) ≤ 15) ∧ 0 ≤ (i + 1) ∧ (i + 1) ≤ (List.length zs : Int))) ∧ ((Int.toNat ((List.length zs : Int) - (i + 1)) : Nat) < Int.toNat ((List.length zs : Int) - i))))))))) (@Eq (HO c_impl_isBearoff.outs) (true, ()) (c_impl_isBearoff.out (v, zs, ()))))))))) (by kernel_rfl) ?_
  rintro v zs hv hl
  have out : ∀ c, bearD v zs = c → @Eq (HO c_impl_isBearoff.outs) (c, ()) (c_impl_isBearoff.out (v, zs, ())) := fun c h => by subst h; rfl
  have hlen : zs.length ≤ 9223372036854775807 := hl.2.1.1
  obtain ⟨⟨g1, g1'⟩, ⟨g2, g2'⟩, ⟨g3, g3'⟩, g4⟩ := varD_iff.1 hv
  refine bspD (fun h => out false (by simp only [bearD, decide_eq_false h, Bool.false_and])) (fun h => ?_)
  have hH : (zs.length : Int) = v.2.2.1 := Decidable.not_not.1 h
  have hB : bearD v zs = fitsP v.2.1 zs := by simp only [bearD, decide_eq_true hH, Bool.true_and]
  rw [hB] at out
  refine ⟨⟨(by first | trivial | rfl | (and_intros <;> rfl)), by simp, by omega, by omega, by omega⟩, ?_⟩
  rintro left n i l ⟨⟨rfl, rfl⟩, ⟨hf, ⟨l0, l1⟩, i0, i1⟩⟩
  obtain ⟨k, rfl⟩ : ∃ k : Nat, i = k := ⟨i.toNat, by omega⟩
  simp only [Int.toNat_natCast, show ((k : Int) + 1).toNat = k + 1 by omega] at hf ⊢
  refine bspD (fun hlt => ?_) (fun hge => out true (by rw [hf, List.drop_eq_nil_of_le (by omega)]; rfl))
  rw [fitsP_drop left zs k (by omega)] at hf
  refine ⟨⟨by omega, by omega⟩, by omega, bspD (fun a => out false (by rw [hf, decide_eq_false (by omega)]; rfl)) (fun a => bspD (fun b => out false (by rw [hf, decide_eq_false (p := _ ≤ left) (by omega), Bool.and_false]; rfl)) (fun b => ?_))⟩
  rw [decide_eq_true (by omega), decide_eq_true (p := _ ≤ left) (by omega), Bool.true_and, Bool.true_and] at hf
  exact ⟨by simp only [inK]; omega, by simp only [inK]; omega, ⟨(by first | trivial | rfl | (and_intros <;> rfl)), hf, by omega, by omega, by omega⟩, by omega⟩
def c_spec_l10Valid : Con where
  ins := [(true, .v tVar), (false, .v tSI)]
  outs := [(false, .v .b)]
  sh := false
  pre := fun x => varD x.1 = true
  out := fun x => (bearD x.1 x.2.1, ())
  upd := fun x => x
  eat := false
theorem k_spec_l10Valid [B : Base] : ConOk Try.prog 44 c_spec_l10Valid := by
  refine fn_okW (C := cx Try.prog 33 c_spec_l10Valid) (cs := [(45, c_spec_l01In)]) (res := Try.f44.results.toList) (fun x => ⟨[{ sh := ⟨[(1, .one (.ref 0)), (5, .one (.i .i64)), (6, .one (.i .i64))], [(0, .imm tI false)]⟩, nx := 1, I := fun _ dat_ => (x.2.1 = dat_.2.1) ∧ (fitsP x.1.2.1 x.2.1 = fitsP dat_.1.2.1 (List.drop (Int.toNat dat_.1.2.2.1) x.2.1) ∧ (0 ≤ dat_.1.2.1 ∧ dat_.1.2.1 ≤ 15) ∧ 0 ≤ dat_.1.2.2.1 ∧ dat_.1.2.2.1 ≤ (List.length x.2.1 : Int)), mu := fun dat_ => Int.toNat ((List.length x.2.1 : Int) - dat_.1.2.2.1) }], [], []⟩) Try.func44 (by kernel_rfl) rfl rfl rfl tysOk.look eqTsOk.look (AllCs.ok (l := [(45, c_spec_l01In)]) ⟨k_spec_l01In, trivial⟩) mixed rfl rfl rfl rfl ?_
  refine of_nf (P := ∀ v : Int × Int × Int × Int, ∀ zs : List Int, (varD v = true) → ((lensI c_spec_l10Valid.ins (v, zs, ())) → (bsp (decide ((zs.length : Int) ≠ v.2.2.1)) (@Eq (HO c_spec_l10Valid.outs) (false, ()) (c_spec_l10Valid.out (v, zs, ()))) (((zs = zs) ∧ (fitsP v.2.1 zs = fitsP v.2.1 (List.drop (Int.toNat (0 : Int)) zs) ∧ (0 ≤ v.2.1 ∧ v.2.1 ≤ 15) ∧ 0 ≤ (0 : Int) ∧ (0 : Int) ≤ (List.length zs : Int))) ∧ (∀ left : Int, ∀ i : Int, ∀ t1 : List Int, ((zs = t1) ∧ (fitsP v.2.1 zs = fitsP left (List.drop (Int.toNat i) zs) ∧ (0 ≤ left ∧ left ≤ 15) ∧ 0 ≤ i ∧ i ≤ (List.length zs : Int))) → (bsp (decide (i < (t1.length : Int))) ((0 ≤ i ∧ i < (t1.length : Int)) ∧ ((i.toNat < t1.length) ∧ (True ∧ (bsp (!(inB (t1.getD i.toNat 0) (0 : Int) left)) (@Eq (HO c_spec_l10Valid.outs) (false, ()) (c_spec_l10Valid.out (v, zs, ()))) ((0 ≤ i ∧ i < (t1.length : Int)) ∧ ((i.toNat < t1.length) ∧ ((inK .i64 (left - (t1.getD i.toNat 0))) ∧ ((inK .i64 (i + 1)) ∧ (((zs = t1) ∧ (fitsP v.2.1 zs = fitsP (left - (t1.getD i.toNat 0)) (List.drop (Int.toNat (i + 1)) zs) ∧ (0 ≤ (left - (t1.getD i.toNat 0)) ∧ (left - (t1.getD i.toNat 0)) ≤ 15) ∧ 0 ≤ (i + 1) ∧ (i + 1) ≤ (List.length zs : Int))) ∧ ((Int.toNat ((List.length zs : Int) - (i + 1)) : Nat) < Int.toNat ((List.length zs : Int) - i))))))))))) (@Eq (HO c_spec_l10Valid.outs) (true, ()) (c_spec_l10Valid.out (v, zs, ()))))))))) (by kernel_rfl) ?_
  rintro v zs hv hl
  have out : ∀ c, bearD v zs = c → @Eq (HO c_spec_l10Valid.outs) (c, ()) (c_spec_l10Valid.out (v, zs, ())) := fun c h => by subst h; rfl
  have hlen : zs.length ≤ 9223372036854775807 := hl.2.1.1
  obtain ⟨⟨g1, g1'⟩, ⟨g2, g2'⟩, ⟨g3, g3'⟩, g4⟩ := varD_iff.1 hv
  refine bspD (fun h => out false (by simp only [bearD, decide_eq_false h, Bool.false_and])) (fun h => ?_)
  have hH : (zs.length : Int) = v.2.2.1 := Decidable.not_not.1 h
  have hB : bearD v zs = fitsP v.2.1 zs := by simp only [bearD, decide_eq_true hH, Bool.true_and]
  rw [hB] at out
  refine ⟨⟨(by first | trivial | rfl | (and_intros <;> rfl)), by simp, by omega, by omega, by omega⟩, ?_⟩
  rintro left i t1 ⟨rfl, ⟨hf, ⟨l0, l1⟩, i0, i1⟩⟩
  obtain ⟨k, rfl⟩ : ∃ k : Nat, i = k := ⟨i.toNat, by omega⟩
  simp only [Int.toNat_natCast, show ((k : Int) + 1).toNat = k + 1 by omega] at hf ⊢
  refine bspD (fun hlt => ?_) (fun hge => out true (by rw [hf, List.drop_eq_nil_of_le (by omega)]; rfl))
  rw [fitsP_drop left zs k (by omega)] at hf
  refine ⟨⟨by omega, by omega⟩, by omega, trivial, bspB (fun a => ?_) (fun a => ?_)⟩
  · have ha : ¬ (0 ≤ zs.getD k 0 ∧ zs.getD k 0 ≤ left) := fun x => by simp only [inB, Bool.not_eq_true', Bool.and_eq_false_iff, decide_eq_false_iff_not] at a; omega
    refine out false ?_
    rw [hf]
    by_cases b : 0 ≤ zs.getD k 0
    · rw [decide_eq_false (p := _ ≤ left) (fun c => ha ⟨b, c⟩), Bool.and_false]; rfl
    · rw [decide_eq_false b]; rfl
  · have ha : 0 ≤ zs.getD k 0 ∧ zs.getD k 0 ≤ left := by simp only [inB, Bool.not_eq_false', Bool.and_eq_true, decide_eq_true_eq] at a; omega
    rw [decide_eq_true ha.1, decide_eq_true ha.2, Bool.true_and, Bool.true_and] at hf
    exact ⟨⟨by omega, by omega⟩, by omega, by simp only [inK]; omega, by simp only [inK]; omega, ⟨(by first | trivial | rfl | (and_intros <;> rfl)), hf, by omega, by omega, by omega⟩, by omega⟩
def c_impl_checkBearoff : Con where
  ins := [(true, .v tVar), (false, .v tSI)]
  outs := [(false, .v tI)]
  sh := false
  pre := fun _ => True
  out := fun x => (codeP x.1 x.2.1, ())
  upd := fun x => x
  eat := false
theorem k_impl_checkBearoff [B : Base] : ConOk Try.prog 31 c_impl_checkBearoff := by
  refine fn_okW (C := cx Try.prog 12 c_impl_checkBearoff) (cs := [(41, c_impl_IsVariant), (42, c_impl_isBearoff)]) (res := Try.f31.results.toList) (fun _ => ⟨[], [], []⟩) Try.func31 (by kernel_rfl) rfl rfl rfl tysOk.look eqTsOk.look (AllCs.ok (l := [(41, c_impl_IsVariant), (42, c_impl_isBearoff)]) ⟨k_impl_IsVariant, k_impl_isBearoff, trivial⟩) mixed rfl rfl rfl rfl ?_
  refine of_nf (P := ∀ v : Int × Int × Int × Int, ∀ zs : List Int, (True) → ((lensI c_impl_checkBearoff.ins (v, zs, ())) → (True ∧ (bsp (!(varD v)) (@Eq (HO c_impl_checkBearoff.outs) (1, ()) (c_impl_checkBearoff.out (v, zs, ()))) ((varD v = true) ∧ (bsp (!(bearD v zs)) (@Eq (HO c_impl_checkBearoff.outs) (2, ()) (c_impl_checkBearoff.out (v, zs, ()))) (@Eq (HO c_impl_checkBearoff.outs) (0, ()) (c_impl_checkBearoff.out (v, zs, ()))))))))) (by kernel_rfl) ?_
  rintro v zs hp hl
  refine ⟨trivial, bspB (fun h => by simp_all [c_impl_checkBearoff, codeP]) (fun h => ?_)⟩
  have hv : varD v = true := by simpa using h
  exact ⟨hv, bspB (fun g => by simp_all [c_impl_checkBearoff, codeP]) (fun g => by simp_all [c_impl_checkBearoff, codeP])⟩
def c_spec_l10Code : Con where
  ins := [(true, .v tVar), (false, .v tSI)]
  outs := [(false, .v tI)]
  sh := false
  pre := fun _ => True
  out := fun x => (codeP x.1 x.2.1, ())
  upd := fun x => x
  eat := false
theorem k_spec_l10Code [B : Base] : ConOk Try.prog 28 c_spec_l10Code := by
  refine fn_okW (C := cx Try.prog 12 c_spec_l10Code) (cs := [(43, c_spec_IsVariant), (44, c_spec_l10Valid)]) (res := Try.f28.results.toList) (fun _ => ⟨[], [], []⟩) Try.func28 (by kernel_rfl) rfl rfl rfl tysOk.look eqTsOk.look (AllCs.ok (l := [(43, c_spec_IsVariant), (44, c_spec_l10Valid)]) ⟨k_spec_IsVariant, k_spec_l10Valid, trivial⟩) mixed rfl rfl rfl rfl ?_
  refine of_nf (P := ∀ v : Int × Int × Int × Int, ∀ zs : List Int, (True) → ((lensI c_spec_l10Code.ins (v, zs, ())) → (True ∧ (bsp (!(varD v)) (@Eq (HO c_spec_l10Code.outs) (1, ()) (c_spec_l10Code.out (v, zs, ()))) ((varD v = true) ∧ (bsp (!(bearD v zs)) (@Eq (HO c_spec_l10Code.outs) (2, ()) (c_spec_l10Code.out (v, zs, ()))) (@Eq (HO c_spec_l10Code.outs) (0, ()) (c_spec_l10Code.out (v, zs, ()))))))))) (by kernel_rfl) ?_
  rintro v zs hp hl
  refine ⟨trivial, bspB (fun h => by simp_all [c_spec_l10Code, codeP]) (fun h => ?_)⟩
  have hv : varD v = true := by simpa using h
  exact ⟨hv, bspB (fun g => by simp_all [c_spec_l10Code, codeP]) (fun g => by simp_all [c_spec_l10Code, codeP])⟩
end Go.Proofs.Ytgfpojneeekgkaa
