/-
  Contracts: NextBearoff.
-/
import Derived.Test.YtghfpidpefdndaaVBearN
import Derived.Test.YtghfpidpefdndaaVBoard2
namespace Go.Proofs.Ytghfpidpefdndaa
open Go.RowKit
set_option linter.unusedSimpArgs false
set_option linter.unusedVariables false
/-- the first index from here on with a checker -/
def firstP (zs : List Int) : Nat → Nat → Nat
  | 0, i => i
  | f + 1, i => if zs.getD i 0 = 0 then firstP zs f (i + 1) else i
def nextP (v : DVar) (zs : List Int) : List Int × Int :=
  if codeP v zs ≠ 0 then ([], codeP v zs)
  else if zs.sum < v.2.1 then (zs.set 0 (zs.getD 0 0 + 1), 0)
  else if firstP zs zs.length 0 + 1 = zs.length then ([], 4)
  else ((zs.set (firstP zs zs.length 0) 0).set (firstP zs zs.length 0 + 1) (zs.getD (firstP zs zs.length 0 + 1) 0 + 1), 0)
theorem codeP_zeroX {v : DVar} {zs : List Int} (h : codeP v zs = 0) : varD v = true ∧ bearD v zs = true := by
  unfold codeP at h
  split at h
  · omega
  · split at h
    · omega
    · simp_all
theorem firstP_spec {zs : List Int} {k : Nat} (hk : zs.getD k 0 ≠ 0) : ∀ (f i : Nat), i ≤ k → k < i + f → (∀ j, j < i → zs.getD j 0 = 0) → firstP zs f i ≤ k ∧ zs.getD (firstP zs f i) 0 ≠ 0 ∧ ∀ j, j < firstP zs f i → zs.getD j 0 = 0
  | 0, i, h1, h2, _ => by omega
  | f + 1, i, h1, h2, h3 => by
    simp only [firstP]
    split
    · next h =>
      have hne : i ≠ k := by rintro rfl; exact hk h
      exact firstP_spec hk f (i + 1) (by omega) (by omega) fun j hj => by
        by_cases e : j = i
        · subst e; exact h
        · exact h3 j (by omega)
    · next h => exact ⟨h1, h, h3⟩
theorem some_nonzero {zs : List Int} (h : zs.sum ≠ 0) : ∃ k, k < zs.length ∧ zs.getD k 0 ≠ 0 := by
  induction zs with
  | nil => simp at h
  | cons z zs ih =>
    by_cases hz : z = 0
    · obtain ⟨k, h1, h2⟩ := ih (by simp [hz] at h; exact h)
      exact ⟨k + 1, by simp; omega, by simpa using h2⟩
    · exact ⟨0, by simp, by simpa using hz⟩
theorem bear_bd {v : DVar} {zs : List Int} (hv : varD v = true) (hb : bearD v zs = true) : Bd zs ∧ (zs.length : Int) = v.2.2.1 ∧ zs.sum ≤ v.2.1 := by
  obtain ⟨⟨g1, g1'⟩, ⟨g2, g2'⟩, ⟨g3, g3'⟩, g4⟩ := varD_iff.1 hv
  simp only [bearD, Bool.and_eq_true, decide_eq_true_eq] at hb
  obtain ⟨hH, hf⟩ := hb
  obtain ⟨hz, hs⟩ := fitsP_sum hf
  refine ⟨⟨by omega, fun z hz' => ?_⟩, hH, hs (by omega)⟩
  obtain ⟨j, hj, rfl⟩ := List.getElem_of_mem hz'
  have := hz j
  rw [List.getD_eq_getElem?_getD, List.getElem?_eq_getElem hj] at this
  simp only [Option.getD_some] at this
  have h2 := this.2 hj
  omega
def c_impl_NextBearoff : Con where
  ins := [(true, .v tVar), (false, .v tSI)]
  outs := [(false, .v tSI), (false, .v tI)]
  sh := false
  pre := fun _ => True
  out := fun x => ((nextP x.1 x.2.1).1, (nextP x.1 x.2.1).2, ())
  upd := fun x => x
theorem k_impl_NextBearoff : ConOk Try.prog 73 c_impl_NextBearoff := by
  refine fn_okW (C := cx Try.prog 51 c_impl_NextBearoff) (cs := [(120, c_impl_checkBearoff), (148, c_slices_Clone_int64_int64_), (149, c_impl_total)]) (res := Try.f73.results.toList) (fun x => ⟨[{ sh := ⟨[(7, .one (.ref 0)), (8, .one (.i .i64))], [(0, .own 2 tI true)]⟩, nx := 1, I := fun _ dat_ => (dat_.2.1 = x.2.1 ∧ ∀ j : Nat, j < Int.toNat dat_.1.2.1 → List.getD x.2.1 j 0 = 0) ∧ (varD x.1 = true ∧ bearD x.1 x.2.1 = true) ∧ ¬ List.sum x.2.1 < x.1.2.1 ∧ 0 ≤ dat_.1.2.1 ∧ dat_.1.2.1 < (List.length x.2.1 : Int), mu := fun dat_ => Int.toNat ((List.length x.2.1 : Int) - dat_.1.2.1) }], [(5, ⟨[[], [0], [], [2], [0, 1, 2, 3]], [[2, 3], [2, 3], [0, 1], [0, 1], []], []⟩)], []⟩) Try.func73 (by kernel_rfl) rfl rfl rfl tysOk.look eqTsOk.look (AllCs.ok (l := [(120, c_impl_checkBearoff), (148, c_slices_Clone_int64_int64_), (149, c_impl_total)]) ⟨k_impl_checkBearoff, k_slices_Clone_int64_int64_, k_impl_total, trivial⟩) mixed rfl rfl rfl ?_
  refine of_nf (P := ∀ v : Int × Int × Int × Int, ∀ zs : List Int, (True) → ((lensI c_impl_NextBearoff.ins (v, zs, ())) → (True ∧ (bsp (decide ((codeP v zs) ≠ (0 : Int))) (@Eq (HO c_impl_NextBearoff.outs) ([], codeP v zs, ()) (c_impl_NextBearoff.out (v, zs, ()))) ((zs ≠ [] ∧ List.length zs ≤ 1099511627776) ∧ ((Bd zs) ∧ (bsp (decide ((List.sum zs) < v.2.1)) ((0 ≤ (0 : Int) ∧ 0 < (zs.length : Int)) ∧ ((0 < zs.length) ∧ ((inK .i64 ((zs.getD 0 0) + 1)) ∧ ((0 ≤ (0 : Int) ∧ 0 < (zs.length : Int)) ∧ ((0 < zs.length) ∧ (@Eq (HO c_impl_NextBearoff.outs) ((zs.set 0 ((zs.getD 0 0) + 1)), 0, ()) (c_impl_NextBearoff.out (v, zs, ())))))))) (((zs = zs ∧ ∀ j : Nat, j < Int.toNat (0 : Int) → List.getD zs j 0 = 0) ∧ (varD v = true ∧ bearD v zs = true) ∧ ¬ List.sum zs < v.2.1 ∧ 0 ≤ (0 : Int) ∧ (0 : Int) < (List.length zs : Int)) ∧ (∀ i : Int, ∀ p : List Int, ((p = zs ∧ ∀ j : Nat, j < Int.toNat i → List.getD zs j 0 = 0) ∧ (varD v = true ∧ bearD v zs = true) ∧ ¬ List.sum zs < v.2.1 ∧ 0 ≤ i ∧ i < (List.length zs : Int)) → ((0 ≤ i ∧ i < (p.length : Int)) ∧ ((i.toNat < p.length) ∧ (bsp (decide ((p.getD i.toNat 0) = (0 : Int))) ((inK .i64 (i + 1)) ∧ (((p = zs ∧ ∀ j : Nat, j < Int.toNat (i + 1) → List.getD zs j 0 = 0) ∧ (varD v = true ∧ bearD v zs = true) ∧ ¬ List.sum zs < v.2.1 ∧ 0 ≤ (i + 1) ∧ (i + 1) < (List.length zs : Int)) ∧ ((Int.toNat ((List.length zs : Int) - (i + 1)) : Nat) < Int.toNat ((List.length zs : Int) - i)))) ((inK .i64 (i + 1)) ∧ (bsp (decide ((i + 1) = (p.length : Int))) (@Eq (HO c_impl_NextBearoff.outs) ([], 4, ()) (c_impl_NextBearoff.out (v, zs, ()))) ((0 ≤ i ∧ i < (p.length : Int)) ∧ ((i.toNat < p.length) ∧ ((inK .i64 (i + 1)) ∧ ((0 ≤ (i + 1) ∧ (i + 1) < ((p.set i.toNat 0).length : Int)) ∧ (((i + 1).toNat < (p.set i.toNat 0).length) ∧ ((inK .i64 (((p.set i.toNat 0).getD (i + 1).toNat 0) + 1)) ∧ ((0 ≤ (i + 1) ∧ (i + 1) < ((p.set i.toNat 0).length : Int)) ∧ (((i + 1).toNat < (p.set i.toNat 0).length) ∧ (@Eq (HO c_impl_NextBearoff.outs) (((p.set i.toNat 0).set (i + 1).toNat (((p.set i.toNat 0).getD (i + 1).toNat 0) + 1)), 0, ()) (c_impl_NextBearoff.out (v, zs, ()))))))))))))))))))))))))) (by kernel_rfl) ?_
  rintro v zs hp hl
  have out : ∀ r : List Int × Int, nextP v zs = r → @Eq (HO c_impl_NextBearoff.outs) (r.1, r.2, ()) (c_impl_NextBearoff.out (v, zs, ())) := fun r h => by subst h; rfl
  have hD := nextP.eq_1 v zs
  refine ⟨trivial, bspD (fun h => out ([], _) (hD.trans (if_pos h))) (fun h => ?_)⟩
  obtain ⟨hv, hb⟩ := codeP_zeroX (Decidable.not_not.1 h)
  obtain ⟨⟨g1, g1'⟩, ⟨g2, g2'⟩, ⟨g3, g3'⟩, g4⟩ := varD_iff.1 hv
  obtain ⟨hBd, hH, hsum⟩ := bear_bd hv hb
  rw [if_neg h] at hD
  have hne : zs ≠ [] := fun e => by rw [e] at hH; simp at hH; omega
  have h0 := hBd.at 0
  refine ⟨⟨hne, hBd.1⟩, hBd, bspD (fun k => ?_) (fun k => ?_)⟩
  · exact ⟨⟨by omega, by omega⟩, by omega, by simp only [inK]; omega, ⟨by omega, by omega⟩, by omega, out (_, 0) (hD.trans (if_pos k))⟩
  rw [if_neg k] at hD
  refine ⟨⟨⟨rfl, fun j hj => by simp at hj⟩, ⟨hv, hb⟩, k, by omega, by omega⟩, ?_⟩
  rintro i p ⟨⟨hp, hz⟩, -, -, i0, i1⟩
  subst hp
  obtain ⟨q, rfl⟩ : ∃ q : Nat, i = q := ⟨i.toNat, by omega⟩
  simp only [Int.toNat_natCast, show ((q : Int) + 1).toNat = q + 1 by omega] at hz ⊢
  refine ⟨⟨by omega, by omega⟩, by omega, bspD (fun hc => ?_) (fun hc => ?_)⟩
  · obtain ⟨m, hm1, hm2⟩ := some_nonzero (zs := p) (by omega)
    have hall : ∀ j : Nat, j < q + 1 → p.getD j 0 = 0 := fun j hj => by
      by_cases e : j = q
      · subst e; exact hc
      · exact hz j (by omega)
    have hmq : q + 1 ≤ m := by
      rcases Nat.lt_or_ge m (q + 1) with g | g
      · exact absurd (hall m g) hm2
      · exact g
    exact ⟨by simp only [inK]; omega, ⟨⟨by trivial, hall⟩, ⟨hv, hb⟩, k, by omega, by omega⟩, by omega⟩
  · have hF : firstP p p.length 0 = q := by
      obtain ⟨f1, f2, f3⟩ := firstP_spec hc p.length 0 (by omega) (by omega) (fun j hj => by omega)
      rcases Nat.lt_or_ge (firstP p p.length 0) q with g | g
      · exact absurd (hz _ g) f2
      · omega
    rw [hF] at hD
    refine ⟨by simp only [inK]; omega, bspD (fun g => out ([], 4) (hD.trans (if_pos (by omega)))) (fun g => ?_)⟩
    rw [if_neg (by omega)] at hD
    have hg : (p.set q 0).getD (q + 1) 0 = p.getD (q + 1) 0 := by
      rw [List.getD_eq_getElem?_getD, List.getElem?_set_ne (by omega), List.getD_eq_getElem?_getD]
    have ha := hBd.at (q + 1)
    rw [hg, List.length_set]
    exact ⟨⟨by omega, by omega⟩, by omega, by simp only [inK]; omega, ⟨by omega, by omega⟩, by omega, by simp only [inK]; omega, ⟨by omega, by omega⟩, by omega, out (_, 0) hD⟩
end Go.Proofs.Ytghfpidpefdndaa
