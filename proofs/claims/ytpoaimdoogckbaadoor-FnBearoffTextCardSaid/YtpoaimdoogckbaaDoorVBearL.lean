/-
  The law FnBearoffText.
-/
import Derived.Test.YtpoaimdoogckbaaDoorVReadB
import Derived.Test.YtpoaimdoogckbaaDoorVBearD
namespace Go.Proofs.YtpoaimdoogckbaaDoor
open Go.RowKit
set_option linter.unusedSimpArgs false
set_option linter.unusedVariables false
noncomputable section
def c_laws_FnBearoffText : Con where
  ins := [(false, .v (.sl (.i .u8)))]
  outs := [(false, .v .b)]
  sh := false
  pre := fun x => wfD (TC.sl (.i .u8)) x.1
  out := fun _ => (true, ())
  upd := fun x => x
theorem k_laws_FnBearoffText [B : Base] : ConOk Tryd.prog 3 c_laws_FnBearoffText := by
  refine fn_okW (C := cx Tryd.prog 38 c_laws_FnBearoffText) (cs := [(4, c_laws_big), (5, c_spec_DrawBearoffText), (6, c_impl_BearoffText), (7, c_spec_IsBearoff), (8, c_impl_ReadBearoff), (9, c_laws_likeInts)]) (res := Tryd.f3.results.toList) (fun _ => ⟨[], [(4, ⟨[[], [], [], [1, 2], [0, 1, 2, 3], [0, 1, 2, 3, 4]], [[1, 2, 3], [0, 2], [0, 1], [0], [], []], []⟩)], []⟩) Tryd.func3 (by kernel_rfl) rfl rfl rfl tysOk.look eqTsOk.look (AllCs.ok (l := [(4, c_laws_big), (5, c_spec_DrawBearoffText), (6, c_impl_BearoffText), (7, c_spec_IsBearoff), (8, c_impl_ReadBearoff), (9, c_laws_likeInts)]) ⟨k_laws_big, k_spec_DrawBearoffText, k_impl_BearoffText, k_spec_IsBearoff, k_impl_ReadBearoff, k_laws_likeInts, trivial⟩) mixed rfl rfl rfl ?_
  refine of_nf (P := ∀ c : List Int, (wfD (TC.sl (.i .u8)) c) → ((lensI c_laws_FnBearoffText.ins (c, ())) → (True ∧ (bsp (decide (4096 < (List.length c : Int))) (@Eq (HO c_laws_FnBearoffText.outs) (true, ()) (c_laws_FnBearoffText.out (c, ()))) ((okC c) ∧ ((([] : List Int).length + (drawBear c).2.length ≤ AB) ∧ (True ∧ (True ∧ (bsp (!(varD (drawBear c).1 && bearD (drawBear c).1 (drawBear c).2)) (@Eq (HO c_laws_FnBearoffText.outs) ((decide (bearS (drawBear c).1 (([] : List Int) ++ (drawBear c).2) = (ByteArray.mk #[]))), ()) (c_laws_FnBearoffText.out (c, ()))) ((((bearS (drawBear c).1 (([] : List Int) ++ (drawBear c).2))).size ≤ 1048576) ∧ (bsp (readB (drawBear c).1 (bearS (drawBear c).1 (([] : List Int) ++ (drawBear c).2))).2 (True ∧ (@Eq (HO c_laws_FnBearoffText.outs) (decide ((readB (drawBear c).1 (bearS (drawBear c).1 (([] : List Int) ++ (drawBear c).2))).1 = (drawBear c).2), ()) (c_laws_FnBearoffText.out (c, ())))) (@Eq (HO c_laws_FnBearoffText.outs) (false, ()) (c_laws_FnBearoffText.out (c, ())))))))))))))) (by kernel_rfl) ?_
  rintro c hw hl
  have out : ∀ r, r = true → @Eq (HO c_laws_FnBearoffText.outs) (r, ()) (c_laws_FnBearoffText.out (c, ())) := fun r h => by subst h; rfl
  refine ⟨trivial, bspD (fun _ => rfl) (fun hbig => ?_)⟩
  have hc := okC_ofN hw hbig
  have hlen : (drawBear c).2.length ≤ 25 := by
    obtain ⟨a1, -, a3⟩ := drawBig_ok (fromD_ok hc)
    exact (drawPos_ok a1 a3).2.2
  simp only [List.nil_append, List.length_nil]
  have ab : AB = 1099511627776 := rfl
  refine ⟨hc, by omega, trivial, trivial, bspB (fun hb => out _ ?_) (fun hb => ?_)⟩
  · have hb' : (varD (drawBear c).1 && bearD (drawBear c).1 (drawBear c).2) = false := by revert hb; cases varD (drawBear c).1 && bearD (drawBear c).1 (drawBear c).2 <;> simp
    refine decide_eq_true ?_
    show bearS _ _ = nilB
    unfold bearS
    exact if_neg (by rw [hb']; decide)
  · have hb' : (varD (drawBear c).1 && bearD (drawBear c).1 (drawBear c).2) = true := by revert hb; cases varD (drawBear c).1 && bearD (drawBear c).1 (drawBear c).2 <;> simp
    have hT : BearT (drawBear c).1 (bearS (drawBear c).1 (drawBear c).2) (drawBear c).2 := ⟨hb', rfl⟩
    have hs := (bearT_facts hT).2.2.2.2.2.1
    have hr := readB_yes hT
    have h1 : (readB (drawBear c).1 (bearS (drawBear c).1 (drawBear c).2)).1 = (drawBear c).2 := by rw [hr]
    have h2 : (readB (drawBear c).1 (bearS (drawBear c).1 (drawBear c).2)).2 = true := by rw [hr]
    exact ⟨by omega, bspB (fun _ => ⟨trivial, out _ (decide_eq_true h1)⟩) (fun h => by rw [h2] at h; cases h)⟩
end
end Go.Proofs.YtpoaimdoogckbaaDoor
