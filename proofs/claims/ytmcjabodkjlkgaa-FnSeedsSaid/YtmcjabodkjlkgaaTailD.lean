/-
  As TailB, the region begun in a world above the base: what was made after the base counts as new.
-/
import Derived.Test.YtmcjabodkjlkgaaTailC
namespace Go.Proofs.Ytmcjabodkjlkgaa
open Go.RowKit

theorem wp_region_othB {P : Program} {id : Nat} {Q : Exit → Act → World → Prop} {a : Act} {w wr : World} {l : List Oper} (hbw : Below w.heap.size w wr) (m : List Bool) (sp : List Nat) (hm : P.follows .mixedOrders = true) (hB : othB2 .any l m sp = true)
    (h : wpRel P l.toArray w (fun z => wpOth P l.toArray w Q sp z wr) (sift l m) a) : (Code.region id l.toArray true).wp P Q a wr := by
  simp only [othB2, Bool.and_eq_true, decide_eq_true_eq, List.all_eq_true] at hB
  obtain ⟨⟨⟨⟨⟨hsel, hpair, hnd0⟩, hlt⟩, hcnt⟩, hfar⟩, hlex⟩ := hB
  have hpw := chainedB_spec sp hpair
  have hnd := nodupB_spec sp hnd0
  have nosel := Region.noSelect_spec hsel
  have inl : ∀ j oj, l.toArray[j]? = some oj → j ∈ List.range l.length := fun j oj hj => List.mem_range.2 (by simpa using (Array.getElem?_eq_some_iff.1 hj).1)
  refine wp_region_any hm ?_
  obtain ⟨z, hz, hr⟩ := wpRel_end _ _ h
  have H := wpAnyR_lex (md := .any) hsel l m 0 (mark sp (Array.replicate l.length false)) a (by simp) hlex hr
  have key := wpAny_oth2 (md := .any) (P := P) (w := w) (Q := Q) (z := z) (sp := sp) nosel (fun j oj hj e he hb => ?_) (fun s hs os hos j oj hj hjs => ?_) l.length sp (sift l m).length (Array.replicate l.length false) a (fun a => a)
    { wr with drawn := wr.drawn + 1 } hcnt.symm (fun s hs => ⟨hs, getD_in (by simpa using hlt s hs) (getD_replicate_false _ _)⟩) (fun j hj _ => hj) hpw hnd (by simp) (fun _ _ _ _ _ => ⟨rfl, rfl, fun _ => rfl⟩) hbw.drew
    (wpOth_grow hz (Below.refl _ _).drew) H
  · simpa using key
  · have := hfar j (inl j oj hj)
    simp only [hj, Bool.and_eq_true] at this
    have := Array.all_eq_true_iff_forall_mem.1 this.1 e he
    simp only [hb, Bool.not_true, Bool.false_or, decide_eq_true_eq] at this
    exact this
  · have := hfar j (inl j oj hj)
    simp only [hj, Bool.and_eq_true, Bool.or_eq_true, List.contains_iff_mem, List.all_eq_true] at this
    have := this.2.resolve_left hjs s hs
    simp only [hos, farB, Bool.and_eq_true, Bool.or_eq_true] at this
    obtain ⟨f1, f2⟩ := this
    refine ⟨fun d hd => ?_, fun d hd => ?_, f2.imp waitsB_spec fun f3 d hd => ?_⟩
    · simp only [hd, Bool.and_eq_true] at f1; simpa using f1.1
    · simp only [hd, Bool.and_eq_true] at f1; simpa using f1.2
    · simp only [hd] at f3; simpa using f3
end Go.Proofs.Ytmcjabodkjlkgaa
