/-
  The abstract machine, part 7: structs by value, slices.
-/
import Derived.Test.YtghfpidpefdndaaAb6
import Derived.Laws.Tables
import Derived.Laws.MakeOwn
import Derived.Maps.AppendAt
namespace Go.Proofs.Ytghfpidpefdndaa
open Go.RowKit

theorem foldl_set (off : Nat) : ∀ (vs : List Value) (s : Nat) (cells : Array Value), off + s + vs.length ≤ cells.size →
    ((vs.zipIdx s).foldl (fun cs (x : Value × Nat) => cs.setIfInBounds (off + x.2) x.1) cells).toList = upd cells.toList (off + s) vs
  | [], s, cells, _ => by simp [upd]
  | v :: vs, s, cells, h => by
    simp only [List.zipIdx_cons, List.foldl_cons]
    simp only [List.length_cons] at h
    rw [foldl_set off vs (s + 1) _ (by simp; omega)]
    apply List.ext_getElem?
    intro q
    rw [upd_get (by simp; omega), upd_get (by simp; omega)]
    simp only [Array.toList_setIfInBounds, List.length_cons]
    by_cases h1 : q = off + s
    · subst h1
      rw [if_neg (by omega), if_pos (by omega)]
      have : off + s < cells.size := by omega
      simp [this]
    · by_cases h2 : off + s ≤ q ∧ q < off + s + (vs.length + 1)
      · rw [if_pos (by omega), if_pos h2]
        obtain ⟨d, hd⟩ : ∃ d, q = off + s + 1 + d := ⟨q - (off + s + 1), by omega⟩
        subst hd
        rw [show off + s + 1 + d - (off + (s + 1)) = d by omega, show off + s + 1 + d - (off + s) = d + 1 by omega]
        rfl
      · rw [if_neg (by omega), if_neg h2, List.getElem?_set_ne (by omega)]
theorem foldl_upd {vs cells : Array Value} {off : Nat} (h : off + vs.size ≤ cells.size) : (vs.zipIdx.foldl (fun cs (x : Value × Nat) => cs.setIfInBounds (off + x.2) x.1) cells).toList = upd cells.toList off vs.toList := by
  have := foldl_set off vs.toList 0 cells (by simpa using h)
  rw [← Array.foldl_toList, Array.toList_zipIdx]
  simpa using this

/-- parts laid into cells -/
def afill (S : St) (place : Nat → Option (Nat × Nat)) (l : List A1) : List (Nat × Operand) → Option (List A1)
  | [] => some l
  | (i, x) :: rest => match place i, (av S x).bind avc with
    | some (off, size), some m => (bif nb m.length size && (nle (off + size) l.length && m.all ok1) then afill S place (upd l off m) rest else none)
    | _, _ => none
theorem afill_ok {c : Cx} {N O1 : Nat → Prop} {ρ : Env} {S : St} {a : Act} {w : World} (h : Conc c N O1 ρ S a w) (place : Nat → Option (Nat × Nat)) : ∀ (parts : List (Nat × Operand)) (l l' : List A1) (cells : Array Value),
    DenL ρ l cells.toList → afill S place l parts = some l' → ∃ cells', Instr.fill place cells (parts.map fun p => (p.1, a.eval p.2)) = some cells' ∧ DenL ρ l' cells'.toList
  | [], l, l', cells, hd, hf => by simp only [afill, Option.some.injEq] at hf; subst hf; exact ⟨cells, rfl, hd⟩
  | (i, x) :: rest, l, l', cells, hd, hf => by
    simp only [afill] at hf
    split at hf
    · next off size m hp hm =>
      cases hb : nb m.length size && (nle (off + size) l.length && m.all ok1) with
      | false => rw [hb] at hf; cases hf
      | true =>
        rw [hb] at hf
        simp only [cond_true] at hf
        simp only [Bool.and_eq_true] at hb
        have h1 := eq_of_nb hb.1
        have h2 := le_of_nle hb.2.1
        obtain ⟨y, hy, hym⟩ := Option.bind_eq_some_iff.1 hm
        obtain ⟨us, hdu, hus, _⟩ := avc_ok h.one hym hb.2.2 (av_ok h hy)
        have hsz : (a.eval x).cells.size = size := by
          have := hdu.len
          rw [← hus] at this
          simpa [h1] using this
        have hcl := hd.len
        have hle : ¬ (off + (a.eval x).cells.size > cells.size) := by
          have : cells.toList.length = cells.size := Array.length_toList
          omega
        have hfold := foldl_upd (vs := (a.eval x).cells) (cells := cells) (off := off) (by omega)
        rw [hus] at hfold
        have := afill_ok h place rest (upd l off m) l' _ (by rw [hfold]; exact hd.upd off hdu) hf
        obtain ⟨cells', hc1, hc2⟩ := this
        refine ⟨cells', ?_, hc2⟩
        simp only [List.map_cons, Instr.fill, hp]
        rw [if_neg (by simp [hsz]; omega)]
        exact hc1
    · cases hf

def placeOf (ti : TI) (i : Nat) : Option (Nat × Nat) := (fieldOf ti i).map fun p => (p.1, p.2.1)
def aBuild (C : Ctx) (S : St) (t : TypeId) (parts : Array (Nat × Operand)) (K : Dl → Prop) : Prop :=
  match look t C.ty with
  | some ti => (bif isSt ti then (match afill S (placeOf ti) (ti.z.map A1.con) parts.toList with | some l => K ⟨.agg l, []⟩ | none => False) else False)
  | none => False
theorem aBuild_ok {C : Ctx} {c : Cx} (hC : CtxOk C c) {S : St} {i0 : Nat} {o : Oper} {t : TypeId} {parts : Array (Nat × Operand)} {K : Dl → Prop} (ho : o.op = .build t parts) (h : aBuild C S t parts K) : ∃ δ, OpOk c S i0 o δ ∧ K δ := by
  unfold aBuild at h
  split at h
  · next ti hti =>
    cases hs : isSt ti with
    | false => rw [hs] at h; exact h.elim
    | true =>
      rw [hs] at h
      simp only [cond_true] at h
      split at h
      · next l hl =>
        have hP := hC.ty t ti hti
        rw [← hC.P] at hP
        refine ⟨_, ok_pure fun N O1 ρ a w hc => ?_, h⟩
        unfold isSt at hs
        split at hs
        · next fs hk =>
          obtain ⟨gs, hu, hm⟩ := hP.st hk
          have hz : ti.zv = .agg ti.z.toArray := by unfold TI.zv; rw [hk]
          obtain ⟨cells, h1, h2⟩ := afill_ok hc (placeOf ti) parts.toList (ti.z.map A1.con) l ti.z.toArray (conl_den _ _) hl
          refine ⟨.agg cells, ⟨cells.toList, h2, by simp⟩, ?_⟩
          have hpl : (fun i => (fs.map fun p => (p.1, p.2.1))[i]?) = placeOf ti := by
            funext i
            simp [placeOf, fieldOf, hk]
          have hrt := run_trips (P := c.P) w hm
          have hfill : Instr.fill (fun x => (fs.map fun p => (p.1, p.2.1))[x]?) ti.z.toArray (parts.toList.map fun p => (p.1, a.eval p.2)) = some cells := by rw [hpl]; exact h1
          simp [execOp, ho, Instr.build, hP.zero, hz, Value.cells, run_underlying hu, Array.mapM_eq_mapM_toList, hrt]
          simp only [List.getElem?_map] at hfill
          simp [hfill]
        · cases hs
      · exact h.elim
  · exact h.elim

def byteAt (s : ByteArray) (z : Int) : Int := ((s.data.toList.getD z.toNat 0).toNat : Int)
def aIdx (C : Ctx) (S : St) (t : TypeId) (x y : Operand) (K : Dl → Prop) : Prop :=
  match look t C.ty, cv S x, cv S y with
  | some ⟨.str, _, _⟩, some (.string s), some (.int _ z) => (0 ≤ z ∧ z < s.size) ∧ K1 K (.int .u8 (byteAt s z))
  | _, _, _ => False
theorem aIdx_ok {C : Ctx} {c : Cx} (hC : CtxOk C c) {S : St} {i0 : Nat} {o : Oper} {t : TypeId} {x y : Operand} {K : Dl → Prop} (ho : o.op = .index t x y) (h : aIdx C S t x y K) : ∃ δ, OpOk c S i0 o δ ∧ K δ := by
  unfold aIdx at h
  split at h
  · next zz tc s k z ht hx hy =>
    have hP := (hC.ty t _ ht).fits
    rw [← hC.P] at hP
    simp only [TK.fits] at hP
    refine ⟨_, ok_con fun N O1 ρ a w hc => ?_, h.2⟩
    have hz : 0 ≤ z ∧ z < s.size := h.1
    have e : byteAt s z = ((s[z.toNat]'(by omega)).toNat : Int) := by
      have hlt : z.toNat < s.data.toList.length := by
        have : s.data.toList.length = s.size := by rw [Array.length_toList]; rfl
        omega
      simp only [byteAt, List.getD, List.getElem?_eq_getElem hlt, Option.getD_some]
      rfl
    have hr := run_index_string (P := c.P) w t s k z hP
    rw [dif_pos hz] at hr
    rw [e]
    simp only [execOp, ho, cv_ok hc hx, cv_ok hc hy, Sem.run_bind, hr]
    rfl
  · exact h.elim
end Go.Proofs.Ytghfpidpefdndaa
