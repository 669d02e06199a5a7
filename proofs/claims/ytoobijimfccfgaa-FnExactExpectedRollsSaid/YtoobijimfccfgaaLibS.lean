/-
  Contracts of the machine from contracts of other texts: functions of numbers, bools and strings; a function that is never reached.
-/
import Derived.Test.YtoobijimfccfgaaAbT
namespace Go.Proofs.Ytoobijimfccfgaa
open Go.RowKit

def flat1 : TC → Bool
  | .i _ => true
  | .b => true
  | .s => true
  | _ => false
def val1 : (t : TC) → t.D → Value
  | .i k, x => .int k x
  | .b, x => .bool x
  | .s, x => .string x
  | _, _ => .nilIface
theorem rep_flat {z : Prop} {O : Nat → Prop} {w : World} : ∀ {t : TC} (_ : flat1 t = true) {vs : List Value} {x : t.D}, Rep z O w t vs x ↔ vs = [val1 t x]
  | .i _, _, _, _ => by simp [Rep, val1]
  | .b, _, _, _ => by simp [Rep, val1]
  | .s, _, _, _ => by simp [Rep, val1]
theorem flat_n {t : TC} {x : t.D} (h : flat1 t = true) : ([val1 t x] : List Value).length = t.n := by
  cases t with
  | i k => rfl
  | b => rfl
  | s => rfl
  | sl t => cases h
  | pr t u => cases h
theorem valC_one {us : List Value} {v u : Value} (hv : ValC false us v) (h : us = [u]) : v = u := by
  rcases hv with ⟨h', _⟩ | ⟨_, h'⟩
  · cases h'
  · rw [h] at h'; simpa using h'.symm
theorem belowM_of {M : Nat → Prop} {w w' : World} (h : Below w.heap.size w w') : BelowM M w w' := ⟨h.os, h.tape, h.output, h.size, fun b hlt _ => h.block b hlt⟩
/-- a function that is never reached -/
theorem conFalse [B : Base] {P : Program} {f : Nat} {k : Con} (hf : ∃ fn c, P.funcs[f]? = some fn ∧ (fn.name == "runtime.NumGoroutine") = false ∧ fn.body = some c) (h : ∀ x, ¬ k.pre x) : ConOk P f k :=
  ⟨hf, fun _ _ _ _ x _ _ _ _ _ _ _ hp => absurd hp (h x)⟩
/-- one in, one out -/
theorem conF11 [B : Base] {P : Program} {f : Nat} {t1 r1 : TC} {pre : HI [(false, .v t1)] → Prop} {o : t1.D → r1.D} (h1 : flat1 t1 = true) (g1 : flat1 r1 = true)
    (hf : ∃ fn c, P.funcs[f]? = some fn ∧ (fn.name == "runtime.NumGoroutine") = false ∧ fn.body = some c)
    (h : ∀ (a : t1.D) (w : World), OldOk w → pre (a, ()) → Calls P f #[val1 t1 a] w fun e w' => e = .returned (val1 r1 (o a)) ∧ Below w.heap.size w w') :
    ConOk P f ⟨[(false, .v t1)], [(false, .v r1)], false, pre, fun x => (o x.1, ()), fun x => x, false⟩ := by
  refine ⟨hf, fun _ O w args x bs hold _ hO hO2 hbs hA hpre => ?_⟩
  obtain ⟨v, vs, b1, b2, rfl, rfl, _, ⟨us, hv, hb1, hr⟩, rfl, rfl⟩ := hA
  subst hb1
  have e1 := (rep_flat h1).1 hr
  obtain rfl := valC_one hv e1
  refine (h x.1 w hold hpre).mono ?_
  rintro e w' ⟨rfl, hb⟩
  refine ⟨[val1 r1 (o x.1)], [], rfl, ?_, ?_, belowM_of hb⟩
  · exact ⟨_, _, [], [], rfl, rfl, by simp, ⟨[_], .inr ⟨rfl, rfl⟩, rfl, (rep_flat g1).2 rfl⟩, rfl, rfl⟩
  · exact ⟨_, _, rfl, ⟨us, hv, by rw [e1]; exact flat_n h1, trivial⟩, trivial⟩
/-- two in, one out -/
theorem conF21 [B : Base] {P : Program} {f : Nat} {t1 t2 r1 : TC} {pre : HI [(false, .v t1), (false, .v t2)] → Prop} {o : t1.D → t2.D → r1.D} (h1 : flat1 t1 = true) (h2 : flat1 t2 = true) (g1 : flat1 r1 = true)
    (hf : ∃ fn c, P.funcs[f]? = some fn ∧ (fn.name == "runtime.NumGoroutine") = false ∧ fn.body = some c)
    (h : ∀ (a : t1.D) (b : t2.D) (w : World), OldOk w → pre (a, b, ()) → Calls P f #[val1 t1 a, val1 t2 b] w fun e w' => e = .returned (val1 r1 (o a b)) ∧ Below w.heap.size w w') :
    ConOk P f ⟨[(false, .v t1), (false, .v t2)], [(false, .v r1)], false, pre, fun x => (o x.1 x.2.1, ()), fun x => x, false⟩ := by
  refine ⟨hf, fun _ O w args x bs hold _ hO hO2 hbs hA hpre => ?_⟩
  obtain ⟨v, vs, b1, b2, rfl, rfl, _, ⟨us, hv, hb1, hr⟩, v', vs', b3, b4, rfl, rfl, _, ⟨us', hv', hb3, hr'⟩, rfl, rfl⟩ := hA
  subst hb1; subst hb3
  have e1 := (rep_flat h1).1 hr
  have e2 := (rep_flat h2).1 hr'
  obtain rfl := valC_one hv e1
  obtain rfl := valC_one hv' e2
  refine (h x.1 x.2.1 w hold hpre).mono ?_
  rintro e w' ⟨rfl, hb⟩
  refine ⟨[val1 r1 (o x.1 x.2.1)], [], rfl, ?_, ?_, belowM_of hb⟩
  · exact ⟨_, _, [], [], rfl, rfl, by simp, ⟨[_], .inr ⟨rfl, rfl⟩, rfl, (rep_flat g1).2 rfl⟩, rfl, rfl⟩
  · exact ⟨_, _, rfl, ⟨us, hv, by rw [e1]; exact flat_n h1, trivial⟩, _, _, rfl, ⟨us', hv', by rw [e2]; exact flat_n h2, trivial⟩, trivial⟩
/-- two in, two out -/
theorem conF22 [B : Base] {P : Program} {f : Nat} {t1 t2 r1 r2 : TC} {pre : HI [(false, .v t1), (false, .v t2)] → Prop} {o : t1.D → t2.D → r1.D × r2.D} (h1 : flat1 t1 = true) (h2 : flat1 t2 = true) (g1 : flat1 r1 = true) (g2 : flat1 r2 = true)
    (hf : ∃ fn c, P.funcs[f]? = some fn ∧ (fn.name == "runtime.NumGoroutine") = false ∧ fn.body = some c)
    (h : ∀ (a : t1.D) (b : t2.D) (w : World), OldOk w → pre (a, b, ()) → Calls P f #[val1 t1 a, val1 t2 b] w fun e w' => e = .returned (.tuple #[val1 r1 (o a b).1, val1 r2 (o a b).2]) ∧ Below w.heap.size w w') :
    ConOk P f ⟨[(false, .v t1), (false, .v t2)], [(false, .v r1), (false, .v r2)], false, pre, fun x => ((o x.1 x.2.1).1, (o x.1 x.2.1).2, ()), fun x => x, false⟩ := by
  refine ⟨hf, fun _ O w args x bs hold _ hO hO2 hbs hA hpre => ?_⟩
  obtain ⟨v, vs, b1, b2, rfl, rfl, _, ⟨us, hv, hb1, hr⟩, v', vs', b3, b4, rfl, rfl, _, ⟨us', hv', hb3, hr'⟩, rfl, rfl⟩ := hA
  subst hb1; subst hb3
  have e1 := (rep_flat h1).1 hr
  have e2 := (rep_flat h2).1 hr'
  obtain rfl := valC_one hv e1
  obtain rfl := valC_one hv' e2
  refine (h x.1 x.2.1 w hold hpre).mono ?_
  rintro e w' ⟨rfl, hb⟩
  refine ⟨[val1 r1 (o x.1 x.2.1).1, val1 r2 (o x.1 x.2.1).2], [], rfl, ?_, ?_, belowM_of hb⟩
  · exact ⟨_, _, [], [], rfl, rfl, by simp, ⟨[_], .inr ⟨rfl, rfl⟩, rfl, (rep_flat g1).2 rfl⟩, _, _, [], [], rfl, rfl, by simp, ⟨[_], .inr ⟨rfl, rfl⟩, rfl, (rep_flat g2).2 rfl⟩, rfl, rfl⟩
  · exact ⟨_, _, rfl, ⟨us, hv, by rw [e1]; exact flat_n h1, trivial⟩, _, _, rfl, ⟨us', hv', by rw [e2]; exact flat_n h2, trivial⟩, trivial⟩
/-- two in, three out -/
theorem conF23 [B : Base] {P : Program} {f : Nat} {t1 t2 r1 r2 r3 : TC} {pre : HI [(false, .v t1), (false, .v t2)] → Prop} {o : t1.D → t2.D → r1.D × r2.D × r3.D} (h1 : flat1 t1 = true) (h2 : flat1 t2 = true) (g1 : flat1 r1 = true) (g2 : flat1 r2 = true) (g3 : flat1 r3 = true)
    (hf : ∃ fn c, P.funcs[f]? = some fn ∧ (fn.name == "runtime.NumGoroutine") = false ∧ fn.body = some c)
    (h : ∀ (a : t1.D) (b : t2.D) (w : World), OldOk w → pre (a, b, ()) → Calls P f #[val1 t1 a, val1 t2 b] w fun e w' => e = .returned (.tuple #[val1 r1 (o a b).1, val1 r2 (o a b).2.1, val1 r3 (o a b).2.2]) ∧ Below w.heap.size w w') :
    ConOk P f ⟨[(false, .v t1), (false, .v t2)], [(false, .v r1), (false, .v r2), (false, .v r3)], false, pre, fun x => ((o x.1 x.2.1).1, (o x.1 x.2.1).2.1, (o x.1 x.2.1).2.2, ()), fun x => x, false⟩ := by
  refine ⟨hf, fun _ O w args x bs hold _ hO hO2 hbs hA hpre => ?_⟩
  obtain ⟨v, vs, b1, b2, rfl, rfl, _, ⟨us, hv, hb1, hr⟩, v', vs', b3, b4, rfl, rfl, _, ⟨us', hv', hb3, hr'⟩, rfl, rfl⟩ := hA
  subst hb1; subst hb3
  have e1 := (rep_flat h1).1 hr
  have e2 := (rep_flat h2).1 hr'
  obtain rfl := valC_one hv e1
  obtain rfl := valC_one hv' e2
  refine (h x.1 x.2.1 w hold hpre).mono ?_
  rintro e w' ⟨rfl, hb⟩
  refine ⟨[val1 r1 (o x.1 x.2.1).1, val1 r2 (o x.1 x.2.1).2.1, val1 r3 (o x.1 x.2.1).2.2], [], rfl, ?_, ?_, belowM_of hb⟩
  · exact ⟨_, _, [], [], rfl, rfl, by simp, ⟨[_], .inr ⟨rfl, rfl⟩, rfl, (rep_flat g1).2 rfl⟩, _, _, [], [], rfl, rfl, by simp, ⟨[_], .inr ⟨rfl, rfl⟩, rfl, (rep_flat g2).2 rfl⟩, _, _, [], [], rfl, rfl, by simp, ⟨[_], .inr ⟨rfl, rfl⟩, rfl, (rep_flat g3).2 rfl⟩, rfl, rfl⟩
  · exact ⟨_, _, rfl, ⟨us, hv, by rw [e1]; exact flat_n h1, trivial⟩, _, _, rfl, ⟨us', hv', by rw [e2]; exact flat_n h2, trivial⟩, trivial⟩
end Go.Proofs.Ytoobijimfccfgaa
