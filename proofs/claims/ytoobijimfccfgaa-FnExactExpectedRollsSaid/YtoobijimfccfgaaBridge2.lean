/-
  Contracts of the machine for Mul64 and Div64 of math/bits, from contracts of other texts.
-/
import Derived.Test.YtoobijimfccfgaaBridge
import Derived.Test.YtoobijimfccfgaaDG
namespace Go.Proofs.Ytoobijimfccfgaa
open Go.RowKit

/-- three numbers in, two numbers out -/
theorem con32 [B : Base] {P : Program} {f : Nat} {k1 k2 k3 r1 r2 : IntKind} {pre : HI [(false, .v (.i k1)), (false, .v (.i k2)), (false, .v (.i k3))] → Prop} {o : Int → Int → Int → Int × Int}
    (hf : ∃ fn c, P.funcs[f]? = some fn ∧ (fn.name == "runtime.NumGoroutine") = false ∧ fn.body = some c)
    (h : ∀ (a b d : Int) (w : World), pre (a, b, d, ()) → Calls P f #[.int k1 a, .int k2 b, .int k3 d] w fun e w' => e = .returned (.tuple #[.int r1 (o a b d).1, .int r2 (o a b d).2]) ∧ Below w.heap.size w w') :
    ConOk P f ⟨[(false, .v (.i k1)), (false, .v (.i k2)), (false, .v (.i k3))], [(false, .v (.i r1)), (false, .v (.i r2))], false, pre, fun x => ((o x.1 x.2.1 x.2.2.1).1, (o x.1 x.2.1 x.2.2.1).2, ()), fun x => x, false⟩ := by
  refine ⟨hf, fun _ O w args x bs _ _ hO hO2 hbs hA hpre => ?_⟩
  obtain ⟨v, vs, b1, b2, rfl, rfl, _, ⟨us, hv, hb1, hr⟩, v', vs', b3, b4, rfl, rfl, _, ⟨us', hv', hb3, hr'⟩, v'', vs'', b5, b6, rfl, rfl, _, ⟨us'', hv'', hb5, hr''⟩, rfl, rfl⟩ := hA
  subst hb1; subst hb3; subst hb5
  simp only [Rep] at hr hr' hr''
  subst hr; subst hr'; subst hr''
  have e1 : v = .int k1 x.1 := by
    rcases hv with ⟨h, _⟩ | ⟨_, h⟩
    · cases h
    · simpa using h.symm
  have e2 : v' = .int k2 x.2.1 := by
    rcases hv' with ⟨h, _⟩ | ⟨_, h⟩
    · cases h
    · simpa using h.symm
  have e3 : v'' = .int k3 x.2.2.1 := by
    rcases hv'' with ⟨h, _⟩ | ⟨_, h⟩
    · cases h
    · simpa using h.symm
  subst e1; subst e2; subst e3
  refine (h x.1 x.2.1 x.2.2.1 w hpre).mono ?_
  rintro e w' ⟨rfl, hb⟩
  refine ⟨[.int r1 (o x.1 x.2.1 x.2.2.1).1, .int r2 (o x.1 x.2.1 x.2.2.1).2], [], rfl, ?_, ?_, ?_⟩
  · exact ⟨_, _, [], [], rfl, rfl, by simp, ⟨[_], .inr ⟨rfl, rfl⟩, rfl, rfl⟩, _, _, [], [], rfl, rfl, by simp, ⟨[_], .inr ⟨rfl, rfl⟩, rfl, rfl⟩, rfl, rfl⟩
  · exact ⟨_, _, rfl, ⟨[_], .inr ⟨rfl, rfl⟩, rfl, trivial⟩, _, _, rfl, ⟨[_], .inr ⟨rfl, rfl⟩, rfl, trivial⟩, _, _, rfl, ⟨[_], .inr ⟨rfl, rfl⟩, rfl, trivial⟩, trivial⟩
  · exact ⟨hb.os, hb.tape, hb.output, hb.size, fun b hlt _ => hb.block b hlt⟩
end Go.Proofs.Ytoobijimfccfgaa
