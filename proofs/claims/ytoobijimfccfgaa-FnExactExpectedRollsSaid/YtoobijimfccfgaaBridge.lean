/-
  Contracts of the machine from contracts of other texts: functions of numbers alone.
-/
import Derived.Test.YtoobijimfccfgaaAbT
namespace Go.Proofs.Ytoobijimfccfgaa
open Go.RowKit

/-- two numbers in, two numbers out, no memory -/
theorem con22 [B : Base] {P : Program} {f : Nat} {k1 k2 r1 r2 : IntKind} {pre : HI [(false, .v (.i k1)), (false, .v (.i k2))] → Prop} {o : Int → Int → Int × Int}
    (hf : ∃ fn c, P.funcs[f]? = some fn ∧ (fn.name == "runtime.NumGoroutine") = false ∧ fn.body = some c)
    (h : ∀ (a b : Int) (w : World), pre (a, b, ()) → Calls P f #[.int k1 a, .int k2 b] w fun e w' => e = .returned (.tuple #[.int r1 (o a b).1, .int r2 (o a b).2]) ∧ w' = w) :
    ConOk P f ⟨[(false, .v (.i k1)), (false, .v (.i k2))], [(false, .v (.i r1)), (false, .v (.i r2))], false, pre, fun x => ((o x.1 x.2.1).1, (o x.1 x.2.1).2, ()), fun x => x, false⟩ := by
  refine ⟨hf, fun _ O w args x bs _ _ hO hO2 hbs hA hpre => ?_⟩
  obtain ⟨v, vs, b1, b2, rfl, rfl, _, ⟨us, hv, hb1, hr⟩, v', vs', b3, b4, rfl, rfl, _, ⟨us', hv', hb3, hr'⟩, rfl, rfl⟩ := hA
  subst hb1; subst hb3
  simp only [Rep] at hr hr'
  subst hr; subst hr'
  have e1 : v = .int k1 x.1 := by
    rcases hv with ⟨h, _⟩ | ⟨_, h⟩
    · cases h
    · simpa using h.symm
  have e2 : v' = .int k2 x.2.1 := by
    rcases hv' with ⟨h, _⟩ | ⟨_, h⟩
    · cases h
    · simpa using h.symm
  subst e1; subst e2
  refine (h x.1 x.2.1 w hpre).mono ?_
  rintro e w' ⟨rfl, rfl⟩
  refine ⟨[.int r1 (o x.1 x.2.1).1, .int r2 (o x.1 x.2.1).2], [], rfl, ?_, ?_, ?_⟩
  · exact ⟨_, _, [], [], rfl, rfl, by simp, ⟨[_], .inr ⟨rfl, rfl⟩, rfl, rfl⟩, _, _, [], [], rfl, rfl, by simp, ⟨[_], .inr ⟨rfl, rfl⟩, rfl, rfl⟩, rfl, rfl⟩
  · exact ⟨_, _, rfl, ⟨[_], .inr ⟨rfl, rfl⟩, rfl, trivial⟩, _, _, rfl, ⟨[_], .inr ⟨rfl, rfl⟩, rfl, trivial⟩, trivial⟩
  · exact BelowM.refl _ _
end Go.Proofs.Ytoobijimfccfgaa
