/-
  The contract of strings.Join for the machine.
-/
import Derived.Test.YtmklkigppmgigaaGreatDoorLibS
import Derived.Test.YtmklkigppmgigaaGreatDoorSh
import Derived.Lib.Join
namespace Go.Proofs.YtmklkigppmgigaaGreatDoor
open Go.RowKit

def joinS (xs : List ByteArray) (sep : ByteArray) : ByteArray := ⟨(Lib.join (xs.map (·.data.toList)) sep.data.toList).toArray⟩
theorem conJoin [B : Base] {P : Program} {f : Nat} {pre : HI [(false, .v (.sl .s)), (false, .v .s)] → Prop} (hp : ∀ xs s, pre (xs, s, ()) → (joinS xs s).size ≤ 140737488355328 ∧ xs.length ≤ 140737488355328)
    (hf : ∃ fn c, P.funcs[f]? = some fn ∧ (fn.name == "runtime.NumGoroutine") = false ∧ fn.body = some c)
    (h0 : ∀ (a : Option Addr) (c : Nat) (sep : ByteArray) (w : World), Calls P f #[.slice a 0 c, .string sep] w fun e w' => e = .returned (.string ⟨#[]⟩) ∧ w' = w)
    (h1 : ∀ (bk o c : Nat) (xs : List ByteArray) (sep : ByteArray) (w : World) (_ : ∀ (j : Nat) x, xs[j]? = some x → w.cell? ⟨bk, o + j, none⟩ = some (.string x)) (_ : bk < w.heap.size) (_ : xs.length ≤ 140737488355328) (_ : xs.length ≤ c) (_ : (Lib.join (xs.map (·.data.toList)) sep.data.toList).length ≤ 140737488355328),
      Calls P f #[.slice (some ⟨bk, o, none⟩) xs.length c, .string sep] w fun e w' => e = .returned (.string ⟨(Lib.join (xs.map (·.data.toList)) sep.data.toList).toArray⟩) ∧ Below w.heap.size w w') :
    ConOk P f ⟨[(false, .v (.sl .s)), (false, .v .s)], [(false, .v .s)], false, pre, fun x => (joinS x.1 x.2.1, ()), fun x => x⟩ := by
  refine ⟨hf, fun O w args x bs hold _ hO hO2 hbs hA hpre => ?_⟩
  obtain ⟨v, vs, b1, b2, rfl, rfl, _, ⟨us, hv, hb1, hr⟩, v', vs', b3, b4, rfl, rfl, _, ⟨us', hv', hb3, hr'⟩, rfl, rfl⟩ := hA
  subst hb1; subst hb3
  have e2 : us' = [.string x.2.1] := (rep_flat (t := .s) rfl).1 hr'
  obtain rfl := valC_one hv' e2
  have hl := hp x.1 x.2.1 hpre
  obtain ⟨a, cap, rfl, hcap, _, _, hx⟩ := hr
  obtain rfl := valC_one hv rfl
  have fin : Calls P f [Value.slice a x.1.length cap, .string x.2.1].toArray w fun e w' => e = .returned (.string (joinS x.1 x.2.1)) ∧ Below w.heap.size w w' := by
    rcases hx with h | ⟨b, off, rfl, _, hc⟩
    · rw [h]
      exact (h0 a cap x.2.1 w).mono fun e w' ⟨he, hw⟩ => ⟨he, hw ▸ Below.refl _ _⟩
    · by_cases hne : x.1 = []
      · rw [hne]
        exact (h0 _ cap x.2.1 w).mono fun e w' ⟨he, hw⟩ => ⟨he, hw ▸ Below.refl _ _⟩
      · have hcell : ∀ (j : Nat) y, x.1[j]? = some y → w.cell? ⟨b, off + j, none⟩ = some (.string y) := fun j y hj => by
          obtain ⟨us, hlen, hcells, hry⟩ := hc j y hj
          simp only [Rep] at hry
          subst hry
          have := hcells 0 _ rfl
          simpa [TC.n] using this
        obtain ⟨y, ys, hy⟩ := List.exists_cons_of_ne_nil hne
        have hlt := cell_lt (hcell 0 y (by rw [hy]; rfl))
        refine h1 b off cap x.1 x.2.1 w hcell hlt hl.2 hcap ?_
        have := hl.1
        simpa [joinS, ByteArray.size] using this
  refine fin.mono ?_
  rintro e w' ⟨rfl, hb⟩
  refine ⟨[.string (joinS x.1 x.2.1)], [], rfl, ?_, ?_, belowM_of hb⟩
  · exact ⟨_, _, [], [], rfl, rfl, by simp, ⟨[_], .inr ⟨rfl, rfl⟩, rfl, by simp only [Rep]⟩, rfl, rfl⟩
  · exact ⟨_, _, rfl, ⟨_, hv, rfl, trivial⟩, _, _, rfl, ⟨us', hv', by rw [e2]; rfl, trivial⟩, trivial⟩
end Go.Proofs.YtmklkigppmgigaaGreatDoor
