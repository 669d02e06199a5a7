/-
  The contract of strings.Split for the machine.
-/
import Derived.Test.YtmklkigppmgigaaGreatDoorLibR
import Derived.Test.YtmklkigppmgigaaGreatDoorPSpl
import Derived.Lib.SplitLaws
namespace Go.Proofs.YtmklkigppmgigaaGreatDoor
open Go.RowKit

def splitD (s p : ByteArray) : List ByteArray := Lib.splitB p 0 (Lib.countB s p) s
theorem splitD_len {s p : ByteArray} (h : 1 ≤ p.size) : (splitD s p).length = Lib.countB s p + 1 := Lib.splitB_all p h 0 _ s rfl
theorem conSplit [B : Base] {P : Program} {f : Nat} {T : TypeId} {pre : HI [(false, .v .s), (false, .v .s)] → Prop} (hp : ∀ s p, pre (s, p, ()) → s.size ≤ 1048576 ∧ 1 ≤ p.size)
    (hf : ∃ fn c, P.funcs[f]? = some fn ∧ (fn.name == "runtime.NumGoroutine") = false ∧ fn.body = some c)
    (h : ∀ (s p : ByteArray) (w : World), OldOk w → s.size ≤ 1048576 → 1 ≤ p.size → Calls P f #[.string s, .string p] w fun e w' =>
      e = .returned (.slice (some ⟨w.heap.size, 0, none⟩) (Lib.countB s p + 1) (Lib.countB s p + 1)) ∧ w' = w.alloc (.cells ((splitD s p).map Value.string).toArray T)) :
    ConOk P f ⟨[(false, .v .s), (false, .v .s)], [(false, .v (.sl .s))], false, pre, fun x => (splitD x.1 x.2.1, ()), fun x => x⟩ := by
  refine ⟨hf, fun O w args x bs hold _ hO hO2 hbs hA hpre => ?_⟩
  obtain ⟨v, vs, b1, b2, rfl, rfl, _, ⟨us, hv, hb1, hr⟩, v', vs', b3, b4, rfl, rfl, _, ⟨us', hv', hb3, hr'⟩, rfl, rfl⟩ := hA
  subst hb1; subst hb3
  have e1 := (rep_flat (t := .s) rfl).1 hr
  have e2 := (rep_flat (t := .s) rfl).1 hr'
  obtain rfl := valC_one hv e1
  obtain rfl := valC_one hv' e2
  obtain ⟨h1, h2⟩ := hp x.1 x.2.1 hpre
  have hlen := splitD_len (s := x.1) h2
  have hle := Lib.countB_le x.2.1 h2 x.1.size x.1 (Nat.le_refl _)
  refine (h x.1 x.2.1 w hold h1 h2).mono ?_
  rintro e w' ⟨rfl, rfl⟩
  refine ⟨[.slice (some ⟨w.heap.size, 0, none⟩) (Lib.countB x.1 x.2.1 + 1) (Lib.countB x.1 x.2.1 + 1)], [], rfl, ?_, ?_, belowM_of (xAlloc (Below.refl _ _) _)⟩
  · refine ⟨_, _, [], [], rfl, rfl, by simp, ⟨[_], .inr ⟨rfl, rfl⟩, rfl, ?_⟩, rfl, rfl⟩
    simp only [Rep]
    refine ⟨some ⟨w.heap.size, 0, none⟩, Lib.countB x.1 x.2.1 + 1, by rw [hlen], by rw [hlen]; exact Nat.le_refl _, ?_, fun h => (by cases h), .inr ⟨w.heap.size, 0, rfl, ?_, fun i y hy => ?_⟩⟩
    · rw [hlen]
      have : LB = 9223372036854775807 := rfl
      omega
    · rintro (h | h)
      · exact Nat.lt_irrefl _ (hO _ h)
      · cases h
    · refine ⟨[.string y], rfl, fun j v hj => ?_, rfl⟩
      obtain rfl : j = 0 := by
        rcases j with _ | j
        · rfl
        · simp at hj
      have hv : Value.string y = v := by simpa using hj
      subst hv
      rw [show (0 : Nat) + i * TC.s.n + 0 = i by simp [TC.n], World.cell?_alloc_new]
      have : ((splitD x.1 x.2.1).map Value.string)[i]? = some (.string y) := by rw [List.getElem?_map, hy]; rfl
      simpa using this
  · exact ⟨_, _, rfl, ⟨us, hv, by rw [e1]; rfl, trivial⟩, _, _, rfl, ⟨us', hv', by rw [e2]; rfl, trivial⟩, trivial⟩
theorem splitD_one {s : ByteArray} {c : UInt8} : (splitD s ⟨#[c]⟩).map (·.data.toList) = spl c s.data.toList := by
  unfold splitD
  rw [Lib.splitB_data]
  refine splitK_spl (Nat.le_of_eq ?_)
  exact (Lib.count_one c _).symm
end Go.Proofs.YtmklkigppmgigaaGreatDoor
