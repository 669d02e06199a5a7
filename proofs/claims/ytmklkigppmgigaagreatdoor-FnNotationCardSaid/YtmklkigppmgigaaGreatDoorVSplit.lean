/-
  Contracts: texts split.
-/
import Derived.Test.YtmklkigppmgigaaGreatDoorVReadN
import Derived.Test.YtmklkigppmgigaaGreatDoorLibP
namespace Go.Proofs.YtmklkigppmgigaaGreatDoor
open Go.RowKit
set_option linter.unusedSimpArgs false
set_option linter.unusedVariables false
def c_strings_Split : Con where
  ins := [(false, .v .s), (false, .v .s)]
  outs := [(false, .v (.sl .s))]
  sh := false
  pre := fun x => (x.1).size ≤ 1048576 ∧ 1 ≤ (x.2.1).size
  out := fun x => (splitD x.1 x.2.1, ())
  upd := fun x => x
theorem k_strings_Split [B : Base] : ConOk Tryz.prog 25 c_strings_Split :=
  conSplit (pre := c_strings_Split.pre) (T := 9) (fun _ _ h => h) ⟨_, _, Tryz.func25, by kernel_rfl, rfl⟩ fun s p w hold h1 h2 => by
    obtain ⟨m, hm⟩ := Tryz.laysM146.s1_3 B.W B.ok.2
    exact Any.strings_Split { Tryz.laysM146 with } Tryz.laysM146.i9 s p m w (by omega) (cell_old hold hm) h2
def mkB (l : List UInt8) : ByteArray := ⟨l.toArray⟩
theorem mkB_data (l : List UInt8) : (mkB l).data.toList = l := by simp [mkB]
theorem mkB_of (s : ByteArray) : mkB s.data.toList = s := bytes_ext (mkB_data _)
def splS (s : ByteArray) (c : Int) : List ByteArray := (spl (UInt8.ofNat c.toNat) s.data.toList).map mkB
def SplI (s : ByteArray) (c : Int) (o : List ByteArray) (fr i : Int) : Prop :=
  ∃ f k : Nat, fr = f ∧ i = k ∧ o.length ≤ k ∧ ((k ≤ s.size ∧ f ≤ k ∧ o.map (·.data.toList) ++ spl (UInt8.ofNat c.toNat) (s.data.toList.drop f) = spl (UInt8.ofNat c.toNat) s.data.toList ∧ UInt8.ofNat c.toNat ∉ (s.data.toList.drop f).take (k - f)) ∨ (k = s.size + 1 ∧ o.map (·.data.toList) = spl (UInt8.ofNat c.toNat) s.data.toList))
theorem ext_list (s : ByteArray) (a b : Nat) : (s.extract a b).data.toList = (s.data.toList.drop a).take (b - a) := by
  rw [Lib.extract_eq]
theorem split_at_k {l : List UInt8} {f k : Nat} (h1 : f ≤ k) (h2 : k < l.length) : l.drop f = (l.drop f).take (k - f) ++ l[k] :: l.drop (k + 1) := by
  conv => lhs; rw [← List.take_append_drop (k - f) (l.drop f)]
  rw [List.drop_drop, show f + (k - f) = k by omega, List.drop_eq_getElem_cons h2]
end Go.Proofs.YtmklkigppmgigaaGreatDoor
