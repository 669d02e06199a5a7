/-
  Contracts: sizes of codes.
-/
import Derived.Test.YtmklkigppmgigaaGreatDoorVDraw
namespace Go.Proofs.YtmklkigppmgigaaGreatDoor
open Go.RowKit
set_option linter.unusedSimpArgs false
set_option linter.unusedVariables false
def c_laws_big : Con where
  ins := [(false, .v (.sl (.i .u8)))]
  outs := [(false, .v .b)]
  sh := false
  pre := fun _ => True
  out := fun x => (decide (4096 < (List.length x.1 : Int)), ())
  upd := fun x => x
theorem k_laws_big [B : Base] : ConOk Tryz.prog 4 c_laws_big := by
  refine fn_ok (C := cx Tryz.prog 6 c_laws_big) (cs := []) (res := Tryz.f4.results.toList) (fun _ => ⟨[], [], []⟩) Tryz.func4 (by kernel_rfl) rfl rfl rfl tysOk.look eqTsOk.look (AllCs.ok (l := []) trivial) mixed rfl rfl rfl ?_
  refine of_nf (P := ∀ c : List Int, (True) → ((lensI c_laws_big.ins (c, ())) → (@Eq (HO c_laws_big.outs) ((decide ((4096 : Int) < (c.length : Int))), ()) (c_laws_big.out (c, ()))))) (by kernel_rfl) ?_
  rintro c hp hl
  rfl
end Go.Proofs.YtmklkigppmgigaaGreatDoor
