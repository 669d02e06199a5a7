/-
  A table of the library's that the row lists reads as it is laid, and stays so; the decimal numerals of the library.
-/
import Derived.Test.YtokddngcfkimlaaDoorLibS
import Derived.Test.YtokddngcfkimlaaDoorSh
import Derived.Lib.LaidTab
import Derived.Lib.LaidU8
import Derived.Lib.AppendIntMem
import Derived.Lib.ItoaLen
namespace Go.Proofs.YtokddngcfkimlaaDoor
open Go.RowKit

theorem laidMet_of_H {P : Program} {w : World} {l : List (String × DataW Unit)} (hl : (l.filter fun x => x.2.handleName?.isSome) = []) (h : laidMetH P l w) : laidMet P l w := by
  unfold laidMetH at h
  rw [hl] at h
  exact h
theorem tabIs_of_reads {P : Program} {W : World} {name : String} {k : IntKind} {zs : List Int} {g : Nat} {t e : TypeId} {n : Nat}
    (hg : P.globalNamed name = some g) (hty : (P.globals[g]?).map (·.type) = some t) (ht : P.underlying t = some (.array n e)) (he : P.underlying e = some (.int k)) (hce : P.cellsOf e = 1) (hct : P.cellsOf t = n)
    (h : Lib.VarReads P W name (Lib.tabData k zs)) : Lib.TabIs P W name k zs := by
  obtain ⟨g', t', cs, fuel, p, hg', ht', hvar, hd⟩ := h
  obtain rfl := Option.some.inj (hg.symm.trans hg')
  obtain rfl := Option.some.inj (hty.symm.trans ht')
  unfold Lib.TabIs
  rw [hvar, ← Lib.cells_of_tab ht he hce hct hd]
theorem var_old [B : Base] {P : Program} {w : World} (h : OldOk w) {n : String} {cs : Array Value} (ht : B.W.var? P n = some cs) : w.var? P n = some cs := by
  unfold World.var? at ht ⊢
  cases hg : P.globalNamed n with
  | none => rw [hg] at ht; cases ht
  | some g =>
    rw [hg] at ht
    simp only [Option.bind_some] at ht ⊢
    have hlt : g < B.W.heap.size := by
      rcases Nat.lt_or_ge g B.W.heap.size with h' | h'
      · exact h'
      · rw [Array.getElem?_eq_none h'] at ht; cases ht
    rw [h.block g hlt]; exact ht
/-- the name of the table of powers of ten -/
def nmPow : String := (Rows.fnExactTextRow.laid.getD 2 ("", .nil)).1
theorem pow10W {W : World} (h : LaidW W) : Lib.TabIs Tryd.prog W nmPow .u64 Lib.pow10Tab :=
  tabIs_of_reads (g := (Tryd.prog.globalNamed nmPow).getD 0) (t := 91) (e := 50) (n := 20) (by kernel_rfl) (by kernel_rfl) (by kernel_rfl) (by kernel_rfl) (by kernel_rfl) (by kernel_rfl)
    (Lib.laidMet.reads (laidMet_of_H (by kernel_rfl) h.1) (n := nmPow) (d := Lib.tabData .u64 Lib.pow10Tab) (List.mem_of_getElem? (i := 2) (by kernel_rfl)))
theorem pow10Now [B : Base] {w : World} (h : OldOk w) : Lib.TabIs Tryd.prog w nmPow .u64 Lib.pow10Tab := var_old h (pow10W B.ok)

/-- a number's decimal numeral -/
def decS (n : Int) : ByteArray := ⟨(Lib.itoa n).toArray⟩
end Go.Proofs.YtokddngcfkimlaaDoor
