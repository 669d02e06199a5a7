/-
  The law over both IsExact functions: it returns true for every variant and number; no condition.
-/
import Derived.Test.YtdifaojcjcnokaaIsEx
namespace Go.Proofs.Ytdifaojcjcnokaa
open Go.RowKit

theorem lawIsExact (p c h s : Int) (_ : (Lit.int .i64 p).wf = true) (_ : (Lit.int .i64 c).wf = true) (_ : (Lit.int .i64 h).wf = true) (_ : (Lit.int .i64 s).wf = true) (x d : Int) (wx : (Lit.int .i64 x).wf = true) (wd : (Lit.int .i64 d).wf = true) (w : World) :
    Calls Try.prog 5 #[.agg #[.int .i64 p, .int .i64 c, .int .i64 h, .int .i64 s], .agg #[.int .i64 x, .int .i64 d]] w fun e w' => e = .returned (.bool true) ∧ Below w.heap.size w w' := by
  have HX := hid (I64.of_wf wx)
  have HD := hid (I64.of_wf wd)
  clear wx wd
  go_enter Try.func5, Try.ntmps5
  go_wp2
  have hk0 : ∀ xe : ExtW ((w.alloc (.cells #[.int .i64 p, .int .i64 c, .int .i64 h, .int .i64 s] 23)).alloc (.cells #[.int .i64 x, .int .i64 d] 34)), xe.u.cell? ⟨w.heap.size, 0, none⟩ = some (.int .i64 p) := fun xe => xe.cell (by go_simp)
  have hk1 : ∀ xe : ExtW ((w.alloc (.cells #[.int .i64 p, .int .i64 c, .int .i64 h, .int .i64 s] 23)).alloc (.cells #[.int .i64 x, .int .i64 d] 34)), xe.u.cell? ⟨w.heap.size, 1, none⟩ = some (.int .i64 c) := fun xe => xe.cell (by go_simp)
  have hk2 : ∀ xe : ExtW ((w.alloc (.cells #[.int .i64 p, .int .i64 c, .int .i64 h, .int .i64 s] 23)).alloc (.cells #[.int .i64 x, .int .i64 d] 34)), xe.u.cell? ⟨w.heap.size, 2, none⟩ = some (.int .i64 h) := fun xe => xe.cell (by go_simp)
  have hk3 : ∀ xe : ExtW ((w.alloc (.cells #[.int .i64 p, .int .i64 c, .int .i64 h, .int .i64 s] 23)).alloc (.cells #[.int .i64 x, .int .i64 d] 34)), xe.u.cell? ⟨w.heap.size, 3, none⟩ = some (.int .i64 s) := fun xe => xe.cell (by go_simp)
  have hk4 : ∀ xe : ExtW ((w.alloc (.cells #[.int .i64 p, .int .i64 c, .int .i64 h, .int .i64 s] 23)).alloc (.cells #[.int .i64 x, .int .i64 d] 34)), xe.u.cell? ⟨w.heap.size + 1, 0, none⟩ = some (.int .i64 x) := fun xe => xe.cell (by go_simp)
  have hk5 : ∀ xe : ExtW ((w.alloc (.cells #[.int .i64 p, .int .i64 c, .int .i64 h, .int .i64 s] 23)).alloc (.cells #[.int .i64 x, .int .i64 d] 34)), xe.u.cell? ⟨w.heap.size + 1, 1, none⟩ = some (.int .i64 d) := fun xe => xe.cell (by go_simp)
  have hne : Nonempty (ExtW ((w.alloc (.cells #[.int .i64 p, .int .i64 c, .int .i64 h, .int .i64 s] 23)).alloc (.cells #[.int .i64 x, .int .i64 d] 34))) := ⟨⟨_, Below.refl _ _⟩⟩
  refine wp_region_ext (by kernel_rfl) (by kernel_rfl) ?_
  repeat (quiet_step ((first | (go_at_call 16; exact ext_call (toVariant_any _ _ _ _ _)) | (go_at_call 23; exact ext_call (toExact_any _ _ _)) | (go_at_call 22; exact ext_call (specIsExact_any _ _ _ _ _ _ HD.out HX.out _)))))
  refine wpQuiet_nil ?_
  rintro w1 ⟨⟨_, hb⟩, rfl⟩
  obtain ⟨hc, hf⟩ := bcell hb
  have hz := hb.size
  (try simp at hz)
  (try have hy0 : w.heap.size < w1.heap.size := by omega)
  (try have hy1 : w.heap.size + 1 < w1.heap.size := by omega)
  (try have hy2 : w.heap.size + 2 < w1.heap.size := by omega)
  go_wp2
  have hk0 : ∀ xe : ExtW w1, xe.u.cell? ⟨w.heap.size, 0, none⟩ = some (.int .i64 p) := fun xe => xe.cell (by go_simp)
  have hk1 : ∀ xe : ExtW w1, xe.u.cell? ⟨w.heap.size, 1, none⟩ = some (.int .i64 c) := fun xe => xe.cell (by go_simp)
  have hk2 : ∀ xe : ExtW w1, xe.u.cell? ⟨w.heap.size, 2, none⟩ = some (.int .i64 h) := fun xe => xe.cell (by go_simp)
  have hk3 : ∀ xe : ExtW w1, xe.u.cell? ⟨w.heap.size, 3, none⟩ = some (.int .i64 s) := fun xe => xe.cell (by go_simp)
  have hk4 : ∀ xe : ExtW w1, xe.u.cell? ⟨w.heap.size + 1, 0, none⟩ = some (.int .i64 x) := fun xe => xe.cell (by go_simp)
  have hk5 : ∀ xe : ExtW w1, xe.u.cell? ⟨w.heap.size + 1, 1, none⟩ = some (.int .i64 d) := fun xe => xe.cell (by go_simp)
  have hne : Nonempty (ExtW w1) := ⟨⟨_, Below.refl _ _⟩⟩
  refine wp_region_ext (by kernel_rfl) (by kernel_rfl) ?_
  repeat (quiet_step ((first | (go_at_call 16; exact ext_call (toVariant_any _ _ _ _ _)) | (go_at_call 23; exact ext_call (toExact_any _ _ _)) | (go_at_call 24; exact ext_call (implIsExact_any _ _ _ _ _ _ HD.out HX.out _)))))
  refine wpQuiet_nil ?_
  rintro w1 ⟨⟨_, hb⟩, rfl⟩
  obtain ⟨hc, hf⟩ := bcell hb
  have hz := hb.size
  (try simp at hz)
  (try have hy0 : w.heap.size < w1.heap.size := by omega)
  (try have hy1 : w.heap.size + 1 < w1.heap.size := by omega)
  (try have hy2 : w.heap.size + 2 < w1.heap.size := by omega)
  go_wp2
  go_ret
  exact ⟨rfl, by (repeat' (first | exact Below.refl _ _ | (with_reducible assumption) | (with_reducible refine xAlloc ?_ _) | (with_reducible refine Below.drew ?_) | (with_reducible refine xDrewN ?_ _) | (with_reducible refine xThen ?_ (by with_reducible assumption))))⟩
end Go.Proofs.Ytdifaojcjcnokaa
