/-
  Contracts of both IsGame functions, for every variant and every game whose sides have at most 2^20 elements.
-/
import Derived.Test.YtmcjabodkjlkgaaNewG
import Derived.Test.YtmcjabodkjlkgaaSame
import Derived.Deep.DeepCutAuto
namespace Go.Proofs.Ytmcjabodkjlkgaa
open Go.RowKit

def rollB (p c h s a b : Int) : Bool := varB p c h s && inB a 1 s && inB b 1 a
def zeroB (a b : Int) : Bool := decide (a = 0) && decide (b = 0)
def preB (p c h s : Int) (zs ys : List Int) (pl tu : Int) : Bool := varB p c h s && decide (4 ≤ p) && boardB p c h s zs ys && inB pl 0 1 && inB tu 0 2000
def phrB (p c h s a b ph : Int) : Bool := if ph = 2 then rollB p c h s a b else zeroB a b
def endB (p c h s : Int) (zs ys : List Int) (pl ph wi re tu : Int) : Bool :=
  if ph = 0 then decide (zs = startL p c h s) && decide (ys = startL p c h s) && decide (pl = 0) && decide (wi = 0) && decide (re = 0) && decide (tu = 0)
  else if ph = 1 ∨ ph = 2 then !overB zs ys && decide (wi = 0) && decide (re = 0)
  else if ph = 3 then (if overB zs ys then decide (sumN zs zs.length = 0) && decide (wi = pl) && decide (re = resV p c h (loserL zs ys)) else decide (wi = 1 - pl) && inB re 1 3)
  else false
def gameB (p c h s : Int) (zs ys : List Int) (pl a b ph wi re tu : Int) : Bool := preB p c h s zs ys pl tu && phrB p c h s a b ph && endB p c h s zs ys pl ph wi re tu

theorem implRoll_any (p c h s a b : Int) (w : World) :
    Calls Try.prog 107 #[.agg #[.int .i64 p, .int .i64 c, .int .i64 h, .int .i64 s], .agg #[.int .i64 a, .int .i64 b]] w fun e w' => e = .returned (.bool (rollB p c h s a b)) ∧ Below w.heap.size w w' := by
  go_enter Try.func107, Try.ntmps107
  go_wp2_with (first | (go_at_call 74; refine (isVariant_any _ _ _ _ _).mono ?_; rintro e w1 ⟨rfl, hb⟩; obtain ⟨hc, hf⟩ := bcell hb; have hsz := hb.size; (try simp at hsz); (try have hy0 : w.heap.size < w1.heap.size := by omega); (try have hy1 : w.heap.size + 1 < w1.heap.size := by omega); (try have hy2 : w.heap.size + 2 < w1.heap.size := by omega); (try have hyS : ws.heap.size < w1.heap.size := by omega); (try have hyG : wg.heap.size < w1.heap.size := by omega)) | (go_at_call 83; refine (within_any _ _ _ _).mono ?_; rintro e w' ⟨rfl, rfl⟩))
  all_goals (go_ret; exact ⟨ret_bool (by simp [rollB, *]), by (repeat' (first | (with_reducible exact Below.refl _ _) | (with_reducible assumption) | (with_reducible refine xAlloc ?_ _) | (with_reducible refine Below.drew ?_) | (with_reducible refine xDrewN ?_ _) | (with_reducible refine xThen ?_ (by with_reducible assumption)) | (with_reducible refine Below.setCell ?_ (by first | omega | (simp; omega) | simp) _) | exact Below.refl _ _))⟩)
theorem specRoll_any (p c h s a b : Int) (w : World) :
    Calls Try.prog 103 #[.agg #[.int .i64 p, .int .i64 c, .int .i64 h, .int .i64 s], .agg #[.int .i64 a, .int .i64 b]] w fun e w' => e = .returned (.bool (rollB p c h s a b)) ∧ Below w.heap.size w w' := by
  go_enter Try.func103, Try.ntmps103
  go_wp2_with (first | (go_at_call 67; refine (specIsVariant_any _ _ _ _ _).mono ?_; rintro e w1 ⟨rfl, hb⟩; obtain ⟨hc, hf⟩ := bcell hb; have hsz := hb.size; (try simp at hsz); (try have hy0 : w.heap.size < w1.heap.size := by omega); (try have hy1 : w.heap.size + 1 < w1.heap.size := by omega); (try have hy2 : w.heap.size + 2 < w1.heap.size := by omega); (try have hyS : ws.heap.size < w1.heap.size := by omega); (try have hyG : wg.heap.size < w1.heap.size := by omega)) | (go_at_call 80; refine (l01In_any _ _ _ _).mono ?_; rintro e w' ⟨rfl, rfl⟩))
  all_goals (go_ret; exact ⟨ret_bool (by simp [rollB, *]), by (repeat' (first | (with_reducible exact Below.refl _ _) | (with_reducible assumption) | (with_reducible refine xAlloc ?_ _) | (with_reducible refine Below.drew ?_) | (with_reducible refine xDrewN ?_ _) | (with_reducible refine xThen ?_ (by with_reducible assumption)) | (with_reducible refine Below.setCell ?_ (by first | omega | (simp; omega) | simp) _) | exact Below.refl _ _))⟩)

theorem eqRoll_run (a b a' b' : Int) (w : World) : (binOp .eql 42 (.agg #[.int .i64 a, .int .i64 b]) (.agg #[.int .i64 a', .int .i64 b'])).run Try.prog w =
    .ok (.bool (a == a' && b == b')) w := by
  have u := Try.underlying2
  rw [run_eql_struct, run_equalIn_agg _ _ _ _ _ (by kernel_rfl) (by kernel_rfl)]
  simp [Program.fieldsOf, Try.underlying42, Op.eqFields, go_sem, u]
  by_cases h1 : a = a' <;> by_cases h2 : b = b' <;> simp [h1, h2]
theorem neRoll_run (a b a' b' : Int) (w : World) : (binOp .neq 42 (.agg #[.int .i64 a, .int .i64 b]) (.agg #[.int .i64 a', .int .i64 b'])).run Try.prog w =
    .ok (.bool !(a == a' && b == b')) w := by
  have u := Try.underlying2
  rw [run_neq_struct, run_equalIn_agg _ _ _ _ _ (by kernel_rfl) (by kernel_rfl)]
  simp [Program.fieldsOf, Try.underlying42, Op.eqFields, go_sem, u]
  by_cases h1 : a = a' <;> by_cases h2 : b = b' <;> simp [h1, h2]

theorem preB_true {p c h s : Int} {zs ys : List Int} {pl tu : Int} (h0 : preB p c h s zs ys pl tu = true) : varB p c h s = true ∧ 4 ≤ p ∧ boardB p c h s zs ys = true ∧ inB pl 0 1 = true ∧ inB tu 0 2000 = true := by
  simp only [preB, Bool.and_eq_true, decide_eq_true_eq] at h0
  exact ⟨h0.1.1.1.1, h0.1.1.1.2, h0.1.1.2, h0.1.2, h0.2⟩

set_option maxHeartbeats 1000000 in
theorem implGame_pre (p c h s : Int) (v1 v2 : Value) (zs ys : List Int) (pl a b ph wi re tu : Int) (w : World) (I1 : IntsAt w v1 zs) (I2 : IntsAt w v2 ys) (hpre : preB p c h s zs ys pl tu = false) :
    Calls Try.prog 56 #[.agg #[.int .i64 p, .int .i64 c, .int .i64 h, .int .i64 s], gameV v1 v2 pl a b ph wi re tu] w fun e w' => e = .returned (.bool false) ∧ Below w.heap.size w w' := by
  unfold gameV
  obtain ⟨a1, c1, rfl, _⟩ := id I1
  obtain ⟨a2, c2, rfl, _⟩ := id I2
  have HP := hid hpre
  clear hpre
  go_enter Try.func56, Try.ntmps56
  go_upto_region 3 with (first | (go_at_call 74; (with_reducible refine (isVariant_any _ _ _ _ _).mono ?_); rintro e w1 ⟨rfl, hb⟩; obtain ⟨hc, hf⟩ := bcell hb; have hsz := hb.size; (try simp at hsz); (try have hy0 : w.heap.size < w1.heap.size := by omega); (try have hy1 : w.heap.size + 1 < w1.heap.size := by omega); (try have hy2 : w.heap.size + 2 < w1.heap.size := by omega); (try have hyS : ws.heap.size < w1.heap.size := by omega); (try have hyG : wg.heap.size < w1.heap.size := by omega)) | (go_at_call 61; (with_reducible refine (implBoard_any _ _ _ _ _ _ zs ys _ (by (repeat (first | (with_reducible exact IntsAt.made _ _ (by omega) _) | (with_reducible assumption) | (with_reducible refine IntsAt.alloc ?_ _) | (with_reducible refine IntsAt.drew ?_) | (with_reducible refine IntsAt.drewN ?_ _) | (with_reducible refine IntsAt.mono ?_ (by with_reducible assumption))))) (by (repeat (first | (with_reducible exact IntsAt.made _ _ (by omega) _) | (with_reducible assumption) | (with_reducible refine IntsAt.alloc ?_ _) | (with_reducible refine IntsAt.drew ?_) | (with_reducible refine IntsAt.drewN ?_ _) | (with_reducible refine IntsAt.mono ?_ (by with_reducible assumption)))))).mono ?_); rintro e w1 ⟨rfl, hb⟩; obtain ⟨hc, hf⟩ := bcell hb; have hsz := hb.size; (try simp at hsz); (try have hy0 : w.heap.size < w1.heap.size := by omega); (try have hy1 : w.heap.size + 1 < w1.heap.size := by omega); (try have hy2 : w.heap.size + 2 < w1.heap.size := by omega); (try have hyS : ws.heap.size < w1.heap.size := by omega); (try have hyG : wg.heap.size < w1.heap.size := by omega)) | (go_at_call 83; (with_reducible refine (within_any _ _ _ _).mono ?_); rintro e w' ⟨rfl, rfl⟩))
  all_goals first | (go_ret; exact ⟨rfl, by (repeat' (first | (with_reducible exact Below.refl _ _) | (with_reducible assumption) | (with_reducible refine xAlloc ?_ _) | (with_reducible refine Below.drew ?_) | (with_reducible refine xDrewN ?_ _) | (with_reducible refine xThen ?_ (by with_reducible assumption)) | (with_reducible refine Below.setCell ?_ (by first | omega | (simp; omega) | simp) _) | exact Below.refl _ _))⟩) | (exfalso; have h9 := HP.out; simp_all [preB]; done)

set_option maxRecDepth 100000 in
set_option maxHeartbeats 1000000 in
theorem implGame_a1 (p c h s : Int) (v1 v2 : Value) (zs ys : List Int) (pl a b wi re tu : Int) (w : World) (I1 : IntsAt w v1 zs) (I2 : IntsAt w v2 ys) (hpre : preB p c h s zs ys pl tu = true) (hz : zeroB a b = true) :
    Calls Try.prog 56 #[.agg #[.int .i64 p, .int .i64 c, .int .i64 h, .int .i64 s], gameV v1 v2 pl a b 2 wi re tu] w fun e w' => e = .returned (.bool false) ∧ Below w.heap.size w w' := by
  unfold gameV
  obtain ⟨a1, c1, rfl, _⟩ := id I1
  obtain ⟨a2, c2, rfl, _⟩ := id I2
  obtain ⟨hv, h4, hbd, hpl, htu⟩ := preB_true hpre
  have hz' : (a == 0 && b == 0) = true := by simpa [zeroB] using hz
  clear hpre hz
  have hne : ∀ u : World, (binOp .neq 42 (.agg #[.int .i64 a, .int .i64 b]) (.agg #[.int .i64 0, .int .i64 0])).run Try.prog u = .ok (.bool false) u := fun u => by rw [neRoll_run, hz']; rfl
  clear hz'
  go_enter Try.func56, Try.ntmps56
  go_upto_region 3 with (first | (go_at_call 74; (with_reducible refine (isVariant_any _ _ _ _ _).mono ?_); rintro e w1 ⟨rfl, hb⟩; obtain ⟨hc, hf⟩ := bcell hb; have hsz := hb.size; (try simp at hsz); (try have hy0 : w.heap.size < w1.heap.size := by omega); (try have hy1 : w.heap.size + 1 < w1.heap.size := by omega); (try have hy2 : w.heap.size + 2 < w1.heap.size := by omega); (try have hyS : ws.heap.size < w1.heap.size := by omega); (try have hyG : wg.heap.size < w1.heap.size := by omega)) | (go_at_call 61; (with_reducible refine (implBoard_any _ _ _ _ _ _ zs ys _ (by (repeat (first | (with_reducible exact IntsAt.made _ _ (by omega) _) | (with_reducible assumption) | (with_reducible refine IntsAt.alloc ?_ _) | (with_reducible refine IntsAt.drew ?_) | (with_reducible refine IntsAt.drewN ?_ _) | (with_reducible refine IntsAt.mono ?_ (by with_reducible assumption))))) (by (repeat (first | (with_reducible exact IntsAt.made _ _ (by omega) _) | (with_reducible assumption) | (with_reducible refine IntsAt.alloc ?_ _) | (with_reducible refine IntsAt.drew ?_) | (with_reducible refine IntsAt.drewN ?_ _) | (with_reducible refine IntsAt.mono ?_ (by with_reducible assumption)))))).mono ?_); rintro e w1 ⟨rfl, hb⟩; obtain ⟨hc, hf⟩ := bcell hb; have hsz := hb.size; (try simp at hsz); (try have hy0 : w.heap.size < w1.heap.size := by omega); (try have hy1 : w.heap.size + 1 < w1.heap.size := by omega); (try have hy2 : w.heap.size + 2 < w1.heap.size := by omega); (try have hyS : ws.heap.size < w1.heap.size := by omega); (try have hyG : wg.heap.size < w1.heap.size := by omega)) | (go_at_call 83; (with_reducible refine (within_any _ _ _ _).mono ?_); rintro e w' ⟨rfl, rfl⟩))
  refine wp_named (fun W hW0 => ?_)
  have hW := hid hW0
  clear hW0
  have bW : Below w.heap.size w W := by rw [← hW.out]; (repeat' (first | (with_reducible exact Below.refl _ _) | (with_reducible assumption) | (with_reducible refine xAlloc ?_ _) | (with_reducible refine Below.drew ?_) | (with_reducible refine xDrewN ?_ _) | (with_reducible refine xThen ?_ (by with_reducible assumption)) | (with_reducible refine Below.setCell ?_ (by first | omega | (simp; omega) | simp) _) | exact Below.refl _ _))
  have kW0 : W.cell? ⟨w.heap.size, 0, none⟩ = some (.int .i64 p) := by rw [← hW.out]; go_simp
  have kW1 : W.cell? ⟨w.heap.size, 1, none⟩ = some (.int .i64 c) := by rw [← hW.out]; go_simp
  have kW2 : W.cell? ⟨w.heap.size, 2, none⟩ = some (.int .i64 h) := by rw [← hW.out]; go_simp
  have kW3 : W.cell? ⟨w.heap.size, 3, none⟩ = some (.int .i64 s) := by rw [← hW.out]; go_simp
  have kW4 : W.cell? ⟨w.heap.size + 1, 0, none⟩ = some (.slice a1 zs.length c1) := by rw [← hW.out]; go_simp
  have kW5 : W.cell? ⟨w.heap.size + 1, 1, none⟩ = some (.slice a2 ys.length c2) := by rw [← hW.out]; go_simp
  have kW6 : W.cell? ⟨w.heap.size + 1, 2, none⟩ = some (.int .i64 pl) := by rw [← hW.out]; go_simp
  have kW7 : W.cell? ⟨w.heap.size + 1, 3, none⟩ = some (.int .i64 a) := by rw [← hW.out]; go_simp
  have kW8 : W.cell? ⟨w.heap.size + 1, 4, none⟩ = some (.int .i64 b) := by rw [← hW.out]; go_simp
  have kW9 : W.cell? ⟨w.heap.size + 1, 5, none⟩ = some (.int .i64 2) := by rw [← hW.out]; go_simp
  have kW10 : W.cell? ⟨w.heap.size + 1, 6, none⟩ = some (.int .i64 wi) := by rw [← hW.out]; go_simp
  have kW11 : W.cell? ⟨w.heap.size + 1, 7, none⟩ = some (.int .i64 re) := by rw [← hW.out]; go_simp
  have kW12 : W.cell? ⟨w.heap.size + 1, 8, none⟩ = some (.int .i64 tu) := by rw [← hW.out]; go_simp
  clear hW
  have hk0 := fun xe : ExtW W => xe.cell kW0
  have hk1 := fun xe : ExtW W => xe.cell kW1
  have hk2 := fun xe : ExtW W => xe.cell kW2
  have hk3 := fun xe : ExtW W => xe.cell kW3
  have hk4 := fun xe : ExtW W => xe.cell kW4
  have hk5 := fun xe : ExtW W => xe.cell kW5
  have hk6 := fun xe : ExtW W => xe.cell kW6
  have hk7 := fun xe : ExtW W => xe.cell kW7
  have hk8 := fun xe : ExtW W => xe.cell kW8
  have hk9 := fun xe : ExtW W => xe.cell kW9
  have hk10 := fun xe : ExtW W => xe.cell kW10
  have hk11 := fun xe : ExtW W => xe.cell kW11
  have hk12 := fun xe : ExtW W => xe.cell kW12
  have hne : Nonempty (ExtW W) := ⟨⟨_, Below.refl _ _⟩⟩
  refine wp_region_ext (by kernel_rfl) (by kernel_rfl) ?_
  repeat (first | go_big_quiet_step ((first | (go_at_call 107; exact ext_call (implRoll_any _ _ _ _ _ _ _)))) | quiet_step ((first | (go_at_call 107; exact ext_call (implRoll_any _ _ _ _ _ _ _)))))
  refine wpQuiet_nil ?_
  rintro w1 ⟨⟨_, hb⟩, rfl⟩
  clear hne hk0 hk1 hk2 hk3 hk4 hk5 hk6 hk7 hk8 hk9 hk10 hk11 hk12
  go_wp2
  go_ret
  exact ⟨rfl, by (repeat' (first | (with_reducible exact Below.refl _ _) | (with_reducible assumption) | (with_reducible refine xAlloc ?_ _) | (with_reducible refine Below.drew ?_) | (with_reducible refine xDrewN ?_ _) | (with_reducible refine xThen ?_ (by with_reducible assumption)) | (with_reducible refine Below.setCell ?_ (by first | omega | (simp; omega) | simp) _) | exact Below.refl _ _))⟩
end Go.Proofs.Ytmcjabodkjlkgaa
