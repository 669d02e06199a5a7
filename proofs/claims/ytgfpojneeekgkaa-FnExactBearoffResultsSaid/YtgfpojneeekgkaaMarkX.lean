/-
  The walk of markInt64SS over all rows.
-/
import Derived.Test.YtgfpojneeekgkaaMarkW
import Derived.Test.YtgfpojneeekgkaaSortW
namespace Go.Proofs.Ytgfpojneeekgkaa
open Go.RowKit Go.Lib

theorem markSS_nil {w : World} {k : Int} : Calls Try.prog 15 #[.slice none 0 0, .int .i64 k] w fun e w' => e = .returned (.int .i64 k) ∧ w' = w := by
  go_enter Try.func15, Try.ntmps15
  go_wp2
  go_loopg [1, 5] 0 (fun g s1 s5 wr => s1 = .int .i64 k ∧ s5 = .int .i64 0 ∧ wr = w)
  case atStart => exact ⟨rfl, rfl, rfl⟩
  case round =>
    obtain ⟨rfl, rfl, rfl⟩ := hrel
    go_wp2
    go_ret
    exact ⟨rfl, rfl⟩
/-- where the walk stands: i rows are marked -/
structure MarkedTo (O : Nat → Prop) (w0 : World) (lv : List Value) (xs : List (List Int)) (k : Int) (i : Nat) (w : World) : Prop where
  low : ∀ (j : Nat) (v : Value) (y : List Int), j < i → lv[j]? = some v → (markLL k (lensL xs))[j]? = some y → LeafAt w v y
  high : ∀ (j : Nat) (v : Value) (y : List Int), i ≤ j → lv[j]? = some v → xs[j]? = some y → LeafAt w v y
  eff : BelowM (fun b => ¬ O b) w0 w
theorem markSS [B : Base] {O : Nat → Prop} {w : World} {g cap e : Nat} {xs : List (List Int)} {lv : List Value} {cur : Array Value} (hg : w.heap[g]? = some (.cells cur e (0, 0))) (hlv : cur.toList.take xs.length = lv) (hll : lv.length = xs.length) (hO : O g)
    (hleaf : ∀ (i : Nat) (v : Value) (x : List Int), lv[i]? = some v → xs[i]? = some x → Rep True O w (.sl (.i .i64)) [v] x) (hdist : ∀ (i j : Nat) (x y : List Int), i ≠ j → xs[i]? = some x → xs[j]? = some y → x.length = y.length ∧ x ≠ y)
    (hbase : ∀ b, ¬ O b → B.W.heap.size ≤ b) (hold : OldOk w) {k : Int} (k0 : 0 ≤ k) (k1 : k + ((sumN (lensL xs) : Nat) : Int) ≤ 1099511627776) (hn : xs.length ≤ 1099511627776) :
    Calls Try.prog 15 #[.slice (some ⟨g, 0, none⟩) xs.length cap, .int .i64 k] w fun e w' => e = .returned (.int .i64 (k + ((sumN (lensL xs) : Nat) : Int))) ∧ MarkedTo O w lv xs k xs.length w' := by
  have hL : (lensL xs).length = xs.length := by simp [lensL]
  obtain ⟨K, hK⟩ : ∃ K : Nat → Int, ∀ i, K i = k + ((sumN ((lensL xs).take i) : Nat) : Int) := ⟨_, fun _ => rfl⟩
  have hstart : MarkedTo O w lv xs k 0 w := ⟨fun j _ _ h => absurd h (by omega), fun j v y _ h1 h2 => (leafAt_of (hleaf j v y h1 h2)).1, BelowM.refl _ _⟩
  have hstep : ∀ (i : Nat) (v : Value) (wr : World), i < xs.length → lv[i]? = some v → MarkedTo O w lv xs k i wr → Calls Try.prog 14 #[v, .int .i64 (K i)] wr fun e w' => e = .returned (.int .i64 (K (i + 1))) ∧ MarkedTo O w lv xs k (i + 1) w' := by
    intro i v wr hi hv hm
    have hx : xs[i]? = some xs[i] := List.getElem?_eq_getElem hi
    have hb := (leafAt_of (hleaf i v _ hv hx)).2
    have hi2 : i < (lensL xs).length := by omega
    have hs1 := sumN_take hi2
    have hs2 := sumN_le (lensL xs) (i + 1)
    have hn : (lensL xs)[i] = xs[i].length := by simp [lensL]
    have hat := markLL_at (lensL xs) k i hi2
    have hold' : OldOk wr := ⟨Nat.le_trans hold.size hm.eff.size, fun b hb' => (hm.eff.block b (Nat.lt_of_lt_of_le hb' hold.size) fun hno => by have := hbase b hno; omega).trans (hold.block b hb')⟩
    refine (mark_one (hm.high i v _ (Nat.le_refl _) hv hx) hold' (fun b h => hbase b (hb b h)) (k := K i) (by rw [hK]; omega) (by rw [hK]; omega) (by omega)).mono ?_
    rintro e w' ⟨rfl, hl, hB⟩
    have other : ∀ j u y, j ≠ i → lv[j]? = some u → xs[j]? = some y → ∀ b, blkOf u = some b → w'.heap[b]? = wr.heap[b]? := by
      intro j u y hj hu hy b hbu
      obtain ⟨hlu, _⟩ := leafAt_of (hleaf j u y hu hy)
      obtain ⟨hli, _⟩ := leafAt_of (hleaf i v _ hv hx)
      have hlt : b < w.heap.size := by
        obtain ⟨a, cap, hvv, _, _, _, h4, _⟩ := hlu
        simp only [List.cons.injEq, and_true] at hvv
        subst hvv
        rcases h4 trivial rfl with rfl | ⟨b', rfl, _, _, cur, _, hg, _⟩
        · simp [blkOf] at hbu
        · simp only [blkOf, Option.some.injEq] at hbu; subst hbu; exact (Array.getElem?_eq_some_iff.1 hg).1
      refine hB.block b (Nat.lt_of_lt_of_le hlt hm.eff.size) fun hbv => ?_
      obtain ⟨d1, d2⟩ := hdist j i y _ hj hy hx
      exact d2 (leaf_same hlu hli d1 hbu hbv)
    refine ⟨by rw [hK, hK, hs1, hn]; push_cast; congr 2; omega, ⟨fun j u y hj hu hy => ?_, fun j u y hj hu hy => ?_, hm.eff.trans ⟨hB.os, hB.tape, hB.output, hB.size, fun b hlt hn => hB.block b hlt fun h => hn (hb b h)⟩⟩⟩
    · by_cases hji : j = i
      · subst hji
        rw [hv] at hu; cases hu
        rw [hat, hn, ← hK] at hy; cases hy
        exact hl
      · have hjl : j < xs.length := by omega
        exact (hm.low j u y (by omega) hu hy).move (other j u _ hji hu (List.getElem?_eq_getElem hjl))
    · exact (hm.high j u y (by omega) hu hy).move (other j u y (by omega) hu hy)
  have hcell : ∀ (i : Nat) (v : Value) (wr : World), i < xs.length → lv[i]? = some v → MarkedTo O w lv xs k i wr → wr.cell? ⟨g, i, none⟩ = some v := by
    intro i v wr hi hv hm
    have hlt : g < w.heap.size := (Array.getElem?_eq_some_iff.1 hg).1
    rw [cell_agree (hm.eff.block g hlt fun h => h hO), cell_of_row w g i cur e (0, 0) hg]
    rw [← hlv, List.getElem?_take, if_pos hi] at hv
    simpa using hv
  have hK0 : K 0 = k := by rw [hK]; simp [sumN]
  have hKn : K xs.length = k + ((sumN (lensL xs) : Nat) : Int) := by rw [hK, ← hL, List.take_length]
  rw [← hKn]
  have HS := hid hstep
  have HC := hid hcell
  have H0 := hid hstart
  have HLL := hid hll
  clear hstep hcell hstart hg hlv hll hO hleaf hdist hbase hold hKn hK k0 k1 hL
  subst hK0
  go_enter Try.func15, Try.ntmps15
  go_wp2
  go_loopg [1, 5] xs.length (fun g0 s1 s5 wr => ∃ i : Nat, i ≤ xs.length ∧ xs.length - i ≤ g0 ∧ s1 = .int .i64 (K i) ∧ s5 = .int .i64 i ∧ MarkedTo O w lv xs (K 0) i wr)
  case atStart => exact ⟨0, by omega, by omega, rfl, rfl, H0.out⟩
  case round =>
    obtain ⟨i, hi, hg0, rfl, rfl, hm⟩ := hrel
    by_cases hlt : i < xs.length
    · obtain ⟨v, hv⟩ : ∃ v, lv[i]? = some v := ⟨lv[i]'(by rw [HLL.out]; exact hlt), List.getElem?_eq_getElem _⟩
      have c0 := HC.out i v wr hlt hv hm
      have hcall := HS.out i v wr hlt hv hm
      have HM := hid hm
      have HV := hid hv
      clear hm hv
      go_wp2_with fail
      refine hcall.mono ?_
      rintro e w' ⟨rfl, hm'⟩
      have HM' := hid hm'
      clear hm'
      go_wp2
      go_roundg (xs.length - (i + 1))
      case measure => omega
      case rel => exact ⟨i + 1, by omega, Nat.le_refl _, rfl, by go_num, HM'.out⟩
    · have : i = xs.length := by omega
      subst this
      go_wp2
      go_ret
      exact ⟨rfl, hm⟩
end Go.Proofs.Ytgfpojneeekgkaa
