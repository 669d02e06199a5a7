/-
  The law over both StratifiedRolls functions: it returns true for every variant, seed and number; no condition.
-/
import Derived.Test.YtmcjabodkjlkgaaStratL
import Derived.Test.YtmcjabodkjlkgaaNewGL
namespace Go.Proofs.Ytmcjabodkjlkgaa
open Go.RowKit

theorem FreshRolls.below_size {w : World} {lo : Nat} {v : Value} {rs : List (Int × Int)} (h : FreshRolls w lo v rs) : ∀ g n cap, v = .slice (some ⟨g, 0, none⟩) n cap → g < w.heap.size := by
  obtain ⟨hm, ⟨rfl, _⟩ | ⟨g, cap, cur, rfl, hg, hh, _⟩⟩ := h
  · intro g n cap e; cases e
  · intro g' n cap' e; injection e with e; injection e with e; injection e with e; subst e; exact blk_lt hh
theorem FreshRolls.keep {w0 w w' : World} {lo lo' : Nat} {v : Value} {rs rs' : List (Int × Int)} (h0 : FreshRolls w0 lo' v rs') (h : FreshRolls w lo v rs) (hb : Below w0.heap.size w w') : FreshRolls w' lo v rs := by
  obtain ⟨hm, h⟩ := h
  refine ⟨hm, h.imp id ?_⟩
  rintro ⟨g, cap, cur, hv, hg, hh, r⟩
  exact ⟨g, cap, cur, hv, hg, (hb.block g (h0.below_size _ _ _ hv)).trans hh, r⟩

set_option maxHeartbeats 4000000 in
theorem lawStrat (p c h s : Int) (_ : (Lit.int .i64 p).wf = true) (_ : (Lit.int .i64 c).wf = true) (_ : (Lit.int .i64 h).wf = true) (_ : (Lit.int .i64 s).wf = true) (seed : Int) (_ : (Lit.int .i64 seed).wf = true) (n : Int) (_ : (Lit.int .i64 n).wf = true) (w : World) :
    Calls Try.prog 9 #[.agg #[.int .i64 p, .int .i64 c, .int .i64 h, .int .i64 s], .int .i64 seed, .int .i64 n] w fun e w' => e = .returned (.bool true) ∧ Below w.heap.size w w' := by
  obtain ⟨L, HL⟩ := named (stratZ p c h s seed n)
  obtain ⟨k, HK⟩ := named (codeR (varB p c h s) seed n)
  go_enter Try.func9, Try.ntmps9
  go_wp2_with (go_at_call 15; (with_reducible refine (toVariant_any _ _ _ _ _).mono ?_); rintro e w1 ⟨rfl, hb⟩; obtain ⟨hc, hf⟩ := bcell hb; have hsz := hb.size; (try simp at hsz); (try have hy0 : w.heap.size < w1.heap.size := by omega); (try have hy1 : w.heap.size + 1 < w1.heap.size := by omega); (try have hy2 : w.heap.size + 2 < w1.heap.size := by omega); (try have hyS : ws.heap.size < w1.heap.size := by omega); (try have hyG : wg.heap.size < w1.heap.size := by omega))
  refine calls_named (fun U hU0 => ?_)
  have hU := hid hU0
  clear hU0
  have bU : Below w.heap.size w U := by rw [← hU.out]; (repeat' (first | (with_reducible exact Below.refl _ _) | (with_reducible assumption) | (with_reducible refine xAlloc ?_ _) | (with_reducible refine Below.drew ?_) | (with_reducible refine xDrewN ?_ _) | (with_reducible refine xThen ?_ (by with_reducible assumption)) | (with_reducible refine Below.setCell ?_ (by first | omega | (simp; omega) | simp) _) | exact Below.refl _ _))
  have kU0 : U.cell? ⟨w.heap.size, 0, none⟩ = some (.int .i64 p) := by rw [← hU.out]; go_simp
  have kU1 : U.cell? ⟨w.heap.size, 1, none⟩ = some (.int .i64 c) := by rw [← hU.out]; go_simp
  have kU2 : U.cell? ⟨w.heap.size, 2, none⟩ = some (.int .i64 h) := by rw [← hU.out]; go_simp
  have kU3 : U.cell? ⟨w.heap.size, 3, none⟩ = some (.int .i64 s) := by rw [← hU.out]; go_simp
  clear hU hb hc hf hsz hy0
  refine (specStrat_any p c h s seed n U).mono ?_
  rintro e w1 ⟨v1, rfl, hF, hb⟩
  rw [← HL.out] at hF
  rw [← HK.out]
  have hLm := hF.1
  have kA0 := xcell hb kU0
  have kA1 := xcell hb kU1
  have kA2 := xcell hb kU2
  have kA3 := xcell hb kU3
  have lA := cell_block kA0
  have BA := xThen bU hb
  have HF := hid hF
  clear kU0 kU1 kU2 kU3 hb hF
  go_wp2_with fail
  refine (toVariant_any _ _ _ _ w1).mono ?_
  rintro e w2 ⟨rfl, hb⟩
  have kB0 := xcell hb kA0
  have kB1 := xcell hb kA1
  have kB2 := xcell hb kA2
  have kB3 := xcell hb kA3
  have BB := xThen BA hb
  have HF2 := hid (HF.out.mono hb)
  clear kA0 kA1 kA2 kA3 hb HF BA lA
  go_wp2_with fail
  refine (implStrat_any p c h s seed n w2).mono ?_
  rintro e w3 ⟨u1, rfl, hG, hb⟩
  rw [← HL.out] at hG
  rw [← HK.out]
  have kC0 := xcell hb kB0
  have kC1 := xcell hb kB1
  have kC2 := xcell hb kB2
  have kC3 := xcell hb kB3
  have lC := Nat.lt_of_lt_of_le (cell_block kB0) hb.size
  have lB := cell_block kB0
  have BC := xThen BB hb
  have HF3 := hid (HF2.out.mono hb)
  have HG3 := hid hG
  clear kB0 kB1 kB2 kB3 hb BB hG
  go_wp2_with fail
  refine (eqRolls_any _ _ L w3 HG3.out.at HF3.out.at).mono ?_
  rintro e w4 ⟨rfl, hb⟩
  have kD0 := xcell hb kC0
  have kD1 := xcell hb kC1
  have kD2 := xcell hb kC2
  have kD3 := xcell hb kC3
  have BD := xThen BC hb
  have HF4 := hid (HF3.out.mono hb)
  have HG4 := hid (HG3.out.mono hb)
  clear kC0 kC1 kC2 kC3 hb HF3 HG3 BC
  go_wp2_with fail
  refine (markRolls_any w2.heap.size _ 1 L w4 HG4.out (by omega) (by omega)).mono ?_
  rintro e w5 ⟨rfl, hH, bM, -⟩
  have kE0 := (bM.cell (p := ⟨w.heap.size, 0, none⟩) (by omega)).trans kD0
  have kE1 := (bM.cell (p := ⟨w.heap.size, 1, none⟩) (by omega)).trans kD1
  have kE2 := (bM.cell (p := ⟨w.heap.size, 2, none⟩) (by omega)).trans kD2
  have kE3 := (bM.cell (p := ⟨w.heap.size, 3, none⟩) (by omega)).trans kD3
  have BE : Below w.heap.size w w5 := BD.trans (bM.mono (by omega))
  have HF6 := hid (HF2.out.keep HF4.out bM)
  have HH6 := hid hH
  clear hH bM
  clear kD0 kD1 kD2 kD3 HF4 HG4 BD
  go_wp2_with fail
  refine (heldRolls_any _ 1 L.length w5 HH6.out hLm (by omega) (by omega)).mono ?_
  rintro e w6 ⟨rfl, rfl⟩
  have hk1 : ¬ (1 + (L.length : Int) * 2 < 0) := by omega
  go_wp2_with fail
  refine (toVariant_any _ _ _ _ w5).mono ?_
  rintro e w7 ⟨rfl, hb⟩
  have kG0 := xcell hb kE0
  have kG1 := xcell hb kE1
  have kG2 := xcell hb kE2
  have kG3 := xcell hb kE3
  have BG := xThen BE hb
  have HF8 := hid (HF6.out.mono hb)
  have HH8 := hid (HH6.out.mono hb)
  clear kE0 kE1 kE2 kE3 hb HF6 HH6 BE
  go_wp2_with fail
  refine (implStrat_any p c h s seed n w7).mono ?_
  rintro e w8 ⟨x1, rfl, hJ, hb⟩
  rw [← HL.out] at hJ
  rw [← HK.out]
  have BH := xThen BG hb
  have HF9 := hid (HF8.out.mono hb)
  have HH9 := hid (HH8.out.mono hb)
  have HJ9 := hid hJ
  clear kG0 kG1 kG2 kG3 hb HF8 HH8 BG hJ
  go_wp2_with fail
  refine (eqRolls_any _ _ L w8 HJ9.out.at HF9.out.at).mono ?_
  rintro e w9 ⟨rfl, hb⟩
  have BI := xThen BH hb
  have HHb := hid (HH9.out.mono hb)
  clear hb HF9 HH9 HJ9 BH
  go_wp2_with fail
  refine (heldRolls_any _ 1 L.length w9 HHb.out hLm (by omega) (by omega)).mono ?_
  rintro e w10 ⟨rfl, rfl⟩
  go_wp2
  go_ret
  exact ⟨rfl, BI⟩
end Go.Proofs.Ytmcjabodkjlkgaa
