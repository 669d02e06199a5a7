/-
  Contracts of both BearoffNumber functions and the law over them: it returns true for every variant and position; no condition.
-/
import Derived.Test.YtdifaojcjcnokaaMathNum
import Derived.Test.YtdifaojcjcnokaaAt
namespace Go.Proofs.Ytdifaojcjcnokaa
open Go.RowKit

theorem implNum_any (p s : Int) (c h : Nat) (v : Value) (zs : List Int) (w : World) (hI : IntsAt w v zs) (hc : c ≤ 15) (hh : zs.length ≤ 25) (hz : ∀ i, 0 ≤ zs.getD i 0 ∧ zs.getD i 0 ≤ (c : Int)) (hs : sumTo zs zs.length ≤ c) (hok : chs c zs.length ≤ 1000000) :
    Calls Try.prog 68 #[.agg #[.int .i64 p, .int .i64 c, .int .i64 h, .int .i64 s], v] w fun e w' => e = .returned (.int .i64 (numD zs zs.length c)) ∧ Below w.heap.size w w' := by
  obtain ⟨a, cap, rfl, hm, ha⟩ := hI
  have HZ := hid hz
  have hTb := numD_bd zs zs.length c hh hc hs
  clear hz
  obtain ⟨T, HTT⟩ := named (numD zs zs.length c)
  rw [← HTT.out] at hTb
  rw [← HTT.out]
  go_enter Try.func68, Try.ntmps68
  go_wp2
  go_loop [5, 6, 7] (fun nn ll i => ∃ (j l n : Nat), i = .int .i64 ((j : Int) - 1) ∧ ll = .int .i64 l ∧ nn = .int .i64 n ∧ j ≤ zs.length ∧ l ≤ c ∧ sumTo zs j ≤ l ∧ n + numD zs j l = T) (fun _ _ i => (intOf i + 1).toNat)
  case atStart => exact ⟨zs.length, c, 0, rfl, rfl, rfl, by omega, by omega, hs, by have := HTT.out; omega⟩
  case round =>
    obtain ⟨j, l, n, rfl, rfl, rfl, hj, hl, hsu, hT⟩ := hrel
    cases j with
    | zero =>
      have hn0 : n = T := by simp [numD] at hT; omega
      have hT' := hid hT
      subst hn0
      clear hT
      go_wp2
      go_ret
      exact ⟨rfl, by (repeat' (first | exact Below.refl _ _ | (with_reducible assumption) | (with_reducible refine xAlloc ?_ _) | (with_reducible refine Below.drew ?_) | (with_reducible refine xDrewN ?_ _) | (with_reducible refine xThen ?_ (by with_reducible assumption)) | (with_reducible refine Below.setCell ?_ (by first | omega | (simp; omega) | simp) _)))⟩
    | succ j =>
      obtain ⟨b, off, rfl, hcell⟩ := ha.resolve_left (by rintro rfl; simp at hj)
      have hx := hcell j (by omega)
      have hbb := cell_block hx
      have hx2 := HZ.out j
      have hdg : (dg zs j : Int) = zs.getD j 0 := by simp only [dg]; omega
      obtain ⟨x, HX'⟩ := named (zs.getD j 0)
      rw [← HX'.out] at hx hx2 hdg
      have HX := hid hdg
      have e1 : ((j + 1 : Nat) : Int) - 1 = (j : Int) := by omega
      simp only [sumTo] at hsu
      simp only [numD] at hT
      have hdl : dg zs j ≤ l := by omega
      have hcb : chs l j ≤ 1000000 := by have := chs_left (m := l) (n := c) (i := j) hl hc (by omega); have := chs_mono (m := c) (i := j) (j := zs.length) hc (by omega) (by omega); omega
      have HCB := hid hcb
      clear hcell ha hdg hcb
      rw [e1]
      clear e1
      go_wp2
      go_loop [5, 8, 22] (fun nn _ i => ∃ d : Nat, d ≤ dg zs j ∧ i = .int .i64 d ∧ nn = .int .i64 ((n + skipTo j l d : Nat) : Int)) (fun _ _ i => (x - intOf i).toNat)
      case atStart => exact ⟨0, by omega, rfl, num (by simp [skipTo])⟩
      case round =>
        obtain ⟨d, hd, rfl, rfl⟩ := hrel
        have hsk := skipTo_mono j l hd
        have hch := chs_pos (m := l - d) (i := j) (by omega) (by omega)
        by_cases hlt : d < dg zs j
        · have hsn : skipTo j l d + chs (l - d) j ≤ skipTo j l (dg zs j) := skipTo_mono j l (d := d + 1) (by omega)
          have HSN := hid hsn
          have HT := hid hT
          have e : (l : Int) - (d : Int) = ((l - d : Nat) : Int) := by omega
          have HE := hid e
          have hlt' : (d : Int) < (x : Int) := by have := HX.out; omega
          clear hsn e
          go_wp2_with (go_at_call 50; rw [HE.out]; refine (listsUpTo_any _ _ (by omega) (by omega) _).mono ?_; rintro e w' ⟨rfl, rfl⟩)
          go_round
          case rel => exact ⟨d + 1, by omega, num (by omega), num (by have := HSN.out; simp only [skipTo]; omega)⟩
          case measure => have := HX.out; simp [intOf]; omega
        · have hdx : (d : Int) = x := by have := HX.out; omega
          have hnlt : ¬ ((d : Int) < x) := by omega
          have HNN : Hid (numD zs (j + 1) l = skipTo j l (dg zs j) + numD zs j (l - dg zs j)) := rfl
          obtain rfl : d = dg zs j := by have := HX.out; omega
          go_wp2
          go_round
          case rel => exact ⟨j, l - dg zs j, n + skipTo j l (dg zs j), num (by omega), num (by have := HX.out; omega), num (by omega), by omega, by omega, by omega, by omega⟩
          case measure => simp [intOf]

theorem specNum_any (p s : Int) (c h : Nat) (v : Value) (zs : List Int) (w : World) (hI : IntsAt w v zs) (hc : c ≤ 15) (hh : zs.length ≤ 25) (hz : ∀ i, 0 ≤ zs.getD i 0 ∧ zs.getD i 0 ≤ (c : Int)) (hs : sumTo zs zs.length ≤ c) (hok : chs c zs.length ≤ 1000000) :
    Calls Try.prog 67 #[.agg #[.int .i64 p, .int .i64 c, .int .i64 h, .int .i64 s], v] w fun e w' => e = .returned (.int .i64 (numD zs zs.length c)) ∧ Below w.heap.size w w' := by
  obtain ⟨a, cap, rfl, hm, ha⟩ := hI
  have HZ := hid hz
  have hTb := numD_bd zs zs.length c hh hc hs
  clear hz
  obtain ⟨T, HTT⟩ := named (numD zs zs.length c)
  rw [← HTT.out] at hTb
  rw [← HTT.out]
  go_enter Try.func67, Try.ntmps67
  go_wp2
  go_loop [5, 6, 7] (fun nn ll i => ∃ (j l n : Nat), i = .int .i64 ((j : Int) - 1) ∧ ll = .int .i64 l ∧ nn = .int .i64 n ∧ j ≤ zs.length ∧ l ≤ c ∧ sumTo zs j ≤ l ∧ n + numD zs j l = T) (fun _ _ i => (intOf i + 1).toNat)
  case atStart => exact ⟨zs.length, c, 0, rfl, rfl, rfl, by omega, by omega, hs, by have := HTT.out; omega⟩
  case round =>
    obtain ⟨j, l, n, rfl, rfl, rfl, hj, hl, hsu, hT⟩ := hrel
    cases j with
    | zero =>
      have hn0 : n = T := by simp [numD] at hT; omega
      have hT' := hid hT
      subst hn0
      clear hT
      go_wp2
      go_ret
      exact ⟨rfl, by (repeat' (first | exact Below.refl _ _ | (with_reducible assumption) | (with_reducible refine xAlloc ?_ _) | (with_reducible refine Below.drew ?_) | (with_reducible refine xDrewN ?_ _) | (with_reducible refine xThen ?_ (by with_reducible assumption)) | (with_reducible refine Below.setCell ?_ (by first | omega | (simp; omega) | simp) _)))⟩
    | succ j =>
      obtain ⟨b, off, rfl, hcell⟩ := ha.resolve_left (by rintro rfl; simp at hj)
      have hx := hcell j (by omega)
      have hbb := cell_block hx
      have hx2 := HZ.out j
      have hdg : (dg zs j : Int) = zs.getD j 0 := by simp only [dg]; omega
      obtain ⟨x, HX'⟩ := named (zs.getD j 0)
      rw [← HX'.out] at hx hx2 hdg
      have HX := hid hdg
      have e1 : ((j + 1 : Nat) : Int) - 1 = (j : Int) := by omega
      simp only [sumTo] at hsu
      simp only [numD] at hT
      have hdl : dg zs j ≤ l := by omega
      have hcb : chs l j ≤ 1000000 := by have := chs_left (m := l) (n := c) (i := j) hl hc (by omega); have := chs_mono (m := c) (i := j) (j := zs.length) hc (by omega) (by omega); omega
      have HCB := hid hcb
      clear hcell ha hdg hcb
      rw [e1]
      clear e1
      go_wp2
      go_loop [5, 8] (fun nn i => ∃ d : Nat, d ≤ dg zs j ∧ i = .int .i64 d ∧ nn = .int .i64 ((n + skipTo j l d : Nat) : Int)) (fun _ i => (x - intOf i).toNat)
      case atStart => exact ⟨0, by omega, rfl, num (by simp [skipTo])⟩
      case round =>
        obtain ⟨d, hd, rfl, rfl⟩ := hrel
        have hsk := skipTo_mono j l hd
        have hch := chs_pos (m := l - d) (i := j) (by omega) (by omega)
        by_cases hlt : d < dg zs j
        · have hsn : skipTo j l d + chs (l - d) j ≤ skipTo j l (dg zs j) := skipTo_mono j l (d := d + 1) (by omega)
          have HSN := hid hsn
          have HT := hid hT
          have e : (l : Int) - (d : Int) = ((l - d : Nat) : Int) := by omega
          have HE := hid e
          have hlt' : (d : Int) < (x : Int) := by have := HX.out; omega
          clear hsn e
          go_wp2_with (go_at_call 48; rw [HE.out]; refine (ways_any _ _ (by omega) (by omega) _).mono ?_; rw [ways_ok (by have := HCB.out; have := chs_left (m := l - d) (n := l) (i := j) (by omega) (by omega) (by omega); omega)]; rintro e w' ⟨rfl, rfl⟩)
          go_round
          case rel => exact ⟨d + 1, by omega, num (by omega), num (by have := HSN.out; simp only [skipTo]; omega)⟩
          case measure => have := HX.out; simp [intOf]; omega
        · have hdx : (d : Int) = x := by have := HX.out; omega
          have hnlt : ¬ ((d : Int) < x) := by omega
          have HNN : Hid (numD zs (j + 1) l = skipTo j l (dg zs j) + numD zs j (l - dg zs j)) := rfl
          obtain rfl : d = dg zs j := by have := HX.out; omega
          go_wp2
          go_round
          case rel => exact ⟨j, l - dg zs j, n + skipTo j l (dg zs j), num (by omega), num (by have := HX.out; omega), num (by omega), by omega, by omega, by omega, by omega⟩
          case measure => simp [intOf]

def numCode (p c h s : Int) (zs : List Int) : Int := if codeZ p c h s zs = 0 then (if countZ p c h s < 0 then 3 else 0) else codeZ p c h s zs
def numZ (p c h s : Int) (zs : List Int) : Int := if numCode p c h s zs = 0 then (numD zs zs.length c.toNat : Int) else 0

theorem implNumber_any (p c h s : Int) (v : Value) (zs : List Int) (w : World) (hI : IntsAt w v zs) :
    Calls Try.prog 35 #[.agg #[.int .i64 p, .int .i64 c, .int .i64 h, .int .i64 s], v] w fun e w' => e = .returned (.tuple #[.int .i64 (numZ p c h s zs), .int .i64 (numCode p c h s zs)]) ∧ Below w.heap.size w w' := by
  have hbd := countZ_bd (p := p) (c := c) (h := h) (s := s)
  rcases codeZ_cases p c h s zs with hc | ⟨hc, hv, hb⟩
  · have hn : (codeZ p c h s zs != 0) = true := by simp; omega
    have HC := hid hc
    clear hc
    go_enter Try.func35, Try.ntmps35
    go_wp2_with (go_at_call 57; refine (checkB_any _ _ _ _ _ zs _ (by (repeat (first | (with_reducible exact IntsAt.made _ _ (by omega) _) | (with_reducible assumption) | (with_reducible refine IntsAt.alloc ?_ _) | (with_reducible refine IntsAt.drew ?_) | (with_reducible refine IntsAt.drewN ?_ _) | (with_reducible refine IntsAt.mono ?_ (by with_reducible assumption)))))).mono ?_; rintro e w1 ⟨rfl, hb⟩; obtain ⟨hc, hf⟩ := bcell hb; have hsz := hb.size; (try simp at hsz); (try have hy0 : w.heap.size < w1.heap.size := by omega); (try have hy1 : w.heap.size + 1 < w1.heap.size := by omega); (try have hy2 : w.heap.size + 2 < w1.heap.size := by omega); (try have hyS : ws.heap.size < w1.heap.size := by omega); (try have hyG : wg.heap.size < w1.heap.size := by omega))
    go_ret2
    exact ⟨ret_ii (by have := HC.out; have h1 : ¬ codeZ p c h s zs = 0 := by omega
                      simp [numZ, numCode, h1]) (by have := HC.out; have h1 : ¬ codeZ p c h s zs = 0 := by omega
                                                    simp [numCode, h1]), by (repeat' (first | exact Below.refl _ _ | (with_reducible assumption) | (with_reducible refine xAlloc ?_ _) | (with_reducible refine Below.drew ?_) | (with_reducible refine xDrewN ?_ _) | (with_reducible refine xThen ?_ (by with_reducible assumption)) | (with_reducible refine Below.setCell ?_ (by first | omega | (simp; omega) | simp) _)))⟩
  · have hn : (codeZ p c h s zs != 0) = false := by simp; omega
    have HC := hid hc
    clear hc
    by_cases hcnt : countZ p c h s < 0
    · go_enter Try.func35, Try.ntmps35
      go_wp2_with (first | (go_at_call 57; refine (checkB_any _ _ _ _ _ zs _ (by (repeat (first | (with_reducible exact IntsAt.made _ _ (by omega) _) | (with_reducible assumption) | (with_reducible refine IntsAt.alloc ?_ _) | (with_reducible refine IntsAt.drew ?_) | (with_reducible refine IntsAt.drewN ?_ _) | (with_reducible refine IntsAt.mono ?_ (by with_reducible assumption)))))).mono ?_; rintro e w1 ⟨rfl, hb⟩; obtain ⟨hc, hf⟩ := bcell hb; have hsz := hb.size; (try simp at hsz); (try have hy0 : w.heap.size < w1.heap.size := by omega); (try have hy1 : w.heap.size + 1 < w1.heap.size := by omega); (try have hy2 : w.heap.size + 2 < w1.heap.size := by omega); (try have hyS : ws.heap.size < w1.heap.size := by omega); (try have hyG : wg.heap.size < w1.heap.size := by omega)) | (go_at_call 17; refine (implCount_any _ _ _ _ _).mono ?_; rintro e w1 ⟨rfl, hb⟩; obtain ⟨hc, hf⟩ := bcell hb; have hsz := hb.size; (try simp at hsz); (try have hy0 : w.heap.size < w1.heap.size := by omega); (try have hy1 : w.heap.size + 1 < w1.heap.size := by omega); (try have hy2 : w.heap.size + 2 < w1.heap.size := by omega); (try have hyS : ws.heap.size < w1.heap.size := by omega); (try have hyG : wg.heap.size < w1.heap.size := by omega)))
      go_ret2
      exact ⟨ret_ii (by simp [numZ, numCode, HC.out, hcnt]) (by simp [numCode, HC.out, hcnt]), by (repeat' (first | exact Below.refl _ _ | (with_reducible assumption) | (with_reducible refine xAlloc ?_ _) | (with_reducible refine Below.drew ?_) | (with_reducible refine xDrewN ?_ _) | (with_reducible refine xThen ?_ (by with_reducible assumption)) | (with_reducible refine Below.setCell ?_ (by first | omega | (simp; omega) | simp) _)))⟩
    · have hr := varB_true hv
      have hq := bearB_true (by omega) hb
      have hok := countZ_ok hv (by omega)
      obtain ⟨c, rfl⟩ := Int.eq_ofNat_of_zero_le (a := c) (by omega)
      obtain ⟨h, rfl⟩ := Int.eq_ofNat_of_zero_le (a := h) (by omega)
      have hsum := fits_sum (by omega) hq.2.1
      have HQ := hid hq
      have HO := hid hok
      have hlen : h = zs.length := by omega
      subst hlen
      have HS := hid hsum
      clear hq hb hok hsum
      go_enter Try.func35, Try.ntmps35
      go_wp2_with (first | (go_at_call 57; refine (checkB_any _ _ _ _ _ zs _ (by (repeat (first | (with_reducible exact IntsAt.made _ _ (by omega) _) | (with_reducible assumption) | (with_reducible refine IntsAt.alloc ?_ _) | (with_reducible refine IntsAt.drew ?_) | (with_reducible refine IntsAt.drewN ?_ _) | (with_reducible refine IntsAt.mono ?_ (by with_reducible assumption)))))).mono ?_; rintro e w1 ⟨rfl, hb⟩; obtain ⟨hc, hf⟩ := bcell hb; have hsz := hb.size; (try simp at hsz); (try have hy0 : w.heap.size < w1.heap.size := by omega); (try have hy1 : w.heap.size + 1 < w1.heap.size := by omega); (try have hy2 : w.heap.size + 2 < w1.heap.size := by omega); (try have hyS : ws.heap.size < w1.heap.size := by omega); (try have hyG : wg.heap.size < w1.heap.size := by omega)) | (go_at_call 17; refine (implCount_any _ _ _ _ _).mono ?_; rintro e w1 ⟨rfl, hb⟩; obtain ⟨hc, hf⟩ := bcell hb; have hsz := hb.size; (try simp at hsz); (try have hy0 : w.heap.size < w1.heap.size := by omega); (try have hy1 : w.heap.size + 1 < w1.heap.size := by omega); (try have hy2 : w.heap.size + 2 < w1.heap.size := by omega); (try have hyS : ws.heap.size < w1.heap.size := by omega); (try have hyG : wg.heap.size < w1.heap.size := by omega)) | (go_at_call 68; refine (implNum_any _ _ c zs.length _ zs _ (by (repeat (first | (with_reducible exact IntsAt.made _ _ (by omega) _) | (with_reducible assumption) | (with_reducible refine IntsAt.alloc ?_ _) | (with_reducible refine IntsAt.drew ?_) | (with_reducible refine IntsAt.drewN ?_ _) | (with_reducible refine IntsAt.mono ?_ (by with_reducible assumption))))) (by omega) (by omega) HQ.out.2.2 (by have := HS.out; omega) HO.out.2).mono ?_; rintro e w1 ⟨rfl, hb⟩; obtain ⟨hc, hf⟩ := bcell hb; have hsz := hb.size; (try simp at hsz); (try have hy0 : w.heap.size < w1.heap.size := by omega); (try have hy1 : w.heap.size + 1 < w1.heap.size := by omega); (try have hy2 : w.heap.size + 2 < w1.heap.size := by omega); (try have hyS : ws.heap.size < w1.heap.size := by omega); (try have hyG : wg.heap.size < w1.heap.size := by omega)))
      go_ret2
      exact ⟨ret_ii (by simp [numZ, numCode, HC.out, hcnt]) (by simp [numCode, HC.out, hcnt]), by (repeat' (first | exact Below.refl _ _ | (with_reducible assumption) | (with_reducible refine xAlloc ?_ _) | (with_reducible refine Below.drew ?_) | (with_reducible refine xDrewN ?_ _) | (with_reducible refine xThen ?_ (by with_reducible assumption)) | (with_reducible refine Below.setCell ?_ (by first | omega | (simp; omega) | simp) _)))⟩

theorem specNumber_any (p c h s : Int) (v : Value) (zs : List Int) (w : World) (hI : IntsAt w v zs) :
    Calls Try.prog 34 #[.agg #[.int .i64 p, .int .i64 c, .int .i64 h, .int .i64 s], v] w fun e w' => e = .returned (.tuple #[.int .i64 (numZ p c h s zs), .int .i64 (numCode p c h s zs)]) ∧ Below w.heap.size w w' := by
  have hbd := countZ_bd (p := p) (c := c) (h := h) (s := s)
  rcases codeZ_cases p c h s zs with hc | ⟨hc, hv, hb⟩
  · have hn : (codeZ p c h s zs != 0) = true := by simp; omega
    have HC := hid hc
    clear hc
    go_enter Try.func34, Try.ntmps34
    go_wp2_with (go_at_call 55; refine (l10Code_any _ _ _ _ _ zs _ (by (repeat (first | (with_reducible exact IntsAt.made _ _ (by omega) _) | (with_reducible assumption) | (with_reducible refine IntsAt.alloc ?_ _) | (with_reducible refine IntsAt.drew ?_) | (with_reducible refine IntsAt.drewN ?_ _) | (with_reducible refine IntsAt.mono ?_ (by with_reducible assumption)))))).mono ?_; rintro e w1 ⟨rfl, hb⟩; obtain ⟨hc, hf⟩ := bcell hb; have hsz := hb.size; (try simp at hsz); (try have hy0 : w.heap.size < w1.heap.size := by omega); (try have hy1 : w.heap.size + 1 < w1.heap.size := by omega); (try have hy2 : w.heap.size + 2 < w1.heap.size := by omega); (try have hyS : ws.heap.size < w1.heap.size := by omega); (try have hyG : wg.heap.size < w1.heap.size := by omega))
    go_ret2
    exact ⟨ret_ii (by have := HC.out; have h1 : ¬ codeZ p c h s zs = 0 := by omega
                      simp [numZ, numCode, h1]) (by have := HC.out; have h1 : ¬ codeZ p c h s zs = 0 := by omega
                                                    simp [numCode, h1]), by (repeat' (first | exact Below.refl _ _ | (with_reducible assumption) | (with_reducible refine xAlloc ?_ _) | (with_reducible refine Below.drew ?_) | (with_reducible refine xDrewN ?_ _) | (with_reducible refine xThen ?_ (by with_reducible assumption)) | (with_reducible refine Below.setCell ?_ (by first | omega | (simp; omega) | simp) _)))⟩
  · have hn : (codeZ p c h s zs != 0) = false := by simp; omega
    have HC := hid hc
    clear hc
    by_cases hcnt : countZ p c h s < 0
    · go_enter Try.func34, Try.ntmps34
      go_wp2_with (first | (go_at_call 55; refine (l10Code_any _ _ _ _ _ zs _ (by (repeat (first | (with_reducible exact IntsAt.made _ _ (by omega) _) | (with_reducible assumption) | (with_reducible refine IntsAt.alloc ?_ _) | (with_reducible refine IntsAt.drew ?_) | (with_reducible refine IntsAt.drewN ?_ _) | (with_reducible refine IntsAt.mono ?_ (by with_reducible assumption)))))).mono ?_; rintro e w1 ⟨rfl, hb⟩; obtain ⟨hc, hf⟩ := bcell hb; have hsz := hb.size; (try simp at hsz); (try have hy0 : w.heap.size < w1.heap.size := by omega); (try have hy1 : w.heap.size + 1 < w1.heap.size := by omega); (try have hy2 : w.heap.size + 2 < w1.heap.size := by omega); (try have hyS : ws.heap.size < w1.heap.size := by omega); (try have hyG : wg.heap.size < w1.heap.size := by omega)) | (go_at_call 15; refine (specCount_any _ _ _ _ _).mono ?_; rintro e w1 ⟨rfl, hb⟩; obtain ⟨hc, hf⟩ := bcell hb; have hsz := hb.size; (try simp at hsz); (try have hy0 : w.heap.size < w1.heap.size := by omega); (try have hy1 : w.heap.size + 1 < w1.heap.size := by omega); (try have hy2 : w.heap.size + 2 < w1.heap.size := by omega); (try have hyS : ws.heap.size < w1.heap.size := by omega); (try have hyG : wg.heap.size < w1.heap.size := by omega)))
      go_ret2
      exact ⟨ret_ii (by simp [numZ, numCode, HC.out, hcnt]) (by simp [numCode, HC.out, hcnt]), by (repeat' (first | exact Below.refl _ _ | (with_reducible assumption) | (with_reducible refine xAlloc ?_ _) | (with_reducible refine Below.drew ?_) | (with_reducible refine xDrewN ?_ _) | (with_reducible refine xThen ?_ (by with_reducible assumption)) | (with_reducible refine Below.setCell ?_ (by first | omega | (simp; omega) | simp) _)))⟩
    · have hr := varB_true hv
      have hq := bearB_true (by omega) hb
      have hok := countZ_ok hv (by omega)
      obtain ⟨c, rfl⟩ := Int.eq_ofNat_of_zero_le (a := c) (by omega)
      obtain ⟨h, rfl⟩ := Int.eq_ofNat_of_zero_le (a := h) (by omega)
      have hsum := fits_sum (by omega) hq.2.1
      have HQ := hid hq
      have HO := hid hok
      have hlen : h = zs.length := by omega
      subst hlen
      have HS := hid hsum
      clear hq hb hok hsum
      go_enter Try.func34, Try.ntmps34
      go_wp2_with (first | (go_at_call 55; refine (l10Code_any _ _ _ _ _ zs _ (by (repeat (first | (with_reducible exact IntsAt.made _ _ (by omega) _) | (with_reducible assumption) | (with_reducible refine IntsAt.alloc ?_ _) | (with_reducible refine IntsAt.drew ?_) | (with_reducible refine IntsAt.drewN ?_ _) | (with_reducible refine IntsAt.mono ?_ (by with_reducible assumption)))))).mono ?_; rintro e w1 ⟨rfl, hb⟩; obtain ⟨hc, hf⟩ := bcell hb; have hsz := hb.size; (try simp at hsz); (try have hy0 : w.heap.size < w1.heap.size := by omega); (try have hy1 : w.heap.size + 1 < w1.heap.size := by omega); (try have hy2 : w.heap.size + 2 < w1.heap.size := by omega); (try have hyS : ws.heap.size < w1.heap.size := by omega); (try have hyG : wg.heap.size < w1.heap.size := by omega)) | (go_at_call 15; refine (specCount_any _ _ _ _ _).mono ?_; rintro e w1 ⟨rfl, hb⟩; obtain ⟨hc, hf⟩ := bcell hb; have hsz := hb.size; (try simp at hsz); (try have hy0 : w.heap.size < w1.heap.size := by omega); (try have hy1 : w.heap.size + 1 < w1.heap.size := by omega); (try have hy2 : w.heap.size + 2 < w1.heap.size := by omega); (try have hyS : ws.heap.size < w1.heap.size := by omega); (try have hyG : wg.heap.size < w1.heap.size := by omega)) | (go_at_call 67; refine (specNum_any _ _ c zs.length _ zs _ (by (repeat (first | (with_reducible exact IntsAt.made _ _ (by omega) _) | (with_reducible assumption) | (with_reducible refine IntsAt.alloc ?_ _) | (with_reducible refine IntsAt.drew ?_) | (with_reducible refine IntsAt.drewN ?_ _) | (with_reducible refine IntsAt.mono ?_ (by with_reducible assumption))))) (by omega) (by omega) HQ.out.2.2 (by have := HS.out; omega) HO.out.2).mono ?_; rintro e w1 ⟨rfl, hb⟩; obtain ⟨hc, hf⟩ := bcell hb; have hsz := hb.size; (try simp at hsz); (try have hy0 : w.heap.size < w1.heap.size := by omega); (try have hy1 : w.heap.size + 1 < w1.heap.size := by omega); (try have hy2 : w.heap.size + 2 < w1.heap.size := by omega); (try have hyS : ws.heap.size < w1.heap.size := by omega); (try have hyG : wg.heap.size < w1.heap.size := by omega)))
      go_ret2
      exact ⟨ret_ii (by simp [numZ, numCode, HC.out, hcnt]) (by simp [numCode, HC.out, hcnt]), by (repeat' (first | exact Below.refl _ _ | (with_reducible assumption) | (with_reducible refine xAlloc ?_ _) | (with_reducible refine Below.drew ?_) | (with_reducible refine xDrewN ?_ _) | (with_reducible refine xThen ?_ (by with_reducible assumption)) | (with_reducible refine Below.setCell ?_ (by first | omega | (simp; omega) | simp) _)))⟩

theorem lawNumber (p c h s : Int) (_ : (Lit.int .i64 p).wf = true) (_ : (Lit.int .i64 c).wf = true) (_ : (Lit.int .i64 h).wf = true) (_ : (Lit.int .i64 s).wf = true)
    (a : Option Addr) (len cap : Nat) (z : List Int) (w : World) (hr : IsRow .i64 w a len cap z) :
    Calls Try.prog 9 #[.agg #[.int .i64 p, .int .i64 c, .int .i64 h, .int .i64 s], .slice a len cap] w fun e w' => e = .returned (.bool true) ∧ Below w.heap.size w w' := by
  by_cases hl : len ≤ 1048576
  · obtain ⟨zs, rfl, hI, h64⟩ := isRow_ints hr hl
    clear hr h64
    go_enter Try.func9, Try.ntmps9
    go_wp2_with (first | (go_at_call 16; refine (toVariant_any _ _ _ _ _).mono ?_; rintro e w1 ⟨rfl, hb⟩; obtain ⟨hc, hf⟩ := bcell hb; have hsz := hb.size; (try simp at hsz); (try have hy0 : w.heap.size < w1.heap.size := by omega); (try have hy1 : w.heap.size + 1 < w1.heap.size := by omega); (try have hy2 : w.heap.size + 2 < w1.heap.size := by omega); (try have hyS : ws.heap.size < w1.heap.size := by omega); (try have hyG : wg.heap.size < w1.heap.size := by omega)) | (go_at_call 19; refine (toInts_any _ zs _ (by (repeat (first | (with_reducible exact IntsAt.made _ _ (by omega) _) | (with_reducible assumption) | (with_reducible refine IntsAt.alloc ?_ _) | (with_reducible refine IntsAt.drew ?_) | (with_reducible refine IntsAt.drewN ?_ _) | (with_reducible refine IntsAt.mono ?_ (by with_reducible assumption)))))).mono ?_; rintro e w' ⟨rfl, rfl⟩) | (go_at_call 34; refine (specNumber_any _ _ _ _ _ zs _ (by (repeat (first | (with_reducible exact IntsAt.made _ _ (by omega) _) | (with_reducible assumption) | (with_reducible refine IntsAt.alloc ?_ _) | (with_reducible refine IntsAt.drew ?_) | (with_reducible refine IntsAt.drewN ?_ _) | (with_reducible refine IntsAt.mono ?_ (by with_reducible assumption)))))).mono ?_; rintro e w1 ⟨rfl, hb⟩; obtain ⟨hc, hf⟩ := bcell hb; have hsz := hb.size; (try simp at hsz); (try have hy0 : w.heap.size < w1.heap.size := by omega); (try have hy1 : w.heap.size + 1 < w1.heap.size := by omega); (try have hy2 : w.heap.size + 2 < w1.heap.size := by omega); (try have hyS : ws.heap.size < w1.heap.size := by omega); (try have hyG : wg.heap.size < w1.heap.size := by omega)) | (go_at_call 35; refine (implNumber_any _ _ _ _ _ zs _ (by (repeat (first | (with_reducible exact IntsAt.made _ _ (by omega) _) | (with_reducible assumption) | (with_reducible refine IntsAt.alloc ?_ _) | (with_reducible refine IntsAt.drew ?_) | (with_reducible refine IntsAt.drewN ?_ _) | (with_reducible refine IntsAt.mono ?_ (by with_reducible assumption)))))).mono ?_; rintro e w1 ⟨rfl, hb⟩; obtain ⟨hc, hf⟩ := bcell hb; have hsz := hb.size; (try simp at hsz); (try have hy0 : w.heap.size < w1.heap.size := by omega); (try have hy1 : w.heap.size + 1 < w1.heap.size := by omega); (try have hy2 : w.heap.size + 2 < w1.heap.size := by omega); (try have hyS : ws.heap.size < w1.heap.size := by omega); (try have hyG : wg.heap.size < w1.heap.size := by omega)) | (go_at_call 21; refine (eqInts_any _ _ zs zs _ (by (repeat (first | (with_reducible exact IntsAt.made _ _ (by omega) _) | (with_reducible assumption) | (with_reducible refine IntsAt.alloc ?_ _) | (with_reducible refine IntsAt.drew ?_) | (with_reducible refine IntsAt.drewN ?_ _) | (with_reducible refine IntsAt.mono ?_ (by with_reducible assumption))))) (by (repeat (first | (with_reducible exact IntsAt.made _ _ (by omega) _) | (with_reducible assumption) | (with_reducible refine IntsAt.alloc ?_ _) | (with_reducible refine IntsAt.drew ?_) | (with_reducible refine IntsAt.drewN ?_ _) | (with_reducible refine IntsAt.mono ?_ (by with_reducible assumption)))))).mono ?_; rintro e w' ⟨rfl, n, rfl⟩))
    go_ret
    exact ⟨rfl, by (repeat' (first | exact Below.refl _ _ | (with_reducible assumption) | (with_reducible refine xAlloc ?_ _) | (with_reducible refine Below.drew ?_) | (with_reducible refine xDrewN ?_ _) | (with_reducible refine xThen ?_ (by with_reducible assumption)) | (with_reducible refine Below.setCell ?_ (by first | omega | (simp; omega) | simp) _)))⟩
  · go_enter Try.func9, Try.ntmps9
    go_wp2
    go_ret
    exact ⟨rfl, by (repeat' (first | exact Below.refl _ _ | (with_reducible assumption) | (with_reducible refine xAlloc ?_ _) | (with_reducible refine Below.drew ?_) | (with_reducible refine xDrewN ?_ _) | (with_reducible refine xThen ?_ (by with_reducible assumption)) | (with_reducible refine Below.setCell ?_ (by first | omega | (simp; omega) | simp) _)))⟩
end Go.Proofs.Ytdifaojcjcnokaa
