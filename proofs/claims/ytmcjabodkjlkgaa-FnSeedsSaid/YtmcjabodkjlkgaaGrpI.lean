/-
  Contract of the program's group of stratified rolls, for every valid number of sides and every seed in range.
-/
import Derived.Test.YtmcjabodkjlkgaaRolls
import Derived.Test.YtmcjabodkjlkgaaMathStrat
import Derived.Test.YtmcjabodkjlkgaaStart
namespace Go.Proofs.Ytmcjabodkjlkgaa
open Go.RowKit

theorem nextSeed_any (x : Int) (w : World) (h0 : 0 ≤ x) (h1 : x ≤ 2147483647) :
    Calls Try.prog 102 #[.int .i64 x] w fun e w' => e = .returned (.int .i64 (nextS x)) ∧ w = w' := by
  go_enter Try.func102, Try.ntmps102
  go_wp2
  go_ret
  exact ⟨rfl, rfl⟩
theorem specNextSeed_any (x : Int) (w : World) (h0 : 0 ≤ x) (h1 : x ≤ 2147483647) :
    Calls Try.prog 134 #[.int .i64 x] w fun e w' => e = .returned (.int .i64 (nextS x)) ∧ w = w' := by
  go_enter Try.func134, Try.ntmps134
  go_wp2
  go_ret
  exact ⟨rfl, rfl⟩
theorem ret_pair {a b a' b' : Int} (h : a = a') (g : b = b') : Ending.returned (.agg #[.int .i64 a, .int .i64 b]) = .returned (.agg #[.int .i64 a', .int .i64 b']) := by rw [h, g]
theorem faces_any (a b : Int) (w : World) :
    Calls Try.prog 137 #[.int .i64 a, .int .i64 b] w fun e w' => e = .returned (.agg #[.int .i64 (max a b), .int .i64 (min a b)]) ∧ Below w.heap.size w w' := by
  go_enter Try.func137, Try.ntmps137
  go_wp2
  all_goals
    go_returns
    exact ⟨ret_pair (by omega) (by omega), by (repeat' (first | (with_reducible exact Below.refl _ _) | (with_reducible assumption) | (with_reducible refine xAlloc ?_ _) | (with_reducible refine Below.drew ?_) | (with_reducible refine xDrewN ?_ _) | (with_reducible refine xThen ?_ (by with_reducible assumption)) | (with_reducible refine Below.setCell ?_ (by first | omega | (simp; omega) | simp) _) | exact Below.refl _ _))⟩
theorem specFaces_any (a b : Int) (w : World) :
    Calls Try.prog 135 #[.int .i64 a, .int .i64 b] w fun e w' => e = .returned (.agg #[.int .i64 (max a b), .int .i64 (min a b)]) ∧ Below w.heap.size w w' := by
  go_enter Try.func135, Try.ntmps135
  go_wp2
  all_goals
    go_returns
    exact ⟨ret_pair (by omega) (by omega), by (repeat' (first | (with_reducible exact Below.refl _ _) | (with_reducible assumption) | (with_reducible refine xAlloc ?_ _) | (with_reducible refine Below.drew ?_) | (with_reducible refine xDrewN ?_ _) | (with_reducible refine xThen ?_ (by with_reducible assumption)) | (with_reducible refine Below.setCell ?_ (by first | omega | (simp; omega) | simp) _) | exact Below.refl _ _))⟩

theorem info_roll : (Try.prog.info? 42).map (fun i => (i.zero, i.size, i.bytes)) = some (some (.agg #[.int .i64 0, .int .i64 0]), 2, 16) := by kernel_rfl
/-- the cells of the rolls made of the first k elements -/
def madeR (s : Int) (l : List Int) (m k : Nat) : Array Value := (rollCells ((l.take k).map (pairOf s)) ++ List.replicate ((m - k) * 2) (Value.int .i64 0)).toArray
theorem makeRolls_run (m : Nat) (hm : m ≤ 1048576) (u : World) : (Instr.makeSlice 66 (.int .i64 (m : Int)) (.int .i64 (m : Int))).run Try.prog u =
      .ok (.slice (some ⟨u.heap.size, 0, none⟩) m m) (u.alloc (.cells (madeR 1 [] m 0) 42)) := by
  obtain ⟨i0, hi, hz0, hz1, hz2⟩ := info_parts info_roll
  have h := run_make (P := Try.prog) u 66 42 i0 _ Try.underlying66 hi hz0 .i64 .i64 (m : Int) (m : Int) (by omega) (Int.le_refl _) (by rw [hz2]; omega) (by omega)
  have e : madeCells #[Value.int .i64 0, Value.int .i64 0] (m * 2) = madeR 1 [] m 0 := by
    apply Array.ext
    · simp [madeCells, madeR, rollCells]
    · intro i h1 h2
      have : i % 2 = 0 ∨ i % 2 = 1 := by omega
      rcases this with h | h <;> simp [madeCells, madeR, rollCells, h]
  rw [← e]
  simpa [hz1, Value.cells] using h
theorem madeR_zero (s : Int) (l : List Int) (m : Nat) : madeR 1 [] m 0 = madeR s l m 0 := by simp [madeR, rollCells]
theorem madeR_step (s : Int) (l : List Int) (m k : Nat) (hk : k < m) (hl : l.length = m) : ((madeR s l m k).setIfInBounds (k * 2) (.int .i64 (pairOf s (l.getD k 0)).1)).setIfInBounds (k * 2 + 1) (.int .i64 (pairOf s (l.getD k 0)).2) = madeR s l m (k + 1) := by
  obtain ⟨d, hd⟩ : ∃ d, m - k = d + 1 := ⟨m - k - 1, by omega⟩
  have e : m - (k + 1) = d := by omega
  have hlen : (rollCells ((l.take k).map (pairOf s))).length = k * 2 := by rw [rollCells_len]; simp; omega
  apply Array.toList_inj.1
  simp only [madeR, Array.toList_setIfInBounds]
  rw [hd, e, take_map_snoc s l k (by omega), rollCells_append, List.append_assoc]
  have e2 : (d + 1) * 2 = d * 2 + 1 + 1 := by omega
  rw [e2, List.replicate_succ, List.replicate_succ, List.set_append_right _ _ (by omega), hlen, Nat.sub_self, List.set_cons_zero, List.set_append_right _ _ (by omega), hlen, show k * 2 + 1 - k * 2 = 1 by omega]
  rfl
theorem madeR_old (s : Int) (l : List Int) (m k : Nat) (hk : k < m) (hl : l.length = m) : (madeR s l m k)[k * 2]? = some (.int .i64 0) ∧ (madeR s l m k)[k * 2 + 1]? = some (.int .i64 0) := by
  have hlen : (rollCells ((l.take k).map (pairOf s))).length = k * 2 := by rw [rollCells_len]; simp; omega
  constructor
  · simp only [madeR, List.getElem?_toArray]
    rw [List.getElem?_append_right (by omega), hlen, List.getElem?_replicate, if_pos (by omega)]
  · simp only [madeR, List.getElem?_toArray]
    rw [List.getElem?_append_right (by omega), hlen, List.getElem?_replicate, if_pos (by omega)]
theorem madeR_all (s : Int) (l : List Int) (m : Nat) (hl : l.length = m) : madeR s l m m = (rollCells (l.map (pairOf s))).toArray := by
  simp [madeR, ← hl]

theorem of_alloc {w V : World} {o : Obj} (h : w.alloc o = V) : V.heap[w.heap.size]? = some o := h ▸ blk_new _ _

theorem FreshInts.wroteNe {g g1 n cap : Nat} {w w' : World} {lo : Nat} {zs : List Int} (h : FreshInts w lo (.slice (some ⟨g1, 0, none⟩) n cap) zs) (hw : Wrote g w w') (hg : g1 ≠ g) : FreshInts w' lo (.slice (some ⟨g1, 0, none⟩) n cap) zs := by
  obtain ⟨hm, hn, h⟩ := h
  refine ⟨hm, hn, h.imp id ?_⟩
  rintro ⟨g', cap', cur, hv, hg', hh, r⟩
  have e : g' = g1 := by injection hv with e; injection e with e; injection e with e; exact e.symm
  exact ⟨g', cap', cur, hv, hg', (hw.block g' (by omega)).trans hh, r⟩

set_option maxHeartbeats 2000000 in
theorem grpI_any (p c h s seed : Int) (w : World) (h0 : 1 ≤ s) (h1 : s ≤ 6) (d0 : 0 ≤ seed) (d1 : seed < 2147483647) :
    Calls Try.prog 136 #[.agg #[.int .i64 p, .int .i64 c, .int .i64 h, .int .i64 s], .int .i64 seed] w fun e w' => ∃ g, e = .returned (.tuple #[.slice (some ⟨g, 0, none⟩) (sq s) (sq s), .int .i64 (grpS s seed)]) ∧ FreshRolls w' w.heap.size (.slice (some ⟨g, 0, none⟩) (sq s) (sq s)) (grp s seed) ∧ Below w.heap.size w w' := by
  obtain ⟨m, HM⟩ := named (sq s)
  have hb := sq_bd h0 h1
  rw [← HM.out] at hb
  obtain ⟨hm0, hm1, hm2⟩ := hb
  have hmk := makeInts_run m (by omega)
  have hmr := makeRolls_run m (by omega)
  rw [← HM.out]
  have HM2 := hid hm2
  have hss : s * s = (m : Int) := hm2.symm
  clear hm2
  have hF0 := fresh_made (w.alloc (.cells #[.int .i64 p, .int .i64 c, .int .i64 h, .int .i64 s] 29 (0, 0))) m (by omega)
  rw [← iotaTo_zero] at hF0
  have HF0 := hid hF0
  clear hF0
  go_enter Try.func136, Try.ntmps136
  go_wp2
  obtain ⟨g1, hg1⟩ := named (w.heap.size + 1)
  have HBX0 : (w.alloc (.cells #[.int .i64 p, .int .i64 c, .int .i64 h, .int .i64 s] 29 (0, 0))).heap[w.heap.size]? = some (.cells #[.int .i64 p, .int .i64 c, .int .i64 h, .int .i64 s] 29 (0, 0)) := blk_new _ _
  have HBX1 := blk_old (o' := .cells (madeCells #[Value.int .i64 0] m) 2) HBX0
  have HBX2 := hid HBX1
  clear HBX0 HBX1
  go_loopw [21, 7] (fun i _ wr => ∃ k : Nat, k ≤ m ∧ i = .int .i64 k ∧ FreshInts wr (w.heap.size + 1) (.slice (some ⟨w.heap.size + 1, 0, none⟩) m m) (iotaTo m k) ∧ wr.heap[w.heap.size]? = some (.cells #[.int .i64 p, .int .i64 c, .int .i64 h, .int .i64 s] 29 (0, 0)) ∧ Below w.heap.size w wr) (fun i _ _ => m - (intOf i).toNat)
  case atStart => exact ⟨0, by omega, rfl, by simpa using HF0.out, HBX2.out, by (repeat' (first | (with_reducible exact Below.refl _ _) | (with_reducible assumption) | (with_reducible refine xAlloc ?_ _) | (with_reducible refine Below.drew ?_) | (with_reducible refine xDrewN ?_ _) | (with_reducible refine xThen ?_ (by with_reducible assumption)) | (with_reducible refine Below.setCell ?_ (by first | omega | (simp; omega) | simp) _) | exact Below.refl _ _))⟩
  case round =>
    obtain ⟨k, hk, rfl, hf, hbx, hbw⟩ := hrel
    have HF := hid hf
    have HX := hid hbx
    have HB := hid hbw
    by_cases hlt : k < m
    · have hc := hf.cell (i := k) (by rw [iotaTo_len m k hk]; exact hlt)
      have hfz := hf.froz k
      have i1 : (k : Int) < (m : Int) := by omega
      clear hf hbx hbw
      go_wp2
      go_roundw
      case rel => exact ⟨k + 1, by omega, by go_num, by rw [← iotaTo_step m k hlt]; exact HF.out.set k k, blk_set HX.out (by omega), HB.out.setCell (by simp) _⟩
      case measure => simp [intOf]; omega
    · obtain rfl : k = m := by omega
      rw [iotaTo_all] at hf
      have HF1 := hid hf
      clear hf hbx hbw HF
      go_wp2
      obtain ⟨n1, hn1⟩ : ∃ n1, k = n1 + 1 := ⟨k - 1, by omega⟩
      have HN := hid hn1
      have em : (k : Int) - 1 = (n1 : Int) := by omega
      have EM := hid em
      clear em
      have HP0 : Hid (shuf n1 (iota k) seed = perm s seed) := hid (by unfold perm; rw [← HM.out, hn1]; rfl)
      have HI0 : Hid (In0 k (iota k)) := hid (In0.iota k)
      clear hn1
      go_loopw [8, 1, 9] (fun i sd _ wr => ∃ (j : Nat) (l : List Int) (sv : Int), i = .int .i64 j ∧ sd = .int .i64 sv ∧ shuf j l sv = perm s seed ∧ j < k ∧ l.length = k ∧ In0 k l ∧ 0 ≤ sv ∧ sv < 2147483647 ∧ FreshInts wr (w.heap.size + 1) (.slice (some ⟨w.heap.size + 1, 0, none⟩) k k) l ∧ wr.heap[w.heap.size]? = some (.cells #[.int .i64 p, .int .i64 c, .int .i64 h, .int .i64 s] 29 (0, 0)) ∧ Below w.heap.size w wr) (fun i _ _ _ => (intOf i).toNat)
      case atStart => exact ⟨n1, iota k, seed, num EM.out, rfl, HP0.out, by have := HN.out; omega, iota_len k, HI0.out, d0, d1, HF1.out, HX.out, HB.out⟩
      case round =>
        clear HF1 HX HB HP0 HI0
        obtain ⟨j, l, sv, rfl, rfl, hp, hjk, hlk, hin, sv0, sv1, hf, hbx, hbw⟩ := hrel
        have HP := hid hp
        have HLK := hid hlk
        have HIN := hid hin
        have HF := hid hf
        have HX := hid hbx
        have HB := hid hbw
        clear hp hlk hin hbx hbw hmk
        cases j with
        | succ j =>
          have hq := nextS_bd sv
          obtain ⟨sn, HSN⟩ := named (nextS sv)
          rw [← HSN.out] at hq
          have hq2 : 0 ≤ sn % ((j : Int) + 1 + 1) ∧ sn % ((j : Int) + 1 + 1) < (j : Int) + 1 + 1 := ⟨Int.emod_nonneg _ (by omega), Int.emod_lt_of_pos _ (by omega)⟩
          obtain ⟨kk, hkk⟩ := Int.eq_ofNat_of_zero_le hq2.1
          rw [hkk] at hq2
          have HKK := hid hkk
          have kl1 : (kk : Int) < (k : Int) := by omega
          have kl2 : (j : Int) + 1 < (k : Int) := by omega
          have k0 : (0 : Int) ≤ (kk : Int) := by omega
          have hc1 := hf.cell (i := j + 1) (by have := HLK.out; omega)
          have hc2 := hf.cell (i := kk) (by have := HLK.out; omega)
          have hb1 := HIN.out.at (i := j + 1) (by have := HLK.out; omega)
          have hb2 := HIN.out.at (i := kk) (by have := HLK.out; omega)
          obtain ⟨x1, HX1⟩ := named (l.getD (j + 1) 0)
          obtain ⟨x2, HX2⟩ := named (l.getD kk 0)
          rw [← HX1.out] at hc1 hb1
          rw [← HX2.out] at hc2 hb2
          clear hf
          go_wp2_with (go_at_call 102; (with_reducible refine (nextSeed_any _ _ (by omega) (by omega)).mono ?_); rw [← HSN.out]; rintro e _ ⟨rfl, rfl⟩)
          have hf1 := HF.out.froz (j + 1)
          have hf2 := HF.out.froz kk
          by_cases hjq : j + 1 = kk
          · subst hjq
            have e12 : x2 = x1 := by rw [HX1.out, HX2.out]
            subst e12
            clear hc2 hf2 hb2
            go_region
            go_wp2
            go_roundw
            case rel =>
              have eP : shuf j (swap2 l (j + 1) (j + 1)) sn = perm s seed := by
                rw [← HP.out, shuf, ← HSN.out]
                have e9 : (sn % ((j : Int) + 2)).toNat = (j + 1) := by
                  have h9 := HKK.out
                  rw [show (j : Int) + 1 + 1 = (j : Int) + 2 by omega] at h9
                  rw [h9]; simp
                rw [e9]
              refine ⟨j, swap2 l (j + 1) (j + 1), sn, by go_num, rfl, eP, by omega, by rw [swap2_len]; exact HLK.out, HIN.out.swap (by have := HLK.out; omega) (by have := HLK.out; omega), hq.1, hq.2, ?_, ?_, ?_⟩
              · unfold swap2
                first | rw [← HX1.out, ← HX2.out] | rw [← HX1.out]
                exact ((HF.out.mono (Below.refl _ _).drew).set (j + 1) x2).set (j + 1) x2
              · exact blk_set (blk_set HX.out (by omega)) (by omega)
              · exact ((HB.out.drew).setCell (by simp) _).setCell (by simp) _
            case measure => first | (simp [intOf]; done) | (simp [intOf]; omega)
          · have hjq2 : ¬ kk = j + 1 := fun e => hjq e.symm
            go_region
            go_wp2
            go_roundw
            case rel =>
              have eP : shuf j (swap2 l (j + 1) kk) sn = perm s seed := by
                rw [← HP.out, shuf, ← HSN.out]
                have e9 : (sn % ((j : Int) + 2)).toNat = kk := by
                  have h9 := HKK.out
                  rw [show (j : Int) + 1 + 1 = (j : Int) + 2 by omega] at h9
                  rw [h9]; simp
                rw [e9]
              refine ⟨j, swap2 l (j + 1) kk, sn, by go_num, rfl, eP, by omega, by rw [swap2_len]; exact HLK.out, HIN.out.swap (by have := HLK.out; omega) (by have := HLK.out; omega), hq.1, hq.2, ?_, ?_, ?_⟩
              · unfold swap2
                first | rw [← HX1.out, ← HX2.out] | rw [← HX1.out]
                exact ((HF.out.mono (Below.refl _ _).drew).set (j + 1) x2).set kk x1
              · exact blk_set (blk_set HX.out (by omega)) (by omega)
              · exact ((HB.out.drew).setCell (by simp) _).setCell (by simp) _
            case measure => first | (simp [intOf]; done) | (simp [intOf]; omega)
        | zero =>
          have hpl : l = (perm s seed).1 ∧ sv = (perm s seed).2 := by have := HP.out; simp only [shuf] at this; rw [← this]; exact ⟨rfl, rfl⟩
          have HPL := hid hpl
          clear hf hpl
          go_wp2
          obtain ⟨g2, hg2⟩ := named wr.heap.size
          have hgl : w.heap.size + 1 < wr.heap.size := by
            obtain ⟨_, cur, _, hh, _⟩ := HF.out.row
            exact blk_lt hh
          have A1 := of_alloc (V := wr.alloc (.cells (madeR 1 [] k 0) 42)) rfl
          rw [madeR_zero s l, ← hg2.out] at A1
          have A2 := HF.out.mono (xAlloc (Below.refl _ _) (.cells (madeR 1 [] k 0) 42))
          have A3 := blk_old (o' := .cells (madeR 1 [] k 0) 42) HX.out
          have A4 := HB.out.alloc HB.out.size (.cells (madeR 1 [] k 0) 42)
          have g12 : w.heap.size + 1 < g2 := by rw [hg2.out]; exact hgl
          rw [← hg2.out]
          have A1 := hid A1
          have A2 := hid A2
          have A3 := hid A3
          have A4 := hid A4
          clear HF HX HB hgl hmr
          go_loopw [61, 11, 12] (fun i _ _ w3 => ∃ k3 : Nat, k3 ≤ k ∧ i = .int .i64 k3 ∧ w3.heap[g2]? = some (.cells (madeR s l k k3) 42 (0, 0)) ∧ FreshInts w3 (w.heap.size + 1) (.slice (some ⟨w.heap.size + 1, 0, none⟩) k k) l ∧ w3.heap[w.heap.size]? = some (.cells #[.int .i64 p, .int .i64 c, .int .i64 h, .int .i64 s] 29 (0, 0)) ∧ Below w.heap.size w w3) (fun i _ _ _ => k - (intOf i).toNat)
          case atStart => exact ⟨0, by omega, rfl, A1.out, A2.out, A3.out, A4.out⟩
          case round =>
            clear A1 A2 A3 A4
            obtain ⟨k3, hk3, rfl, hrr, hf, hbx, hbw⟩ := hrel
            have HR := hid hrr
            have HF := hid hf
            have HX := hid hbx
            have HB := hid hbw
            by_cases hlt : k3 < k
            · have hc := hf.cell (i := k3) (by have := HLK.out; omega)
              have hbd := HIN.out.at (i := k3) (by have := HLK.out; omega)
              have i1 : (k3 : Int) < (k : Int) := by omega
              have HST := hid (madeR_step s l k k3 hlt HLK.out)
              obtain ⟨x, HX1⟩ := named (l.getD k3 0)
              rw [← HX1.out] at hc hbd HST
              have kx : wr.cell? ⟨w.heap.size, 3, none⟩ = some (.int .i64 s) := cell_at hbx
              have q1 : 0 ≤ x / s ∧ x / s ≤ x := ⟨Int.ediv_nonneg hbd.1 (by omega), Int.ediv_le_self s hbd.1⟩
              have q2 : 0 ≤ x % s ∧ x % s < s := ⟨Int.emod_nonneg _ (by omega), Int.emod_lt_of_pos _ (by omega)⟩
              clear hf hbx hbw hrr
              go_wp2
              have ew1 : IntKind.i64.wrap (x / s) = x / s := IntWalk.i64_in _ (by omega)
              have ew2 : IntKind.i64.wrap (1 + x / s) = 1 + x / s := IntWalk.i64_in _ (by omega)
              have ew3 : IntKind.i64.wrap (x % s) = x % s := IntWalk.i64_in _ (by omega)
              have ew4 : IntKind.i64.wrap (1 + x % s) = 1 + x % s := IntWalk.i64_in _ (by omega)
              have hk0 : ∀ xe : ExtW wr, xe.u.cell? ⟨w.heap.size, 3, none⟩ = some (.int .i64 s) := fun xe => xe.cell (by go_simp)
              have hk1 : ∀ xe : ExtW wr, xe.u.cell? ⟨w.heap.size + 1, k3, none⟩ = some (.int .i64 x) := fun xe => xe.cell (by go_simp)
              have hne : Nonempty (ExtW wr) := ⟨⟨_, Below.refl _ _⟩⟩
              refine wp_region_ext_tail 14 (by kernel_rfl) (by kernel_rfl) ?_
              simp only [List.take_succ_cons, List.take_zero, List.drop_succ_cons, List.drop_zero]
              repeat (first | go_big_quiet_step ((first | (go_at_call 137; exact ext_call (faces_any _ _ _)))) | quiet_step ((first | (go_at_call 137; exact ext_call (faces_any _ _ _)))))
              refine wpQuiet_nil ?_
              rintro w1 ⟨⟨_, hb⟩, rfl⟩
              obtain ⟨hc, hf⟩ := bcell hb
              have hsz := hb.size
              (try simp at hsz)
              (try have hy0 : w.heap.size < w1.heap.size := by omega)
              (try have hy1 : w.heap.size + 1 < w1.heap.size := by omega)
              (try have hy2 : w.heap.size + 2 < w1.heap.size := by omega)
              (try have hyS : ws.heap.size < w1.heap.size := by omega)
              (try have hyG : wg.heap.size < w1.heap.size := by omega)
              clear ew1 ew2 ew3 ew4
              have HR1 := hid (blk_mono hb HR.out)
              have HF1 := hid (HF.out.mono hb)
              have HX2 := hid (blk_mono hb HX.out)
              have HB1 := hid (xThen HB.out hb)
              have o0 := madeR_old s l k k3 hlt HLK.out
              have kc0 : w1.cell? ⟨g2, k3 * 2, none⟩ = some (.int .i64 0) := by rw [cell_at HR1.out]; exact o0.1
              have kc1 : w1.cell? ⟨g2, k3 * 2 + 1, none⟩ = some (.int .i64 0) := by rw [cell_at HR1.out]; exact o0.2
              have kf0 : w1.frozen? ⟨g2, k3 * 2, none⟩ = false := frozen_at HR1.out
              have kf1 : w1.frozen? ⟨g2, k3 * 2 + 1, none⟩ = false := frozen_at HR1.out
              clear hc hf hb hk0 hk1 hne o0 kx
              go_wp2
              go_roundw
              case rel =>
                refine ⟨k3 + 1, by omega, by go_num, ?_, ?_, blk_set (blk_set HX2.out (by omega)) (by omega), (HB1.out.setCell (by simp; omega) _).setCell (by simp; omega) _⟩
                · have e1 : (pairOf s x).1 = 1 + max (x / s) (x % s) := by simp only [pairOf]; omega
                  have e2 : (pairOf s x).2 = 1 + min (x / s) (x % s) := by simp only [pairOf]; omega
                  rw [← HST.out, e1, e2]
                  exact heap_setCell_at (heap_setCell_at HR1.out)
                · exact HF1.out.wroteNe (((Wrote.refl g2 w1).setCell _ _).setCell _ _) (by omega)
              case measure => simp [intOf]; omega
            · obtain rfl : k3 = k := by omega
              clear hf hbx hbw hrr
              go_wp2
              go_ret2
              have hlen : (grp s seed).length = k3 := by rw [grp_len, ← HM.out]
              refine ⟨g2, by rw [show grpS s seed = sv from HPL.out.2.symm]; rfl, ⟨by rw [hlen]; omega, .inr ⟨g2, k3, _, by rw [hlen], by omega, HR.out, by omega, by unfold maxLen; omega, ?_, ?_⟩⟩, HB.out⟩
              · rw [madeR_all s l k3 HLK.out]
                simp [rollCells_len, HLK.out]
              · rw [madeR_all s l k3 HLK.out, hlen, HPL.out.1]
                show (rollCells (grp s seed)).take (k3 * 2) = _
                rw [List.take_of_length_le (by rw [rollCells_len, hlen]; omega)]
end Go.Proofs.Ytmcjabodkjlkgaa
