/-
  Contracts of both StratifiedRolls functions, for every variant, seed and number.
-/
import Derived.Test.YtmcjabodkjlkgaaStrat
import Derived.Test.YtmcjabodkjlkgaaApp
namespace Go.Proofs.Ytmcjabodkjlkgaa
open Go.RowKit

def stratZ (p c h s seed n : Int) : List (Int × Int) := if codeR (varB p c h s) seed n = 0 then stratL s seed n.toNat else []
/-- the call has returned fresh rolls and a code -/
def RetRolls (w : World) (rs : List (Int × Int)) (code : Int) (e : Ending) (w' : World) : Prop :=
  ∃ v, e = .returned (.tuple #[v, .int .i64 code]) ∧ FreshRolls w' w.heap.size v rs ∧ Below w.heap.size w w'

set_option maxHeartbeats 1000000 in
theorem implStrat_any (p c h s seed n : Int) (w : World) :
    Calls Try.prog 41 #[.agg #[.int .i64 p, .int .i64 c, .int .i64 h, .int .i64 s], .int .i64 seed, .int .i64 n] w (RetRolls w (stratZ p c h s seed n) (codeR (varB p c h s) seed n)) := by
  by_cases hc : codeR (varB p c h s) seed n = 0
  · obtain ⟨hv, s0, s1, n0, n1⟩ := codeR_zero hc
    have hr := varB_true hv
    obtain ⟨k, rfl⟩ := Int.eq_ofNat_of_zero_le n0
    have HZ : Hid (stratZ p c h s seed k = stratL s seed k) := hid (by simp [stratZ, hc])
    have HC := hid hc
    clear hc hv
    go_enter Try.func41, Try.ntmps41
    go_wp2_with (first | (go_at_call 94; (with_reducible refine (checkRolls_any _ _ _ _ _ _ _).mono ?_); rw [HC.out]; rintro e w1 ⟨rfl, hb⟩; obtain ⟨hc, hf⟩ := bcell hb; have hsz := hb.size; (try simp at hsz); (try have hy0 : w.heap.size < w1.heap.size := by omega); (try have hy1 : w.heap.size + 1 < w1.heap.size := by omega); (try have hy2 : w.heap.size + 2 < w1.heap.size := by omega); (try have hyS : ws.heap.size < w1.heap.size := by omega); (try have hyG : wg.heap.size < w1.heap.size := by omega)) | (go_at_call 95; refine (stratI_any p c h s seed k _ (by omega) (by omega) (by omega) (by omega) (by omega)).mono ?_; rintro e w2 ⟨v, rfl, hfr, hb2⟩; have HF := hid hfr; clear hfr))
    go_ret2
    exact ⟨v, by rw [HC.out]; rfl, by rw [HZ.out]; exact HF.out.low (by omega), xThen (by (repeat' (first | (with_reducible exact Below.refl _ _) | (with_reducible assumption) | (with_reducible refine xAlloc ?_ _) | (with_reducible refine Below.drew ?_) | (with_reducible refine xDrewN ?_ _) | (with_reducible refine xThen ?_ (by with_reducible assumption)) | (with_reducible refine Below.setCell ?_ (by first | omega | (simp; omega) | simp) _) | exact Below.refl _ _))) hb2⟩
  · have hb0 : (codeR (varB p c h s) seed n != 0) = true := by simpa using hc
    have HZ : Hid (stratZ p c h s seed n = []) := hid (by simp [stratZ, hc])
    clear hc
    go_enter Try.func41, Try.ntmps41
    go_wp2_with (go_at_call 94; refine (checkRolls_any _ _ _ _ _ _ _).mono ?_; rintro e w1 ⟨rfl, hb⟩; obtain ⟨hc, hf⟩ := bcell hb; have hsz := hb.size; (try simp at hsz); (try have hy0 : w.heap.size < w1.heap.size := by omega); (try have hy1 : w.heap.size + 1 < w1.heap.size := by omega); (try have hy2 : w.heap.size + 2 < w1.heap.size := by omega); (try have hyS : ws.heap.size < w1.heap.size := by omega); (try have hyG : wg.heap.size < w1.heap.size := by omega))
    go_ret2
    exact ⟨_, rfl, by rw [HZ.out]; exact FreshRolls.nil _ _, by (repeat' (first | (with_reducible exact Below.refl _ _) | (with_reducible assumption) | (with_reducible refine xAlloc ?_ _) | (with_reducible refine Below.drew ?_) | (with_reducible refine xDrewN ?_ _) | (with_reducible refine xThen ?_ (by with_reducible assumption)) | (with_reducible refine Below.setCell ?_ (by first | omega | (simp; omega) | simp) _) | exact Below.refl _ _))⟩

theorem FreshRolls.cellAt {w : World} {lo g n cap : Nat} {rs : List (Int × Int)} (h : FreshRolls w lo (.slice (some ⟨g, 0, none⟩) n cap) rs) {i : Nat} (hi : i < rs.length) : w.cell? ⟨g, i * 2, none⟩ = some (.int .i64 (rs.getD i (0, 0)).1) ∧ w.cell? ⟨g, i * 2 + 1, none⟩ = some (.int .i64 (rs.getD i (0, 0)).2) := by
  have h1 := FreshRolls.cells h (i * 2) _ (rollCells_get rs i hi).1
  have h2 := FreshRolls.cells h (i * 2 + 1) _ (rollCells_get rs i hi).2
  rw [Addr.add_lit, Nat.zero_add] at h1 h2
  exact ⟨h1, h2⟩
theorem FreshRolls.grown {w w' : World} {lo g n cap : Nat} {row : Option Nat} {rs : List (Int × Int)} (h : FreshRolls w lo (.slice (some ⟨g, 0, none⟩) n cap) rs) (hg : w.grownBy w' row) (hne : row ≠ some g) : FreshRolls w' lo (.slice (some ⟨g, 0, none⟩) n cap) rs := by
  obtain ⟨hm, h⟩ := h
  refine ⟨hm, h.imp id ?_⟩
  rintro ⟨g', cap', cur, hv, hg', hh, r⟩
  have e : g' = g := by injection hv with e; injection e with e; injection e with e; exact e.symm
  subst e
  exact ⟨g', cap', cur, hv, hg', grown_blk hg hh hne, r⟩
theorem FreshRolls.addr {w : World} {lo : Nat} {v : Value} {rs : List (Int × Int)} (h : FreshRolls w lo v rs) (hne : rs ≠ []) : ∃ g cap, v = .slice (some ⟨g, 0, none⟩) rs.length cap ∧ lo ≤ g ∧ g < w.heap.size := by
  obtain ⟨hm, ⟨_, h0⟩ | ⟨g, cap, cur, hv, hg, hh, _⟩⟩ := h
  · exact absurd h0 hne
  · exact ⟨g, cap, hv, hg, blk_lt hh⟩
theorem below_grown {w w' : World} (hb : Below w.heap.size w w') (row : Option Nat) : w.grownBy w' row := ⟨hb.os, hb.tape, hb.output, hb.size, fun k hk _ => hb.block k hk⟩
theorem owns_below {w w' : World} {base size n : Nat} {e : TypeId} {v : Value} {xs : List Value} (h : w.ownsRow base e size v n xs) (hb : Below w.heap.size w w') : w'.ownsRow base e size v n xs :=
  h.kept (below_grown hb none) (by cases hv : v.ownBlock <;> simp)

set_option maxRecDepth 100000 in
set_option maxHeartbeats 4000000 in
theorem specStrat_any (p c h s seed n : Int) (w : World) :
    Calls Try.prog 40 #[.agg #[.int .i64 p, .int .i64 c, .int .i64 h, .int .i64 s], .int .i64 seed, .int .i64 n] w (RetRolls w (stratZ p c h s seed n) (codeR (varB p c h s) seed n)) := by
  by_cases hc : codeR (varB p c h s) seed n = 0
  · obtain ⟨hv, s0, s1, n0, n1⟩ := codeR_zero hc
    have hr := varB_true hv
    obtain ⟨k, rfl⟩ := Int.eq_ofNat_of_zero_le n0
    have HZ : Hid (stratZ p c h s seed k = stratL s seed k) := hid (by simp [stratZ, hc])
    have HC := hid hc
    obtain ⟨m, HM⟩ := named (sq s)
    have hb := sq_bd (show 1 ≤ s by omega) (show s ≤ 6 by omega)
    rw [← HM.out] at hb
    obtain ⟨hm0, hm1, -⟩ := hb
    obtain ⟨j0, hj, hy0, hy1, hy2⟩ := info_parts info_roll
    have B0 := hid (blk_old (o' := .cells #[] 42) (blk_new w (.cells #[.int .i64 p, .int .i64 c, .int .i64 h, .int .i64 s] 29 (0, 0))))
    have B1 := hid (World.ownsRow_made (base := w.heap.size + 1) (e := 42) (size := 2) (w.alloc (.cells #[.int .i64 p, .int .i64 c, .int .i64 h, .int .i64 s] 29 (0, 0))) #[] 0 (by simp) (Nat.zero_le _) rfl)
    clear hc hv
    go_enter Try.func40, Try.ntmps40
    go_wp2_with fail
    refine (l07Code_any _ _ _ _ _ _ _).mono ?_
    rw [HC.out]
    rintro e w1 ⟨rfl, hb⟩
    have B2 := hid (blk_mono hb B0.out)
    have B3 := hid (owns_below B1.out hb)
    have B4 : Below w.heap.size w w1 := by (repeat' (first | (with_reducible exact Below.refl _ _) | (with_reducible assumption) | (with_reducible refine xAlloc ?_ _) | (with_reducible refine Below.drew ?_) | (with_reducible refine xDrewN ?_ _) | (with_reducible refine xThen ?_ (by with_reducible assumption)) | (with_reducible refine Below.setCell ?_ (by first | omega | (simp; omega) | simp) _) | exact Below.refl _ _))
    have B5 := hb.size
    simp at B5
    clear B0 B1 hb
    go_wp2
    go_loopw [8, 10, 11, 12, 1] (fun lv _ _ _ sd wr => ∃ (j : Nat) (a : Option Addr) (cap q : Nat), q = ((grps s j seed).take k).length ∧ lv = .slice a q cap ∧ sd = .int .i64 (seedAft s j seed) ∧ wr.ownsRow (w.heap.size + 1) 42 2 (.slice a q cap) q (rollCells ((grps s j seed).take k)) ∧ wr.heap[w.heap.size]? = some (.cells #[.int .i64 p, .int .i64 c, .int .i64 h, .int .i64 s] 29 (0, 0)) ∧ Below w.heap.size w wr ∧ w.heap.size + 1 ≤ wr.heap.size) (fun lv _ _ _ _ _ => k - (match lv with | .slice _ k _ => k | _ => 0))
    case atStart => exact ⟨0, some ⟨w.heap.size + 1, 0, none⟩, 0, 0, by simp [grps], rfl, rfl, by simpa [grps, rollCells] using B3.out, B2.out, B4, by omega⟩
    case round =>
      clear B2 B3 B4 B5
      obtain ⟨j, a, cap, q, hq, rfl, rfl, hown, hbx, hbw, hsz⟩ := hrel
      have HOWN := hid hown
      have HX := hid hbx
      have HB := hid hbw
      have HQ := hid hq
      have hql : q ≤ k := by rw [hq, List.length_take]; omega
      have hsd := seedAft_bd s j seed (by omega) (by omega)
      obtain ⟨sv, HSV⟩ := named (seedAft s j seed)
      rw [← HSV.out] at hsd ⊢
      clear hown hbx hbw hq
      by_cases hlt : q < k
      · have hful : (grps s j seed).take k = grps s j seed := by
          have := HQ.out
          rw [List.length_take] at this
          exact List.take_of_length_le (by omega)
        have hqf : q = j * m := by have := HQ.out; rw [hful, grps_len, ← HM.out] at this; exact this
        have HFUL := hid hful
        have HQF := hid hqf
        have i1 : (q : Int) < (k : Int) := by omega
        clear hful hqf
        have kx0 : wr.cell? ⟨w.heap.size, 0, none⟩ = some (.int .i64 p) := cell_at HX.out
        have kx1 : wr.cell? ⟨w.heap.size, 1, none⟩ = some (.int .i64 c) := cell_at HX.out
        have kx2 : wr.cell? ⟨w.heap.size, 2, none⟩ = some (.int .i64 h) := cell_at HX.out
        have kx3 : wr.cell? ⟨w.heap.size, 3, none⟩ = some (.int .i64 s) := cell_at HX.out
        go_wp2_with fail
        refine (grpS_any p c h s sv wr (by omega) (by omega) hsd.1 hsd.2).mono ?_
        rintro e w2 ⟨v, rfl, hfr, hb⟩
        have hgl := grp_len s sv
        rw [← HM.out] at hgl
        obtain ⟨gg, capg, rfl, hgg, hgs⟩ := hfr.addr (by intro e; rw [e] at hgl; simp at hgl; omega)
        rw [hgl] at hfr ⊢
        have HGL := hid hgl
        have HFR := hid hfr
        have HO1 := hid (owns_below HOWN.out hb)
        have HX2 := hid (blk_mono hb HX.out)
        have HB1 := hid (xThen HB.out hb)
        have hne : (Value.slice a q cap).ownBlock ≠ some gg := fun e => by have := (HOWN.out.lt gg e).2; omega
        have HNE := hid hne
        clear kx0 kx1 kx2 kx3 hb hfr hgl hne
        go_wp2
        go_loopw [12, 8] (fun i lv wr => ∃ (i2 : Nat) (a2 : Option Addr) (cap2 : Nat), i2 ≤ m ∧ q + i2 ≤ k ∧ i = .int .i64 i2 ∧ lv = .slice a2 (q + i2) cap2 ∧ wr.ownsRow (w.heap.size + 1) 42 2 (.slice a2 (q + i2) cap2) (q + i2) (rollCells (grps s j seed ++ (grp s sv).take i2)) ∧ (Value.slice a2 (q + i2) cap2).ownBlock ≠ some gg ∧ FreshRolls wr (w.heap.size + 1) (.slice (some ⟨gg, 0, none⟩) m capg) (grp s sv) ∧ wr.heap[w.heap.size]? = some (.cells #[.int .i64 p, .int .i64 c, .int .i64 h, .int .i64 s] 29 (0, 0)) ∧ Below w.heap.size w wr ∧ gg < wr.heap.size) (fun i _ _ => m - (intOf i).toNat)
        case atStart => exact ⟨0, a, cap, by omega, by omega, rfl, rfl, by have := HO1.out; rw [HFUL.out] at this; simpa using this, HNE.out, HFR.out.low (by omega), HX2.out, HB1.out, hgs⟩
        case round =>
          clear HO1 HNE HFR HX2 HB1 HOWN HX HB
          obtain ⟨i2, a2, cap2, hi2, hqi, rfl, rfl, hown, hne, hfr, hbx, hbw, hgs2⟩ := hrel
          have HOWN := hid hown
          have HNE := hid hne
          have HFR := hid hfr
          have HX := hid hbx
          have HB := hid hbw
          clear hown hne hbx hbw
          have fin : ∀ {i2 : Nat} {a2 : Option Addr} {cap2 : Nat} {wr : World}, i2 ≤ m → q + i2 ≤ k → (i2 = m ∨ q + i2 = k) → wr.ownsRow (w.heap.size + 1) 42 2 (.slice a2 (q + i2) cap2) (q + i2) (rollCells (grps s j seed ++ (grp s sv).take i2)) → q + i2 = ((grps s (j + 1) seed).take k).length ∧ wr.ownsRow (w.heap.size + 1) 42 2 (.slice a2 (q + i2) cap2) (q + i2) (rollCells ((grps s (j + 1) seed).take k)) := by
            intro i2 a2 cap2 wr h1 h2 h3 ho
            have hl : (grps s j seed).length = q := by rw [grps_len, ← HM.out, HQF.out]
            have e : (grps s (j + 1) seed).take k = grps s j seed ++ (grp s sv).take i2 := by
              rw [grps_snoc, ← HSV.out, List.take_append, hl, List.take_of_length_le (by omega)]
              congr 1
              rcases h3 with h3 | h3
              · rw [List.take_of_length_le (by rw [HGL.out]; omega), List.take_of_length_le (by rw [HGL.out]; omega)]
              · rw [show k - q = i2 by omega]
            rw [e]
            exact ⟨by rw [List.length_append, hl, List.length_take, HGL.out]; omega, ho⟩
          have HEQS : Hid (seedAft s (j + 1) seed = grpS s sv) := hid (by rw [seedAft_snoc, ← HSV.out])
          by_cases hi : i2 < m
          · by_cases hqk : q + i2 < k
            · have hcl := hfr.cellAt (i := i2) (by rw [HGL.out]; exact hi)
              obtain ⟨x, HXX⟩ := named ((grp s sv).getD i2 (0, 0)).1
              obtain ⟨y, HYY⟩ := named ((grp s sv).getD i2 (0, 0)).2
              rw [← HXX.out, ← HYY.out] at hcl
              obtain ⟨kx0, kx1⟩ := hcl
              have i3 : (i2 : Int) < (m : Int) := by omega
              have i4 : ((q + i2 : Nat) : Int) < (k : Int) := by omega
              have HNB := hid (blk_new wr (.cells #[.int .i64 x, .int .i64 y] 42 (0, 0)))
              clear hfr
              go_wp2_with (at_builtin; refine wpList_append_lands _ rfl _ _ 66 rfl (w.heap.size + 1) 42 j0 (.agg #[.int .i64 0, .int .i64 0]) 2 16 Try.underlying66 hj hy0 hy1 hy2 rfl (by decide) _ _ _ rfl (HOWN.out.alloc _) ⟨wr.heap.size, 0, none⟩ 1 1 [.int .i64 x, .int .i64 y] rfl rfl ?c1 ?c2 ?c3 ?c4 ?c5 ?_)
              case c1 => exact cells_new wr #[.int .i64 x, .int .i64 y] _
              case c2 => intro u hu; simp at hu; rcases hu with rfl | rfl <;> rfl
              case c3 => unfold maxLen; omega
              case c4 => omega
              case c5 => simp; omega
              intro v' w3 hown3 hgrow hland
              obtain ⟨a', cap', rfl, _⟩ := owns_slice hown3
              have HOWN3 := hid hown3
              have HG := hid hgrow
              have HL := hid hland
              have hne : ∀ k, (Value.slice a2 (q + i2) cap2).ownBlock = some k → w.heap.size + 1 ≤ k := fun k hk => (HOWN.out.lt k hk).1
              have HNE2 := hid hne
              clear hown3 hgrow hland hne
              go_wp2
              have eqg : rollCells (grps s j seed ++ (grp s sv).take (i2 + 1)) = rollCells (grps s j seed ++ (grp s sv).take i2) ++ [.int .i64 x, .int .i64 y] := by
                rw [List.take_add_one, List.getElem?_eq_getElem (by rw [HGL.out]; exact hi), ← List.append_assoc, rollCells_append (grps s j seed ++ (grp s sv).take i2)]
                rw [HXX.out, HYY.out, List.getD_eq_getElem?_getD, List.getElem?_eq_getElem (by rw [HGL.out]; exact hi)]
                rfl
              have HEQ := hid eqg
              clear eqg
              go_roundw
              case rel =>
                refine ⟨i2 + 1, a', cap', by omega, by omega, by go_num, rfl, ?_, ?_, ?_, ?_, ?_, ?_⟩
                · rw [HEQ.out]; exact HOWN3.out
                · show (Value.slice a' (q + i2 + 1) cap').ownBlock ≠ some gg
                  rcases HL.out with e | e
                  · rw [e]; exact HNE.out
                  · rw [e]; simp; omega
                · exact (HFR.out.mono (xAlloc (Below.refl _ _) _)).grown HG.out HNE.out
                · exact grown_blk HG.out (blk_old HX.out) (fun e => by have := HNE2.out _ e; omega)
                · exact (HB.out.alloc HB.out.size _).grown HG.out (by simp; omega) (fun k hk => by have := HNE2.out _ hk; omega)
                · exact Nat.lt_of_lt_of_le (by simp; omega) HG.out.size
              case measure => simp [intOf]; omega
            · have i3 : (i2 : Int) < (m : Int) := by omega
              have i4 : ((q + i2 : Nat) : Int) = (k : Int) := by omega
              have HREL := hid (fin hi2 hqi (.inr (by omega)) HOWN.out)
              clear fin
              go_wp2_with fail
              go_roundw
              case rel => exact ⟨j + 1, a2, cap2, q + i2, HREL.out.1, rfl, by rw [HEQS.out], HREL.out.2, HX.out, HB.out, by omega⟩
              case measure => simp; omega
          · have i3 : (i2 : Int) = (m : Int) := by omega
            have HREL := hid (fin hi2 hqi (.inl (by omega)) HOWN.out)
            clear fin
            go_wp2_with fail
            go_roundw
            case rel => exact ⟨j + 1, a2, cap2, q + i2, HREL.out.1, rfl, by rw [HEQS.out], HREL.out.2, HX.out, HB.out, by omega⟩
            case measure => simp; omega
      · obtain rfl : q = k := by omega
        have hlen : (stratL s seed q).length = q := stratL_len s seed q (by rw [← HM.out]; omega)
        have HTK : Hid ((grps s j seed).take q = stratL s seed q) := hid (strat_take s seed q j (by rw [← HM.out]; omega) (by have := HQ.out; rw [List.length_take, grps_len] at this; omega))
        have HLN := hid hlen
        clear hlen
        go_wp2
        go_ret2
        refine ⟨_, by rw [HC.out]; rfl, ?_, HB.out⟩
        rw [HZ.out]
        have := HOWN.out
        rw [HTK.out] at this
        refine (FreshRolls.of_owns (lo := w.heap.size + 1) (by rw [HLN.out]; omega) ?_).low (by omega)
        rw [HLN.out]
        exact this
  · have hb0 : (codeR (varB p c h s) seed n != 0) = true := by simpa using hc
    have HZ : Hid (stratZ p c h s seed n = []) := hid (by simp [stratZ, hc])
    clear hc
    obtain ⟨j0, hj, hy0, hy1, hy2⟩ := info_parts info_roll
    have B1 := hid (World.ownsRow_made (base := w.heap.size + 1) (e := 42) (size := 2) (w.alloc (.cells #[.int .i64 p, .int .i64 c, .int .i64 h, .int .i64 s] 29 (0, 0))) #[] 0 (by simp) (Nat.zero_le _) rfl)
    go_enter Try.func40, Try.ntmps40
    go_wp2_with fail
    refine (l07Code_any _ _ _ _ _ _ _).mono ?_
    rintro e w1 ⟨rfl, hb⟩
    have B3 := hid (owns_below B1.out hb)
    have B4 : Below w.heap.size w w1 := by (repeat' (first | (with_reducible exact Below.refl _ _) | (with_reducible assumption) | (with_reducible refine xAlloc ?_ _) | (with_reducible refine Below.drew ?_) | (with_reducible refine xDrewN ?_ _) | (with_reducible refine xThen ?_ (by with_reducible assumption)) | (with_reducible refine Below.setCell ?_ (by first | omega | (simp; omega) | simp) _) | exact Below.refl _ _))
    clear B1 hb
    go_wp2_with fail
    go_ret2
    exact ⟨.slice (some ⟨w.heap.size + 1, 0, none⟩) 0 0, rfl, by rw [HZ.out]; exact (FreshRolls.of_owns (rs := []) (by simp) (by simpa [rollCells] using B3.out)).low (by omega), B4⟩
end Go.Proofs.Ytmcjabodkjlkgaa
