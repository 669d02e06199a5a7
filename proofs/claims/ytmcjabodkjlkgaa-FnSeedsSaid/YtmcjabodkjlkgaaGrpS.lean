/-
  Contract of the reference's group of stratified rolls, for every valid number of sides and every seed in range.
-/
import Derived.Test.YtmcjabodkjlkgaaGrpI
import Derived.Test.YtmcjabodkjlkgaaTailC
namespace Go.Proofs.Ytmcjabodkjlkgaa
open Go.RowKit

theorem FreshInts.grown {g1 n cap lo : Nat} {w w' : World} {row : Option Nat} {zs : List Int} (h : FreshInts w lo (.slice (some ⟨g1, 0, none⟩) n cap) zs) (hg : w.grownBy w' row) (hne : row ≠ some g1) : FreshInts w' lo (.slice (some ⟨g1, 0, none⟩) n cap) zs := by
  obtain ⟨hm, hn, h⟩ := h
  refine ⟨hm, hn, h.imp id ?_⟩
  rintro ⟨g', cap', cur, hv, hg', hh, r⟩
  have e : g' = g1 := by injection hv with e; injection e with e; injection e with e; exact e.symm
  subst e
  exact ⟨g', cap', cur, hv, hg', (hg.block g' (blk_lt hh) (fun e => hne e.symm)).trans hh, r⟩
theorem grown_blk {w w' : World} {row : Option Nat} {k : Nat} {o : Obj} (hg : w.grownBy w' row) (h : w.heap[k]? = some o) (hne : row ≠ some k) : w'.heap[k]? = some o := (hg.block k (blk_lt h) (fun e => hne e.symm)).trans h
theorem owns_slice {w : World} {base size n : Nat} {e : TypeId} {v : Value} {xs : List Value} (h : w.ownsRow base e size v n xs) : ∃ a cap, v = .slice a n cap ∧ ∀ k, v.ownBlock = some k → base ≤ k := by
  obtain ⟨_, ⟨rfl, rfl⟩ | ⟨g, cap, cur, rfl, hg, _⟩⟩ := h
  · exact ⟨_, _, rfl, by intro k hk; simp [Value.ownBlock] at hk⟩
  · exact ⟨_, _, rfl, by intro k hk; simp [Value.ownBlock] at hk; omega⟩

theorem cells_new (w : World) (cs : Array Value) (t : TypeId) : ∀ j u, cs.toList[j]? = some u → (w.alloc (.cells cs t)).cell? ((⟨w.heap.size, 0, none⟩ : Addr).add j) = some u := by
  intro j u h
  rw [Addr.add_lit, Nat.zero_add, cell_at (blk_new _ _)]
  simpa using h

set_option maxRecDepth 100000 in
set_option maxHeartbeats 2000000 in
theorem grpS_any (p c h s seed : Int) (w : World) (h0 : 1 ≤ s) (h1 : s ≤ 6) (d0 : 0 ≤ seed) (d1 : seed < 2147483647) :
    Calls Try.prog 93 #[.agg #[.int .i64 p, .int .i64 c, .int .i64 h, .int .i64 s], .int .i64 seed] w fun e w' => ∃ v, e = .returned (.tuple #[v, .int .i64 (grpS s seed)]) ∧ FreshRolls w' w.heap.size v (grp s seed) ∧ Below w.heap.size w w' := by
  obtain ⟨m, HM⟩ := named (sq s)
  have hb := sq_bd h0 h1
  rw [← HM.out] at hb
  obtain ⟨hm0, hm1, hm2⟩ := hb
  have hss : s * s = (m : Int) := hm2.symm
  clear hm2
  obtain ⟨i0, hi, hz0, hz1, hz2⟩ := info_parts info_int64
  obtain ⟨j0, hj, hy0, hy1, hy2⟩ := info_parts info_roll
  obtain ⟨bx, HBX⟩ := named w.heap.size
  go_enter Try.func93, Try.ntmps93
  go_wp2
  have B0 := blk_old (o' := .cells #[] 2) (blk_new w (.cells #[.int .i64 p, .int .i64 c, .int .i64 h, .int .i64 s] 29 (0, 0)))
  have B1 := World.ownsRow_made (base := w.heap.size + 1) (e := 2) (size := 1) (w.alloc (.cells #[.int .i64 p, .int .i64 c, .int .i64 h, .int .i64 s] 29 (0, 0))) #[] 0 (by simp) (Nat.zero_le _) rfl
  have B0 := hid B0
  have B1 := hid B1
  go_loopw [6, 7] (fun lv i wr => ∃ (k : Nat) (a : Option Addr) (cap : Nat), k ≤ m ∧ i = .int .i64 k ∧ lv = .slice a k cap ∧ wr.ownsRow (w.heap.size + 1) 2 1 (.slice a k cap) k ((iota k).map (Value.int .i64)) ∧ wr.heap[w.heap.size]? = some (.cells #[.int .i64 p, .int .i64 c, .int .i64 h, .int .i64 s] 29 (0, 0)) ∧ Below w.heap.size w wr ∧ w.heap.size + 1 ≤ wr.heap.size) (fun _ i _ => m - (intOf i).toNat)
  case atStart => exact ⟨0, some ⟨w.heap.size + 1, 0, none⟩, 0, by omega, rfl, rfl, by simpa [iota] using B1.out, B0.out, by (repeat' (first | (with_reducible exact Below.refl _ _) | (with_reducible assumption) | (with_reducible refine xAlloc ?_ _) | (with_reducible refine Below.drew ?_) | (with_reducible refine xDrewN ?_ _) | (with_reducible refine xThen ?_ (by with_reducible assumption)) | (with_reducible refine Below.setCell ?_ (by first | omega | (simp; omega) | simp) _) | exact Below.refl _ _)), by simp⟩
  case round =>
    clear B0 B1
    obtain ⟨k, a, cap, hk, rfl, rfl, hown, hbx, hbw, hsz⟩ := hrel
    have HOWN := hid hown
    have HX := hid hbx
    have HB := hid hbw
    have kx : wr.cell? ⟨w.heap.size, 3, none⟩ = some (.int .i64 s) := cell_at hbx
    by_cases hlt : k < m
    · have i1 : (k : Int) < (m : Int) := by omega
      clear hown hbx hbw
      go_wp2_with (at_builtin; refine wpList_append_own _ rfl _ _ 24 rfl (w.heap.size + 1) 2 i0 (.int .i64 0) 1 8 Try.underlying24 hi hz0 hz1 hz2 rfl (by decide) _ _ _ rfl (HOWN.out.alloc _) ⟨wr.heap.size, 0, none⟩ 1 1 [.int .i64 (k : Int)] rfl rfl ?c1 ?c2 ?c3 ?c4 ?c5 ?_)
      case c1 => exact cells_new _ _ _
      case c2 => intro u hu; simp at hu; subst hu; rfl
      case c3 => unfold maxLen; omega
      case c4 => omega
      case c5 => simp; omega
      intro v' w1 hown2 hgrow _
      have hob := (owns_slice HOWN.out).choose_spec.choose_spec.2
      obtain ⟨a', cap', rfl, _⟩ := owns_slice hown2
      have HOWN2 := hid hown2
      have HG := hid hgrow
      clear hown2 hgrow
      go_wp2
      go_roundw
      case rel =>
        refine ⟨k + 1, a', cap', by omega, by go_num, rfl, by rw [iota_succ, List.map_append]; exact HOWN2.out, ?_, ?_, ?_⟩
        · exact grown_blk HG.out (blk_old HX.out) (fun e => by have := (owns_slice HOWN.out).choose_spec.choose_spec.2 _ (by simpa using e); omega)
        · exact (HB.out.alloc HB.out.size _).grown HG.out (by simp; omega) (fun k hk => by have := (owns_slice HOWN.out).choose_spec.choose_spec.2 _ (by simpa using hk); omega)
        · have := HG.out.size; simp at this; omega
      case measure => simp [intOf]; omega
    · obtain rfl : k = m := by omega
      obtain ⟨n1, hn1⟩ : ∃ n1, k = n1 + 1 := ⟨k - 1, by omega⟩
      have HN := hid hn1
      have hf : FreshInts wr (w.heap.size + 1) (.slice a k cap) (iota k) := by
        refine ⟨by rw [iota_len]; omega, ?_⟩
        rw [iota_len]; exact hown
      obtain ⟨g, cap1, hv, hg, hgl⟩ := hf.addr (by intro e; have := iota_len k; rw [e] at this; simp at this; omega)
      rw [iota_len] at hv
      injection hv with e1 _ e3
      subst e1 e3
      have HF1 := hid hf
      have em : (k : Int) - 1 = (n1 : Int) := by omega
      have EM := hid em
      have HP0 : Hid (shuf n1 (iota k) seed = perm s seed) := hid (by unfold perm; rw [← HM.out, hn1]; rfl)
      have HI0 : Hid (In0 k (iota k)) := hid (In0.iota k)
      clear hn1 em hown hbx hbw hf
      go_wp2
      go_loopw [8, 1, 9, 10] (fun i sd _ _ wr => ∃ (j : Nat) (l : List Int) (sv : Int), i = .int .i64 j ∧ sd = .int .i64 sv ∧ shuf j l sv = perm s seed ∧ j < k ∧ l.length = k ∧ In0 k l ∧ 0 ≤ sv ∧ sv < 2147483647 ∧ FreshInts wr (w.heap.size + 1) (.slice (some ⟨g, 0, none⟩) k cap) l ∧ wr.heap[w.heap.size]? = some (.cells #[.int .i64 p, .int .i64 c, .int .i64 h, .int .i64 s] 29 (0, 0)) ∧ Below w.heap.size w wr) (fun i _ _ _ _ => (intOf i).toNat)
      case atStart => exact ⟨n1, iota k, seed, num EM.out, rfl, HP0.out, by have := HN.out; omega, iota_len k, HI0.out, d0, d1, HF1.out, HX.out, HB.out⟩
      case round =>
        clear HF1 HX HB HP0 HI0 HOWN
        obtain ⟨j, l, sv, rfl, rfl, hp, hjk, hlk, hin, sv0, sv1, hf, hbx, hbw⟩ := hrel
        have HP := hid hp
        have HLK := hid hlk
        have HIN := hid hin
        have HF := hid hf
        have HX := hid hbx
        have HB := hid hbw
        clear hp hlk hin hbx hbw
        cases j with
        | succ j =>
          have hq := nextS_bd sv
          obtain ⟨sn, HSN⟩ := named (nextS sv)
          rw [← HSN.out] at hq
          have hq2 : 0 ≤ sn % ((j : Int) + 1 + 1) ∧ sn % ((j : Int) + 1 + 1) < (j : Int) + 1 + 1 := ⟨Int.emod_nonneg _ (by omega), Int.emod_lt_of_pos _ (by omega)⟩
          obtain ⟨kk, hkk⟩ := Int.eq_ofNat_of_zero_le hq2.1
          rw [hkk] at hq2
          have HKK := hid hkk
          have kl1 : (kk : Int) < (k : Int) := by omega
          have kl2 : (j : Int) + 1 < (k : Int) := by omega
          have k0 : (0 : Int) ≤ (kk : Int) := by omega
          have hc1 := hf.cell (i := j + 1) (by have := HLK.out; omega)
          have hc2 := hf.cell (i := kk) (by have := HLK.out; omega)
          have hb1 := HIN.out.at (i := j + 1) (by have := HLK.out; omega)
          have hb2 := HIN.out.at (i := kk) (by have := HLK.out; omega)
          have hf1 := HF.out.froz (j + 1)
          have hf2 := HF.out.froz kk
          obtain ⟨x1, HX1⟩ := named (l.getD (j + 1) 0)
          obtain ⟨x2, HX2⟩ := named (l.getD kk 0)
          rw [← HX1.out] at hc1 hb1
          rw [← HX2.out] at hc2 hb2
          clear hf
          by_cases hjq : j + 1 = kk
          · subst hjq
            have e12 : x2 = x1 := by rw [HX1.out, HX2.out]
            subst e12
            clear hc2 hf2 hb2
            go_wp2_with (go_at_call 134; (with_reducible refine (specNextSeed_any _ _ (by omega) (by omega)).mono ?_); rw [← HSN.out]; rintro e _ ⟨rfl, rfl⟩)
            go_roundw
            case rel =>
              have eP : shuf j (swap2 l (j + 1) (j + 1)) sn = perm s seed := by
                rw [← HP.out, shuf, ← HSN.out]
                have e9 : (sn % ((j : Int) + 2)).toNat = (j + 1) := by
                  have h9 := HKK.out
                  rw [show (j : Int) + 1 + 1 = (j : Int) + 2 by omega] at h9
                  rw [h9]; simp
                rw [e9]
              refine ⟨j, swap2 l (j + 1) (j + 1), sn, by go_num, rfl, eP, by omega, by rw [swap2_len]; exact HLK.out, HIN.out.swap (by have := HLK.out; omega) (by have := HLK.out; omega), hq.1, hq.2, ?_, ?_, ?_⟩
              · unfold swap2
                first | rw [← HX1.out, ← HX2.out] | rw [← HX1.out]
                exact (HF.out.set (j + 1) x2).set (j + 1) x2
              · exact blk_set (blk_set HX.out (by omega)) (by omega)
              · exact (HB.out.setCell (by simp; omega) _).setCell (by simp; omega) _
            case measure => first | (simp [intOf]; done) | (simp [intOf]; omega)
          · have hjq2 : ¬ kk = j + 1 := fun e => hjq e.symm
            go_wp2_with (go_at_call 134; (with_reducible refine (specNextSeed_any _ _ (by omega) (by omega)).mono ?_); rw [← HSN.out]; rintro e _ ⟨rfl, rfl⟩)
            go_roundw
            case rel =>
              have eP : shuf j (swap2 l (j + 1) kk) sn = perm s seed := by
                rw [← HP.out, shuf, ← HSN.out]
                have e9 : (sn % ((j : Int) + 2)).toNat = kk := by
                  have h9 := HKK.out
                  rw [show (j : Int) + 1 + 1 = (j : Int) + 2 by omega] at h9
                  rw [h9]; simp
                rw [e9]
              refine ⟨j, swap2 l (j + 1) kk, sn, by go_num, rfl, eP, by omega, by rw [swap2_len]; exact HLK.out, HIN.out.swap (by have := HLK.out; omega) (by have := HLK.out; omega), hq.1, hq.2, ?_, ?_, ?_⟩
              · unfold swap2
                rw [← HX1.out, ← HX2.out]
                exact (HF.out.set (j + 1) x2).set kk x1
              · exact blk_set (blk_set HX.out (by omega)) (by omega)
              · exact (HB.out.setCell (by simp; omega) _).setCell (by simp; omega) _
            case measure => first | (simp [intOf]; done) | (simp [intOf]; omega)
        | zero =>
          have hpl : l = (perm s seed).1 ∧ sv = (perm s seed).2 := by have := HP.out; simp only [shuf] at this; rw [← this]; exact ⟨rfl, rfl⟩
          have HPL := hid hpl
          clear hf hpl
          go_wp2
          obtain ⟨g2, hg2⟩ := named wr.heap.size
          have hgl : g < wr.heap.size := by
            obtain ⟨_, cur, _, hh, _⟩ := HF.out.row
            exact blk_lt hh
          have hgb : w.heap.size + 1 ≤ g := hg
          have A1 := World.ownsRow_made (base := wr.heap.size) (e := 42) (size := 2) wr #[] 0 (Nat.le_refl _) (Nat.zero_le _) rfl
          have A2 := HF.out.mono (xAlloc (Below.refl _ _) (.cells #[] 42))
          have A3 := blk_old (o' := .cells #[] 42) HX.out
          have A4 := HB.out.alloc HB.out.size (.cells #[] 42)
          have A5 : wr.heap.size + 1 ≤ (wr.alloc (.cells #[] 42)).heap.size := by simp
          have g12 : g < g2 := by rw [hg2.out]; exact hgl
          rw [← hg2.out] at A1 A5 ⊢
          have A1 := hid A1
          have A2 := hid A2
          have A3 := hid A3
          have A4 := hid A4
          have A5 := hid A5
          clear HF HX HB hgl
          go_loopw [11, 12] (fun lv i w3 => ∃ (k3 : Nat) (a3 : Option Addr) (cap3 : Nat), k3 ≤ k ∧ i = .int .i64 k3 ∧ lv = .slice a3 k3 cap3 ∧ w3.ownsRow g2 42 2 (.slice a3 k3 cap3) k3 (rollCells ((l.take k3).map (pairOf s))) ∧ FreshInts w3 (w.heap.size + 1) (.slice (some ⟨g, 0, none⟩) k cap) l ∧ w3.heap[w.heap.size]? = some (.cells #[.int .i64 p, .int .i64 c, .int .i64 h, .int .i64 s] 29 (0, 0)) ∧ Below w.heap.size w w3 ∧ g2 + 1 ≤ w3.heap.size) (fun _ i _ => k - (intOf i).toNat)
          case atStart => exact ⟨0, some ⟨g2, 0, none⟩, 0, by omega, rfl, rfl, by simpa [rollCells] using A1.out, A2.out, A3.out, A4.out, A5.out⟩
          case round =>
            clear A1 A2 A3 A4 A5
            obtain ⟨k3, a3, cap3, hk3, rfl, rfl, hown, hf, hbx, hbw, hsz2⟩ := hrel
            have HOWN := hid hown
            have HF := hid hf
            have HX := hid hbx
            have HB := hid hbw
            by_cases hlt : k3 < k
            · have hc := hf.cell (i := k3) (by have := HLK.out; omega)
              have hbd := HIN.out.at (i := k3) (by have := HLK.out; omega)
              have i1 : (k3 : Int) < (k : Int) := by omega
              have HST := hid (take_map_snoc s l k3 (by have := HLK.out; omega))
              obtain ⟨x, HX1⟩ := named (l.getD k3 0)
              rw [← HX1.out] at hc hbd HST
              have kx : wr.cell? ⟨w.heap.size, 3, none⟩ = some (.int .i64 s) := cell_at hbx
              have q1 : 0 ≤ x / s ∧ x / s ≤ x := ⟨Int.ediv_nonneg hbd.1 (by omega), Int.ediv_le_self s hbd.1⟩
              have q2 : 0 ≤ x % s ∧ x % s < s := ⟨Int.emod_nonneg _ (by omega), Int.emod_lt_of_pos _ (by omega)⟩
              clear hf hbx hbw hown
              go_wp2
              have ew1 : IntKind.i64.wrap (x / s) = x / s := IntWalk.i64_in _ (by omega)
              have ew2 : IntKind.i64.wrap (1 + x / s) = 1 + x / s := IntWalk.i64_in _ (by omega)
              have ew3 : IntKind.i64.wrap (x % s) = x % s := IntWalk.i64_in _ (by omega)
              have ew4 : IntKind.i64.wrap (1 + x % s) = 1 + x % s := IntWalk.i64_in _ (by omega)
              have hk0 : ∀ xe : ExtW wr, xe.u.cell? ⟨w.heap.size, 3, none⟩ = some (.int .i64 s) := fun xe => xe.cell (by go_simp)
              have hk1 : ∀ xe : ExtW wr, xe.u.cell? ⟨g, k3, none⟩ = some (.int .i64 x) := fun xe => xe.cell (by go_simp)
              have hne : Nonempty (ExtW wr) := ⟨⟨_, Below.refl _ _⟩⟩
              refine wp_region_oth3 19 [true, true, true, true, true, true, true, true, true, true, true, true, true, true, true, true, true, true, false] [18] (by kernel_rfl) (by kernel_rfl) ?_
              simp only [sift, List.take_succ_cons, List.take_zero, List.drop_succ_cons, List.drop_zero]
              repeat (refine wpRel_step (fun K hK => ?_); first | (rw [if_pos (by rfl)]; refine rel_of_quiet rfl ?_; go_big_quiet_op; (refine hK _ ?_; clear hK K)) | (simp only [relAt]; go_simp; first | (refine hK _ ?_; clear hK K) | (apply Exists.intro; refine ⟨fun _ => ?_, hK _ ?_⟩; ((first | (go_at_call 135; exact specFaces_any _ _ _))); clear hK K)))
              refine wpRel_nil ?_
              clear hk0 hk1 hne
              clear ew1 ew2 ew3 ew4 hc kx
              refine wpOth_op rfl rfl (fun wa hba => ?_)
              unfold othAt
              go_simp
              refine ⟨by (repeat' (first | (with_reducible exact Below.refl _ _) | (with_reducible assumption) | (with_reducible refine xAlloc ?_ _) | (with_reducible refine Below.drew ?_) | (with_reducible refine xDrewN ?_ _) | (with_reducible refine xThen ?_ (by with_reducible assumption)) | (with_reducible refine Below.setCell ?_ (by first | omega | (simp; omega) | simp) _) | exact Below.refl _ _)), ?_⟩
              refine wpOth_tail (fun w1 hbb => ?_)
              have Cb : Below wr.heap.size wr w1 := xThen (xAlloc hba _) hbb
              have hnew := blk_mono hbb (blk_new wa _)
              have HN1 := hid hnew
              have HO1 := hid (HOWN.out.kept ⟨Cb.os, Cb.tape, Cb.output, Cb.size, fun k hk _ => Cb.block k hk⟩ (row := none) (by cases hv : (Value.slice a3 k3 cap3).ownBlock <;> simp))
              have HF1 := hid (HF.out.mono Cb)
              have HX2 := hid (blk_mono Cb HX.out)
              have HB1 := hid (xThen HB.out Cb)
              have hs1 : g2 + 1 ≤ w1.heap.size := Nat.le_trans hsz2 Cb.size
              clear hba hbb hnew Cb
              go_wp2_with (at_builtin; refine wpList_append_own _ rfl _ _ 66 rfl g2 42 j0 (.agg #[.int .i64 0, .int .i64 0]) 2 16 Try.underlying66 hj hy0 hy1 hy2 rfl (by decide) _ _ _ rfl HO1.out ⟨wa.heap.size, 0, none⟩ 1 1 [.int .i64 (1 + max (x / s) (x % s)), .int .i64 (1 + min (x / s) (x % s))] rfl rfl ?c1 ?c2 ?c3 ?c4 ?c5 ?_)
              case c1 =>
                intro j u hj
                rw [Addr.add_lit, Nat.zero_add, cell_at HN1.out]
                simpa using hj
              case c2 => intro u hu; simp at hu; rcases hu with rfl | rfl <;> rfl
              case c3 => unfold maxLen; omega
              case c4 => omega
              case c5 => omega
              intro v' w2 hown2 hgrow _
              obtain ⟨a', cap', rfl, _⟩ := owns_slice hown2
              have HOWN2 := hid hown2
              have HG := hid hgrow
              have hne : ∀ k, (Value.slice a3 k3 cap3).ownBlock = some k → g2 ≤ k := fun k hk => (HO1.out.lt k hk).1
              have HNE := hid hne
              clear hown2 hgrow hne
              go_wp2
              go_roundw
              case rel =>
                (repeat apply Exists.intro)
                refine ⟨⟨k3 + 1, a', cap', by omega, by go_num, rfl, ?_, HF1.out.grown HG.out (fun e => by have := HNE.out _ e; omega), grown_blk HG.out HX2.out (fun e => by have := HNE.out _ e; omega), ?_, ?_⟩, rfl⟩
                · rw [HST.out, rollCells_append]
                  have e1 : (pairOf s x).1 = 1 + max (x / s) (x % s) := by simp only [pairOf]; omega
                  have e2 : (pairOf s x).2 = 1 + min (x / s) (x % s) := by simp only [pairOf]; omega
                  have e3 : rollCells [pairOf s x] = [.int .i64 (1 + max (x / s) (x % s)), .int .i64 (1 + min (x / s) (x % s))] := by rw [← e1, ← e2]; rfl
                  rw [e3, List.map_take]
                  exact HOWN2.out
                · exact HB1.out.grown HG.out (by omega) (fun k hk => by have := HNE.out _ hk; omega)
                · exact Nat.le_trans hs1 HG.out.size
              case measure => simp [intOf]; omega
            · obtain rfl : k3 = k := by omega
              clear hf hbx hbw hown
              go_wp2
              go_ret2
              have hlen : (grp s seed).length = k3 := by rw [grp_len, ← HM.out]
              refine ⟨_, by rw [show grpS s seed = sv from HPL.out.2.symm]; rfl, ?_, HB.out⟩
              refine (FreshRolls.of_owns (lo := g2) (by rw [hlen]; omega) ?_).low (by omega)
              have := HOWN.out
              rw [List.take_of_length_le (by have := HLK.out; omega), HPL.out.1] at this
              rw [hlen]
              exact this
end Go.Proofs.Ytmcjabodkjlkgaa
