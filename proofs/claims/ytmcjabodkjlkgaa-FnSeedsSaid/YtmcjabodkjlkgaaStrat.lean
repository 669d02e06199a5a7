/-
  Contracts of both functions that return stratified rolls, for every variant, seed and number.
-/
import Derived.Test.YtmcjabodkjlkgaaGrpS
namespace Go.Proofs.Ytmcjabodkjlkgaa
open Go.RowKit

theorem isSeed_any (x : Int) (w : World) :
    Calls Try.prog 101 #[.int .i64 x] w fun e w' => e = .returned (.bool (inB x 1 2147483646)) ∧ w = w' := by
  go_enter Try.func101, Try.ntmps101
  go_wp2_with (go_at_call 83; refine (within_any _ _ _ _).mono ?_; rintro e w' ⟨rfl, rfl⟩)
  go_ret
  exact ⟨rfl, rfl⟩
theorem specSeed_any (x : Int) (w : World) :
    Calls Try.prog 133 #[.int .i64 x] w fun e w' => e = .returned (.bool (inB x 1 2147483646)) ∧ w = w' := by
  go_enter Try.func133, Try.ntmps133
  go_wp2_with (go_at_call 80; refine (l01In_any _ _ _ _).mono ?_; rintro e w' ⟨rfl, rfl⟩)
  go_ret
  exact ⟨rfl, rfl⟩
theorem codeR_cases (v : Bool) (seed n : Int) : codeR v seed n = if v then (if inB seed 1 2147483646 && decide (0 ≤ n) then (if 400 < n then 3 else 0) else 2) else 1 := by
  unfold codeR inB
  cases v <;> simp
theorem codeR_zero {v : Bool} {seed n : Int} (h : codeR v seed n = 0) : v = true ∧ 1 ≤ seed ∧ seed ≤ 2147483646 ∧ 0 ≤ n ∧ n ≤ 400 := by
  unfold codeR at h
  cases v
  · simp at h
  · simp only [if_true] at h
    split at h
    · next h1 =>
      split at h
      · omega
      · exact ⟨rfl, h1.1.1, h1.1.2, h1.2, by omega⟩
    · omega
theorem checkRolls_any (p c h s seed n : Int) (w : World) :
    Calls Try.prog 94 #[.agg #[.int .i64 p, .int .i64 c, .int .i64 h, .int .i64 s], .int .i64 seed, .int .i64 n] w fun e w' => e = .returned (.int .i64 (codeR (varB p c h s) seed n)) ∧ Below w.heap.size w w' := by
  go_enter Try.func94, Try.ntmps94
  go_wp2_with (first | (go_at_call 74; refine (isVariant_any _ _ _ _ _).mono ?_; rintro e w1 ⟨rfl, hb⟩; obtain ⟨hc, hf⟩ := bcell hb; have hsz := hb.size; (try simp at hsz); (try have hy0 : w.heap.size < w1.heap.size := by omega); (try have hy1 : w.heap.size + 1 < w1.heap.size := by omega); (try have hy2 : w.heap.size + 2 < w1.heap.size := by omega); (try have hyS : ws.heap.size < w1.heap.size := by omega); (try have hyG : wg.heap.size < w1.heap.size := by omega)) | (go_at_call 101; refine (isSeed_any _ _).mono ?_; rintro e w' ⟨rfl, rfl⟩))
  all_goals (go_ret; exact ⟨ret_int (by rw [codeR_cases]; first | (simp [*]; done) | (simp_all; done) | (simp_all; omega)), by (repeat' (first | (with_reducible exact Below.refl _ _) | (with_reducible assumption) | (with_reducible refine xAlloc ?_ _) | (with_reducible refine Below.drew ?_) | (with_reducible refine xDrewN ?_ _) | (with_reducible refine xThen ?_ (by with_reducible assumption)) | (with_reducible refine Below.setCell ?_ (by first | omega | (simp; omega) | simp) _) | exact Below.refl _ _))⟩)
theorem l07Code_any (p c h s seed n : Int) (w : World) :
    Calls Try.prog 92 #[.agg #[.int .i64 p, .int .i64 c, .int .i64 h, .int .i64 s], .int .i64 seed, .int .i64 n] w fun e w' => e = .returned (.int .i64 (codeR (varB p c h s) seed n)) ∧ Below w.heap.size w w' := by
  go_enter Try.func92, Try.ntmps92
  go_wp2_with (first | (go_at_call 67; refine (specIsVariant_any _ _ _ _ _).mono ?_; rintro e w1 ⟨rfl, hb⟩; obtain ⟨hc, hf⟩ := bcell hb; have hsz := hb.size; (try simp at hsz); (try have hy0 : w.heap.size < w1.heap.size := by omega); (try have hy1 : w.heap.size + 1 < w1.heap.size := by omega); (try have hy2 : w.heap.size + 2 < w1.heap.size := by omega); (try have hyS : ws.heap.size < w1.heap.size := by omega); (try have hyG : wg.heap.size < w1.heap.size := by omega)) | (go_at_call 133; refine (specSeed_any _ _).mono ?_; rintro e w' ⟨rfl, rfl⟩))
  all_goals (go_ret; exact ⟨ret_int (by rw [codeR_cases]; first | (simp [*]; done) | (simp_all; done) | (simp_all; omega)), by (repeat' (first | (with_reducible exact Below.refl _ _) | (with_reducible assumption) | (with_reducible refine xAlloc ?_ _) | (with_reducible refine Below.drew ?_) | (with_reducible refine xDrewN ?_ _) | (with_reducible refine xThen ?_ (by with_reducible assumption)) | (with_reducible refine Below.setCell ?_ (by first | omega | (simp; omega) | simp) _) | exact Below.refl _ _))⟩)

theorem grpS_bd (s seed : Int) (d0 : 0 ≤ seed) (d1 : seed < 2147483647) : 0 ≤ grpS s seed ∧ grpS s seed < 2147483647 := by
  have key : ∀ (i : Nat) (l : List Int) (x : Int), 0 ≤ x → x < 2147483647 → 0 ≤ (shuf i l x).2 ∧ (shuf i l x).2 < 2147483647 := by
    intro i
    induction i with
    | zero => intro l x h0 h1; exact ⟨h0, h1⟩
    | succ i ih => intro l x _ _; have := nextS_bd x; exact ih _ _ this.1 this.2
  exact key _ _ _ d0 d1
theorem seedAft_bd (s : Int) : ∀ (j : Nat) (x : Int), 0 ≤ x → x < 2147483647 → 0 ≤ seedAft s j x ∧ seedAft s j x < 2147483647
  | 0, x, h0, h1 => ⟨h0, h1⟩
  | j + 1, x, h0, h1 => by have := grpS_bd s x h0 h1; exact seedAft_bd s j _ this.1 this.2

theorem FreshRolls.cells {w : World} {lo g n cap : Nat} {rs : List (Int × Int)} (h : FreshRolls w lo (.slice (some ⟨g, 0, none⟩) n cap) rs) : ∀ j u, (rollCells rs)[j]? = some u → w.cell? ((⟨g, 0, none⟩ : Addr).add j) = some u := by
  intro j u hj
  obtain ⟨hm, ⟨h0, _⟩ | ⟨g', cap', cur, hv, hg, hh, h1, h2, h3, h4⟩⟩ := h
  · cases h0
  · injection hv with e
    injection e with e
    injection e with e
    subst e
    rw [Addr.add_lit, Nat.zero_add, cell_at hh, ← hj, ← h4]
    have : j < (rollCells rs).length := (List.getElem?_eq_some_iff.1 hj).1
    rw [rollCells_len] at this
    simp [this]
theorem rollCells_take (rs : List (Int × Int)) : ∀ n, rollCells (rs.take n) = (rollCells rs).take (n * 2) := by
  induction rs with
  | nil => intro n; simp [rollCells]
  | cons r rs ih =>
    intro n
    cases n with
    | zero => simp [rollCells]
    | succ n =>
      have e : ∀ l, rollCells (r :: l) = .int .i64 r.1 :: .int .i64 r.2 :: rollCells l := fun _ => rfl
      rw [List.take_succ_cons, e, e, ih n, show (n + 1) * 2 = n * 2 + 1 + 1 by omega, List.take_succ_cons, List.take_succ_cons]
theorem rollCells_one' (rs : List (Int × Int)) : ∀ u ∈ rollCells rs, u.oneCell' = true := by
  intro u hu
  simp only [rollCells, List.mem_flatMap] at hu
  obtain ⟨r, _, hr⟩ := hu
  simp at hr
  rcases hr with rfl | rfl <;> rfl

set_option maxHeartbeats 2000000 in
theorem stratI_any (p c h s seed : Int) (n : Nat) (w : World) (h0 : 1 ≤ s) (h1 : s ≤ 6) (d0 : 0 ≤ seed) (d1 : seed < 2147483647) (hn : n ≤ 400) :
    Calls Try.prog 95 #[.agg #[.int .i64 p, .int .i64 c, .int .i64 h, .int .i64 s], .int .i64 seed, .int .i64 n] w fun e w' => ∃ v, e = .returned v ∧ FreshRolls w' w.heap.size v (stratL s seed n) ∧ Below w.heap.size w w' := by
  obtain ⟨m, HM⟩ := named (sq s)
  have hb := sq_bd h0 h1
  rw [← HM.out] at hb
  obtain ⟨hm0, hm1, -⟩ := hb
  obtain ⟨j0, hj, hy0, hy1, hy2⟩ := info_parts info_roll
  have B0 := hid (blk_new w (.cells #[.int .i64 p, .int .i64 c, .int .i64 h, .int .i64 s] 29 (0, 0)))
  go_enter Try.func95, Try.ntmps95
  go_wp2
  go_loopw [7, 1, 8, 9] (fun lv sd _ _ wr => ∃ (j : Nat) (a : Option Addr) (cap : Nat), j ≤ n ∧ lv = .slice a (j * m) cap ∧ sd = .int .i64 (seedAft s j seed) ∧ wr.ownsRow (w.heap.size + 1) 42 2 (.slice a (j * m) cap) (j * m) (rollCells (grps s j seed)) ∧ wr.heap[w.heap.size]? = some (.cells #[.int .i64 p, .int .i64 c, .int .i64 h, .int .i64 s] 29 (0, 0)) ∧ Below w.heap.size w wr ∧ w.heap.size + 1 ≤ wr.heap.size) (fun lv _ _ _ _ => n - (match lv with | .slice _ k _ => k | _ => 0))
  case atStart => exact ⟨0, none, 0, by omega, by simp, rfl, by simpa [grps, rollCells] using World.ownsRow_nil _ _ _ _, B0.out, by (repeat' (first | (with_reducible exact Below.refl _ _) | (with_reducible assumption) | (with_reducible refine xAlloc ?_ _) | (with_reducible refine Below.drew ?_) | (with_reducible refine xDrewN ?_ _) | (with_reducible refine xThen ?_ (by with_reducible assumption)) | (with_reducible refine Below.setCell ?_ (by first | omega | (simp; omega) | simp) _) | exact Below.refl _ _)), by simp⟩
  case round =>
    clear B0
    obtain ⟨j, a, cap, hjn, rfl, rfl, hown, hbx, hbw, hsz⟩ := hrel
    have HOWN := hid hown
    have HX := hid hbx
    have HB := hid hbw
    have hsd := seedAft_bd s j seed d0 d1
    obtain ⟨sv, HSV⟩ := named (seedAft s j seed)
    rw [← HSV.out] at hsd ⊢
    obtain ⟨q, HQ⟩ := named (j * m)
    rw [← HQ.out] at HOWN ⊢
    clear hown hbx hbw
    by_cases hlt : q < n
    · have i1 : (q : Int) < (n : Int) := by omega
      have kx0 : wr.cell? ⟨w.heap.size, 0, none⟩ = some (.int .i64 p) := cell_at HX.out
      have kx1 : wr.cell? ⟨w.heap.size, 1, none⟩ = some (.int .i64 c) := cell_at HX.out
      have kx2 : wr.cell? ⟨w.heap.size, 2, none⟩ = some (.int .i64 h) := cell_at HX.out
      have kx3 : wr.cell? ⟨w.heap.size, 3, none⟩ = some (.int .i64 s) := cell_at HX.out
      have hjn1 : j < n := by have := HQ.out; have : j ≤ j * m := Nat.le_mul_of_pos_right j hm0; omega
      go_wp2_with (go_at_call 136; have hcl := grpI_any p c h s sv wr h0 h1 hsd.1 hsd.2; rw [← HM.out] at hcl; refine hcl.mono ?_; rintro e w1 ⟨g, rfl, hfr, hb⟩; refine Hid.out ?_)
      refine hid ?_
      have Hlen := hid (grp_len s sv)
      have hcells := fun j u hj => (FreshRolls.cells hfr j u hj)
      have HCL := hid hcells
      have HO1 := hid (HOWN.out.kept ⟨hb.os, hb.tape, hb.output, hb.size, fun k hk _ => hb.block k hk⟩ (row := none) (by cases hv : (Value.slice a q cap).ownBlock <;> simp))
      have HX2 := hid (blk_mono hb HX.out)
      have HB1 := hid (xThen HB.out hb)
      have hs1 : w.heap.size + 1 ≤ w1.heap.size := Nat.le_trans hsz hb.size
      clear kx0 kx1 kx2 kx3 hb hfr hcells
      go_wp2_with (at_builtin; refine wpList_append_own _ rfl _ _ 66 rfl (w.heap.size + 1) 42 j0 (.agg #[.int .i64 0, .int .i64 0]) 2 16 Try.underlying66 hj hy0 hy1 hy2 rfl (by decide) _ _ _ rfl HO1.out ⟨g, 0, none⟩ m m (rollCells (grp s sv)) rfl ?c1 ?c2 ?c3 ?c4 ?c5 ?c6 ?_)
      case c1 => rw [rollCells_len, Hlen.out, HM.out]
      case c2 => exact HCL.out
      case c3 => exact rollCells_one' _
      case c4 => unfold maxLen; omega
      case c5 => omega
      case c6 => omega
      intro v' w2 hown2 hgrow _
      obtain ⟨a', cap', rfl, _⟩ := owns_slice hown2
      have HOWN2 := hid hown2
      have HG := hid hgrow
      have hne : ∀ k, (Value.slice a q cap).ownBlock = some k → w.heap.size + 1 ≤ k := fun k hk => (HO1.out.lt k hk).1
      have HNE := hid hne
      clear hown2 hgrow hne
      go_wp2
      have eq1 : (j + 1) * m = q + m := by rw [Nat.succ_mul, ← HQ.out]
      have eqs : seedAft s (j + 1) seed = grpS s sv := by rw [seedAft_snoc, ← HSV.out]
      have eqg : rollCells (grps s (j + 1) seed) = rollCells (grps s j seed) ++ rollCells (grp s sv) := by rw [grps_snoc, rollCells_append, ← HSV.out]
      have hrel : ∃ (j : Nat) (a : Option Addr) (cap : Nat), j ≤ n ∧ Value.slice a' (q + m) cap' = .slice a (j * m) cap ∧ Value.int .i64 (grpS s sv) = .int .i64 (seedAft s j seed) ∧ w2.ownsRow (w.heap.size + 1) 42 2 (.slice a (j * m) cap) (j * m) (rollCells (grps s j seed)) ∧ w2.heap[w.heap.size]? = some (.cells #[.int .i64 p, .int .i64 c, .int .i64 h, .int .i64 s] 29 (0, 0)) ∧ Below w.heap.size w w2 ∧ w.heap.size + 1 ≤ w2.heap.size := by
        refine ⟨j + 1, a', cap', by omega, by rw [eq1], by rw [eqs], ?_, grown_blk HG.out HX2.out (fun e => by have := HNE.out _ e; omega), HB1.out.grown HG.out (by omega) (fun k hk => by have := HNE.out _ hk; omega), Nat.le_trans hs1 HG.out.size⟩
        rw [eqg, eq1]
        exact HOWN2.out
      have HREL := hid hrel
      clear hrel eq1 eqs eqg
      go_roundw
      case rel => first | exact HREL.out | ((repeat apply Exists.intro); exact ⟨HREL.out, rfl⟩)
      case measure => simp; omega
    · have hq : n ≤ q := by omega
      have HTK : Hid ((grps s j seed).take n = stratL s seed n) := hid (strat_take s seed n j (by rw [← HM.out]; omega) (by rw [← HM.out, ← HQ.out]; exact hq))
      have HLEN : Hid ((grps s j seed).length = q) := hid (by rw [grps_len, ← HM.out, HQ.out])
      have HLN : Hid ((stratL s seed n).length = n) := hid (stratL_len s seed n (by rw [← HM.out]; omega))
      obtain ⟨_, ⟨hv, hq0⟩ | ⟨g, cap', cur, hv, hg, hh, h1, h2, h3, h4⟩⟩ := HOWN.out
      · injection hv with e1 e2 e3
        subst e1 e3
        have hn0 : n = 0 := by omega
        subst hn0
        have hqz : q = 0 := hq0
        clear hq0
        subst hqz
        go_wp2
        go_ret
        exact ⟨_, rfl, ⟨by rw [HLN.out]; omega, .inl ⟨rfl, by rw [← List.length_eq_zero_iff, HLN.out]⟩⟩, HB.out⟩
      · injection hv with e1 e2 e3
        subst e1 e3
        have HH := hid hh
        have i1 : (n : Int) ≤ (q : Int) := by omega
        have i2 : (n : Int) ≤ (cap : Int) := by omega
        have H4 := hid h4
        have H3 := hid h3
        clear hh h4 h3
        go_wp2
        go_ret
        refine ⟨_, rfl, ⟨by rw [HLN.out]; omega, .inr ⟨g, n, cur, by rw [HLN.out]; rfl, by omega, HH.out, by rw [HLN.out]; omega, by omega, by have := H3.out; omega, ?_⟩⟩, HB.out⟩
        rw [HLN.out, ← HTK.out]
        rw [rollCells_take, ← H4.out, List.take_take, show min (n * 2) (q * 2) = n * 2 by omega]
end Go.Proofs.Ytmcjabodkjlkgaa
