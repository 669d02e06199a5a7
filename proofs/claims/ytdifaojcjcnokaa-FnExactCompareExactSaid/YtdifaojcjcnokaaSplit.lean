/-
  The digits of a number: the contract of l09Split.
-/
import Derived.Test.YtdifaojcjcnokaaCmp
import Derived.Test.YtdifaojcjcnokaaNext
namespace Go.Proofs.Ytdifaojcjcnokaa
open Go.RowKit

theorem fresh_one (w : World) (lo : Nat) (z : Int) (hlo : lo ≤ w.heap.size) : FreshInts (w.alloc (.cells #[.int .i64 z] 2)) lo (.slice (some ⟨w.heap.size, 0, none⟩) 1 1) [z] :=
  FreshInts.mk (zs := [z]) (cur := #[.int .i64 z]) (by simp) hlo (by show (w.heap.push _)[w.heap.size]? = _; simp) (by simp) (by simp [maxLen]) (by simp)
theorem fresh_push {w1 : World} {lo : Nat} {v' : Value} {zs : List Int} {z : Int} (hm : zs.length < 1048576) (ho : w1.ownsRow lo 2 1 v' (zs.length + 1) (zs.map (Value.int .i64) ++ [.int .i64 z])) : FreshInts w1 lo v' (zs ++ [z]) :=
  ⟨by simp; omega, by simpa using ho⟩
theorem newOne (w : World) (z : Int) : ∀ (j : Nat) (u : Value), [Value.int .i64 z][j]? = some u → (w.alloc (.cells #[.int .i64 z] 2)).cell? ((⟨w.heap.size, 0, none⟩ : Addr).add j) = some u := by
  intro j u hj
  match j, hj with
  | 0, hj => simp at hj; subst hj; simp [Addr.add]
theorem oneOne (z : Int) : ∀ u ∈ [Value.int .i64 z], u.oneCell' = true := by
  intro u hu; simp at hu; subst hu; rfl
theorem own_lo {w : World} {lo : Nat} {v : Value} {zs : List Int} (h : FreshInts w lo v zs) : ∀ k, v.ownBlock = some k → lo ≤ k := fun k hk => (h.2.lt k hk).1

set_option maxHeartbeats 2000000 in
theorem split_any (p c h s x : Int) (b d : Nat) (hBs : Base s b) (hx : exB b x d = true) (w : World) :
    Calls Try.prog 87 #[.agg #[.int .i64 p, .int .i64 c, .int .i64 h, .int .i64 s], .agg #[.int .i64 x, .int .i64 d]] w fun e w' =>
      ∃ v, e = .returned v ∧ FreshInts w' w.heap.size v (digs b x d d) ∧ Below w.heap.size w w' := by
  obtain ⟨i0, hi, hz0, hz1, hz2⟩ := info_parts info_int64
  obtain ⟨_, hx2, hx3, hx4, _⟩ := exB_true hx
  rw [Int.toNat_natCast] at hx4
  have HB := hid hBs
  have HX4 := hid hx4
  have hb1 := hBs.2.2.2.1
  have hb2 := hBs.2.2.2.2
  have hS1 : 1 ≤ b ^ d := Nat.pow_pos hb1
  have cS : (b : Int) ^ d = ((b ^ d : Nat) : Int) := (Int.natCast_pow _ _).symm
  have hE := euclid (x := x) hS1
  obtain ⟨S, HS⟩ := named (b ^ d)
  rw [← HS.out] at hS1 hx4 hE
  have HE := hid hE
  have hm1 := Int.tmod_lt_of_pos x (show (0 : Int) < S by omega)
  have h3 : (x.tdiv (S : Int)).natAbs ≤ x.natAbs := by rw [Int.natAbs_tdiv]; exact Nat.div_le_self _ _
  have HO : Hid (-1000000000000000001 ≤ x.tdiv (S : Int) ∧ x.tdiv (S : Int) ≤ 1000000000000000001) := hid (by omega)
  have cSI := hid cS
  clear hx hE cS hBs h3
  go_enter Try.func87, Try.ntmps87
  go_wp2_with (first | (go_at_call 63; (with_reducible refine (l09Scale_pow _ _ _ _ b d d S HB.out (Nat.le_refl _) HX4.out (by omega) HS.out.symm _).mono ?_); rintro e w1 ⟨rfl, hb⟩; obtain ⟨hc, hf⟩ := bcell hb; have hsz := hb.size; (try simp at hsz); (try have hy0 : w.heap.size < w1.heap.size := by omega); (try have hy1 : w.heap.size + 1 < w1.heap.size := by omega); (try have hy2 : w.heap.size + 2 < w1.heap.size := by omega); (try have hyS : ws.heap.size < w1.heap.size := by omega); (try have hyG : wg.heap.size < w1.heap.size := by omega)))
  all_goals
    have KV : w1.heap[w.heap.size]? = some (.cells #[.int .i64 p, .int .i64 c, .int .i64 h, .int .i64 s] 25 (0, 0)) := blk_mono hb (blk_old (blk_new _ _))
    have KX : w1.heap[w.heap.size + 1]? = some (.cells #[.int .i64 x, .int .i64 (d : Int)] 36 (0, 0)) := by
      have := blk_new (w.alloc (.cells #[.int .i64 p, .int .i64 c, .int .i64 h, .int .i64 s] 25)) (.cells #[.int .i64 x, .int .i64 (d : Int)] 36 (0, 0))
      exact blk_mono hb (by simpa using this)
    have HDG : Hid (dgt b x d 0 = outK S x 0) := hid (by simp only [dgt, flr, outK]; rw [cSI.out, ← HS.out]; simp)
    have B1 : Below w.heap.size w w1 := by (repeat' (first | exact Below.refl _ _ | (with_reducible assumption) | (with_reducible refine xAlloc ?_ _) | (with_reducible refine Below.drew ?_) | (with_reducible refine xDrewN ?_ _) | (with_reducible refine xThen ?_ (by with_reducible assumption)) | (with_reducible refine Below.setCell ?_ (by first | omega | (simp; omega) | simp) _)))
    clear hc hf
  · have h0 : x.tmod (S : Int) < 0 := by assumption
    rw [show decide (x.tmod (S : Int) < 0) = true from decide_eq_true h0]
    go_loopw [5, 8, 9, 10] (fun sc rs o kv wr => ∃ (k m : Nat) (r : Int), k ≤ d ∧ kv = .int .i64 k ∧ sc = .int .i64 m ∧ rs = .int .i64 r ∧ m = b ^ (d - k) ∧ r = x % (m : Int) ∧ FreshInts wr w1.heap.size o (digs b x d k) ∧ Below w1.heap.size w1 wr) (fun _ _ _ kv _ => d - (intOf kv).toNat)
    case atStart => exact ⟨0, S, restK S x 0, by omega, rfl, rfl, num (by have := (HE.out.2 h0).2; have := restK_bd (x := x) hS1 0; unfold wrap64; omega), HS.out, by simp [restK], by
      have := fresh_one w1 w1.heap.size (dgt b x d 0) (Nat.le_refl _)
      rw [show dgt b x d 0 = wrap64 (x.tdiv (S : Int) - 1) from by rw [HDG.out]; have := (HE.out.2 h0).1; rw [← this]; have := HO.out; unfold wrap64; omega] at this
      have e : digs b x d 0 = [dgt b x d 0] := by simp [digs]
      rw [e, show dgt b x d 0 = wrap64 (x.tdiv (S : Int) - 1) from by rw [HDG.out]; have := (HE.out.2 h0).1; rw [← this]; have := HO.out; unfold wrap64; omega]
      exact this, xAlloc (Below.refl _ _) _⟩
    case round =>
      obtain ⟨k, m, r, hk, rfl, rfl, rfl, hm, hr, hF, hbel⟩ := hrel
      have K1 := blk_mono hbel KV
      have K2 := blk_mono hbel KX
      have hlo := hbel.size
      have qv0 : wr.cell? ⟨w.heap.size, 0, none⟩ = some (.int .i64 p) := cell_at K1
      have qv1 : wr.cell? ⟨w.heap.size, 1, none⟩ = some (.int .i64 c) := cell_at K1
      have qv2 : wr.cell? ⟨w.heap.size, 2, none⟩ = some (.int .i64 h) := cell_at K1
      have qv3 : wr.cell? ⟨w.heap.size, 3, none⟩ = some (.int .i64 s) := cell_at K1
      have qx0 : wr.cell? ⟨w.heap.size + 1, 0, none⟩ = some (.int .i64 x) := cell_at K2
      have qx1 : wr.cell? ⟨w.heap.size + 1, 1, none⟩ = some (.int .i64 (d:Int)) := cell_at K2
      have hlen : (digs b x d k).length = k + 1 := digs_length b x d k
      have HF := hid hF
      have HBL := hid hbel
      clear K1 K2 hF hbel
      by_cases hlt : k < d
      · obtain ⟨st1, st2, st3⟩ := dgt_step hb1 (x := x) hlt rfl hm
        have hm0 : 1 ≤ b ^ (d - (k + 1)) := Nat.pow_pos hb1
        have hmS : m ≤ 1000000000000000 := by
          have : b ^ (d - k) ≤ b ^ d := Nat.pow_le_pow_right hb1 (by omega)
          have := HX4.out
          omega
        have hm' : m / b ≤ m := Nat.div_le_self _ _
        have hmp : 1 ≤ m := by rw [hm]; exact Nat.pow_pos hb1
        have hr0 : 0 ≤ r ∧ r < m := by rw [hr]; exact ⟨Int.emod_nonneg _ (by omega), Int.emod_lt_of_pos _ (by omega)⟩
        rw [← hr] at st2 st3
        have HM := hid hm
        obtain ⟨m', HM'⟩ := named (b ^ (d - (k + 1)))
        rw [← HM'.out] at st1 st2 st3 hm0
        have EM : (m : Int) / (b : Int) = (m' : Int) := by rw [← Int.natCast_ediv, st1]
        have EM' : (m : Int).tdiv (b : Int) = (m' : Int) := by rw [← st1]; rfl
        have hm'' : m' ≤ 1000000000000000 := by omega
        have hd0 : 0 ≤ r / (m' : Int) := Int.ediv_nonneg (by omega) (by omega)
        have hd1 : r / (m' : Int) ≤ r := Int.ediv_le_self _ (by omega)
        have ED' : r.tdiv (m' : Int) = r / (m' : Int) := Int.tdiv_eq_ediv_of_nonneg (by omega)
        have ER' : r.tmod (m' : Int) = r % (m' : Int) := Int.tmod_eq_emod_of_nonneg (by omega)
        have hr1 : 0 ≤ r % (m' : Int) ∧ r % (m' : Int) < m' := ⟨Int.emod_nonneg _ (by omega), Int.emod_lt_of_pos _ (by omega)⟩
        rw [st3] at ER' hr1
        obtain ⟨D, HD⟩ := named (dgt b x d (k + 1))
        obtain ⟨r', HR'⟩ := named (x % (m' : Int))
        rw [← HR'.out] at ER' hr1
        rw [st2, ← HD.out] at hd0 hd1 ED'
        have ED : r / (m' : Int) = D := by rw [st2, HD.out]
        have ER : r % (m' : Int) = r' := by rw [st3, HR'.out]
        clear hm hr st1 st2 st3 hm'
        go_wp2_with (first | (go_at_call 83; (with_reducible refine (l09Base_any _ _ _ _ b HB.out _).mono ?_); rintro e wb ⟨rfl, hb⟩; obtain ⟨hc, hf⟩ := bcell hb; have hsz := hb.size; (try simp at hsz); (try have hy0 : w.heap.size < wb.heap.size := by omega); (try have hy1 : w.heap.size + 1 < wb.heap.size := by omega); (try have hy2 : w.heap.size + 2 < wb.heap.size := by omega); (try have hyS : ws.heap.size < wb.heap.size := by omega); (try have hyG : wg.heap.size < wb.heap.size := by omega)) | (at_builtin; have hF2 := HF.out.mono hb; refine wpList_append_own _ rfl _ _ 28 rfl w1.heap.size 2 i0 (.int .i64 0) 1 8 Try.underlying28 hi hz0 hz1 hz2 rfl (by decide) _ _ _ rfl (hF2.2.alloc _) ⟨wb.heap.size, 0, none⟩ 1 1 [.int .i64 D] rfl rfl (newOne wb D) (oneOne D) (by rw [hlen]; unfold maxLen; omega) (by rw [hlen]; omega) (by simp; omega) ?_))
        intro v' w2 hown hgrow _
        have hF3 : FreshInts w2 w1.heap.size v' (digs b x d (k + 1)) := by
          rw [digs_succ, ← HD.out]
          exact fresh_push (by rw [hlen]; omega) (by rw [hlen]; exact hown)
        have hb3 : Below w1.heap.size w1 w2 := ((xAlloc (xThen HBL.out hb) _) : Below w1.heap.size w1 _).grown hgrow (by simp; omega) (own_lo (HF.out.mono hb))
        have HF3 := hid hF3
        have HB3 := hid hb3
        clear hF3 hb3 hown hgrow
        go_wp2
        go_roundw
        case rel => exact ⟨k + 1, m', r', by omega, by go_num, rfl, rfl, HM'.out, HR'.out, HF3.out, HB3.out⟩
        case measure => simp [intOf]; omega
      · obtain rfl : k = d := by omega
        go_wp2
        go_ret
        exact ⟨_, rfl, HF.out.low (by omega), xThen B1 HBL.out⟩
  · have h0 : 0 ≤ x.tmod (S : Int) := by assumption
    go_loopw [5, 8, 9, 10] (fun sc rs o kv wr => ∃ (k m : Nat) (r : Int), k ≤ d ∧ kv = .int .i64 k ∧ sc = .int .i64 m ∧ rs = .int .i64 r ∧ m = b ^ (d - k) ∧ r = x % (m : Int) ∧ FreshInts wr w1.heap.size o (digs b x d k) ∧ Below w1.heap.size w1 wr) (fun _ _ _ kv _ => d - (intOf kv).toNat)
    case atStart => exact ⟨0, S, restK S x 0, by omega, rfl, rfl, num (by exact (HE.out.1 h0).2), HS.out, by simp [restK], by
      have := fresh_one w1 w1.heap.size (dgt b x d 0) (Nat.le_refl _)
      rw [show dgt b x d 0 = x.tdiv (S : Int) from by rw [HDG.out]; exact (HE.out.1 h0).1.symm] at this
      have e : digs b x d 0 = [dgt b x d 0] := by simp [digs]
      rw [e, show dgt b x d 0 = x.tdiv (S : Int) from by rw [HDG.out]; exact (HE.out.1 h0).1.symm]
      exact this, xAlloc (Below.refl _ _) _⟩
    case round =>
      obtain ⟨k, m, r, hk, rfl, rfl, rfl, hm, hr, hF, hbel⟩ := hrel
      have K1 := blk_mono hbel KV
      have K2 := blk_mono hbel KX
      have hlo := hbel.size
      have qv0 : wr.cell? ⟨w.heap.size, 0, none⟩ = some (.int .i64 p) := cell_at K1
      have qv1 : wr.cell? ⟨w.heap.size, 1, none⟩ = some (.int .i64 c) := cell_at K1
      have qv2 : wr.cell? ⟨w.heap.size, 2, none⟩ = some (.int .i64 h) := cell_at K1
      have qv3 : wr.cell? ⟨w.heap.size, 3, none⟩ = some (.int .i64 s) := cell_at K1
      have qx0 : wr.cell? ⟨w.heap.size + 1, 0, none⟩ = some (.int .i64 x) := cell_at K2
      have qx1 : wr.cell? ⟨w.heap.size + 1, 1, none⟩ = some (.int .i64 (d:Int)) := cell_at K2
      have hlen : (digs b x d k).length = k + 1 := digs_length b x d k
      have HF := hid hF
      have HBL := hid hbel
      clear K1 K2 hF hbel
      by_cases hlt : k < d
      · obtain ⟨st1, st2, st3⟩ := dgt_step hb1 (x := x) hlt rfl hm
        have hm0 : 1 ≤ b ^ (d - (k + 1)) := Nat.pow_pos hb1
        have hmS : m ≤ 1000000000000000 := by
          have : b ^ (d - k) ≤ b ^ d := Nat.pow_le_pow_right hb1 (by omega)
          have := HX4.out
          omega
        have hm' : m / b ≤ m := Nat.div_le_self _ _
        have hmp : 1 ≤ m := by rw [hm]; exact Nat.pow_pos hb1
        have hr0 : 0 ≤ r ∧ r < m := by rw [hr]; exact ⟨Int.emod_nonneg _ (by omega), Int.emod_lt_of_pos _ (by omega)⟩
        rw [← hr] at st2 st3
        have HM := hid hm
        obtain ⟨m', HM'⟩ := named (b ^ (d - (k + 1)))
        rw [← HM'.out] at st1 st2 st3 hm0
        have EM : (m : Int) / (b : Int) = (m' : Int) := by rw [← Int.natCast_ediv, st1]
        have EM' : (m : Int).tdiv (b : Int) = (m' : Int) := by rw [← st1]; rfl
        have hm'' : m' ≤ 1000000000000000 := by omega
        have hd0 : 0 ≤ r / (m' : Int) := Int.ediv_nonneg (by omega) (by omega)
        have hd1 : r / (m' : Int) ≤ r := Int.ediv_le_self _ (by omega)
        have ED' : r.tdiv (m' : Int) = r / (m' : Int) := Int.tdiv_eq_ediv_of_nonneg (by omega)
        have ER' : r.tmod (m' : Int) = r % (m' : Int) := Int.tmod_eq_emod_of_nonneg (by omega)
        have hr1 : 0 ≤ r % (m' : Int) ∧ r % (m' : Int) < m' := ⟨Int.emod_nonneg _ (by omega), Int.emod_lt_of_pos _ (by omega)⟩
        rw [st3] at ER' hr1
        obtain ⟨D, HD⟩ := named (dgt b x d (k + 1))
        obtain ⟨r', HR'⟩ := named (x % (m' : Int))
        rw [← HR'.out] at ER' hr1
        rw [st2, ← HD.out] at hd0 hd1 ED'
        have ED : r / (m' : Int) = D := by rw [st2, HD.out]
        have ER : r % (m' : Int) = r' := by rw [st3, HR'.out]
        clear hm hr st1 st2 st3 hm'
        go_wp2_with (first | (go_at_call 83; (with_reducible refine (l09Base_any _ _ _ _ b HB.out _).mono ?_); rintro e wb ⟨rfl, hb⟩; obtain ⟨hc, hf⟩ := bcell hb; have hsz := hb.size; (try simp at hsz); (try have hy0 : w.heap.size < wb.heap.size := by omega); (try have hy1 : w.heap.size + 1 < wb.heap.size := by omega); (try have hy2 : w.heap.size + 2 < wb.heap.size := by omega); (try have hyS : ws.heap.size < wb.heap.size := by omega); (try have hyG : wg.heap.size < wb.heap.size := by omega)) | (at_builtin; have hF2 := HF.out.mono hb; refine wpList_append_own _ rfl _ _ 28 rfl w1.heap.size 2 i0 (.int .i64 0) 1 8 Try.underlying28 hi hz0 hz1 hz2 rfl (by decide) _ _ _ rfl (hF2.2.alloc _) ⟨wb.heap.size, 0, none⟩ 1 1 [.int .i64 D] rfl rfl (newOne wb D) (oneOne D) (by rw [hlen]; unfold maxLen; omega) (by rw [hlen]; omega) (by simp; omega) ?_))
        intro v' w2 hown hgrow _
        have hF3 : FreshInts w2 w1.heap.size v' (digs b x d (k + 1)) := by
          rw [digs_succ, ← HD.out]
          exact fresh_push (by rw [hlen]; omega) (by rw [hlen]; exact hown)
        have hb3 : Below w1.heap.size w1 w2 := ((xAlloc (xThen HBL.out hb) _) : Below w1.heap.size w1 _).grown hgrow (by simp; omega) (own_lo (HF.out.mono hb))
        have HF3 := hid hF3
        have HB3 := hid hb3
        clear hF3 hb3 hown hgrow
        go_wp2
        go_roundw
        case rel => exact ⟨k + 1, m', r', by omega, by go_num, rfl, rfl, HM'.out, HR'.out, HF3.out, HB3.out⟩
        case measure => simp [intOf]; omega
      · obtain rfl : k = d := by omega
        go_wp2
        go_ret
        exact ⟨_, rfl, HF.out.low (by omega), xThen B1 HBL.out⟩
end Go.Proofs.Ytdifaojcjcnokaa
