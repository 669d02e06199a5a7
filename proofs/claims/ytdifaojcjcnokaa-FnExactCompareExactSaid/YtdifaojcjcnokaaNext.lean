/-
  Contracts of the sums of a position and of both NextBearoff functions, for every variant and position.
-/
import Derived.Test.YtdifaojcjcnokaaFresh
import Derived.Test.YtdifaojcjcnokaaMathNum
import Derived.Test.YtdifaojcjcnokaaIsEx
namespace Go.Proofs.Ytdifaojcjcnokaa
open Go.RowKit

theorem sumTo_le {zs : List Int} (hz : ∀ i, 0 ≤ zs.getD i 0 ∧ zs.getD i 0 ≤ 15) : ∀ k, sumTo zs k ≤ 15 * k
  | 0 => by simp [sumTo]
  | k + 1 => by
    have := sumTo_le hz k
    have := hz k
    simp only [sumTo, dg]
    omega

theorem total_any (v : Value) (zs : List Int) (w : World) (hI : IntsAt w v zs) (hz : ∀ i, 0 ≤ zs.getD i 0 ∧ zs.getD i 0 ≤ 15) :
    Calls Try.prog 71 #[v] w fun e w' => e = .returned (.int .i64 (sumTo zs zs.length)) ∧ w = w' := by
  obtain ⟨a, cap, rfl, hm, ha⟩ := hI
  have HZ := hid hz
  clear hz
  go_enter Try.func71, Try.ntmps71
  go_wp2
  go_loop [3, 5, 8] (fun s _ i => ∃ k : Nat, k ≤ zs.length ∧ i = .int .i64 k ∧ s = .int .i64 (sumTo zs k)) (fun _ _ i => zs.length - (intOf i).toNat)
  case atStart => exact ⟨0, by omega, rfl, rfl⟩
  case round =>
    obtain ⟨k, hk, rfl, rfl⟩ := hrel
    by_cases hlt : k < zs.length
    · obtain ⟨b, off, rfl, hcell⟩ := ha.resolve_left (by rintro rfl; simp at hlt)
      have hx := hcell k hlt
      have hs := sumTo_le HZ.out k
      have HN : Hid (sumTo zs (k + 1) = sumTo zs k + dg zs k) := rfl
      have hx2 := HZ.out k
      have HD : Hid ((dg zs k : Int) = zs.getD k 0) := hid (by simp only [dg]; omega)
      obtain ⟨x, HX⟩ := named (zs.getD k 0)
      rw [← HX.out] at hx hx2 HD
      clear hcell ha
      go_wp2
      go_round
      case rel => exact ⟨k + 1, by omega, by go_num, num (by have := HN.out; have := HD.out; omega)⟩
      case measure => simp [intOf]; omega
    · have : k = zs.length := by omega
      go_wp2
      go_ret
      exact ⟨rfl, rfl⟩

theorem l10Sum_any (v : Value) (zs : List Int) (w : World) (hI : IntsAt w v zs) (hz : ∀ i, 0 ≤ zs.getD i 0 ∧ zs.getD i 0 ≤ 15) :
    Calls Try.prog 69 #[v] w fun e w' => e = .returned (.int .i64 (sumTo zs zs.length)) ∧ w = w' := by
  obtain ⟨a, cap, rfl, hm, ha⟩ := hI
  have HZ := hid hz
  clear hz
  go_enter Try.func69, Try.ntmps69
  go_wp2
  go_loop [3, 4] (fun s i => ∃ k : Nat, k ≤ zs.length ∧ i = .int .i64 k ∧ s = .int .i64 (sumTo zs k)) (fun _ i => zs.length - (intOf i).toNat)
  case atStart => exact ⟨0, by omega, rfl, rfl⟩
  case round =>
    obtain ⟨k, hk, rfl, rfl⟩ := hrel
    by_cases hlt : k < zs.length
    · obtain ⟨b, off, rfl, hcell⟩ := ha.resolve_left (by rintro rfl; simp at hlt)
      have hx := hcell k hlt
      have hs := sumTo_le HZ.out k
      have HN : Hid (sumTo zs (k + 1) = sumTo zs k + dg zs k) := rfl
      have hx2 := HZ.out k
      have HD : Hid ((dg zs k : Int) = zs.getD k 0) := hid (by simp only [dg]; omega)
      obtain ⟨x, HX⟩ := named (zs.getD k 0)
      rw [← HX.out] at hx hx2 HD
      clear hcell ha
      go_wp2
      go_round
      case rel => exact ⟨k + 1, by omega, by go_num, num (by have := HN.out; have := HD.out; omega)⟩
      case measure => simp [intOf]; omega
    · have : k = zs.length := by omega
      go_wp2
      go_ret
      exact ⟨rfl, rfl⟩

/-- the first element that is not 0 -/
def nz : List Int → Nat
  | [] => 0
  | z :: zs => if z = 0 then nz zs + 1 else 0
theorem nz_eq (zs : List Int) : ∀ k, k < zs.length → (∀ j, j < k → zs.getD j 0 = 0) → zs.getD k 0 ≠ 0 → nz zs = k := by
  induction zs with
  | nil => intro k hk; simp at hk
  | cons z zs ih =>
    intro k hk h0 h1
    cases k with
    | zero => simp at h1; simp [nz, h1]
    | succ k =>
      have hz : z = 0 := by have := h0 0 (by omega); simpa using this
      have := ih k (by simpa using hk) (fun j hj => by have := h0 (j + 1) (by omega); simpa using this) (by simpa using h1)
      simp [nz, hz, this]
theorem sum_zero {zs : List Int} : ∀ k, (∀ j, j < k → zs.getD j 0 = 0) → sumTo zs k = 0
  | 0, _ => rfl
  | k + 1, h => by
    have := sum_zero k (fun j hj => h j (by omega))
    have h2 := h k (by omega)
    simp only [sumTo, dg, this, h2]
    simp

def nextCode (p c h s : Int) (zs : List Int) : Int := if codeZ p c h s zs = 0 then (if (sumTo zs zs.length : Int) < c then 0 else if nz zs + 1 = zs.length then 4 else 0) else codeZ p c h s zs
def nextL (p c h s : Int) (zs : List Int) : List Int :=
  if nextCode p c h s zs = 0 then (if (sumTo zs zs.length : Int) < c then zs.set 0 (zs.getD 0 0 + 1) else (zs.set (nz zs) 0).set (nz zs + 1) (zs.getD (nz zs + 1) 0 + 1)) else []
theorem nextL_no {p c h s : Int} {zs : List Int} (h1 : nextCode p c h s zs ≠ 0) : nextL p c h s zs = [] := by simp [nextL, h1]

theorem getD_set_ne' {zs : List Int} {i j : Nat} (h : i ≠ j) (x : Int) : (zs.set i x).getD j 0 = zs.getD j 0 := by
  simp [List.getD, List.getElem?_set_ne h]

theorem IntsAt.cells {w : World} {b off n cap : Nat} {zs : List Int} (h : IntsAt w (.slice (some ⟨b, off, none⟩) n cap) zs) : ∀ i, i < zs.length → w.cell? ⟨b, off + i, none⟩ = some (.int .i64 (zs.getD i 0)) := by
  obtain ⟨a, cap', hv, hm, h⟩ := h
  injection hv with e1 e2 e3
  subst e1
  intro i hi
  rcases h with rfl | ⟨b', off', hb, hcell⟩
  · simp at hi
  · injection hb with hb
    injection hb with h1 h2
    subst h1 h2
    exact hcell i hi

set_option maxHeartbeats 1000000 in
theorem implNext_any (p c h s : Int) (v : Value) (zs : List Int) (w : World) (hI : IntsAt w v zs) :
    Calls Try.prog 37 #[.agg #[.int .i64 p, .int .i64 c, .int .i64 h, .int .i64 s], v] w (RetFresh w (nextL p c h s zs) (nextCode p c h s zs)) := by
  rcases codeZ_cases p c h s zs with hc | ⟨hc, hv, hb⟩
  · have hn : (codeZ p c h s zs != 0) = true := by simp; omega
    have HC := hid hc
    have HE : Hid (nextCode p c h s zs = codeZ p c h s zs) := hid (by have h1 : ¬ codeZ p c h s zs = 0 := by omega
                                                                      simp [nextCode, h1])
    have HL : Hid (nextL p c h s zs = []) := hid (nextL_no (by rw [HE.out]; omega))
    clear hc
    go_enter Try.func37, Try.ntmps37
    go_wp2_with (go_at_call 57; refine (checkB_any _ _ _ _ _ zs _ (by (repeat (first | (with_reducible exact IntsAt.made _ _ (by omega) _) | (with_reducible assumption) | (with_reducible refine IntsAt.alloc ?_ _) | (with_reducible refine IntsAt.drew ?_) | (with_reducible refine IntsAt.drewN ?_ _) | (with_reducible refine IntsAt.mono ?_ (by with_reducible assumption)))))).mono ?_; rintro e w1 ⟨rfl, hb⟩; obtain ⟨hc, hf⟩ := bcell hb; have hsz := hb.size; (try simp at hsz); (try have hy0 : w.heap.size < w1.heap.size := by omega); (try have hy1 : w.heap.size + 1 < w1.heap.size := by omega); (try have hy2 : w.heap.size + 2 < w1.heap.size := by omega); (try have hyS : ws.heap.size < w1.heap.size := by omega); (try have hyG : wg.heap.size < w1.heap.size := by omega))
    go_ret2
    exact ⟨_, by rw [HE.out]; rfl, by rw [HL.out]; exact FreshInts.nil _ _, by (repeat' (first | exact Below.refl _ _ | (with_reducible assumption) | (with_reducible refine xAlloc ?_ _) | (with_reducible refine Below.drew ?_) | (with_reducible refine xDrewN ?_ _) | (with_reducible refine xThen ?_ (by with_reducible assumption)) | (with_reducible refine Below.setCell ?_ (by first | omega | (simp; omega) | simp) _)))⟩
  · have hn : (codeZ p c h s zs != 0) = false := by simp; omega
    have HC := hid hc
    have hr := varB_true hv
    have hq := bearB_true (by omega) hb
    obtain ⟨c, rfl⟩ := Int.eq_ofNat_of_zero_le (a := c) (by omega)
    obtain ⟨h, rfl⟩ := Int.eq_ofNat_of_zero_le (a := h) (by omega)
    have hsum := fits_sum (by omega) hq.2.1
    have HQ := hid hq
    have hlen : h = zs.length := by omega
    subst hlen
    obtain ⟨a, cap, rfl, hm, ha⟩ := hI
    have hpos : 0 < zs.length := by omega
    obtain ⟨b, off, rfl, hcell⟩ := ha.resolve_left (by rintro rfl; simp at hpos)
    have HI : Hid (IntsAt w (.slice (some ⟨b, off, none⟩) zs.length cap) zs) := hid ⟨_, _, rfl, hm, .inr ⟨b, off, rfl, hcell⟩⟩
    have hmm := hm
    clear hc hb hq ha hcell
    by_cases hlt : (sumTo zs zs.length : Int) < (c : Int)
    · have HE : Hid (nextCode p c zs.length s zs = 0) := hid (by simp only [nextCode, HC.out, if_true, if_pos hlt])
      have HL : Hid (nextL p c zs.length s zs = zs.set 0 (zs.getD 0 0 + 1)) := hid (by simp only [nextL, HE.out, if_true, if_pos hlt])
      go_enter Try.func37, Try.ntmps37
      go_wp2_with (first | (go_at_call 57; refine (checkB_any _ _ _ _ _ zs _ (HI.out.mono (xAlloc (Below.refl _ _) _))).mono ?_; rintro e w1 ⟨rfl, hb⟩; obtain ⟨hc, hf⟩ := bcell hb; have hsz := hb.size; (try simp at hsz); (try have hy0 : w.heap.size < w1.heap.size := by omega); (try have hy1 : w.heap.size + 1 < w1.heap.size := by omega); (try have hy2 : w.heap.size + 2 < w1.heap.size := by omega); (try have hyS : ws.heap.size < w1.heap.size := by omega); (try have hyG : wg.heap.size < w1.heap.size := by omega)) | (go_at_call 70; go_loud (have hI1 := (HI.out.mono (xAlloc (Below.refl w.heap.size w) (.cells #[.int .i64 p, .int .i64 (c : Int), .int .i64 (zs.length : Int), .int .i64 s] 25))).mono hb; refine (clone_any b off cap zs _ hmm hI1.cells).mono ?_; rintro e w2 ⟨v', rfl, hF, hb2⟩; obtain ⟨g, cap', rfl, hg, hgl⟩ := hF.addr (by rintro rfl; simp at hpos); obtain ⟨hc2, hf2⟩ := bcell hb2; have hsz2 := hb2.size; have hI2 := hI1.mono hb2; have q0 := hF.cell hpos; have f0 := hF.froz 0; have x0 := HQ.out.2.2 0; obtain ⟨X, HX⟩ := named (zs.getD 0 0); rw [← HX.out] at q0 x0; have HF := hid hF; clear hI1 hF)))
      have kc := hc2 w.heap.size 1 (by omega)
      have hk0 : ∀ xe : ExtW w2, xe.u.cell? ⟨w.heap.size, 1, none⟩ = some (.int .i64 c) := fun xe => xe.cell (by go_simp)
      have hne : Nonempty (ExtW w2) := ⟨⟨_, Below.refl _ _⟩⟩
      refine wp_region_ext (by kernel_rfl) (by kernel_rfl) ?_
      repeat (quiet_step ((first | (go_at_call 71; exact ext_call0 (total_any _ zs _ (hI2.mono (ExtW.b _)) (fun i => by have := HQ.out.2.2 i; omega))))))
      refine wpQuiet_nil ?_
      rintro w1 ⟨⟨_, hb⟩, rfl⟩
      obtain ⟨hc, hf⟩ := bcell hb
      have hsz := hb.size
      (try simp at hsz)
      (try have hy0 : w.heap.size < w1.heap.size := by omega)
      (try have hy1 : w.heap.size + 1 < w1.heap.size := by omega)
      (try have hy2 : w.heap.size + 2 < w1.heap.size := by omega)
      (try have hyS : ws.heap.size < w1.heap.size := by omega)
      (try have hyG : wg.heap.size < w1.heap.size := by omega)
      have q0' := xcell hb q0
      have f0' := hf g 0 (by omega)
      go_wp2
      go_ret2
      refine ⟨_, by rw [HE.out]; rfl, ?_, by (repeat' (first | exact Below.refl _ _ | (with_reducible assumption) | (with_reducible refine xAlloc ?_ _) | (with_reducible refine Below.drew ?_) | (with_reducible refine xDrewN ?_ _) | (with_reducible refine xThen ?_ (by with_reducible assumption)) | (with_reducible refine Below.setCell ?_ (by first | omega | (simp; omega) | simp) _)))⟩
      rw [HL.out, ← HX.out]
      exact (((HF.out.mono hb).set 0 (X + 1)).low (by omega))
    · have hsl : (c : Int) ≤ (sumTo zs zs.length : Int) := by omega
      go_enter Try.func37, Try.ntmps37
      go_wp2_with (first | (go_at_call 57; refine (checkB_any _ _ _ _ _ zs _ (HI.out.mono (xAlloc (Below.refl _ _) _))).mono ?_; rintro e w1 ⟨rfl, hb⟩; obtain ⟨hc, hf⟩ := bcell hb; have hsz := hb.size; (try simp at hsz); (try have hy0 : w.heap.size < w1.heap.size := by omega); (try have hy1 : w.heap.size + 1 < w1.heap.size := by omega); (try have hy2 : w.heap.size + 2 < w1.heap.size := by omega); (try have hyS : ws.heap.size < w1.heap.size := by omega); (try have hyG : wg.heap.size < w1.heap.size := by omega)) | (go_at_call 70; go_loud (have hI1 := (HI.out.mono (xAlloc (Below.refl w.heap.size w) (.cells #[.int .i64 p, .int .i64 (c : Int), .int .i64 (zs.length : Int), .int .i64 s] 25))).mono hb; refine (clone_any b off cap zs _ hmm hI1.cells).mono ?_; rintro e w2 ⟨v', rfl, hF, hb2⟩; obtain ⟨g, cap', rfl, hg, hgl⟩ := hF.addr (by rintro rfl; simp at hpos); obtain ⟨hc2, hf2⟩ := bcell hb2; have hsz2 := hb2.size; have hI2 := hI1.mono hb2; have HF := hid hF; clear hI1 hF)))
      have kc := hc2 w.heap.size 1 (by omega)
      have hk0 : ∀ xe : ExtW w2, xe.u.cell? ⟨w.heap.size, 1, none⟩ = some (.int .i64 c) := fun xe => xe.cell (by go_simp)
      have hne : Nonempty (ExtW w2) := ⟨⟨_, Below.refl _ _⟩⟩
      refine wp_region_ext (by kernel_rfl) (by kernel_rfl) ?_
      repeat (quiet_step ((first | (go_at_call 71; exact ext_call0 (total_any _ zs _ (hI2.mono (ExtW.b _)) (fun i => by have := HQ.out.2.2 i; omega))))))
      refine wpQuiet_nil ?_
      rintro w1 ⟨⟨_, hb⟩, rfl⟩
      obtain ⟨hc, hf⟩ := bcell hb
      have hsz := hb.size
      (try simp at hsz)
      (try have hy0 : w.heap.size < w1.heap.size := by omega)
      (try have hy1 : w.heap.size + 1 < w1.heap.size := by omega)
      (try have hy2 : w.heap.size + 2 < w1.heap.size := by omega)
      (try have hyS : ws.heap.size < w1.heap.size := by omega)
      (try have hyG : wg.heap.size < w1.heap.size := by omega)
      have HF1 := hid (HF.out.mono hb)
      clear HF
      go_wp2
      clear hc hf hc2 hf2
      go_loop [8] (fun i => ∃ k : Nat, k < zs.length ∧ i = .int .i64 k ∧ ∀ j, j < k → zs.getD j 0 = 0) (fun i => zs.length - (intOf i).toNat)
      case atStart => exact ⟨0, hpos, rfl, fun j hj => by omega⟩
      case round =>
        obtain ⟨k, hk, rfl, hz0⟩ := hrel
        have HZ0 := hid hz0
        clear hz0
        have qk := HF1.out.cell hk
        have fk := HF1.out.froz k
        obtain ⟨X, HX⟩ := named (zs.getD k 0)
        have xk := HQ.out.2.2 k
        rw [← HX.out] at qk xk
        by_cases hx0 : X = 0
        · have hz1 : ∀ j, j < k + 1 → zs.getD j 0 = 0 := fun j hj => by
            rcases Nat.lt_or_ge j k with h | h
            · exact HZ0.out j h
            · obtain rfl : j = k := by omega
              rw [← HX.out]; exact hx0
          have hk1 : k + 1 < zs.length := Nat.lt_of_not_le fun hge => by
            have h1 := sum_zero (k + 1) hz1
            have h2 : k + 1 = zs.length := by omega
            rw [h2] at h1
            omega
          have HZ1 := hid hz1
          clear hz1
          subst hx0
          go_wp2
          go_round
          case rel => exact ⟨k + 1, hk1, by go_num, HZ1.out⟩
          case measure => simp [intOf]; omega
        · have hnz : nz zs = k := nz_eq zs k hk HZ0.out (by rw [← HX.out]; exact hx0)
          have HNZ := hid hnz
          have hsl : ¬ (sumTo zs zs.length : Int) < (c : Int) := by omega
          clear hnz
          by_cases hl1 : k + 1 = zs.length
          · have HE : Hid (nextCode p c zs.length s zs = 4) := hid (by simp only [nextCode, HC.out, if_true, if_neg hsl, HNZ.out, if_pos hl1])
            have HL : Hid (nextL p c zs.length s zs = []) := hid (nextL_no (by rw [HE.out]; omega))
            have hl1' : (k : Int) + 1 = (zs.length : Int) := by omega
            go_wp2
            go_ret2
            exact ⟨_, by rw [HE.out]; rfl, by rw [HL.out]; exact FreshInts.nil _ _, by (repeat' (first | exact Below.refl _ _ | (with_reducible assumption) | (with_reducible refine xAlloc ?_ _) | (with_reducible refine Below.drew ?_) | (with_reducible refine xDrewN ?_ _) | (with_reducible refine xThen ?_ (by with_reducible assumption)) | (with_reducible refine Below.setCell ?_ (by first | omega | (simp; omega) | simp) _)))⟩
          · have HE : Hid (nextCode p c zs.length s zs = 0) := hid (by simp only [nextCode, HC.out, if_true, if_neg hsl, HNZ.out, if_neg hl1])
            have HL : Hid (nextL p c zs.length s zs = (zs.set k 0).set (k + 1) (zs.getD (k + 1) 0 + 1)) := hid (by simp only [nextL, HE.out, if_true, if_neg hsl, HNZ.out])
            have hl1' : ¬ (k : Int) + 1 = (zs.length : Int) := by omega
            have qk1 := HF1.out.cell (i := k + 1) (by omega)
            have fk1 := HF1.out.froz (k + 1)
            obtain ⟨Y, HY⟩ := named (zs.getD (k + 1) 0)
            have yk := HQ.out.2.2 (k + 1)
            rw [← HY.out] at qk1 yk
            have hk1 : k + 1 < zs.length := by omega
            go_wp2
            go_ret2
            refine ⟨_, by rw [HE.out]; rfl, ?_, by (repeat' (first | exact Below.refl _ _ | (with_reducible assumption) | (with_reducible refine xAlloc ?_ _) | (with_reducible refine Below.drew ?_) | (with_reducible refine xDrewN ?_ _) | (with_reducible refine xThen ?_ (by with_reducible assumption)) | (with_reducible refine Below.setCell ?_ (by first | omega | (simp; omega) | simp) _)))⟩
            rw [HL.out, ← HY.out]
            exact (((HF1.out.set k 0).set (k + 1) (Y + 1)).low (by omega))

theorem newCells {w : World} {b off : Nat} {zs : List Int} (o : Obj) (hc : ∀ i, i < zs.length → w.cell? ⟨b, off + i, none⟩ = some (.int .i64 (zs.getD i 0))) :
    ∀ (j : Nat) (u : Value), (zs.map (Value.int .i64))[j]? = some u → (w.alloc o).cell? ((⟨b, off, none⟩ : Addr).add j) = some u := by
  intro j u hj
  have hjn : j < zs.length := by
    have := (List.getElem?_eq_some_iff.1 hj).1
    simpa using this
  rw [Addr.add_lit]
  refine Lib.cell?_alloc_some _ ?_
  rw [hc j hjn]
  have e : (zs.map (Value.int .i64))[j]? = some (Value.int .i64 (zs.getD j 0)) := by simp [List.getD, hjn]
  rw [e] at hj
  exact hj
theorem oneCells (zs : List Int) : ∀ u ∈ zs.map (Value.int .i64), u.oneCell' = true := by
  intro u hu; obtain ⟨x, _, rfl⟩ := List.mem_map.1 hu; rfl

set_option maxHeartbeats 1000000 in
theorem specNext_any (p c h s : Int) (v : Value) (zs : List Int) (w : World) (hI : IntsAt w v zs) :
    Calls Try.prog 36 #[.agg #[.int .i64 p, .int .i64 c, .int .i64 h, .int .i64 s], v] w (RetFresh w (nextL p c h s zs) (nextCode p c h s zs)) := by
  obtain ⟨i0, hi, hz0, hz1, hz2⟩ := info_parts info_int64
  rcases codeZ_cases p c h s zs with hc | ⟨hc, hv, hb⟩
  · have hn : (codeZ p c h s zs != 0) = true := by simp; omega
    have HC := hid hc
    have HE : Hid (nextCode p c h s zs = codeZ p c h s zs) := hid (by have h1 : ¬ codeZ p c h s zs = 0 := by omega
                                                                      simp [nextCode, h1])
    have HL : Hid (nextL p c h s zs = []) := hid (nextL_no (by rw [HE.out]; omega))
    clear hc
    go_enter Try.func36, Try.ntmps36
    go_wp2_with (go_at_call 55; refine (l10Code_any _ _ _ _ _ zs _ (by (repeat (first | (with_reducible exact IntsAt.made _ _ (by omega) _) | (with_reducible assumption) | (with_reducible refine IntsAt.alloc ?_ _) | (with_reducible refine IntsAt.drew ?_) | (with_reducible refine IntsAt.drewN ?_ _) | (with_reducible refine IntsAt.mono ?_ (by with_reducible assumption)))))).mono ?_; rintro e w1 ⟨rfl, hb⟩; obtain ⟨hc, hf⟩ := bcell hb; have hsz := hb.size; (try simp at hsz); (try have hy0 : w.heap.size < w1.heap.size := by omega); (try have hy1 : w.heap.size + 1 < w1.heap.size := by omega); (try have hy2 : w.heap.size + 2 < w1.heap.size := by omega); (try have hyS : ws.heap.size < w1.heap.size := by omega); (try have hyG : wg.heap.size < w1.heap.size := by omega))
    go_ret2
    exact ⟨_, by rw [HE.out]; rfl, by rw [HL.out]; exact FreshInts.nil _ _, by (repeat' (first | exact Below.refl _ _ | (with_reducible assumption) | (with_reducible refine xAlloc ?_ _) | (with_reducible refine Below.drew ?_) | (with_reducible refine xDrewN ?_ _) | (with_reducible refine xThen ?_ (by with_reducible assumption)) | (with_reducible refine Below.setCell ?_ (by first | omega | (simp; omega) | simp) _)))⟩
  · have hn : (codeZ p c h s zs != 0) = false := by simp; omega
    have HC := hid hc
    have hr := varB_true hv
    have hq := bearB_true (by omega) hb
    obtain ⟨c, rfl⟩ := Int.eq_ofNat_of_zero_le (a := c) (by omega)
    obtain ⟨h, rfl⟩ := Int.eq_ofNat_of_zero_le (a := h) (by omega)
    have hsum := fits_sum (by omega) hq.2.1
    have HQ := hid hq
    have hlen : h = zs.length := by omega
    subst hlen
    obtain ⟨a, cap, rfl, hm, ha⟩ := hI
    have hpos : 0 < zs.length := by omega
    obtain ⟨b, off, rfl, hcell⟩ := ha.resolve_left (by rintro rfl; simp at hpos)
    have HI : Hid (IntsAt w (.slice (some ⟨b, off, none⟩) zs.length cap) zs) := hid ⟨_, _, rfl, hm, .inr ⟨b, off, rfl, hcell⟩⟩
    have hmm := hm
    clear hc hb hq ha hcell
    by_cases hlt : (sumTo zs zs.length : Int) < (c : Int)
    · have HE : Hid (nextCode p c zs.length s zs = 0) := hid (by simp only [nextCode, HC.out, if_true, if_pos hlt])
      have HL : Hid (nextL p c zs.length s zs = zs.set 0 (zs.getD 0 0 + 1)) := hid (by simp only [nextL, HE.out, if_true, if_pos hlt])
      go_enter Try.func36, Try.ntmps36
      go_wp2_with (first | (go_at_call 55; refine (l10Code_any _ _ _ _ _ zs _ (HI.out.mono (xAlloc (Below.refl _ _) _))).mono ?_; rintro e w1 ⟨rfl, hb⟩; obtain ⟨hc, hf⟩ := bcell hb; have hsz := hb.size; (try simp at hsz); (try have hy0 : w.heap.size < w1.heap.size := by omega); (try have hy1 : w.heap.size + 1 < w1.heap.size := by omega); (try have hy2 : w.heap.size + 2 < w1.heap.size := by omega); (try have hyS : ws.heap.size < w1.heap.size := by omega); (try have hyG : wg.heap.size < w1.heap.size := by omega)) | (at_builtin; have hI1 := (HI.out.mono (xAlloc (Below.refl w.heap.size w) (.cells #[.int .i64 p, .int .i64 (c : Int), .int .i64 (zs.length : Int), .int .i64 s] 25))).mono hb; refine wpList_append_own _ rfl _ _ 28 rfl w1.heap.size 2 i0 (.int .i64 0) 1 8 Try.underlying28 hi hz0 hz1 hz2 rfl (by decide) _ _ _ rfl (World.ownsRow_made w1 #[] 0 (Nat.le_refl _) (Nat.zero_le _) rfl) ⟨b, off, none⟩ zs.length cap (zs.map (Value.int .i64)) rfl (by simp) (newCells _ hI1.cells) (oneCells zs) (by unfold maxLen; omega) (by omega) (by simp) ?_))
      intro v' w2 hown hgrow _
      have hF : FreshInts w2 w1.heap.size v' zs := ⟨hmm, by simpa using hown⟩
      have hb2 : Below w1.heap.size w1 w2 := ((Below.refl _ w1).alloc (Nat.le_refl _) _).grown hgrow (by simp) (by intro k hk; simp [Value.ownBlock] at hk; omega)
      obtain ⟨g, cap', rfl, hg, hgl⟩ := hF.addr (by rintro rfl; simp at hpos)
      obtain ⟨hc2, hf2⟩ := bcell hb2
      have hsz2 := hb2.size
      have hI2 := ((HI.out.mono (xAlloc (Below.refl w.heap.size w) (.cells #[.int .i64 p, .int .i64 (c : Int), .int .i64 (zs.length : Int), .int .i64 s] 25))).mono hb).mono hb2
      have q0 := hF.cell hpos
      have f0 := hF.froz 0
      have x0 := HQ.out.2.2 0
      obtain ⟨X, HX⟩ := named (zs.getD 0 0)
      rw [← HX.out] at q0 x0
      have HF := hid hF
      clear hF hown hgrow
      have kc := hc2 w.heap.size 1 (by omega)
      go_wp2
      have hk0 : ∀ xe : ExtW w2, xe.u.cell? ⟨w.heap.size, 1, none⟩ = some (.int .i64 c) := fun xe => xe.cell (by go_simp)
      have hne : Nonempty (ExtW w2) := ⟨⟨_, Below.refl _ _⟩⟩
      refine wp_region_ext (by kernel_rfl) (by kernel_rfl) ?_
      repeat (quiet_step ((first | (go_at_call 69; exact ext_call0 (l10Sum_any _ zs _ (hI2.mono (ExtW.b _)) (fun i => by have := HQ.out.2.2 i; omega))))))
      refine wpQuiet_nil ?_
      rintro w1 ⟨⟨_, hb⟩, rfl⟩
      obtain ⟨hc, hf⟩ := bcell hb
      have hsz := hb.size
      (try simp at hsz)
      (try have hy0 : w.heap.size < w1.heap.size := by omega)
      (try have hy1 : w.heap.size + 1 < w1.heap.size := by omega)
      (try have hy2 : w.heap.size + 2 < w1.heap.size := by omega)
      (try have hyS : ws.heap.size < w1.heap.size := by omega)
      (try have hyG : wg.heap.size < w1.heap.size := by omega)
      have q0' := xcell hb q0
      have f0' := hf g 0 (by omega)
      go_wp2
      go_ret2
      refine ⟨_, by rw [HE.out]; rfl, ?_, by (repeat' (first | exact Below.refl _ _ | (with_reducible assumption) | (with_reducible refine xAlloc ?_ _) | (with_reducible refine Below.drew ?_) | (with_reducible refine xDrewN ?_ _) | (with_reducible refine xThen ?_ (by with_reducible assumption)) | (with_reducible refine Below.setCell ?_ (by first | omega | (simp; omega) | simp) _)))⟩
      rw [HL.out, ← HX.out]
      exact (((HF.out.mono hb).set 0 (X + 1)).low (by omega))
    · have hsl : (c : Int) ≤ (sumTo zs zs.length : Int) := by omega
      go_enter Try.func36, Try.ntmps36
      go_wp2_with (first | (go_at_call 55; refine (l10Code_any _ _ _ _ _ zs _ (HI.out.mono (xAlloc (Below.refl _ _) _))).mono ?_; rintro e w1 ⟨rfl, hb⟩; obtain ⟨hc, hf⟩ := bcell hb; have hsz := hb.size; (try simp at hsz); (try have hy0 : w.heap.size < w1.heap.size := by omega); (try have hy1 : w.heap.size + 1 < w1.heap.size := by omega); (try have hy2 : w.heap.size + 2 < w1.heap.size := by omega); (try have hyS : ws.heap.size < w1.heap.size := by omega); (try have hyG : wg.heap.size < w1.heap.size := by omega)) | (at_builtin; have hI1 := (HI.out.mono (xAlloc (Below.refl w.heap.size w) (.cells #[.int .i64 p, .int .i64 (c : Int), .int .i64 (zs.length : Int), .int .i64 s] 25))).mono hb; refine wpList_append_own _ rfl _ _ 28 rfl w1.heap.size 2 i0 (.int .i64 0) 1 8 Try.underlying28 hi hz0 hz1 hz2 rfl (by decide) _ _ _ rfl (World.ownsRow_made w1 #[] 0 (Nat.le_refl _) (Nat.zero_le _) rfl) ⟨b, off, none⟩ zs.length cap (zs.map (Value.int .i64)) rfl (by simp) (newCells _ hI1.cells) (oneCells zs) (by unfold maxLen; omega) (by omega) (by simp) ?_))
      intro v' w2 hown hgrow _
      have hF : FreshInts w2 w1.heap.size v' zs := ⟨hmm, by simpa using hown⟩
      have hb2 : Below w1.heap.size w1 w2 := ((Below.refl _ w1).alloc (Nat.le_refl _) _).grown hgrow (by simp) (by intro k hk; simp [Value.ownBlock] at hk; omega)
      obtain ⟨g, cap', rfl, hg, hgl⟩ := hF.addr (by rintro rfl; simp at hpos)
      obtain ⟨hc2, hf2⟩ := bcell hb2
      have hsz2 := hb2.size
      have hI2 := ((HI.out.mono (xAlloc (Below.refl w.heap.size w) (.cells #[.int .i64 p, .int .i64 (c : Int), .int .i64 (zs.length : Int), .int .i64 s] 25))).mono hb).mono hb2
      have HF := hid hF
      clear hF hown hgrow
      have kc := hc2 w.heap.size 1 (by omega)
      go_wp2
      have hk0 : ∀ xe : ExtW w2, xe.u.cell? ⟨w.heap.size, 1, none⟩ = some (.int .i64 c) := fun xe => xe.cell (by go_simp)
      have hne : Nonempty (ExtW w2) := ⟨⟨_, Below.refl _ _⟩⟩
      refine wp_region_ext (by kernel_rfl) (by kernel_rfl) ?_
      repeat (quiet_step ((first | (go_at_call 69; exact ext_call0 (l10Sum_any _ zs _ (hI2.mono (ExtW.b _)) (fun i => by have := HQ.out.2.2 i; omega))))))
      refine wpQuiet_nil ?_
      rintro w1 ⟨⟨_, hb⟩, rfl⟩
      obtain ⟨hc, hf⟩ := bcell hb
      have hsz := hb.size
      (try simp at hsz)
      (try have hy0 : w.heap.size < w1.heap.size := by omega)
      (try have hy1 : w.heap.size + 1 < w1.heap.size := by omega)
      (try have hy2 : w.heap.size + 2 < w1.heap.size := by omega)
      (try have hyS : ws.heap.size < w1.heap.size := by omega)
      (try have hyG : wg.heap.size < w1.heap.size := by omega)
      have HF1 := hid (HF.out.mono hb)
      clear HF
      go_wp2
      clear hc hf hc2 hf2
      go_loop [8] (fun i => ∃ k : Nat, k < zs.length ∧ i = .int .i64 k ∧ ∀ j, j < k → zs.getD j 0 = 0) (fun i => zs.length - (intOf i).toNat)
      case atStart => exact ⟨0, hpos, rfl, fun j hj => by omega⟩
      case round =>
        obtain ⟨k, hk, rfl, hz0⟩ := hrel
        have HZ0 := hid hz0
        clear hz0
        have qk := HF1.out.cell hk
        have fk := HF1.out.froz k
        obtain ⟨X, HX⟩ := named (zs.getD k 0)
        have xk := HQ.out.2.2 k
        rw [← HX.out] at qk xk
        by_cases hx0 : X = 0
        · have hz1 : ∀ j, j < k + 1 → zs.getD j 0 = 0 := fun j hj => by
            rcases Nat.lt_or_ge j k with h | h
            · exact HZ0.out j h
            · obtain rfl : j = k := by omega
              rw [← HX.out]; exact hx0
          have hk1 : k + 1 < zs.length := Nat.lt_of_not_le fun hge => by
            have h1 := sum_zero (k + 1) hz1
            have h2 : k + 1 = zs.length := by omega
            rw [h2] at h1
            omega
          have HZ1 := hid hz1
          clear hz1
          subst hx0
          go_wp2
          go_round
          case rel => exact ⟨k + 1, hk1, by go_num, HZ1.out⟩
          case measure => simp [intOf]; omega
        · have hnz : nz zs = k := nz_eq zs k hk HZ0.out (by rw [← HX.out]; exact hx0)
          have HNZ := hid hnz
          have hsl : ¬ (sumTo zs zs.length : Int) < (c : Int) := by omega
          clear hnz
          by_cases hl1 : k + 1 = zs.length
          · have HE : Hid (nextCode p c zs.length s zs = 4) := hid (by simp only [nextCode, HC.out, if_true, if_neg hsl, HNZ.out, if_pos hl1])
            have HL : Hid (nextL p c zs.length s zs = []) := hid (nextL_no (by rw [HE.out]; omega))
            have hl1' : (k : Int) + 1 = (zs.length : Int) := by omega
            go_wp2
            go_ret2
            exact ⟨_, by rw [HE.out]; rfl, by rw [HL.out]; exact FreshInts.nil _ _, by (repeat' (first | exact Below.refl _ _ | (with_reducible assumption) | (with_reducible refine xAlloc ?_ _) | (with_reducible refine Below.drew ?_) | (with_reducible refine xDrewN ?_ _) | (with_reducible refine xThen ?_ (by with_reducible assumption)) | (with_reducible refine Below.setCell ?_ (by first | omega | (simp; omega) | simp) _)))⟩
          · have HE : Hid (nextCode p c zs.length s zs = 0) := hid (by simp only [nextCode, HC.out, if_true, if_neg hsl, HNZ.out, if_neg hl1])
            have HL : Hid (nextL p c zs.length s zs = (zs.set k 0).set (k + 1) (zs.getD (k + 1) 0 + 1)) := hid (by simp only [nextL, HE.out, if_true, if_neg hsl, HNZ.out])
            have hl1' : ¬ (k : Int) + 1 = (zs.length : Int) := by omega
            have qk1 := HF1.out.cell (i := k + 1) (by omega)
            have fk1 := HF1.out.froz (k + 1)
            obtain ⟨Y, HY⟩ := named (zs.getD (k + 1) 0)
            have yk := HQ.out.2.2 (k + 1)
            rw [← HY.out] at qk1 yk
            have hk1 : k + 1 < zs.length := by omega
            go_wp2
            go_ret2
            refine ⟨_, by rw [HE.out]; rfl, ?_, by (repeat' (first | exact Below.refl _ _ | (with_reducible assumption) | (with_reducible refine xAlloc ?_ _) | (with_reducible refine Below.drew ?_) | (with_reducible refine xDrewN ?_ _) | (with_reducible refine xThen ?_ (by with_reducible assumption)) | (with_reducible refine Below.setCell ?_ (by first | omega | (simp; omega) | simp) _)))⟩
            rw [HL.out, ← HY.out]
            exact (((HF1.out.set k 0).set (k + 1) (Y + 1)).low (by omega))
end Go.Proofs.Ytdifaojcjcnokaa
