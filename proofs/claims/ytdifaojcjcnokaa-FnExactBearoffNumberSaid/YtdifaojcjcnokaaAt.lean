/-
  Contracts of both functions that give the position with a number, of both BearoffAt functions and of the law over them: it returns true for every variant and number; no condition.
-/
import Derived.Test.YtdifaojcjcnokaaCount
import Derived.Test.YtdifaojcjcnokaaMark
import Derived.Test.YtdifaojcjcnokaaMathAt
namespace Go.Proofs.Ytdifaojcjcnokaa
open Go.RowKit

def arrI (l : List Int) : Array Value := (l.map (Value.int .i64)).toArray
theorem arrI_size (l : List Int) : (arrI l).size = l.length := by simp [arrI]
theorem arrI_get {l : List Int} {i : Nat} {x : Int} (h : l[i]? = some x) : (arrI l)[i]? = some (.int .i64 x) := by simp [arrI, h]
theorem arrI_set (l : List Int) (i : Nat) (x : Int) : (arrI l).setIfInBounds i (.int .i64 x) = arrI (l.set i x) := by
  simp [arrI, List.map_set]
theorem made_arrI (n : Nat) : madeCells #[Value.int .i64 0] n = arrI (halfDone n []) := by
  apply Array.ext
  · simp [madeCells, arrI, halfDone]
  · intro i h1 h2
    simp [madeCells, arrI, halfDone, Nat.mod_one]

set_option maxHeartbeats 800000 in
theorem implAt_any (p s : Int) (c h n : Nat) (w : World) (hc : c ≤ 15) (hh : h ≤ 24) (hn : n < chs c h) :
    Calls Try.prog 62 #[.agg #[.int .i64 p, .int .i64 c, .int .i64 h, .int .i64 s], .int .i64 n] w fun e w' =>
      e = .returned (.slice (some ⟨w.heap.size + 1, 0, none⟩) h h) ∧ w' = (w.alloc (.cells #[.int .i64 p, .int .i64 c, .int .i64 h, .int .i64 s] 25)).alloc (.cells (arrI (posAt h c n)) 2) := by
  obtain ⟨i0, hi, hz0, hz1, hz2⟩ := info_parts info_int64
  have hmk : ∀ u : World, (Instr.makeSlice 28 (.int .i64 (h : Int)) (.int .i64 (h : Int))).run Try.prog u =
      .ok (.slice (some ⟨u.heap.size, 0, none⟩) h h) (u.alloc (.cells (arrI (halfDone h [])) 2)) := fun u => by
    have h := run_make (P := Try.prog) u 28 2 i0 (.int .i64 0) Try.underlying28 hi hz0 .i64 .i64 (h : Int) (h : Int) (by omega) (Int.le_refl _) (by rw [hz2]; omega) (by omega)
    rw [← made_arrI]
    simpa [hz1, Value.cells] using h
  have hbd := chs_pos (m := c) (i := h) hc (by omega)
  go_enter Try.func62, Try.ntmps62
  go_wp2
  go_loopw [1, 6, 7] (fun num left i wr => ∃ (j l m : Nat) (x : Int) (done : List Int), x = (j : Int) - 1 ∧ i = .int .i64 x ∧ left = .int .i64 l ∧ num = .int .i64 m ∧ l ≤ c ∧ j + done.length = h ∧ m < chs l j ∧ posAt h c n = posAt j l m ++ done ∧
      wr = (w.alloc (.cells #[.int .i64 p, .int .i64 c, .int .i64 h, .int .i64 s] 25)).alloc (.cells (arrI (halfDone j done)) 2)) (fun _ _ i _ => (intOf i + 1).toNat)
  case atStart => exact ⟨h, c, n, _, [], rfl, rfl, rfl, rfl, Nat.le_refl _, by simp, hn, by simp, rfl⟩
  case round =>
    obtain ⟨j, l, m, x, done, hx, rfl, rfl, rfl, hl, hj, hm, hp, rfl⟩ := hrel
    have HP := hid hp
    have HJ := hid hj
    have HM := hid hm
    clear hp hj hm
    cases j with
    | zero =>
      have hx' : x < 0 := by omega
      clear hx
      go_wp2
      go_ret
      have h1 := HP.out
      exact ⟨rfl, by rw [h1]; simp [posAt, halfDone]⟩
    | succ j =>
      obtain rfl : x = (j : Int) := by omega
      clear hx
      obtain ⟨wo, HWO⟩ : ∃ wo : World, Hid (wo = w) := ⟨w, rfl⟩
      go_wp2
      go_loopw [1, 6] (fun num left wr => ∃ (l' m' : Nat), left = .int .i64 l' ∧ num = .int .i64 m' ∧ l' ≤ l ∧ m' < chs l' (j + 1) ∧ digL j l m = digL j l' m' ∧
        wr = (w.alloc (.cells #[.int .i64 p, .int .i64 c, .int .i64 h, .int .i64 s] 25)).alloc (.cells (arrI (halfDone j (((l : Int) - l') :: done))) 2)) (fun _ left _ => (intOf left).toNat)
      case atStart => exact ⟨l, m, rfl, rfl, by omega, HM.out, rfl, by rw [halfDone_succ]; simp⟩
      case round =>
        obtain ⟨l', m', rfl, rfl, hl', hm', hd, rfl⟩ := hrel
        have HM' := hid hm'
        have HD := hid hd
        have hj' : j ≤ 24 := by have := HJ.out; omega
        clear hm' hd
        by_cases hg : chs l' j ≤ m'
        · have st := digL_step hg HM'.out hj' (by omega)
          have HS := hid st.2
          have l1 := st.1
          have hgi : (chs l' j : Int) ≤ (m' : Int) := by omega
          have hold := arrI_get (halfDone_get j ((l : Int) - l') done)
          have hset := hid (arrI_set (halfDone j (((l : Int) - l') :: done)) j ((l : Int) - l' + 1))
          have hjl : j < h := by have := HJ.out; omega
          have hmb : (m' : Int) ≤ 1000000000000000 := by have := chs_pos (m := l') (i := j + 1) (by omega) (by omega); have := HM'.out; omega
          clear st
          go_wp2_with (go_at_call 50; refine (listsUpTo_any _ _ (by omega) (by omega) _).mono ?_; rintro e w' ⟨rfl, rfl⟩)
          go_roundw
          case rel => exact ⟨l' - 1, m' - chs l' j, num (by omega), num (by omega), by omega, HS.out.2, by rw [HD.out, HS.out.1], by rw [hset.out, halfDone_set, show ((l' - 1 : Nat) : Int) = (l' : Int) - 1 from by omega, show (l : Int) - ((l' : Int) - 1) = (l : Int) - l' + 1 from by omega]⟩
          case measure => simp [intOf]; omega
        · have hgi : ¬ ((chs l' j : Int) ≤ (m' : Int)) := by omega
          have HST := hid (digL_stop (i := j) (l := l') (n := m') (by omega))
          go_wp2_with (go_at_call 50; refine (listsUpTo_any _ _ (by omega) (by omega) _).mono ?_; rintro e w' ⟨rfl, rfl⟩)
          go_roundw
          case rel => exact ⟨j, l', m', _, ((l : Int) - l') :: done, rfl, rfl, rfl, rfl, by omega, by have := HJ.out; simp; omega, by omega, by rw [HP.out, posAt, HD.out, HST.out]; simp, rfl⟩
          case measure => simp [intOf]

set_option maxHeartbeats 800000 in
theorem specAt_any (p s : Int) (c h n : Nat) (w : World) (hc : c ≤ 15) (hh : h ≤ 24) (hn : n < chs c h) (hok : chs c h ≤ 1000000) :
    Calls Try.prog 60 #[.agg #[.int .i64 p, .int .i64 c, .int .i64 h, .int .i64 s], .int .i64 n] w fun e w' =>
      e = .returned (.slice (some ⟨w.heap.size + 1, 0, none⟩) h h) ∧ w' = (w.alloc (.cells #[.int .i64 p, .int .i64 c, .int .i64 h, .int .i64 s] 25)).alloc (.cells (arrI (posAt h c n)) 2) := by
  obtain ⟨i0, hi, hz0, hz1, hz2⟩ := info_parts info_int64
  have hmk : ∀ u : World, (Instr.makeSlice 28 (.int .i64 (h : Int)) (.int .i64 (h : Int))).run Try.prog u =
      .ok (.slice (some ⟨u.heap.size, 0, none⟩) h h) (u.alloc (.cells (arrI (halfDone h [])) 2)) := fun u => by
    have h := run_make (P := Try.prog) u 28 2 i0 (.int .i64 0) Try.underlying28 hi hz0 .i64 .i64 (h : Int) (h : Int) (by omega) (Int.le_refl _) (by rw [hz2]; omega) (by omega)
    rw [← made_arrI]
    simpa [hz1, Value.cells] using h
  go_enter Try.func60, Try.ntmps60
  go_wp2
  go_loopw [1, 6, 7] (fun num left i wr => ∃ (j l m : Nat) (x : Int) (done : List Int), x = (j : Int) - 1 ∧ i = .int .i64 x ∧ left = .int .i64 l ∧ num = .int .i64 m ∧ l ≤ c ∧ j + done.length = h ∧ m < chs l j ∧ posAt h c n = posAt j l m ++ done ∧
      wr = (w.alloc (.cells #[.int .i64 p, .int .i64 c, .int .i64 h, .int .i64 s] 25)).alloc (.cells (arrI (halfDone j done)) 2)) (fun _ _ i _ => (intOf i + 1).toNat)
  case atStart => exact ⟨h, c, n, _, [], rfl, rfl, rfl, rfl, Nat.le_refl _, by simp, hn, by simp, rfl⟩
  case round =>
    obtain ⟨j, l, m, x, done, hx, rfl, rfl, rfl, hl, hj, hm, hp, rfl⟩ := hrel
    have HP := hid hp
    have HJ := hid hj
    have HM := hid hm
    clear hp hj hm
    cases j with
    | zero =>
      have hx' : x < 0 := by omega
      clear hx
      go_wp2
      go_ret
      have h1 := HP.out
      exact ⟨rfl, by rw [h1]; simp [posAt, halfDone]⟩
    | succ j =>
      obtain rfl : x = (j : Int) := by omega
      clear hx
      have hjl : j < h := by have := HJ.out; omega
      go_wp2
      go_loop [1, 8] (fun num cc => ∃ (l' m' : Nat) (d : Int), d = (l : Int) - l' ∧ cc = .int .i64 d ∧ num = .int .i64 m' ∧ l' ≤ l ∧ m' < chs l' (j + 1) ∧ digL j l m = digL j l' m') (fun _ cc => ((l : Int) + 1 - intOf cc).toNat)
      case atStart => exact ⟨l, m, 0, by omega, rfl, rfl, by omega, HM.out, rfl⟩
      case round =>
        obtain ⟨l', m', d, hd', rfl, rfl, hl', hm', hd⟩ := hrel
        have HM' := hid hm'
        have HD := hid hd
        have HDD := hid hd'
        have d0 : 0 ≤ d := by omega
        have d1 : d ≤ (l : Int) := by omega
        have hj' : j ≤ 24 := by omega
        have hw : ways l' j = chs l' j := ways_ok (by have := chs_left (m := l') (n := c) (i := j) (by omega) hc (by omega); have := chs_mono (m := c) (i := j) (j := h) hc (by omega) (by omega); omega)
        have HW := hid hw
        clear hm' hd hd' hw
        by_cases hg : chs l' j ≤ m'
        · have st := digL_step hg HM'.out hj' (by omega)
          have HS := hid st.2
          have l1 := hid st.1
          have hgi : ways l' j ≤ (m' : Int) := by rw [HW.out]; omega
          have hgj : 0 ≤ ways l' j := by rw [HW.out]; omega
          have hmb : (m' : Int) ≤ 1000000000000000 := by have := chs_pos (m := l') (i := j + 1) (by omega) (by omega); have := HM'.out; omega
          clear st
          go_wp2_with (go_at_call 48; rw [show (l : Int) - d = (l' : Int) from by have := HDD.out; omega]; refine (ways_any _ _ (by omega) (by omega) _).mono ?_; rintro e w' ⟨rfl, rfl⟩)
          go_round
          case rel => exact ⟨l' - 1, m' - chs l' j, _, by have := HDD.out; have := l1.out; omega, rfl, num (by rw [HW.out]; omega), by omega, HS.out.2, by rw [HD.out, HS.out.1]⟩
          case measure => have := HDD.out; have := l1.out; simp [intOf]; omega
        · have hgi : ¬ (ways l' j ≤ (m' : Int)) := by rw [HW.out]; omega
          have HST := hid (digL_stop (i := j) (l := l') (n := m') (by omega))
          have hold : (arrI (halfDone (j + 1) done))[j]? = some (.int .i64 0) := by rw [halfDone_succ]; exact arrI_get (halfDone_get j 0 done)
          have hset := hid (arrI_set (halfDone (j + 1) done) j d)
          go_wp2_with (go_at_call 48; rw [show (l : Int) - d = (l' : Int) from by have := HDD.out; omega]; refine (ways_any _ _ (by omega) (by omega) _).mono ?_; rintro e w' ⟨rfl, rfl⟩)
          go_roundw
          case rel => exact ⟨j, l', m', _, d :: done, rfl, rfl, num (by have := HDD.out; omega), rfl, by omega, by have := HJ.out; simp; omega, by omega, by rw [HP.out, posAt, HD.out, HST.out, HDD.out]; simp, by rw [hset.out, halfDone_succ, halfDone_set]⟩
          case measure => simp [intOf]

theorem heap_last (w : World) (o : Obj) : (w.alloc o).heap[w.heap.size]? = some o := by
  show (w.heap.push o)[w.heap.size]? = some o
  simp

theorem posAt_fresh (w : World) (o : Obj) (lo h c n : Nat) (hh : h ≤ 24) (hlo : lo ≤ w.heap.size) : FreshInts ((w.alloc o).alloc (.cells (arrI (posAt h c n)) 2)) lo (.slice (some ⟨w.heap.size + 1, 0, none⟩) h h) (posAt h c n) := by
  have e := posAt_length h c n
  have := FreshInts.mk (w := (w.alloc o).alloc (.cells (arrI (posAt h c n)) 2)) (lo := lo) (g := w.heap.size + 1) (zs := posAt h c n) (cur := arrI (posAt h c n)) (by omega) (by omega)
    (by rw [show w.heap.size + 1 = (w.alloc o).heap.size from by simp]; exact heap_last _ _) (by simp [arrI]) (by rw [arrI_size, e]; unfold maxLen; omega) (by simp only [arrI]; exact List.take_of_length_le (by simp))
  rw [arrI_size, e] at this
  exact this

/-- the code of BearoffAt -/
def atCode (p c h s n : Int) : Int := if varB p c h s then (if countZ p c h s < 0 then 3 else if inB n 0 (countZ p c h s - 1) then 0 else 4) else 1
def atList (p c h s n : Int) : List Int := if atCode p c h s n = 0 then posAt h.toNat c.toNat n.toNat else []

theorem atCode_cases (p c h s n : Int) : (varB p c h s = false ∧ atCode p c h s n = 1) ∨ (varB p c h s = true ∧ countZ p c h s < 0 ∧ atCode p c h s n = 3) ∨
    (varB p c h s = true ∧ 0 ≤ countZ p c h s ∧ inB n 0 (countZ p c h s - 1) = false ∧ atCode p c h s n = 4) ∨ (varB p c h s = true ∧ 0 ≤ countZ p c h s ∧ inB n 0 (countZ p c h s - 1) = true ∧ atCode p c h s n = 0) := by
  unfold atCode
  cases varB p c h s
  · simp
  · by_cases h0 : countZ p c h s < 0
    · simp [h0]
    · have : 0 ≤ countZ p c h s := by omega
      cases inB n 0 (countZ p c h s - 1) <;> simp [h0, this]

theorem countZ_ok {p c h s : Int} (hv : varB p c h s = true) (h0 : 0 ≤ countZ p c h s) : countZ p c h s = chs c.toNat h.toNat ∧ chs c.toNat h.toNat ≤ 1000000 := by
  simp only [countZ, hv, if_true, ways] at h0 ⊢
  split at h0 <;> simp_all
theorem countZ_bd {p c h s : Int} : -1 ≤ countZ p c h s ∧ countZ p c h s ≤ 1000000 := by
  simp only [countZ, ways]
  split <;> (try split) <;> omega

set_option maxHeartbeats 400000 in
theorem implBearoffAt_any (p c h s n : Int) (w : World) :
    Calls Try.prog 28 #[.agg #[.int .i64 p, .int .i64 c, .int .i64 h, .int .i64 s], .int .i64 n] w (RetFresh w (atList p c h s n) (atCode p c h s n)) := by
  have hbd := countZ_bd (p := p) (c := c) (h := h) (s := s)
  rcases atCode_cases p c h s n with ⟨hv, hcode⟩ | ⟨hv, hcnt, hcode⟩ | ⟨hv, hcnt, hin, hcode⟩ | ⟨hv, hcnt, hin, hcode⟩
  · have HC := hid hcode
    clear hcode
    go_enter Try.func28, Try.ntmps28
    go_wp2_with (go_at_call 49; refine (isVariant_any _ _ _ _ _).mono ?_; rintro e w1 ⟨rfl, hb⟩; obtain ⟨hc, hf⟩ := bcell hb; have hsz := hb.size; (try simp at hsz); (try have hy0 : w.heap.size < w1.heap.size := by omega); (try have hy1 : w.heap.size + 1 < w1.heap.size := by omega); (try have hy2 : w.heap.size + 2 < w1.heap.size := by omega); (try have hyS : ws.heap.size < w1.heap.size := by omega); (try have hyG : wg.heap.size < w1.heap.size := by omega))
    go_ret2
    exact ⟨_, by rw [HC.out]; rfl, by rw [show atList p c h s n = [] from by simp [atList, HC.out]]; exact FreshInts.nil _ _, by (repeat' (first | exact Below.refl _ _ | (with_reducible assumption) | (with_reducible refine xAlloc ?_ _) | (with_reducible refine Below.drew ?_) | (with_reducible refine xDrewN ?_ _) | (with_reducible refine xThen ?_ (by with_reducible assumption)) | (with_reducible refine Below.setCell ?_ (by first | omega | (simp; omega) | simp) _)))⟩
  · have HC := hid hcode
    clear hcode
    go_enter Try.func28, Try.ntmps28
    go_wp2_with (first | (go_at_call 49; refine (isVariant_any _ _ _ _ _).mono ?_; rintro e w1 ⟨rfl, hb⟩; obtain ⟨hc, hf⟩ := bcell hb; have hsz := hb.size; (try simp at hsz); (try have hy0 : w.heap.size < w1.heap.size := by omega); (try have hy1 : w.heap.size + 1 < w1.heap.size := by omega); (try have hy2 : w.heap.size + 2 < w1.heap.size := by omega); (try have hyS : ws.heap.size < w1.heap.size := by omega); (try have hyG : wg.heap.size < w1.heap.size := by omega)) | (go_at_call 17; refine (implCount_any _ _ _ _ _).mono ?_; rintro e w1 ⟨rfl, hb⟩; obtain ⟨hc, hf⟩ := bcell hb; have hsz := hb.size; (try simp at hsz); (try have hy0 : w.heap.size < w1.heap.size := by omega); (try have hy1 : w.heap.size + 1 < w1.heap.size := by omega); (try have hy2 : w.heap.size + 2 < w1.heap.size := by omega); (try have hyS : ws.heap.size < w1.heap.size := by omega); (try have hyG : wg.heap.size < w1.heap.size := by omega)))
    go_ret2
    exact ⟨_, by rw [HC.out]; rfl, by rw [show atList p c h s n = [] from by simp [atList, HC.out]]; exact FreshInts.nil _ _, by (repeat' (first | exact Below.refl _ _ | (with_reducible assumption) | (with_reducible refine xAlloc ?_ _) | (with_reducible refine Below.drew ?_) | (with_reducible refine xDrewN ?_ _) | (with_reducible refine xThen ?_ (by with_reducible assumption)) | (with_reducible refine Below.setCell ?_ (by first | omega | (simp; omega) | simp) _)))⟩
  · have HC := hid hcode
    clear hcode
    go_enter Try.func28, Try.ntmps28
    go_wp2_with (first | (go_at_call 49; refine (isVariant_any _ _ _ _ _).mono ?_; rintro e w1 ⟨rfl, hb⟩; obtain ⟨hc, hf⟩ := bcell hb; have hsz := hb.size; (try simp at hsz); (try have hy0 : w.heap.size < w1.heap.size := by omega); (try have hy1 : w.heap.size + 1 < w1.heap.size := by omega); (try have hy2 : w.heap.size + 2 < w1.heap.size := by omega); (try have hyS : ws.heap.size < w1.heap.size := by omega); (try have hyG : wg.heap.size < w1.heap.size := by omega)) | (go_at_call 17; refine (implCount_any _ _ _ _ _).mono ?_; rintro e w1 ⟨rfl, hb⟩; obtain ⟨hc, hf⟩ := bcell hb; have hsz := hb.size; (try simp at hsz); (try have hy0 : w.heap.size < w1.heap.size := by omega); (try have hy1 : w.heap.size + 1 < w1.heap.size := by omega); (try have hy2 : w.heap.size + 2 < w1.heap.size := by omega); (try have hyS : ws.heap.size < w1.heap.size := by omega); (try have hyG : wg.heap.size < w1.heap.size := by omega)) | (go_at_call 61; refine (within_any _ _ _ _).mono ?_; rintro e w' ⟨rfl, rfl⟩))
    go_ret2
    exact ⟨_, by rw [HC.out]; rfl, by rw [show atList p c h s n = [] from by simp [atList, HC.out]]; exact FreshInts.nil _ _, by (repeat' (first | exact Below.refl _ _ | (with_reducible assumption) | (with_reducible refine xAlloc ?_ _) | (with_reducible refine Below.drew ?_) | (with_reducible refine xDrewN ?_ _) | (with_reducible refine xThen ?_ (by with_reducible assumption)) | (with_reducible refine Below.setCell ?_ (by first | omega | (simp; omega) | simp) _)))⟩
  · have HC := hid hcode
    have hr := varB_true hv
    have hok := countZ_ok hv hcnt
    have hin' := inB_true hin
    have HO := hid hok
    obtain ⟨c, rfl⟩ := Int.eq_ofNat_of_zero_le (a := c) (by omega)
    obtain ⟨h, rfl⟩ := Int.eq_ofNat_of_zero_le (a := h) (by omega)
    obtain ⟨n, rfl⟩ := Int.eq_ofNat_of_zero_le (a := n) (by omega)
    have HN : Hid (n < chs c h) := hid (by have h1 := HO.out.1; have h2 := hin'.2; simp at h1; omega)
    clear hcode hok hin'
    go_enter Try.func28, Try.ntmps28
    go_wp2_with (first | (go_at_call 49; refine (isVariant_any _ _ _ _ _).mono ?_; rintro e w1 ⟨rfl, hb⟩; obtain ⟨hc, hf⟩ := bcell hb; have hsz := hb.size; (try simp at hsz); (try have hy0 : w.heap.size < w1.heap.size := by omega); (try have hy1 : w.heap.size + 1 < w1.heap.size := by omega); (try have hy2 : w.heap.size + 2 < w1.heap.size := by omega); (try have hyS : ws.heap.size < w1.heap.size := by omega); (try have hyG : wg.heap.size < w1.heap.size := by omega)) | (go_at_call 17; refine (implCount_any _ _ _ _ _).mono ?_; rintro e w1 ⟨rfl, hb⟩; obtain ⟨hc, hf⟩ := bcell hb; have hsz := hb.size; (try simp at hsz); (try have hy0 : w.heap.size < w1.heap.size := by omega); (try have hy1 : w.heap.size + 1 < w1.heap.size := by omega); (try have hy2 : w.heap.size + 2 < w1.heap.size := by omega); (try have hyS : ws.heap.size < w1.heap.size := by omega); (try have hyG : wg.heap.size < w1.heap.size := by omega)) | (go_at_call 61; refine (within_any _ _ _ _).mono ?_; rintro e w' ⟨rfl, rfl⟩) | (go_at_call 62; refine (implAt_any _ _ _ _ _ _ (by omega) (by omega) HN.out).mono ?_; rintro e w' ⟨rfl, rfl⟩))
    go_ret2
    refine ⟨_, by rw [HC.out]; rfl, ?_, by (repeat' (first | exact Below.refl _ _ | (with_reducible assumption) | (with_reducible refine xAlloc ?_ _) | (with_reducible refine Below.drew ?_) | (with_reducible refine xDrewN ?_ _) | (with_reducible refine xThen ?_ (by with_reducible assumption)) | (with_reducible refine Below.setCell ?_ (by first | omega | (simp; omega) | simp) _)))⟩
    rw [show atList p c h s n = posAt h c n from by simp [atList, HC.out]]
    refine posAt_fresh _ _ _ _ _ _ (by omega) ?_
    omega
set_option maxHeartbeats 400000 in
theorem specBearoffAt_any (p c h s n : Int) (w : World) :
    Calls Try.prog 27 #[.agg #[.int .i64 p, .int .i64 c, .int .i64 h, .int .i64 s], .int .i64 n] w (RetFresh w (atList p c h s n) (atCode p c h s n)) := by
  have hbd := countZ_bd (p := p) (c := c) (h := h) (s := s)
  rcases atCode_cases p c h s n with ⟨hv, hcode⟩ | ⟨hv, hcnt, hcode⟩ | ⟨hv, hcnt, hin, hcode⟩ | ⟨hv, hcnt, hin, hcode⟩
  · have HC := hid hcode
    clear hcode
    go_enter Try.func27, Try.ntmps27
    go_wp2_with (go_at_call 47; refine (specIsVariant_any _ _ _ _ _).mono ?_; rintro e w1 ⟨rfl, hb⟩; obtain ⟨hc, hf⟩ := bcell hb; have hsz := hb.size; (try simp at hsz); (try have hy0 : w.heap.size < w1.heap.size := by omega); (try have hy1 : w.heap.size + 1 < w1.heap.size := by omega); (try have hy2 : w.heap.size + 2 < w1.heap.size := by omega); (try have hyS : ws.heap.size < w1.heap.size := by omega); (try have hyG : wg.heap.size < w1.heap.size := by omega))
    go_ret2
    exact ⟨_, by rw [HC.out]; rfl, by rw [show atList p c h s n = [] from by simp [atList, HC.out]]; exact FreshInts.nil _ _, by (repeat' (first | exact Below.refl _ _ | (with_reducible assumption) | (with_reducible refine xAlloc ?_ _) | (with_reducible refine Below.drew ?_) | (with_reducible refine xDrewN ?_ _) | (with_reducible refine xThen ?_ (by with_reducible assumption)) | (with_reducible refine Below.setCell ?_ (by first | omega | (simp; omega) | simp) _)))⟩
  · have HC := hid hcode
    clear hcode
    go_enter Try.func27, Try.ntmps27
    go_wp2_with (first | (go_at_call 47; refine (specIsVariant_any _ _ _ _ _).mono ?_; rintro e w1 ⟨rfl, hb⟩; obtain ⟨hc, hf⟩ := bcell hb; have hsz := hb.size; (try simp at hsz); (try have hy0 : w.heap.size < w1.heap.size := by omega); (try have hy1 : w.heap.size + 1 < w1.heap.size := by omega); (try have hy2 : w.heap.size + 2 < w1.heap.size := by omega); (try have hyS : ws.heap.size < w1.heap.size := by omega); (try have hyG : wg.heap.size < w1.heap.size := by omega)) | (go_at_call 15; refine (specCount_any _ _ _ _ _).mono ?_; rintro e w1 ⟨rfl, hb⟩; obtain ⟨hc, hf⟩ := bcell hb; have hsz := hb.size; (try simp at hsz); (try have hy0 : w.heap.size < w1.heap.size := by omega); (try have hy1 : w.heap.size + 1 < w1.heap.size := by omega); (try have hy2 : w.heap.size + 2 < w1.heap.size := by omega); (try have hyS : ws.heap.size < w1.heap.size := by omega); (try have hyG : wg.heap.size < w1.heap.size := by omega)))
    go_ret2
    exact ⟨_, by rw [HC.out]; rfl, by rw [show atList p c h s n = [] from by simp [atList, HC.out]]; exact FreshInts.nil _ _, by (repeat' (first | exact Below.refl _ _ | (with_reducible assumption) | (with_reducible refine xAlloc ?_ _) | (with_reducible refine Below.drew ?_) | (with_reducible refine xDrewN ?_ _) | (with_reducible refine xThen ?_ (by with_reducible assumption)) | (with_reducible refine Below.setCell ?_ (by first | omega | (simp; omega) | simp) _)))⟩
  · have HC := hid hcode
    clear hcode
    go_enter Try.func27, Try.ntmps27
    go_wp2_with (first | (go_at_call 47; refine (specIsVariant_any _ _ _ _ _).mono ?_; rintro e w1 ⟨rfl, hb⟩; obtain ⟨hc, hf⟩ := bcell hb; have hsz := hb.size; (try simp at hsz); (try have hy0 : w.heap.size < w1.heap.size := by omega); (try have hy1 : w.heap.size + 1 < w1.heap.size := by omega); (try have hy2 : w.heap.size + 2 < w1.heap.size := by omega); (try have hyS : ws.heap.size < w1.heap.size := by omega); (try have hyG : wg.heap.size < w1.heap.size := by omega)) | (go_at_call 15; refine (specCount_any _ _ _ _ _).mono ?_; rintro e w1 ⟨rfl, hb⟩; obtain ⟨hc, hf⟩ := bcell hb; have hsz := hb.size; (try simp at hsz); (try have hy0 : w.heap.size < w1.heap.size := by omega); (try have hy1 : w.heap.size + 1 < w1.heap.size := by omega); (try have hy2 : w.heap.size + 2 < w1.heap.size := by omega); (try have hyS : ws.heap.size < w1.heap.size := by omega); (try have hyG : wg.heap.size < w1.heap.size := by omega)) | (go_at_call 59; refine (l01In_any _ _ _ _).mono ?_; rintro e w' ⟨rfl, rfl⟩))
    go_ret2
    exact ⟨_, by rw [HC.out]; rfl, by rw [show atList p c h s n = [] from by simp [atList, HC.out]]; exact FreshInts.nil _ _, by (repeat' (first | exact Below.refl _ _ | (with_reducible assumption) | (with_reducible refine xAlloc ?_ _) | (with_reducible refine Below.drew ?_) | (with_reducible refine xDrewN ?_ _) | (with_reducible refine xThen ?_ (by with_reducible assumption)) | (with_reducible refine Below.setCell ?_ (by first | omega | (simp; omega) | simp) _)))⟩
  · have HC := hid hcode
    have hr := varB_true hv
    have hok := countZ_ok hv hcnt
    have hin' := inB_true hin
    have HO := hid hok
    obtain ⟨c, rfl⟩ := Int.eq_ofNat_of_zero_le (a := c) (by omega)
    obtain ⟨h, rfl⟩ := Int.eq_ofNat_of_zero_le (a := h) (by omega)
    obtain ⟨n, rfl⟩ := Int.eq_ofNat_of_zero_le (a := n) (by omega)
    have HN : Hid (n < chs c h) := hid (by have h1 := HO.out.1; have h2 := hin'.2; simp at h1; omega)
    clear hcode hok hin'
    go_enter Try.func27, Try.ntmps27
    go_wp2_with (first | (go_at_call 47; refine (specIsVariant_any _ _ _ _ _).mono ?_; rintro e w1 ⟨rfl, hb⟩; obtain ⟨hc, hf⟩ := bcell hb; have hsz := hb.size; (try simp at hsz); (try have hy0 : w.heap.size < w1.heap.size := by omega); (try have hy1 : w.heap.size + 1 < w1.heap.size := by omega); (try have hy2 : w.heap.size + 2 < w1.heap.size := by omega); (try have hyS : ws.heap.size < w1.heap.size := by omega); (try have hyG : wg.heap.size < w1.heap.size := by omega)) | (go_at_call 15; refine (specCount_any _ _ _ _ _).mono ?_; rintro e w1 ⟨rfl, hb⟩; obtain ⟨hc, hf⟩ := bcell hb; have hsz := hb.size; (try simp at hsz); (try have hy0 : w.heap.size < w1.heap.size := by omega); (try have hy1 : w.heap.size + 1 < w1.heap.size := by omega); (try have hy2 : w.heap.size + 2 < w1.heap.size := by omega); (try have hyS : ws.heap.size < w1.heap.size := by omega); (try have hyG : wg.heap.size < w1.heap.size := by omega)) | (go_at_call 59; refine (l01In_any _ _ _ _).mono ?_; rintro e w' ⟨rfl, rfl⟩) | (go_at_call 60; refine (specAt_any _ _ _ _ _ _ (by omega) (by omega) HN.out HO.out.2).mono ?_; rintro e w' ⟨rfl, rfl⟩))
    go_ret2
    refine ⟨_, by rw [HC.out]; rfl, ?_, by (repeat' (first | exact Below.refl _ _ | (with_reducible assumption) | (with_reducible refine xAlloc ?_ _) | (with_reducible refine Below.drew ?_) | (with_reducible refine xDrewN ?_ _) | (with_reducible refine xThen ?_ (by with_reducible assumption)) | (with_reducible refine Below.setCell ?_ (by first | omega | (simp; omega) | simp) _)))⟩
    rw [show atList p c h s n = posAt h c n from by simp [atList, HC.out]]
    refine posAt_fresh _ _ _ _ _ _ (by omega) ?_
    omega

set_option maxHeartbeats 800000 in
theorem lawAt (p c h s : Int) (_ : (Lit.int .i64 p).wf = true) (_ : (Lit.int .i64 c).wf = true) (_ : (Lit.int .i64 h).wf = true) (_ : (Lit.int .i64 s).wf = true) (n : Int) (_ : (Lit.int .i64 n).wf = true) (w : World) :
    Calls Try.prog 7 #[.agg #[.int .i64 p, .int .i64 c, .int .i64 h, .int .i64 s], .int .i64 n] w fun e w' => e = .returned (.bool true) ∧ Below w.heap.size w w' := by
  generalize hzs : atList p c h s n = zs
  have HZ := hid hzs
  clear hzs
  go_enter Try.func7, Try.ntmps7
  go_wp2_with (first | (go_at_call 16; refine (toVariant_any _ _ _ _ _).mono ?_; rintro e w1 ⟨rfl, hb⟩; obtain ⟨hc, hf⟩ := bcell hb; have hsz := hb.size; (try simp at hsz); (try have hy0 : w.heap.size < w1.heap.size := by omega); (try have hy1 : w.heap.size + 1 < w1.heap.size := by omega); (try have hy2 : w.heap.size + 2 < w1.heap.size := by omega); (try have hyS : ws.heap.size < w1.heap.size := by omega); (try have hyG : wg.heap.size < w1.heap.size := by omega)) | (go_at_call 27; refine (specBearoffAt_any _ _ _ _ _ _).mono ?_; rintro e ws ⟨v0, rfl, hF0, hbs⟩; obtain ⟨hcs, hfs⟩ := bcell hbs; have hzs := hbs.size; (try simp at hzs); have hys : w.heap.size < ws.heap.size := by omega))
  rw [HZ.out] at hF0
  refine (implBearoffAt_any _ _ _ _ _ _).mono ?_
  rintro e w2 ⟨v1, rfl, hF1, hb2⟩
  rw [HZ.out] at hF1
  obtain ⟨hc2, hf2⟩ := bcell hb2
  have hz2 := hb2.size
  have hy2 : w.heap.size < w2.heap.size := by omega
  have hI0 := hF0.ints
  have hI1 := hF1.ints
  have hs2 : Below ws.heap.size ws w2 := by (repeat' (first | exact Below.refl _ _ | (with_reducible assumption) | (with_reducible refine xAlloc ?_ _) | (with_reducible refine Below.drew ?_) | (with_reducible refine xDrewN ?_ _) | (with_reducible refine xThen ?_ (by with_reducible assumption)) | (with_reducible refine Below.setCell ?_ (by first | omega | (simp; omega) | simp) _)))
  rcases hF1.cases with ⟨rfl, rfl⟩ | ⟨g, cap, cur, rfl, hg1, hg2, hh, hl1, hl2, ht⟩
  · clear hF0 hF1 hI1
    go_wp2_with (first | (go_at_call 16; refine (toVariant_any _ _ _ _ _).mono ?_; rintro e w1 ⟨rfl, hb⟩; obtain ⟨hc, hf⟩ := bcell hb; have hsz := hb.size; (try simp at hsz); (try have hy0 : w.heap.size < w1.heap.size := by omega); (try have hy1 : w.heap.size + 1 < w1.heap.size := by omega); (try have hy2 : w.heap.size + 2 < w1.heap.size := by omega); (try have hyS : ws.heap.size < w1.heap.size := by omega); (try have hyG : wg.heap.size < w1.heap.size := by omega)) | (go_at_call 21; refine (eqInts_any _ _ [] [] _ (by first | (with_reducible exact IntsAt.nil _ _ _) | (repeat (first | (with_reducible exact IntsAt.made _ _ (by omega) _) | (with_reducible assumption) | (with_reducible refine IntsAt.alloc ?_ _) | (with_reducible refine IntsAt.drew ?_) | (with_reducible refine IntsAt.drewN ?_ _) | (with_reducible refine IntsAt.mono ?_ (by with_reducible assumption))))) (by first | (with_reducible exact IntsAt.nil _ _ _) | (repeat (first | (with_reducible exact IntsAt.made _ _ (by omega) _) | (with_reducible assumption) | (with_reducible refine IntsAt.alloc ?_ _) | (with_reducible refine IntsAt.drew ?_) | (with_reducible refine IntsAt.drewN ?_ _) | (with_reducible refine IntsAt.mono ?_ (by with_reducible assumption)))))).mono ?_; rintro e w' ⟨rfl, n, rfl⟩) | (go_at_call 29; refine (mark_nil _ _).mono ?_; rintro e w' ⟨rfl, rfl⟩) | (go_at_call 30; refine (held_nil _ _).mono ?_; rintro e w' ⟨rfl, rfl⟩) | (go_at_call 28; refine (implBearoffAt_any _ _ _ _ _ _).mono ?_; rintro e w4 ⟨v2, rfl, hF2, hb4⟩; rw [HZ.out] at hF2; have hI2 := hF2.ints; clear hF2))
    go_ret
    exact ⟨rfl, by (repeat' (first | exact Below.refl _ _ | (with_reducible assumption) | (with_reducible refine xAlloc ?_ _) | (with_reducible refine Below.drew ?_) | (with_reducible refine xDrewN ?_ _) | (with_reducible refine xThen ?_ (by with_reducible assumption)) | (with_reducible refine Below.setCell ?_ (by first | omega | (simp; omega) | simp) _)))⟩
  · have hm := hF1.1
    have hlo : ws.heap.size ≤ g := by omega
    clear hF0 hF1
    subst hl2
    have HH := hid hh
    have HT := hid ht
    clear hh ht
    go_wp2_with (first | (go_at_call 21; refine (eqInts_any _ _ zs zs _ (by (repeat (first | (with_reducible exact IntsAt.made _ _ (by omega) _) | (with_reducible assumption) | (with_reducible refine IntsAt.alloc ?_ _) | (with_reducible refine IntsAt.drew ?_) | (with_reducible refine IntsAt.drewN ?_ _) | (with_reducible refine IntsAt.mono ?_ (by with_reducible assumption))))) (by (repeat (first | (with_reducible exact IntsAt.made _ _ (by omega) _) | (with_reducible assumption) | (with_reducible refine IntsAt.alloc ?_ _) | (with_reducible refine IntsAt.drew ?_) | (with_reducible refine IntsAt.drewN ?_ _) | (with_reducible refine IntsAt.mono ?_ (by with_reducible assumption)))))).mono ?_; rintro e w' ⟨rfl, n, rfl⟩))
    refine (mark_any g zs.length cur.size 1 cur _ (by exact HH.out) hl1 hm (by omega) (by omega)).mono ?_
    rintro e w3 ⟨rfl, hw3, hh3⟩
    have hs3 : Below ws.heap.size ws w3 := (xDrewN hs2 _).trans (hw3.below hlo)
    have hz3 : w2.heap.size = w3.heap.size := hw3.size.symm
    obtain ⟨hc3, hf3⟩ := bcellB hs3
    have HH3 := hid hh3
    have HW3 := hid hw3
    have hy3 : w.heap.size < w3.heap.size := by omega
    clear hh3 hw3 hz3
    go_wp2_with (first | (go_at_call 30; refine (held_any g zs.length cur.size 1 cur _ (by exact HH3.out) hl1 hm (by omega) (by omega)).mono ?_; rintro e w' ⟨rfl, rfl⟩) | (go_at_call 16; refine (toVariant_any _ _ _ _ _).mono ?_; rintro e w1 ⟨rfl, hb⟩; obtain ⟨hc, hf⟩ := bcell hb; have hsz := hb.size; (try simp at hsz); (try have hy0 : w.heap.size < w1.heap.size := by omega); (try have hy1 : w.heap.size + 1 < w1.heap.size := by omega); (try have hy2 : w.heap.size + 2 < w1.heap.size := by omega); (try have hyS : ws.heap.size < w1.heap.size := by omega); (try have hyG : wg.heap.size < w1.heap.size := by omega); have HBV := hid hb))
    refine (implBearoffAt_any _ _ _ _ _ _).mono ?_
    rintro e w4 ⟨v2, rfl, hF2, hb4⟩
    rw [HZ.out] at hF2
    have hI2 := hF2.ints
    have HH4 := hid ((hb4.block g (by have := HBV.out.size; have := HW3.out.size; simp at this; omega)).trans ((HBV.out.block g (by have := HW3.out.size; simp at this; omega)).trans HH3.out))
    clear hF2
    go_wp2_with (first | (go_at_call 21; refine (eqInts_any _ _ zs zs _ (by (repeat (first | (with_reducible exact IntsAt.made _ _ (by omega) _) | (with_reducible assumption) | (with_reducible refine IntsAt.alloc ?_ _) | (with_reducible refine IntsAt.drew ?_) | (with_reducible refine IntsAt.drewN ?_ _) | (with_reducible refine IntsAt.mono ?_ (by with_reducible assumption))))) (by (repeat (first | (with_reducible exact IntsAt.made _ _ (by omega) _) | (with_reducible assumption) | (with_reducible refine IntsAt.alloc ?_ _) | (with_reducible refine IntsAt.drew ?_) | (with_reducible refine IntsAt.drewN ?_ _) | (with_reducible refine IntsAt.mono ?_ (by with_reducible assumption)))))).mono ?_; rintro e w' ⟨rfl, n, rfl⟩) | (go_at_call 30; refine (held_any g zs.length cur.size 1 cur _ (by exact HH4.out) hl1 hm (by omega) (by omega)).mono ?_; rintro e w' ⟨rfl, rfl⟩))
    go_ret
    exact ⟨rfl, by (repeat' (first | exact Below.refl _ _ | (with_reducible assumption) | (with_reducible refine xAlloc ?_ _) | (with_reducible refine Below.drew ?_) | (with_reducible refine xDrewN ?_ _) | (with_reducible refine xThen ?_ (by with_reducible assumption)) | (with_reducible refine Below.setCell ?_ (by first | omega | (simp; omega) | simp) _)))⟩
end Go.Proofs.Ytdifaojcjcnokaa
