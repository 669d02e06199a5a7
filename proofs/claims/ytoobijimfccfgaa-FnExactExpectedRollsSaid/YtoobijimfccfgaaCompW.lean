/-
  The walk of slices.CompactFunc at a list of positions: every run of equal elements becomes its first element.
-/
import Derived.Test.YtoobijimfccfgaaSortW
import Derived.Shelf.SlicesE.Kit
import Derived.Sort.Grow
namespace Go.Proofs.Ytoobijimfccfgaa
open Go.RowKit Go.Lib Go.Sort

section
variable {α : Type} [Inhabited α]
/-- element j is kept -/
def kpt (eq : α → α → Bool) (d : Array α) (j : Nat) : Bool := j == 0 || !eq d[j]! d[j - 1]!
/-- what of the first m elements is kept -/
def compTo (eq : α → α → Bool) (d : Array α) (m : Nat) : List α := ((List.range m).filter (kpt eq d)).map (fun j => d[j]!)
theorem kpt_one (eq : α → α → Bool) (d : Array α) {m : Nat} (h : m ≤ 1) : ∀ j, j < m → kpt eq d j = true := fun j hj => by
  have : j = 0 := by omega
  subst this; rfl
theorem compTo_succ (eq : α → α → Bool) (d : Array α) (m : Nat) : compTo eq d (m + 1) = compTo eq d m ++ (if kpt eq d m then [d[m]!] else []) := by
  unfold compTo
  rw [List.range_succ, List.filter_append, List.map_append]
  congr 1
  cases h : kpt eq d m <;> simp [h]
theorem compTo_len (eq : α → α → Bool) (d : Array α) (m : Nat) : (compTo eq d m).length ≤ m := by
  induction m with
  | zero => simp [compTo]
  | succ m ih => rw [compTo_succ]; split <;> simp <;> omega
theorem compTo_all (eq : α → α → Bool) (d : Array α) : ∀ m, (∀ j, j < m → kpt eq d j = true) → compTo eq d m = (List.range m).map (fun j => d[j]!)
  | 0, _ => rfl
  | m + 1, h => by rw [compTo_succ, compTo_all eq d m fun j hj => h j (by omega), if_pos (h m (by omega)), List.range_succ, List.map_append]; rfl
/-- where the inner loop stands: the first kk elements are those that are kept of the first m, the others are as they were -/
structure CInv (eq : α → α → Bool) (d : Array α) (m kk : Nat) (dk : Array α) : Prop where
  size : dk.size = d.size
  lt : kk < m
  len : (compTo eq d m).length = kk
  low : ∀ i, i < kk → (compTo eq d m)[i]? = some dk[i]!
  high : ∀ i, kk ≤ i → dk[i]! = d[i]!
theorem CInv.start {eq : α → α → Bool} {d : Array α} {k : Nat} (h : ∀ j, j < k → kpt eq d j = true) (hd : kpt eq d k = false) : CInv eq d (k + 1) k d := by
  have e : compTo eq d (k + 1) = (List.range k).map (fun j => d[j]!) := by rw [compTo_succ, compTo_all eq d k h, hd]; simp
  refine ⟨rfl, by omega, by rw [e]; simp, fun i hi => by rw [e]; simp [hi], fun _ _ => rfl⟩
theorem CInv.skip {eq : α → α → Bool} {d : Array α} {m kk : Nat} {dk : Array α} (h : CInv eq d m kk dk) (hd : kpt eq d m = false) : CInv eq d (m + 1) kk dk := by
  have e : compTo eq d (m + 1) = compTo eq d m := by rw [compTo_succ, hd]; simp
  exact ⟨h.size, by have := h.lt; omega, by rw [e]; exact h.len, fun i hi => by rw [e]; exact h.low i hi, h.high⟩
theorem CInv.keep {eq : α → α → Bool} {d : Array α} {m kk : Nat} {dk : Array α} (h : CInv eq d m kk dk) (hm : m < d.size) (hd : kpt eq d m = true) : CInv eq d (m + 1) (kk + 1) (dk.setIfInBounds kk d[m]!) := by
  have e : compTo eq d (m + 1) = compTo eq d m ++ [d[m]!] := by rw [compTo_succ, hd]; simp
  have hs := h.size
  have hl := h.lt
  refine ⟨by simp [hs], by omega, by rw [e]; simp [h.len], fun i hi => ?_, fun i hi => ?_⟩
  · rw [e]
    by_cases hik : i = kk
    · subst hik
      rw [getElem!_set_same _ _ _ (by omega), List.getElem?_append_right (by rw [h.len]; omega)]
      simp [h.len]
    · rw [getElem!_set_other _ _ _ _ hik, List.getElem?_append_left (by rw [h.len]; omega)]
      exact h.low i (by omega)
  · rw [getElem!_set_other _ _ _ _ (by omega)]
    exact h.high i (by omega)
/-- what CompactFunc leaves behind -/
def CompDone (enc : α → Value) (eq : α → α → Bool) (w : World) (blk : Nat) (d : Array α) (zs : List Value) (w' : World) : Prop :=
  ∃ (q : Nat) (dk : Array α), dk.size = d.size ∧ (∀ i, i < (compTo eq d d.size).length → (compTo eq d d.size)[i]? = some dk[i]!) ∧ w' = (putRow enc (Go.Sort.ahead w q) blk 0 dk).setCells blk (compTo eq d d.size).length zs

theorem drewN_put (enc : α → Value) (w : World) (q n blk off : Nat) (dk : Array α) : (putRow enc (Go.Sort.ahead w q) blk off dk).drewN n = putRow enc (Go.Sort.ahead w (q + n)) blk off dk := by
  rw [← Go.Sort.ahead_ahead]; rfl
set_option maxHeartbeats 4000000 in
set_option maxRecDepth 1000000 in
theorem compW (enc : α → Value) (hO : OneCell enc) (eq : α → α → Bool) (blk cap : Nat) (d : Array α) (w : World) (hH : Holds enc w blk 0 d) (hsz : d.size < 4611686018427387904) (hcap : d.size ≤ cap)
    (hc : ∀ (q : Nat) (dk : Array α) (x y : α), dk.size = d.size → Calls Try.prog 82 #[enc x, enc y] (putRow enc (Go.Sort.ahead w q) blk 0 dk) fun e w' => e = .returned (.bool (eq x y)) ∧ ∃ n, w' = (putRow enc (Go.Sort.ahead w q) blk 0 dk).drewN n) :
    Calls Try.prog 81 #[.slice (some ⟨blk, 0, none⟩) d.size cap, .func (.func 82) #[] #[]] w fun e w' =>
      e = .returned (.slice (some ⟨blk, 0, none⟩) (compTo eq d d.size).length cap) ∧ ∃ zs : List Value, zs.length + (compTo eq d d.size).length ≤ d.size ∧ CompDone enc eq w blk d zs w' := by
  have hc0 : ∀ (q : Nat) (x y : α), Calls Try.prog 82 #[enc x, enc y] (w.drewN q) fun e w' => e = .returned (.bool (eq x y)) ∧ ∃ n, w' = (w.drewN q).drewN n := by
    intro q x y
    have := hc q d x y rfl
    rw [putRow_self enc (Go.Sort.ahead w q) blk 0 d (Go.Sort.holds_ahead enc w q blk 0 d hH)] at this
    exact this
  have same : ∀ q, (∀ j, j < d.size → kpt eq d j = true) → (compTo eq d d.size).length = d.size ∧ ∃ zs : List Value, zs.length + (compTo eq d d.size).length ≤ d.size ∧ CompDone enc eq w blk d zs (w.drewN q) := by
    intro q hall
    have e := compTo_all eq d d.size hall
    refine ⟨by rw [e]; simp, [], by rw [e]; simp, q, d, rfl, fun i hi => by rw [e] at hi ⊢; simp at hi; simp [hi], ?_⟩
    exact (putRow_self enc (Go.Sort.ahead w q) blk 0 d (Go.Sort.holds_ahead enc w q blk 0 d hH)).symm
  have HS := hid same
  have HC := hid hc
  have HC0 := hid hc0
  clear same hc hc0
  by_cases h2 : d.size < 2
  · have HH := hid hH
    clear hH
    go_enter Try.func81, Try.ntmps81
    go_wp2
    go_ret
    obtain ⟨e1, e2⟩ := HS.out 0 (kpt_one eq d (by omega))
    exact ⟨by rw [e1]; rfl, e2⟩
  · go_enter Try.func81, Try.ntmps81
    have hcl0 := hO.cells
    simp only [Value.cells] at hcl0
    have hst := hO.store Try.prog
    go_wp2
    go_loopg [5] d.size (fun g s3 wr => ∃ k q : Nat, 1 ≤ k ∧ k ≤ d.size ∧ d.size - k ≤ g ∧ s3 = .int .i64 k ∧ wr = w.drewN q ∧ ∀ j, j < k → kpt eq d j = true)
    case atStart => exact ⟨1, 0, Nat.le_refl _, by omega, by omega, rfl, rfl, kpt_one eq d (Nat.le_refl _)⟩
    case round =>
      obtain ⟨k, q, hk1, hk, hg, rfl, rfl, hall⟩ := hrel
      have HA := hid hall
      clear hall
      by_cases hlt : k < d.size
      · obtain ⟨m, hm⟩ : ∃ m, k = m + 1 := ⟨k - 1, by omega⟩
        obtain ⟨c1, -⟩ := hH k hlt
        obtain ⟨c0, -⟩ := hH m (by omega)
        rw [Nat.zero_add] at c1 c0
        have HH := hid hH
        clear hH
        obtain ⟨x, HX⟩ := named (d[k]!)
        obtain ⟨y, HY⟩ := named (d[m]!)
        rw [← HX.out] at c1
        rw [← HY.out] at c0
        have e1 : (k : Int) - 1 = (m : Int) := by omega
        have e2 : IntKind.i64.wrap (m : Int) = (m : Int) := by simp [IntKind.wrap, IntKind.bits, IntKind.signed]; omega
        have i1 : (k : Int) < (d.size : Int) := by omega
        have i2 : (m : Int) < (d.size : Int) := by omega
        have HK := hid hm
        clear hm
        have hcall : ∀ n, Calls Try.prog 82 #[enc x, enc y] (w.drewN (q + n)) fun e w' => e = .returned (.bool (eq x y)) ∧ ∃ m, w' = w.drewN (q + m) := fun n =>
          (HC0.out (q + n) x y).mono fun e w' ⟨a, m, b⟩ => ⟨a, n + m, by rw [b, World.drewN_drewN, Nat.add_assoc]⟩
        cases hdup : eq x y with
        | true =>
          rw [hdup] at hcall
          go_wp2
          go_quiet (exact hcall _)
          have HD := hid hdup
          clear hcall hdup c0 c1 e1 e2 i1 i2
          go_wp2
          go_loopg [5, 7] d.size (fun g s3 s5 wr => ∃ (kk k2 q2 : Nat) (dk : Array α), s3 = .int .i64 kk ∧ s5 = .int .i64 k2 ∧ 1 ≤ k2 ∧ k + k2 ≤ d.size ∧ d.size - (k + k2) ≤ g ∧ wr = putRow enc (Go.Sort.ahead w q2) blk 0 dk ∧ CInv eq d (k + k2) kk dk)
          case atStart => exact ⟨k, 1, q + nq, d, rfl, rfl, Nat.le_refl _, by omega, by omega, (putRow_self enc (Go.Sort.ahead w (q + nq)) blk 0 d (Go.Sort.holds_ahead enc w (q + nq) blk 0 d HH.out)).symm, CInv.start HA.out (by simp only [kpt]; rw [show k - 1 = m by have := HK.out; omega, ← HX.out, ← HY.out, HD.out]; simp; omega)⟩
          case round =>
            obtain ⟨kk, k2, q2, dk, rfl, rfl, h1, hle, hg2, hwr, hI⟩ := hrel
            have hkk := hI.lt
            have hds := hI.size
            have hHk : Holds enc wr blk 0 dk := by rw [hwr]; exact holds_putRow enc _ blk 0 d dk (Go.Sort.holds_ahead enc w q2 blk 0 d HH.out) hds
            have W2 := hid hwr
            have I2 := hid hI
            clear hwr
            by_cases hlt2 : k + k2 < d.size
            · obtain ⟨m2, hm2⟩ : ∃ m2, k2 = m2 + 1 := ⟨k2 - 1, by omega⟩
              obtain ⟨cm, -⟩ := hHk (k + k2) (by omega)
              obtain ⟨cp, -⟩ := hHk (k + m2) (by omega)
              obtain ⟨ck, fk⟩ := hHk kk (by omega)
              rw [Nat.zero_add] at cm cp ck fk
              rw [hI.high (k + k2) (by omega)] at cm
              rw [hI.high (k + m2) (by omega)] at cp
              clear hHk hI
              obtain ⟨u, HU⟩ := named (d[k + k2]!)
              obtain ⟨v, HV⟩ := named (d[k + m2]!)
              obtain ⟨old, HO⟩ := named (dk[kk]!)
              rw [← HU.out] at cm
              rw [← HV.out] at cp
              rw [← HO.out] at ck
              have j1 : (k2 : Int) - 1 = (m2 : Int) := by omega
              have j2 : IntKind.i64.wrap (m2 : Int) = (m2 : Int) := by simp [IntKind.wrap, IntKind.bits, IntKind.signed]; omega
              have j3 : (k2 : Int) < ((d.size - k : Nat) : Int) := by omega
              have j4 : (m2 : Int) < ((d.size - k : Nat) : Int) := by omega
              have j5 : (kk : Int) < (d.size : Int) := by omega
              have hcall : ∀ n, Calls Try.prog 82 #[enc u, enc v] (wr.drewN n) fun e w' => e = .returned (.bool (eq u v)) ∧ ∃ m, w' = wr.drewN m := fun n => by
                have hh := HC.out (q2 + n) dk u v hds
                have e : putRow enc (Go.Sort.ahead w (q2 + n)) blk 0 dk = wr.drewN n := by rw [W2.out, drewN_put]
                rw [e] at hh
                exact hh.mono fun e w' ⟨a, m, b⟩ => ⟨a, n + m, by rw [b, World.drewN_drewN]⟩
              have HM2 := hid hm2
              clear hm2
              cases huv : eq u v with
              | true =>
                rw [huv] at hcall
                go_wp2
                go_quiet (exact hcall _)
                have HD2 := hid huv
                clear hcall huv
                go_wp2
                go_roundg (d.size - (k + (k2 + 1)))
                case measure => omega
                case rel => exact ⟨kk, k2 + 1, q2 + nq, dk, rfl, by go_num, by omega, by omega, Nat.le_refl _, by rw [W2.out, drewN_put], I2.out.skip (by simp only [kpt]; rw [show k + k2 - 1 = k + m2 by have := HM2.out; omega, ← HU.out, ← HV.out, HD2.out]; simp; omega)⟩
              | false =>
                rw [huv] at hcall
                go_wp2
                go_quiet (exact hcall _)
                have HD2 := hid huv
                clear hcall huv
                go_wp2
                go_roundg (d.size - (k + (k2 + 1)))
                case measure => omega
                case rel => exact ⟨kk + 1, k2 + 1, q2 + nq, dk.setIfInBounds kk u, by go_num, by go_num, by omega, by omega, Nat.le_refl _, by rw [W2.out, drewN_put, ← putRow_set enc _ blk 0 dk kk u (by omega), Nat.zero_add], by
                  have := I2.out.keep hlt2 (by simp only [kpt]; rw [show k + k2 - 1 = k + m2 by have := HM2.out; omega, ← HU.out, ← HV.out, HD2.out]; simp)
                  rw [HU.out]; exact this⟩
            · have hend : k + k2 = d.size := by omega
              have hcl : ∀ ty, (Builtin.clear_ #[59] ty #[.slice (some ⟨blk, kk, none⟩) (d.size - kk) (cap - kk)]).run Try.prog wr = .ok (.tuple #[]) (wr.setCells blk kk (List.replicate (d.size - kk) (.slice none 0 0))) :=
                fun ty => run_clear_slice wr _ _ ty _ Try.underlying59 (fun w => by kernel_rfl) rfl rfl blk kk _ _ (by omega) (fun j hj => by have := (hHk (kk + j) (by omega)).1; rw [Nat.zero_add] at this; rw [this]; rfl) (fun j hj => by have := (hHk (kk + j) (by omega)).2; rwa [Nat.zero_add] at this)
              have j5 : (kk : Int) ≤ (d.size : Int) := by omega
              have j6 : (kk : Int) ≤ (cap : Int) := by omega
              clear hHk hI
              go_wp2
              go_ret
              have hI := I2.out
              rw [hend] at hI
              exact ⟨by rw [hI.len]; rfl, List.replicate (d.size - kk) (.slice none 0 0), by rw [hI.len]; simp; omega, q2, dk, hds, fun i hi => hI.low i (by rw [hI.len] at hi; exact hi), by rw [hI.len, ← W2.out]⟩
        | false =>
          rw [hdup] at hcall
          go_wp2
          go_quiet (exact hcall _)
          go_wp2
          go_roundg (d.size - (k + 1))
          case measure => omega
          case rel =>
            refine ⟨k + 1, q + nq, by omega, by omega, Nat.le_refl _, by go_num, rfl, fun j hj => ?_⟩
            by_cases e : j = k
            · subst e
              simp only [kpt]
              rw [show j - 1 = m by have := HK.out; omega, ← HX.out, ← HY.out, hdup]; simp
            · exact HA.out j (by omega)
      · have : k = d.size := by omega
        subst this
        go_wp2
        go_ret
        obtain ⟨e1, e2⟩ := HS.out q HA.out
        exact ⟨by rw [e1]; rfl, e2⟩
end
end Go.Proofs.Ytoobijimfccfgaa
