/-
  The contract of the reference's comparison of numbers, and both CompareExact functions.
-/
import Derived.Test.YtdifaojcjcnokaaSplit
namespace Go.Proofs.Ytdifaojcjcnokaa
open Go.RowKit

/-- the world gets a name -/
theorem calls_named {P : Program} {f : FuncId} {args : Array Value} {W : World} {Q : Ending → World → Prop} (h : ∀ W', W = W' → Calls P f args W' Q) : Calls P f args W Q := h _ rfl

theorem cmp_less {A B : Int} (h : A < B) : cmp A B = -1 := by simp [cmp, h]
theorem cmp_more {A B : Int} (h : B < A) : cmp A B = 1 := by simp [cmp, h]; omega
theorem cmp_same {A B : Int} (h : A = B) : cmp A B = 0 := by subst h; simp [cmp]

set_option maxHeartbeats 1000000 in
theorem compareS_any (p c h s x y : Int) (b dx dy : Nat) (hBs : Base s b) (hx : exB b x dx = true) (hy : exB b y dy = true) (w : World) :
    Calls Try.prog 73 #[.agg #[.int .i64 p, .int .i64 c, .int .i64 h, .int .i64 s], .agg #[.int .i64 x, .int .i64 dx], .agg #[.int .i64 y, .int .i64 dy]] w fun e w' =>
      e = .returned (.int .i64 (cmp (x * (b : Int) ^ dy) (y * (b : Int) ^ dx))) ∧ Below w.heap.size w w' := by
  have hb1 := hBs.2.2.2.1
  have HB := hid hBs
  have HX := hid hx
  have HY := hid hy
  obtain ⟨_, hx2, _⟩ := exB_true hx
  obtain ⟨_, hy2, _⟩ := exB_true hy
  obtain ⟨cc, HC⟩ := named (cmp (x * (b : Int) ^ dy) (y * (b : Int) ^ dx))
  rw [← HC.out]
  clear hx hy hBs
  go_enter Try.func73, Try.ntmps73
  go_wp2_with fail
  refine calls_named (fun W hW0 => ?_)
  have hW := hid hW0
  clear hW0
  have sW : W.heap.size = w.heap.size + 3 := by rw [← hW.out]; simp
  have bW : Below w.heap.size w W := by rw [← hW.out]; (repeat' (first | exact Below.refl _ _ | (with_reducible assumption) | (with_reducible refine xAlloc ?_ _) | (with_reducible refine Below.drew ?_) | (with_reducible refine xDrewN ?_ _) | (with_reducible refine xThen ?_ (by with_reducible assumption)) | (with_reducible refine Below.setCell ?_ (by first | omega | (simp; omega) | simp) _)))
  have lW0 : w.heap.size < W.heap.size := by omega
  have lW1 : w.heap.size + 1 < W.heap.size := by omega
  have lW2 : w.heap.size + 2 < W.heap.size := by omega
  have kW0 : W.cell? ⟨w.heap.size, 0, none⟩ = some (.int .i64 p) := by rw [← hW.out]; go_simp
  have kW1 : W.cell? ⟨w.heap.size, 1, none⟩ = some (.int .i64 c) := by rw [← hW.out]; go_simp
  have kW2 : W.cell? ⟨w.heap.size, 2, none⟩ = some (.int .i64 h) := by rw [← hW.out]; go_simp
  have kW3 : W.cell? ⟨w.heap.size, 3, none⟩ = some (.int .i64 s) := by rw [← hW.out]; go_simp
  have kW4 : W.cell? ⟨w.heap.size + 1, 0, none⟩ = some (.int .i64 x) := by rw [← hW.out]; go_simp
  have kW5 : W.cell? ⟨w.heap.size + 1, 1, none⟩ = some (.int .i64 dx) := by rw [← hW.out]; go_simp
  have kW6 : W.cell? ⟨w.heap.size + 2, 0, none⟩ = some (.int .i64 y) := by rw [← hW.out]; go_simp
  have kW7 : W.cell? ⟨w.heap.size + 2, 1, none⟩ = some (.int .i64 dy) := by rw [← hW.out]; go_simp
  clear hW sW
  refine (split_any _ _ _ _ x b dx HB.out HX.out _).mono ?_
  rintro e wa ⟨va, rfl, hFa, hba⟩
  have kA0 := xcell hba kW0
  have kA1 := xcell hba kW1
  have kA2 := xcell hba kW2
  have kA3 := xcell hba kW3
  have kA4 := xcell hba kW4
  have kA5 := xcell hba kW5
  have kA6 := xcell hba kW6
  have kA7 := xcell hba kW7
  have sa := hba.size
  clear kW0 kW1 kW2 kW3 kW4 kW5 kW6 kW7
  go_wp2_with fail
  refine (split_any _ _ _ _ y b dy HB.out HY.out _).mono ?_
  rintro e wb ⟨vb, rfl, hFb, hbb⟩
  have sb := hbb.size
  have hFa2 := hFa.mono hbb
  have Bw : Below w.heap.size w wb := xThen (xThen bW hba) hbb
  have la : (digs b x dx dx).length = dx + 1 := digs_length b x dx dx
  have lb : (digs b y dy dy).length = dy + 1 := digs_length b y dy dy
  obtain ⟨ga, ca, rfl, hga, hga2⟩ := hFa2.addr (by intro h; rw [h] at la; simp at la)
  obtain ⟨gb, cb, rfl, hgb, hgb2⟩ := hFb.addr (by intro h; rw [h] at lb; simp at lb)
  have FA := hid hFa2
  have FB := hid hFb
  clear hFa hFa2 hFb kA0 kA1 kA2 kA3 kA4 kA5 kA6 kA7 hba hbb
  rw [la, lb]
  go_wp2
  go_loop [9, 10, 11] (fun i _ _ => ∃ k : Nat, (k ≤ dx + 1 ∨ k ≤ dy + 1) ∧ i = .int .i64 k ∧ ∀ j, j < k → dgt b x dx j = dgt b y dy j) (fun i _ _ => dx + dy + 3 - (intOf i).toNat)
  case atStart => exact ⟨0, by omega, rfl, fun j hj => by omega⟩
  case round =>
    obtain ⟨k, hk, rfl, heq⟩ := hrel
    have HEQ := hid heq
    clear heq
    by_cases hkx : k ≤ dx
    · have qa := FA.out.cell (i := k) (by rw [la]; omega)
      rw [digs_get hkx] at qa
      obtain ⟨P, HP⟩ := named (dgt b x dx k)
      rw [← HP.out] at qa
      by_cases hky : k ≤ dy
      · have qb := FB.out.cell (i := k) (by rw [lb]; omega)
        rw [digs_get hky] at qb
        obtain ⟨Q, HQ⟩ := named (dgt b y dy k)
        rw [← HQ.out] at qb
        by_cases hlt : dgt b x dx k < dgt b y dy k
        · have hlt' : P < Q := by rw [HP.out, HQ.out]; exact hlt
          have e1 := HC.out
          rw [cmp_less (dgt_less hb1 HEQ.out hlt)] at e1
          go_wp2
          go_ret
          exact ⟨ret_int (by omega), Bw⟩
        · by_cases hgt : dgt b y dy k < dgt b x dx k
          · have hlt' : ¬ P < Q := by rw [HP.out, HQ.out]; exact hlt
            have hgt' : Q < P := by rw [HP.out, HQ.out]; exact hgt
            have e1 := HC.out
            rw [cmp_more (dgt_less hb1 (fun j hj => (HEQ.out j hj).symm) hgt)] at e1
            go_wp2
            go_ret
            exact ⟨ret_int (by omega), Bw⟩
          · have hlt' : ¬ P < Q := by rw [HP.out, HQ.out]; exact hlt
            have hgt' : ¬ Q < P := by rw [HP.out, HQ.out]; exact hgt
            have heq : dgt b x dx k = dgt b y dy k := by omega
            have HE1 : Hid (∀ j, j < k + 1 → dgt b x dx j = dgt b y dy j) := hid (fun j hj => by
              rcases Nat.lt_or_ge j k with h' | h'
              · exact HEQ.out j h'
              · obtain rfl : j = k := by omega
                exact heq)
            go_wp2
            go_round
            case rel => exact ⟨k + 1, by omega, by go_num, HE1.out⟩
            case measure => simp [intOf]; omega
      · have hQ0 : dgt b y dy k = 0 := dgt_far hb1 (by omega)
        obtain ⟨Q, HQ⟩ := named (dgt b y dy k)
        have hQ1 : Q = 0 := by rw [HQ.out]; exact hQ0
        subst hQ1
        clear hQ0
        by_cases hlt : dgt b x dx k < dgt b y dy k
        · have hlt' : P < 0 := by have := HP.out; have := HQ.out; omega
          have e1 := HC.out
          rw [cmp_less (dgt_less hb1 HEQ.out hlt)] at e1
          go_wp2
          go_ret
          exact ⟨ret_int (by omega), Bw⟩
        · by_cases hgt : dgt b y dy k < dgt b x dx k
          · have hlt' : ¬ P < 0 := by have := HP.out; have := HQ.out; omega
            have hgt' : 0 < P := by have := HP.out; have := HQ.out; omega
            have e1 := HC.out
            rw [cmp_more (dgt_less hb1 (fun j hj => (HEQ.out j hj).symm) hgt)] at e1
            go_wp2
            go_ret
            exact ⟨ret_int (by omega), Bw⟩
          · have hlt' : ¬ P < 0 := by have := HP.out; have := HQ.out; omega
            have hgt' : ¬ 0 < P := by have := HP.out; have := HQ.out; omega
            have heq : dgt b x dx k = dgt b y dy k := by omega
            have HE1 : Hid (∀ j, j < k + 1 → dgt b x dx j = dgt b y dy j) := hid (fun j hj => by
              rcases Nat.lt_or_ge j k with h' | h'
              · exact HEQ.out j h'
              · obtain rfl : j = k := by omega
                exact heq)
            go_wp2
            go_round
            case rel => exact ⟨k + 1, by omega, by go_num, HE1.out⟩
            case measure => simp [intOf]; omega
    · by_cases hky : k ≤ dy
      · have qb := FB.out.cell (i := k) (by rw [lb]; omega)
        rw [digs_get hky] at qb
        obtain ⟨Q, HQ⟩ := named (dgt b y dy k)
        rw [← HQ.out] at qb
        have hP0 : dgt b x dx k = 0 := dgt_far hb1 (by omega)
        obtain ⟨P, HP⟩ := named (dgt b x dx k)
        have hP1 : P = 0 := by rw [HP.out]; exact hP0
        subst hP1
        clear hP0
        by_cases hlt : dgt b x dx k < dgt b y dy k
        · have hlt' : 0 < Q := by have := HP.out; have := HQ.out; omega
          have e1 := HC.out
          rw [cmp_less (dgt_less hb1 HEQ.out hlt)] at e1
          go_wp2
          go_ret
          exact ⟨ret_int (by omega), Bw⟩
        · by_cases hgt : dgt b y dy k < dgt b x dx k
          · have hlt' : ¬ 0 < Q := by have := HP.out; have := HQ.out; omega
            have hgt' : Q < 0 := by have := HP.out; have := HQ.out; omega
            have e1 := HC.out
            rw [cmp_more (dgt_less hb1 (fun j hj => (HEQ.out j hj).symm) hgt)] at e1
            go_wp2
            go_ret
            exact ⟨ret_int (by omega), Bw⟩
          · have hlt' : ¬ 0 < Q := by have := HP.out; have := HQ.out; omega
            have hgt' : ¬ Q < 0 := by have := HP.out; have := HQ.out; omega
            have heq : dgt b x dx k = dgt b y dy k := by omega
            have HE1 : Hid (∀ j, j < k + 1 → dgt b x dx j = dgt b y dy j) := hid (fun j hj => by
              rcases Nat.lt_or_ge j k with h' | h'
              · exact HEQ.out j h'
              · obtain rfl : j = k := by omega
                exact heq)
            go_wp2
            go_round
            case rel => exact ⟨k + 1, by omega, by go_num, HE1.out⟩
            case measure => simp [intOf]; omega
      · have hsm : x * (b : Int) ^ dy = y * (b : Int) ^ dx := by
          obtain ⟨i, rfl⟩ : ∃ i, k = i + 1 := ⟨k - 1, by omega⟩
          exact dgt_same hb1 (i := i) (by omega) (by omega) HEQ.out
        have e1 := HC.out
        rw [cmp_same hsm] at e1
        clear hsm
        go_wp2
        go_ret
        exact ⟨ret_int (by omega), Bw⟩

def cmpZ (p c h s x dx y dy : Int) : Int := if code2 p c h s x dx y dy = 0 then cmp (x * ((s * s).toNat : Int) ^ dy.toNat) (y * ((s * s).toNat : Int) ^ dx.toNat) else 0

set_option maxHeartbeats 800000 in
theorem implCompare_any (p c h s x dx y dy : Int) (hx : I64 x) (hdx : I64 dx) (hy : I64 y) (hdy : I64 dy) (w : World) :
    Calls Try.prog 39 #[.agg #[.int .i64 p, .int .i64 c, .int .i64 h, .int .i64 s], .agg #[.int .i64 x, .int .i64 dx], .agg #[.int .i64 y, .int .i64 dy]] w fun e w' =>
      e = .returned (.tuple #[.int .i64 (cmpZ p c h s x dx y dy), .int .i64 (code2 p c h s x dx y dy)]) ∧ Below w.heap.size w w' := by
  have HI := hid (exI_two hx hdx hy hdy)
  have HX := hid hx
  have HDX := hid hdx
  have HY := hid hy
  have HDY := hid hdy
  clear hx hdx hy hdy
  rcases code2_cases p c h s x dx y dy with hc | ⟨hc, hv, h1, h2⟩
  · have hn : (code2 p c h s x dx y dy != 0) = true := by simp; omega
    have HC := hid hc
    clear hc
    go_enter Try.func39, Try.ntmps39
    go_wp2_with fail
    refine (checkExs_any p c h s _ [(x, dx), (y, dy)] _ (ExsAt.two_at _ _ _ _ _ _ _ _ (by simp)) HI.out).mono ?_
    rw [code2_eq]
    rintro e w1 ⟨rfl, hb⟩
    obtain ⟨hc, hf⟩ := bcell hb
    have hsz := hb.size
    (try simp at hsz)
    (try have hy0 : w.heap.size < w1.heap.size := by omega)
    (try have hy1 : w.heap.size + 1 < w1.heap.size := by omega)
    (try have hy2 : w.heap.size + 2 < w1.heap.size := by omega)
    (try have hyS : ws.heap.size < w1.heap.size := by omega)
    (try have hyG : wg.heap.size < w1.heap.size := by omega)
    (try have hy3 : w.heap.size + 3 < w1.heap.size := by omega)
    go_wp2
    go_ret2
    exact ⟨ret_ii (by have := HC.out; have h3 : ¬ code2 p c h s x dx y dy = 0 := by {omega}
                      simp [cmpZ, h3]) rfl, by (repeat' (first | exact Below.refl _ _ | (with_reducible assumption) | (with_reducible refine xAlloc ?_ _) | (with_reducible refine Below.drew ?_) | (with_reducible refine xDrewN ?_ _) | (with_reducible refine xThen ?_ (by with_reducible assumption)) | (with_reducible refine Below.setCell ?_ (by first | omega | (simp; omega) | simp) _)))⟩
  · have hn : (code2 p c h s x dx y dy != 0) = false := by simp [hc]
    have hr := varB_true hv
    obtain ⟨b, hB⟩ := base_of (s := s) (by omega)
    have HB := hid hB
    have hbs := base_toNat hB
    rw [hbs] at h1 h2
    have HBS := hid hbs
    have ht1 := exB_true h1
    have ht2 := exB_true h2
    obtain ⟨dx, rfl⟩ := Int.eq_ofNat_of_zero_le (a := dx) ht1.1
    obtain ⟨dy, rfl⟩ := Int.eq_ofNat_of_zero_le (a := dy) ht2.1
    have HC := hid hc
    have H1 := hid h1
    have H2 := hid h2
    clear hB hbs ht1 ht2 hc h1 h2
    go_enter Try.func39, Try.ntmps39
    go_wp2_with fail
    refine (checkExs_any p c h s _ [(x, (dx : Int)), (y, (dy : Int))] _ (ExsAt.two_at _ _ _ _ _ _ _ _ (by simp)) HI.out).mono ?_
    rw [code2_eq]
    rintro e w1 ⟨rfl, hb⟩
    obtain ⟨hc, hf⟩ := bcell hb
    have hsz := hb.size
    (try simp at hsz)
    (try have hy0 : w.heap.size < w1.heap.size := by omega)
    (try have hy1 : w.heap.size + 1 < w1.heap.size := by omega)
    (try have hy2 : w.heap.size + 2 < w1.heap.size := by omega)
    (try have hyS : ws.heap.size < w1.heap.size := by omega)
    (try have hyG : wg.heap.size < w1.heap.size := by omega)
    (try have hy3 : w.heap.size + 3 < w1.heap.size := by omega)
    go_wp2_with (go_at_call 75; (with_reducible refine (compare_any _ _ _ _ _ _ b dx dy HB.out H1.out H2.out _).mono ?_); rintro e w2 ⟨rfl, hb⟩; obtain ⟨hc, hf⟩ := bcell hb; have hsz := hb.size; (try simp at hsz); (try have hy0 : w.heap.size < w2.heap.size := by omega); (try have hy1 : w.heap.size + 1 < w2.heap.size := by omega); (try have hy2 : w.heap.size + 2 < w2.heap.size := by omega); (try have hyS : ws.heap.size < w2.heap.size := by omega); (try have hyG : wg.heap.size < w2.heap.size := by omega))
    go_ret2
    exact ⟨ret_ii (by simp [cmpZ, HC.out, HBS.out]) HC.out.symm, by (repeat' (first | exact Below.refl _ _ | (with_reducible assumption) | (with_reducible refine xAlloc ?_ _) | (with_reducible refine Below.drew ?_) | (with_reducible refine xDrewN ?_ _) | (with_reducible refine xThen ?_ (by with_reducible assumption)) | (with_reducible refine Below.setCell ?_ (by first | omega | (simp; omega) | simp) _)))⟩

set_option maxHeartbeats 800000 in
theorem specCompare_any (p c h s x dx y dy : Int) (hx : I64 x) (hdx : I64 dx) (hy : I64 y) (hdy : I64 dy) (w : World) :
    Calls Try.prog 38 #[.agg #[.int .i64 p, .int .i64 c, .int .i64 h, .int .i64 s], .agg #[.int .i64 x, .int .i64 dx], .agg #[.int .i64 y, .int .i64 dy]] w fun e w' =>
      e = .returned (.tuple #[.int .i64 (cmpZ p c h s x dx y dy), .int .i64 (code2 p c h s x dx y dy)]) ∧ Below w.heap.size w w' := by
  have HI := hid (exI_two hx hdx hy hdy)
  have HX := hid hx
  have HDX := hid hdx
  have HY := hid hy
  have HDY := hid hdy
  clear hx hdx hy hdy
  rcases code2_cases p c h s x dx y dy with hc | ⟨hc, hv, h1, h2⟩
  · have hn : (code2 p c h s x dx y dy != 0) = true := by simp; omega
    have HC := hid hc
    clear hc
    go_enter Try.func38, Try.ntmps38
    go_wp2_with fail
    refine (l09Code_any p c h s x _ y _ HX.out HDX.out HY.out HDY.out _).mono ?_
    rintro e w1 ⟨rfl, hb⟩
    obtain ⟨hc, hf⟩ := bcell hb
    have hsz := hb.size
    (try simp at hsz)
    (try have hy0 : w.heap.size < w1.heap.size := by omega)
    (try have hy1 : w.heap.size + 1 < w1.heap.size := by omega)
    (try have hy2 : w.heap.size + 2 < w1.heap.size := by omega)
    (try have hyS : ws.heap.size < w1.heap.size := by omega)
    (try have hyG : wg.heap.size < w1.heap.size := by omega)
    (try have hy3 : w.heap.size + 3 < w1.heap.size := by omega)
    go_wp2
    go_ret2
    exact ⟨ret_ii (by have := HC.out; have h3 : ¬ code2 p c h s x dx y dy = 0 := by {omega}
                      simp [cmpZ, h3]) rfl, by (repeat' (first | exact Below.refl _ _ | (with_reducible assumption) | (with_reducible refine xAlloc ?_ _) | (with_reducible refine Below.drew ?_) | (with_reducible refine xDrewN ?_ _) | (with_reducible refine xThen ?_ (by with_reducible assumption)) | (with_reducible refine Below.setCell ?_ (by first | omega | (simp; omega) | simp) _)))⟩
  · have hn : (code2 p c h s x dx y dy != 0) = false := by simp [hc]
    have hr := varB_true hv
    obtain ⟨b, hB⟩ := base_of (s := s) (by omega)
    have HB := hid hB
    have hbs := base_toNat hB
    rw [hbs] at h1 h2
    have HBS := hid hbs
    have ht1 := exB_true h1
    have ht2 := exB_true h2
    obtain ⟨dx, rfl⟩ := Int.eq_ofNat_of_zero_le (a := dx) ht1.1
    obtain ⟨dy, rfl⟩ := Int.eq_ofNat_of_zero_le (a := dy) ht2.1
    have HC := hid hc
    have H1 := hid h1
    have H2 := hid h2
    clear hB hbs ht1 ht2 hc h1 h2
    go_enter Try.func38, Try.ntmps38
    go_wp2_with fail
    refine (l09Code_any p c h s x _ y _ HX.out HDX.out HY.out HDY.out _).mono ?_
    rintro e w1 ⟨rfl, hb⟩
    obtain ⟨hc, hf⟩ := bcell hb
    have hsz := hb.size
    (try simp at hsz)
    (try have hy0 : w.heap.size < w1.heap.size := by omega)
    (try have hy1 : w.heap.size + 1 < w1.heap.size := by omega)
    (try have hy2 : w.heap.size + 2 < w1.heap.size := by omega)
    (try have hyS : ws.heap.size < w1.heap.size := by omega)
    (try have hyG : wg.heap.size < w1.heap.size := by omega)
    (try have hy3 : w.heap.size + 3 < w1.heap.size := by omega)
    go_wp2_with (go_at_call 73; (with_reducible refine (compareS_any _ _ _ _ _ _ b dx dy HB.out H1.out H2.out _).mono ?_); rintro e w2 ⟨rfl, hb⟩; obtain ⟨hc, hf⟩ := bcell hb; have hsz := hb.size; (try simp at hsz); (try have hy0 : w.heap.size < w2.heap.size := by omega); (try have hy1 : w.heap.size + 1 < w2.heap.size := by omega); (try have hy2 : w.heap.size + 2 < w2.heap.size := by omega); (try have hyS : ws.heap.size < w2.heap.size := by omega); (try have hyG : wg.heap.size < w2.heap.size := by omega))
    go_ret2
    exact ⟨ret_ii (by simp [cmpZ, HC.out, HBS.out]) HC.out.symm, by (repeat' (first | exact Below.refl _ _ | (with_reducible assumption) | (with_reducible refine xAlloc ?_ _) | (with_reducible refine Below.drew ?_) | (with_reducible refine xDrewN ?_ _) | (with_reducible refine xThen ?_ (by with_reducible assumption)) | (with_reducible refine Below.setCell ?_ (by first | omega | (simp; omega) | simp) _)))⟩

theorem lawCompare (p c h s : Int) (_ : (Lit.int .i64 p).wf = true) (_ : (Lit.int .i64 c).wf = true) (_ : (Lit.int .i64 h).wf = true) (_ : (Lit.int .i64 s).wf = true) (x dx : Int) (wx : (Lit.int .i64 x).wf = true) (wdx : (Lit.int .i64 dx).wf = true)
    (y dy : Int) (wy : (Lit.int .i64 y).wf = true) (wdy : (Lit.int .i64 dy).wf = true) (w : World) :
    Calls Try.prog 11 #[.agg #[.int .i64 p, .int .i64 c, .int .i64 h, .int .i64 s], .agg #[.int .i64 x, .int .i64 dx], .agg #[.int .i64 y, .int .i64 dy]] w fun e w' => e = .returned (.bool true) ∧ Below w.heap.size w w' := by
  have HX := hid (I64.of_wf wx)
  have HDX := hid (I64.of_wf wdx)
  have HY := hid (I64.of_wf wy)
  have HDY := hid (I64.of_wf wdy)
  clear wx wdx wy wdy
  go_enter Try.func11, Try.ntmps11
  go_wp2
  refine wp_named (fun W hW0 => ?_)
  have hW := hid hW0
  clear hW0
  have sW : W.heap.size = w.heap.size + 3 := by rw [← hW.out]; simp
  have bW : Below w.heap.size w W := by rw [← hW.out]; (repeat' (first | exact Below.refl _ _ | (with_reducible assumption) | (with_reducible refine xAlloc ?_ _) | (with_reducible refine Below.drew ?_) | (with_reducible refine xDrewN ?_ _) | (with_reducible refine xThen ?_ (by with_reducible assumption)) | (with_reducible refine Below.setCell ?_ (by first | omega | (simp; omega) | simp) _)))
  have lW0 : w.heap.size < W.heap.size := by omega
  have lW1 : w.heap.size + 1 < W.heap.size := by omega
  have lW2 : w.heap.size + 2 < W.heap.size := by omega
  have kW0 : W.cell? ⟨w.heap.size, 0, none⟩ = some (.int .i64 p) := by rw [← hW.out]; go_simp
  have kW1 : W.cell? ⟨w.heap.size, 1, none⟩ = some (.int .i64 c) := by rw [← hW.out]; go_simp
  have kW2 : W.cell? ⟨w.heap.size, 2, none⟩ = some (.int .i64 h) := by rw [← hW.out]; go_simp
  have kW3 : W.cell? ⟨w.heap.size, 3, none⟩ = some (.int .i64 s) := by rw [← hW.out]; go_simp
  have kW4 : W.cell? ⟨w.heap.size + 1, 0, none⟩ = some (.int .i64 x) := by rw [← hW.out]; go_simp
  have kW5 : W.cell? ⟨w.heap.size + 1, 1, none⟩ = some (.int .i64 dx) := by rw [← hW.out]; go_simp
  have kW6 : W.cell? ⟨w.heap.size + 2, 0, none⟩ = some (.int .i64 y) := by rw [← hW.out]; go_simp
  have kW7 : W.cell? ⟨w.heap.size + 2, 1, none⟩ = some (.int .i64 dy) := by rw [← hW.out]; go_simp
  clear hW sW
  have hk0 : ∀ xe : ExtW W, xe.u.cell? ⟨w.heap.size, 0, none⟩ = some (.int .i64 p) := fun xe => xe.cell (by go_simp)
  have hk1 : ∀ xe : ExtW W, xe.u.cell? ⟨w.heap.size, 1, none⟩ = some (.int .i64 c) := fun xe => xe.cell (by go_simp)
  have hk2 : ∀ xe : ExtW W, xe.u.cell? ⟨w.heap.size, 2, none⟩ = some (.int .i64 h) := fun xe => xe.cell (by go_simp)
  have hk3 : ∀ xe : ExtW W, xe.u.cell? ⟨w.heap.size, 3, none⟩ = some (.int .i64 s) := fun xe => xe.cell (by go_simp)
  have hk4 : ∀ xe : ExtW W, xe.u.cell? ⟨w.heap.size + 1, 0, none⟩ = some (.int .i64 x) := fun xe => xe.cell (by go_simp)
  have hk5 : ∀ xe : ExtW W, xe.u.cell? ⟨w.heap.size + 1, 1, none⟩ = some (.int .i64 dx) := fun xe => xe.cell (by go_simp)
  have hk6 : ∀ xe : ExtW W, xe.u.cell? ⟨w.heap.size + 2, 0, none⟩ = some (.int .i64 y) := fun xe => xe.cell (by go_simp)
  have hk7 : ∀ xe : ExtW W, xe.u.cell? ⟨w.heap.size + 2, 1, none⟩ = some (.int .i64 dy) := fun xe => xe.cell (by go_simp)
  have hne : Nonempty (ExtW W) := ⟨⟨_, Below.refl _ _⟩⟩
  refine wp_region_ext (by kernel_rfl) (by kernel_rfl) ?_
  repeat (quiet_step ((first | (go_at_call 16; exact ext_call (toVariant_any _ _ _ _ _)) | (go_at_call 23; exact ext_call (toExact_any _ _ _)) | (go_at_call 38; exact ext_call (specCompare_any _ _ _ _ _ _ _ _ HX.out HDX.out HY.out HDY.out _)))))
  refine wpQuiet_nil ?_
  rintro w1 ⟨⟨_, hb⟩, rfl⟩
  obtain ⟨hc, hf⟩ := bcell hb
  have hsz := hb.size
  (try simp at hsz)
  (try have hy0 : w.heap.size < w1.heap.size := by omega)
  (try have hy1 : w.heap.size + 1 < w1.heap.size := by omega)
  (try have hy2 : w.heap.size + 2 < w1.heap.size := by omega)
  (try have hyS : ws.heap.size < w1.heap.size := by omega)
  (try have hyG : wg.heap.size < w1.heap.size := by omega)
  have kV0 := xcell hb kW0
  have kV1 := xcell hb kW1
  have kV2 := xcell hb kW2
  have kV3 := xcell hb kW3
  have kV4 := xcell hb kW4
  have kV5 := xcell hb kW5
  have kV6 := xcell hb kW6
  have kV7 := xcell hb kW7
  have Bv : Below w.heap.size w w1 := by (repeat' (first | exact Below.refl _ _ | (with_reducible assumption) | (with_reducible refine xAlloc ?_ _) | (with_reducible refine Below.drew ?_) | (with_reducible refine xDrewN ?_ _) | (with_reducible refine xThen ?_ (by with_reducible assumption)) | (with_reducible refine Below.setCell ?_ (by first | omega | (simp; omega) | simp) _)))
  clear hc hf
  go_wp2
  have hk0 : ∀ xe : ExtW w1, xe.u.cell? ⟨w.heap.size, 0, none⟩ = some (.int .i64 p) := fun xe => xe.cell (by go_simp)
  have hk1 : ∀ xe : ExtW w1, xe.u.cell? ⟨w.heap.size, 1, none⟩ = some (.int .i64 c) := fun xe => xe.cell (by go_simp)
  have hk2 : ∀ xe : ExtW w1, xe.u.cell? ⟨w.heap.size, 2, none⟩ = some (.int .i64 h) := fun xe => xe.cell (by go_simp)
  have hk3 : ∀ xe : ExtW w1, xe.u.cell? ⟨w.heap.size, 3, none⟩ = some (.int .i64 s) := fun xe => xe.cell (by go_simp)
  have hk4 : ∀ xe : ExtW w1, xe.u.cell? ⟨w.heap.size + 1, 0, none⟩ = some (.int .i64 x) := fun xe => xe.cell (by go_simp)
  have hk5 : ∀ xe : ExtW w1, xe.u.cell? ⟨w.heap.size + 1, 1, none⟩ = some (.int .i64 dx) := fun xe => xe.cell (by go_simp)
  have hk6 : ∀ xe : ExtW w1, xe.u.cell? ⟨w.heap.size + 2, 0, none⟩ = some (.int .i64 y) := fun xe => xe.cell (by go_simp)
  have hk7 : ∀ xe : ExtW w1, xe.u.cell? ⟨w.heap.size + 2, 1, none⟩ = some (.int .i64 dy) := fun xe => xe.cell (by go_simp)
  have hne : Nonempty (ExtW w1) := ⟨⟨_, Below.refl _ _⟩⟩
  refine wp_region_ext (by kernel_rfl) (by kernel_rfl) ?_
  repeat (quiet_step ((first | (go_at_call 16; exact ext_call (toVariant_any _ _ _ _ _)) | (go_at_call 23; exact ext_call (toExact_any _ _ _)) | (go_at_call 39; exact ext_call (implCompare_any _ _ _ _ _ _ _ _ HX.out HDX.out HY.out HDY.out _)))))
  refine wpQuiet_nil ?_
  rintro w1 ⟨⟨_, hb⟩, rfl⟩
  obtain ⟨hc, hf⟩ := bcell hb
  have hsz := hb.size
  (try simp at hsz)
  (try have hy0 : w.heap.size < w1.heap.size := by omega)
  (try have hy1 : w.heap.size + 1 < w1.heap.size := by omega)
  (try have hy2 : w.heap.size + 2 < w1.heap.size := by omega)
  (try have hyS : ws.heap.size < w1.heap.size := by omega)
  (try have hyG : wg.heap.size < w1.heap.size := by omega)
  go_wp2
  go_ret
  exact ⟨rfl, by (repeat' (first | exact Below.refl _ _ | (with_reducible assumption) | (with_reducible refine xAlloc ?_ _) | (with_reducible refine Below.drew ?_) | (with_reducible refine xDrewN ?_ _) | (with_reducible refine xThen ?_ (by with_reducible assumption)) | (with_reducible refine Below.setCell ?_ (by first | omega | (simp; omega) | simp) _)))⟩
end Go.Proofs.Ytdifaojcjcnokaa
