/-
  The contract of the reference's product of a valid number and a small number.
-/
import Derived.Test.YtmcjabodkjlkgaaMul
import Derived.Test.YtmcjabodkjlkgaaTailA
namespace Go.Proofs.Ytmcjabodkjlkgaa
open Go.RowKit

theorem least_dvd {B b : Nat} : ∀ k, B ∣ b ^ k → ∃ k', k' ≤ k ∧ B ∣ b ^ k' ∧ (k' = 0 ∨ ¬ B ∣ b ^ (k' - 1))
  | 0, h => ⟨0, Nat.le_refl _, h, .inl rfl⟩
  | k + 1, h => by
    by_cases h1 : B ∣ b ^ k
    · obtain ⟨k', h2, h3, h4⟩ := least_dvd k h1
      exact ⟨k', by omega, h3, h4⟩
    · exact ⟨k + 1, Nat.le_refl _, h, .inr (by simpa using h1)⟩
theorem strip_ge {b D B : Nat} {a A : Int} (hb : 1 ≤ b) (hB : 1 ≤ B) (hco : Nat.Coprime a.natAbs B) (heq : a * (b : Int) ^ D = A * B) : a.natAbs ≤ (strip b D A).1.natAbs := by
  obtain ⟨k, hk, hd, hmin⟩ := least_dvd D (fit_ends hco heq)
  rw [fit_find hb hB hco heq hk hd hmin]
  show a.natAbs ≤ (a * ((b ^ k / B : Nat) : Int)).natAbs
  rw [Int.natAbs_mul, Int.natAbs_natCast]
  exact Nat.le_mul_of_pos_right _ (Nat.div_pos (Nat.le_of_dvd (Nat.pow_pos hb) hd) hB)

/-- the parts of a product -/
structure Parts (x k : Int) (S d G S1 B : Nat) (x1 k1 : Int) : Prop where
  gd : Nat.gcd k.natAbs S = d
  gg : Nat.gcd x.natAbs S1 = G
  sd : S = d * S1
  sg : S1 = G * B
  xe : x = G * x1
  ke : k = d * k1
  d1 : 1 ≤ d
  g1 : 1 ≤ G
  b1 : 1 ≤ B
  co : Nat.Coprime (x1 * k1).natAbs B
theorem parts (x k : Int) {S : Nat} (hS : 1 ≤ S) : ∃ d G S1 B x1 k1, Parts x k S d G S1 B x1 k1 := by
  obtain ⟨S1, hS1⟩ := Nat.gcd_dvd_right k.natAbs S
  obtain ⟨k1, hk1⟩ : ((Nat.gcd k.natAbs S : Nat) : Int) ∣ k := Int.ofNat_dvd_left.2 (Nat.gcd_dvd_left _ _)
  have hd : 1 ≤ Nat.gcd k.natAbs S := Nat.gcd_pos_of_pos_right _ (by omega)
  have hS1p : 1 ≤ S1 := by
    rcases Nat.eq_zero_or_pos S1 with h | h
    · rw [h] at hS1; omega
    · exact h
  obtain ⟨B, hB⟩ := Nat.gcd_dvd_right x.natAbs S1
  obtain ⟨x1, hx1⟩ : ((Nat.gcd x.natAbs S1 : Nat) : Int) ∣ x := Int.ofNat_dvd_left.2 (Nat.gcd_dvd_left _ _)
  have hg : 1 ≤ Nat.gcd x.natAbs S1 := Nat.gcd_pos_of_pos_right _ (by omega)
  have hBp : 1 ≤ B := by
    rcases Nat.eq_zero_or_pos B with h | h
    · rw [h] at hB; omega
    · exact h
  have ck : Nat.Coprime k1.natAbs S1 := by
    have h1 : k.natAbs = Nat.gcd k.natAbs S * k1.natAbs := by
      have := congrArg Int.natAbs hk1
      rwa [Int.natAbs_mul, Int.natAbs_natCast] at this
    have h2 : Nat.gcd k.natAbs S = Nat.gcd k.natAbs S * Nat.gcd k1.natAbs S1 := by
      rw [← Nat.gcd_mul_left, ← h1, ← hS1]
    exact Nat.eq_of_mul_eq_mul_left (show 0 < Nat.gcd k.natAbs S from hd) (by rw [← h2, Nat.mul_one])
  have cx : Nat.Coprime x1.natAbs B := by
    have h1 : x.natAbs = Nat.gcd x.natAbs S1 * x1.natAbs := by
      have := congrArg Int.natAbs hx1
      rwa [Int.natAbs_mul, Int.natAbs_natCast] at this
    have h2 : Nat.gcd x.natAbs S1 = Nat.gcd x.natAbs S1 * Nat.gcd x1.natAbs B := by
      rw [← Nat.gcd_mul_left, ← h1, ← hB]
    exact Nat.eq_of_mul_eq_mul_left (show 0 < Nat.gcd x.natAbs S1 from hg) (by rw [← h2, Nat.mul_one])
  have ck2 : Nat.Coprime k1.natAbs B := Nat.Coprime.coprime_dvd_right ⟨_, by rw [Nat.mul_comm]; exact hB⟩ ck
  exact ⟨_, _, S1, B, x1, k1, rfl, rfl, hS1, hB, hx1, hk1, hd, hg, hBp, by rw [Int.natAbs_mul]; exact Nat.Coprime.mul_left cx ck2⟩
theorem Parts.eq {x k : Int} {S d G S1 B : Nat} {x1 k1 : Int} (h : Parts x k S d G S1 B x1 k1) {b dx : Nat} (hS : S = b ^ dx) : (x1 * k1) * (b : Int) ^ dx = (x * k) * B := by
  have e : (b : Int) ^ dx = (S : Int) := by rw [hS, Int.natCast_pow]
  rw [e, h.sd, h.sg, h.xe, h.ke]
  simp only [Int.natCast_mul]
  ac_rfl

theorem rel0 {P : Program} {f : FuncId} {args : Array Value} {w : World} {v : Value} (h : Calls P f args w fun e w' => e = .returned v ∧ w = w') : Calls P f args w fun e w' => e = .returned v ∧ Below w.heap.size w w' :=
  h.mono fun _ _ ⟨h1, h2⟩ => ⟨h1, h2 ▸ Below.refl _ _⟩
theorem gcd_at (a bv : Int) (B G : Nat) (ha : -9223372036854775807 ≤ a ∧ a ≤ 9223372036854775807) (hB : B ≤ 9223372036854775807) (hbv : bv = (B : Int)) (hG : Nat.gcd a.natAbs B = G) (w : World) :
    Calls Try.prog 122 #[.int .i64 a, .int .i64 bv] w fun e w' => e = .returned (.int .i64 G) ∧ w = w' := by
  subst hbv; exact l09Gcd_nat a B G ha hB hG w

set_option maxHeartbeats 4000000 in
theorem mulS_any (p c h s x k : Int) (b dx : Nat) (hBs : Base s b) (hx : exB b x dx = true) (hk : -1000 ≤ k ∧ k ≤ 1000) (w : World) :
    Calls Try.prog 81 #[.agg #[.int .i64 p, .int .i64 c, .int .i64 h, .int .i64 s], .agg #[.int .i64 x, .int .i64 dx], .int .i64 k] w fun e w' =>
      e = .returned (.tuple #[.agg #[.int .i64 (mulN b dx (x * k)), .int .i64 (mulD b dx (x * k))], .bool (fitOk b dx (x * k))]) ∧ Below w.heap.size w w' := by
  obtain ⟨_, hx2, hx3, hx4, _⟩ := exB_true hx
  rw [Int.toNat_natCast] at hx4
  have HB := hid hBs
  have b1 := hBs.2.2.2.1
  have HX4 := hid hx4
  have hS1 : 1 ≤ b ^ dx := Nat.pow_pos b1
  obtain ⟨S, HS⟩ := named (b ^ dx)
  rw [← HS.out] at hS1 hx4
  obtain ⟨d, G, S1, B, x1, k1, hP⟩ := parts x k hS1
  have P := hid hP
  have hEQ := hid (hP.eq HS.out)
  have p1 := hP.d1
  have p2 := hP.g1
  have p3 := hP.b1
  have dS : d ≤ S := by rw [hP.sd]; exact Nat.le_mul_of_pos_right _ (by rw [hP.sg]; exact Nat.mul_pos p2 p3)
  have S1S : S1 ≤ S := by rw [hP.sd]; exact Nat.le_mul_of_pos_left _ p1
  have GS1 : G ≤ S1 := by rw [hP.sg]; exact Nat.le_mul_of_pos_right _ p3
  have BS1 : B ≤ S1 := by rw [hP.sg]; exact Nat.le_mul_of_pos_left _ p2
  have E1 : (S : Int) / (d : Int) = (S1 : Int) := by rw [hP.sd, Int.natCast_mul]; exact Int.mul_ediv_cancel_left _ (by omega)
  have E1' : (S : Int).tdiv (d : Int) = (S1 : Int) := by rw [hP.sd, Int.natCast_mul]; exact Int.mul_tdiv_cancel_left _ (by omega)
  have E2 : x.tdiv (G : Int) = x1 := by
    have := Int.mul_tdiv_cancel_left (a := (G : Int)) x1 (by omega)
    rwa [← hP.xe] at this
  have E3 : k.tdiv (d : Int) = k1 := by
    have := Int.mul_tdiv_cancel_left (a := (d : Int)) k1 (by omega)
    rwa [← hP.ke] at this
  have E4 : (S1 : Int) / (G : Int) = (B : Int) := by rw [hP.sg, Int.natCast_mul]; exact Int.mul_ediv_cancel_left _ (by omega)
  have E4' : (S1 : Int).tdiv (G : Int) = (B : Int) := by rw [hP.sg, Int.natCast_mul]; exact Int.mul_tdiv_cancel_left _ (by omega)
  have E5 : max 1 (d : Int) = (d : Int) := by omega
  have ax : x1.natAbs ≤ x.natAbs := by
    have := congrArg Int.natAbs hP.xe
    rw [Int.natAbs_mul, Int.natAbs_natCast] at this
    rw [this]; exact Nat.le_mul_of_pos_left _ p2
  have ak : k1.natAbs ≤ k.natAbs := by
    have := congrArg Int.natAbs hP.ke
    rw [Int.natAbs_mul, Int.natAbs_natCast] at this
    rw [this]; exact Nat.le_mul_of_pos_left _ p1
  have V1 : IntKind.i64.wrap x1 = x1 := by rw [IntKind.wrap_i64]; omega
  have V2 : IntKind.i64.wrap k1 = k1 := by rw [IntKind.wrap_i64]; omega
  have V3 : IntKind.i64.wrap (S1 : Int) = (S1 : Int) := by rw [IntKind.wrap_i64]; omega
  have V4 : IntKind.i64.wrap (B : Int) = (B : Int) := by rw [IntKind.wrap_i64]; omega
  have dz : ¬ d = 0 := by omega
  have gz : ¬ G = 0 := by omega
  clear hP hx hBs
  go_enter Try.func81, Try.ntmps81
  go_wp2_with (first | (go_at_call 121; (with_reducible refine (l09Scale_pow _ _ _ _ b dx dx S HB.out (Nat.le_refl _) HX4.out (by omega) HS.out.symm _).mono ?_); rintro e w1 ⟨rfl, hb⟩; obtain ⟨hc, hf⟩ := bcell hb; have hsz := hb.size; (try simp at hsz); (try have hy0 : w.heap.size < w1.heap.size := by omega); (try have hy1 : w.heap.size + 1 < w1.heap.size := by omega); (try have hy2 : w.heap.size + 2 < w1.heap.size := by omega); (try have hyS : ws.heap.size < w1.heap.size := by omega); (try have hyG : wg.heap.size < w1.heap.size := by omega)) | (go_at_call_of 122 k; (with_reducible refine (gcd_at k _ S d (by omega) (by omega) (by omega) P.out.gd _).mono ?_); rintro e w' ⟨rfl, rfl⟩) | (go_at_call_of 122 x; (with_reducible refine (gcd_at x _ S1 G (by omega) (by omega) (by omega) P.out.gg _).mono ?_); rintro e w' ⟨rfl, rfl⟩))
  have KX : w1.heap[w.heap.size + 1]? = some (.cells #[.int .i64 x, .int .i64 (dx : Int)] 52 (0, 0)) := by
    have := blk_new (w.alloc (.cells #[.int .i64 p, .int .i64 c, .int .i64 h, .int .i64 s] 29)) (.cells #[.int .i64 x, .int .i64 (dx : Int)] 52 (0, 0))
    refine blk_mono hb ?_
    first | (simpa using this) | (refine blk_old ?_; simpa using this)
  have KV : w1.heap[w.heap.size]? = some (.cells #[.int .i64 p, .int .i64 c, .int .i64 h, .int .i64 s] 29 (0, 0)) := by
    refine blk_mono hb ?_
    first | exact blk_old (blk_new _ _) | exact blk_old (blk_old (blk_new _ _))
  have KR : w1.heap[w.heap.size + 2]? = some (.cells #[.int .i64 0, .int .i64 0] 52 (0, 0)) := by
    have := blk_new ((w.alloc (.cells #[.int .i64 p, .int .i64 c, .int .i64 h, .int .i64 s] 29)).alloc (.cells #[.int .i64 x, .int .i64 (dx : Int)] 52 (0, 0))) (.cells #[.int .i64 0, .int .i64 0] 52 (0, 0))
    exact blk_mono hb (by simpa using this)
  have qx0 : w1.cell? ⟨w.heap.size + 1, 0, none⟩ = some (.int .i64 x) := cell_at KX
  have qx1 : w1.cell? ⟨w.heap.size + 1, 1, none⟩ = some (.int .i64 (dx:Int)) := cell_at KX
  have B1 : Below w.heap.size w w1 := by (repeat' (first | exact Below.refl _ _ | (with_reducible assumption) | (with_reducible refine xAlloc ?_ _) | (with_reducible refine Below.drew ?_) | (with_reducible refine xDrewN ?_ _) | (with_reducible refine xThen ?_ (by with_reducible assumption)) | (with_reducible refine Below.setCell ?_ (by first | omega | (simp; omega) | simp) _)))
  clear hc hf
  have hk0 : ∀ xe : ExtW w1, xe.u.cell? ⟨w.heap.size + 1, 0, none⟩ = some (.int .i64 x) := fun xe => xe.cell (by go_simp)
  have hk1 : ∀ xe : ExtW w1, xe.u.cell? ⟨w.heap.size + 1, 1, none⟩ = some (.int .i64 dx) := fun xe => xe.cell (by go_simp)
  have hne : Nonempty (ExtW w1) := ⟨⟨_, Below.refl _ _⟩⟩
  refine wp_region_ext (by kernel_rfl) (by kernel_rfl) ?_
  repeat (quiet_step ((first | (go_at_call 122; exact ext_call0 (gcd_at x _ S1 G (by omega) (by omega) (by omega) P.out.gg _)) | (go_at_call 123; exact ext_call0 (l09Times_any x1 k1 (by omega) (by omega) _)))))
  refine wpQuiet_nil ?_
  rintro w1 ⟨⟨_, hb⟩, rfl⟩
  obtain ⟨hc, hf⟩ := bcell hb
  have hsz := hb.size
  (try simp at hsz)
  (try have hy0 : w.heap.size < w1.heap.size := by omega)
  (try have hy1 : w.heap.size + 1 < w1.heap.size := by omega)
  (try have hy2 : w.heap.size + 2 < w1.heap.size := by omega)
  (try have hyS : ws.heap.size < w1.heap.size := by omega)
  (try have hyG : wg.heap.size < w1.heap.size := by omega)
  have KX2 := blk_mono hb KX
  have KV2 := blk_mono hb KV
  have KR2 := blk_mono hb KR
  have BW : Below w.heap.size w w1 := xThen B1 hb
  have qr0 : w1.cell? ⟨w.heap.size + 2, 0, none⟩ = some (.int .i64 0) := cell_at KR2
  have qr1 : w1.cell? ⟨w.heap.size + 2, 1, none⟩ = some (.int .i64 0) := cell_at KR2
  have fr0 : w1.frozen? ⟨w.heap.size + 2, 0, none⟩ = false := frozen_at KR2
  have fr1 : w1.frozen? ⟨w.heap.size + 2, 1, none⟩ = false := frozen_at KR2
  clear KX KV KR hc hf
  cases htk : timesOk x1 k1
  · have HF : Hid (fitOk b dx (x * k) = false) := hid (by
      have h1 := strip_ge b1 p3 P.out.co hEQ.out
      have h2 : (x1 * k1).natAbs = x1.natAbs * k1.natAbs := Int.natAbs_mul x1 k1
      simp only [timesOk] at htk
      have h3 : ¬ (x1.natAbs * k1.natAbs ≤ 1000000000000000000) := by simpa using htk
      simp only [fitOk, inB]
      simp
      omega)
    go_wp2
    refine bodyPost_ret (v := .tuple #[.agg #[.int .i64 0, .int .i64 0], .bool false]) (by simp only [results, Try.results81]; go_simp) rfl ?_
    exact ⟨by simp [mulN, mulD, HF.out], by (repeat' (first | exact Below.refl _ _ | (with_reducible assumption) | (with_reducible refine xAlloc ?_ _) | (with_reducible refine Below.drew ?_) | (with_reducible refine xDrewN ?_ _) | (with_reducible refine xThen ?_ (by with_reducible assumption)) | (with_reducible refine Below.setCell ?_ (by first | omega | (simp; omega) | simp) _)))⟩
  · have HT := hid htk
    have HV : Hid (timesV x1 k1 = x1 * k1) := hid (by simp [timesV, htk])
    have hbd : (x1 * k1).natAbs ≤ 1000000000000000000 := by
      rw [Int.natAbs_mul]; simpa [timesOk] using htk
    rw [HV.out]
    obtain ⟨m, HM⟩ := named (x1 * k1)
    rw [← HM.out] at hbd
    rw [← HM.out]
    clear htk
    have rx0 : w1.cell? ⟨w.heap.size + 1, 0, none⟩ = some (.int .i64 x) := cell_at KX2
    have rx1 : w1.cell? ⟨w.heap.size + 1, 1, none⟩ = some (.int .i64 (dx:Int)) := cell_at KX2
    have rv0 : w1.cell? ⟨w.heap.size, 0, none⟩ = some (.int .i64 p) := cell_at KV2
    have rv1 : w1.cell? ⟨w.heap.size, 1, none⟩ = some (.int .i64 c) := cell_at KV2
    have rv2 : w1.cell? ⟨w.heap.size, 2, none⟩ = some (.int .i64 h) := cell_at KV2
    have rv3 : w1.cell? ⟨w.heap.size, 3, none⟩ = some (.int .i64 s) := cell_at KV2
    have heq : m * (b : Int) ^ dx = (x * k) * B := by rw [HM.out]; exact hEQ.out
    have HEQ2 := hid heq
    clear heq
    go_wp2_with fail
    have hk0 : ∀ xe : ExtW w1, xe.u.cell? ⟨w.heap.size, 0, none⟩ = some (.int .i64 p) := fun xe => xe.cell (by go_simp)
    have hk1 : ∀ xe : ExtW w1, xe.u.cell? ⟨w.heap.size, 1, none⟩ = some (.int .i64 c) := fun xe => xe.cell (by go_simp)
    have hk2 : ∀ xe : ExtW w1, xe.u.cell? ⟨w.heap.size, 2, none⟩ = some (.int .i64 h) := fun xe => xe.cell (by go_simp)
    have hk3 : ∀ xe : ExtW w1, xe.u.cell? ⟨w.heap.size, 3, none⟩ = some (.int .i64 s) := fun xe => xe.cell (by go_simp)
    have hk4 : ∀ xe : ExtW w1, xe.u.cell? ⟨w.heap.size + 1, 0, none⟩ = some (.int .i64 x) := fun xe => xe.cell (by go_simp)
    have hk5 : ∀ xe : ExtW w1, xe.u.cell? ⟨w.heap.size + 1, 1, none⟩ = some (.int .i64 dx) := fun xe => xe.cell (by go_simp)
    have hne : Nonempty (ExtW w1) := ⟨⟨_, Below.refl _ _⟩⟩
    refine wp_region_oth [true, true, true, true, true, true, true, true, true, true, true, true, true, true, true, true, false, false, true] [16, 17] (by kernel_rfl) (by kernel_rfl) ?_
    simp only [sift]
    repeat (refine wpRel_step (fun K hK => ?_); simp only [relAt]; go_simp; first | (refine hK _ ?_; clear hK K) | (apply Exists.intro; refine ⟨fun _ => ?_, hK _ ?_⟩; ((first | (go_at_call 122; exact rel0 (gcd_at x _ S1 G (by omega) (by omega) (by omega) P.out.gg _)) | (go_at_call 124; exact l09Fit_any _ _ _ _ m (x * k) b B dx HB.out (by omega) p3 (by omega) HEQ2.out HX4.out (by omega) _))); clear hK K))
    refine wpRel_nil ?_
    clear hk0 hk1 hk2 hk3 hk4 hk5 hne
    refine wpOth_box rfl rfl (cs := #[.int .i64 0, .int .i64 0]) (t := 52) (fun _ _ => by go_simp) rfl rfl rfl [.int .i64 (fitNum b dx (x * k)), .int .i64 (fitDep b dx (x * k))] (cs' := #[.int .i64 (fitNum b dx (x * k)), .int .i64 (fitDep b dx (x * k))]) rfl (fun g wx hbx => ?_) ?_
    · have c0 : wx.cell? ⟨g, 0, none⟩ = some (.int .i64 0) := cell_at hbx; have f0 : wx.frozen? ⟨g, 0, none⟩ = false := frozen_at hbx; have c1 : wx.cell? ⟨g, 1, none⟩ = some (.int .i64 0) := cell_at hbx; have f1 : wx.frozen? ⟨g, 1, none⟩ = false := frozen_at hbx; clear hbx; go_simp; rfl
    rintro g2 w2 ⟨hb2, box2, new2⟩
    have KR3 := blk_mono hb2 KR2
    have lt2 := blk_lt KR3
    have lt3 := blk_lt box2
    have sr0 : w2.cell? ⟨w.heap.size + 2, 0, none⟩ = some (.int .i64 0) := cell_at KR3
    have sr1 : w2.cell? ⟨w.heap.size + 2, 1, none⟩ = some (.int .i64 0) := cell_at KR3
    have so0 : w2.cell? ⟨g2, 0, none⟩ = some (.int .i64 (fitNum b dx (x * k))) := cell_at box2
    have so1 : w2.cell? ⟨g2, 1, none⟩ = some (.int .i64 (fitDep b dx (x * k))) := cell_at box2
    have sr0f : w2.frozen? ⟨w.heap.size + 2, 0, none⟩ = false := frozen_at KR3
    have sr1f : w2.frozen? ⟨w.heap.size + 2, 1, none⟩ = false := frozen_at KR3
    have BW2 : Below w.heap.size w w2 := xThen BW hb2
    have gne : ¬ g2 = w.heap.size + 2 := by omega
    cases hfk : fitOk b dx (x * k)
    · have HF := hid hfk
      go_wp2
      refine bodyPost_ret (v := .tuple #[.agg #[.int .i64 0, .int .i64 0], .bool false]) (by simp only [results, Try.results81]; go_simp) rfl ?_
      exact ⟨by simp [mulN, mulD, HF.out], by (repeat' (first | exact Below.refl _ _ | (with_reducible assumption) | (with_reducible refine xAlloc ?_ _) | (with_reducible refine Below.drew ?_) | (with_reducible refine xDrewN ?_ _) | (with_reducible refine xThen ?_ (by with_reducible assumption)) | (with_reducible refine Below.setCell ?_ (by first | omega | (simp; omega) | simp) _)))⟩
    · have HF := hid hfk
      go_wp2
      refine bodyPost_ret (v := .tuple #[.agg #[.int .i64 (fitNum b dx (x * k)), .int .i64 (fitDep b dx (x * k))], .bool true]) (by simp only [results, Try.results81]; go_simp) rfl ?_
      exact ⟨by simp [mulN, mulD, fitNum, fitDep, HF.out], by (repeat' (first | exact Below.refl _ _ | (with_reducible assumption) | (with_reducible refine xAlloc ?_ _) | (with_reducible refine Below.drew ?_) | (with_reducible refine xDrewN ?_ _) | (with_reducible refine xThen ?_ (by with_reducible assumption)) | (with_reducible refine Below.setCell ?_ (by first | omega | (simp; omega) | simp) _)))⟩
end Go.Proofs.Ytmcjabodkjlkgaa
