/-
  Contracts: millionths, draws; the law FnExactText.
-/
import Derived.Test.YtokddngcfkimlaaDoorVXd
namespace Go.Proofs.YtokddngcfkimlaaDoor
open Go.RowKit
set_option linter.unusedSimpArgs false
set_option linter.unusedVariables false
def c_laws_big : Con where
  ins := [(false, .v (.sl (.i .u8)))]
  outs := [(false, .v .b)]
  sh := false
  pre := fun _ => True
  out := fun x => (decide (4096 < (List.length x.1 : Int)), ())
  upd := fun x => x
theorem k_laws_big [B : Base] : ConOk Tryd.prog 4 c_laws_big := by
  refine fn_ok (C := cx Tryd.prog 6 c_laws_big) (cs := []) (res := Tryd.f4.results.toList) (fun _ => ⟨[], [], []⟩) Tryd.func4 (by kernel_rfl) rfl rfl rfl tysOk.look eqTsOk.look (AllCs.ok (l := []) trivial) mixed rfl rfl rfl ?_
  refine of_nf (P := ∀ c : List Int, (True) → ((lensI c_laws_big.ins (c, ())) → (@Eq (HO c_laws_big.outs) ((decide ((4096 : Int) < (c.length : Int))), ()) (c_laws_big.out (c, ()))))) (by kernel_rfl) ?_
  rintro c hp hl
  rfl
noncomputable section
def millV (S : Nat) (x : Int) : Int := x * 1000000 / (S : Int)
theorem mill_up {S : Nat} {x : Int} (h : 0 ≤ x) : millV S x = ((x.natAbs * 1000000 / S : Nat) : Int) := by
  obtain ⟨n, rfl⟩ := Int.eq_ofNat_of_zero_le h
  simp [millV]
theorem neg_ediv {N S : Nat} (hS : 1 ≤ S) : -(N : Int) / (S : Int) = -(((N / S : Nat) : Int) + (if N % S = 0 then 0 else 1)) := by
  have hd := Nat.div_add_mod N S
  have hm := Nat.mod_lt N (show 0 < S by omega)
  generalize N / S = q at *
  generalize hr : N % S = r at *
  subst hd
  by_cases h0 : r = 0
  · subst h0
    simp only [if_true, Nat.add_zero]
    refine Int.ediv_eq_of_eq_mul_right (by omega) ?_
    rw [Int.natCast_mul, Int.mul_neg, Int.mul_add]; simp
  · rw [if_neg h0]
    have e3 : -((S * q + r : Nat) : Int) = ((S : Int) - r) + (S : Int) * (-((q : Int) + 1)) := by
      rw [Int.natCast_add, Int.natCast_mul, Int.mul_neg, Int.mul_add]; omega
    rw [e3, Int.add_mul_ediv_left _ _ (by omega), Int.ediv_eq_zero_of_lt (by omega) (by omega)]
    omega
theorem mill_down {S : Nat} {x : Int} (hS : 1 ≤ S) (h : x < 0) : millV S x = -(((x.natAbs * 1000000 / S : Nat) : Int) + (if x.natAbs * 1000000 % S = 0 then 0 else 1)) := by
  rw [← neg_ediv hS]
  obtain ⟨n, rfl⟩ : ∃ n : Nat, x = -(n : Int) := ⟨x.natAbs, by omega⟩
  rw [show (-(n : Int)).natAbs = n by omega, Int.natCast_mul]
  show -(n : Int) * 1000000 / (S : Int) = _
  rw [Int.neg_mul]; rfl

/-- the digits of the millionths -/
def outK (S : Nat) (x : Int) (k : Nat) : Int := x * 10 ^ k / (S : Int)
def restK (S : Nat) (x : Int) (k : Nat) : Int := x * 10 ^ k % (S : Int)
theorem restK_bd {S : Nat} {x : Int} (hS : 1 ≤ S) (k : Nat) : 0 ≤ restK S x k ∧ restK S x k < S :=
  ⟨Int.emod_nonneg _ (by omega), Int.emod_lt_of_pos _ (by omega)⟩
theorem stepK {S : Nat} {x : Int} (hS : 1 ≤ S) (k : Nat) : outK S x (k + 1) = 10 * outK S x k + 10 * restK S x k / (S : Int) ∧ restK S x (k + 1) = 10 * restK S x k % (S : Int) := by
  have h := Int.mul_ediv_add_emod (x * 10 ^ k) (S : Int)
  have e : x * 10 ^ (k + 1) = 10 * restK S x k + (S : Int) * (10 * outK S x k) := by
    rw [Int.pow_succ, ← Int.mul_assoc, Int.mul_left_comm (S : Int) 10]
    unfold outK restK
    generalize x * 10 ^ k = P at *
    generalize (S : Int) * (P / (S : Int)) = A at *
    omega
  constructor
  · show x * 10 ^ (k + 1) / (S : Int) = _
    rw [e, Int.add_mul_ediv_left _ _ (by omega)]; omega
  · show x * 10 ^ (k + 1) % (S : Int) = _
    rw [e, Int.add_mul_emod_self_left]
theorem outK_bd {S : Nat} {x : Int} (hS : 1 ≤ S) (hx : x.natAbs ≤ 1000 * S) : ∀ k, k ≤ 6 → -1000000000 ≤ outK S x k ∧ outK S x k ≤ 1000000000 := by
  intro k hk
  have hp : (0 : Int) < 10 ^ k := Int.pow_pos (by omega)
  have hp2 : (10 : Int) ^ k ≤ 1000000 := by
    rcases (show k = 0 ∨ k = 1 ∨ k = 2 ∨ k = 3 ∨ k = 4 ∨ k = 5 ∨ k = 6 by omega) with rfl | rfl | rfl | rfl | rfl | rfl | rfl <;> simp
  have a1 : (-(1000000000 : Int)) * S ≤ x * 10 ^ k := by
    have h1 : -(x * 10 ^ k) ≤ (1000 * S : Int) * 1000000 := by
      rw [← Int.neg_mul]
      exact Int.mul_le_mul (by omega) hp2 (by omega) (by omega)
    omega
  have a2 : x * 10 ^ k ≤ (1000000000 : Int) * S := by
    have h1 : x * 10 ^ k ≤ (1000 * S : Int) * 1000000 := Int.mul_le_mul (by omega) hp2 (by omega) (by omega)
    omega
  exact ⟨(Int.le_ediv_iff_mul_le (by omega)).2 a1, by
    have := Int.ediv_le_ediv (c := (S : Int)) (by omega) a2
    rw [Int.mul_ediv_cancel _ (by omega)] at this
    exact this⟩

theorem euclid {x : Int} {S : Nat} (hS : 1 ≤ S) : (0 ≤ x.tmod S → x.tdiv S = outK S x 0 ∧ x.tmod S = restK S x 0) ∧ (x.tmod S < 0 → x.tdiv S - 1 = outK S x 0 ∧ x.tmod S + S = restK S x 0) := by
  have h := Int.mul_tdiv_add_tmod x (S : Int)
  have h1 := Int.tmod_lt_of_pos x (show (0 : Int) < S by omega)
  have h2 := Int.lt_tmod_of_pos x (show (0 : Int) < S by omega)
  have key : ∀ q r : Int, (S : Int) * q + r = x → 0 ≤ r → r < S → q = outK S x 0 ∧ r = restK S x 0 := fun q r e r0 r1 => by
    unfold outK restK
    rw [Int.pow_zero, Int.mul_one, ← e, Int.add_comm, Int.add_mul_ediv_left _ _ (by omega), Int.ediv_eq_zero_of_lt r0 r1, Int.add_mul_emod_self_left, Int.emod_eq_of_lt r0 r1]
    exact ⟨by omega, rfl⟩
  refine ⟨fun h0 => key _ _ h h0 h1, fun h0 => key _ _ ?_ (by omega) (by omega)⟩
  rw [Int.mul_sub]
  omega


def millD (v : DVar) (x : DExact) : Int × Int :=
  if codeX v [x] ≠ 0 then (0, codeX v [x]) else if 1000 * (sclV (bsD v) x.2 : Int) < (x.1.natAbs : Int) then (0, 3) else (millV (sclV (bsD v) x.2) x.1, 0)
def makeI (v : DVar) (n d : Int) : DExact × Int :=
  if varD v = false then ((0, 0), 1) else if inB n (-1000000000000000000) 1000000000000000000 = false then ((0, 0), 2) else if inB d 0 60 = false then ((0, 0), 2) else if sclB (bsD v) d = false then ((0, 0), 2) else if (mkD v n d.toNat).2 = false then ((0, 0), 3) else ((mkD v n d.toNat).1, 0)
def drawIE (c : List Int) : DVar × DExact :=
  if (nxtD (drawX (drawV (fromD c)).2 (drawV (fromD c)).1).2 6).1 = 0 then ((drawV (fromD c)).1, ((nxtD (nxtD (drawX (drawV (fromD c)).2 (drawV (fromD c)).1).2 6).2 80).1, (nxtD (nxtD (nxtD (drawX (drawV (fromD c)).2 (drawV (fromD c)).1).2 6).2 80).2 4).1)) else ((drawV (fromD c)).1, (drawX (drawV (fromD c)).2 (drawV (fromD c)).1).1)
structure MilI (v : DVar) (x : DExact) (q m : Int) : Prop where
  co : codeX v [x] = 0
  sm : ¬ 1000 * (sclV (bsD v) x.2 : Int) < (x.1.natAbs : Int)
  qu : q = ((x.1.natAbs * 1000000 / sclV (bsD v) x.2 : Nat) : Int)
  re : m = ((x.1.natAbs * 1000000 % sclV (bsD v) x.2 : Nat) : Int)
theorem codeX_one {v : DVar} {x : DExact} (h : codeX v [x] = 0) : varD v = true ∧ exD v x = true := by
  have := codeX_zero h
  simpa [allX] using this
theorem words_eq (a b : Int) : (hiW a b).toNat * two64 + (loW a b).toNat = a.toNat * b.toNat := by
  unfold hiW loW
  rw [Int.toNat_natCast, Int.toNat_natCast, Nat.mul_comm]
  exact Nat.div_add_mod _ _
def hiM (x : Int) : Int := hiW x 1000000
def loM (x : Int) : Int := loW x 1000000
def c_math_bits_Mul64M : Con where
  ins := [(false, .v (.i .u64)), (false, .v (.i .u64))]
  outs := [(false, .v (.i .u64)), (false, .v (.i .u64))]
  sh := false
  pre := fun x => U64 x.1 ∧ x.2.1 = 1000000
  out := fun x => (hiM x.1, loM x.1, ())
  upd := fun x => x
theorem k_math_bits_Mul64M [B : Base] : ConOk Tryd.prog 28 c_math_bits_Mul64M :=
  con22 (o := fun a _ => (hiM a, loM a)) ⟨_, _, Tryd.func28, by kernel_rfl, rfl⟩ fun a b w hp => by
    obtain ⟨⟨a0, a1⟩, hb⟩ : U64 a ∧ b = 1000000 := hp
    subst hb
    obtain ⟨a, rfl⟩ : ∃ n : Nat, a = n := ⟨a.toNat, by omega⟩
    simp only [hiM, loM, hiW, loW, two64_eq, Int.toNat_natCast]
    exact mul64_any a 1000000 (by omega) (by omega) w
def c_impl_MillionthsOf : Con where
  ins := [(true, .v tVar), (true, .v tRoll)]
  outs := [(false, .v tI), (false, .v tI)]
  sh := false
  pre := fun x => x.2.1.2 ≤ 9223372036854775807
  out := fun x => ((millD x.1 x.2.1).1, (millD x.1 x.2.1).2, ())
  upd := fun x => x
theorem k_impl_MillionthsOf [B : Base] : ConOk Tryd.prog 11 c_impl_MillionthsOf := by
  refine fn_okW (C := cx Tryd.prog 61 c_impl_MillionthsOf) (cs := [(26, c_impl_checkExacts), (16, c_impl_scaleOf), (27, c_impl_absolute), (28, c_math_bits_Mul64M), (29, c_math_bits_Div64)]) (res := Tryd.f11.results.toList) (fun x => ⟨[], [], [(9, { sh := ⟨[(3, .one (.ref 0)), (11, .one (.i .u64)), (12, .one (.i .u64))], [(0, .box [.i .i64, .i .i64])]⟩, nx := 1, I := fun _ dat_ => (x.2.1.1 = dat_.2.1.1 ∧ x.2.1.2 = dat_.2.1.2.1) ∧ (MilI x.1 x.2.1 dat_.1.2.1 dat_.1.2.2.1), mu := fun dat_ => 0 })]⟩) Tryd.func11 (by kernel_rfl) rfl rfl rfl tysOk.look eqTsOk.look (AllCs.ok (l := [(26, c_impl_checkExacts), (16, c_impl_scaleOf), (27, c_impl_absolute), (28, c_math_bits_Mul64M), (29, c_math_bits_Div64)]) ⟨k_impl_checkExacts, k_impl_scaleOf, k_impl_absolute, k_math_bits_Mul64M, k_math_bits_Div64, trivial⟩) mixed rfl rfl rfl ?_
  refine of_nf (P := ∀ v : Int × Int × Int × Int, ∀ x : Int × Int, (x.2 ≤ 9223372036854775807) → ((lensI c_impl_MillionthsOf.ins (v, x, ())) → ((bdX [x]) ∧ (bsp (decide ((codeX v [x]) ≠ (0 : Int))) (@Eq (HO c_impl_MillionthsOf.outs) (0, codeX v [x], ()) (c_impl_MillionthsOf.out (v, x, ()))) ((varD v = true ∧ x.2 ≤ 9223372036854775807) ∧ ((-9223372036854775807 ≤ x.1 ∧ x.1 ≤ 9223372036854775807) ∧ ((inK .i64 (1000 * (sclV (bsD v) x.2 : Int))) ∧ (bsp (decide ((1000 * (sclV (bsD v) x.2 : Int)) < (Int.natAbs x.1 : Int))) (@Eq (HO c_impl_MillionthsOf.outs) (0, 3, ()) (c_impl_MillionthsOf.out (v, x, ()))) ((-9223372036854775807 ≤ x.1 ∧ x.1 ≤ 9223372036854775807) ∧ ((inK .u64 (Int.natAbs x.1 : Int)) ∧ ((U64 (Int.natAbs x.1 : Int) ∧ (1000000 : Int) = 1000000) ∧ (((inK .u64 (sclV (bsD v) x.2 : Int)) ∧ (((0 ≤ (hiM (Int.natAbs x.1 : Int)) ∧ (hiM (Int.natAbs x.1 : Int)) < (sclV (bsD v) x.2 : Int)) ∧ U64 (loM (Int.natAbs x.1 : Int)) ∧ U64 (sclV (bsD v) x.2 : Int)) ∧ ((x.1 = x.1 ∧ x.2 = x.2) ∧ (MilI v x (quW (hiM (Int.natAbs x.1 : Int)) (loM (Int.natAbs x.1 : Int)) (sclV (bsD v) x.2 : Int)) (reW (hiM (Int.natAbs x.1 : Int)) (loM (Int.natAbs x.1 : Int)) (sclV (bsD v) x.2 : Int)))))) ∧ (∀ q : Int, ∀ m : Int, ∀ t3_0 : Int, ∀ t3_1 : Int, ((x.1 = t3_0 ∧ x.2 = t3_1) ∧ (MilI v x q m)) → (bsp (decide ((0 : Int) ≤ t3_0)) ((inK .i64 q) ∧ (@Eq (HO c_impl_MillionthsOf.outs) (q, 0, ()) (c_impl_MillionthsOf.out (v, x, ())))) (bsp (decide ((0 : Int) < m)) ((inK .u64 (q + 1)) ∧ ((inK .i64 (q + 1)) ∧ ((inK .i64 (0 - (q + 1))) ∧ (@Eq (HO c_impl_MillionthsOf.outs) ((0 - (q + 1)), 0, ()) (c_impl_MillionthsOf.out (v, x, ())))))) ((inK .i64 q) ∧ ((inK .i64 (0 - q)) ∧ (@Eq (HO c_impl_MillionthsOf.outs) ((0 - q), 0, ()) (c_impl_MillionthsOf.out (v, x, ())))))))))))))))))))) (by kernel_rfl) ?_
  rintro v x hx hl
  have hD := millD.eq_1 v x
  have out : ∀ r : Int × Int, millD v x = r → @Eq (HO c_impl_MillionthsOf.outs) (r.1, r.2, ()) (c_impl_MillionthsOf.out (v, x, ())) := fun r h => by subst h; rfl
  have hbX : bdX [x] := fun i => by
    match i with
    | 0 => exact hx
    | i + 1 => exact show (0 : Int) ≤ 9223372036854775807 by decide
  have eh : hiM (x.1.natAbs : Int) = hiW (x.1.natAbs : Int) 1000000 := rfl
  have el : loM (x.1.natAbs : Int) = loW (x.1.natAbs : Int) 1000000 := rfl
  rw [eh, el]
  refine ⟨hbX, bspD (fun h => out (0, _) (hD.trans (if_pos h))) (fun h => ?_)⟩
  rw [if_neg h] at hD
  obtain ⟨hv, hX⟩ := codeX_one (Decidable.not_not.1 h)
  have hX' := hX
  simp only [exD, inB, Bool.and_eq_true, Bool.or_eq_true, decide_eq_true_eq] at hX'
  have hxb := hX'.2.1
  have hSc : sclB (bsD v) x.2 = true := by
    rcases hX'.2.2 with g | ⟨⟨-, g⟩, -⟩
    · rw [g]; exact (scl_neg (by omega)).1
    · exact g
  obtain ⟨-, bb1, -, -, -⟩ := bsD_facts hv
  obtain ⟨S1, S2⟩ := scl_bd bb1 hSc
  generalize hSe : sclV (bsD v) x.2 = S at S1 S2 hD ⊢
  refine ⟨⟨hv, hx⟩, ⟨by omega, by omega⟩, by simp only [inK]; omega, bspD (fun hbig => out (0, 3) (hD.trans (if_pos hbig))) (fun hbig => ?_)⟩
  rw [if_neg hbig] at hD
  have ha : x.1.natAbs ≤ 1000 * S := by omega
  have hw := words_eq (x.1.natAbs : Int) 1000000
  rw [Int.toNat_natCast, show (1000000 : Int).toNat = 1000000 from rfl] at hw
  have hq : quW (hiW (x.1.natAbs : Int) 1000000) (loW (x.1.natAbs : Int) 1000000) (S : Int) = ((x.1.natAbs * 1000000 / S : Nat) : Int) := by
    unfold quW; rw [hw, Int.toNat_natCast]
  have hr : reW (hiW (x.1.natAbs : Int) 1000000) (loW (x.1.natAbs : Int) 1000000) (S : Int) = ((x.1.natAbs * 1000000 % S : Nat) : Int) := by
    unfold reW; rw [hw, Int.toNat_natCast]
  have hhi : hiW (x.1.natAbs : Int) 1000000 = ((x.1.natAbs * 1000000 / two64 : Nat) : Int) := by
    unfold hiW; rw [Int.toNat_natCast]; rfl
  have hlo : loW (x.1.natAbs : Int) 1000000 = ((x.1.natAbs * 1000000 % two64 : Nat) : Int) := by
    unfold loW; rw [Int.toNat_natCast]; rfl
  have hi1 : x.1.natAbs * 1000000 / two64 < S := by
    rw [two64_eq]
    refine Nat.div_lt_of_lt_mul ?_
    omega
  have lo1 : x.1.natAbs * 1000000 % two64 < 18446744073709551616 := by
    rw [two64_eq]; exact Nat.mod_lt _ (by decide)
  have q1 : x.1.natAbs * 1000000 / S ≤ 1000000000 := by
    refine Nat.div_le_of_le_mul ?_
    have : x.1.natAbs * 1000000 ≤ 1000 * S * 1000000 := Nat.mul_le_mul_right _ ha
    have e : S * 1000000000 = 1000 * S * 1000000 := by omega
    rw [e]; exact this
  rw [hhi, hlo] at hq hr ⊢
  have up := mill_up (S := S) (x := x.1)
  have dn := mill_down (S := S) (x := x.1) S1
  have l1 := Int.ofNat_lt.2 lo1
  refine ⟨⟨by omega, by omega⟩, by simp only [inK]; omega, ⟨⟨by omega, by omega⟩, rfl⟩, ⟨by simp only [inK]; omega, ⟨⟨Int.natCast_nonneg _, Int.ofNat_lt.2 hi1⟩, ⟨Int.natCast_nonneg _, Int.le_of_lt_add_one l1⟩, ⟨by omega, by omega⟩⟩, ⟨rfl, rfl⟩, ⟨Decidable.not_not.1 h, by rw [hSe]; exact hbig, by rw [hSe]; exact hq, by rw [hSe]; exact hr⟩⟩, ?_⟩
  rintro q m t3_0 t3_1 ⟨⟨rfl, rfl⟩, ⟨-, -, m3, m4⟩⟩
  rw [hSe] at m3 m4
  generalize x.1.natAbs * 1000000 / S = Q at *
  generalize x.1.natAbs * 1000000 % S = R at *
  subst m3
  subst m4
  refine bspD (fun h0 => ⟨by simp only [inK]; omega, out (_, 0) ?_⟩) (fun h0 => bspD (fun hR => ⟨by simp only [inK]; omega, by simp only [inK]; omega, by simp only [inK]; omega, out (_, 0) ?_⟩) (fun hR => ⟨by simp only [inK]; omega, by simp only [inK]; omega, out (_, 0) ?_⟩))
  · rw [hD, up h0]
  · have := dn (by omega)
    rw [if_neg (by omega)] at this
    rw [hD, this]
    refine Prod.ext ?_ rfl
    dsimp only; omega
  · have := dn (by omega)
    rw [if_pos (by omega)] at this
    rw [hD, this]
    refine Prod.ext ?_ rfl
    dsimp only; omega
def c_spec_MillionthsOf : Con where
  ins := [(true, .v tVar), (true, .v tRoll)]
  outs := [(false, .v tI), (false, .v tI)]
  sh := false
  pre := fun x => x.2.1.2 ≤ 9223372036854775807
  out := fun x => ((millD x.1 x.2.1).1, (millD x.1 x.2.1).2, ())
  upd := fun x => x
theorem k_spec_MillionthsOf [B : Base] : ConOk Tryd.prog 12 c_spec_MillionthsOf := by
  refine fn_okW (C := cx Tryd.prog 65 c_spec_MillionthsOf) (cs := [(30, c_spec_l09Code), (31, c_spec_l09Scale), (32, c_spec_l01In)]) (res := Tryd.f12.results.toList) (fun x => ⟨[{ sh := ⟨[(7, .one (.i .i64)), (9, .one (.i .i64)), (10, .one (.i .i64)), (11, .one (.i .i64))], []⟩, nx := 0, I := fun _ dat_ => ((sclV (bsD x.1) x.2.1.2 : Int) = dat_.1.1) ∧ ((dat_.1.2.1 = outK (sclV (bsD x.1) x.2.1.2) x.2.1.1 (Int.toNat dat_.1.2.2.2.1) ∧ dat_.1.2.2.1 = restK (sclV (bsD x.1) x.2.1.2) x.2.1.1 (Int.toNat dat_.1.2.2.2.1)) ∧ 0 ≤ dat_.1.2.2.2.1 ∧ dat_.1.2.2.2.1 ≤ 6), mu := fun dat_ => Int.toNat (6 - dat_.1.2.2.2.1) }], [], []⟩) Tryd.func12 (by kernel_rfl) rfl rfl rfl tysOk.look eqTsOk.look (AllCs.ok (l := [(30, c_spec_l09Code), (31, c_spec_l09Scale), (32, c_spec_l01In)]) ⟨k_spec_l09Code, k_spec_l09Scale, k_spec_l01In, trivial⟩) mixed rfl rfl rfl ?_
  refine of_nf (P := ∀ v : Int × Int × Int × Int, ∀ x : Int × Int, (x.2 ≤ 9223372036854775807) → ((lensI c_spec_MillionthsOf.ins (v, x, ())) → ((x.2 ≤ 9223372036854775807 ∧ x.2 ≤ 9223372036854775807) ∧ (bsp (decide ((codeX v [x, x]) ≠ (0 : Int))) (@Eq (HO c_spec_MillionthsOf.outs) (0, codeX v [x, x], ()) (c_spec_MillionthsOf.out (v, x, ()))) ((varD v = true ∧ x.2 ≤ 9223372036854775807) ∧ ((inK .i64 ((-1000) * (sclV (bsD v) x.2 : Int))) ∧ ((inK .i64 (1000 * (sclV (bsD v) x.2 : Int))) ∧ (True ∧ (bsp (!(inB x.1 ((-1000) * (sclV (bsD v) x.2 : Int)) (1000 * (sclV (bsD v) x.2 : Int)))) (@Eq (HO c_spec_MillionthsOf.outs) (0, 3, ()) (c_spec_MillionthsOf.out (v, x, ()))) (((sclV (bsD v) x.2 : Int) ≠ 0) ∧ ((inK .i64 (Int.tdiv x.1 (sclV (bsD v) x.2 : Int))) ∧ (((sclV (bsD v) x.2 : Int) ≠ 0) ∧ (bsp (decide ((Int.tmod x.1 (sclV (bsD v) x.2 : Int)) < (0 : Int))) ((inK .i64 ((Int.tmod x.1 (sclV (bsD v) x.2 : Int)) + (sclV (bsD v) x.2 : Int))) ∧ ((inK .i64 ((Int.tdiv x.1 (sclV (bsD v) x.2 : Int)) - 1)) ∧ ((((sclV (bsD v) x.2 : Int) = (sclV (bsD v) x.2 : Int)) ∧ ((((Int.tdiv x.1 (sclV (bsD v) x.2 : Int)) - 1) = outK (sclV (bsD v) x.2) x.1 (Int.toNat (0 : Int)) ∧ ((Int.tmod x.1 (sclV (bsD v) x.2 : Int)) + (sclV (bsD v) x.2 : Int)) = restK (sclV (bsD v) x.2) x.1 (Int.toNat (0 : Int))) ∧ 0 ≤ (0 : Int) ∧ (0 : Int) ≤ 6)) ∧ (∀ t7 : Int, ∀ o : Int, ∀ r : Int, ∀ k : Int, (((sclV (bsD v) x.2 : Int) = t7) ∧ ((o = outK (sclV (bsD v) x.2) x.1 (Int.toNat k) ∧ r = restK (sclV (bsD v) x.2) x.1 (Int.toNat k)) ∧ 0 ≤ k ∧ k ≤ 6)) → (bsp (decide (k < (6 : Int))) ((inK .i64 (10 * o)) ∧ ((inK .i64 (10 * r)) ∧ ((t7 ≠ 0) ∧ ((inK .i64 (Int.tdiv (10 * r) t7)) ∧ ((inK .i64 ((10 * o) + (Int.tdiv (10 * r) t7))) ∧ ((inK .i64 (10 * r)) ∧ ((t7 ≠ 0) ∧ ((inK .i64 (k + 1)) ∧ ((((sclV (bsD v) x.2 : Int) = t7) ∧ ((((10 * o) + (Int.tdiv (10 * r) t7)) = outK (sclV (bsD v) x.2) x.1 (Int.toNat (k + 1)) ∧ (Int.tmod (10 * r) t7) = restK (sclV (bsD v) x.2) x.1 (Int.toNat (k + 1))) ∧ 0 ≤ (k + 1) ∧ (k + 1) ≤ 6)) ∧ ((Int.toNat (6 - (k + 1)) : Nat) < Int.toNat (6 - k))))))))))) (@Eq (HO c_spec_MillionthsOf.outs) (o, 0, ()) (c_spec_MillionthsOf.out (v, x, ())))))))) ((((sclV (bsD v) x.2 : Int) = (sclV (bsD v) x.2 : Int)) ∧ (((Int.tdiv x.1 (sclV (bsD v) x.2 : Int)) = outK (sclV (bsD v) x.2) x.1 (Int.toNat (0 : Int)) ∧ (Int.tmod x.1 (sclV (bsD v) x.2 : Int)) = restK (sclV (bsD v) x.2) x.1 (Int.toNat (0 : Int))) ∧ 0 ≤ (0 : Int) ∧ (0 : Int) ≤ 6)) ∧ (∀ t7 : Int, ∀ o : Int, ∀ r : Int, ∀ k : Int, (((sclV (bsD v) x.2 : Int) = t7) ∧ ((o = outK (sclV (bsD v) x.2) x.1 (Int.toNat k) ∧ r = restK (sclV (bsD v) x.2) x.1 (Int.toNat k)) ∧ 0 ≤ k ∧ k ≤ 6)) → (bsp (decide (k < (6 : Int))) ((inK .i64 (10 * o)) ∧ ((inK .i64 (10 * r)) ∧ ((t7 ≠ 0) ∧ ((inK .i64 (Int.tdiv (10 * r) t7)) ∧ ((inK .i64 ((10 * o) + (Int.tdiv (10 * r) t7))) ∧ ((inK .i64 (10 * r)) ∧ ((t7 ≠ 0) ∧ ((inK .i64 (k + 1)) ∧ ((((sclV (bsD v) x.2 : Int) = t7) ∧ ((((10 * o) + (Int.tdiv (10 * r) t7)) = outK (sclV (bsD v) x.2) x.1 (Int.toNat (k + 1)) ∧ (Int.tmod (10 * r) t7) = restK (sclV (bsD v) x.2) x.1 (Int.toNat (k + 1))) ∧ 0 ≤ (k + 1) ∧ (k + 1) ≤ 6)) ∧ ((Int.toNat (6 - (k + 1)) : Nat) < Int.toNat (6 - k))))))))))) (@Eq (HO c_spec_MillionthsOf.outs) (o, 0, ()) (c_spec_MillionthsOf.out (v, x, ()))))))))))))))))))) (by kernel_rfl) ?_
  rintro v x hx hl
  have hD := millD.eq_1 v x
  have out : ∀ r : Int × Int, millD v x = r → @Eq (HO c_spec_MillionthsOf.outs) (r.1, r.2, ()) (c_spec_MillionthsOf.out (v, x, ())) := fun r h => by subst h; rfl
  rw [codeX_twice]
  refine ⟨⟨hx, hx⟩, bspD (fun h => out (0, _) (hD.trans (if_pos h))) (fun h => ?_)⟩
  rw [if_neg h] at hD
  obtain ⟨hv, hX⟩ := codeX_one (Decidable.not_not.1 h)
  have hX' := hX
  simp only [exD, inB, Bool.and_eq_true, Bool.or_eq_true, decide_eq_true_eq] at hX'
  have hxb := hX'.2.1
  have hSc : sclB (bsD v) x.2 = true := by
    rcases hX'.2.2 with g | ⟨⟨-, g⟩, -⟩
    · rw [g]; exact (scl_neg (by omega)).1
    · exact g
  obtain ⟨-, bb1, -, -, -⟩ := bsD_facts hv
  obtain ⟨S1, S2⟩ := scl_bd bb1 hSc
  generalize sclV (bsD v) x.2 = S at *
  refine ⟨⟨hv, hx⟩, by simp only [inK]; omega, by simp only [inK]; omega, trivial, bspB (fun hbig => out (0, 3) (hD.trans (if_pos ?_))) (fun hbig => ?_)⟩
  · simp only [inB, Bool.not_eq_true', Bool.and_eq_false_iff, decide_eq_false_iff_not] at hbig
    omega
  simp only [inB, Bool.not_eq_false', Bool.and_eq_true, decide_eq_true_eq] at hbig
  rw [if_neg (by omega)] at hD
  have ha : x.1.natAbs ≤ 1000 * S := by omega
  obtain ⟨eu1, eu2⟩ := euclid (x := x.1) S1
  have t1 := Int.tmod_lt_of_pos x.1 (show (0 : Int) < S by omega)
  have t2 := Int.lt_tmod_of_pos x.1 (show (0 : Int) < S by omega)
  have ob := outK_bd (x := x.1) S1 ha
  have ob0 := ob 0 (by omega)
  have fin : outK S x.1 6 = millV S x.1 := by unfold outK millV; rfl
  have hbt : inK .i64 (x.1.tdiv S) := by
    by_cases g : 0 ≤ x.1.tmod S
    · rw [(eu1 g).1]; simp only [inK]; omega
    · have := (eu2 (by omega)).1; simp only [inK]; omega
  refine ⟨by omega, hbt, by omega, bspD (fun hn => ?_) (fun hn => ?_)⟩
  · obtain ⟨f1, f2⟩ := eu2 hn
    refine ⟨by simp only [inK]; omega, by simp only [inK] at hbt ⊢; omega, ⟨rfl, ⟨f1, f2⟩, by omega, by omega⟩, ?_⟩
    rintro t7 o r k ⟨rfl, ⟨⟨ho, hr⟩, k0, k1⟩⟩
    obtain ⟨k, rfl⟩ : ∃ n : Nat, k = n := ⟨k.toNat, by omega⟩
    simp only [Int.toNat_natCast, show ((k : Int) + 1).toNat = k + 1 by omega] at ho hr ⊢
    refine bspD (fun hlt => ?_) (fun hge => ?_)
    · obtain ⟨s1, s2⟩ := stepK (x := x.1) S1 k
      have rb := restK_bd (x := x.1) S1 k
      have ok := ob k (by omega)
      have ok1 := ob (k + 1) (by omega)
      rw [← ho, ← hr] at s1
      rw [← hr] at s2
      rw [← ho] at ok
      rw [← hr] at rb
      have e1 : Int.tdiv (10 * r) (S : Int) = 10 * r / (S : Int) := Int.tdiv_eq_ediv_of_nonneg (by omega)
      have e2 : Int.tmod (10 * r) (S : Int) = 10 * r % (S : Int) := Int.tmod_eq_emod_of_nonneg (by omega)
      rw [e1, e2]
      exact ⟨by simp only [inK]; omega, by simp only [inK]; omega, by omega, by simp only [inK]; omega, by simp only [inK]; omega, by simp only [inK]; omega, by omega, by simp only [inK]; omega, ⟨(by first | trivial | rfl | (and_intros <;> rfl)), ⟨s1.symm, s2.symm⟩, by omega, by omega⟩, by omega⟩
    · obtain rfl : k = 6 := by omega
      exact out (_, 0) (by rw [hD, ← fin, ← ho])
  · obtain ⟨f1, f2⟩ := eu1 (by omega)
    refine ⟨⟨rfl, ⟨f1, f2⟩, by omega, by omega⟩, ?_⟩
    rintro t7 o r k ⟨rfl, ⟨⟨ho, hr⟩, k0, k1⟩⟩
    obtain ⟨k, rfl⟩ : ∃ n : Nat, k = n := ⟨k.toNat, by omega⟩
    simp only [Int.toNat_natCast, show ((k : Int) + 1).toNat = k + 1 by omega] at ho hr ⊢
    refine bspD (fun hlt => ?_) (fun hge => ?_)
    · obtain ⟨s1, s2⟩ := stepK (x := x.1) S1 k
      have rb := restK_bd (x := x.1) S1 k
      have ok := ob k (by omega)
      have ok1 := ob (k + 1) (by omega)
      rw [← ho, ← hr] at s1
      rw [← hr] at s2
      rw [← ho] at ok
      rw [← hr] at rb
      have e1 : Int.tdiv (10 * r) (S : Int) = 10 * r / (S : Int) := Int.tdiv_eq_ediv_of_nonneg (by omega)
      have e2 : Int.tmod (10 * r) (S : Int) = 10 * r % (S : Int) := Int.tmod_eq_emod_of_nonneg (by omega)
      rw [e1, e2]
      exact ⟨by simp only [inK]; omega, by simp only [inK]; omega, by omega, by simp only [inK]; omega, by simp only [inK]; omega, by simp only [inK]; omega, by omega, by simp only [inK]; omega, ⟨(by first | trivial | rfl | (and_intros <;> rfl)), ⟨s1.symm, s2.symm⟩, by omega, by omega⟩, by omega⟩
    · obtain rfl : k = 6 := by omega
      exact out (_, 0) (by rw [hD, ← fin, ← ho])
def c_impl_MakeExact : Con where
  ins := [(true, .v tVar), (false, .v tI), (false, .v tI)]
  outs := [(true, .v tRoll), (false, .v tI)]
  sh := false
  pre := fun _ => True
  out := fun x => ((makeI x.1 x.2.1 x.2.2.1).1, (makeI x.1 x.2.1 x.2.2.1).2, ())
  upd := fun x => x
theorem k_impl_MakeExact [B : Base] : ConOk Tryd.prog 10 c_impl_MakeExact := by
  refine fn_okW (C := cx Tryd.prog 45 c_impl_MakeExact) (cs := [(19, c_impl_IsVariant), (24, c_impl_within), (16, c_impl_scaleOf), (25, c_impl_makeExact)]) (res := Tryd.f10.results.toList) (fun _ => ⟨[], [], []⟩) Tryd.func10 (by kernel_rfl) rfl rfl rfl tysOk.look eqTsOk.look (AllCs.ok (l := [(19, c_impl_IsVariant), (24, c_impl_within), (16, c_impl_scaleOf), (25, c_impl_makeExact)]) ⟨k_impl_IsVariant, k_impl_within, k_impl_scaleOf, k_impl_makeExact, trivial⟩) mixed rfl rfl rfl ?_
  refine of_nf (P := ∀ v : Int × Int × Int × Int, ∀ n : Int, ∀ d : Int, (True) → ((lensI c_impl_MakeExact.ins (v, n, d, ())) → (True ∧ (bsp (!(varD v)) (@Eq (HO c_impl_MakeExact.outs) ((0, 0), 1, ()) (c_impl_MakeExact.out (v, n, d, ()))) (True ∧ (bsp (!(inB n (-1000000000000000000 : Int) (1000000000000000000 : Int))) (@Eq (HO c_impl_MakeExact.outs) ((0, 0), 2, ()) (c_impl_MakeExact.out (v, n, d, ()))) (True ∧ (bsp (!(inB d (0 : Int) (60 : Int))) (@Eq (HO c_impl_MakeExact.outs) ((0, 0), 2, ()) (c_impl_MakeExact.out (v, n, d, ()))) ((varD v = true ∧ d ≤ 9223372036854775807) ∧ (bsp (!(sclB (bsD v) d)) (@Eq (HO c_impl_MakeExact.outs) ((0, 0), 2, ()) (c_impl_MakeExact.out (v, n, d, ()))) ((varD v = true ∧ (-9223372036854775807 ≤ n ∧ n ≤ 9223372036854775807) ∧ 0 ≤ d ∧ d ≤ 1000) ∧ (bsp (!(mkD v n (Int.toNat d)).2) (@Eq (HO c_impl_MakeExact.outs) ((0, 0), 3, ()) (c_impl_MakeExact.out (v, n, d, ()))) (@Eq (HO c_impl_MakeExact.outs) ((mkD v n (Int.toNat d)).1, 0, ()) (c_impl_MakeExact.out (v, n, d, ()))))))))))))))) (by kernel_rfl) ?_
  rintro v n d hp hl
  have hD := makeI.eq_1 v n d
  have out : ∀ r : DExact × Int, makeI v n d = r → @Eq (HO c_impl_MakeExact.outs) (r.1, r.2, ()) (c_impl_MakeExact.out (v, n, d, ())) := fun r h => by subst h; rfl
  refine ⟨trivial, bspB (fun h => out (_, 1) (hD.trans (if_pos (by revert h; cases varD v <;> simp)))) (fun h => ?_)⟩
  have hv : varD v = true := by revert h; cases varD v <;> simp
  rw [if_neg (by rw [hv]; decide)] at hD
  refine ⟨trivial, bspB (fun g => out (_, 2) (hD.trans (if_pos (by revert g; cases inB n (-1000000000000000000) 1000000000000000000 <;> simp)))) (fun g => ?_)⟩
  have g1 : inB n (-1000000000000000000) 1000000000000000000 = true := by revert g; cases inB n (-1000000000000000000) 1000000000000000000 <;> simp
  rw [if_neg (by rw [g1]; decide)] at hD
  refine ⟨trivial, bspB (fun g => out (_, 2) (hD.trans (if_pos (by revert g; cases inB d 0 60 <;> simp)))) (fun g => ?_)⟩
  have g2 : inB d 0 60 = true := by revert g; cases inB d 0 60 <;> simp
  rw [if_neg (by rw [g2]; decide)] at hD
  have b1 := inBx.1 g1
  have b2 := inBx.1 g2
  refine ⟨⟨hv, by omega⟩, bspB (fun g => out (_, 2) (hD.trans (if_pos (by revert g; cases sclB (bsD v) d <;> simp)))) (fun g => ?_)⟩
  have g3 : sclB (bsD v) d = true := by revert g; cases sclB (bsD v) d <;> simp
  rw [if_neg (by rw [g3]; decide)] at hD
  refine ⟨⟨hv, ⟨by omega, by omega⟩, by omega, by omega⟩, bspB (fun g => out (_, 3) (hD.trans (if_pos (by revert g; cases (mkD v n d.toNat).2 <;> simp)))) (fun g => out (_, 0) (hD.trans (if_neg (by revert g; cases (mkD v n d.toNat).2 <;> simp))))⟩
def c_spec_DrawIsExact : Con where
  ins := [(false, .v (.sl (.i .u8)))]
  outs := [(true, .v tVar), (true, .v tRoll)]
  sh := false
  pre := fun x => okC x.1
  out := fun x => ((drawIE x.1).1, (drawIE x.1).2, ())
  upd := fun x => x
theorem k_spec_DrawIsExact [B : Base] : ConOk Tryd.prog 14 c_spec_DrawIsExact := by
  refine fn_ok (C := cx Tryd.prog 24 c_spec_DrawIsExact) (cs := [(34, c_spec_l01From), (35, c_spec_l09DrawVariant), (36, c_spec_l09DrawExact), (37, c_spec_l01Next)]) (res := Tryd.f14.results.toList) (fun _ => ⟨[], [(6, ⟨[[], [], [0], [0, 1, 2]], [[1], [0, 2], [1], []], [[], [1], [], []]⟩)], []⟩) Tryd.func14 (by kernel_rfl) rfl rfl rfl tysOk.look eqTsOk.look (AllCs.ok (l := [(34, c_spec_l01From), (35, c_spec_l09DrawVariant), (36, c_spec_l09DrawExact), (37, c_spec_l01Next)]) ⟨k_spec_l01From, k_spec_l09DrawVariant, k_spec_l09DrawExact, k_spec_l01Next, trivial⟩) mixed rfl rfl rfl ?_
  refine of_nf (P := ∀ c : List Int, (okC c) → ((lensI c_spec_DrawIsExact.ins (c, ())) → ((okC c) ∧ ((okS (fromD c)) ∧ ((okS ((fromD c).1, (drawV (fromD c)).2.2)) ∧ ((okS ((fromD c).1, (drawX ((fromD c).1, (drawV (fromD c)).2.2) (drawV (fromD c)).1).2.2) ∧ (6 : Int) ≤ 1000000000000) ∧ (bsp (decide ((nxtD ((fromD c).1, (drawX ((fromD c).1, (drawV (fromD c)).2.2) (drawV (fromD c)).1).2.2) (6 : Int)).1 = (0 : Int))) ((okS ((fromD c).1, (nxtD ((fromD c).1, (drawX ((fromD c).1, (drawV (fromD c)).2.2) (drawV (fromD c)).1).2.2) (6 : Int)).2.2) ∧ (80 : Int) ≤ 1000000000000) ∧ ((okS ((fromD c).1, (nxtD ((fromD c).1, (nxtD ((fromD c).1, (drawX ((fromD c).1, (drawV (fromD c)).2.2) (drawV (fromD c)).1).2.2) (6 : Int)).2.2) (80 : Int)).2.2) ∧ (4 : Int) ≤ 1000000000000) ∧ (@Eq (HO c_spec_DrawIsExact.outs) ((drawV (fromD c)).1, ((nxtD ((fromD c).1, (nxtD ((fromD c).1, (drawX ((fromD c).1, (drawV (fromD c)).2.2) (drawV (fromD c)).1).2.2) (6 : Int)).2.2) (80 : Int)).1, (nxtD ((fromD c).1, (nxtD ((fromD c).1, (nxtD ((fromD c).1, (drawX ((fromD c).1, (drawV (fromD c)).2.2) (drawV (fromD c)).1).2.2) (6 : Int)).2.2) (80 : Int)).2.2) (4 : Int)).1), ()) (c_spec_DrawIsExact.out (c, ()))))) (@Eq (HO c_spec_DrawIsExact.outs) ((drawV (fromD c)).1, (drawX ((fromD c).1, (drawV (fromD c)).2.2) (drawV (fromD c)).1).1, ()) (c_spec_DrawIsExact.out (c, ())))))))))) (by kernel_rfl) ?_
  rintro c hc hl
  have hF := fromD_ok hc
  have hv := drawV_ok hF
  have ev := drawV_code (fromD c)
  obtain ⟨x1, x2⟩ := drawX_ok (v := (drawV (fromD c)).1) hv
  have h6 := nxtD_ok x1 6
  have h80 := nxtD_ok h6 80
  have fold : ∀ {s : DSrc} {b : List Int}, s.1 = b → (b, s.2) = s := fun h => by subst h; rfl
  simp only [fold, nxtD_code, ev, x2]
  have out : ∀ r, drawIE c = r → @Eq (HO c_spec_DrawIsExact.outs) (r.1, r.2, ()) (c_spec_DrawIsExact.out (c, ())) := fun r h => by subst h; rfl
  have hD := drawIE.eq_1 c
  exact ⟨hc, hF, hv, ⟨x1, by decide⟩, bspD (fun g => ⟨⟨h6, by decide⟩, ⟨h80, by decide⟩, out (_, _) (hD.trans (if_pos g))⟩) (fun g => out (_, _) (hD.trans (if_neg g)))⟩
def c_spec_DrawExactText : Con where
  ins := [(false, .v (.sl (.i .u8)))]
  outs := [(true, .v tVar), (true, .v tRoll)]
  sh := false
  pre := fun x => okC x.1
  out := fun x => ((drawIE x.1).1, (drawIE x.1).2, ())
  upd := fun x => x
theorem k_spec_DrawExactText [B : Base] : ConOk Tryd.prog 5 c_spec_DrawExactText := by
  refine fn_ok (C := cx Tryd.prog 8 c_spec_DrawExactText) (cs := [(14, c_spec_DrawIsExact)]) (res := Tryd.f5.results.toList) (fun _ => ⟨[], [], []⟩) Tryd.func5 (by kernel_rfl) rfl rfl rfl tysOk.look eqTsOk.look (AllCs.ok (l := [(14, c_spec_DrawIsExact)]) ⟨k_spec_DrawIsExact, trivial⟩) mixed rfl rfl rfl ?_
  refine of_nf (P := ∀ c : List Int, (okC c) → ((lensI c_spec_DrawExactText.ins (c, ())) → ((okC c) ∧ (@Eq (HO c_spec_DrawExactText.outs) ((drawIE c).1, (drawIE c).2, ()) (c_spec_DrawExactText.out (c, ())))))) (by kernel_rfl) ?_
  rintro c hc hl
  exact ⟨hc, rfl⟩
theorem mkD_dep (v : DVar) (n : Int) (d : Nat) : (mkD v n d).1.2 ≤ d := by
  have := strip_depth (bsD v) d n
  unfold mkD
  split
  · dsimp only; omega
  · dsimp only; omega
theorem makeS_dep (v : DVar) (n : Int) {d : Int} (hd : 0 ≤ d) : (makeS v n d).1.2 ≤ d := by
  unfold makeS
  split
  · exact hd
  · split
    · exact hd
    · have := mkD_dep v n d.toNat
      dsimp only; omega
theorem drawX_dep {s : DSrc} (v : DVar) (h : okS s) : (drawX s v).1.2 ≤ 60 := by
  have h1 := drawN_ok h
  have b := drawP_bd h1.1
  have h2 := drawP_ok h1.1
  have k1 := nxtD_bd h2.1 3
  have k2 := nxtD_bd (nxtD_ok h2.1 24) 3
  have m := makeS_dep v (drawN s).1 b.1
  unfold drawX drawE
  split
  · dsimp only; omega
  · split
    · dsimp only; omega
    · dsimp only; omega
theorem drawIE_dep {c : List Int} (h : okC c) : (drawIE c).2.2 ≤ 9223372036854775807 := by
  have hv := drawV_ok (fromD_ok h)
  have hx := drawX_ok (v := (drawV (fromD c)).1) hv
  have b := nxtD_bd (nxtD_ok (nxtD_ok hx.1 6) 80) 4
  have d := drawX_dep (drawV (fromD c)).1 hv
  unfold drawIE
  split <;> dsimp only <;> omega
theorem mk_back {v : DVar} {x : DExact} (h : exD v x = true) : mkD v x.1 x.2.toNat = (x, true) := by
  have h' := h
  simp only [exD, inB, Bool.and_eq_true, Bool.or_eq_true, decide_eq_true_eq] at h'
  have hs : strip (bsD v) x.2.toNat x.1 = (x.1, x.2.toNat) := by
    rcases h'.2.2 with g | ⟨-, g⟩
    · rw [g]; rfl
    · cases hd : x.2.toNat with
      | zero => rfl
      | succ d => simp only [strip]; rw [if_neg g]
  have hx : (x.1, (x.2.toNat : Int)) = x := Prod.ext rfl (by dsimp only; omega)
  unfold mkD
  rw [hs]
  dsimp only
  rw [hx, if_pos h]
theorem makeI_back {v : DVar} {x : DExact} (hv : varD v = true) (h : exD v x = true) (h60 : x.2 ≤ 60) : makeI v x.1 x.2 = (x, 0) := by
  have h' := h
  simp only [exD, inB, Bool.and_eq_true, Bool.or_eq_true, decide_eq_true_eq] at h'
  have hs : sclB (bsD v) x.2 = true := by
    rcases h'.2.2 with g | ⟨⟨-, g⟩, -⟩
    · rw [g]; exact (scl_neg (by omega)).1
    · exact g
  unfold makeI
  rw [if_neg (by rw [hv]; decide), if_neg (by simp only [inB]; simp; omega), if_neg (by simp only [inB]; simp; omega), if_neg (by rw [hs]; decide), mk_back h]
  rfl
theorem okC_ofX {c : List Int} (h : wfD (TC.sl (.i .u8)) c) (hl : ¬ 4096 < (c.length : Int)) : okC c := by
  refine ⟨by omega, fun i => ?_⟩
  by_cases hi : i < c.length
  · have := h _ (by rw [List.getD_eq_getElem?_getD, List.getElem?_eq_getElem hi]; exact List.getElem_mem hi : c.getD i 0 ∈ c)
    simp only [wfD, inK] at this
    omega
  · rw [List.getD_eq_getElem?_getD, List.getElem?_eq_none (by omega)]; decide
def c_laws_FnExactText : Con where
  ins := [(false, .v (.sl (.i .u8)))]
  outs := [(false, .v .b)]
  sh := false
  pre := fun x => wfD (TC.sl (.i .u8)) x.1
  out := fun _ => (true, ())
  upd := fun x => x
theorem k_laws_FnExactText [B : Base] : ConOk Tryd.prog 3 c_laws_FnExactText := by
  refine fn_okW (C := cx Tryd.prog 95 c_laws_FnExactText) (cs := [(4, c_laws_big), (5, c_spec_DrawExactText), (6, c_impl_ExactText), (7, c_spec_IsExact), (8, c_impl_IsExact), (9, c_impl_ReadExact), (10, c_impl_MakeExact), (11, c_impl_MillionthsOf), (12, c_spec_MillionthsOf), (13, c_spec_ExactText)]) (res := Tryd.f3.results.toList) (fun _ => ⟨[], [], []⟩) Tryd.func3 (by kernel_rfl) rfl rfl rfl tysOk.look eqTsOk.look (AllCs.ok (l := [(4, c_laws_big), (5, c_spec_DrawExactText), (6, c_impl_ExactText), (7, c_spec_IsExact), (8, c_impl_IsExact), (9, c_impl_ReadExact), (10, c_impl_MakeExact), (11, c_impl_MillionthsOf), (12, c_spec_MillionthsOf), (13, c_spec_ExactText)]) ⟨k_laws_big, k_spec_DrawExactText, k_impl_ExactText, k_spec_IsExact, k_impl_IsExact, k_impl_ReadExact, k_impl_MakeExact, k_impl_MillionthsOf, k_spec_MillionthsOf, k_spec_ExactText, trivial⟩) mixed rfl rfl rfl ?_
  refine of_nf (P := ∀ c : List Int, (wfD (TC.sl (.i .u8)) c) → ((lensI c_laws_FnExactText.ins (c, ())) → (True ∧ (bsp (decide (4096 < (List.length c : Int))) (@Eq (HO c_laws_FnExactText.outs) (true, ()) (c_laws_FnExactText.out (c, ()))) ((okC c) ∧ ((D63 (drawIE c).2.2) ∧ (((drawIE c).2.2 ≤ 9223372036854775807) ∧ (bsp (!(varD (drawIE c).1 && exD (drawIE c).1 (drawIE c).2)) (bsp (decide (exS (drawIE c).1 (drawIE c).2 = (ByteArray.mk #[]))) (((drawIE c).2.2 ≤ 9223372036854775807) ∧ (@Eq (HO c_laws_FnExactText.outs) ((!(varD (drawIE c).1 && exD (drawIE c).1 (drawIE c).2)), ()) (c_laws_FnExactText.out (c, ())))) (@Eq (HO c_laws_FnExactText.outs) (false, ()) (c_laws_FnExactText.out (c, ())))) ((((exS (drawIE c).1 (drawIE c).2)).size ≤ 1048576) ∧ (True ∧ (((drawIE c).2.2 ≤ 9223372036854775807) ∧ (((drawIE c).2.2 ≤ 9223372036854775807) ∧ (bsp (readX (drawIE c).1 (exS (drawIE c).1 (drawIE c).2)).2 (bsp (decide ((readX (drawIE c).1 (exS (drawIE c).1 (drawIE c).2)).1.1 = (drawIE c).2.1) && (decide ((readX (drawIE c).1 (exS (drawIE c).1 (drawIE c).2)).1.2 = (drawIE c).2.2) && (true))) (bsp (decide ((makeI (drawIE c).1 (drawIE c).2.1 (drawIE c).2.2).2 = (0 : Int))) (bsp (decide ((makeI (drawIE c).1 (drawIE c).2.1 (drawIE c).2.2).1.1 = (drawIE c).2.1) && (decide ((makeI (drawIE c).1 (drawIE c).2.1 (drawIE c).2.2).1.2 = (drawIE c).2.2) && (true))) (bsp (decide ((millD (drawIE c).1 (drawIE c).2).1 = (millD (drawIE c).1 (drawIE c).2).1)) (bsp (decide ((millD (drawIE c).1 (drawIE c).2).2 = (millD (drawIE c).1 (drawIE c).2).2)) ((D63 (drawIE c).2.2) ∧ (@Eq (HO c_laws_FnExactText.outs) ((decide (exS (drawIE c).1 (drawIE c).2 = exS (drawIE c).1 (drawIE c).2)), ()) (c_laws_FnExactText.out (c, ())))) (@Eq (HO c_laws_FnExactText.outs) (false, ()) (c_laws_FnExactText.out (c, ())))) (@Eq (HO c_laws_FnExactText.outs) (false, ()) (c_laws_FnExactText.out (c, ())))) (@Eq (HO c_laws_FnExactText.outs) (false, ()) (c_laws_FnExactText.out (c, ())))) (@Eq (HO c_laws_FnExactText.outs) (false, ()) (c_laws_FnExactText.out (c, ())))) (@Eq (HO c_laws_FnExactText.outs) (false, ()) (c_laws_FnExactText.out (c, ())))) (@Eq (HO c_laws_FnExactText.outs) (false, ()) (c_laws_FnExactText.out (c, ())))))))))))))))) (by kernel_rfl) ?_
  rintro c hw hl
  have out : ∀ r, r = true → @Eq (HO c_laws_FnExactText.outs) (r, ()) (c_laws_FnExactText.out (c, ())) := fun r h => by subst h; rfl
  refine ⟨trivial, bspD (fun _ => rfl) (fun hbig => ?_)⟩
  have hc := okC_ofX hw hbig
  have hd := drawIE_dep hc
  generalize drawIE c = W at *
  refine ⟨hc, ⟨hd⟩, hd, bspB (fun hb => ?_) (fun hb => ?_)⟩
  · have hb' : (varD W.1 && exD W.1 W.2) = false := by revert hb; cases varD W.1 && exD W.1 W.2 <;> simp
    have he : exS W.1 W.2 = nilB := by unfold exS; exact if_neg (by rw [hb']; decide)
    exact bspD (fun _ => ⟨hd, out _ hb⟩) (fun g => absurd he g)
  · have hb' : (varD W.1 && exD W.1 W.2) = true := by revert hb; cases varD W.1 && exD W.1 W.2 <;> simp
    have hT : ExT W.1 (exS W.1 W.2) W.2 := ⟨hb', rfl⟩
    have hs := (ext_num hT).2.2
    obtain ⟨f1, f2, -, -, f5, -, -⟩ := ext_facts hT
    have hR := readX_yes hT
    have hM := makeI_back f1 f2 f5
    have r1 : (readX W.1 (exS W.1 W.2)).1 = W.2 := by rw [hR]
    have r2 : (readX W.1 (exS W.1 W.2)).2 = true := by rw [hR]
    have m1 : (makeI W.1 W.2.1 W.2.2).1 = W.2 := by rw [hM]
    have m2 : (makeI W.1 W.2.1 W.2.2).2 = 0 := by rw [hM]
    refine ⟨by omega, trivial, hd, hd, bspB (fun _ => bspB (fun _ => bspD (fun _ => bspB (fun _ => bspD (fun _ => bspD (fun _ => ⟨⟨hd⟩, out _ (decide_eq_true rfl)⟩) (fun g => absurd rfl g)) (fun g => absurd rfl g)) (fun g => ?_)) (fun g => absurd m2 g)) (fun g => ?_)) (fun g => ?_)⟩
    · rw [decide_eq_true (congrArg Prod.fst m1), decide_eq_true (congrArg Prod.snd m1)] at g; cases g
    · rw [decide_eq_true (congrArg Prod.fst r1), decide_eq_true (congrArg Prod.snd r1)] at g; cases g
    · rw [r2] at g; cases g
end
end Go.Proofs.YtokddngcfkimlaaDoor
