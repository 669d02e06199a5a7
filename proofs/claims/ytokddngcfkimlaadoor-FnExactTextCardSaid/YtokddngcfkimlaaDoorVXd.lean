/-
  Contracts: codes and draws of exact numbers, words of 64 bits.
-/
import Derived.Test.YtokddngcfkimlaaDoorVFit
import Derived.Test.YtokddngcfkimlaaDoorVDrawV
import Derived.Test.YtokddngcfkimlaaDoorVReadX
import Derived.Test.YtokddngcfkimlaaDoorBridge2
import Derived.Test.YtokddngcfkimlaaDoorAbL
namespace Go.Proofs.YtokddngcfkimlaaDoor
open Go.RowKit
set_option linter.unusedSimpArgs false
set_option linter.unusedVariables false
theorem inBx {n lo hi : Int} : inB n lo hi = true ↔ lo ≤ n ∧ n ≤ hi := by simp [inB]
theorem mkD_ok {v : DVar} {n : Int} {d : Nat} (h : (mkD v n d).2 = true) : exD v (mkD v n d).1 = true := by
  unfold mkD at h ⊢
  split
  · next g => exact g
  · next g => rw [if_neg g] at h; cases h
theorem mkD_no {v : DVar} {n : Int} {d : Nat} (h : (mkD v n d).2 = false) : mkD v n d = ((0, 0), false) := by
  unfold mkD at h ⊢
  split
  · next g => rw [if_pos g] at h; cases h
  · rfl
/-- lowest terms of a fraction: what makeExact finds -/
theorem fit_core {v : DVar} {A a a1 : Int} {D B B1 : Nat} (hv : varD v = true) (hfa : fitA a B = a1) (hfb : fitB a B = B1) (hB1p : 1 ≤ B1) (hco : Nat.Coprime a1.natAbs B1)
    (heq : a1 * (bsD v : Int) ^ D = A * B1) (hD : D ≤ 60) (hs : bsD v ^ D ≤ 1000000000000000) :
    bsD v ^ D % B1 = 0 ∧ (fitD v a B).2 = (mkD v A D).2 ∧ ((mkD v A D).2 = true → (fitD v a B).1 = (mkD v A D).1) := by
  obtain ⟨-, b1, b2, -⟩ := bsD_facts hv
  have hdv : bsD v ^ D % B1 = 0 := Nat.mod_eq_zero_of_dvd (fit_ends hco heq)
  refine ⟨hdv, ?_⟩
  obtain ⟨K1, K2, K3⟩ := leastK_spec hdv 61 0 (by omega) (by omega) (fun j hj => by omega)
  have hK : fitK v a B = leastK (bsD v) B1 61 0 := by unfold fitK; rw [hfb]
  generalize leastK (bsD v) B1 61 0 = K at *
  have hst := fit_find b1 hB1p hco heq K3 (Nat.dvd_of_mod_eq_zero K1) (by
    by_cases h0 : K = 0
    · exact .inl h0
    · exact .inr fun h => K2 (K - 1) (by omega) (Nat.mod_eq_zero_of_dvd h))
  have hend := strip_end (bsD v) D A
  have ht : timesD a1 ((bsD v ^ K / B1 : Nat) : Int) = inB (a1 * ((bsD v ^ K / B1 : Nat) : Int)) (-1000000000000000000) 1000000000000000000 := by
    unfold timesD
    rw [← Int.natAbs_mul]
    generalize a1 * ((bsD v ^ K / B1 : Nat) : Int) = N
    rw [Bool.eq_iff_iff]; simp [inB]; omega
  have hx : exD v (a1 * ((bsD v ^ K / B1 : Nat) : Int), (K : Int)) = inB (a1 * ((bsD v ^ K / B1 : Nat) : Int)) (-1000000000000000000) 1000000000000000000 := by
    rw [hst] at hend
    generalize a1 * ((bsD v ^ K / B1 : Nat) : Int) = N at *
    have hsc := (scl_yes (b := bsD v) (k := K) (d := (K : Int)) rfl (Nat.le_trans (Nat.pow_le_pow_right b1 K3) hs)).1
    unfold exD
    dsimp only at hend ⊢
    rcases hend with h | h
    · subst h; simp
    · have hb2 : 1 < bsD v := by
        rcases Nat.lt_or_ge 1 (bsD v) with h2 | h2
        · exact h2
        · exfalso
          have : bsD v = 1 := by omega
          rw [this] at h; simp at h
      simp [hsc, hb2, h]
  simp only [fitD, mkD, fitN, hK, hfa, hfb, hst, ht, hx]
  generalize a1 * ((bsD v ^ K / B1 : Nat) : Int) = N
  cases hi : inB N (-1000000000000000000) 1000000000000000000 <;> simp [hi]
theorem fit_mk {v : DVar} {A : Int} {D : Nat} (hv : varD v = true) (hA : A.natAbs ≤ 9223372036854775807) (hD : D ≤ 60) (hs : bsD v ^ D ≤ 1000000000000000) :
    FitP v A ((bsD v ^ D : Nat) : Int) ∧ (fitD v A (bsD v ^ D)).2 = (mkD v A D).2 ∧ ((mkD v A D).2 = true → (fitD v A (bsD v ^ D)).1 = (mkD v A D).1) := by
  obtain ⟨-, b1, b2, -⟩ := bsD_facts hv
  have hP : 1 ≤ bsD v ^ D := Nat.pow_pos b1
  obtain ⟨G, hG⟩ : ∃ G, G = Nat.gcd A.natAbs (bsD v ^ D) := ⟨_, rfl⟩
  have hG1 : 1 ≤ G := by rw [hG]; exact Nat.gcd_pos_of_pos_right _ hP
  obtain ⟨B1, hB1⟩ : G ∣ bsD v ^ D := by rw [hG]; exact Nat.gcd_dvd_right _ _
  obtain ⟨a1, ha1⟩ : (G : Int) ∣ A := by rw [hG]; exact Int.ofNat_dvd_left.2 (Nat.gcd_dvd_left _ _)
  have efB : fitB A (bsD v ^ D) = B1 := by unfold fitB; rw [← hG, hB1]; exact Nat.mul_div_cancel_left _ hG1
  have efA : fitA A (bsD v ^ D) = a1 := by unfold fitA; rw [← hG, ha1]; exact Int.mul_tdiv_cancel_left _ (by omega)
  have hB1p : 1 ≤ B1 := by rcases Nat.eq_zero_or_pos B1 with h | h; · subst h; simp at hB1; omega
                           · exact h
  have hco : Nat.Coprime a1.natAbs B1 := by
    have h1 : A.natAbs = G * a1.natAbs := by rw [ha1, Int.natAbs_mul, Int.natAbs_natCast]
    have h2 : G = G * Nat.gcd a1.natAbs B1 := by rw [← Nat.gcd_mul_left, ← h1, ← hB1]; exact hG
    exact Nat.eq_of_mul_eq_mul_left (show 0 < G from hG1) (by rw [← h2, Nat.mul_one])
  have heq : a1 * (bsD v : Int) ^ D = A * B1 := by
    have h1 : (bsD v : Int) ^ D = (G : Int) * B1 := by
      have := congrArg (fun x : Nat => (x : Int)) hB1
      simpa using this
    rw [h1, ha1, ← Int.mul_assoc, Int.mul_comm a1 _]
  obtain ⟨hdv, h2⟩ := fit_core hv efA efB hB1p hco heq hD hs
  exact ⟨⟨⟨by omega, by omega⟩, ⟨by omega, by omega⟩, D, hD, hs, by rw [Int.toNat_natCast, efB]; exact hdv⟩, h2⟩
/-- the reference's sum, the smaller depth first -/
theorem getD_memX {α : Type} {l : List α} {k : Nat} (h : k < l.length) (d : α) : l.getD k d ∈ l := by
  rw [List.getD_eq_getElem?_getD, List.getElem?_eq_getElem h]; exact List.getElem_mem h
def allX (v : DVar) (l : List DExact) : Bool := l.all fun x => exD v x
def codeX (v : DVar) (l : List DExact) : Int := if varD v = false then 1 else if allX v l = false then 2 else 0
def bdX (l : List DExact) : Prop := ∀ (i : Nat), (l.getD i (0, 0)).2 ≤ 9223372036854775807
theorem allX_at {v : DVar} {l : List DExact} (h : allX v l = true) {i : Nat} (hi : i < l.length) : exD v (l.getD i (0, 0)) = true := by
  have := List.all_eq_true.1 h (l.getD i (0, 0)) (getD_memX hi (0, 0))
  exact this
theorem codeX_ok {v : DVar} {l : List DExact} (hv : varD v = true) (h : ∀ j : Nat, j < l.length → exD v (l.getD j (0, 0)) = true) : codeX v l = 0 := by
  have : allX v l = true := by
    unfold allX; rw [List.all_eq_true]; intro x hx
    obtain ⟨j, hj, rfl⟩ := List.getElem_of_mem hx
    have := h j hj
    rwa [List.getD_eq_getElem?_getD, List.getElem?_eq_getElem hj] at this
  simp [codeX, hv, this]
theorem codeX_no {v : DVar} {l : List DExact} (hv : varD v = true) {j : Nat} (hj : j < l.length) (h : exD v (l.getD j (0, 0)) = false) : codeX v l = 2 := by
  have : allX v l = false := by
    cases ha : allX v l
    · rfl
    · rw [allX_at ha hj] at h; cases h
  simp [codeX, hv, this]
theorem codeX_zero {v : DVar} {l : List DExact} (h : codeX v l = 0) : varD v = true ∧ allX v l = true := by
  unfold codeX at h
  split at h
  · omega
  · split at h
    · omega
    · simp_all
def c_impl_checkExacts : Con where
  ins := [(true, .v tVar), (false, .v (.sl tRoll))]
  outs := [(false, .v tI)]
  sh := false
  pre := fun x => bdX x.2.1
  out := fun x => (codeX x.1 x.2.1, ())
  upd := fun x => x
theorem k_impl_checkExacts [B : Base] : ConOk Tryd.prog 26 c_impl_checkExacts := by
  refine fn_okW (C := cx Tryd.prog 21 c_impl_checkExacts) (cs := [(19, c_impl_IsVariant), (20, c_impl_isExact)]) (res := Tryd.f26.results.toList) (fun x => ⟨[{ sh := ⟨[(2, .one (.ref 0)), (10, .one (.ref 1)), (11, .one (.i .i64)), (12, .one (.i .i64))], [(0, .box [.i .i64, .i .i64, .i .i64, .i .i64]), (1, .imm tRoll false)]⟩, nx := 2, I := fun _ dat_ => ((x.2.1.length : Int) = dat_.1.2.2.1 ∧ x.1.1 = dat_.2.1.1 ∧ x.1.2.1 = dat_.2.1.2.1 ∧ x.1.2.2.1 = dat_.2.1.2.2.1 ∧ x.1.2.2.2 = dat_.2.1.2.2.2.1 ∧ x.2.1 = dat_.2.2.1) ∧ ((∀ j : Nat, j < Int.toNat dat_.1.2.2.2.1 → exD x.1 (List.getD x.2.1 j (0, 0)) = true) ∧ 0 ≤ dat_.1.2.2.2.1 ∧ dat_.1.2.2.2.1 ≤ (List.length x.2.1 : Int)), mu := fun dat_ => Int.toNat ((List.length x.2.1 : Int) - dat_.1.2.2.2.1) }], [], []⟩) Tryd.func26 (by kernel_rfl) rfl rfl rfl tysOk.look eqTsOk.look (AllCs.ok (l := [(19, c_impl_IsVariant), (20, c_impl_isExact)]) ⟨k_impl_IsVariant, k_impl_isExact, trivial⟩) mixed rfl rfl rfl ?_
  refine of_nf (P := ∀ v : Int × Int × Int × Int, ∀ l : List (Int × Int), (bdX l) → ((lensI c_impl_checkExacts.ins (v, l, ())) → (True ∧ (bsp (!(varD v)) (@Eq (HO c_impl_checkExacts.outs) (1, ()) (c_impl_checkExacts.out (v, l, ()))) ((((l.length : Int) = (l.length : Int) ∧ v.1 = v.1 ∧ v.2.1 = v.2.1 ∧ v.2.2.1 = v.2.2.1 ∧ v.2.2.2 = v.2.2.2 ∧ l = l) ∧ ((∀ j : Nat, j < Int.toNat (0 : Int) → exD v (List.getD l j (0, 0)) = true) ∧ 0 ≤ (0 : Int) ∧ (0 : Int) ≤ (List.length l : Int))) ∧ (∀ n : Int, ∀ i : Int, ∀ t2_0 : Int, ∀ t2_1 : Int, ∀ t2_2 : Int, ∀ t2_3 : Int, ∀ t10 : List (Int × Int), (((l.length : Int) = n ∧ v.1 = t2_0 ∧ v.2.1 = t2_1 ∧ v.2.2.1 = t2_2 ∧ v.2.2.2 = t2_3 ∧ l = t10) ∧ ((∀ j : Nat, j < Int.toNat i → exD v (List.getD l j (0, 0)) = true) ∧ 0 ≤ i ∧ i ≤ (List.length l : Int))) → (bsp (decide (i < n)) ((0 ≤ i ∧ i < (t10.length : Int)) ∧ ((i.toNat < t10.length) ∧ ((varD (t2_0, t2_1, t2_2, t2_3) = true ∧ (t10.getD i.toNat (0, 0)).2 ≤ 9223372036854775807) ∧ (bsp (!(exD (t2_0, t2_1, t2_2, t2_3) (t10.getD i.toNat (0, 0)))) (@Eq (HO c_impl_checkExacts.outs) (2, ()) (c_impl_checkExacts.out (v, l, ()))) ((inK .i64 (i + 1)) ∧ ((((l.length : Int) = n ∧ v.1 = t2_0 ∧ v.2.1 = t2_1 ∧ v.2.2.1 = t2_2 ∧ v.2.2.2 = t2_3 ∧ l = t10) ∧ ((∀ j : Nat, j < Int.toNat (i + 1) → exD v (List.getD l j (0, 0)) = true) ∧ 0 ≤ (i + 1) ∧ (i + 1) ≤ (List.length l : Int))) ∧ ((Int.toNat ((List.length l : Int) - (i + 1)) : Nat) < Int.toNat ((List.length l : Int) - i)))))))) (@Eq (HO c_impl_checkExacts.outs) (0, ()) (c_impl_checkExacts.out (v, l, ())))))))))) (by kernel_rfl) ?_
  rintro v l hb hl
  refine ⟨trivial, bspB (fun h => by simp_all [c_impl_checkExacts, codeX]) (fun hv => ?_)⟩
  simp only [Bool.not_eq_false'] at hv
  have hlen : l.length ≤ 9223372036854775807 := hl.2.1.1
  refine ⟨⟨(by first | trivial | rfl | (and_intros <;> rfl)), fun j hj => by simp at hj, by omega, by omega⟩, ?_⟩
  rintro n i t2_0 t2_1 t2_2 t2_3 t10 ⟨⟨rfl, rfl, rfl, rfl, rfl, rfl⟩, ⟨ha, i0, i1⟩⟩
  simp only [Prod.eta]
  refine bspD (fun hlt => ⟨⟨by omega, by omega⟩, by omega, ⟨hv, hb _⟩, bspB (fun hn => ?_) (fun hy => ?_)⟩) (fun hge => ?_)
  · simp only [Bool.not_eq_true'] at hn
    simp only [c_impl_checkExacts, codeX_no hv (by omega) hn]
  · simp only [Bool.not_eq_false'] at hy
    refine ⟨by simp only [inK]; omega, ⟨(by first | trivial | rfl | (and_intros <;> rfl)), fun j hj => ?_, by omega, by omega⟩, by omega⟩
    by_cases e : j = i.toNat
    · subst e; exact hy
    · exact ha j (by omega)
  · simp only [c_impl_checkExacts, codeX_ok hv fun j hj => ha j (by omega)]
theorem codeX_two {v : DVar} {x y : DExact} (h : codeX v [x, y] = 0) : varD v = true ∧ exD v x = true ∧ exD v y = true := by
  have := codeX_zero h
  simpa [allX] using this
theorem codeX_twice (v : DVar) (x : DExact) : codeX v [x, x] = codeX v [x] := by simp [codeX, allX]
def c_spec_l09Code : Con where
  ins := [(true, .v tVar), (true, .v tRoll), (true, .v tRoll)]
  outs := [(false, .v tI)]
  sh := false
  pre := fun x => x.2.1.2 ≤ 9223372036854775807 ∧ x.2.2.1.2 ≤ 9223372036854775807
  out := fun x => (codeX x.1 [x.2.1, x.2.2.1], ())
  upd := fun x => x
theorem k_spec_l09Code [B : Base] : ConOk Tryd.prog 30 c_spec_l09Code := by
  refine fn_okW (C := cx Tryd.prog 20 c_spec_l09Code) (cs := [(17, c_spec_IsVariant), (18, c_spec_l09Valid)]) (res := Tryd.f30.results.toList) (fun _ => ⟨[], [], []⟩) Tryd.func30 (by kernel_rfl) rfl rfl rfl tysOk.look eqTsOk.look (AllCs.ok (l := [(17, c_spec_IsVariant), (18, c_spec_l09Valid)]) ⟨k_spec_IsVariant, k_spec_l09Valid, trivial⟩) mixed rfl rfl rfl ?_
  refine of_nf (P := ∀ v : Int × Int × Int × Int, ∀ x : Int × Int, ∀ y : Int × Int, (x.2 ≤ 9223372036854775807 ∧ y.2 ≤ 9223372036854775807) → ((lensI c_spec_l09Code.ins (v, x, y, ())) → (True ∧ (bsp (!(varD v)) (@Eq (HO c_spec_l09Code.outs) (1, ()) (c_spec_l09Code.out (v, x, y, ()))) ((varD v = true ∧ x.2 ≤ 9223372036854775807) ∧ (bsp (!(exD v x)) (@Eq (HO c_spec_l09Code.outs) (2, ()) (c_spec_l09Code.out (v, x, y, ()))) ((varD v = true ∧ y.2 ≤ 9223372036854775807) ∧ (bsp (!(exD v y)) (@Eq (HO c_spec_l09Code.outs) (2, ()) (c_spec_l09Code.out (v, x, y, ()))) (@Eq (HO c_spec_l09Code.outs) (0, ()) (c_spec_l09Code.out (v, x, y, ()))))))))))) (by kernel_rfl) ?_
  rintro v x y ⟨hx, hy⟩ hl
  have out : ∀ k : Int, codeX v [x, y] = k → @Eq (HO c_spec_l09Code.outs) (k, ()) (c_spec_l09Code.out (v, x, y, ())) := fun k h => by subst h; rfl
  refine ⟨trivial, bspB (fun h => out _ (by simp_all [codeX])) (fun h => ?_)⟩
  simp only [Bool.not_eq_false'] at h
  refine ⟨⟨h, hx⟩, bspB (fun g => out _ (by simp_all [codeX, allX])) (fun g => ⟨⟨h, hy⟩, bspB (fun g2 => out _ (by simp_all [codeX, allX])) (fun g2 => out _ (by simp_all [codeX, allX]))⟩)⟩
structure U64 (x : Int) : Prop where
  lo : 0 ≤ x
  hi : x ≤ 18446744073709551615
/-- the number of words; by choice, so that the kernel never counts with it -/
noncomputable def two64 : Nat := Classical.choose (⟨18446744073709551616, rfl⟩ : ∃ n : Nat, n = 18446744073709551616)
theorem two64_eq : two64 = 18446744073709551616 := Classical.choose_spec (⟨18446744073709551616, rfl⟩ : ∃ n : Nat, n = 18446744073709551616)
noncomputable section
def hiW (x y : Int) : Int := ((x.toNat * y.toNat / two64 : Nat) : Int)
def loW (x y : Int) : Int := ((x.toNat * y.toNat % two64 : Nat) : Int)
def quW (h l y : Int) : Int := (((h.toNat * two64 + l.toNat) / y.toNat : Nat) : Int)
def reW (h l y : Int) : Int := (((h.toNat * two64 + l.toNat) % y.toNat : Nat) : Int)
def c_math_bits_Mul64 : Con where
  ins := [(false, .v (.i .u64)), (false, .v (.i .u64))]
  outs := [(false, .v (.i .u64)), (false, .v (.i .u64))]
  sh := false
  pre := fun x => U64 x.1 ∧ U64 x.2.1
  out := fun x => (hiW x.1 x.2.1, loW x.1 x.2.1, ())
  upd := fun x => x
def c_math_bits_Div64 : Con where
  ins := [(false, .v (.i .u64)), (false, .v (.i .u64)), (false, .v (.i .u64))]
  outs := [(false, .v (.i .u64)), (false, .v (.i .u64))]
  sh := false
  pre := fun x => (0 ≤ x.1 ∧ x.1 < x.2.2.1) ∧ U64 x.2.1 ∧ U64 x.2.2.1
  out := fun x => (quW x.1 x.2.1 x.2.2.1, reW x.1 x.2.1 x.2.2.1, ())
  upd := fun x => x
theorem k_math_bits_Mul64 [B : Base] : ConOk Tryd.prog 28 c_math_bits_Mul64 :=
  con22 (o := fun a b => (hiW a b, loW a b)) ⟨_, _, Tryd.func28, by kernel_rfl, rfl⟩ fun a b w hp => by
    obtain ⟨⟨a0, a1⟩, ⟨b0, b1⟩⟩ : U64 a ∧ U64 b := hp
    obtain ⟨a, rfl⟩ : ∃ n : Nat, a = n := ⟨a.toNat, by omega⟩
    obtain ⟨b, rfl⟩ : ∃ n : Nat, b = n := ⟨b.toNat, by omega⟩
    simp only [hiW, loW, two64_eq, Int.toNat_natCast]
    exact mul64_any a b (by omega) (by omega) w
theorem k_math_bits_Div64 [B : Base] : ConOk Tryd.prog 29 c_math_bits_Div64 :=
  con32 (o := fun h l y => (quW h l y, reW h l y)) ⟨_, _, Tryd.func29, by kernel_rfl, rfl⟩ fun h l y w hp => by
    obtain ⟨⟨h0, h1⟩, ⟨l0, l1⟩, ⟨-, y1⟩⟩ : (0 ≤ h ∧ h < y) ∧ U64 l ∧ U64 y := hp
    obtain ⟨h, rfl⟩ : ∃ n : Nat, h = n := ⟨h.toNat, by omega⟩
    obtain ⟨l, rfl⟩ : ∃ n : Nat, l = n := ⟨l.toNat, by omega⟩
    obtain ⟨y, rfl⟩ : ∃ n : Nat, y = n := ⟨y.toNat, by omega⟩
    simp only [quW, reW, two64_eq, Int.toNat_natCast]
    exact div64_all h l y (by omega) (by omega) (by omega) w
end
/-- what the reference's MakeExact returns -/
def makeS (v : DVar) (n d : Int) : DExact × Int :=
  if varD v = false then ((0, 0), 1) else if (inB n (-1000000000000000000) 1000000000000000000 && inB d 0 60 && sclB (bsD v) (max 0 (min d 61))) = false then ((0, 0), 2) else ((mkD v n d.toNat).1, 0)
theorem mkD_small {v : DVar} {n : Int} {d : Nat} (hv : varD v = true) (hn : n.natAbs ≤ 1000000000000000000) (hd : d ≤ 60) (hs : bsD v ^ d ≤ 1000000000000000) : (mkD v n d).2 = true := by
  obtain ⟨-, b1, b2, -⟩ := bsD_facts hv
  have h1 := strip_abs (bsD v) b1 d n
  have h2 := strip_end (bsD v) d n
  have h3 := strip_depth (bsD v) d n
  unfold mkD
  rw [if_pos]
  obtain ⟨z, hz⟩ : ∃ z, z = strip (bsD v) d n := ⟨_, rfl⟩
  rw [← hz] at h1 h2 h3 ⊢
  have hin : inB z.1 (-1000000000000000000) 1000000000000000000 = true := by simp [inB]; omega
  have hsc := (scl_yes (b := bsD v) (k := z.2) (d := (z.2 : Int)) rfl (Nat.le_trans (Nat.pow_le_pow_right b1 h3) hs)).1
  unfold exD
  dsimp only
  rcases h2 with h | h
  · simp [hin, h]
  · have hb2 : 1 < bsD v := by
      rcases Nat.lt_or_ge 1 (bsD v) with h2 | h2
      · exact h2
      · exfalso
        have : bsD v = 1 := by omega
        rw [this] at h; simp at h
    simp [hin, hsc, hb2, h]
def c_spec_MakeExact : Con where
  ins := [(true, .v tVar), (false, .v tI), (false, .v tI)]
  outs := [(true, .v tRoll), (false, .v tI)]
  sh := false
  pre := fun _ => True
  out := fun x => ((makeS x.1 x.2.1 x.2.2.1).1, (makeS x.1 x.2.1 x.2.2.1).2, ())
  upd := fun x => x
theorem k_spec_MakeExact [B : Base] : ConOk Tryd.prog 44 c_spec_MakeExact := by
  refine fn_okW (C := cx Tryd.prog 45 c_spec_MakeExact) (cs := [(17, c_spec_IsVariant), (31, c_spec_l09Scale), (32, c_spec_l01In), (51, c_spec_l09Fit)]) (res := Tryd.f44.results.toList) (fun _ => ⟨[], [], []⟩) Tryd.func44 (by kernel_rfl) rfl rfl rfl tysOk.look eqTsOk.look (AllCs.ok (l := [(17, c_spec_IsVariant), (31, c_spec_l09Scale), (32, c_spec_l01In), (51, c_spec_l09Fit)]) ⟨k_spec_IsVariant, k_spec_l09Scale, k_spec_l01In, k_spec_l09Fit, trivial⟩) mixed rfl rfl rfl ?_
  refine of_nf (P := ∀ v : Int × Int × Int × Int, ∀ n : Int, ∀ d : Int, (True) → ((lensI c_spec_MakeExact.ins (v, n, d, ())) → (True ∧ (bsp (!(varD v)) (@Eq (HO c_spec_MakeExact.outs) ((0, 0), 1, ()) (c_spec_MakeExact.out (v, n, d, ()))) ((varD v = true ∧ (max (0 : Int) (min d (61 : Int))) ≤ 9223372036854775807) ∧ (True ∧ (bsp (!(inB n (-1000000000000000000 : Int) (1000000000000000000 : Int))) (@Eq (HO c_spec_MakeExact.outs) ((0, 0), 2, ()) (c_spec_MakeExact.out (v, n, d, ()))) (True ∧ (bsp (!(inB d (0 : Int) (60 : Int))) (@Eq (HO c_spec_MakeExact.outs) ((0, 0), 2, ()) (c_spec_MakeExact.out (v, n, d, ()))) (bsp (!(sclB (bsD v) (max (0 : Int) (min d (61 : Int))))) (@Eq (HO c_spec_MakeExact.outs) ((0, 0), 2, ()) (c_spec_MakeExact.out (v, n, d, ()))) ((varD v = true ∧ FitP v n (sclV (bsD v) (max (0 : Int) (min d (61 : Int))) : Int)) ∧ (@Eq (HO c_spec_MakeExact.outs) ((fitD v n (Int.toNat (sclV (bsD v) (max (0 : Int) (min d (61 : Int))) : Int))).1, 0, ()) (c_spec_MakeExact.out (v, n, d, ())))))))))))))) (by kernel_rfl) ?_
  rintro v n d hp hl
  have out : ∀ r : DExact × Int, makeS v n d = r → @Eq (HO c_spec_MakeExact.outs) (r.1, r.2, ()) (c_spec_MakeExact.out (v, n, d, ())) := fun r h => by subst h; rfl
  refine ⟨trivial, bspB (fun h => out ((0, 0), 1) (by simp_all [makeS])) (fun h => ?_)⟩
  simp only [Bool.not_eq_false'] at h
  obtain ⟨-, b1, b2, s1, s2⟩ := bsD_facts h
  refine ⟨⟨h, by omega⟩, trivial, bspB (fun g => out ((0, 0), 2) (by simp_all [makeS])) (fun g => ⟨trivial, bspB (fun g2 => out ((0, 0), 2) (by simp_all [makeS])) (fun g2 => bspB (fun g3 => out ((0, 0), 2) (by simp_all [makeS])) (fun g3 => ?_))⟩)⟩
  simp only [Bool.not_eq_false'] at g g2 g3
  have hM : makeS v n d = ((mkD v n d.toNat).1, 0) := by simp [makeS, h, g, g2, g3]
  have gn := inBx.1 g
  have gd := inBx.1 g2
  have em : max 0 (min d 61) = d := by omega
  rw [em] at g3 ⊢
  have hb := (scl_bd b1 g3).2
  rw [scl_ok g3] at hb
  rw [scl_ok g3, Int.toNat_natCast]
  obtain ⟨F1, F2, F3⟩ := fit_mk h (by omega) (show d.toNat ≤ 60 by omega) hb (A := n)
  have hok := mkD_small h (by omega) (show d.toNat ≤ 60 by omega) hb (n := n)
  exact ⟨⟨h, F1⟩, by rw [F3 hok]; exact out _ hM⟩
def drawN (s : DSrc) : Int × DSrc :=
  let a := nxtD s 200
  let k := nxtD a.2 8
  if k.1 = 0 then ([0, 1, 1000000000000000000, -1000000000000000000, 999999999999999999, 999999999999999999].getD (nxtD k.2 6).1.toNat 0, (nxtD k.2 6).2)
  else if k.1 = 1 then ((a.1 - 60) * 1000003 * (nxtD k.2 1000).1, (nxtD k.2 1000).2)
  else (a.1 - 60, k.2)
def drawP (s : DSrc) : Int × DSrc :=
  let a := nxtD s 4
  let t := nxtD a.2 6
  if t.1 = 0 then nxtD t.2 30 else (a.1, t.2)
def drawE (v : DVar) (n d : Int) (s : DSrc) : DExact × DSrc :=
  if (makeS v n d).2 ≠ 0 then ((n, d - (nxtD s 3).1), (nxtD s 3).2)
  else if (nxtD s 24).1 = 0 then ((n, d - (nxtD (nxtD s 24).2 3).1), (nxtD (nxtD s 24).2 3).2) else ((makeS v n d).1, (nxtD s 24).2)
def drawX (s : DSrc) (v : DVar) : DExact × DSrc := drawE v (drawN s).1 (drawP (drawN s).2).1 (drawP (drawN s).2).2
theorem drawN_ok {s : DSrc} (h : okS s) : okS (drawN s).2 ∧ (drawN s).2.1 = s.1 := by
  unfold drawN
  refine ⟨?_, ?_⟩
  all_goals (simp only []; repeat' split)
  all_goals first | (simp only [nxtD_code]; done) | (repeat' first | exact h | refine nxtD_ok ?_ _)
theorem drawP_ok {s : DSrc} (h : okS s) : okS (drawP s).2 ∧ (drawP s).2.1 = s.1 := by
  unfold drawP
  refine ⟨?_, ?_⟩
  all_goals (simp only []; repeat' split)
  all_goals first | (simp only [nxtD_code]; done) | (repeat' first | exact h | refine nxtD_ok ?_ _)
theorem drawE_ok {v : DVar} {n d : Int} {s : DSrc} (h : okS s) : okS (drawE v n d s).2 ∧ (drawE v n d s).2.1 = s.1 := by
  unfold drawE
  refine ⟨?_, ?_⟩
  all_goals (repeat' split)
  all_goals first | (simp only [nxtD_code]; done) | (repeat' first | exact h | refine nxtD_ok ?_ _)
theorem drawX_ok {s : DSrc} {v : DVar} (h : okS s) : okS (drawX s v).2 ∧ (drawX s v).2.1 = s.1 := by
  have h1 := drawN_ok h
  have h2 := drawP_ok h1.1
  have h3 := drawE_ok h2.1 (v := v) (n := (drawN s).1) (d := (drawP (drawN s).2).1)
  exact ⟨h3.1, h3.2.trans (h2.2.trans h1.2)⟩
theorem drawN_bd {s : DSrc} (h : okS s) : -1000000000000000000 ≤ (drawN s).1 ∧ (drawN s).1 ≤ 1000000000000000000 := by
  have b1 := nxtD_bd h 200
  have h1 := nxtD_ok h 200
  have b2 := nxtD_bd h1 8
  have h2 := nxtD_ok h1 8
  unfold drawN
  simp only []
  split
  · have b3 := nxtD_bd h2 6
    generalize (nxtD (nxtD (nxtD s 200).2 8).2 6).1 = k at *
    dsimp only
    have : k = 0 ∨ k = 1 ∨ k = 2 ∨ k = 3 ∨ k = 4 ∨ k = 5 := by omega
    rcases this with rfl | rfl | rfl | rfl | rfl | rfl <;> decide
  · split
    · have b3 := nxtD_bd h2 1000
      generalize (nxtD (nxtD (nxtD s 200).2 8).2 1000).1 = k at *
      generalize (nxtD s 200).1 = a at *
      have h5 : (a - 60) * 1000003 ≤ 200000000 ∧ -200000000 ≤ (a - 60) * 1000003 := by omega
      have h6 : ((a - 60) * 1000003 * k).natAbs ≤ 200000000 * 1000 := by rw [Int.natAbs_mul]; exact Nat.mul_le_mul (by omega) (by omega)
      generalize (a - 60) * 1000003 * k = m at *
      dsimp only; omega
    · dsimp only; omega
theorem drawP_bd {s : DSrc} (h : okS s) : 0 ≤ (drawP s).1 ∧ (drawP s).1 ≤ 29 := by
  have b1 := nxtD_bd h 4
  have b3 := nxtD_bd (nxtD_ok (nxtD_ok h 4) 6) 30
  unfold drawP
  simp only []
  split <;> (try dsimp only) <;> omega
def c_spec_l09DrawExact : Con where
  ins := [(false, .bx (.pr (.sl (.i .u8)) tRoll)), (true, .v tVar)]
  outs := [(true, .v tRoll)]
  sh := false
  pre := fun x => okS x.1
  out := fun x => ((drawX x.1 x.2.1).1, ())
  upd := fun x => ((x.1.1, (drawX x.1 x.2.1).2.2), x.2.1, ())
theorem k_spec_l09DrawExact [B : Base] : ConOk Tryd.prog 36 c_spec_l09DrawExact := by
  refine fn_okW (C := cx Tryd.prog 56 c_spec_l09DrawExact) (cs := [(37, c_spec_l01Next), (44, c_spec_MakeExact)]) (res := Tryd.f36.results.toList) (fun x => ⟨[], [], [(7, { sh := ⟨[(0, .one (.ref 0)), (3, .one (.ref 2)), (4, .one (.ref 3)), (5, .one (.i .i64))], [(2, .box [.i .i64, .i .i64, .i .i64, .i .i64]), (3, .box [.i .i64, .i .i64]), (0, .box [.ref 1, .i .i64, .i .i64]), (1, .imm (.i .u8) false)]⟩, nx := 4, I := fun _ dat_ => (x.2.1.1 = dat_.2.1.1 ∧ x.2.1.2.1 = dat_.2.1.2.1 ∧ x.2.1.2.2.1 = dat_.2.1.2.2.1 ∧ x.2.1.2.2.2 = dat_.2.1.2.2.2.1 ∧ (0 : Int) = dat_.2.2.1.1 ∧ (0 : Int) = dat_.2.2.1.2.1 ∧ x.1.1 = dat_.2.2.2.2.1) ∧ ((dat_.1.2.2.2.1, x.1.1, dat_.2.2.2.1.2.1, dat_.2.2.2.1.2.2.1) = drawN x.1), mu := fun dat_ => 0 }), (10, { sh := ⟨[(0, .one (.ref 0)), (3, .one (.ref 2)), (4, .one (.ref 3)), (5, .one (.i .i64)), (6, .one (.i .i64))], [(2, .box [.i .i64, .i .i64, .i .i64, .i .i64]), (3, .box [.i .i64, .i .i64]), (0, .box [.ref 1, .i .i64, .i .i64]), (1, .imm (.i .u8) false)]⟩, nx := 4, I := fun _ dat_ => (x.2.1.1 = dat_.2.1.1 ∧ x.2.1.2.1 = dat_.2.1.2.1 ∧ x.2.1.2.2.1 = dat_.2.1.2.2.1 ∧ x.2.1.2.2.2 = dat_.2.1.2.2.2.1 ∧ (0 : Int) = dat_.2.2.1.1 ∧ (0 : Int) = dat_.2.2.1.2.1 ∧ x.1.1 = dat_.2.2.2.2.1) ∧ ((dat_.1.2.2.2.2.1, x.1.1, dat_.2.2.2.1.2.1, dat_.2.2.2.1.2.2.1) = drawP (drawN x.1).2 ∧ dat_.1.2.2.2.1 = (drawN x.1).1), mu := fun dat_ => 0 })]⟩) Tryd.func36 (by kernel_rfl) rfl rfl rfl tysOk.look eqTsOk.look (AllCs.ok (l := [(37, c_spec_l01Next), (44, c_spec_MakeExact)]) ⟨k_spec_l01Next, k_spec_MakeExact, trivial⟩) mixed rfl rfl rfl ?_
  refine of_nf (P := ∀ s : (List Int) × Int × Int, ∀ v : Int × Int × Int × Int, (okS s) → ((lensI c_spec_l09DrawExact.ins (s, v, ())) → ((okS s ∧ (200 : Int) ≤ 1000000000000) ∧ ((inK .i64 ((nxtD s (200 : Int)).1 - 60)) ∧ (((okS (s.1, (nxtD s (200 : Int)).2.2) ∧ (8 : Int) ≤ 1000000000000) ∧ (bsp (decide ((nxtD (s.1, (nxtD s (200 : Int)).2.2) (8 : Int)).1 = (0 : Int))) ((okS (s.1, (nxtD (s.1, (nxtD s (200 : Int)).2.2) (8 : Int)).2.2) ∧ (6 : Int) ≤ 1000000000000) ∧ ((0 ≤ (nxtD (s.1, (nxtD (s.1, (nxtD s (200 : Int)).2.2) (8 : Int)).2.2) (6 : Int)).1 ∧ (nxtD (s.1, (nxtD (s.1, (nxtD s (200 : Int)).2.2) (8 : Int)).2.2) (6 : Int)).1 < (([0, 1, 1000000000000000000, (-1000000000000000000), 999999999999999999, 999999999999999999] : List Int).length : Int)) ∧ (((nxtD (s.1, (nxtD (s.1, (nxtD s (200 : Int)).2.2) (8 : Int)).2.2) (6 : Int)).1.toNat < ([0, 1, 1000000000000000000, (-1000000000000000000), 999999999999999999, 999999999999999999] : List Int).length) ∧ ((v.1 = v.1 ∧ v.2.1 = v.2.1 ∧ v.2.2.1 = v.2.2.1 ∧ v.2.2.2 = v.2.2.2 ∧ (0 : Int) = 0 ∧ (0 : Int) = 0 ∧ s.1 = s.1) ∧ (((([0, 1, 1000000000000000000, (-1000000000000000000), 999999999999999999, 999999999999999999] : List Int).getD (nxtD (s.1, (nxtD (s.1, (nxtD s (200 : Int)).2.2) (8 : Int)).2.2) (6 : Int)).1.toNat 0), s.1, (nxtD (s.1, (nxtD (s.1, (nxtD s (200 : Int)).2.2) (8 : Int)).2.2) (6 : Int)).2.2.1, (nxtD (s.1, (nxtD (s.1, (nxtD s (200 : Int)).2.2) (8 : Int)).2.2) (6 : Int)).2.2.2) = drawN s))))) (bsp (decide ((nxtD (s.1, (nxtD s (200 : Int)).2.2) (8 : Int)).1 = (1 : Int))) ((inK .i64 (((nxtD s (200 : Int)).1 - 60) * 1000003)) ∧ ((okS (s.1, (nxtD (s.1, (nxtD s (200 : Int)).2.2) (8 : Int)).2.2) ∧ (1000 : Int) ≤ 1000000000000) ∧ ((inK .i64 ((((nxtD s (200 : Int)).1 - 60) * 1000003) * (nxtD (s.1, (nxtD (s.1, (nxtD s (200 : Int)).2.2) (8 : Int)).2.2) (1000 : Int)).1)) ∧ ((v.1 = v.1 ∧ v.2.1 = v.2.1 ∧ v.2.2.1 = v.2.2.1 ∧ v.2.2.2 = v.2.2.2 ∧ (0 : Int) = 0 ∧ (0 : Int) = 0 ∧ s.1 = s.1) ∧ ((((((nxtD s (200 : Int)).1 - 60) * 1000003) * (nxtD (s.1, (nxtD (s.1, (nxtD s (200 : Int)).2.2) (8 : Int)).2.2) (1000 : Int)).1), s.1, (nxtD (s.1, (nxtD (s.1, (nxtD s (200 : Int)).2.2) (8 : Int)).2.2) (1000 : Int)).2.2.1, (nxtD (s.1, (nxtD (s.1, (nxtD s (200 : Int)).2.2) (8 : Int)).2.2) (1000 : Int)).2.2.2) = drawN s))))) ((v.1 = v.1 ∧ v.2.1 = v.2.1 ∧ v.2.2.1 = v.2.2.1 ∧ v.2.2.2 = v.2.2.2 ∧ (0 : Int) = 0 ∧ (0 : Int) = 0 ∧ s.1 = s.1) ∧ ((((nxtD s (200 : Int)).1 - 60), s.1, (nxtD (s.1, (nxtD s (200 : Int)).2.2) (8 : Int)).2.2.1, (nxtD (s.1, (nxtD s (200 : Int)).2.2) (8 : Int)).2.2.2) = drawN s))))) ∧ (∀ num : Int, ∀ t3_0 : Int, ∀ t3_1 : Int, ∀ t3_2 : Int, ∀ t3_3 : Int, ∀ t4_0 : Int, ∀ t4_1 : Int, ∀ s_1 : Int, ∀ s_2 : Int, ∀ s_0 : List Int, ((v.1 = t3_0 ∧ v.2.1 = t3_1 ∧ v.2.2.1 = t3_2 ∧ v.2.2.2 = t3_3 ∧ (0 : Int) = t4_0 ∧ (0 : Int) = t4_1 ∧ s.1 = s_0) ∧ ((num, s.1, s_1, s_2) = drawN s)) → ((okS (s_0, s_1, s_2) ∧ (4 : Int) ≤ 1000000000000) ∧ (((okS (s_0, (nxtD (s_0, s_1, s_2) (4 : Int)).2.2) ∧ (6 : Int) ≤ 1000000000000) ∧ (bsp (decide ((nxtD (s_0, (nxtD (s_0, s_1, s_2) (4 : Int)).2.2) (6 : Int)).1 = (0 : Int))) ((okS (s_0, (nxtD (s_0, (nxtD (s_0, s_1, s_2) (4 : Int)).2.2) (6 : Int)).2.2) ∧ (30 : Int) ≤ 1000000000000) ∧ ((v.1 = t3_0 ∧ v.2.1 = t3_1 ∧ v.2.2.1 = t3_2 ∧ v.2.2.2 = t3_3 ∧ (0 : Int) = t4_0 ∧ (0 : Int) = t4_1 ∧ s.1 = s_0) ∧ (((nxtD (s_0, (nxtD (s_0, (nxtD (s_0, s_1, s_2) (4 : Int)).2.2) (6 : Int)).2.2) (30 : Int)).1, s.1, (nxtD (s_0, (nxtD (s_0, (nxtD (s_0, s_1, s_2) (4 : Int)).2.2) (6 : Int)).2.2) (30 : Int)).2.2.1, (nxtD (s_0, (nxtD (s_0, (nxtD (s_0, s_1, s_2) (4 : Int)).2.2) (6 : Int)).2.2) (30 : Int)).2.2.2) = drawP (drawN s).2 ∧ num = (drawN s).1))) ((v.1 = t3_0 ∧ v.2.1 = t3_1 ∧ v.2.2.1 = t3_2 ∧ v.2.2.2 = t3_3 ∧ (0 : Int) = t4_0 ∧ (0 : Int) = t4_1 ∧ s.1 = s_0) ∧ (((nxtD (s_0, s_1, s_2) (4 : Int)).1, s.1, (nxtD (s_0, (nxtD (s_0, s_1, s_2) (4 : Int)).2.2) (6 : Int)).2.2.1, (nxtD (s_0, (nxtD (s_0, s_1, s_2) (4 : Int)).2.2) (6 : Int)).2.2.2) = drawP (drawN s).2 ∧ num = (drawN s).1)))) ∧ (∀ num_1 : Int, ∀ dep : Int, ∀ t3_0x1 : Int, ∀ t3_1x1 : Int, ∀ t3_2x1 : Int, ∀ t3_3x1 : Int, ∀ t4_0x1 : Int, ∀ t4_1x1 : Int, ∀ s_1x1 : Int, ∀ s_2x1 : Int, ∀ s_0x1 : List Int, ((v.1 = t3_0x1 ∧ v.2.1 = t3_1x1 ∧ v.2.2.1 = t3_2x1 ∧ v.2.2.2 = t3_3x1 ∧ (0 : Int) = t4_0x1 ∧ (0 : Int) = t4_1x1 ∧ s.1 = s_0x1) ∧ ((dep, s.1, s_1x1, s_2x1) = drawP (drawN s).2 ∧ num_1 = (drawN s).1)) → (True ∧ (bsp (decide ((makeS (t3_0x1, t3_1x1, t3_2x1, t3_3x1) num_1 dep).2 ≠ (0 : Int))) ((okS (s_0x1, s_1x1, s_2x1) ∧ (3 : Int) ≤ 1000000000000) ∧ ((inK .i64 (dep - (nxtD (s_0x1, s_1x1, s_2x1) (3 : Int)).1)) ∧ (@Eq (HO c_spec_l09DrawExact.outs) ((num_1, (dep - (nxtD (s_0x1, s_1x1, s_2x1) (3 : Int)).1)), ()) (c_spec_l09DrawExact.out (s, v, ())) ∧ @Eq (HI c_spec_l09DrawExact.ins) ((s.1, (nxtD (s_0x1, s_1x1, s_2x1) (3 : Int)).2.2), v, ()) (c_spec_l09DrawExact.upd (s, v, ()))))) ((okS (s_0x1, s_1x1, s_2x1) ∧ (24 : Int) ≤ 1000000000000) ∧ (bsp (decide ((nxtD (s_0x1, s_1x1, s_2x1) (24 : Int)).1 = (0 : Int))) ((okS (s_0x1, (nxtD (s_0x1, s_1x1, s_2x1) (24 : Int)).2.2) ∧ (3 : Int) ≤ 1000000000000) ∧ ((inK .i64 (dep - (nxtD (s_0x1, (nxtD (s_0x1, s_1x1, s_2x1) (24 : Int)).2.2) (3 : Int)).1)) ∧ (@Eq (HO c_spec_l09DrawExact.outs) ((num_1, (dep - (nxtD (s_0x1, (nxtD (s_0x1, s_1x1, s_2x1) (24 : Int)).2.2) (3 : Int)).1)), ()) (c_spec_l09DrawExact.out (s, v, ())) ∧ @Eq (HI c_spec_l09DrawExact.ins) ((s.1, (nxtD (s_0x1, (nxtD (s_0x1, s_1x1, s_2x1) (24 : Int)).2.2) (3 : Int)).2.2), v, ()) (c_spec_l09DrawExact.upd (s, v, ()))))) (@Eq (HO c_spec_l09DrawExact.outs) ((makeS (t3_0x1, t3_1x1, t3_2x1, t3_3x1) num_1 dep).1, ()) (c_spec_l09DrawExact.out (s, v, ())) ∧ @Eq (HI c_spec_l09DrawExact.ins) ((s.1, (nxtD (s_0x1, s_1x1, s_2x1) (24 : Int)).2.2), v, ()) (c_spec_l09DrawExact.upd (s, v, ())))))))))))))))) (by kernel_rfl) ?_
  rintro s v hs hl
  have hN := drawN.eq_1 s
  have hP := drawP.eq_1 (drawN s).2
  have h1 := nxtD_ok hs 200
  have b1 := nxtD_bd hs 200
  have h2 := nxtD_ok h1 8
  have b6 := nxtD_bd h2 6
  have b7 := nxtD_bd h2 1000
  obtain ⟨n1, n2⟩ := drawN_ok hs
  have n3 := drawN_bd hs
  obtain ⟨p1, p2⟩ := drawP_ok n1
  have p3 := drawP_bd n1
  have q1 := nxtD_ok n1 4
  have q2 := nxtD_ok q1 6
  simp only [nxtD_eta, src_eta, nxtD_code]
  refine ⟨⟨hs, by decide⟩, by simp only [inK]; omega, ⟨⟨h1, by decide⟩, bspD (fun c => ⟨⟨h2, by decide⟩, ⟨by omega, by simp only [List.length_cons, List.length_nil]; omega⟩, by simp only [List.length_cons, List.length_nil]; omega, (by first | trivial | rfl | (and_intros <;> rfl)), ?_⟩) (fun c => bspD (fun c' => ⟨?_, ⟨h2, by decide⟩, ?_, (by first | trivial | rfl | (and_intros <;> rfl)), ?_⟩) (fun c' => ⟨(by first | trivial | rfl | (and_intros <;> rfl)), ?_⟩))⟩, ?_⟩
  · rw [hN, if_pos c]
  · simp only [inK]; omega
  · generalize (nxtD (nxtD (nxtD s 200).2 8).2 1000).1 = k at *
    generalize (nxtD s 200).1 = a at *
    have h5 : (a - 60) * 1000003 ≤ 200000000 ∧ -200000000 ≤ (a - 60) * 1000003 := by omega
    have h6 : ((a - 60) * 1000003 * k).natAbs ≤ 200000000 * 1000 := by rw [Int.natAbs_mul]; exact Nat.mul_le_mul (by omega) (by omega)
    generalize (a - 60) * 1000003 * k = m at *
    simp only [inK]; omega
  · rw [hN, if_neg c, if_pos c']
  · rw [hN, if_neg c, if_neg c']
  rintro num t3_0 t3_1 t3_2 t3_3 t4_0 t4_1 s_1 s_2 s_0 ⟨⟨rfl, rfl, rfl, rfl, rfl, rfl, rfl⟩, hk⟩
  have hk2 : (s.1, s_1, s_2) = (drawN s).2 := by rw [← hk]
  have hk1 : num = (drawN s).1 := by rw [← hk]
  rw [hk2]
  simp only [nxtD_eta, src_eta, nxtD_code, n2]
  refine ⟨⟨n1, by decide⟩, ⟨⟨q1, by decide⟩, bspD (fun c => ⟨⟨q2, by decide⟩, (by first | trivial | rfl | (and_intros <;> rfl)), ?_, hk1⟩) (fun c => ⟨(by first | trivial | rfl | (and_intros <;> rfl)), ?_, hk1⟩)⟩, ?_⟩
  · rw [hP, if_pos c]
  · rw [hP, if_neg c]
  rintro num_1 dep t3_0x1 t3_1x1 t3_2x1 t3_3x1 t4_0x1 t4_1x1 s_1x1 s_2x1 s_0x1 ⟨⟨rfl, rfl, rfl, rfl, rfl, rfl, rfl⟩, ⟨hd, hn⟩⟩
  have hd2 : (s.1, s_1x1, s_2x1) = (drawP (drawN s).2).2 := by rw [← hd]
  have hd1 : dep = (drawP (drawN s).2).1 := by rw [← hd]
  rw [hd2]
  simp only [nxtD_eta, src_eta, nxtD_code, n2, p2]
  simp only [Prod.eta]
  subst hd1 hn
  have out : ∀ r : DExact × DSrc, drawX s v = r → @Eq (HO c_spec_l09DrawExact.outs) (r.1, ()) (c_spec_l09DrawExact.out (s, v, ())) ∧ @Eq (HI c_spec_l09DrawExact.ins) (r.2, v, ()) (c_spec_l09DrawExact.upd (s, v, ())) := fun r h => by
    subst h
    refine ⟨rfl, ?_⟩
    simp only [c_spec_l09DrawExact]
    rw [upd_eta (drawX_ok hs).2]
  have hE := drawE.eq_1 v (drawN s).1 (drawP (drawN s).2).1 (drawP (drawN s).2).2
  have b8 := nxtD_bd p1 3
  have r1 := nxtD_ok p1 24
  have b9 := nxtD_bd r1 3
  refine ⟨trivial, bspD (fun c => ⟨⟨p1, by decide⟩, by simp only [inK]; omega, out _ (hE.trans (if_pos c))⟩) (fun c => ⟨⟨p1, by decide⟩, bspD (fun c' => ⟨⟨r1, by decide⟩, by simp only [inK]; omega, out _ (hE.trans (by rw [if_neg c, if_pos c']))⟩) (fun c' => out _ (hE.trans (by rw [if_neg c, if_neg c'])))⟩)⟩
end Go.Proofs.YtokddngcfkimlaaDoor
