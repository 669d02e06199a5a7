/-
  Expected numbers of rolls: both recursions bring the same; the law.
-/
import Derived.Test.YtoobijimfccfgaaVExpS
import Derived.Test.YtoobijimfccfgaaAbL
namespace Go.Proofs.Ytoobijimfccfgaa
open Go.RowKit
set_option linter.unusedSimpArgs false
set_option linter.unusedVariables false
/-- the same without tables -/
def bestV (V : List Int → DExact × Bool) (v : DVar) : List (List Int) → Option DExact → DExact × Bool
  | [], b => (b.getD (0, 0), true)
  | q :: qs, b => if (V q).2 = false then ((0, 0), false) else bestV V v qs (match b with | none => some (V q).1 | some l => if cmpD v (V q).1 l < 0 then some (V q).1 else some l)
def rollsV (V : List Int → DExact × Bool) (v : DVar) (p : List Int) : List DRoll → List DExact → List DExact × Bool
  | [], vs => (vs, true)
  | r :: rs, vs => if (bestV V v (resP p r) none).2 = false then ([], false) else rollsV V v p rs (vs ++ [(bestV V v (resP p r) none).1])
def valE (v : DVar) : Nat → List Int → DExact × Bool
  | 0, _ => ((0, 0), true)
  | n + 1, p => if p.sum = 0 then ((0, 0), true) else finE v (rollsV (valE v n) v p (rollsTo v.2.2.2.toNat) [])
theorem bestV_congr {V V' : List Int → DExact × Bool} {v : DVar} : ∀ {qs : List (List Int)} {b : Option DExact}, (∀ q, q ∈ qs → V q = V' q) → bestV V v qs b = bestV V' v qs b
  | [], _, _ => rfl
  | q :: qs, b, h => by
    have h1 := h q (by simp)
    simp only [bestV]
    rw [h1, bestV_congr fun x hx => h x (List.mem_cons_of_mem _ hx)]
theorem rollsV_congr {V V' : List Int → DExact × Bool} {v : DVar} {p : List Int} : ∀ {rs : List DRoll} {vs : List DExact}, (∀ r, r ∈ rs → ∀ q, q ∈ resP p r → V q = V' q) → rollsV V v p rs vs = rollsV V' v p rs vs
  | [], _, _ => rfl
  | r :: rs, vs, h => by
    simp only [rollsV]
    rw [bestV_congr (h r (by simp)), rollsV_congr fun x hx => h x (List.mem_cons_of_mem _ hx)]
theorem pips_zero {v : DVar} {p : List Int} (hv : varD v = true) (hb : bearD v p = true) (h : wS pw p p.length ≤ 0) : p.sum = 0 := by
  apply Decidable.byContradiction
  intro hs
  have := pips_pos hv hb hs
  omega
/-- more fuel than pips does not matter -/
theorem valE_fuel {v : DVar} (hv : varD v = true) : ∀ (n m : Nat) (p : List Int), bearD v p = true → wS pw p p.length ≤ (n : Int) → wS pw p p.length ≤ (m : Int) → valE v n p = valE v m p
  | 0, 0, _, _, _, _ => rfl
  | 0, m + 1, p, hb, h, _ => by simp only [valE]; rw [if_pos (pips_zero hv hb (by omega))]
  | n + 1, 0, p, hb, _, h => by simp only [valE]; rw [if_pos (pips_zero hv hb (by omega))]
  | n + 1, m + 1, p, hb, h1, h2 => by
    simp only [valE]
    by_cases hs : p.sum = 0
    · rw [if_pos hs, if_pos hs]
    · rw [if_neg hs, if_neg hs, rollsV_congr fun r hr q hq => ?_]
      obtain ⟨k1, k2, k3, -⟩ := bear_next hv hb (rolls_ok hv hr) hq
      have := k3 hs
      exact valE_fuel hv n m q k1 (by omega) (by omega)
/-- what the program's table says is right -/
def SoundI (v : DVar) (T : MI) : Prop := ∀ p, bearD v p = true → p.sum ≠ 0 → ∀ x, mget tI (keyP v p) T.1 = some x → ∀ n : Nat, wS pw p p.length ≤ (n : Int) → valE v n p = (x, !(mget tI (keyP v p) T.2).getD false)
theorem bestI_val {v : DVar} {E : MI → List Int → (DExact × Bool) × MI} {V : List Int → DExact × Bool} : ∀ (qs : List (List Int)) (b : List Int × DExact) (ob : Option DExact) (T : MI), (∀ q, q ∈ qs → q.length ≠ 0 ∧ ∀ T, SoundI v T → (E T q).1 = V q ∧ SoundI v (E T q).2) → SoundI v T →
    ((b.1 = [] ∧ ob = none ∧ b.2 = (0, 0)) ∨ (b.1 ≠ [] ∧ ob = some b.2)) → (bestI E v qs b T).1.2 = bestV V v qs ob ∧ SoundI v (bestI E v qs b T).2
  | [], b, ob, T, _, hT, hb => by
    refine ⟨?_, hT⟩
    simp only [bestI, bestV]
    rcases hb with ⟨_, rfl, e⟩ | ⟨_, rfl⟩
    · rw [e]; rfl
    · rfl
  | q :: qs, b, ob, T, hq, hT, hb => by
    obtain ⟨hne, hE⟩ := hq q (by simp)
    obtain ⟨e1, e2⟩ := hE T hT
    have hq0 : q ≠ [] := fun e => hne (by rw [e]; rfl)
    simp only [bestI, bestV]
    rw [e1]
    split
    · exact ⟨rfl, e2⟩
    · refine bestI_val qs _ _ _ (fun x hx => hq x (List.mem_cons_of_mem _ hx)) e2 ?_
      rcases hb with ⟨b1, rfl, b2⟩ | ⟨b1, rfl⟩
      · rw [if_pos (.inl b1)]; exact .inr ⟨hq0, rfl⟩
      · by_cases hc : cmpD v (V q).1 b.2 < 0
        · rw [if_pos (.inr hc)]; dsimp only; rw [if_pos hc]; exact .inr ⟨hq0, rfl⟩
        · rw [if_neg (fun h => h.elim b1 hc)]; dsimp only; rw [if_neg hc]; exact .inr ⟨b1, rfl⟩
theorem rollsI_val {v : DVar} {E : MI → List Int → (DExact × Bool) × MI} {V : List Int → DExact × Bool} {p : List Int} (hp : ∀ r, rollD v r = true → implRes p r = resP p r ∧ ∀ q, q ∈ resP p r → q.length ≠ 0 ∧ ∀ T, SoundI v T → (E T q).1 = V q ∧ SoundI v (E T q).2) :
    ∀ (rs : List DRoll) (vs : List DExact) (T : MI), (∀ r, r ∈ rs → rollD v r = true) → SoundI v T → (rollsI E v p rs vs T).1 = rollsV V v p rs vs ∧ SoundI v (rollsI E v p rs vs T).2
  | [], vs, T, _, hT => ⟨rfl, hT⟩
  | r :: rs, vs, T, hr, hT => by
    obtain ⟨h1, h2⟩ := hp r (hr r (by simp))
    obtain ⟨e1, e2⟩ := bestI_val (resP p r) ([], (0, 0)) none T h2 hT (.inl ⟨rfl, rfl, rfl⟩)
    simp only [rollsI, rollsV]
    rw [h1, e1]
    split
    · exact ⟨rfl, e2⟩
    · exact rollsI_val hp rs _ _ (fun x hx => hr x (List.mem_cons_of_mem _ hx)) e2
theorem expI_val {v : DVar} (hv : varD v = true) : ∀ (n : Nat) (T : MI) (p : List Int), bearD v p = true → wS pw p p.length ≤ (n : Int) → SoundI v T → (expI v n T p).1 = valE v n p ∧ SoundI v (expI v n T p).2
  | 0, T, p, _, _, hT => ⟨rfl, hT⟩
  | n + 1, T, p, hb, hn, hT => by
    simp only [expI, valE]
    by_cases hs : p.sum = 0
    · rw [if_pos hs, if_pos hs]; exact ⟨rfl, hT⟩
    rw [if_neg hs, if_neg hs]
    have hR := rollsI_val (E := expI v n) (V := valE v n) (p := p) (fun r hr => by
      have hR := bear_res hv hb hr
      refine ⟨implRes_eq hR.ok hR.lo hR.mid, fun q hq => ?_⟩
      obtain ⟨k1, k2, k3, k4, -⟩ := bear_next hv hb hr hq
      have := k3 hs
      exact ⟨k4, fun T hT => expI_val hv n T q k1 (by omega) hT⟩) (rollsTo v.2.2.2.toNat) [] T (fun r hr => rolls_ok hv hr) hT
    split
    · next hk =>
      obtain ⟨x, hx⟩ := Option.isSome_iff_exists.1 hk
      have := hT p hb hs x hx (n + 1) hn
      simp only [valE] at this
      rw [if_neg hs] at this
      rw [hx]
      exact ⟨this.symm, hT⟩
    · refine ⟨by simp only [compI]; rw [hR.1], fun p' hb' hs' x hx m hm => ?_⟩
      simp only [mgetI_mset] at hx ⊢
      by_cases hkk : keyP v p' = keyP v p
      · have he := key_inj hv hb' hb hkk
        subst he
        rw [if_pos rfl] at hx ⊢
        cases hx
        have hval : valE v (n + 1) p' = (compI (expI v n) v p' T).1 := by
          simp only [valE, compI]
          rw [if_neg hs, hR.1]
        rw [valE_fuel hv m (n + 1) p' hb' hm hn, hval]
        simp
      · rw [if_neg hkk] at hx ⊢
        exact hR.2 p' hb' hs' x hx m hm
/-- what the reference's table says is right -/
def SoundS (v : DVar) (T : MS) : Prop := OkMS v T ∧ ∀ p, bearD v p = true → p.sum ≠ 0 → T.1.getD (keyP v p).toNat false = true → ∀ n : Nat, wS pw p p.length ≤ (n : Int) → valE v n p = (T.2.getD (keyP v p).toNat (0, 0), true)
theorem bestS_val {v : DVar} {E : MS → List Int → (DExact × Bool) × MS} {V : List Int → DExact × Bool} : ∀ (qs : List (List Int)) (i : Int) (b : Int × DExact) (ob : Option DExact) (T : MS), (∀ q, q ∈ qs → ∀ T, SoundS v T → (E T q).1 = V q ∧ SoundS v (E T q).2) → SoundS v T → 0 ≤ i →
    ((i = 0 ∧ ob = none ∧ b.2 = (0, 0)) ∨ (i ≠ 0 ∧ ob = some b.2)) → (bestS E v qs i b T).1.2 = bestV V v qs ob ∧ SoundS v (bestS E v qs i b T).2
  | [], i, b, ob, T, _, hT, _, hb => by
    refine ⟨?_, hT⟩
    simp only [bestS, bestV]
    rcases hb with ⟨_, rfl, e⟩ | ⟨_, rfl⟩
    · rw [e]; rfl
    · rfl
  | q :: qs, i, b, ob, T, hq, hT, hi, hb => by
    obtain ⟨e1, e2⟩ := hq q (by simp) T hT
    simp only [bestS, bestV]
    rw [e1]
    split
    · exact ⟨rfl, e2⟩
    · refine bestS_val qs (i + 1) _ _ _ (fun x hx => hq x (List.mem_cons_of_mem _ hx)) e2 (by omega) (.inr ⟨by omega, ?_⟩)
      rcases hb with ⟨b1, rfl, b2⟩ | ⟨b1, rfl⟩
      · rw [if_pos (.inl b1)]
      · by_cases hc : cmpD v (V q).1 b.2 < 0
        · rw [if_pos (.inr hc)]; dsimp only; rw [if_pos hc]
        · rw [if_neg (fun h => h.elim b1 hc)]; dsimp only; rw [if_neg hc]
theorem rollsS_val {v : DVar} {E : MS → List Int → (DExact × Bool) × MS} {V : List Int → DExact × Bool} {p : List Int} (hp : ∀ r, rollD v r = true → specRes p r = resP p r ∧ ∀ q, q ∈ resP p r → ∀ T, SoundS v T → (E T q).1 = V q ∧ SoundS v (E T q).2) :
    ∀ (rs : List DRoll) (vs : List DExact) (T : MS), (∀ r, r ∈ rs → rollD v r = true) → SoundS v T → (rollsS E v p rs vs T).1 = rollsV V v p rs vs ∧ SoundS v (rollsS E v p rs vs T).2
  | [], vs, T, _, hT => ⟨rfl, hT⟩
  | r :: rs, vs, T, hr, hT => by
    obtain ⟨h1, h2⟩ := hp r (hr r (by simp))
    obtain ⟨e1, e2⟩ := bestS_val (resP p r) 0 (0, (0, 0)) none T h2 hT (by omega) (.inl ⟨rfl, rfl, rfl⟩)
    simp only [rollsS, rollsV]
    rw [h1, e1]
    split
    · exact ⟨rfl, e2⟩
    · exact rollsS_val hp rs _ _ (fun x hx => hr x (List.mem_cons_of_mem _ hx)) e2
theorem expS_val {v : DVar} (hv : varD v = true) : ∀ (n : Nat) (T : MS) (p : List Int), bearD v p = true → wS pw p p.length ≤ (n : Int) → SoundS v T → (expS v n T p).1 = valE v n p ∧ SoundS v (expS v n T p).2
  | 0, T, p, _, _, hT => ⟨rfl, hT⟩
  | n + 1, T, p, hb, hn, hT => by
    simp only [expS, valE]
    by_cases hs : p.sum = 0
    · rw [if_pos ((key_zero hv hb).2 hs), if_pos hs]; exact ⟨rfl, hT⟩
    have hk0 : ¬ keyP v p = 0 := fun e => hs ((key_zero hv hb).1 e)
    rw [if_neg hk0, if_neg hs]
    have hR := rollsS_val (E := expS v n) (V := valE v n) (p := p) (fun r hr => by
      have hR := bear_res hv hb hr
      refine ⟨specRes_eq hR.ok hR.lo hR.mid, fun q hq T hT => ?_⟩
      obtain ⟨k1, k2, k3, k4, -⟩ := bear_next hv hb hr hq
      have := k3 hs
      exact expS_val hv n T q k1 (by omega) hT) (rollsTo v.2.2.2.toNat) [] T (fun r hr => rolls_ok hv hr) hT
    split
    · next hk =>
      have := hT.2 p hb hs hk (n + 1) hn
      simp only [valE] at this
      rw [if_neg hs] at this
      exact ⟨this.symm, hT⟩
    · have hF := finE_ok (v := v) (c := (rollsS (expS v n) v p (rollsTo v.2.2.2.toNat) [] T).1)
      unfold tabS
      by_cases hf : (finE v (rollsS (expS v n) v p (rollsTo v.2.2.2.toNat) [] T).1).2 = false
      · rw [if_pos hf]
        refine ⟨?_, hR.2⟩
        have := hF.2 hf
        rw [← hR.1]
        exact Prod.ext this.symm hf.symm
      · rw [if_neg hf]
        have hf1 : (finE v (rollsS (expS v n) v p (rollsTo v.2.2.2.toNat) [] T).1).2 = true := by simpa using hf
        refine ⟨by rw [hR.1], hR.2.1.set hF.1, fun p' hb' hs' hx m hm => ?_⟩
        obtain ⟨_, y1⟩ := numE_key hv hb
        have l1 := hR.2.1.l1
        have l2 := hR.2.1.l2
        by_cases hkk : keyP v p' = keyP v p
        · have he := key_inj hv hb' hb hkk
          subst he
          rw [valE_fuel hv m (n + 1) p' hb' hm hn]
          simp only [valE]
          rw [if_neg hs, ← hR.1, List.getD_eq_getElem?_getD, List.getElem?_set_self (by omega), Option.getD_some, ← hf1]
        · have hne : (keyP v p).toNat ≠ (keyP v p').toNat := fun e => hkk (by have := (numE_key hv hb).1; have := (numE_key hv hb').1; omega)
          rw [List.getD_eq_getElem?_getD, List.getElem?_set_ne hne, ← List.getD_eq_getElem?_getD] at hx ⊢
          exact hR.2.2 p' hb' hs' hx m hm
def fuelN : Nat := 8640
theorem wS_pips {p : List Int} (h : OkP p.length p) : ∀ k, k ≤ 24 → 0 ≤ wS pw p k ∧ wS pw p k ≤ 360 * (k : Int)
  | 0, _ => by simp [wS]
  | k + 1, hk => by
    have ih := wS_pips h k (by omega)
    have hb := h.le k
    have e : pw k * p.getD k 0 = (k : Int) * p.getD k 0 + p.getD k 0 := by simp only [pw, Int.add_mul, Int.one_mul]
    have h1 : 0 ≤ (k : Int) * p.getD k 0 := Int.mul_nonneg (by omega) hb.1
    have h2 : (k : Int) * p.getD k 0 ≤ (k : Int) * 15 := Int.mul_le_mul_of_nonneg_left hb.2 (by omega)
    simp only [wS, e]
    omega
theorem pips_fuel {v : DVar} {p : List Int} (hv : varD v = true) (hb : bearD v p = true) : wS pw p p.length ≤ (fuelN : Int) := by
  obtain ⟨h1, h2, h3, -⟩ := bear_ok hv hb
  have := (wS_pips h1 p.length h3).2
  unfold fuelN
  omega
def tabD (v : DVar) : List (List Int) → Int
  | [] => if varD v = false then 1 else if countD v < 0 ∨ 500 < countD v then 3 else 0
  | p :: l => if codeP v p ≠ 0 then codeP v p else tabD v l
def expRD (v : DVar) (p : List Int) : DExact × Int :=
  if codeP v p ≠ 0 then ((0, 0), codeP v p) else if inB (countD v) 0 500 = false then ((0, 0), 3)
  else if (valE v fuelN p).2 = false then ((0, 0), 3) else ((valE v fuelN p).1, 0)
theorem tabD_one (v : DVar) (p : List Int) : tabD v [p] = if codeP v p ≠ 0 then codeP v p else if inB (countD v) 0 500 = false then 3 else 0 := by
  simp only [tabD]
  by_cases h : codeP v p ≠ 0
  · rw [if_pos h, if_pos h]
  · rw [if_neg h, if_neg h]
    have hv : ¬ varD v = false := fun e => h (by unfold codeP; rw [if_pos e]; decide)
    rw [if_neg hv]
    by_cases hc : countD v < 0 ∨ 500 < countD v
    · rw [if_pos hc, if_pos (by simp only [inB, Bool.and_eq_false_iff, decide_eq_false_iff_not]; omega)]
    · rw [if_neg hc, if_neg (by simp only [inB, Bool.and_eq_false_iff, decide_eq_false_iff_not]; omega)]
theorem codeP_ok {v : DVar} {p : List Int} (h : codeP v p = 0) : varD v = true ∧ bearD v p = true := by
  unfold codeP at h
  split at h
  · exact absurd h (by decide)
  next h1 =>
  split at h
  · exact absurd h (by decide)
  next h2 => exact ⟨by simpa using h1, by simpa using h2⟩
theorem soundI_nil (v : DVar) : SoundI v ([], []) := fun p _ _ x hx => by simp [mget] at hx
theorem soundS_nil {v : DVar} {k : Nat} (h : k = chs v.2.1.toNat v.2.2.1.toNat) : SoundS v (List.replicate k false, List.replicate k (0, 0)) := by
  refine ⟨⟨by simp [h], by simp [h], fun i => ?_⟩, fun p _ _ hx => ?_⟩
  · rw [List.getD_eq_getElem?_getD, List.getElem?_replicate]; split <;> exact exD_zero _
  · rw [List.getD_eq_getElem?_getD, List.getElem?_replicate] at hx
    split at hx <;> cases hx
def c_impl_newOnesided : Con where
  ins := [(true, .v tVar), (false, .v .b)]
  outs := [(false, .bo (.pr (.v tVar) (.pr (.v .b) (.pr (.mp true tI tRoll) (.mp false tI .b)))))]
  sh := false
  pre := fun _ => True
  out := fun x => ((x.1, x.2.1, ([] : List (Int × Int × Int)), ([] : List (Int × Bool))), ())
  upd := fun x => x
  eat := false
theorem k_impl_newOnesided [B : Base] : ConOk Try.prog 14 c_impl_newOnesided := by
  refine fn_okW (C := cx Try.prog 11 c_impl_newOnesided) (cs := []) (res := Try.f14.results.toList) (fun _ => ⟨[], [], []⟩) Try.func14 (by kernel_rfl) rfl rfl rfl tysOk.look eqTsOk.look (AllCs.ok (l := []) trivial) mixed rfl rfl rfl rfl ?_
  refine @of_nf (∀ v : Int × Int × Int × Int, ∀ g : Bool, (True) → ((lensI c_impl_newOnesided.ins (v, g, ())) → (@Eq (HO c_impl_newOnesided.outs) ((v, g, ([] : List (Int × Int × Int)), ([] : List (Int × Bool))), ()) (c_impl_newOnesided.out (v, g, ()))))) _ (by kernel_rfl) ?_
  rintro v g hp hl
  rfl
def c_impl_checkTable : Con where
  ins := [(true, .v tVar), (false, .v (.sl tSI))]
  outs := [(false, .v tI)]
  sh := false
  pre := fun _ => True
  out := fun x => (tabD x.1 x.2.1, ())
  upd := fun x => x
  eat := false
theorem k_impl_checkTable [B : Base] : ConOk Try.prog 13 c_impl_checkTable := by
  refine fn_okW (C := cx Try.prog 33 c_impl_checkTable) (cs := [(26, c_impl_checkBearoff), (27, c_impl_IsVariant), (28, c_impl_BearoffCount)]) (res := Try.f13.results.toList) (fun x => ⟨[{ sh := ⟨[(2, .one (.ref 0)), (9, .one (.ref 1)), (10, .one (.i .i64)), (11, .one (.i .i64))], [(0, .box [.i .i64, .i .i64, .i .i64, .i .i64]), (1, .imm tSI false)]⟩, nx := 2, I := fun _ dat_ => ((x.2.1.length : Int) = dat_.1.2.2.1 ∧ x.1.1 = dat_.2.1.1 ∧ x.1.2.1 = dat_.2.1.2.1 ∧ x.1.2.2.1 = dat_.2.1.2.2.1 ∧ x.1.2.2.2 = dat_.2.1.2.2.2.1 ∧ x.2.1 = dat_.2.2.1) ∧ (tabD x.1 (List.drop (Int.toNat dat_.1.2.2.2.1) x.2.1) = tabD x.1 x.2.1 ∧ 0 ≤ dat_.1.2.2.2.1 ∧ dat_.1.2.2.2.1 ≤ (List.length x.2.1 : Int)), mu := fun dat_ => Int.toNat ((List.length x.2.1 : Int) - dat_.1.2.2.2.1) }], [], []⟩) Try.func13 (by kernel_rfl) rfl rfl rfl tysOk.look eqTsOk.look (AllCs.ok (l := [(26, c_impl_checkBearoff), (27, c_impl_IsVariant), (28, c_impl_BearoffCount)]) ⟨k_impl_checkBearoff, k_impl_IsVariant, k_impl_BearoffCount, trivial⟩) mixed rfl rfl rfl rfl ?_
  refine of_nf (P := ∀ v : Int × Int × Int × Int, ∀ l : List (List Int), (True) → ((lensI c_impl_checkTable.ins (v, l, ())) → ((((l.length : Int) = (l.length : Int) ∧ v.1 = v.1 ∧ v.2.1 = v.2.1 ∧ v.2.2.1 = v.2.2.1 ∧ v.2.2.2 = v.2.2.2 ∧ l = l) ∧ (tabD v (List.drop (Int.toNat (0 : Int)) l) = tabD v l ∧ 0 ≤ (0 : Int) ∧ (0 : Int) ≤ (List.length l : Int))) ∧ (∀ m : Int, ∀ i : Int, ∀ t2_0 : Int, ∀ t2_1 : Int, ∀ t2_2 : Int, ∀ t2_3 : Int, ∀ ll : List (List Int), (((l.length : Int) = m ∧ v.1 = t2_0 ∧ v.2.1 = t2_1 ∧ v.2.2.1 = t2_2 ∧ v.2.2.2 = t2_3 ∧ l = ll) ∧ (tabD v (List.drop (Int.toNat i) l) = tabD v l ∧ 0 ≤ i ∧ i ≤ (List.length l : Int))) → (bsp (decide (i < m)) ((0 ≤ i ∧ i < (ll.length : Int)) ∧ ((i.toNat < ll.length) ∧ (True ∧ (bsp (decide ((codeP (t2_0, t2_1, t2_2, t2_3) (ll.getD i.toNat [])) ≠ (0 : Int))) (@Eq (HO c_impl_checkTable.outs) (codeP (t2_0, t2_1, t2_2, t2_3) (ll.getD i.toNat []), ()) (c_impl_checkTable.out (v, l, ()))) ((inK .i64 (i + 1)) ∧ ((((l.length : Int) = m ∧ v.1 = t2_0 ∧ v.2.1 = t2_1 ∧ v.2.2.1 = t2_2 ∧ v.2.2.2 = t2_3 ∧ l = ll) ∧ (tabD v (List.drop (Int.toNat (i + 1)) l) = tabD v l ∧ 0 ≤ (i + 1) ∧ (i + 1) ≤ (List.length l : Int))) ∧ ((Int.toNat ((List.length l : Int) - (i + 1)) : Nat) < Int.toNat ((List.length l : Int) - i)))))))) (True ∧ (bsp (!(varD (t2_0, t2_1, t2_2, t2_3))) (@Eq (HO c_impl_checkTable.outs) (1, ()) (c_impl_checkTable.out (v, l, ()))) (True ∧ (bsp (decide ((countD (t2_0, t2_1, t2_2, t2_3)) < (0 : Int))) (@Eq (HO c_impl_checkTable.outs) (3, ()) (c_impl_checkTable.out (v, l, ()))) (bsp (decide ((500 : Int) < (countD (t2_0, t2_1, t2_2, t2_3)))) (@Eq (HO c_impl_checkTable.outs) (3, ()) (c_impl_checkTable.out (v, l, ()))) (@Eq (HO c_impl_checkTable.outs) (0, ()) (c_impl_checkTable.out (v, l, ()))))))))))))) (by kernel_rfl) ?_
  rintro v l hp hl
  have hlen : l.length ≤ 9223372036854775807 := hl.2.1.1
  have out : ∀ c, tabD v l = c → @Eq (HO c_impl_checkTable.outs) (c, ()) (c_impl_checkTable.out (v, l, ())) := fun c h => by subst h; rfl
  refine ⟨⟨(by first | trivial | rfl | (and_intros <;> rfl)), rfl, by omega, by omega⟩, ?_⟩
  rintro m i t2_0 t2_1 t2_2 t2_3 ll ⟨⟨rfl, rfl, rfl, rfl, rfl, rfl⟩, ⟨hT, i0, i1⟩⟩
  simp only [Prod.eta]
  refine bspD (fun hlt => ?_) (fun hge => ?_)
  · obtain ⟨k, rfl⟩ : ∃ k : Nat, i = k := ⟨i.toNat, by omega⟩
    simp only [Int.toNat_natCast] at hT ⊢
    rw [drop_consX (l := l) (k := k) (by omega) []] at hT
    simp only [tabD] at hT
    refine ⟨⟨by omega, by omega⟩, by omega, trivial, bspD (fun h => out _ (hT.symm.trans (if_pos h))) (fun h => ⟨by simp only [inK]; omega, ⟨(by first | trivial | rfl | (and_intros <;> rfl)), ?_, by omega, by omega⟩, by omega⟩)⟩
    rw [if_neg h] at hT
    rw [show ((k : Int) + 1).toNat = k + 1 by omega]
    exact hT
  · rw [List.drop_eq_nil_of_le (by omega)] at hT
    simp only [tabD] at hT
    refine ⟨trivial, bspB (fun h => out _ (hT.symm.trans (if_pos (by simpa using h)))) (fun h => ?_)⟩
    have h1 : ¬ varD v = false := by simpa using h
    rw [if_neg h1] at hT
    exact ⟨trivial, bspD (fun g => out _ (hT.symm.trans (if_pos (.inl g)))) (fun g => bspD (fun k => out _ (hT.symm.trans (if_pos (.inr k)))) (fun k => out _ (hT.symm.trans (if_neg (fun x => x.elim g k)))))⟩
def c_impl_ExpectedRolls : Con where
  ins := [(true, .v tVar), (false, .v tSI)]
  outs := [(true, .v tRoll), (false, .v tI)]
  sh := false
  pre := fun _ => True
  out := fun x => ((expRD x.1 x.2.1).1, (expRD x.1 x.2.1).2, ())
  upd := fun x => x
  eat := false
theorem k_impl_ExpectedRolls [B : Base] : ConOk Try.prog 7 c_impl_ExpectedRolls := by
  refine fn_okW (C := cx Try.prog 28 c_impl_ExpectedRolls) (cs := [(13, c_impl_checkTable), (14, c_impl_newOnesided), (15, (c__impl_onesided_expected fuelN))]) (res := Try.f7.results.toList) (fun _ => ⟨[], [], []⟩) Try.func7 (by kernel_rfl) rfl rfl rfl tysOk.look eqTsOk.look (AllCs.ok (l := [(13, c_impl_checkTable), (14, c_impl_newOnesided), (15, (c__impl_onesided_expected fuelN))]) ⟨k_impl_checkTable, k_impl_newOnesided, (k_one fuelN), trivial⟩) mixed rfl rfl rfl rfl ?_
  refine of_nf (P := ∀ v : Int × Int × Int × Int, ∀ p : List Int, (True) → ((lensI c_impl_ExpectedRolls.ins (v, p, ())) → (True ∧ (bsp (decide ((tabD v [p]) ≠ (0 : Int))) (@Eq (HO c_impl_ExpectedRolls.outs) ((0, 0), tabD v [p], ()) (c_impl_ExpectedRolls.out (v, p, ()))) (True ∧ ((PreI fuelN (v, false, ([] : List (Int × Int × Int)), ([] : List (Int × Bool))) p) ∧ (bsp (!(exI fuelN (v, false, ([] : List (Int × Int × Int)), ([] : List (Int × Bool))) p).1.2) (@Eq (HO c_impl_ExpectedRolls.outs) ((0, 0), 3, ()) (c_impl_ExpectedRolls.out (v, p, ()))) (@Eq (HO c_impl_ExpectedRolls.outs) ((exI fuelN (v, false, ([] : List (Int × Int × Int)), ([] : List (Int × Bool))) p).1.1, 0, ()) (c_impl_ExpectedRolls.out (v, p, ())))))))))) (by kernel_rfl) ?_
  rintro v p hp hl
  have out : ∀ r, expRD v p = r → @Eq (HO c_impl_ExpectedRolls.outs) (r.1, r.2, ()) (c_impl_ExpectedRolls.out (v, p, ())) := fun r h => by subst h; rfl
  have hD := expRD.eq_1 v p
  rw [tabD_one]
  refine ⟨trivial, bspD (fun h => ?_) (fun h => ?_)⟩
  · by_cases hc : codeP v p ≠ 0
    · rw [if_pos hc] at hD ⊢
      exact out _ hD
    · rw [if_neg hc] at h hD ⊢
      by_cases hi : inB (countD v) 0 500 = false
      · rw [if_pos hi] at hD ⊢
        exact out _ hD
      · rw [if_neg hi] at h; exact absurd rfl h
  · by_cases hc : codeP v p ≠ 0
    · rw [if_pos hc] at h; exact absurd hc h
    rw [if_neg hc] at h hD
    by_cases hi : inB (countD v) 0 500 = false
    · rw [if_pos hi] at h; exact absurd (by decide) h
    rw [if_neg hi] at hD
    obtain ⟨hv, hb⟩ := codeP_ok (Decidable.not_not.1 hc)
    have hp := pips_fuel hv hb
    have hval := (expI_val hv fuelN ([], []) p hb hp (soundI_nil v)).1
    have e : (exI fuelN (v, false, [], []) p).1 = valE v fuelN p := hval
    rw [e]
    refine ⟨trivial, ⟨hv, rfl, hb, fun k x hx => by simp [mget] at hx, hp⟩, bspB (fun hf => out ((0, 0), 3) (hD.trans (if_pos (by simpa using hf)))) (fun hf => out (_, 0) (hD.trans (if_neg (by simpa using hf))))⟩
def c_spec_l11New : Con where
  ins := [(true, .v tVar), (false, .v .b)]
  outs := [(false, .bo (.pr (.v tVar) (.pr (.own 4 .b) (.pr (.own 26 tRoll) (.v .b)))))]
  sh := false
  pre := fun x => varD x.1 = true ∧ chs (Int.toNat x.1.2.1) (Int.toNat x.1.2.2.1) ≤ 1000000
  out := fun x => ((x.1, List.replicate (Int.toNat (ways (Int.toNat x.1.2.1) (Int.toNat x.1.2.2.1))) false, List.replicate (Int.toNat (ways (Int.toNat x.1.2.1) (Int.toNat x.1.2.2.1))) ((0, 0) : Int × Int), x.2.1), ())
  upd := fun x => x
  eat := false
theorem k_spec_l11New [B : Base] : ConOk Try.prog 12 c_spec_l11New := by
  refine fn_okW (C := cx Try.prog 19 c_spec_l11New) (cs := [(25, c_spec_l10Ways)]) (res := Try.f12.results.toList) (fun _ => ⟨[], [(2, ⟨[[], [], [1], [], [3], [], [0, 1, 2, 3, 4, 5], [0, 1, 2, 3, 4, 5, 6], [0, 1, 2, 3, 4, 5, 6, 7]], [[1, 2, 3, 4, 5], [0, 3, 4, 5], [0, 3, 4, 5], [0, 1, 2, 5], [0, 1, 2, 5], [0, 1, 2, 3, 4], [], [], []], []⟩)], []⟩) Try.func12 (by kernel_rfl) rfl rfl rfl tysOk.look eqTsOk.look (AllCs.ok (l := [(25, c_spec_l10Ways)]) ⟨k_spec_l10Ways, trivial⟩) mixed rfl rfl rfl rfl ?_
  refine of_nf (P := ∀ v : Int × Int × Int × Int, ∀ g : Bool, (varD v = true ∧ chs (Int.toNat v.2.1) (Int.toNat v.2.2.1) ≤ 1000000) → ((lensI c_spec_l11New.ins (v, g, ())) → (((0 ≤ v.2.2.1 ∧ v.2.2.1 ≤ 25) ∧ 0 ≤ v.2.1 ∧ v.2.1 ≤ 15) ∧ ((0 ≤ (ways (Int.toNat v.2.1) (Int.toNat v.2.2.1)) ∧ (ways (Int.toNat v.2.1) (Int.toNat v.2.2.1)) ≤ (ways (Int.toNat v.2.1) (Int.toNat v.2.2.1)) ∧ (ways (Int.toNat v.2.1) (Int.toNat v.2.2.1)) ≤ 1099511627776) ∧ ((0 ≤ (ways (Int.toNat v.2.1) (Int.toNat v.2.2.1)) ∧ (ways (Int.toNat v.2.1) (Int.toNat v.2.2.1)) ≤ (ways (Int.toNat v.2.1) (Int.toNat v.2.2.1)) ∧ (ways (Int.toNat v.2.1) (Int.toNat v.2.2.1)) ≤ 1099511627776) ∧ (@Eq (HO c_spec_l11New.outs) ((v, (List.replicate (ways (Int.toNat v.2.1) (Int.toNat v.2.2.1)).toNat (false : Bool)), (List.replicate (ways (Int.toNat v.2.1) (Int.toNat v.2.2.1)).toNat ((0, 0) : (Int × Int))), g), ()) (c_spec_l11New.out (v, g, ())))))))) (by kernel_rfl) ?_
  rintro v g ⟨hv, hc⟩ hl
  have hw : ways v.2.1.toNat v.2.2.1.toNat = (chs v.2.1.toNat v.2.2.1.toNat : Int) := by unfold ways; rw [if_pos hc]
  obtain ⟨⟨g1, g1'⟩, ⟨g2, g2'⟩, ⟨g3, g3'⟩, g4⟩ := varD_iff.1 hv
  have h0 : 0 ≤ ways v.2.1.toNat v.2.2.1.toNat ∧ ways v.2.1.toNat v.2.2.1.toNat ≤ 1000000 := by rw [hw]; omega
  exact ⟨⟨⟨by omega, by omega⟩, by omega, by omega⟩, ⟨h0.1, Int.le_refl _, by omega⟩, ⟨h0.1, Int.le_refl _, by omega⟩, rfl⟩
def c_spec_l11Code : Con where
  ins := [(true, .v tVar), (false, .v tSI)]
  outs := [(false, .v tI)]
  sh := false
  pre := fun _ => True
  out := fun x => ((if codeP x.1 x.2.1 ≠ 0 then codeP x.1 x.2.1 else if inB (countD x.1) 0 500 = false then 3 else 0), ())
  upd := fun x => x
  eat := false
theorem k_spec_l11Code [B : Base] : ConOk Try.prog 10 c_spec_l11Code := by
  refine fn_okW (C := cx Try.prog 18 c_spec_l11Code) (cs := [(16, c_spec_l10Code), (18, c_spec_BearoffCount), (17, c_spec_l01In)]) (res := Try.f10.results.toList) (fun _ => ⟨[], [], []⟩) Try.func10 (by kernel_rfl) rfl rfl rfl tysOk.look eqTsOk.look (AllCs.ok (l := [(16, c_spec_l10Code), (18, c_spec_BearoffCount), (17, c_spec_l01In)]) ⟨k_spec_l10Code, k_spec_BearoffCount, k_spec_l01In, trivial⟩) mixed rfl rfl rfl rfl ?_
  refine of_nf (P := ∀ v : Int × Int × Int × Int, ∀ p : List Int, (True) → ((lensI c_spec_l11Code.ins (v, p, ())) → (True ∧ (bsp (decide ((codeP v p) = (0 : Int))) (True ∧ (True ∧ (bsp (!(inB (countD v) (0 : Int) (500 : Int))) (@Eq (HO c_spec_l11Code.outs) (3, ()) (c_spec_l11Code.out (v, p, ()))) (@Eq (HO c_spec_l11Code.outs) (codeP v p, ()) (c_spec_l11Code.out (v, p, ())))))) (@Eq (HO c_spec_l11Code.outs) (codeP v p, ()) (c_spec_l11Code.out (v, p, ()))))))) (by kernel_rfl) ?_
  rintro v p hp hl
  have out : ∀ r : Int, (if codeP v p ≠ 0 then codeP v p else if inB (countD v) 0 500 = false then 3 else 0) = r → @Eq (HO c_spec_l11Code.outs) (r, ()) (c_spec_l11Code.out (v, p, ())) := fun r h => by subst h; rfl
  refine ⟨trivial, bspD (fun h => ⟨trivial, trivial, bspB (fun g => ?_) (fun g => ?_)⟩) (fun h => out _ (if_pos h))⟩
  · exact out _ (by rw [if_neg (fun x => x h), if_pos (by simpa using g)])
  · exact out _ (by rw [if_neg (fun x => x h), if_neg (by simpa using g), h])
def c_spec_ExpectedRolls : Con where
  ins := [(true, .v tVar), (false, .v tSI)]
  outs := [(true, .v tRoll), (false, .v tI)]
  sh := false
  pre := fun _ => True
  out := fun x => ((expRD x.1 x.2.1).1, (expRD x.1 x.2.1).2, ())
  upd := fun x => x
  eat := false
theorem k_spec_ExpectedRolls [B : Base] : ConOk Try.prog 4 c_spec_ExpectedRolls := by
  refine fn_okW (C := cx Try.prog 27 c_spec_ExpectedRolls) (cs := [(10, c_spec_l11Code), (12, c_spec_l11New), (11, (c_spec_l11Value fuelN))]) (res := Try.f4.results.toList) (fun _ => ⟨[], [], []⟩) Try.func4 (by kernel_rfl) rfl rfl rfl tysOk.look eqTsOk.look (AllCs.ok (l := [(10, c_spec_l11Code), (12, c_spec_l11New), (11, (c_spec_l11Value fuelN))]) ⟨k_spec_l11Code, k_spec_l11New, (k_tab fuelN), trivial⟩) mixed rfl rfl rfl rfl ?_
  refine of_nf (P := ∀ v : Int × Int × Int × Int, ∀ p : List Int, (True) → ((lensI c_spec_ExpectedRolls.ins (v, p, ())) → (True ∧ (bsp (decide ((if codeP v p ≠ 0 then codeP v p else if inB (countD v) 0 500 = false then 3 else 0) ≠ (0 : Int))) (@Eq (HO c_spec_ExpectedRolls.outs) ((0, 0), (if codeP v p ≠ 0 then codeP v p else if inB (countD v) 0 500 = false then 3 else 0), ()) (c_spec_ExpectedRolls.out (v, p, ()))) ((varD v = true ∧ chs (Int.toNat v.2.1) (Int.toNat v.2.2.1) ≤ 1000000) ∧ ((PreS fuelN (v, List.replicate (Int.toNat (ways (Int.toNat v.2.1) (Int.toNat v.2.2.1))) false, List.replicate (Int.toNat (ways (Int.toNat v.2.1) (Int.toNat v.2.2.1))) ((0, 0) : Int × Int), false) p) ∧ (bsp (!(exS fuelN (v, List.replicate (Int.toNat (ways (Int.toNat v.2.1) (Int.toNat v.2.2.1))) false, List.replicate (Int.toNat (ways (Int.toNat v.2.1) (Int.toNat v.2.2.1))) ((0, 0) : Int × Int), false) p).1.2) (@Eq (HO c_spec_ExpectedRolls.outs) ((0, 0), 3, ()) (c_spec_ExpectedRolls.out (v, p, ()))) (@Eq (HO c_spec_ExpectedRolls.outs) ((exS fuelN (v, List.replicate (Int.toNat (ways (Int.toNat v.2.1) (Int.toNat v.2.2.1))) false, List.replicate (Int.toNat (ways (Int.toNat v.2.1) (Int.toNat v.2.2.1))) ((0, 0) : Int × Int), false) p).1.1, 0, ()) (c_spec_ExpectedRolls.out (v, p, ())))))))))) (by kernel_rfl) ?_
  rintro v p hp hl
  have out : ∀ r, expRD v p = r → @Eq (HO c_spec_ExpectedRolls.outs) (r.1, r.2, ()) (c_spec_ExpectedRolls.out (v, p, ())) := fun r h => by subst h; rfl
  have hD := expRD.eq_1 v p
  refine ⟨trivial, bspD (fun h => ?_) (fun h => ?_)⟩
  · by_cases hc : codeP v p ≠ 0
    · rw [if_pos hc] at hD ⊢
      exact out _ hD
    · rw [if_neg hc] at h hD ⊢
      by_cases hi : inB (countD v) 0 500 = false
      · rw [if_pos hi] at hD ⊢
        exact out _ hD
      · rw [if_neg hi] at h; exact absurd rfl h
  · by_cases hc : codeP v p ≠ 0
    · rw [if_pos hc] at h; exact absurd hc h
    rw [if_neg hc] at h hD
    by_cases hi : inB (countD v) 0 500 = false
    · rw [if_pos hi] at h; exact absurd (by decide) h
    rw [if_neg hi] at hD
    obtain ⟨hv, hb⟩ := codeP_ok (Decidable.not_not.1 hc)
    have hp := pips_fuel hv hb
    have hch : chs v.2.1.toNat v.2.2.1.toNat ≤ 1000000 := by
      have hi' : inB (countD v) 0 500 = true := by simpa using hi
      simp only [inB, Bool.and_eq_true, decide_eq_true_eq, countD, if_pos hv, ways] at hi'
      split at hi'
      · assumption
      · omega
    have hw : ways v.2.1.toNat v.2.2.1.toNat = (chs v.2.1.toNat v.2.2.1.toNat : Int) := by unfold ways; rw [if_pos hch]
    have hS := soundS_nil (v := v) (k := (ways v.2.1.toNat v.2.2.1.toNat).toNat) (by rw [hw]; rfl)
    have hval := (expS_val hv fuelN _ p hb hp hS).1
    have e : (exS fuelN (v, List.replicate (ways v.2.1.toNat v.2.2.1.toNat).toNat false, List.replicate (ways v.2.1.toNat v.2.2.1.toNat).toNat ((0, 0) : Int × Int), false) p).1 = valE v fuelN p := hval
    rw [e]
    refine ⟨⟨hv, hch⟩, ⟨hv, rfl, hch, hb, hS.1, hp⟩, bspB (fun hf => out ((0, 0), 3) (hD.trans (if_pos (by simpa using hf)))) (fun hf => out (_, 0) (hD.trans (if_neg (by simpa using hf))))⟩
def c_laws_FnExactExpectedRolls : Con where
  ins := [(true, .v tVar), (false, .v tSI)]
  outs := [(false, .v .b)]
  sh := false
  pre := fun x => wfD tVar x.1 ∧ wfD (TC.sl (.i .i64)) x.2.1
  out := fun _ => (true, ())
  upd := fun x => x
  eat := false
theorem k_laws_FnExactExpectedRolls [B : Base] : ConOk Try.prog 3 c_laws_FnExactExpectedRolls := by
  refine fn_okW (C := cx Try.prog 44 c_laws_FnExactExpectedRolls) (cs := [(5, c_laws_toVariant), (6, c_laws_toInt64S), (4, c_spec_ExpectedRolls), (7, c_impl_ExpectedRolls), (8, c_laws_eqExact), (9, c_laws_eqInt64S)]) (res := Try.f3.results.toList) (fun _ => ⟨[], [], []⟩) Try.func3 (by kernel_rfl) rfl rfl rfl tysOk.look eqTsOk.look (AllCs.ok (l := [(5, c_laws_toVariant), (6, c_laws_toInt64S), (4, c_spec_ExpectedRolls), (7, c_impl_ExpectedRolls), (8, c_laws_eqExact), (9, c_laws_eqInt64S)]) ⟨k_laws_toVariant, k_laws_toInt64S, k_spec_ExpectedRolls, k_impl_ExpectedRolls, k_laws_eqExact, k_laws_eqInt64S, trivial⟩) mixed rfl rfl rfl rfl ?_
  refine of_nf (P := ∀ v : Int × Int × Int × Int, ∀ p : List Int, (wfD tVar v ∧ wfD (TC.sl (.i .i64)) p) → ((lensI c_laws_FnExactExpectedRolls.ins (v, p, ())) → (bsp (decide ((1048576 : Int) < (p.length : Int))) (@Eq (HO c_laws_FnExactExpectedRolls.outs) (true, ()) (c_laws_FnExactExpectedRolls.out (v, p, ()))) (True ∧ ((List.length p ≤ 1099511627776) ∧ (True ∧ ((List.length p ≤ 1099511627776) ∧ (True ∧ (True ∧ (True ∧ (bsp (!(decide ((expRD v p).1 = (expRD v p).1))) (@Eq (HO c_laws_FnExactExpectedRolls.outs) (false, ()) (c_laws_FnExactExpectedRolls.out (v, p, ()))) (bsp (decide ((expRD v p).2 ≠ (expRD v p).2)) (@Eq (HO c_laws_FnExactExpectedRolls.outs) (false, ()) (c_laws_FnExactExpectedRolls.out (v, p, ()))) ((List.length p ≤ 1099511627776) ∧ (True ∧ (bsp (!(decide (p = p))) (@Eq (HO c_laws_FnExactExpectedRolls.outs) (false, ()) (c_laws_FnExactExpectedRolls.out (v, p, ()))) (@Eq (HO c_laws_FnExactExpectedRolls.outs) (true, ()) (c_laws_FnExactExpectedRolls.out (v, p, ())))))))))))))))))) (by kernel_rfl) ?_
  rintro v p hw hl
  refine bspD (fun _ => rfl) (fun hs => ?_)
  have hle : p.length ≤ 1048576 := by omega
  repeat' first
    | exact rfl
    | refine ⟨trivial, ?_⟩
    | refine bspB (fun h => absurd h (by simp)) (fun _ => ?_)
    | refine bspD (fun h => absurd rfl h) (fun _ => ?_)
    | refine ⟨(by omega), ?_⟩
    | fail
end Go.Proofs.Ytoobijimfccfgaa
