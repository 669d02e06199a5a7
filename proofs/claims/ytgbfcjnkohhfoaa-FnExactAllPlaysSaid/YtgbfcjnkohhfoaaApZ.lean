/-
  The law FnExactAllPlays: the whole walk.
-/
import Derived.Test.YtgbfcjnkohhfoaaApK
namespace Go.Proofs.Ytgbfcjnkohhfoaa
open Go.RowKit

theorem RepI.weakz {z z' : Prop} (hz : z' → z) {O : Nat → Prop} {w : World} : ∀ {t : IT} {vs : List Value} {x : t.D} {bs : List Nat}, RepI z O w t vs x bs → RepI z' O w t vs x bs
  | .v _, _, _, _, h => ⟨h.1, h.2.move hz fun _ _ hn => ⟨hn, rfl⟩⟩
  | .own _ _, _, _, _, h => by
    obtain ⟨v, cs, h1, h2, h3, h4, h5, h6⟩ := h
    exact ⟨v, cs, h1, h2, h3, h4, h5, fun i x hx => (h6 i x hx).move hz fun _ _ hn => ⟨hn, rfl⟩⟩
  | .bx _, _, _, _, h => by
    obtain ⟨b, e, us, h1, h2, h3, h4, h5⟩ := h
    exact ⟨b, e, us, h1, h2, h3, h4, h5.move hz fun _ _ hn => ⟨hn, rfl⟩⟩
  | .mp _ _ _, _, _, _, h => h
  | .bo _, _, _, _, h => by
    obtain ⟨b, e, us, bs', h1, h2, h3, h4, h5, h6⟩ := h
    exact ⟨b, e, us, bs', h1, h2, h3, h4, h5, h6.weakz hz⟩
  | .k _, _, _, _, h => h
  | .pr _ _, _, _, _, h => by
    obtain ⟨us, ws, b1, b2, h1, h2, h3, h4, h5⟩ := h
    exact ⟨us, ws, b1, b2, h1, h2, h3, h4.weakz hz, h5.weakz hz⟩
theorem RepA.weakz {z z' : Prop} (hz : z' → z) {O : Nat → Prop} {w : World} : ∀ {l : List (Bool × IT)} {vs : List Value} {x : HI l} {bs : List Nat}, RepA z O w l vs x bs → RepA z' O w l vs x bs
  | [], _, _, _, h => h
  | _ :: _, _, _, _, h => by
    obtain ⟨v, vs', b1, b2, h1, h2, h3, ⟨us, h4, h5⟩, h6⟩ := h
    exact ⟨v, vs', b1, b2, h1, h2, h3, ⟨us, h4, h5.weakz hz⟩, h6.weakz hz⟩
theorem eff2 {w W1 W2 : World} {M : Nat → Prop} (h1 : BelowM (fun _ => False) w W1) (hM : ∀ b, M b → w.heap.size ≤ b) (h2 : BelowM M W1 W2) : BelowM (fun _ => False) w W2 :=
  ⟨h2.os.trans h1.os, h2.tape.trans h1.tape, h2.output.trans h1.output, Nat.le_trans h1.size h2.size, fun b hb _ => (h2.block b (Nat.lt_of_lt_of_le hb h1.size) fun h => by have := hM b h; omega).trans (h1.block b hb fun h => h)⟩
def oldSE : SE → Bool
  | .imm _ fr => !fr
  | .own _ t fr => !fr || nb t.nsl 0
  | _ => true
theorem oldS_ok : ∀ {l : List (Nat × SE)} {d : HE l}, (l.all fun p => oldSE p.2) = true → ∀ k e, look k (mkE l d) = some e → oldE e = true
  | [], _, _, k, e, h => by simp [mkE, look] at h
  | x :: l, d, ha, k, e, h => by
    simp only [List.all_cons, Bool.and_eq_true] at ha
    simp only [mkE, look] at h
    cases hb : nb x.1 k with
    | true =>
      rw [hb] at h
      simp only [cond_true, Option.some.injEq] at h
      subst h
      obtain ⟨k', se⟩ := x
      cases se with
      | box l => rfl
      | own e t fr => exact ha.1
      | imm t fr => exact ha.1
      | mp g tk tv => rfl
    | false =>
      rw [hb] at h
      exact oldS_ok ha.2 k e h
set_option maxRecDepth 10000 in
theorem k_laws_FnExactAllPlays [B : Base] : ConOk Try.prog 3 c_laws_FnExactAllPlays := by
  refine ⟨⟨_, _, Try.func3, by kernel_rfl, rfl⟩, fun z O w args x bs hold hnew hO hO2 hbs hA hpre => ?_⟩
  have hb0 : bs = [] := by
    obtain ⟨_, _, b1, b2, _, rfl, _, ⟨_, _, rfl, _⟩, _, _, b3, b4, _, rfl, _, ⟨_, _, rfl, _⟩, _, _, b5, b6, _, rfl, _, ⟨_, _, rfl, _⟩, _, rfl⟩ := hA
    rfl
  subst hb0
  have hA' : RepA (false = true ∧ True) (fun b => b ∈ ([] : List Nat)) w c_laws_FnExactAllPlays.ins args x [] := hA.weakz fun k => nomatch k.1
  suffices hP : Calls Try.prog 3 args.toArray w (PostC c_laws_FnExactAllPlays z O w args x []) from hP.mono fun e w' h => h
  have hlens := hA'.lens
  obtain ⟨r, hr⟩ : ∃ r, opnI false c_laws_FnExactAllPlays.ins x 0 0 = some r := ⟨_, rfl⟩
  obtain ⟨ρ, hc1⟩ := entry_ok (C := cx Try.prog 112 c_laws_FnExactAllPlays) (O := O) hO hA' (by decide) hr (n := Try.f3.ntmps) rfl
  have hC1 := entry_ctx (C := cx Try.prog 112 c_laws_FnExactAllPlays) (O := O) (w := w) tysOk.look eqTsOk.look hold
  have hcs : CsOk (cx Try.prog 112 c_laws_FnExactAllPlays) cs_laws_FnExactAllPlays := AllCs.ok csOk_laws_FnExactAllPlays
  have v1 := allHW_ok p1_laws_FnExactAllPlays x hpre
  rw [hr] at v1
  refine calls_of_wp (c := code_laws_FnExactAllPlays) Try.func3 (by kernel_rfl) (wp_mono (Q := RetT 6 w) ?_ ?_)
  · refine vcTo_ok (K := retT 6) hC1 hcs mixed (fun e S' nx' O1' ρ' a' w' hc hrt => retT_ok hc hrt hc.eff) _ _ _ _ _ _ _ ?_ (v1 hlens) hc1
    intro S1 nx1 O1 ρ1' a1 W1 hcS hat
    unfold atHead at hat
    split at hat
    · next d hd =>
      obtain ⟨ρ1, hcA⟩ := head_ok hC1 hcS hd
      have hpin : ∀ p v, (fun q => if q = 3 ∨ q = 5 ∨ q = 6 then ρ1 q else none) p = some v → ρ1 p = some v := fun p v h => by
        simp only at h
        split at h
        · exact h
        · cases h
      have hc2 := rebase hcA (oldS_ok rfl) hpin
      have hC2 := rebase_ctx (C' := { cx Try.prog 112 c_laws_FnExactAllPlays with pins := [3, 5, 6] }) hC1 rfl rfl rfl rfl hcA (pin := fun q => if q = 3 ∨ q = 5 ∨ q = 6 then ρ1 q else none) (fun p v h => by
        split at h
        · next h0 => rcases h0 with rfl | rfl | rfl <;> simp
        · cases h)
      have v2 := allS_ok (allHW_ok p2_laws_FnExactAllPlays x) d hat
      have hsz : w.heap.size ≤ W1.heap.size := hcA.eff.size
      have o1 : ∀ b, O1 b → w.heap.size ≤ b := fun b hb => ((hcA.olt b hb).2).resolve_right fun h => h
      refine vcTo_ok (K := retT 6) hC2 hcs mixed (fun e S' nx' O1' ρ' a' w' hc hrt => retT_ok hc hrt (eff2 hcA.eff o1 hc.eff)) _ _ _ _ _ _ _ ?_ v2 hc2
      intro S2 nx2 O2 ρ2' a2 W2 hcS2 hat2
      unfold atHead at hat2
      split at hat2
      · next d2 hd2 =>
        obtain ⟨ρ2, hcB⟩ := head_ok hC2 hcS2 hd2
        have old2 : ∀ b, O2 b → W1.heap.size ≤ b ∨ O1 b := fun b hb => (hcB.olt b hb).2
        have e12 := eff2 hcA.eff o1 hcB.eff
        have hmv : ∀ b, b < W1.heap.size → ¬ offs (⟨Try.prog, 112, w, fun _ => False, O, fun _ => none, True⟩ : Cx) O1 false b → ¬ ¬ (b < W1.heap.size ∧ ¬ O1 b) ∧ W2.heap[b]? = W1.heap[b]? := fun b hlt h =>
          ⟨fun hx => hx ⟨hlt, fun h1 => h (.inl h1)⟩, hcB.eff.block b hlt fun h1 => h (.inl h1)⟩
        rw [code17]
        refine hand rfl trivial hcB hat2 (hC2.oldNow hcB) (fun b hb => ?_) (fun b hb h2 => ?_) (fun v hv => ?_) (fun v hv => ?_) (fun v hv => ?_) ?_
        · by_cases hlt : b < W1.heap.size
          · by_cases h1 : O1 b
            · exact hC1.ownNew hcA h1
            · exact absurd (.inr ⟨rfl, hlt, h1⟩) hb
          · have := (hC1.oldNow hcA).size; omega
        · rcases old2 b h2 with h | h
          · have := hb.1; omega
          · exact hb.2 h
        · have hen : EntOk _ O1 ρ1 W1 3 (.imm tPlay d.2.2.2.2.1 false) := hcA.en 3 _ rfl
          obtain ⟨u, hu, hr3⟩ := hen
          have hu2 : ρ2 3 = some u := hcB.pin 3 u (by simp only [true_or, if_true]; exact hu)
          rw [hu2] at hv
          cases hv
          obtain ⟨_, k1, _⟩ := hat
          obtain ⟨_, k2, _⟩ := hat2
          have e : d2.2.2.2.2.2.1 = d.2.2.2.2.1 := Eq.trans (show d2.2.2.2.2.2.1 = (allPlaysD x.1 x.2.1 x.2.2.1).1 from k2) (show d.2.2.2.2.1 = (allPlaysD x.1 x.2.1 x.2.2.1).1 from k1).symm
          rw [e]
          exact hr3.move (fun h => h.elim) hmv
        · have hen : EntOk _ O1 ρ1 W1 5 (.imm tI d.2.2.2.2.2.2.1 false) := hcA.en 5 _ rfl
          obtain ⟨u, hu, hr3⟩ := hen
          have hu2 : ρ2 5 = some u := hcB.pin 5 u (by simp only [true_or, or_true, if_true]; exact hu)
          rw [hu2] at hv
          cases hv
          obtain ⟨⟨_, _, _, _, _, _, k1, _⟩, _⟩ := hat
          obtain ⟨⟨_, _, _, _, _, _, _, k2, _⟩, _⟩ := hat2
          have e : d2.2.2.2.2.2.2.1 = d.2.2.2.2.2.2.1 := Eq.trans (show x.2.1.1 = d2.2.2.2.2.2.2.1 from k2).symm (show x.2.1.1 = d.2.2.2.2.2.2.1 from k1)
          rw [e]
          exact hr3.move (fun h => h.elim) hmv
        · have hen : EntOk _ O1 ρ1 W1 6 (.imm tI d.2.2.2.2.2.2.2.1 false) := hcA.en 6 _ rfl
          obtain ⟨u, hu, hr3⟩ := hen
          have hu2 : ρ2 6 = some u := hcB.pin 6 u (by simp only [or_true, if_true]; exact hu)
          rw [hu2] at hv
          cases hv
          obtain ⟨⟨_, _, _, _, _, _, _, k1, _⟩, _⟩ := hat
          obtain ⟨⟨_, _, _, _, _, _, _, _, k2⟩, _⟩ := hat2
          have e : d2.2.2.2.2.2.2.2.1 = d.2.2.2.2.2.2.2.1 := Eq.trans (show x.2.1.2 = d2.2.2.2.2.2.2.2.1 from k2).symm (show x.2.1.2 = d.2.2.2.2.2.2.2.1 from k1)
          rw [e]
          exact hr3.move (fun h => h.elim) hmv
        · intro dC a3 W3 hIC hcC hold3 hB3
          have hC3 : CtxOk (cx Try.prog 112 c_laws_FnExactAllPlays) ⟨Try.prog, 112, W3, O2, fun b => b < W3.heap.size ∧ ¬ O2 b, fun _ => none, True⟩ :=
            ⟨rfl, rfl, hC1.ty, hC1.eqs, fun _ _ h => (nomatch h), fun b hb => .inr fun h => h.2 hb, hold3, fun b hb => hC2.ownNew hcB hb⟩
          have v3 := allS_ok (allHW_ok p3_laws_FnExactAllPlays x) dC hIC
          have o2 : ∀ b, O2 b → w.heap.size ≤ b := fun b hb => by
            rcases old2 b hb with h | h
            · omega
            · exact o1 b h
          have e13 : BelowM (fun _ => False) w W3 := eff2 e12 (fun b hb => by
            show w.heap.size ≤ b
            by_cases hlt : b < W1.heap.size
            · by_cases h1 : O1 b
              · exact o1 b h1
              · exact absurd (.inr ⟨rfl, hlt, h1⟩) hb
            · omega) hB3
          exact vc_ok hC3 hcs mixed _ 0 [] _ _ (retT 6) _ O2 ρ2 a3 W3 (fun e S' nx' O1' ρ' a' w' hc hrt => retT_ok hc hrt (eff2 e13 o2 hc.eff)) v3 hcC
      · exact hat2.elim
    · exact hat.elim
  · rintro e a' w' ⟨he, hd, ht, hB⟩
    have hres : (results Try.f3 a'.tmps).run Try.prog w' = .ok (.bool true) w' := by
      have hmm : (Try.f3.results.mapM (resM a'.tmps)).run Try.prog w' = .ok #[.bool true] w' := by
        rw [show Try.f3.results = #[.tmp 6] from by kernel_rfl]
        simp [resM, ht]
      have e : results Try.f3 a'.tmps = (do let vs ← Try.f3.results.mapM (resM a'.tmps); pure (if h : vs.size = 1 then vs[0] else .tuple vs)) := by
        unfold results
        congr 1
      rw [e, Sem.run_bind, hmm]
      rfl
    have fin : PostC c_laws_FnExactAllPlays z O w args x [] (.returned (.bool true)) w' := by
      refine ⟨[.bool true], [], rfl, ⟨.bool true, [], [], [], rfl, rfl, by simp, ⟨[.bool true], .inr ⟨rfl, rfl⟩, rfl, by simp only [Rep]; rfl⟩, rfl, rfl⟩, ?_, ⟨hB.os, hB.tape, hB.output, hB.size, fun b hb _ => hB.block b hb fun h => h⟩⟩
      obtain ⟨u1, vs1, _, _, rfl, _, _, ⟨us1, h1, _, g1⟩, u2, vs2, _, _, rfl, _, _, ⟨us2, h2, _, g2⟩, u3, vs3, _, _, rfl, _, _, ⟨us3, h3, _, g3⟩, _, _⟩ := hA
      exact ⟨u1, _, rfl, ⟨us1, h1, g1.len, trivial⟩, u2, _, rfl, ⟨us2, h2, g2.len, trivial⟩, u3, _, rfl, ⟨us3, h3, g3.len, trivial⟩, trivial⟩
    rcases he with rfl | rfl
    · exact ⟨hd, _, hres, fin⟩
    · exact ⟨hd, _, hres, fin⟩
end Go.Proofs.Ytgbfcjnkohhfoaa
