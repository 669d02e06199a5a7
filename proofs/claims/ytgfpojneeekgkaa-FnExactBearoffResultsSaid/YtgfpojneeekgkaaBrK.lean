/-
  The law FnExactBearoffResults: the pieces joined.
-/
import Derived.Test.YtgfpojneeekgkaaBrH
namespace Go.Proofs.Ytgfpojneeekgkaa
open Go.RowKit

theorem take_one {cs : List Value} {i : Nat} {u : Value} (h : cs[i]? = some u) : (cs.drop (i * 1)).take 1 = [u] := by
  have hi := (List.getElem?_eq_some_iff.1 h).1
  rw [Nat.mul_one, List.drop_eq_getElem_cons hi, (List.getElem?_eq_some_iff.1 h).2]; rfl
set_option maxRecDepth 10000 in
theorem hand [B : Base] {x : HI c_laws_FnExactBearoffResults.ins} {c2 : Cx} {O2 : Nat → Prop} {ρ2 : Env} {a : Act} {W2 : World} {dB : (L_laws_FnExactBearoffResults_B x).sh.D} {Q : Exit → Act → World → Prop} {code16 : Code}
    (hn : c2.n = 109) (hz : c2.z0) (hc : Conc c2 (7 ≤ ·) O2 ρ2 ((L_laws_FnExactBearoffResults_B x).sh.mk' dB) a W2) (hI : (L_laws_FnExactBearoffResults_B x).I [] dB) (hold : OldOk W2) (hnew : ∀ b, ¬ offs c2 O2 true b → B.W.heap.size ≤ b) (h02 : ∀ b, c2.O0 b → ¬ O2 b)
    (hw : ∀ v, ρ2 3 = some v → Rep False (fun b => ¬ c2.O0 b) W2 (.sl tSI) [v] dB.2.2.2.2.2.1) (hp : ∀ v, ρ2 0 = some v → Rep False (fun b => ¬ c2.O0 b) W2 tSI [v] dB.2.2.2.2.1)
    (next : ∀ (dC : (L_laws_FnExactBearoffResults_C x).sh.D) (a3 : Act) (W3 : World), (L_laws_FnExactBearoffResults_C x).I [] dC → Conc ⟨c2.P, c2.n, W3, O2, fun b => b < W3.heap.size ∧ ¬ O2 b, fun _ => none, True⟩ (7 ≤ ·) O2 ρ2 ((L_laws_FnExactBearoffResults_C x).sh.mk' dC) a3 W3 → OldOk W3 → BelowM (fun b => ¬ offs c2 O2 true b) W2 W3 → code16.wp Try.prog Q a3 W3) :
    (Code.seq (.region 15 ops15 false) code16).wp Try.prog Q a W2 := by
  obtain ⟨⟨_, _, _, _, wc, _, m, _⟩, ⟨v1, v2, v3, v4, _⟩, ⟨r1, r2, _⟩, g, p, w, _⟩ := dB
  obtain ⟨⟨q0, q1, q2, q3, q4, q5, q6, q7⟩, qw, qwc, qg, qm, qp⟩ := hI
  have kw : w = (brD x.1 x.2.1 x.2.2.1).1 := qw
  have kwc : wc = (brD x.1 x.2.1 x.2.2.1).2 := qwc
  have kg : g = (brD x.1 x.2.1 x.2.2.1).1 := qg
  have km : m = 1 := qm
  have e6 : EntOk c2 O2 ρ2 W2 6 (.own 24 tSI g true) := hc.en 6 _ rfl
  obtain ⟨v, cs, hv, hrow, hlen, hO6, hel⟩ := e6
  obtain ⟨v', hv', ht10⟩ := hc.tm 10 (.one (.ref 6)) rfl
  have hv'' : ρ2 6 = some v' := hv'
  rw [hv] at hv''
  cases hv''
  obtain ⟨v13, hv13, ht13⟩ := hc.tm 13 (.one (.con (.int .i64 m))) rfl
  have hv13' : some (Value.int .i64 m) = some v13 := hv13
  cases hv13'
  obtain ⟨⟨nn, hLn⟩, hgl, hs, hpw⟩ := brD_ok x.1 x.2.1 x.2.2.1
  rw [← kg] at hLn hgl hs hpw
  subst km
  have hcl : cs.length = g.length := by simpa [TC.n] using hrow.1
  have hcall : Calls Try.prog 15 #[v, .int .i64 1] W2 fun e w' => ∃ n, e = .returned (.int .i64 n) ∧ (n = 1 + ((sumN (lensL g) : Nat) : Int) ∧ BelowM (fun b => ¬ offs c2 O2 true b) W2 w' ∧
      ∀ (i : Nat) (y : List Int), (markLL 1 (lensL g))[i]? = some y → ∃ u, cs[i]? = some u ∧ Rep True (offs c2 O2 true) w' (.sl (.i .i64)) [u] y) := by
    rcases hrow.2 with ⟨rfl, h0⟩ | ⟨gb, cap, cur, rfl, _, hg, hnc, hcm, hcs, hcur⟩
    · have : g = [] := List.eq_nil_of_length_eq_zero h0
      subst this
      refine markSS_nil.mono ?_
      rintro e w' ⟨rfl, rfl⟩
      exact ⟨1, rfl, by simp [lensL, sumN], BelowM.refl _ _, by simp [lensL, markLL]⟩
    · have hleaf : ∀ (i : Nat) (u : Value) (y : List Int), cs[i]? = some u → g[i]? = some y → Rep True (offs c2 O2 true) W2 (.sl (.i .i64)) [u] y := fun i u y hu hy => by
        have h1 := hel i y hy
        rw [show (tSI : TC).n = 1 from rfl, take_one hu] at h1
        exact h1.move (fun _ => ⟨rfl, hz⟩) fun b _ hb => ⟨hb, rfl⟩
      refine (markSS (O := offs c2 O2 true) (lv := cs) hg (by simpa [TC.n] using hcur) hcl (.inl (hO6 gb rfl)) hleaf (fun i j y1 y2 hij h1 h2 => ?_) hnew hold (k := 1) (by omega) (by omega) (by omega)).mono ?_
      · obtain ⟨i1, e1⟩ := List.getElem?_eq_some_iff.1 h1
        obtain ⟨j1, e2⟩ := List.getElem?_eq_some_iff.1 h2
        refine ⟨by rw [hLn y1 (e1 ▸ List.getElem_mem i1), hLn y2 (e2 ▸ List.getElem_mem j1)], fun e => ?_⟩
        have hpw' := List.pairwise_iff_getElem.1 hpw
        rcases Nat.lt_or_gt_of_ne hij with h | h
        · exact hpw' i j i1 j1 h (by rw [e1, e2]; exact e)
        · exact hpw' j i j1 i1 h (by rw [e1, e2]; exact e.symm)
      · rintro e w' ⟨rfl, hM⟩
        refine ⟨_, rfl, rfl, hM.eff, fun i y hy => ?_⟩
        have hil : i < (markLL 1 (lensL g)).length := (List.getElem?_eq_some_iff.1 hy).1
        rw [markLL_length] at hil
        have hig : i < g.length := by simpa [lensL] using hil
        have hci : cs[i]? = some (cs[i]'(by omega)) := List.getElem?_eq_getElem _
        exact ⟨_, hci, (hM.low i _ y hig hci hy).rep (leafAt_of (hleaf i _ _ hci (List.getElem?_eq_getElem hig))).2⟩
  refine wp_seq (region15 (by rw [hc.size, hn]) ht10 ht13 hcall ?_)
  rintro n w' ⟨rfl, hB, hm⟩
  have sub : ∀ b, O2 b → b < W2.heap.size ∧ w'.heap[b]? = W2.heap[b]? := fun b hb => ⟨(hc.olt b hb).1, hB.block b (hc.olt b hb).1 fun h => h (.inl hb)⟩
  refine next ⟨((), (), (), (), wc, (), 1 + ((sumN (lensL g) : Nat) : Int), ()), (v1, v2, v3, v4, ()), (r1, r2, ()), markLL 1 (lensL g), p, w, ()⟩ _ w' ?_ ?_ ?_ hB
  · exact ⟨⟨q1, q2, q3, q4, q5, q6, q7⟩, kw, kwc, by show markLL 1 (lensL g) = _; rw [kg], by show 1 + ((sumN (lensL g) : Nat) : Int) = _; rw [kg], qp⟩
  · refine ⟨by simp only [put_size]; exact hc.size, hc.nodef, fun t y ht => ?_, fun k e he => ?_, fun k k' e e' u u' b hne he he' ho ho' hu hu' hb => ?_, hc.nx, hc.one, fun b hb => ⟨Nat.lt_of_lt_of_le (hc.olt b hb).1 hB.size, .inr hb⟩, fun b hb => hb.1, BelowM.refl _ _, fun _ _ h => nomatch h⟩
    · have old : ∀ (t : Nat) (y : AV), t ≠ 71 → t ≠ 72 → t ≠ 73 → t ≠ 13 → (∃ u, Den ρ2 y u ∧ a.tmps[t]? = some u) → ∃ u, Den ρ2 y u ∧ ((((a.put (some 71) v).put (some 72) (.int .i64 1)).put (some 73) (.int .i64 (1 + ((sumN (lensL g) : Nat) : Int)))).put (some 13) (.int .i64 (1 + ((sumN (lensL g) : Nat) : Int)))).tmps[t]? = some u := fun t y h1 h2 h3 h4 ⟨u, hu, hut⟩ =>
        ⟨u, hu, by rw [put_at (Ne.symm h4), put_at (Ne.symm h3), put_at (Ne.symm h2), put_at (Ne.symm h1)]; exact hut⟩
      have hmem : (t, y) ∈ [(1, AV.one (.ref 0)), (3, .one (.ref 4)), (5, .one (.ref 5)), (7, .one (.ref 3)), (8, .one (.con (.int .i64 wc))), (10, .one (.ref 6)), (13, .one (.con (.int .i64 (1 + ((sumN (lensL g) : Nat) : Int)))))] := look_mem ht
      simp only [List.mem_cons, Prod.mk.injEq, List.not_mem_nil, or_false] at hmem
      rcases hmem with ⟨rfl, rfl⟩ | ⟨rfl, rfl⟩ | ⟨rfl, rfl⟩ | ⟨rfl, rfl⟩ | ⟨rfl, rfl⟩ | ⟨rfl, rfl⟩ | ⟨rfl, rfl⟩
      · exact old _ _ (by decide) (by decide) (by decide) (by decide) (hc.tm 1 _ rfl)
      · exact old _ _ (by decide) (by decide) (by decide) (by decide) (hc.tm 3 _ rfl)
      · exact old _ _ (by decide) (by decide) (by decide) (by decide) (hc.tm 5 _ rfl)
      · exact old _ _ (by decide) (by decide) (by decide) (by decide) (hc.tm 7 _ rfl)
      · exact old _ _ (by decide) (by decide) (by decide) (by decide) (hc.tm 8 _ rfl)
      · exact old _ _ (by decide) (by decide) (by decide) (by decide) (hc.tm 10 _ rfl)
      · exact ⟨_, rfl, put_self (by rw [put_size, put_size, put_size, hc.size, hn]; decide)⟩
    · have hmem : (k, e) ∈ [(4, Ent.box [.con (.int .i64 v1), .con (.int .i64 v2), .con (.int .i64 v3), .con (.int .i64 v4)]), (5, .box [.con (.int .i64 r1), .con (.int .i64 r2)]), (6, .own 24 tSI (markLL 1 (lensL g)) false), (0, .imm tI p false), (3, .imm tSI w false)] := look_mem he
      simp only [List.mem_cons, Prod.mk.injEq, List.not_mem_nil, or_false] at hmem
      have hmv : ∀ b, b < W2.heap.size → ¬ ¬ c2.O0 b → ¬ offs (⟨c2.P, c2.n, w', O2, fun b => b < w'.heap.size ∧ ¬ O2 b, fun _ => none, True⟩ : Cx) O2 false b ∧ w'.heap[b]? = W2.heap[b]? := fun b hlt h =>
        ⟨fun hx => hx.elim (h02 b (Classical.not_not.1 h)) (fun q => nomatch q.1), hB.block b hlt fun hno => hno (.inr ⟨rfl, Classical.not_not.1 h⟩)⟩
      rcases hmem with ⟨rfl, rfl⟩ | ⟨rfl, rfl⟩ | ⟨rfl, rfl⟩ | ⟨rfl, rfl⟩ | ⟨rfl, rfl⟩
      · have hen : EntOk c2 O2 ρ2 W2 4 (.box [.con (.int .i64 v1), .con (.int .i64 v2), .con (.int .i64 v3), .con (.int .i64 v4)]) := hc.en 4 _ rfl
        obtain ⟨b, e, vs, h1, h2, h3, h4, h5⟩ := hen
        exact ⟨b, e, vs, h1, h2, h3, h4, by rw [(sub b h2).2]; exact h5⟩
      · have hen : EntOk c2 O2 ρ2 W2 5 (.box [.con (.int .i64 r1), .con (.int .i64 r2)]) := hc.en 5 _ rfl
        obtain ⟨b, e, vs, h1, h2, h3, h4, h5⟩ := hen
        exact ⟨b, e, vs, h1, h2, h3, h4, by rw [(sub b h2).2]; exact h5⟩
      · have hml : (markLL 1 (lensL g)).length = g.length := by rw [markLL_length]; simp [lensL]
        have hlen' : g.length ≤ LB := hlen
        refine ⟨v, cs, hv, ⟨by rw [hml]; exact hrow.1, hrow.2.imp (fun h => ⟨h.1, by rw [hml]; exact h.2⟩) ?_⟩, by show (markLL 1 (lensL g)).length ≤ LB; rw [hml]; exact hlen', hO6, fun i y hy => ?_⟩
        · rintro ⟨gb, cap, cur, rfl, h1, hg, h2⟩
          rw [hml]
          exact ⟨gb, cap, cur, rfl, h1, by rw [(sub gb (hO6 gb rfl)).2]; exact hg, h2⟩
        · obtain ⟨u, hu, hr⟩ := hm i y hy
          rw [show (tSI : TC).n = 1 from rfl, take_one hu]
          exact hr.move (fun h => nomatch h.1) fun b _ hb => ⟨fun hx => hx.elim (fun h => hb (.inl h)) (fun q => nomatch q.1), rfl⟩
      · have hen : EntOk c2 O2 ρ2 W2 0 (.imm tI p false) := hc.en 0 _ rfl
        obtain ⟨u, hu, _⟩ := hen
        exact ⟨u, hu, (hp u hu).move (fun h => nomatch h.1) hmv⟩
      · have hen : EntOk c2 O2 ρ2 W2 3 (.imm tSI w false) := hc.en 3 _ rfl
        obtain ⟨u, hu, _⟩ := hen
        exact ⟨u, hu, (hw u hu).move (fun h => nomatch h.1) hmv⟩
    · have own : ∀ (k : Nat) (e : Ent), look k (((L_laws_FnExactBearoffResults_C x).sh.mk' ⟨((), (), (), (), wc, (), 1 + ((sumN (lensL g) : Nat) : Int), ()), (v1, v2, v3, v4, ()), (r1, r2, ()), markLL 1 (lensL g), p, w, ()⟩).en) = some e → isOwn e = true →
          ∃ e0, look k (((L_laws_FnExactBearoffResults_B x).sh.mk' ⟨((), (), (), (), wc, (), 1, ()), (v1, v2, v3, v4, ()), (r1, r2, ()), g, p, w, ()⟩).en) = some e0 ∧ isOwn e0 = true := fun k e he ho => by
        have hmem : (k, e) ∈ [(4, Ent.box [.con (.int .i64 v1), .con (.int .i64 v2), .con (.int .i64 v3), .con (.int .i64 v4)]), (5, .box [.con (.int .i64 r1), .con (.int .i64 r2)]), (6, .own 24 tSI (markLL 1 (lensL g)) false), (0, .imm tI p false), (3, .imm tSI w false)] := look_mem he
        simp only [List.mem_cons, Prod.mk.injEq, List.not_mem_nil, or_false] at hmem
        rcases hmem with ⟨rfl, rfl⟩ | ⟨rfl, rfl⟩ | ⟨rfl, rfl⟩ | ⟨rfl, rfl⟩ | ⟨rfl, rfl⟩
        · exact ⟨_, rfl, rfl⟩
        · exact ⟨_, rfl, rfl⟩
        · exact ⟨_, rfl, rfl⟩
        · cases ho
        · cases ho
      obtain ⟨e0, he0, ho0⟩ := own k e he ho
      obtain ⟨e1, he1, ho1⟩ := own k' e' he' ho'
      exact hc.ap k k' e0 e1 u u' b hne he0 he1 ho0 ho1 hu hu' hb
  · exact ⟨Nat.le_trans hold.size hB.size, fun b hb => (hB.block b (Nat.lt_of_lt_of_le hb hold.size) fun h => by have := hnew b h; omega).trans (hold.block b hb)⟩
end Go.Proofs.Ytgfpojneeekgkaa
