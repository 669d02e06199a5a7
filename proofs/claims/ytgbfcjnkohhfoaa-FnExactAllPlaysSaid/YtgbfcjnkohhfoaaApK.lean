/-
  The law FnExactAllPlays: the state behind the marks.
-/
import Derived.Test.YtgbfcjnkohhfoaaApH
namespace Go.Proofs.Ytgbfcjnkohhfoaa
open Go.RowKit
set_option linter.unusedVariables false

/-- the list behind the marks -/
theorem MkTo.rep {O : Nat → Prop} {w : World} {xs ys : List DPlay} {g cap : Nat} {F : Nat → Value × Value × Value} (hL : Leaves O w xs g F) {w' : World} (h : MkTo O w F xs ys (3 * xs.length) w') (hys : ys.length = xs.length) (hcap : xs.length ≤ cap) (hLB : xs.length ≤ LB) {z : Prop} (hz : ¬ z) {O' : Nat → Prop} (hO : ∀ b, ¬ O b → ¬ O' b) :
    Rep z O' w' (.sl tPlayB) [.slice (some ⟨g, 0, none⟩) xs.length cap] ys := by
  refine ⟨some ⟨g, 0, none⟩, cap, by rw [hys], by omega, by omega, by simp, fun k => absurd k hz, .inr ⟨g, 0, rfl, hO g hL.og, fun i p hp => ?_⟩⟩
  have hi : i < ys.length := (List.getElem?_eq_some_iff.1 hp).1
  have hi' : i < xs.length := by omega
  have hg : ys.getD i ([], [], []) = p := by rw [List.getD_eq_getElem?_getD, hp]; rfl
  have hx := List.getElem?_eq_getElem hi'
  have c := hL.cell i hi'
  have k0 := h.cell hL c.1
  have k1 := h.cell hL c.2.1
  have k2 := h.cell hL c.2.2
  have l0 := h.low (3 * i) (by omega)
  have l1 := h.low (3 * i + 1) (by omega)
  have l2 := h.low (3 * i + 2) (by omega)
  unfold LfP at l0 l1 l2
  rw [show 3 * i % 3 = 0 by omega, show 3 * i / 3 = i by omega, hg] at l0
  rw [show (3 * i + 1) % 3 = 1 by omega, show (3 * i + 1) / 3 = i by omega, hg] at l1
  rw [show (3 * i + 2) % 3 = 2 by omega, show (3 * i + 2) / 3 = i by omega, hg] at l2
  have mv : ∀ {t : TC} {v : Value} {zs : List t.D}, LeafT t w' v zs → (∀ b, blkOf v = some b → ¬ O b) → Rep z O' w' (.sl t) [v] zs := fun hl hb => (hl.rep (O := O) hb).move (fun k => absurd k hz) fun b _ hn => ⟨hO b hn, rfl⟩
  refine ⟨[(F i).1, (F i).2.1, (F i).2.2], rfl, fun j u hj => ?_, [(F i).1], [(F i).2.1, (F i).2.2], rfl, mv l0 (hL.S hx).2, [(F i).2.1], [(F i).2.2], rfl, mv l1 (hL.A hx).2, mv l2 (hL.B hx).2, fun k => absurd k hz⟩
  rw [show (tPlayB : TC).n = 3 from rfl, Nat.zero_add]
  match j with
  | 0 => simp only [List.getElem?_cons_zero, Option.some.injEq] at hj; subst hj; exact k0
  | 1 => simp only [List.getElem?_cons_succ, List.getElem?_cons_zero, Option.some.injEq] at hj; subst hj; exact k1
  | 2 => simp only [List.getElem?_cons_succ, List.getElem?_cons_zero, Option.some.injEq] at hj; subst hj; exact k2
  | j + 3 => simp at hj
/-- a list of plays is marked -/
theorem mark_list [B : Base] {O : Nat → Prop} {w : World} {v : Value} {xs : List DPlay} (h : Rep True O w (.sl tPlayB) [v] xs) (hA : ApOk xs) (hbase : ∀ b, ¬ O b → B.W.heap.size ≤ b) (hold : OldOk w) :
    Calls Try.prog 14 #[v, .int .i64 1] w fun e w' => ∃ n, e = .returned (.int .i64 n) ∧ (n = 1 + ((sum3 (lens3 xs) : Nat) : Int) ∧ BelowM (fun b => ¬ O b) w w' ∧ ∀ (z : Prop) (O' : Nat → Prop), ¬ z → (∀ b, ¬ O b → ¬ O' b) → Rep z O' w' (.sl tPlayB) [v] (markPl 1 (lens3 xs))) := by
  by_cases hne : xs = []
  · subst hne
    have h0 := h
    obtain ⟨a, cap, hv, h1, h2, h3, _, _⟩ := h
    simp only [List.cons.injEq, and_true, List.length_nil] at hv
    subst hv
    refine markPlay_nil.mono ?_
    rintro e w' ⟨rfl, rfl⟩
    refine ⟨1, rfl, by simp [lens3, sum3], BelowM.refl _ _, fun z O' hz hO => ⟨a, cap, rfl, h1, h2, h3, fun k => absurd k hz, .inl rfl⟩⟩
  · obtain ⟨g, cap, F, rfl, hL⟩ := leaves_of h hne
    obtain ⟨a, cap', hv, h1, h2, _⟩ := h
    simp only [List.cons.injEq, Value.slice.injEq, true_and, and_true] at hv
    obtain ⟨_, rfl⟩ := hv
    refine (markPlay_walk hL hA hbase hold).mono ?_
    rintro e w' ⟨rfl, hM⟩
    exact ⟨_, rfl, rfl, ⟨hM.eff.os, hM.eff.tape, hM.eff.output, hM.eff.size, fun b hb hn => hM.eff.block b hb fun hx => hn hx.1⟩, fun z O' hz hO => hM.rep hL (by rw [markPl_length]; simp [lens3]) h1 h2 hz hO⟩
set_option maxRecDepth 10000 in
theorem hand [B : Base] {x : HI c_laws_FnExactAllPlays.ins} {c2 : Cx} {O2 : Nat → Prop} {ρ2 : Env} {a : Act} {W2 : World} {dB : (L_laws_FnExactAllPlays_B x).sh.D} {Q : Exit → Act → World → Prop} {code18 : Code}
    (hn : c2.n = 112) (hz : c2.z0) (hc : Conc c2 (11 ≤ ·) O2 ρ2 ((L_laws_FnExactAllPlays_B x).sh.mk' dB) a W2) (hI : (L_laws_FnExactAllPlays_B x).I [] dB) (hold : OldOk W2) (hnew : ∀ b, ¬ offs c2 O2 true b → B.W.heap.size ≤ b) (h02 : ∀ b, c2.O0 b → ¬ O2 b)
    (hw : ∀ v, ρ2 3 = some v → Rep False (fun b => ¬ c2.O0 b) W2 (.sl tPlay) [v] dB.2.2.2.2.2.1) (hp1 : ∀ v, ρ2 5 = some v → Rep False (fun b => ¬ c2.O0 b) W2 tSI [v] dB.2.2.2.2.2.2.1) (hp2 : ∀ v, ρ2 6 = some v → Rep False (fun b => ¬ c2.O0 b) W2 tSI [v] dB.2.2.2.2.2.2.2.1)
    (next : ∀ (dC : (L_laws_FnExactAllPlays_C x).sh.D) (a3 : Act) (W3 : World), (L_laws_FnExactAllPlays_C x).I [] dC → Conc ⟨c2.P, c2.n, W3, O2, fun b => b < W3.heap.size ∧ ¬ O2 b, fun _ => none, True⟩ (11 ≤ ·) O2 ρ2 ((L_laws_FnExactAllPlays_C x).sh.mk' dC) a3 W3 → OldOk W3 → BelowM (fun b => ¬ offs c2 O2 true b) W2 W3 → code18.wp Try.prog Q a3 W3) :
    (Code.seq (.region 17 ops17 false) code18).wp Try.prog Q a W2 := by
  obtain ⟨⟨_, _, _, _, wc, _, m, _⟩, ⟨v1, v2, v3, v4, _⟩, ⟨_, _, _⟩, ⟨r1, r2, _⟩, g, w, p1, p2, _⟩ := dB
  obtain ⟨⟨q0, q1, q2, q3, q4, q5, q6, q7, q8⟩, qw, qwc, qg, qm, qp⟩ := hI
  have kw : w = (allPlaysD x.1 x.2.1 x.2.2.1).1 := qw
  have kwc : wc = (allPlaysD x.1 x.2.1 x.2.2.1).2 := qwc
  have kg : g = (allPlaysD x.1 x.2.1 x.2.2.1).1 := qg
  have km : m = 1 := qm
  have e10 : EntOk c2 O2 ρ2 W2 10 (.imm tPlayB g true) := hc.en 10 _ rfl
  obtain ⟨v, hv, hrep⟩ := e10
  obtain ⟨v', hv', ht11⟩ := hc.tm 11 (.one (.ref 10)) rfl
  have hv'' : ρ2 10 = some v' := hv'
  rw [hv] at hv''
  cases hv''
  obtain ⟨v14, hv14, ht14⟩ := hc.tm 14 (.one (.con (.int .i64 m))) rfl
  have hv14' : some (Value.int .i64 m) = some v14 := hv14
  cases hv14'
  have hA := apD_ok x.1 x.2.1 x.2.2.1
  rw [← kg] at hA
  subst km
  have hcall := mark_list (O := offs c2 O2 true) (hrep.move (fun _ => ⟨rfl, hz⟩) fun b _ hb => ⟨hb, rfl⟩) hA hnew hold
  refine wp_seq (region17 (by rw [hc.size, hn]) ht11 ht14 hcall ?_)
  rintro n w' ⟨rfl, hB, hm⟩
  have sub : ∀ b, O2 b → b < W2.heap.size ∧ w'.heap[b]? = W2.heap[b]? := fun b hb => ⟨(hc.olt b hb).1, hB.block b (hc.olt b hb).1 fun h => h (.inl hb)⟩
  refine next ⟨((), (), (), (), wc, (), 1 + ((sum3 (lens3 g) : Nat) : Int), ()), (v1, v2, v3, v4, ()), ((), (), ()), (r1, r2, ()), markPl 1 (lens3 g), w, p1, p2, ()⟩ _ w' ?_ ?_ ?_ hB
  · exact ⟨⟨q1, q2, q3, q4, q5, q6, q7, q8⟩, kw, kwc, by show markPl 1 (lens3 g) = _; rw [kg], by show 1 + ((sum3 (lens3 g) : Nat) : Int) = _; rw [kg], qp⟩
  · refine ⟨by simp only [put_size]; exact hc.size, hc.nodef, fun t y ht => ?_, fun k e he => ?_, fun k k' e e' u u' b hne he he' ho ho' hu hu' hb => ?_, hc.nx, hc.one, fun b hb => ⟨Nat.lt_of_lt_of_le (hc.olt b hb).1 hB.size, .inr hb⟩, fun b hb => hb.1, BelowM.refl _ _, fun _ _ h => nomatch h⟩
    · have old : ∀ (t : Nat) (y : AV), t ≠ 74 → t ≠ 75 → t ≠ 76 → t ≠ 14 → (∃ u, Den ρ2 y u ∧ a.tmps[t]? = some u) → ∃ u, Den ρ2 y u ∧ ((((a.put (some 74) v).put (some 75) (.int .i64 1)).put (some 76) (.int .i64 (1 + ((sum3 (lens3 g) : Nat) : Int)))).put (some 14) (.int .i64 (1 + ((sum3 (lens3 g) : Nat) : Int)))).tmps[t]? = some u := fun t y h1 h2 h3 h4 ⟨u, hu, hut⟩ =>
        ⟨u, hu, by rw [put_at (Ne.symm h4), put_at (Ne.symm h3), put_at (Ne.symm h2), put_at (Ne.symm h1)]; exact hut⟩
      have hmem : (t, y) ∈ [(3, AV.one (.ref 7)), (4, .one (.ref 8)), (5, .one (.ref 9)), (8, .one (.ref 3)), (9, .one (.con (.int .i64 wc))), (11, .one (.ref 10)), (14, .one (.con (.int .i64 (1 + ((sum3 (lens3 g) : Nat) : Int)))))] := look_mem ht
      simp only [List.mem_cons, Prod.mk.injEq, List.not_mem_nil, or_false] at hmem
      rcases hmem with ⟨rfl, rfl⟩ | ⟨rfl, rfl⟩ | ⟨rfl, rfl⟩ | ⟨rfl, rfl⟩ | ⟨rfl, rfl⟩ | ⟨rfl, rfl⟩ | ⟨rfl, rfl⟩
      · exact old _ _ (by decide) (by decide) (by decide) (by decide) (hc.tm 3 _ rfl)
      · exact old _ _ (by decide) (by decide) (by decide) (by decide) (hc.tm 4 _ rfl)
      · exact old _ _ (by decide) (by decide) (by decide) (by decide) (hc.tm 5 _ rfl)
      · exact old _ _ (by decide) (by decide) (by decide) (by decide) (hc.tm 8 _ rfl)
      · exact old _ _ (by decide) (by decide) (by decide) (by decide) (hc.tm 9 _ rfl)
      · exact old _ _ (by decide) (by decide) (by decide) (by decide) (hc.tm 11 _ rfl)
      · exact ⟨_, rfl, put_self (by rw [put_size, put_size, put_size, hc.size, hn]; decide)⟩
    · have hmem : (k, e) ∈ [(7, Ent.box [.con (.int .i64 v1), .con (.int .i64 v2), .con (.int .i64 v3), .con (.int .i64 v4)]), (8, .box [.ref 5, .ref 6]), (9, .box [.con (.int .i64 r1), .con (.int .i64 r2)]), (10, .imm tPlayB (markPl 1 (lens3 g)) false), (3, .imm tPlay w false), (5, .imm tI p1 false), (6, .imm tI p2 false)] := look_mem he
      simp only [List.mem_cons, Prod.mk.injEq, List.not_mem_nil, or_false] at hmem
      have hmv : ∀ b, b < W2.heap.size → ¬ ¬ c2.O0 b → ¬ offs (⟨c2.P, c2.n, w', O2, fun b => b < w'.heap.size ∧ ¬ O2 b, fun _ => none, True⟩ : Cx) O2 false b ∧ w'.heap[b]? = W2.heap[b]? := fun b hlt h =>
        ⟨fun hx => hx.elim (h02 b (Classical.not_not.1 h)) (fun q => nomatch q.1), hB.block b hlt fun hno => hno (.inr ⟨rfl, Classical.not_not.1 h⟩)⟩
      have box : ∀ (k : Nat) (l : List A1), EntOk c2 O2 ρ2 W2 k (.box l) → EntOk ⟨c2.P, c2.n, w', O2, fun b => b < w'.heap.size ∧ ¬ O2 b, fun _ => none, True⟩ O2 ρ2 w' k (.box l) := fun k l hen => by
        obtain ⟨b, e, vs, h1, h2, h3, h4, h5⟩ := hen
        exact ⟨b, e, vs, h1, h2, h3, h4, by rw [(sub b h2).2]; exact h5⟩
      rcases hmem with ⟨rfl, rfl⟩ | ⟨rfl, rfl⟩ | ⟨rfl, rfl⟩ | ⟨rfl, rfl⟩ | ⟨rfl, rfl⟩ | ⟨rfl, rfl⟩ | ⟨rfl, rfl⟩
      · exact box 7 _ (hc.en 7 _ rfl)
      · exact box 8 _ (hc.en 8 _ rfl)
      · exact box 9 _ (hc.en 9 _ rfl)
      · exact ⟨v, hv, hm _ _ (fun h => nomatch h.1) fun b hb hx => hx.elim (fun h => hb (.inl h)) (fun q => nomatch q.1)⟩
      · have hen : EntOk c2 O2 ρ2 W2 3 (.imm tPlay w false) := hc.en 3 _ rfl
        obtain ⟨u, hu, _⟩ := hen
        exact ⟨u, hu, (hw u hu).move (fun h => nomatch h.1) hmv⟩
      · have hen : EntOk c2 O2 ρ2 W2 5 (.imm tI p1 false) := hc.en 5 _ rfl
        obtain ⟨u, hu, _⟩ := hen
        exact ⟨u, hu, (hp1 u hu).move (fun h => nomatch h.1) hmv⟩
      · have hen : EntOk c2 O2 ρ2 W2 6 (.imm tI p2 false) := hc.en 6 _ rfl
        obtain ⟨u, hu, _⟩ := hen
        exact ⟨u, hu, (hp2 u hu).move (fun h => nomatch h.1) hmv⟩
    · have own : ∀ (k : Nat) (e : Ent), look k (((L_laws_FnExactAllPlays_C x).sh.mk' ⟨((), (), (), (), wc, (), 1 + ((sum3 (lens3 g) : Nat) : Int), ()), (v1, v2, v3, v4, ()), ((), (), ()), (r1, r2, ()), markPl 1 (lens3 g), w, p1, p2, ()⟩).en) = some e → isOwn e = true →
          ∃ e0, look k (((L_laws_FnExactAllPlays_B x).sh.mk' ⟨((), (), (), (), wc, (), 1, ()), (v1, v2, v3, v4, ()), ((), (), ()), (r1, r2, ()), g, w, p1, p2, ()⟩).en) = some e0 ∧ isOwn e0 = true := fun k e he ho => by
        have hmem : (k, e) ∈ [(7, Ent.box [.con (.int .i64 v1), .con (.int .i64 v2), .con (.int .i64 v3), .con (.int .i64 v4)]), (8, .box [.ref 5, .ref 6]), (9, .box [.con (.int .i64 r1), .con (.int .i64 r2)]), (10, .imm tPlayB (markPl 1 (lens3 g)) false), (3, .imm tPlay w false), (5, .imm tI p1 false), (6, .imm tI p2 false)] := look_mem he
        simp only [List.mem_cons, Prod.mk.injEq, List.not_mem_nil, or_false] at hmem
        rcases hmem with ⟨rfl, rfl⟩ | ⟨rfl, rfl⟩ | ⟨rfl, rfl⟩ | ⟨rfl, rfl⟩ | ⟨rfl, rfl⟩ | ⟨rfl, rfl⟩ | ⟨rfl, rfl⟩
        · exact ⟨_, rfl, rfl⟩
        · exact ⟨_, rfl, rfl⟩
        · exact ⟨_, rfl, rfl⟩
        · cases ho
        · cases ho
        · cases ho
        · cases ho
      obtain ⟨e0, he0, ho0⟩ := own k e he ho
      obtain ⟨e1, he1, ho1⟩ := own k' e' he' ho'
      exact hc.ap k k' e0 e1 u u' b hne he0 he1 ho0 ho1 hu hu' hb
  · exact ⟨Nat.le_trans hold.size hB.size, fun b hb => (hB.block b (Nat.lt_of_lt_of_le hb hold.size) fun h => by have := hnew b h; omega).trans (hold.block b hb)⟩
end Go.Proofs.Ytgbfcjnkohhfoaa
