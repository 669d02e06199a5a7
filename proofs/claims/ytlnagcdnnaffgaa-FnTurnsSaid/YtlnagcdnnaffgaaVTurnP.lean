/-
  Plain: steps, turns, rolls and resignations keep boards and games valid; the first play is recovered from its steps.
-/
import Derived.Test.YtlnagcdnnaffgaaVSelfW
import Derived.Test.YtlnagcdnnaffgaaVSteps
namespace Go.Proofs.Ytlnagcdnnaffgaa
open Go.RowKit
set_option linter.unusedSimpArgs false
set_option linter.unusedVariables false
theorem clashS_iff {zs ys : List Int} {p : Nat} : ∀ k : Nat, clashD zs ys p k = true ↔ ∃ j, j < k ∧ 0 < zs.getD j 0 ∧ 0 < ys.getD (p - 1 - j) 0
  | 0 => by simp [clashD]
  | k + 1 => by
    simp only [clashD, Bool.or_eq_true, Bool.and_eq_true, decide_eq_true_eq, clashS_iff k]
    refine ⟨fun h => ?_, fun ⟨j, h1, h2, h3⟩ => ?_⟩
    · rcases h with ⟨j, h1, h2, h3⟩ | ⟨h2, h3⟩
      · exact ⟨j, by omega, h2, h3⟩
      · exact ⟨k, by omega, h2, h3⟩
    · by_cases e : j = k
      · subst e; exact .inr ⟨h2, h3⟩
      · exact .inl ⟨j, by omega, h2, h3⟩
theorem clashS_no {zs ys : List Int} {p : Nat} : clashD zs ys p p = false ↔ ∀ j, j < p → 0 < zs.getD j 0 → ¬ 0 < ys.getD (p - 1 - j) 0 := by
  rw [← Bool.not_eq_true, clashS_iff]
  exact ⟨fun h j h1 h2 h3 => h ⟨j, h1, h2, h3⟩, fun h ⟨j, h1, h2, h3⟩ => h j h1 h2 h3⟩
theorem boardD_iff {v : DVar} {b : DBoard} : boardD v b = true ↔ okB v b ∧ ¬ (b.1.sum = 0 ∧ b.2.sum = 0) ∧ clashD b.1 b.2 v.1.toNat v.1.toNat = false := by
  simp only [boardD, okB, Bool.and_eq_true, Bool.not_eq_true', ← Bool.not_eq_true, decide_eq_true_eq]
  exact ⟨fun ⟨a, b, c, d, e⟩ => ⟨⟨a, b, c⟩, d, e⟩, fun ⟨⟨a, b, c⟩, d, e⟩ => ⟨a, b, c, d, e⟩⟩
theorem boardS_swap {v : DVar} {b : DBoard} (h : boardD v b = true) : boardD v (b.2, b.1) = true := by
  obtain ⟨⟨h0, h1, h2⟩, h3, h4⟩ := boardD_iff.1 h
  refine boardD_iff.2 ⟨⟨h0, h2, h1⟩, fun e => h3 ⟨e.2, e.1⟩, clashS_no.2 fun j hj k1 k2 => ?_⟩
  exact clashS_no.1 h4 (v.1.toNat - 1 - j) (by omega) k2 (by rw [show v.1.toNat - 1 - (v.1.toNat - 1 - j) = j by omega]; exact k1)
theorem addAt_at {l : List Int} {i : Int} {x : Int} (j : Nat) : (addAt l i x).getD j 0 = if i.toNat = j ∧ j < l.length then l.getD i.toNat 0 + x else l.getD j 0 := by rw [addAt, getD_set]
theorem subAt_at {l : List Int} {i : Int} (j : Nat) : (subAt l i).getD j 0 = if i.toNat = j ∧ j < l.length then l.getD i.toNat 0 - 1 else l.getD j 0 := by rw [subAt, getD_set]
theorem subAt_len (l : List Int) (i : Int) : (subAt l i).length = l.length := by simp [subAt]
/-- a board in play: valid, and the other side still has checkers -/
def inPlay (v : DVar) (b : DBoard) : Prop := boardD v b = true ∧ b.2.sum ≠ 0
theorem inPlay_step {v : DVar} {b : DBoard} {f d : Int} {s : DStep} (hb : inPlay v b) (hf : 0 ≤ f ∧ f ≤ v.1) (hd : 1 ≤ d) (h : stepD v b f d = some s) : inPlay v (afterD v b s) := by
  obtain ⟨hb, h2⟩ := hb
  obtain ⟨hk, h3, h4⟩ := boardD_iff.1 hb
  obtain ⟨b1, b2, l1, l2, v1, v2, _⟩ := hk.facts
  have hfit := stepD_fits hk hf hd h
  have hka := okB_after hk hfit
  have hka1 := hka.facts
  obtain ⟨⟨⟨f0, f1⟩, ⟨t0, t1⟩, t2⟩, c1, c2⟩ := hfit
  have hopen : 0 ≤ s.2.1 → b.2.getD (v.1 - 1 - s.2.1).toNat 0 ≤ 1 ∧ (s.2.2.2 = false → b.2.getD (v.1 - 1 - s.2.1).toNat 0 ≠ 1) := fun ht => by
    unfold stepD at h
    split at h
    · cases h
    · split at h
      · split at h
        · next ho => cases h; exact ⟨of_decide_eq_true ho, fun e => of_decide_eq_false e⟩
        · cases h
      · split at h
        · cases h
        · cases h; exact absurd ht (by show ¬ (0 : Int) ≤ -1; decide)
  have sum2 : (afterD v b s).2.sum = b.2.sum := by
    simp only [afterD]
    split
    · next hh =>
      have := t2 hh
      rw [addAt, sum_set _ (by rw [subAt_len]; omega), subAt, sum_set _ (by omega)]; omega
    · rfl
  refine ⟨boardD_iff.2 ⟨hka, fun e => h2 (by rw [← sum2]; exact e.2), clashS_no.2 fun j hj k1 k2 => ?_⟩, by rw [sum2]; exact h2⟩
  have hn := clashS_no.1 h4 j hj
  have ho : (afterD v b s).2.getD (v.1.toNat - 1 - j) 0 ≤ b.2.getD (v.1.toNat - 1 - j) 0 ∧ (s.2.2.2 = true → (v.1 - 1 - s.2.1).toNat = v.1.toNat - 1 - j → (afterD v b s).2.getD (v.1.toNat - 1 - j) 0 = b.2.getD (v.1.toNat - 1 - j) 0 - 1) := by
    simp only [afterD]
    split
    · next hh =>
      have := t2 hh
      rw [addAt_at, subAt_len, if_neg (by omega), subAt_at]
      split
      · next e => rw [e.1]; exact ⟨by omega, fun _ _ => rfl⟩
      · next e => exact ⟨Int.le_refl _, fun _ e2 => absurd ⟨e2, by omega⟩ e⟩
    · next hh => exact ⟨Int.le_refl _, fun e => absurd e hh⟩
  have hown : 0 < b.1.getD j 0 ∨ (0 ≤ s.2.1 ∧ s.2.1.toNat = j) := by
    simp only [afterD] at k1
    split at k1
    · next ht =>
      rw [addAt_at, subAt_len] at k1
      split at k1
      · next e => exact .inr ⟨ht, e.1⟩
      · rw [subAt_at] at k1
        split at k1
        · next e => left; rw [← e.1]; omega
        · exact .inl k1
    · rw [subAt_at] at k1
      split at k1
      · next e => left; rw [← e.1]; omega
      · exact .inl k1
  rcases hown with hown | ⟨ht, hj2⟩
  · exact hn hown (by omega)
  · have hoo := hopen ht
    have ei : (v.1 - 1 - s.2.1).toNat = v.1.toNat - 1 - j := by omega
    rw [ei] at hoo
    cases hh : s.2.2.2 with
    | true => have := ho.2 hh ei; omega
    | false =>
      have := hoo.2 hh
      have := b2.at (v.1.toNat - 1 - j)
      omega
theorem legalR_from {v : DVar} {b : DBoard} {d : Int} {s : DStep} : ∀ {k : Nat}, s ∈ legalR v b d k → ∃ f : Nat, f < k ∧ stepD v b f d = some s
  | 0, h => by simp [legalR] at h
  | k + 1, h => by
    simp only [legalR, List.mem_append, Option.mem_toList] at h
    rcases h with h | h
    · exact ⟨k, by omega, h⟩
    · obtain ⟨f, h1, h2⟩ := legalR_from h; exact ⟨f, by omega, h2⟩
theorem stepD_die {v : DVar} {b : DBoard} {f d : Int} {s : DStep} (h : stepD v b f d = some s) : s.1 = f ∧ s.2.2.1 = d := by
  unfold stepD at h
  split at h
  · cases h
  · split at h
    · split at h
      · cases h; exact ⟨rfl, rfl⟩
      · cases h
    · split at h
      · cases h
      · cases h; exact ⟨rfl, rfl⟩
theorem legalD_from {v : DVar} {b : DBoard} {d : Int} {s : DStep} (hb : okB v b) (hd : 1 ≤ d ∧ d ≤ v.2.2.2) (h : s ∈ legalD v b d) : stepD v b s.1 d = some s ∧ (0 ≤ s.1 ∧ s.1 ≤ v.1) ∧ s.2.2.1 = d ∧ legalB v b s = true := by
  have hF := hb.facts
  unfold legalD at h
  split at h
  · simp at h
  · next ho =>
    obtain ⟨f, h1, h2⟩ := legalR_from h
    obtain ⟨e1, e2⟩ := stepD_die h2
    have hf : 0 ≤ s.1 ∧ s.1 ≤ v.1 := by rw [e1]; omega
    rw [← e1] at h2
    refine ⟨h2, hf, e2, ?_⟩
    have i1 : inB s.2.2.1 1 v.2.2.2 = true := by rw [e2]; simp only [inB, Bool.and_eq_true, decide_eq_true_eq]; exact hd
    have i2 : inB s.1 0 v.1 = true := by simp only [inB, Bool.and_eq_true, decide_eq_true_eq]; exact hf
    have i3 : overD b = false := by simpa using ho
    rw [e2] at i1
    simp only [legalB, i1, i2, i3, e2, h2, Bool.not_false, Bool.true_and, decide_true]
/-- plays that lead from b to boards in play, by legal steps with the dice of an order -/
def FromB (v : DVar) (b : DBoard) (o : List Int) (ps : List DPlay) : Prop := ∀ p, p ∈ ps → inPlay v p.2 ∧ p.1.length = o.length ∧ followD v o p.1 b = some p.2
theorem follow_add {v : DVar} {d : Int} {s : DStep} {c : DBoard} (hs : s.2.2.1 = d ∧ legalB v c s = true) : ∀ {o : List Int} {ss : List DStep} {b : DBoard}, ss.length = o.length → followD v o ss b = some c → followD v (o ++ [d]) (ss ++ [s]) b = some (afterD v c s)
  | [], [], b, _, h => by
    simp only [followD, Option.some.injEq] at h
    subst h
    simp only [List.nil_append, followD, if_pos hs]
  | e :: o, t :: ss, b, hl, h => by
    simp only [followD] at h
    split at h
    · next k =>
      simp only [List.cons_append, followD, if_pos k]
      exact follow_add hs (by simpa using hl) h
    · cases h
  | [], _ :: _, _, hl, _ => by simp at hl
  | _ :: _, [], _, hl, _ => by simp at hl
theorem FromB.next {v : DVar} {b : DBoard} {o : List Int} {ps : List DPlay} {d : Int} (h : FromB v b o ps) (hd : 1 ≤ d ∧ d ≤ v.2.2.2) : FromB v b (o ++ [d]) (nextD v ps d) := by
  intro q hq
  rcases mem_foldl_addP hq with hq | hq
  · simp at hq
  obtain ⟨p, hp, hq⟩ := List.mem_flatMap.1 hq
  obtain ⟨s, hs, rfl⟩ := List.mem_map.1 hq
  obtain ⟨h1, h2, h3⟩ := h p hp
  have hk := (boardD_iff.1 h1.1).1
  obtain ⟨k1, k2, k3, k4⟩ := legalD_from hk hd hs
  exact ⟨inPlay_step h1 k2 hd.1 k1, by simp [h2], follow_add ⟨k3, k4⟩ h2 h3⟩
theorem FromB.last {v : DVar} {b : DBoard} : ∀ {o2 o : List Int} {ps : List DPlay}, FromB v b o ps → (∀ d, d ∈ o2 → 1 ≤ d ∧ d ≤ v.2.2.2) → FromB v b (o ++ o2.take (seqD v ps o2).length) (lastD ps (seqD v ps o2))
  | [], o, ps, h, _ => by simpa [seqD, lastD] using h
  | d :: ds, o, ps, h, hd => by
    simp only [seqD]
    split
    · simpa [lastD] using h
    · have := FromB.last (o2 := ds) (h.next (hd d (by simp))) (fun e he => hd e (List.mem_cons_of_mem _ he))
      simpa [lastD, List.append_assoc] using this
theorem fromB_start {v : DVar} {b : DBoard} (hb : inPlay v b) : FromB v b [] (startP b) := fun p hp => by
  simp only [startP, List.mem_singleton] at hp; subst hp; exact ⟨hb, rfl, rfl⟩
theorem orders_dice {v : DVar} {r : DRoll} (hr : rollD v r = true) {o : List Int} (ho : o ∈ ordersD r) : ∀ d, d ∈ o → 1 ≤ d ∧ d ≤ v.2.2.2 := by
  simp only [rollD, Bool.and_eq_true, inB, decide_eq_true_eq] at hr
  unfold ordersD at ho
  split at ho
  · simp only [List.mem_singleton] at ho; subst ho
    intro d hd; simp at hd; omega
  · simp only [List.mem_cons, List.not_mem_nil, or_false] at ho
    rcases ho with rfl | rfl <;> (intro d hd; simp at hd; omega)
theorem longD_from {v : DVar} {b : DBoard} {r : DRoll} (hb : inPlay v b) (hr : rollD v r = true) {o : List Int} (ho : o ∈ ordersD r) : FromB v b (o.take (seqD v (startP b) o).length) (longD v b o) := by
  simpa [longD] using (fromB_start hb).last (orders_dice hr ho)
theorem allD_inPlay {v : DVar} {b : DBoard} {r : DRoll} (hb : inPlay v b) (hr : rollD v r = true) {p : DPlay} (h : p ∈ allD v b r) : inPlay v p.2 := by
  rcases mem_foldl_addP h with h | h
  · simp at h
  obtain ⟨o, ho, hp⟩ := List.mem_flatMap.1 h
  exact (longD_from hb hr (selD_sub.1 o ho) p hp).1
theorem follow_ext {v : DVar} {o2 : List Int} {c : DBoard} : ∀ {o : List Int} {ss : List DStep} {b : DBoard}, followD v o ss b = some c → followD v (o ++ o2) ss b = some c
  | o, [], b, h => by
    rw [follow_nil] at h ⊢; exact h
  | [], _ :: _, _, h => by simp [followD] at h
  | e :: o, t :: ss, b, h => by
    simp only [List.cons_append, followD] at h ⊢
    split at h
    · next k => rw [if_pos k]; exact follow_ext h
    · cases h
theorem foldl_addP_head {p : DPlay} : ∀ {l out : List DPlay}, (l.foldl addP (p :: out)).getD 0 ([], ([], [])) = p
  | [], out => rfl
  | q :: l, out => by
    have : ∃ out', addP (p :: out) q = p :: out' := by
      unfold addP
      split
      · exact ⟨out, rfl⟩
      · exact ⟨out ++ [q], rfl⟩
    obtain ⟨out', e⟩ := this
    rw [List.foldl_cons, e]; exact foldl_addP_head
/-- the first play is recovered from its steps -/
theorem play_first {v : DVar} {b : DBoard} {r : DRoll} (hb : inPlay v b) (hr : rollD v r = true) : playO v b r ((allD v b r).getD 0 ([], ([], []))).1 = some ((allD v b r).getD 0 ([], ([], []))).2 := by
  cases hs : selD v b (usedD v b r) (ordersD r) with
  | nil => exact absurd hs (seqSel_ne v b r)
  | cons o os =>
    have hos : o ∈ selD v b (usedD v b r) (ordersD r) := by rw [hs]; simp
    have hoo := selD_sub.1 o hos
    have hn : seqN v b o = usedD v b r := by
      unfold selD at hos
      split at hos
      · simpa using (List.mem_filter.1 (List.mem_of_mem_take hos)).2
      · simpa using (List.mem_filter.1 hos).2
    cases hl : longD v b o with
    | nil => exact absurd hl (longD_ne v b o)
    | cons p ps =>
      have e : allD v b r = (ps ++ os.flatMap (longD v b)).foldl addP [p] := by
        unfold allD
        rw [hs, List.flatMap_cons, hl, List.cons_append, List.foldl_cons]
        congr 1
      have hp : (allD v b r).getD 0 ([], ([], [])) = p := by rw [e]; exact foldl_addP_head
      obtain ⟨k1, k2, k3⟩ := longD_from hb hr hoo p (by rw [hl]; simp)
      have hle := seqD_len v (startP b) o
      rw [hp]
      unfold playO
      rw [if_neg (by rw [k2, List.length_take, ← hn, seqN]; simp; omega), hs, firstF_cons]
      have := follow_ext (o2 := o.drop (seqD v (startP b) o).length) k3
      rw [List.take_append_drop] at this
      rw [this]
theorem playSteps_first {v : DVar} {b : DBoard} {r : DRoll} (hb : inPlay v b) (hr : rollD v r = true) : playStepsD v b r ((allD v b r).getD 0 ([], ([], []))).1 = (((allD v b r).getD 0 ([], ([], []))).2, 0) := by
  have hc : codeD v b r = 0 := by unfold codeD; rw [if_neg (by rw [hb.1]; decide), if_neg (by rw [hr]; decide)]
  unfold playStepsD
  rw [if_neg (by rw [hc]; decide), play_first hb hr]; rfl
theorem follow_inPlay {v : DVar} {c : DBoard} : ∀ {o : List Int} {ss : List DStep} {b : DBoard}, inPlay v b → followD v o ss b = some c → inPlay v c
  | o, [], b, hb, h => by
    rw [follow_nil] at h; cases h; exact hb
  | [], _ :: _, _, _, h => by simp [followD] at h
  | e :: o, t :: ss, b, hb, h => by
    simp only [followD] at h
    split at h
    · next k =>
      have k2 := k.2
      simp only [legalB, Bool.and_eq_true, inB, decide_eq_true_eq] at k2
      exact follow_inPlay (inPlay_step hb k2.2.2.1 k2.2.1.1 k2.2.2.2) h
    · cases h
theorem playO_inPlay {v : DVar} {b c : DBoard} {r : DRoll} {ss : List DStep} (hb : inPlay v b) (h : playO v b r ss = some c) : inPlay v c := by
  unfold playO at h
  split at h
  · cases h
  · obtain ⟨o, _, ho⟩ := List.exists_of_findSome?_eq_some h
    exact follow_inPlay hb ho
theorem inPlay_over {v : DVar} {b : DBoard} (h : boardD v b = true) (ho : overD b = false) : inPlay v b := by
  simp only [overD, Bool.or_eq_false_iff, decide_eq_false_iff_not] at ho
  exact ⟨h, ho.2⟩
theorem gameD_iff {v : DVar} {g : DGame} : gameD v g = true ↔ bigD v = true ∧ boardD v g.1 = true ∧ (0 ≤ g.2.1 ∧ g.2.1 ≤ 1) ∧ (0 ≤ g.2.2.2.2.2.2 ∧ g.2.2.2.2.2.2 ≤ 2000) ∧
  (if g.2.2.2.1 = 2 then rollD v g.2.2.1 else decide (g.2.2.1 = (0, 0))) = true ∧
  (if g.2.2.2.1 = 0 then decide (g.2.1 = 0) && decide (g.2.2.2.2.2.2 = 0) && decide (g.2.2.2.2.1 = 0) && decide (g.2.2.2.2.2.1 = 0) && sameD g.1 (startD v, startD v)
   else if g.2.2.2.1 = 1 ∨ g.2.2.2.1 = 2 then !overD g.1 && decide (g.2.2.2.2.1 = 0) && decide (g.2.2.2.2.2.1 = 0)
   else if g.2.2.2.1 = 3 then (if overD g.1 then decide (g.1.1.sum = 0) && decide (g.2.2.2.2.1 = g.2.1) && decide (g.2.2.2.2.2.1 = resD v g.1) else decide (g.2.2.2.2.1 = 1 - g.2.1) && inB g.2.2.2.2.2.1 1 3)
   else false) = true := by
  simp only [gameD, Bool.and_eq_true, inB, decide_eq_true_eq, and_assoc]
theorem game_run {v : DVar} {g : DGame} (h : gameD v g = true) (hp : g.2.2.2.1 = 1 ∨ g.2.2.2.1 = 2) : inPlay v g.1 ∧ overD g.1 = false ∧ g.2.2.2.2.1 = 0 ∧ g.2.2.2.2.2.1 = 0 := by
  obtain ⟨h1, h2, h3, h4, h5, h6⟩ := gameD_iff.1 h
  rw [if_neg (by omega), if_pos hp] at h6
  simp only [Bool.and_eq_true, Bool.not_eq_true', decide_eq_true_eq] at h6
  exact ⟨inPlay_over h2 h6.1.1, h6.1.1, h6.1.2, h6.2⟩
theorem game_turn {v : DVar} {g : DGame} {c : DBoard} (hb : bigD v = true) (hp : 0 ≤ g.2.1 ∧ g.2.1 ≤ 1) (ht : 0 ≤ g.2.2.2.2.2.2 ∧ g.2.2.2.2.2.2 < 2000) (hc : inPlay v c) : gameD v (turnD v g c) = true := by
  unfold turnD
  split
  · next ho =>
    have hs : c.1.sum = 0 := by
      simp only [overD, Bool.or_eq_true, decide_eq_true_eq] at ho
      exact ho.resolve_right hc.2
    refine gameD_iff.2 ⟨hb, hc.1, hp, ⟨by show 0 ≤ g.2.2.2.2.2.2 + 1; omega, by show g.2.2.2.2.2.2 + 1 ≤ 2000; omega⟩, ?_, ?_⟩
    · rw [if_neg (show ¬ (3 : Int) = 2 by decide)]; exact decide_eq_true rfl
    · rw [if_neg (show ¬ (3 : Int) = 0 by decide), if_neg (show ¬ ((3 : Int) = 1 ∨ (3 : Int) = 2) by decide), if_pos (show (3 : Int) = 3 from rfl)]
      rw [if_pos (show overD c = true from ho)]
      simp only [hs, decide_true, Bool.and_self]
  · next ho =>
    have ho' : overD (c.2, c.1) = false := by
      simp only [overD, Bool.or_eq_true, not_or, Bool.or_eq_false_iff] at ho ⊢
      exact ⟨by simpa using ho.2, by simpa using ho.1⟩
    refine gameD_iff.2 ⟨hb, boardS_swap hc.1, ⟨by show 0 ≤ 1 - g.2.1; omega, by show 1 - g.2.1 ≤ 1; omega⟩, ⟨by show 0 ≤ g.2.2.2.2.2.2 + 1; omega, by show g.2.2.2.2.2.2 + 1 ≤ 2000; omega⟩, ?_, ?_⟩
    · rw [if_neg (show ¬ (1 : Int) = 2 by decide)]; exact decide_eq_true rfl
    · rw [if_neg (show ¬ (1 : Int) = 0 by decide), if_pos (show ((1 : Int) = 1 ∨ (1 : Int) = 2) from .inl rfl)]
      simp only [ho', Bool.not_false, decide_true, Bool.and_self]
theorem game_rolled {v : DVar} {g : DGame} (h : gameD v g = true) (hp : g.2.2.2.1 = 1) {r : DRoll} (hr : rollD v r = true) : rollDiceD v g r = ((g.1, g.2.1, r, 2, g.2.2.2.2.1, g.2.2.2.2.2.1, g.2.2.2.2.2.2), 0) ∧ gameD v (rollDiceD v g r).1 = true := by
  have e : rollDiceD v g r = ((g.1, g.2.1, r, 2, g.2.2.2.2.1, g.2.2.2.2.2.1, g.2.2.2.2.2.2), 0) := by
    unfold rollDiceD
    rw [if_neg (by rw [h]; decide), if_neg (by omega), if_neg (by rw [hr]; decide)]
  obtain ⟨g1, g2, g3, g4⟩ := game_run h (.inl hp)
  obtain ⟨h1, h2, h3, h4, h5, h6⟩ := gameD_iff.1 h
  refine ⟨e, ?_⟩
  rw [e]
  refine gameD_iff.2 ⟨h1, h2, h3, h4, ?_, ?_⟩
  · rw [if_pos (show (2 : Int) = 2 from rfl)]; exact hr
  · rw [if_neg (show ¬ (2 : Int) = 0 by decide), if_pos (show ((2 : Int) = 1 ∨ (2 : Int) = 2) from .inr rfl)]
    simp only [g2, g3, g4, Bool.not_false, decide_true, Bool.and_self]
theorem game_rollDice {v : DVar} {g : DGame} {r : DRoll} (h : (rollDiceD v g r).2 = 0) : gameD v (rollDiceD v g r).1 = true := by
  by_cases h1 : gameD v g = false
  · unfold rollDiceD at h; rw [if_pos h1] at h; exact absurd (show (1 : Int) = 0 from h) (by decide)
  by_cases h2 : g.2.2.2.1 ≠ 1
  · unfold rollDiceD at h; rw [if_neg h1, if_pos h2] at h; exact absurd (show (5 : Int) = 0 from h) (by decide)
  by_cases h3 : rollD v r = false
  · unfold rollDiceD at h; rw [if_neg h1, if_neg h2, if_pos h3] at h; exact absurd (show (2 : Int) = 0 from h) (by decide)
  exact (game_rolled (by simpa using h1) (by omega) (by simpa using h3)).2
theorem game_resign {v : DVar} {g : DGame} {k : Int} (h : (resignD v g k).2 = 0) : gameD v (resignD v g k).1 = true ∧ (resignD v g k).1.2.2.2.2.1 = 1 - g.2.1 := by
  unfold resignD at h ⊢
  split at h
  · exact absurd (show (1 : Int) = 0 from h) (by decide)
  next h1 =>
  split at h
  · exact absurd (show (5 : Int) = 0 from h) (by decide)
  next h2 =>
  split at h
  · exact absurd (show (2 : Int) = 0 from h) (by decide)
  next h3 =>
  rw [if_neg h1, if_neg h2, if_neg h3]
  obtain ⟨g1, g2, g3, g4⟩ := game_run (g := g) (v := v) (by simpa using h1) (by omega)
  obtain ⟨k1, k2, k3, k4, k5, k6⟩ := gameD_iff.1 (show gameD v g = true by simpa using h1)
  refine ⟨gameD_iff.2 ⟨k1, k2, k3, k4, ?_, ?_⟩, rfl⟩
  · rw [if_neg (show ¬ (3 : Int) = 2 by decide)]; exact decide_eq_true rfl
  · rw [if_neg (show ¬ (3 : Int) = 0 by decide), if_neg (show ¬ ((3 : Int) = 1 ∨ (3 : Int) = 2) by decide), if_pos (show (3 : Int) = 3 from rfl)]
    rw [if_neg (show ¬ overD g.1 = true by rw [g2]; decide)]
    have : inB k 1 3 = true := by simpa using h3
    simp only [this, decide_true, Bool.and_self]
theorem sum_start {v : DVar} (h : bigD v = true) : (startD v).sum = v.2.1 := by
  simp only [bigD, Bool.and_eq_true, decide_eq_true_eq] at h
  obtain ⟨hv, h4⟩ := h
  obtain ⟨⟨g1, g1'⟩, ⟨g2, g2'⟩, ⟨g3, g3'⟩, g4⟩ := varD_iff.1 hv
  unfold startD
  split
  · next e => rw [e]; decide
  · have e1 : Int.tdiv v.2.1 2 = v.2.1 / 2 := Int.tdiv_eq_ediv_of_nonneg (by omega)
    have e2 : Int.tdiv v.1 2 = v.1 / 2 := Int.tdiv_eq_ediv_of_nonneg (by omega)
    rw [e1, e2, sum_setS (by simp; omega), sum_setS (by simp; omega), sum_repl]
    have a1 : ((List.replicate (v.1 + 1).toNat (0 : Int)).set (v.1 - 1).toNat (v.2.1 / 2)).getD (v.1 / 2 - 1).toNat 0 = 0 := by
      rw [List.getD_eq_getElem?_getD, List.getElem?_set_ne (by omega), List.getElem?_replicate]; split <;> rfl
    have a2 : (List.replicate (v.1 + 1).toNat (0 : Int)).getD (v.1 - 1).toNat 0 = 0 := by
      rw [List.getD_eq_getElem?_getD, List.getElem?_replicate]; split <;> rfl
    rw [a1, a2]; omega
theorem board_start {v : DVar} (h : bigD v = true) : boardD v (startD v, startD v) = true ∧ overD (startD v, startD v) = false := by
  have hs := sum_start h
  have hb := h
  simp only [bigD, Bool.and_eq_true, decide_eq_true_eq] at hb
  obtain ⟨hv, h4⟩ := hb
  obtain ⟨⟨g1, g1'⟩, ⟨g2, g2'⟩, ⟨g3, g3'⟩, g4⟩ := varD_iff.1 hv
  have hz : ¬ (startD v).sum = 0 := by omega
  refine ⟨boardD_iff.2 ⟨⟨hv, start_side h, start_side h⟩, fun e => hz e.1, ?_⟩, by simp [overD, hz]⟩
  unfold startD
  split
  · next e => rw [e]; decide
  · rw [clashS_no]
    have e2 : Int.tdiv v.1 2 = v.1 / 2 := Int.tdiv_eq_ediv_of_nonneg (by omega)
    intro j hj k1 k2
    have at0 : ∀ q : Nat, (List.replicate (v.1 + 1).toNat (0 : Int)).getD q 0 = 0 := fun q => by
      rw [List.getD_eq_getElem?_getD, List.getElem?_replicate]; split <;> rfl
    have pos : ∀ q : Nat, 0 < (((List.replicate (v.1 + 1).toNat (0 : Int)).set (v.1 - 1).toNat (Int.tdiv v.2.1 2)).set (Int.tdiv v.1 2 - 1).toNat (v.2.1 - Int.tdiv v.2.1 2)).getD q 0 → (q : Int) = v.1 - 1 ∨ (q : Int) = v.1 / 2 - 1 := fun q hq => by
      rw [getD_set, getD_set, at0, e2] at hq
      split at hq
      · omega
      · split at hq
        · omega
        · omega
    have p1 := pos _ k1
    have p2 := pos _ k2
    omega
theorem game_new {v : DVar} (h : bigD v = true) : gameD v (newG v) = true := by
  refine gameD_iff.2 ⟨h, (board_start h).1, ⟨by show (0 : Int) ≤ 0; decide, by show (0 : Int) ≤ 1; decide⟩, ⟨by show (0 : Int) ≤ 0; decide, by show (0 : Int) ≤ 2000; decide⟩, rfl, ?_⟩
  rw [if_pos (show (newG v).2.2.2.1 = 0 from rfl)]
  show (decide ((0 : Int) = 0) && decide ((0 : Int) = 0) && decide ((0 : Int) = 0) && decide ((0 : Int) = 0) && sameD (startD v, startD v) (startD v, startD v)) = true
  simp [sameD]
theorem game_open {v : DVar} {g : DGame} (h : gameD v g = true) (hp : g.2.2.2.1 = 0) {a b : Int} (ha : 1 ≤ a ∧ a ≤ v.2.2.2) (hb : 1 ≤ b ∧ b ≤ v.2.2.2) : gameD v (openD g a b) = true ∧ (a ≠ b → (openD g a b).2.2.2.1 = 2) := by
  obtain ⟨k1, k2, k3, k4, k5, k6⟩ := gameD_iff.1 h
  rw [if_pos hp] at k6
  simp only [Bool.and_eq_true, decide_eq_true_eq, sameD_iff] at k6
  obtain ⟨⟨⟨⟨q1, q2⟩, q3⟩, q4⟩, q5⟩ := k6
  have hv : varD v = true := by simp only [bigD, Bool.and_eq_true] at k1; exact k1.1
  have ho : overD g.1 = false := by rw [q5]; exact (board_start k1).2
  have ho2 : overD (g.1.2, g.1.1) = false := by rw [q5]; exact (board_start k1).2
  have hm : rollD v (max a b, min a b) = true := by
    simp only [rollD, hv, Bool.true_and, Bool.and_eq_true, inB, decide_eq_true_eq]; omega
  unfold openD
  split
  · next e => exact ⟨h, fun e' => absurd e e'⟩
  split
  · refine ⟨gameD_iff.2 ⟨k1, boardS_swap k2, ⟨by show (0 : Int) ≤ 1; decide, by show (1 : Int) ≤ 1; decide⟩, k4, ?_, ?_⟩, fun _ => rfl⟩
    · rw [if_pos (show (2 : Int) = 2 from rfl)]; exact hm
    · rw [if_neg (show ¬ (2 : Int) = 0 by decide), if_pos (show ((2 : Int) = 1 ∨ (2 : Int) = 2) from .inr rfl)]
      simp only [ho2, q3, q4, Bool.not_false, decide_true, Bool.and_self]
  · refine ⟨gameD_iff.2 ⟨k1, k2, k3, k4, ?_, ?_⟩, fun _ => rfl⟩
    · rw [if_pos (show (2 : Int) = 2 from rfl)]; exact hm
    · rw [if_neg (show ¬ (2 : Int) = 0 by decide), if_pos (show ((2 : Int) = 1 ∨ (2 : Int) = 2) from .inr rfl)]
      simp only [ho, q3, q4, Bool.not_false, decide_true, Bool.and_self]
theorem game_opening {v : DVar} {g : DGame} {a b : Int} (h : (openingD v g a b).2 = 0) : gameD v (openingD v g a b).1 = true := by
  unfold openingD at h ⊢
  split at h
  · exact absurd (show (1 : Int) = 0 from h) (by decide)
  next h1 =>
  split at h
  · exact absurd (show (5 : Int) = 0 from h) (by decide)
  next h2 =>
  split at h
  · exact absurd (show (2 : Int) = 0 from h) (by decide)
  next h3 =>
  rw [if_neg h1, if_neg h2, if_neg h3]
  simp only [not_or, Bool.not_eq_false, inB, Bool.and_eq_true, decide_eq_true_eq] at h3
  exact (game_open (by simpa using h1) (by omega) h3.1 h3.2).1
end Go.Proofs.Ytlnagcdnnaffgaa
