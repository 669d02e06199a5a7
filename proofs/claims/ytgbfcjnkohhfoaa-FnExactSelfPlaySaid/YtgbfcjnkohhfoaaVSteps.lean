/-
  Contracts: steps that follow an order.
-/
import Derived.Test.YtgbfcjnkohhfoaaVAll
import Derived.Test.YtgbfcjnkohhfoaaAbL
namespace Go.Proofs.Ytgbfcjnkohhfoaa
open Go.RowKit
set_option linter.unusedSimpArgs false
set_option linter.unusedVariables false
/-- the board after steps with the dice of an order -/
def followD (v : DVar) : List Int → List DStep → DBoard → Option DBoard
  | _, [], b => some b
  | [], _ :: _, _ => none
  | d :: ds, s :: ss, b => if s.2.2.1 = d ∧ legalB v b s = true then followD v ds ss (afterD v b s) else none
theorem followD_long {v : DVar} : ∀ {o : List Int} {ss : List DStep} {b : DBoard}, o.length < ss.length → followD v o ss b = none
  | _, [], _, h => by simp at h
  | [], _ :: _, _, _ => rfl
  | d :: ds, s :: ss, b, h => by
    simp only [followD]
    split
    · exact followD_long (by simpa using h)
    · rfl
theorem follow_nil (v : DVar) (o : List Int) (b : DBoard) : followD v o [] b = some b := by cases o <;> rfl
theorem legalB_fits {v : DVar} {b : DBoard} {s : DStep} (hb : okB v b) (h : legalB v b s = true) : stepFits v b s := by
  simp only [legalB, Bool.and_eq_true, decide_eq_true_eq, inB_iff] at h
  exact stepD_fits hb h.2.2.1 h.2.1.1 h.2.2.2
theorem follow_step {v : DVar} {o : List Int} {ss : List DStep} {b : DBoard} {k : Nat} (h1 : k < ss.length) (h2 : k < o.length) : followD v (o.drop k) (ss.drop k) b = if (ss.getD k (0, 0, 0, false)).2.2.1 = o.getD k 0 ∧ legalB v b (ss.getD k (0, 0, 0, false)) = true then followD v (o.drop (k + 1)) (ss.drop (k + 1)) (afterD v b (ss.getD k (0, 0, 0, false))) else none := by
  rw [drop_cons h1 (0, 0, 0, false), drop_cons h2 0, followD]
theorem follow_out {v : DVar} {o : List Int} {ss : List DStep} {b : DBoard} {k : Nat} (h1 : k < ss.length) (h2 : o.length ≤ k) : followD v (o.drop k) (ss.drop k) b = none := by
  rw [drop_cons h1 (0, 0, 0, false), List.drop_eq_nil_of_le h2, followD]
theorem okB_ne {v : DVar} {b : DBoard} (hb : okB v b) : NeB b := by
  have hF := hb.facts
  exact ⟨⟨fun e => by have := hF.2.2.1; rw [e] at this; simp at this; omega, by omega⟩, fun e => by have := hF.2.2.2.1; rw [e] at this; simp at this; omega, by omega⟩
def firstF (v : DVar) (b : DBoard) (ss : List DStep) (l : List (List Int)) : Option DBoard := l.findSome? fun o => followD v o ss b
def playO (v : DVar) (b : DBoard) (r : DRoll) (ss : List DStep) : Option DBoard :=
  if (ss.length : Int) ≠ usedD v b r then none else firstF v b ss (selD v b (usedD v b r) (ordersD r))
def playStepsD (v : DVar) (b : DBoard) (r : DRoll) (ss : List DStep) : DBoard × Int :=
  if codeD v b r ≠ 0 then (([], []), codeD v b r) else ((playO v b r ss).getD ([], []), if (playO v b r ss).isSome then 0 else 5)
theorem firstF_cons (v : DVar) (b : DBoard) (ss : List DStep) (o : List Int) (l : List (List Int)) : firstF v b ss (o :: l) = (match followD v o ss b with | some c => some c | none => firstF v b ss l) := by
  simp only [firstF, List.findSome?_cons]
  cases followD v o ss b <;> rfl
theorem legal_mem_R {v : DVar} {b : DBoard} {d : Int} {s : DStep} {f : Nat} (h : stepD v b f d = some s) : ∀ {k : Nat}, f < k → s ∈ legalR v b d k
  | k + 1, hk => by
    simp only [legalR, List.mem_append, Option.mem_toList]
    by_cases e : f = k
    · subst e; exact .inl h
    · exact .inr (legal_mem_R h (by omega))
theorem legalB_mem {v : DVar} {b : DBoard} {s : DStep} (h : legalB v b s = true) : s ∈ legalD v b s.2.2.1 := by
  simp only [legalB, Bool.and_eq_true, decide_eq_true_eq, inB_iff, Bool.not_eq_true'] at h
  obtain ⟨h0, _, h2, h3⟩ := h
  unfold legalD
  rw [h0, if_neg (by decide)]
  obtain ⟨k, hk⟩ : ∃ k : Nat, s.1 = k := ⟨s.1.toNat, by omega⟩
  rw [hk] at h3
  exact legal_mem_R h3 (by omega)
theorem addP_has (out : List DPlay) (p : DPlay) : ∃ q, q ∈ addP out p ∧ q.2 = p.2 := by
  unfold addP
  split
  · next h =>
    obtain ⟨q, h1, h2⟩ := List.any_eq_true.1 h
    exact ⟨q, h1, of_decide_eq_true h2⟩
  · exact ⟨p, by simp, rfl⟩
theorem addP_keep {out : List DPlay} {p q : DPlay} (h : q ∈ out) : q ∈ addP out p := by
  unfold addP; split
  · exact h
  · exact List.mem_append_left _ h
theorem foldl_keep : ∀ {l out : List DPlay} {q : DPlay}, q ∈ out → q ∈ l.foldl addP out
  | [], _, _, h => h
  | p :: l, _, _, h => foldl_keep (l := l) (addP_keep h)
theorem foldl_has : ∀ {l out : List DPlay} {p : DPlay}, p ∈ l → ∃ q, q ∈ l.foldl addP out ∧ q.2 = p.2
  | x :: l, out, p, h => by
    rcases List.mem_cons.1 h with rfl | h
    · obtain ⟨q, h1, h2⟩ := addP_has out p
      exact ⟨q, foldl_keep (l := l) h1, h2⟩
    · exact foldl_has (l := l) (out := addP out x) h
/-- steps that follow an order are no more than the dice that can be used -/
theorem follow_le {v : DVar} : ∀ {o : List Int} {ss : List DStep} {b c : DBoard} {ps : List DPlay}, (∃ p, p ∈ ps ∧ p.2 = b) → followD v o ss b = some c → ss.length ≤ (seqD v ps o).length
  | _, [], _, _, _, _, _ => by simp
  | [], _ :: _, _, _, _, _, h => by cases h
  | d :: ds, s :: ss, b, c, ps, ⟨p, hp, hb⟩, h => by
    simp only [followD] at h
    split at h
    · next hs =>
      obtain ⟨hd, hl⟩ := hs
      have hm := legalB_mem hl
      rw [hd] at hm
      have hx : (p.1 ++ [s], afterD v p.2 s) ∈ ps.flatMap (stepsOf v d) := List.mem_flatMap.2 ⟨p, hp, List.mem_map.2 ⟨s, by rw [hb]; exact hm, rfl⟩⟩
      obtain ⟨q, hq1, hq2⟩ := foldl_has (out := []) hx
      have hne : nextD v ps d ≠ [] := fun e => by unfold nextD at e; rw [e] at hq1; simp at hq1
      have := follow_le (ps := nextD v ps d) ⟨q, hq1, by rw [hq2, ← hb]⟩ h
      simp only [seqD, if_neg hne, List.length_cons]; omega
    · cases h
theorem follow_none {v : DVar} {b : DBoard} {o : List Int} {ss : List DStep} (h : seqN v b o < (ss.length : Int)) : followD v o ss b = none := by
  cases hf : followD v o ss b with
  | none => rfl
  | some c =>
    have := follow_le (ps := startP b) ⟨([], b), by simp [startP], rfl⟩ hf
    unfold seqN at h; omega
theorem firstF_filter {v : DVar} {b : DBoard} {r : DRoll} {ss : List DStep} (hn : (ss.length : Int) = usedD v b r) : ∀ (l : List (List Int)), (∀ o, o ∈ l → o ∈ ordersD r) → firstF v b ss l = firstF v b ss (l.filter fun o => decide (seqN v b o = usedD v b r))
  | [], _ => rfl
  | o :: l, h => by
    have ih := firstF_filter hn l fun x hx => h x (List.mem_cons_of_mem _ hx)
    have hle := seqN_le (v := v) (b := b) (h o (List.mem_cons_self ..))
    by_cases e : seqN v b o = usedD v b r
    · rw [List.filter_cons_of_pos (by simpa using e), firstF_cons, firstF_cons, ih]
    · rw [List.filter_cons_of_neg (by simpa using e), firstF_cons, follow_none (by omega)]
      exact ih
theorem seqN_pos {v : DVar} {b : DBoard} {d : Int} {ds : List Int} : 1 ≤ seqN v b (d :: ds) ↔ legalD v b d ≠ [] := by
  rw [Ne, ← nextD_start]
  unfold seqN
  simp only [seqD]
  split
  · next h => simp [h]
  · next h => simp only [List.length_cons, h, not_false_eq_true, iff_true]; omega
/-- the reference tries all orders, or the first alone: it comes to the same -/
theorem firstF_spec {v : DVar} {b : DBoard} {r : DRoll} {ss : List DStep} (hn : (ss.length : Int) = usedD v b r) : firstF v b ss (if usedD v b r = 1 ∧ (ordersD r).length = 2 ∧ legalD v b r.1 ≠ [] then (ordersD r).take 1 else ordersD r) = firstF v b ss (selD v b (usedD v b r) (ordersD r)) := by
  have hall := firstF_filter (v := v) (b := b) (r := r) hn (ordersD r) fun o h => h
  unfold selD
  by_cases h1 : usedD v b r = 1
  · rw [if_pos h1]
    unfold ordersD at hall ⊢
    by_cases hr : r.1 = r.2
    · rw [if_pos hr] at hall ⊢
      rw [if_neg (by simp), hall]
      by_cases e : seqN v b [r.1, r.1, r.1, r.1] = usedD v b r <;> simp [e]
    · rw [if_neg hr] at hall ⊢
      have hA := seqN_le (v := v) (b := b) (r := r) (o := [r.1, r.2]) (by unfold ordersD; rw [if_neg hr]; simp)
      have hp := seqN_pos (v := v) (b := b) (d := r.1) (ds := [r.2])
      by_cases hl : legalD v b r.1 = []
      · rw [if_neg (fun h => h.2.2 hl), hall]
        have : ¬ seqN v b [r.1, r.2] = usedD v b r := fun e => by have := hp.1 (by omega); exact this hl
        by_cases e : seqN v b [r.2, r.1] = usedD v b r <;> simp [e, this]
      · rw [if_pos ⟨h1, by simp, hl⟩]
        have : seqN v b [r.1, r.2] = usedD v b r := by have := hp.2 hl; omega
        simp [this]
  · rw [if_neg h1, if_neg (fun h => h1 h.1), hall]
end Go.Proofs.Ytgbfcjnkohhfoaa
