/-
  Plain: few points with checkers, few sequences; drawn games are played to their end.
-/
import Derived.Test.YtlnagcdnnaffgaaVTurn2
namespace Go.Proofs.Ytlnagcdnnaffgaa
open Go.RowKit
set_option linter.unusedSimpArgs false
set_option linter.unusedVariables false
/-- points with checkers -/
def occ (l : List Int) : Nat := l.countP (fun z => decide (0 < z))
theorem occ_cons (z : Int) (zs : List Int) : occ (z :: zs) = occ zs + (if 0 < z then 1 else 0) := by simp [occ, List.countP_cons]
theorem occ_set : ∀ {l : List Int} {i : Nat} {x : Int}, i < l.length → occ (l.set i x) + (if 0 < l.getD i 0 then 1 else 0) = occ l + (if 0 < x then 1 else 0)
  | [], i, x, h => by simp at h
  | z :: zs, 0, x, h => by simp only [List.set_cons_zero, List.getD_cons_zero, occ_cons]; omega
  | z :: zs, i + 1, x, h => by
    have := occ_set (l := zs) (i := i) (x := x) (by simpa using h)
    simp only [List.set_cons_succ, List.getD_cons_succ, occ_cons]; omega
theorem occ_take (l : List Int) (k : Nat) : occ (l.take (k + 1)) = occ (l.take k) + (if 0 < l.getD k 0 then 1 else 0) := by
  rw [List.take_add_one, List.getD_eq_getElem?_getD]
  cases l[k]? with
  | none => simp
  | some z => simp [occ, List.countP_append, List.countP_cons]
theorem occ_take_le (l : List Int) (k : Nat) : occ (l.take k) ≤ occ l := (List.take_sublist k l).countP_le
theorem occ_sub (l : List Int) (i : Int) : occ (subAt l i) ≤ occ l := by
  unfold subAt
  by_cases h : i.toNat < l.length
  · have := occ_set (x := l.getD i.toNat 0 - 1) h
    split at this <;> split at this <;> omega
  · rw [List.set_eq_of_length_le (by omega)]; exact Nat.le_refl _
theorem occ_add (l : List Int) (i x : Int) : occ (addAt l i x) ≤ occ l + 1 := by
  unfold addAt
  by_cases h : i.toNat < l.length
  · have := occ_set (x := l.getD i.toNat 0 + x) h
    split at this <;> split at this <;> omega
  · rw [List.set_eq_of_length_le (by omega)]; omega
theorem occ_hit {l : List Int} {i : Int} (h : l.getD i.toNat 0 = 1) (k : Int) : occ (addAt (subAt l i) k 1) ≤ occ l := by
  have h1 : i.toNat < l.length := Nat.lt_of_not_le fun e => by rw [List.getD_eq_getElem?_getD, List.getElem?_eq_none e] at h; simp at h
  have e : subAt l i = l.set i.toNat 0 := by unfold subAt; rw [h]; rfl
  have h2 := occ_set (x := 0) h1
  have h3 := occ_add (subAt l i) k 1
  rw [h, if_pos (by decide), if_neg (by decide)] at h2
  rw [e] at h3 ⊢
  omega
theorem legalR_occ {v : DVar} {b : DBoard} {d : Int} (h0 : ∀ k : Nat, 0 ≤ b.1.getD k 0) : ∀ k : Nat, (legalR v b d k).length ≤ occ (b.1.take k)
  | 0 => by simp [legalR]
  | k + 1 => by
    have ih := legalR_occ (v := v) (d := d) h0 k
    simp only [legalR, List.length_append]
    rw [occ_take]
    cases hs : stepD v b k d with
    | none => simp; omega
    | some s =>
      have hne : b.1.getD k 0 ≠ 0 := fun e => by
        unfold stepD at hs
        rw [if_pos (.inl (by simpa using e))] at hs; cases hs
      have := h0 k
      rw [if_pos (by omega)]
      simp; omega
theorem legalD_occ {v : DVar} {b : DBoard} {d : Int} (h0 : ∀ k : Nat, 0 ≤ b.1.getD k 0) : (legalD v b d).length ≤ occ b.1 := by
  unfold legalD
  split
  · simp
  · exact Nat.le_trans (legalR_occ h0 _) (occ_take_le _ _)
theorem legalR_step {v : DVar} {b : DBoard} {d : Int} {s : DStep} : ∀ {k : Nat}, s ∈ legalR v b d k → ∃ f, stepD v b f d = some s
  | 0, h => by simp [legalR] at h
  | k + 1, h => by
    simp only [legalR, List.mem_append, Option.mem_toList] at h
    rcases h with h | h
    · exact ⟨k, h⟩
    · exact legalR_step h
theorem stepD_hit {v : DVar} {b : DBoard} {f d : Int} {s : DStep} (h : stepD v b f d = some s) (hh : s.2.2.2 = true) : b.2.getD (v.1 - 1 - s.2.1).toNat 0 = 1 := by
  unfold stepD at h
  split at h
  · cases h
  split at h
  · split at h
    · cases h; simpa using hh
    · cases h
  · split at h
    · cases h
    · cases h; cases hh
theorem occ_after {v : DVar} {b : DBoard} {d : Int} {s : DStep} (h : s ∈ legalD v b d) : occ (afterD v b s).1 ≤ occ b.1 + 1 ∧ occ (afterD v b s).2 ≤ occ b.2 := by
  unfold legalD at h
  split at h
  · simp at h
  obtain ⟨f, hf⟩ := legalR_step h
  have h1 := occ_sub b.1 s.1
  have h2 := occ_add (subAt b.1 s.1) s.2.1 1
  unfold afterD
  refine ⟨?_, ?_⟩
  · dsimp only
    split <;> omega
  · dsimp only
    split
    · next hh => exact occ_hit (stepD_hit hf hh) _
    · exact Nat.le_refl _
def prodF (f : Nat → Nat) (k : Nat) : Nat → Nat
  | 0 => 1
  | j + 1 => f k * prodF f (k + 1) j
theorem flat_few {v : DVar} {d : Int} {N : Nat} : ∀ {ps : List DPlay}, (∀ p, p ∈ ps → (legalD v p.2 d).length ≤ N) → (ps.flatMap (stepsOf v d)).length ≤ ps.length * N
  | [], _ => by simp
  | p :: ps, h => by
    have h1 := flat_few (ps := ps) fun q hq => h q (List.mem_cons_of_mem _ hq)
    have h2 := h p (by simp)
    have e : (stepsOf v d p).length = (legalD v p.2 d).length := by simp [stepsOf]
    rw [List.flatMap_cons, List.length_append, e, List.length_cons, Nat.add_mul, Nat.one_mul]; omega
theorem next_few {v : DVar} {ps : List DPlay} {d : Int} {N : Nat} (h : ∀ p, p ∈ ps → (legalD v p.2 d).length ≤ N) : (nextD v ps d).length ≤ ps.length * N := by
  have h1 := (len_foldl_addP (ps.flatMap (stepsOf v d)) []).2
  have h2 := flat_few h
  unfold nextD
  simp only [List.length_nil, Nat.zero_add] at h1
  omega
theorem next_from {v : DVar} {ps : List DPlay} {d : Int} {q : DPlay} (h : q ∈ nextD v ps d) : ∃ p, p ∈ ps ∧ ∃ s, s ∈ legalD v p.2 d ∧ q.2 = afterD v p.2 s := by
  rcases mem_foldl_addP h with h | h
  · simp at h
  · obtain ⟨p, hp, hq⟩ := List.mem_flatMap.1 h
    obtain ⟨s, hs, rfl⟩ := List.mem_map.1 hq
    exact ⟨p, hp, s, hs, rfl⟩
theorem seq_few {v : DVar} {P : Nat → DBoard → Prop} {f : Nat → Nat} (hstep : ∀ k b d s, P k b → 1 ≤ d → s ∈ legalD v b d → P (k + 1) (afterD v b s)) (hlen : ∀ k b d, P k b → (legalD v b d).length ≤ f k) :
    ∀ (o : List Int) (k : Nat) (ps : List DPlay), (∀ p, p ∈ ps → P k p.2) → (∀ d, d ∈ o → 1 ≤ d) → (∀ j, j ≤ o.length → ps.length * prodF f k j ≤ 3000) → (seqD v ps o).all fewB = true
  | [], k, ps, _, _, _ => rfl
  | d :: o, k, ps, hp, hd, hj => by
    have hn := next_few (v := v) (ps := ps) (d := d) (N := f k) fun p hq => hlen k _ d (hp p hq)
    simp only [seqD]
    split
    · rfl
    · simp only [List.all_cons, Bool.and_eq_true]
      refine ⟨?_, seq_few hstep hlen o (k + 1) _ (fun q hq => ?_) (fun e he => hd e (List.mem_cons_of_mem _ he)) (fun j hjl => ?_)⟩
      · have h1 := hj 1 (by simp)
        simp only [prodF, Nat.mul_one] at h1
        simp only [fewB, decide_eq_true_eq]; omega
      · obtain ⟨p, hp1, s, hs, e⟩ := next_from hq
        rw [e]; exact hstep k _ d s (hp p hp1) (hd d (by simp)) hs
      · have h1 := hj (j + 1) (by simp; omega)
        simp only [prodF, ← Nat.mul_assoc] at h1
        exact Nat.le_trans (Nat.mul_le_mul_right _ hn) h1
theorem okB_at {v : DVar} {b : DBoard} (h : okB v b) (k : Nat) : 0 ≤ b.1.getD k 0 := (h.facts.1.at k).1
theorem five : ∀ j, j ≤ 4 → 1 * prodF (fun k => 5 + k) 0 j ≤ 3000 := by decide
theorem fitsP_occ {v : DVar} {b : DBoard} (hb : okB v b) (ho : occ b.1 ≤ 5) {o : List Int} (hd : DiceOk o) : fitsP v b o = true := by
  refine seq_few (P := fun k c => okB v c ∧ occ c.1 ≤ 5 + k) (f := fun k => 5 + k) (fun k c d s hP h1 hs => ?_) (fun k c d hP => ?_) o 0 (startP b) (fun p hp => ?_) (fun d h => (hd.2 d h).1) (fun j hj => ?_)
  · have := (occ_after hs).1
    exact ⟨okB_after hP.1 (legalD_fits hP.1 h1 hs), by omega⟩
  · exact Nat.le_trans (legalD_occ (okB_at hP.1)) hP.2
  · simp only [startP, List.mem_singleton] at hp
    subst hp
    exact ⟨hb, ho⟩
  · have := hd.1
    simpa [startP] using five j (by omega)
theorem fitsA_occ {v : DVar} {g : DGame} (hb : okB v g.1) (hr : rollD v g.2.2.1 = true) (ho : occ g.1.1 ≤ 5) : fitsA v g = true := by
  simp only [fitsA, List.all_eq_true]
  exact fun o h => fitsP_occ hb ho (ordersD_ok hr o h)
theorem occ_sum : ∀ {l : List Int}, (∀ z, z ∈ l → 0 ≤ z) → (occ l : Int) ≤ l.sum
  | [], _ => by simp [occ]
  | z :: zs, h => by
    have h1 := occ_sum (l := zs) fun y hy => h y (List.mem_cons_of_mem _ hy)
    have h2 := h z (by simp)
    rw [occ_cons, List.sum_cons]
    split <;> omega
theorem occ_four {v : DVar} {b : DBoard} (hb : okB v b) (h4 : v.2.1 ≤ 4) : occ b.1 ≤ 5 := by
  have h1 := hb.2.1
  simp only [sideD, fitsD, Bool.and_eq_true, decide_eq_true_eq, List.all_eq_true] at h1
  have := occ_sum h1.2.1
  omega
theorem last_keeps {v : DVar} {Q : DBoard → Prop} (hstep : ∀ b d s, Q b → s ∈ legalD v b d → Q (afterD v b s)) : ∀ (o : List Int) (ps : List DPlay), (∀ p, p ∈ ps → Q p.2) → ∀ p, p ∈ lastD ps (seqD v ps o) → Q p.2
  | [], ps, h, p, hp => h p hp
  | d :: o, ps, h, p, hp => by
    simp only [seqD] at hp
    split at hp
    · exact h p hp
    · simp only [lastD] at hp
      refine last_keeps hstep o (nextD v ps d) (fun q hq => ?_) p hp
      obtain ⟨r, hr, s, hs, e⟩ := next_from hq
      rw [e]; exact hstep _ d s (h r hr) hs
theorem allD_keeps {v : DVar} {Q : DBoard → Prop} (hstep : ∀ b d s, Q b → s ∈ legalD v b d → Q (afterD v b s)) {b : DBoard} {r : DRoll} (hb : Q b) {p : DPlay} (h : p ∈ allD v b r) : Q p.2 := by
  rcases mem_foldl_addP h with h | h
  · simp at h
  obtain ⟨o, ho, hp⟩ := List.mem_flatMap.1 h
  refine last_keeps hstep o (startP b) (fun q hq => ?_) p hp
  simp only [startP, List.mem_singleton] at hq
  subst hq; exact hb
theorem turnIt_game {v : DVar} : ∀ (n : Nat) (p : DGame × Int), gameD v p.1 = true → 1 ≤ p.2 ∧ p.2 ≤ 2147483646 → p.1.2.2.2.1 ≠ 0 → p.1.2.2.2.2.2.2 + n ≤ 2000 → (turnIt v n p).2 = true → gameD v (turnIt v n p).1.1 = true
  | 0, p, hg, _, _, _, _ => hg
  | n + 1, p, hg, hz, h0, ht, hT => by
    by_cases h3 : p.1.2.2.2.1 = 3
    · rw [turnIt_stop _ (.inr h3)]; exact hg
    by_cases hf : fitsA v (rolled v p).1 = true
    · have hR := rolled_ok hg hz h0 h3
      have htn := turnD_ph v (rolled v p).1 ((allD v (rolled v p).1.1 (rolled v p).1.2.2.1).getD 0 ([], ([], []))).2
      rw [turnIt_step h3 hf] at hT ⊢
      refine turnIt_game n _ (turn_game hg hz h0 h3 (by omega)) hR.2.2.2.2.2.2.1 htn.1 ?_ hT
      dsimp only
      rw [htn.2, hR.2.2.2.2.1]; omega
    · rw [turnIt_fail h3 (by simpa using hf)] at hT; cases hT
theorem turnIt_four {v : DVar} (h4 : v.2.1 ≤ 4) : ∀ (n : Nat) (p : DGame × Int), gameD v p.1 = true → 1 ≤ p.2 ∧ p.2 ≤ 2147483646 → p.1.2.2.2.1 ≠ 0 → p.1.2.2.2.2.2.2 + n ≤ 2000 → (turnIt v n p).2 = true
  | 0, p, _, _, _, _ => rfl
  | n + 1, p, hg, hz, h0, ht => by
    by_cases h3 : p.1.2.2.2.1 = 3
    · rw [turnIt_stop _ (.inr h3)]
    have hR := rolled_ok hg hz h0 h3
    have hb := (boardD_iff.1 hR.2.1.1).1
    have hf : fitsA v (rolled v p).1 = true := fitsA_occ hb hR.2.2.1 (occ_four hb h4)
    have htn := turnD_ph v (rolled v p).1 ((allD v (rolled v p).1.1 (rolled v p).1.2.2.1).getD 0 ([], ([], []))).2
    rw [turnIt_step h3 hf]
    refine turnIt_four h4 n _ (turn_game hg hz h0 h3 (by omega)) hR.2.2.2.2.2.2.1 htn.1 ?_
    dsimp only
    rw [htn.2, hR.2.2.2.2.1]; omega
/-- the fifteen first rolls: the first play leaves at most five points with checkers -/
def rolls15 : List DRoll := [(2, 1), (3, 1), (3, 2), (4, 1), (4, 2), (4, 3), (5, 1), (5, 2), (5, 3), (5, 4), (6, 1), (6, 2), (6, 3), (6, 4), (6, 5)]
theorem first15 : rolls15.all (fun r => decide (occ ((allD (24, 15, 6, 6) (startD (24, 15, 6, 6), startD (24, 15, 6, 6)) r).getD 0 ([], ([], []))).2.1 ≤ 5)) = true := by kernel_rfl
theorem rolls15_mem {r : DRoll} (h1 : 1 ≤ r.2) (h2 : r.2 < r.1) (h3 : r.1 ≤ 6) : r ∈ rolls15 := by
  obtain ⟨a, b⟩ := r
  dsimp only at h1 h2 h3
  have ha : a = 2 ∨ a = 3 ∨ a = 4 ∨ a = 5 ∨ a = 6 := by omega
  have hb : b = 1 ∨ b = 2 ∨ b = 3 ∨ b = 4 ∨ b = 5 := by omega
  rcases ha with rfl | rfl | rfl | rfl | rfl <;> rcases hb with rfl | rfl | rfl | rfl | rfl <;> first | (exfalso; omega) | decide
/-- a game that is open: the first boards, and a roll of two faces -/
theorem openIt_form {v : DVar} (hb : bigD v = true) : ∀ (m : Nat) (z : Int), 1 ≤ z ∧ z ≤ 2147483646 → (openIt v m (newG v, z)).1.2.2.2.1 ≠ 0 →
    (openIt v m (newG v, z)).1.1 = (startD v, startD v) ∧ rollD v (openIt v m (newG v, z)).1.2.2.1 = true ∧ (openIt v m (newG v, z)).1.2.2.1.2 < (openIt v m (newG v, z)).1.2.2.1.1 ∧ (openIt v m (newG v, z)).1.2.2.2.1 = 2
  | 0, z, hz, h => absurd rfl h
  | m + 1, z, hz, h => by
    have hv : varD v = true := by simp only [bigD, Bool.and_eq_true] at hb; exact hb.1
    have hs := seedN_pos (seedN_pos hz)
    have hi := rollF_in hv (z := z) (by omega)
    have e : openIt v (m + 1) (newG v, z) = openIt v m (openD (newG v) (rollF v z).1 (rollF v z).2, seedN (seedN z)) := by
      simp only [openIt]; rw [if_pos (show (newG v).2.2.2.1 = 0 from rfl)]; rfl
    rw [e] at h ⊢
    by_cases hr : (rollF v z).1 = (rollF v z).2
    · rw [show openD (newG v) (rollF v z).1 (rollF v z).2 = newG v from if_pos hr] at h ⊢
      exact openIt_form hb m _ hs h
    · have ho := (game_open (game_new hb) rfl hi.1 hi.2).2 hr
      rw [openIt_stop _ (.inr (by show (openD (newG v) (rollF v z).1 (rollF v z).2).2.2.2.1 ≠ 0; rw [ho]; decide))]
      have hm : rollD v (max (rollF v z).1 (rollF v z).2, min (rollF v z).1 (rollF v z).2) = true := by
        simp only [rollD, hv, Bool.true_and, Bool.and_eq_true, inB, decide_eq_true_eq]; omega
      have hlt : min (rollF v z).1 (rollF v z).2 < max (rollF v z).1 (rollF v z).2 := by omega
      dsimp only
      unfold openD
      rw [if_neg hr]
      split
      · exact ⟨rfl, hm, hlt, rfl⟩
      · exact ⟨rfl, hm, hlt, rfl⟩
/-- the board of the first play -/
def firstB (v : DVar) (p : DGame × Int) : DBoard := ((allD v (rolled v p).1.1 (rolled v p).1.2.2.1).getD 0 ([], ([], []))).2
def afterG (v : DVar) (p : DGame × Int) : DGame × Int := (turnD v (rolled v p).1 (firstB v p), (rolled v p).2)
theorem turn_next {v : DVar} {p : DGame × Int} (hg : gameD v p.1 = true) (hz : 1 ≤ p.2 ∧ p.2 ≤ 2147483646) (h0 : p.1.2.2.2.1 ≠ 0) (h3 : p.1.2.2.2.1 ≠ 3) (ht : p.1.2.2.2.2.2.2 < 2000) (ho : occ p.1.1.1 ≤ 5) :
    (∀ n, turnIt v (n + 1) p = turnIt v n (afterG v p)) ∧ gameD v (afterG v p).1 = true ∧ (1 ≤ (afterG v p).2 ∧ (afterG v p).2 ≤ 2147483646) ∧ (afterG v p).1.2.2.2.1 ≠ 0 ∧ (afterG v p).1.2.2.2.2.2.2 = p.1.2.2.2.2.2.2 + 1 ∧
    ((afterG v p).1.2.2.2.1 = 3 ∨ (afterG v p).1.1 = ((firstB v p).2, (firstB v p).1)) ∧ occ (firstB v p).2 ≤ occ p.1.1.2 := by
  obtain ⟨r0, r1, r2, r3, r4, r5, r6, r7⟩ := rolled_ok hg hz h0 h3
  have hb := (boardD_iff.1 r1.1).1
  have htn := turnD_ph v (rolled v p).1 (firstB v p)
  refine ⟨fun n => turnIt_step h3 (fitsA_occ hb r2 (by rw [r5]; exact ho)), turn_game hg hz h0 h3 ht, r6, htn.1, by show (turnD v (rolled v p).1 (firstB v p)).2.2.2.2.2.2 = _; rw [htn.2, r4], ?_, ?_⟩
  · show (turnD v (rolled v p).1 (firstB v p)).2.2.2.1 = 3 ∨ (turnD v (rolled v p).1 (firstB v p)).1 = _
    unfold turnD
    split
    · exact .inl rfl
    · exact .inr rfl
  · exact allD_keeps (Q := fun b => occ b.2 ≤ occ p.1.1.2) (fun b d s h hs => Nat.le_trans (occ_after hs).2 h) (by rw [r5]; exact Nat.le_refl _) (getD_mem (allD_one v _ _) _)
theorem occ_start : occ (startD (24, 15, 6, 6)) = 4 := by decide
theorem turns_full {z : Int} (hz : 1 ≤ z ∧ z ≤ 2147483646) (h0 : (opened (24, 15, 6, 6) z).1.2.2.2.1 ≠ 0) : ∀ {n : Nat}, n ≤ 3 → (turnIt (24, 15, 6, 6) n (opened (24, 15, 6, 6) z)).2 = true := by
  have hb : bigD (24, 15, 6, 6) = true := by decide
  obtain ⟨o1, o2, o3, o4⟩ := opened_ok hb hz
  obtain ⟨f1, f2, f3, f4⟩ := openIt_form hb 100 z hz h0
  change (opened (24, 15, 6, 6) z).1.1 = _ at f1
  change rollD _ (opened (24, 15, 6, 6) z).1.2.2.1 = true at f2
  change (opened (24, 15, 6, 6) z).1.2.2.1.2 < (opened (24, 15, 6, 6) z).1.2.2.1.1 at f3
  change (opened (24, 15, 6, 6) z).1.2.2.2.1 = 2 at f4
  generalize opened (24, 15, 6, 6) z = p at *
  obtain ⟨a1, a2, a3, a4, a5, a6, a7⟩ := turn_next o1 o4 h0 (by omega) (by omega) (by rw [f1, occ_start]; decide)
  have hfirst : occ (firstB (24, 15, 6, 6) p).1 ≤ 5 := by
    have hr : rolled (24, 15, 6, 6) p = p := if_neg (by omega)
    have hm : p.1.2.2.1 ∈ rolls15 := by
      have := rollD_facts f2
      exact rolls15_mem this.2.1 f3 this.1.2
    have := List.all_eq_true.1 first15 _ hm
    unfold firstB
    rw [hr, f1]
    simpa using this
  have hsec : occ (firstB (24, 15, 6, 6) p).2 ≤ 4 := by rw [f1, occ_start] at a7; exact a7
  intro n hn
  rcases n with _ | n
  · rfl
  rw [a1]
  rcases n with _ | n
  · rfl
  by_cases e3 : (afterG (24, 15, 6, 6) p).1.2.2.2.1 = 3
  · rw [turnIt_stop _ (.inr e3)]
  have eb := a6.resolve_left e3
  obtain ⟨b1, b2, b3, b4, b5, b6, b7⟩ := turn_next a2 a3 a4 e3 (by omega) (by rw [eb]; dsimp only; omega)
  rw [b1]
  rcases n with _ | n
  · rfl
  by_cases e4 : (afterG (24, 15, 6, 6) (afterG (24, 15, 6, 6) p)).1.2.2.2.1 = 3
  · rw [turnIt_stop _ (.inr e4)]
  have ec := b6.resolve_left e4
  rw [eb] at b7
  obtain ⟨c1, -⟩ := turn_next b2 b3 b4 e4 (by omega) (by rw [ec]; dsimp only at b7 ⊢; omega)
  rw [c1]
  obtain rfl : n = 0 := by omega
  rfl
end Go.Proofs.Ytlnagcdnnaffgaa
