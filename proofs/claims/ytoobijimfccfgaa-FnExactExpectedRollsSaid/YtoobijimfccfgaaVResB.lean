/-
  Contracts: the reference's lists of results.
-/
import Derived.Test.YtoobijimfccfgaaVResA
import Derived.Test.YtoobijimfccfgaaLibS
namespace Go.Proofs.Ytoobijimfccfgaa
open Go.RowKit
set_option linter.unusedSimpArgs false
set_option linter.unusedVariables false
def befTo (p q : List Int) (k : Nat) : Bool := decide (cmpTo p q k < 0)
theorem befTo_succ (p q : List Int) (k : Nat) : befTo p q (k + 1) = if p.getD k 0 = q.getD k 0 then befTo p q k else decide (p.getD k 0 < q.getD k 0) := by
  unfold befTo
  split
  · next e => simp only [cmpTo, if_pos e]
  · next e => simp only [cmpTo, if_neg e, decide_eq_decide]; omega
def c_spec_l10Before : Con where
  ins := [(false, .v tSI), (false, .v tSI)]
  outs := [(false, .v .b)]
  sh := false
  pre := fun x => List.length x.1 = List.length x.2.1 ∧ List.length x.1 ≤ 24
  out := fun x => (befD x.1 x.2.1, ())
  upd := fun x => x
  eat := false
theorem k_spec_l10Before [B : Base] : ConOk Try.prog 66 c_spec_l10Before := by
  refine fn_ok (C := cx Try.prog 31 c_spec_l10Before) (cs := []) (res := Try.f66.results.toList) (fun x => ⟨[{ sh := ⟨[(0, .one (.ref 0)), (1, .one (.ref 1)), (5, .one (.i .i64))], [(0, .imm tI false), (1, .imm tI false)]⟩, nx := 2, I := fun _ dat_ => (x.1 = dat_.2.1 ∧ x.2.1 = dat_.2.2.1) ∧ (befD x.1 x.2.1 = befTo x.1 x.2.1 (Int.toNat (dat_.1.2.2.1 + 1)) ∧ -1 ≤ dat_.1.2.2.1 ∧ dat_.1.2.2.1 < (List.length x.1 : Int)), mu := fun dat_ => Int.toNat (dat_.1.2.2.1 + 1) }], [(4, ⟨[[], [], [0, 1], [0, 1, 2], [], [], [4, 5], [4, 5, 6], [0, 1, 2, 3, 4, 5, 6, 7]], [[1, 4, 5, 6, 7], [0, 4, 5, 6, 7], [4, 5, 6, 7], [4, 5, 6, 7], [0, 1, 2, 3, 5], [0, 1, 2, 3, 4], [0, 1, 2, 3], [0, 1, 2, 3], []], []⟩), (5, ⟨[[], [], [0, 1], [0, 1, 2], [], [], [4, 5], [4, 5, 6], [0, 1, 2, 3, 4, 5, 6, 7], [0, 1, 2, 3, 4, 5, 6, 7, 8]], [[1, 4, 5, 6, 7], [0, 4, 5, 6, 7], [4, 5, 6, 7], [4, 5, 6, 7], [0, 1, 2, 3, 5], [0, 1, 2, 3, 4], [0, 1, 2, 3], [0, 1, 2, 3], [], []], []⟩)], []⟩) Try.func66 (by kernel_rfl) rfl rfl rfl tysOk.look eqTsOk.look (AllCs.ok (l := []) trivial) mixed rfl rfl rfl rfl ?_
  refine of_nf (P := ∀ p : List Int, ∀ q : List Int, (List.length p = List.length q ∧ List.length p ≤ 24) → ((lensI c_spec_l10Before.ins (p, q, ())) → ((inK .i64 ((p.length : Int) - 1)) ∧ (((p = p ∧ q = q) ∧ (befD p q = befTo p q (Int.toNat (((p.length : Int) - 1) + 1)) ∧ -1 ≤ ((p.length : Int) - 1) ∧ ((p.length : Int) - 1) < (List.length p : Int))) ∧ (∀ i : Int, ∀ t0 : List Int, ∀ t1 : List Int, ((p = t0 ∧ q = t1) ∧ (befD p q = befTo p q (Int.toNat (i + 1)) ∧ -1 ≤ i ∧ i < (List.length p : Int))) → (bsp (decide ((0 : Int) ≤ i)) ((0 ≤ i ∧ i < (t0.length : Int)) ∧ ((i.toNat < t0.length) ∧ ((0 ≤ i ∧ i < (t1.length : Int)) ∧ ((i.toNat < t1.length) ∧ (bsp (decide ((t0.getD i.toNat 0) ≠ (t1.getD i.toNat 0))) ((0 ≤ i ∧ i < (t0.length : Int)) ∧ ((i.toNat < t0.length) ∧ ((0 ≤ i ∧ i < (t1.length : Int)) ∧ ((i.toNat < t1.length) ∧ (@Eq (HO c_spec_l10Before.outs) ((decide ((t0.getD i.toNat 0) < (t1.getD i.toNat 0))), ()) (c_spec_l10Before.out (p, q, ()))))))) ((inK .i64 (i - 1)) ∧ (((p = t0 ∧ q = t1) ∧ (befD p q = befTo p q (Int.toNat ((i - 1) + 1)) ∧ -1 ≤ (i - 1) ∧ (i - 1) < (List.length p : Int))) ∧ ((Int.toNat ((i - 1) + 1) : Nat) < Int.toNat (i + 1))))))))) (@Eq (HO c_spec_l10Before.outs) (false, ()) (c_spec_l10Before.out (p, q, ()))))))))) (by kernel_rfl) ?_
  rintro p q ⟨hl1, hn⟩ hl
  have out : ∀ c, befD p q = c → @Eq (HO c_spec_l10Before.outs) (c, ()) (c_spec_l10Before.out (p, q, ())) := fun c h => by subst h; rfl
  refine ⟨by simp only [inK]; omega, ⟨(by first | trivial | rfl | (and_intros <;> rfl)), by rw [show ((p.length : Int) - 1 + 1).toNat = p.length by omega]; rfl, by omega, by omega⟩, ?_⟩
  rintro i t0 t1 ⟨⟨rfl, rfl⟩, ⟨hb, i0, i1⟩⟩
  refine bspD (fun hlt => ?_) (fun hge => ?_)
  · obtain ⟨k, rfl⟩ : ∃ k : Nat, i = k := ⟨i.toNat, by omega⟩
    rw [show ((k : Int) + 1).toNat = k + 1 by omega, befTo_succ] at hb
    simp only [Int.toNat_natCast] at hb ⊢
    refine ⟨⟨by omega, by omega⟩, by omega, ⟨by omega, by omega⟩, by omega, bspD (fun hd => ?_) (fun hd => ?_)⟩
    · rw [if_neg hd] at hb
      exact ⟨⟨by omega, by omega⟩, by omega, ⟨by omega, by omega⟩, by omega, out _ hb⟩
    · rw [if_pos (by simpa using hd)] at hb
      refine ⟨by simp only [inK]; omega, ⟨(by first | trivial | rfl | (and_intros <;> rfl)), ?_, by omega, by omega⟩, by omega⟩
      rw [hb, show ((k : Int) - 1 + 1).toNat = k by omega]
  · rw [show (i + 1).toNat = 0 by omega] at hb
    exact out _ hb
theorem putD_skip {l : List (List Int)} {p : List Int} : ∀ {k : Nat}, k ≤ l.length → (∀ j, j < k → befD (l.getD j []) p = true) → putD l p = l.take k ++ putD (l.drop k) p
  | 0, _, _ => by simp
  | k + 1, hk, h => by
    cases l with
    | nil => simp at hk
    | cons q l =>
      have h0 := h 0 (by omega)
      simp only [List.getD_cons_zero] at h0
      rw [putD, if_pos h0, putD_skip (l := l) (k := k) (by simpa using hk) fun j hj => by simpa using h (j + 1) (by omega)]
      simp
def PutOk (l : List (List Int)) (p : List Int) : Prop := LenL p.length l ∧ p.length ≤ 24 ∧ l.length ≤ 549755813888
theorem PutOk.at {l : List (List Int)} {p : List Int} (h : PutOk l p) {k : Nat} (hk : k < l.length) : (l.getD k []).length = p.length := by
  rw [List.getD_eq_getElem?_getD, List.getElem?_eq_getElem hk]
  exact h.1 _ (List.getElem_mem hk)
def c_spec_l10Put : Con where
  ins := [(false, .own 24 tSI), (false, .v tSI)]
  outs := [(false, .own 24 tSI)]
  sh := true
  pre := fun x => PutOk x.1 x.2.1
  out := fun x => (putD x.1 x.2.1, ())
  upd := fun x => (x.1, x.2.1, ())
  eat := true
theorem k_spec_l10Put [B : Base] : ConOk Try.prog 50 c_spec_l10Put := by
  refine fn_okE (C := cx Try.prog 49 c_spec_l10Put) (cs := [(66, c_spec_l10Before)]) (res := Try.f50.results.toList) (fun x => ⟨[{ sh := ⟨[(0, .one (.ref 0)), (1, .one (.ref 1)), (5, .one (.i .i64))], [(0, .own 24 tSI true), (1, .imm tI true)]⟩, nx := 2, I := fun _ dat_ => (x.1 = dat_.2.1 ∧ x.2.1 = dat_.2.2.1) ∧ ((∀ j, j < Int.toNat dat_.1.2.2.1 → befD (List.getD x.1 j []) x.2.1 = true) ∧ 0 ≤ dat_.1.2.2.1 ∧ dat_.1.2.2.1 ≤ (List.length x.1 : Int)), mu := fun dat_ => Int.toNat ((List.length x.1 : Int) - dat_.1.2.2.1) }], [], []⟩) Try.func50 (by kernel_rfl) rfl rfl rfl tysOk.look eqTsOk.look (AllCs.ok (l := [(66, c_spec_l10Before)]) ⟨k_spec_l10Before, trivial⟩) mixed rfl rfl rfl ?_
  refine of_nf (P := ∀ l : List (List Int), ∀ p : List Int, (PutOk l p) → ((lensI c_spec_l10Put.ins (l, p, ())) → (((l = l ∧ p = p) ∧ ((∀ j, j < Int.toNat (0 : Int) → befD (List.getD l j []) p = true) ∧ 0 ≤ (0 : Int) ∧ (0 : Int) ≤ (List.length l : Int))) ∧ (∀ i : Int, ∀ t0 : List (List Int), ∀ t1 : List Int, ((l = t0 ∧ p = t1) ∧ ((∀ j, j < Int.toNat i → befD (List.getD l j []) p = true) ∧ 0 ≤ i ∧ i ≤ (List.length l : Int))) → (bsp (decide (i < (t0.length : Int))) ((0 ≤ i ∧ i < (t0.length : Int)) ∧ ((i.toNat < t0.length) ∧ ((List.length (t0.getD i.toNat []) = List.length t1 ∧ List.length (t0.getD i.toNat []) ≤ 24) ∧ (bsp (befD (t0.getD i.toNat []) t1) ((inK .i64 (i + 1)) ∧ (((l = t0 ∧ p = t1) ∧ ((∀ j, j < Int.toNat (i + 1) → befD (List.getD l j []) p = true) ∧ 0 ≤ (i + 1) ∧ (i + 1) ≤ (List.length l : Int))) ∧ ((Int.toNat ((List.length l : Int) - (i + 1)) : Nat) < Int.toNat ((List.length l : Int) - i)))) (bsp (decide (i < (t0.length : Int))) ((0 ≤ i ∧ i < (t0.length : Int)) ∧ ((i.toNat < t0.length) ∧ ((List.length t1 = List.length (t0.getD i.toNat []) ∧ List.length t1 ≤ 24) ∧ (bsp (!(befD t1 (t0.getD i.toNat []))) (@Eq (HO c_spec_l10Put.outs) (t0, ()) (c_spec_l10Put.out (l, p, ()))) ((0 ≤ (0 : Int) ∧ (0 : Int) ≤ i ∧ i ≤ (t0.length : Int) ∧ (t0.length : Int) ≤ (t0.length : Int)) ∧ ((([] : List (List Int)).length + ((t0.take i.toNat).drop 0).length ≤ AB) ∧ (((([] : List (List Int)) ++ ((t0.take i.toNat).drop 0)).length + ([t1] : List (List Int)).length ≤ AB) ∧ ((0 ≤ i ∧ i ≤ (t0.length : Int) ∧ (t0.length : Int) ≤ (t0.length : Int) ∧ (t0.length : Int) ≤ (t0.length : Int)) ∧ ((((([] : List (List Int)) ++ ((t0.take i.toNat).drop 0)) ++ [t1]).length + ((t0.take t0.length).drop i.toNat).length ≤ AB) ∧ (@Eq (HO c_spec_l10Put.outs) ((((([] : List (List Int)) ++ ((t0.take i.toNat).drop 0)) ++ [t1]) ++ ((t0.take t0.length).drop i.toNat)), ()) (c_spec_l10Put.out (l, p, ())))))))))))) ((0 ≤ (0 : Int) ∧ (0 : Int) ≤ i ∧ i ≤ (t0.length : Int) ∧ (t0.length : Int) ≤ (t0.length : Int)) ∧ ((([] : List (List Int)).length + ((t0.take i.toNat).drop 0).length ≤ AB) ∧ (((([] : List (List Int)) ++ ((t0.take i.toNat).drop 0)).length + ([t1] : List (List Int)).length ≤ AB) ∧ ((0 ≤ i ∧ i ≤ (t0.length : Int) ∧ (t0.length : Int) ≤ (t0.length : Int) ∧ (t0.length : Int) ≤ (t0.length : Int)) ∧ ((((([] : List (List Int)) ++ ((t0.take i.toNat).drop 0)) ++ [t1]).length + ((t0.take t0.length).drop i.toNat).length ≤ AB) ∧ (@Eq (HO c_spec_l10Put.outs) ((((([] : List (List Int)) ++ ((t0.take i.toNat).drop 0)) ++ [t1]) ++ ((t0.take t0.length).drop i.toNat)), ()) (c_spec_l10Put.out (l, p, ()))))))))))))) (bsp (decide (i < (t0.length : Int))) ((0 ≤ i ∧ i < (t0.length : Int)) ∧ ((i.toNat < t0.length) ∧ ((List.length t1 = List.length (t0.getD i.toNat []) ∧ List.length t1 ≤ 24) ∧ (bsp (!(befD t1 (t0.getD i.toNat []))) (@Eq (HO c_spec_l10Put.outs) (t0, ()) (c_spec_l10Put.out (l, p, ()))) ((0 ≤ (0 : Int) ∧ (0 : Int) ≤ i ∧ i ≤ (t0.length : Int) ∧ (t0.length : Int) ≤ (t0.length : Int)) ∧ ((([] : List (List Int)).length + ((t0.take i.toNat).drop 0).length ≤ AB) ∧ (((([] : List (List Int)) ++ ((t0.take i.toNat).drop 0)).length + ([t1] : List (List Int)).length ≤ AB) ∧ ((0 ≤ i ∧ i ≤ (t0.length : Int) ∧ (t0.length : Int) ≤ (t0.length : Int) ∧ (t0.length : Int) ≤ (t0.length : Int)) ∧ ((((([] : List (List Int)) ++ ((t0.take i.toNat).drop 0)) ++ [t1]).length + ((t0.take t0.length).drop i.toNat).length ≤ AB) ∧ (@Eq (HO c_spec_l10Put.outs) ((((([] : List (List Int)) ++ ((t0.take i.toNat).drop 0)) ++ [t1]) ++ ((t0.take t0.length).drop i.toNat)), ()) (c_spec_l10Put.out (l, p, ())))))))))))) ((0 ≤ (0 : Int) ∧ (0 : Int) ≤ i ∧ i ≤ (t0.length : Int) ∧ (t0.length : Int) ≤ (t0.length : Int)) ∧ ((([] : List (List Int)).length + ((t0.take i.toNat).drop 0).length ≤ AB) ∧ (((([] : List (List Int)) ++ ((t0.take i.toNat).drop 0)).length + ([t1] : List (List Int)).length ≤ AB) ∧ ((0 ≤ i ∧ i ≤ (t0.length : Int) ∧ (t0.length : Int) ≤ (t0.length : Int) ∧ (t0.length : Int) ≤ (t0.length : Int)) ∧ ((((([] : List (List Int)) ++ ((t0.take i.toNat).drop 0)) ++ [t1]).length + ((t0.take t0.length).drop i.toNat).length ≤ AB) ∧ (@Eq (HO c_spec_l10Put.outs) ((((([] : List (List Int)) ++ ((t0.take i.toNat).drop 0)) ++ [t1]) ++ ((t0.take t0.length).drop i.toNat)), ()) (c_spec_l10Put.out (l, p, ())))))))))))))) (by kernel_rfl) ?_
  rintro l p hp hl
  have hn := hp.2.1
  have hll := hp.2.2
  have out : ∀ r, r = putD l p → @Eq (HO c_spec_l10Put.outs) (r, ()) (c_spec_l10Put.out (l, p, ())) := fun r h => by subst h; rfl
  refine ⟨⟨(by first | trivial | rfl | (and_intros <;> rfl)), fun j hj => by simp at hj, by omega, by omega⟩, ?_⟩
  rintro i t0 t1 ⟨⟨rfl, rfl⟩, ⟨hb, i0, i1⟩⟩
  obtain ⟨k, rfl⟩ : ∃ k : Nat, i = k := ⟨i.toNat, by omega⟩
  simp only [Int.toNat_natCast] at hb ⊢
  have hsk := putD_skip (l := l) (p := p) (k := k) (by omega) hb
  refine bspD (fun hlt => ?_) (fun hge => ?_)
  · have hk : k < l.length := by omega
    have hq := hp.at hk
    have hd : l.drop k = l.getD k [] :: l.drop (k + 1) := by
      rw [List.drop_eq_getElem_cons hk, List.getD_eq_getElem?_getD, List.getElem?_eq_getElem hk]; rfl
    refine ⟨⟨by omega, by omega⟩, hk, ⟨hq, by omega⟩, bspB (fun hbf => ?_) (fun hbf => ?_)⟩
    · refine ⟨by simp only [inK]; omega, ⟨(by first | trivial | rfl | (and_intros <;> rfl)), fun j hj => ?_, by omega, by omega⟩, by omega⟩
      by_cases e : j = k
      · subst e; exact hbf
      · exact hb j (by omega)
    · rw [hd] at hsk
      refine bspD (fun _ => ⟨⟨by omega, by omega⟩, hk, ⟨hq.symm, hn⟩, bspB (fun hbp => ?_) (fun hbp => ?_)⟩) (fun h => absurd hlt h)
      · refine out _ ?_
        rw [hsk, putD, if_neg (by rw [hbf]; decide), if_neg (by simpa using hbp), ← hd, List.take_append_drop]
      · refine ⟨⟨by omega, by omega, by omega, by omega⟩, by simp [AB]; omega, by simp [AB]; omega, ⟨by omega, by omega, by omega, by omega⟩, by simp [AB]; omega, ?_⟩
        refine out _ ?_
        rw [hsk, putD, if_neg (by rw [hbf]; decide), if_pos (by simpa using hbp), ← hd]
        simp
  · refine bspD (fun h => absurd h hge) (fun _ => ?_)
    have : k = l.length := by omega
    subst this
    refine ⟨⟨by omega, by omega, by omega, by omega⟩, by simp [AB]; omega, by simp [AB]; omega, ⟨by omega, by omega, by omega, by omega⟩, by simp [AB]; omega, ?_⟩
    refine out _ ?_
    rw [hsk]
    simp [putD]
/-- positions and dice of a walk -/
structure WalkOk (p ds : List Int) : Prop where
  ok : OkP p.length p
  n0 : 0 < p.length
  n : p.length ≤ 24
  d : DiceP ds
  six : ∀ d, d ∈ ds → d ≤ 6
def openS (s : List (List Int) × Int) (n : Int) : List (List Int) × Int := if s.2 < n + 1 then ([], n + 1) else s
theorem walkStep_open (w : List Int → List (List Int) × Int) (s : List (List Int) × Int) (q : List Int) : walkStep w s q = if (w q).2 + 1 = (openS s (w q).2).2 then ((w q).1.foldl putD (openS s (w q).2).1, (openS s (w q).2).2) else openS s (w q).2 := by
  unfold walkStep openS
  split
  · simp
  · rfl
def stateP (p : List Int) (d : Int) (ds : List Int) (i : Nat) : List (List Int) × Int := ((stepsP p d).take i).foldl (walkStep (walkP ds)) ([p], 0)
theorem stateP_succ {p : List Int} {d : Int} {ds : List Int} {i : Nat} (h : i < (stepsP p d).length) : stateP p d ds (i + 1) = walkStep (walkP ds) (stateP p d ds i) ((stepsP p d).getD i []) := by
  unfold stateP
  rw [← List.take_append_getElem h, List.foldl_append, List.getD_eq_getElem?_getD, List.getElem?_eq_getElem h]; rfl
theorem stateP_all (p : List Int) (d : Int) (ds : List Int) {i : Nat} (h : (stepsP p d).length ≤ i) : stateP p d ds i = walkP (d :: ds) p := by
  unfold stateP; rw [List.take_of_length_le h]; rfl
structure WInv (n : Nat) (m : Nat) (j : Nat) (s : List (List Int) × Int) : Prop where
  all : AllP n s.1
  len : s.1.length ≤ (j + 1) * 25 ^ m
  lo : 0 ≤ s.2
  hi : s.2 ≤ m + 1
theorem put_all {n : Nat} {l acc : List (List Int)} (hl : AllP n l) (ha : AllP n acc) : AllP n (l.foldl putD acc) := by
  induction l generalizing acc with
  | nil => exact ha
  | cons q l ih =>
    refine ih (fun x hx => hl x (List.mem_cons_of_mem _ hx)) fun x hx => ?_
    exact ((putD_mem ha.len (hl q (by simp)).len x).1 hx).elim (ha x) (fun e => e ▸ hl q (by simp))
theorem WInv.step {n : Nat} {ds : List Int} {j : Nat} {s : List (List Int) × Int} {q : List Int} (h : WInv n ds.length j s) (h1 : AllP n (walkP ds q).1) (h2 : (walkP ds q).1.length ≤ 25 ^ ds.length) (h3 : 0 ≤ (walkP ds q).2) (h4 : (walkP ds q).2 ≤ ds.length) : WInv n ds.length (j + 1) (walkStep (walkP ds) s q) := by
  have e : (j + 1 + 1) * 25 ^ ds.length = (j + 1) * 25 ^ ds.length + 25 ^ ds.length := by rw [Nat.add_mul, Nat.one_mul]
  unfold walkStep
  split
  · refine ⟨put_all h1 (fun _ hx => by simp at hx), ?_, by simp only; omega, by simp only; omega⟩
    have := foldP_length (walkP ds q).1 []
    simp only [List.length_nil] at this ⊢; omega
  · split
    · refine ⟨put_all h1 h.all, ?_, h.lo, h.hi⟩
      have := foldP_length (walkP ds q).1 s.1
      have := h.len
      simp only; omega
    · exact ⟨h.all, by have := h.len; omega, h.lo, h.hi⟩
theorem walk_all {n : Nat} (hn : n ≤ 24) : ∀ {ds p : List Int}, DiceP ds → OkP n p → AllP n (walkP ds p).1 ∧ (walkP ds p).1.length ≤ 25 ^ ds.length ∧ 0 ≤ (walkP ds p).2 ∧ (walkP ds p).2 ≤ ds.length
  | [], p, _, h => ⟨fun q hq => by simp only [walkP, List.mem_singleton] at hq; subst hq; exact h, by simp [walkP], by simp [walkP], by simp [walkP]⟩
  | d :: ds, p, hd, h => by
    have hd' : DiceP ds := fun x hx => hd x (List.mem_cons_of_mem _ hx)
    have key : ∀ i, i ≤ (stepsP p d).length → WInv n ds.length i (stateP p d ds i) := by
      intro i
      induction i with
      | zero => intro _; exact ⟨fun q hq => by simp [stateP] at hq; subst hq; exact h, by simp [stateP]; exact Nat.pos_of_ne_zero (by simp), by simp [stateP], by simp [stateP]; omega⟩
      | succ i ih =>
        intro hi
        rw [stateP_succ (by omega)]
        have hm : (stepsP p d).getD i [] ∈ stepsP p d := by rw [List.getD_eq_getElem?_getD, List.getElem?_eq_getElem (by omega)]; exact List.getElem_mem (by omega)
        obtain ⟨a1, a2, a3, a4⟩ := walk_all hn hd' (step_of h (hd d (by simp)) hm).1
        exact (ih (by omega)).step a1 a2 a3 a4
    have hk := key (stepsP p d).length (Nat.le_refl _)
    rw [stateP_all p d ds (Nat.le_refl _)] at hk
    have hl := stepsP_length p d
    rw [h.len] at hl
    refine ⟨hk.all, ?_, hk.lo, by have := hk.hi; simp only [List.length_cons]; omega⟩
    have : ((stepsP p d).length + 1) * 25 ^ ds.length ≤ 25 * 25 ^ ds.length := Nat.mul_le_mul_right _ (by omega)
    have := hk.len
    rw [List.length_cons, Nat.pow_succ, Nat.mul_comm]; omega
theorem state_all {n : Nat} (hn : n ≤ 24) {d : Int} {ds p : List Int} (hd : DiceP (d :: ds)) (h : OkP n p) : ∀ i, i ≤ (stepsP p d).length → WInv n ds.length i (stateP p d ds i) := by
  intro i
  induction i with
  | zero => intro _; exact ⟨fun q hq => by simp [stateP] at hq; subst hq; exact h, by simp [stateP]; exact Nat.pos_of_ne_zero (by simp), by simp [stateP], by simp [stateP]; omega⟩
  | succ i ih =>
    intro hi
    rw [stateP_succ (by omega)]
    have hm : (stepsP p d).getD i [] ∈ stepsP p d := by rw [List.getD_eq_getElem?_getD, List.getElem?_eq_getElem (by omega)]; exact List.getElem_mem (by omega)
    obtain ⟨a1, a2, a3, a4⟩ := walk_all hn (fun x hx => hd x (List.mem_cons_of_mem _ hx)) (step_of h (hd d (by simp)) hm).1
    exact (ih (by omega)).step a1 a2 a3 a4
theorem pow25 {k : Nat} (h : k ≤ 4) : 25 ^ k ≤ 390625 := Nat.le_trans (Nat.pow_le_pow_right (by omega) h) (by decide)
/-- where the inner loop of the walk stands -/
structure W1 (p : List Int) (d : Int) (dr : List Int) (b : List (List Int)) (m : Int) (nx : List (List Int)) (i : Int) (list : List (List Int)) (n k : Int) : Prop where
  hnx : nx = stepsP p d
  hi : 0 ≤ i ∧ i < (nx.length : Int)
  hlist : list = (walkP dr (nx.getD i.toNat [])).1
  hn : n = (walkP dr (nx.getD i.toNat [])).2
  hb : b = (list.take k.toNat).foldl putD (openS (stateP p d dr i.toNat) n).1
  hm : m = (openS (stateP p d dr i.toNat) n).2
  hk : 0 ≤ k ∧ k ≤ (list.length : Int)
  run : 0 < k → n + 1 = m
theorem getP_mem {l : List (List Int)} {k : Nat} (h : k < l.length) : l.getD k [] ∈ l := by
  rw [List.getD_eq_getElem?_getD, List.getElem?_eq_getElem h]; exact List.getElem_mem h
theorem W1.fin {p : List Int} {d : Int} {dr : List Int} {b : List (List Int)} {m : Int} {nx : List (List Int)} {i : Nat} {list : List (List Int)} {n k : Int} (h : W1 p d dr b m nx i list n k) (hf : k = list.length ∨ n + 1 ≠ m) : stateP p d dr (i + 1) = (b, m) := by
  obtain ⟨h1, h2, h3, h4, h5, h6, h7, h8⟩ := h
  subst h1
  rw [stateP_succ (by omega), walkStep_open]
  simp only [Int.toNat_natCast] at h3 h4 h5 h6
  rw [← h4, ← h3, ← h6]
  by_cases e : n + 1 = m
  · have : k = list.length := hf.resolve_right (fun h => h e)
    rw [if_pos e, h5, this, Int.toNat_natCast, List.take_length]
  · have : k = 0 := by
      apply Classical.byContradiction
      intro hk; exact e (h8 (by omega))
    rw [if_neg e, h5, this]
    simp only [Int.toNat_zero, List.take_zero, List.foldl_nil]
    rw [h6]
theorem W1.next {p : List Int} {d : Int} {dr : List Int} {b : List (List Int)} {m : Int} {nx : List (List Int)} {i : Nat} {list : List (List Int)} {n : Int} {k : Nat} (h : W1 p d dr b m nx i list n k) (hk : k < list.length) (e : n + 1 = m) : W1 p d dr (putD b (list.getD k [])) m nx i list n ((k : Int) + 1) := by
  obtain ⟨h1, h2, h3, h4, h5, h6, h7, h8⟩ := h
  refine ⟨h1, h2, h3, h4, ?_, h6, by omega, fun _ => e⟩
  rw [show ((k : Int) + 1).toNat = k + 1 by omega, ← List.take_append_getElem hk, List.foldl_append, h5, Int.toNat_natCast, List.getD_eq_getElem?_getD, List.getElem?_eq_getElem hk]; rfl
theorem W1.all {p : List Int} {d : Int} {dr : List Int} {b : List (List Int)} {m : Int} {nx : List (List Int)} {i : Nat} {list : List (List Int)} {n : Int} {k : Nat} (h : W1 p d dr b m nx i list n k) (hp : WalkOk p (d :: dr)) (h4 : dr.length ≤ 3) : AllP p.length list ∧ AllP p.length b ∧ b.length ≤ 549755813887 := by
  obtain ⟨h1, h2, h3, h4', h5, h6, h7, h8⟩ := h
  subst h1
  have hil : i < (stepsP p d).length := by omega
  have hm : (stepsP p d).getD i [] ∈ stepsP p d := by rw [List.getD_eq_getElem?_getD, List.getElem?_eq_getElem hil]; exact List.getElem_mem hil
  obtain ⟨a1, a2, a3, a4⟩ := walk_all hp.n (fun x hx => hp.d x (List.mem_cons_of_mem _ hx)) (step_of hp.ok (hp.d d (by simp)) hm).1
  simp only [Int.toNat_natCast] at h3 h5
  rw [← h3] at a1 a2
  have hs := state_all hp.n hp.d hp.ok i (by omega)
  have ho : AllP p.length (openS (stateP p d dr i) n).1 ∧ (openS (stateP p d dr i) n).1.length ≤ (i + 1) * 25 ^ dr.length := by
    unfold openS
    split
    · exact ⟨fun _ hx => by simp at hx, by simp⟩
    · exact ⟨hs.all, hs.len⟩
  have hp25 := pow25 (k := dr.length) (by omega)
  have hst := stepsP_length p d
  have hp24 := hp.n
  have hmul : (i + 1) * 25 ^ dr.length ≤ 25 * 390625 := Nat.mul_le_mul (by omega) hp25
  refine ⟨a1, ?_, ?_⟩
  · rw [h5]; exact put_all (fun x hx => a1 x (List.mem_of_mem_take hx)) ho.1
  · rw [h5]
    have := foldP_length (list.take k) (openS (stateP p d dr i) n).1
    rw [List.length_take] at this
    omega
def c_spec_l10Walkx : Con where
  ins := [(false, .v tSI), (false, .v tSI)]
  outs := [(false, .own 24 tSI), (false, .v tI)]
  sh := false
  pre := fun _ => False
  out := fun x => ((walkP x.2.1 x.1).1, (walkP x.2.1 x.1).2, ())
  upd := fun x => x
  eat := false
theorem k_spec_l10Walkx [B : Base] : ConOk Try.prog 49 c_spec_l10Walkx := conFalse ⟨_, _, Try.func49, by kernel_rfl, rfl⟩ fun _ h => h
def c_spec_l10Walk0 : Con where
  ins := [(false, .v tSI), (false, .v tSI)]
  outs := [(false, .own 24 tSI), (false, .v tI)]
  sh := false
  pre := fun x => WalkOk x.1 x.2.1 ∧ List.length x.2.1 ≤ 0
  out := fun x => ((walkP x.2.1 x.1).1, (walkP x.2.1 x.1).2, ())
  upd := fun x => x
  eat := false
theorem k_spec_l10Walk0 [B : Base] : ConOk Try.prog 49 c_spec_l10Walk0 := by
  refine fn_ok (C := cx Try.prog 70 c_spec_l10Walk0) (cs := [(65, c_spec_l10Steps), (49, c_spec_l10Walkx), (50, c_spec_l10Put)]) (res := Try.f49.results.toList) (fun x => ⟨[{ sh := ⟨[(1, .one (.ref 0)), (6, .one (.ref 1)), (7, .one (.i .i64)), (8, .one (.ref 2)), (9, .one (.i .i64))], [(0, .imm tI false), (1, .own 24 tSI true), (2, .own 24 tSI true)]⟩, nx := 3, I := fun _ dat_ => (x.2.1 = dat_.2.1 ∧ stepsP x.1 (x.2.1.getD 0 0) = dat_.2.2.2.1) ∧ (dat_.2.2.1 = (stateP x.1 (List.getD x.2.1 0 0) (List.drop 1 x.2.1) (Int.toNat dat_.1.2.2.2.2.1)).1 ∧ dat_.1.2.2.1 = (stateP x.1 (List.getD x.2.1 0 0) (List.drop 1 x.2.1) (Int.toNat dat_.1.2.2.2.2.1)).2 ∧ dat_.2.2.2.1 = stepsP x.1 (List.getD x.2.1 0 0) ∧ 0 ≤ dat_.1.2.2.2.2.1 ∧ dat_.1.2.2.2.2.1 ≤ (List.length dat_.2.2.2.1 : Int)), mu := fun dat_ => Int.toNat ((List.length dat_.2.2.2.1 : Int) - dat_.1.2.2.2.2.1) }, { sh := ⟨[(1, .one (.ref 0)), (6, .one (.ref 1)), (7, .one (.i .i64)), (8, .one (.ref 2)), (9, .one (.i .i64)), (10, .one (.ref 3)), (11, .one (.i .i64)), (12, .one (.i .i64))], [(0, .imm tI false), (1, .own 24 tSI true), (2, .own 24 tSI true), (3, .own 24 tSI true)]⟩, nx := 4, I := fun g_ dat_ => ((walkP ((x.2.1.take x.2.1.length).drop 1) ((stepsP x.1 (x.2.1.getD 0 0)).getD dat_.1.2.2.2.2.1.toNat [])).2 = dat_.1.2.2.2.2.2.2.1 ∧ x.2.1 = dat_.2.1 ∧ (stepsP x.1 (x.2.1.getD 0 0)) = dat_.2.2.2.1 ∧ (walkP ((x.2.1.take x.2.1.length).drop 1) ((stepsP x.1 (x.2.1.getD 0 0)).getD dat_.1.2.2.2.2.1.toNat [])).1 = dat_.2.2.2.2.1) ∧ (W1 x.1 (List.getD x.2.1 0 0) (List.drop 1 x.2.1) dat_.2.2.1 dat_.1.2.2.1 dat_.2.2.2.1 dat_.1.2.2.2.2.1 dat_.2.2.2.2.1 dat_.1.2.2.2.2.2.2.1 dat_.1.2.2.2.2.2.2.2.1 ∧ (g_.headD 0) = Int.toNat ((List.length dat_.2.2.2.1 : Int) - dat_.1.2.2.2.2.1)), mu := fun dat_ => Int.toNat ((List.length dat_.2.2.2.2.1 : Int) - dat_.1.2.2.2.2.2.2.2.1) }], [(9, ⟨[[], [], [0, 1], [0, 1, 2], [], [4], [0, 1, 2, 3, 4, 5], [0, 1, 2, 3, 4, 5, 6], [0, 1, 2, 3, 4, 5, 6, 7], [0, 1, 2, 3, 4, 5, 6, 7], [0, 1, 2, 3, 4, 5, 6, 7, 8], [0, 1, 2, 3, 4, 5, 6, 7, 8, 9, 10]], [[1, 4, 5], [0, 4, 5], [4, 5], [4, 5], [0, 1, 2, 3], [0, 1, 2, 3], [], [], [9], [8, 10], [9], []], []⟩)], []⟩) Try.func49 (by kernel_rfl) rfl rfl rfl tysOk.look eqTsOk.look (AllCs.ok (l := [(65, c_spec_l10Steps), (49, c_spec_l10Walkx), (50, c_spec_l10Put)]) ⟨k_spec_l10Steps, k_spec_l10Walkx, k_spec_l10Put, trivial⟩) mixed rfl rfl rfl rfl ?_
  refine of_nf (P := ∀ p : List Int, ∀ ds : List Int, (WalkOk p ds ∧ List.length ds ≤ 0) → ((lensI c_spec_l10Walk0.ins (p, ds, ())) → ((([] : List Int).length + p.length ≤ AB) ∧ (bsp (decide ((ds.length : Int) = (0 : Int))) (@Eq (HO c_spec_l10Walk0.outs) ([(([] : List Int) ++ p)], 0, ()) (c_spec_l10Walk0.out (p, ds, ()))) ((0 ≤ (0 : Int) ∧ 0 < (ds.length : Int)) ∧ ((0 < ds.length) ∧ ((OkP (List.length p) p ∧ List.length p ≤ 24 ∧ 1 ≤ (ds.getD 0 0) ∧ (ds.getD 0 0) ≤ 6) ∧ (((ds = ds ∧ stepsP p (ds.getD 0 0) = (stepsP p (ds.getD 0 0))) ∧ ([(([] : List Int) ++ p)] = (stateP p (List.getD ds 0 0) (List.drop 1 ds) (Int.toNat (0 : Int))).1 ∧ (0 : Int) = (stateP p (List.getD ds 0 0) (List.drop 1 ds) (Int.toNat (0 : Int))).2 ∧ (stepsP p (ds.getD 0 0)) = stepsP p (List.getD ds 0 0) ∧ 0 ≤ (0 : Int) ∧ (0 : Int) ≤ (List.length (stepsP p (ds.getD 0 0)) : Int))) ∧ (∀ most : Int, ∀ i : Int, ∀ t1 : List Int, ∀ best : List (List Int), ∀ next : List (List Int), ((ds = t1 ∧ stepsP p (ds.getD 0 0) = next) ∧ (best = (stateP p (List.getD ds 0 0) (List.drop 1 ds) (Int.toNat i)).1 ∧ most = (stateP p (List.getD ds 0 0) (List.drop 1 ds) (Int.toNat i)).2 ∧ next = stepsP p (List.getD ds 0 0) ∧ 0 ≤ i ∧ i ≤ (List.length next : Int))) → (bsp (decide (i < (next.length : Int))) ((0 ≤ i ∧ i < (next.length : Int)) ∧ ((i.toNat < next.length) ∧ ((0 ≤ (1 : Int) ∧ (1 : Int) ≤ (t1.length : Int) ∧ (t1.length : Int) ≤ (t1.length : Int) ∧ (t1.length : Int) ≤ (t1.length : Int)) ∧ ((False) ∧ ((inK .i64 ((walkP ((t1.take t1.length).drop 1) (next.getD i.toNat [])).2 + 1)) ∧ (bsp (decide (most < ((walkP ((t1.take t1.length).drop 1) (next.getD i.toNat [])).2 + 1))) ((inK .i64 ((walkP ((t1.take t1.length).drop 1) (next.getD i.toNat [])).2 + 1)) ∧ ((((walkP ((ds.take ds.length).drop 1) ((stepsP p (ds.getD 0 0)).getD i.toNat [])).2 = (walkP ((t1.take t1.length).drop 1) (next.getD i.toNat [])).2 ∧ ds = t1 ∧ (stepsP p (ds.getD 0 0)) = next ∧ (walkP ((ds.take ds.length).drop 1) ((stepsP p (ds.getD 0 0)).getD i.toNat [])).1 = (walkP ((t1.take t1.length).drop 1) (next.getD i.toNat [])).1) ∧ (W1 p (List.getD ds 0 0) (List.drop 1 ds) [] ((walkP ((t1.take t1.length).drop 1) (next.getD i.toNat [])).2 + 1) next i (walkP ((t1.take t1.length).drop 1) (next.getD i.toNat [])).1 (walkP ((t1.take t1.length).drop 1) (next.getD i.toNat [])).2 (0 : Int) ∧ (Int.toNat ((List.length next : Int) - i)) = Int.toNat ((List.length next : Int) - i))) ∧ (∀ m : Int, ∀ i1 : Int, ∀ n : Int, ∀ k : Int, ∀ t1x1 : List Int, ∀ b : List (List Int), ∀ nx : List (List Int), ∀ list : List (List Int), (((walkP ((ds.take ds.length).drop 1) ((stepsP p (ds.getD 0 0)).getD i1.toNat [])).2 = n ∧ ds = t1x1 ∧ (stepsP p (ds.getD 0 0)) = nx ∧ (walkP ((ds.take ds.length).drop 1) ((stepsP p (ds.getD 0 0)).getD i1.toNat [])).1 = list) ∧ (W1 p (List.getD ds 0 0) (List.drop 1 ds) b m nx i1 list n k ∧ (Int.toNat ((List.length next : Int) - i)) = Int.toNat ((List.length nx : Int) - i1))) → (bsp (decide (k < (list.length : Int))) ((inK .i64 (n + 1)) ∧ (bsp (decide ((n + 1) = m)) ((0 ≤ k ∧ k < (list.length : Int)) ∧ ((k.toNat < list.length) ∧ ((PutOk b (list.getD k.toNat [])) ∧ ((inK .i64 (k + 1)) ∧ ((((walkP ((ds.take ds.length).drop 1) ((stepsP p (ds.getD 0 0)).getD i1.toNat [])).2 = n ∧ ds = t1x1 ∧ (stepsP p (ds.getD 0 0)) = nx ∧ (walkP ((ds.take ds.length).drop 1) ((stepsP p (ds.getD 0 0)).getD i1.toNat [])).1 = list) ∧ (W1 p (List.getD ds 0 0) (List.drop 1 ds) (putD b (list.getD k.toNat [])) m nx i1 list n (k + 1) ∧ (Int.toNat ((List.length next : Int) - i)) = Int.toNat ((List.length nx : Int) - i1))) ∧ ((Int.toNat ((List.length list : Int) - (k + 1)) : Nat) < Int.toNat ((List.length list : Int) - k))))))) ((inK .i64 (i1 + 1)) ∧ (((ds = t1x1 ∧ stepsP p (ds.getD 0 0) = nx) ∧ (b = (stateP p (List.getD ds 0 0) (List.drop 1 ds) (Int.toNat (i1 + 1))).1 ∧ m = (stateP p (List.getD ds 0 0) (List.drop 1 ds) (Int.toNat (i1 + 1))).2 ∧ nx = stepsP p (List.getD ds 0 0) ∧ 0 ≤ (i1 + 1) ∧ (i1 + 1) ≤ (List.length nx : Int))) ∧ ((Int.toNat ((List.length nx : Int) - (i1 + 1)) : Nat) < Int.toNat ((List.length next : Int) - i)))))) ((inK .i64 (i1 + 1)) ∧ (((ds = t1x1 ∧ stepsP p (ds.getD 0 0) = nx) ∧ (b = (stateP p (List.getD ds 0 0) (List.drop 1 ds) (Int.toNat (i1 + 1))).1 ∧ m = (stateP p (List.getD ds 0 0) (List.drop 1 ds) (Int.toNat (i1 + 1))).2 ∧ nx = stepsP p (List.getD ds 0 0) ∧ 0 ≤ (i1 + 1) ∧ (i1 + 1) ≤ (List.length nx : Int))) ∧ ((Int.toNat ((List.length nx : Int) - (i1 + 1)) : Nat) < Int.toNat ((List.length next : Int) - i)))))))) ((((walkP ((ds.take ds.length).drop 1) ((stepsP p (ds.getD 0 0)).getD i.toNat [])).2 = (walkP ((t1.take t1.length).drop 1) (next.getD i.toNat [])).2 ∧ ds = t1 ∧ (stepsP p (ds.getD 0 0)) = next ∧ (walkP ((ds.take ds.length).drop 1) ((stepsP p (ds.getD 0 0)).getD i.toNat [])).1 = (walkP ((t1.take t1.length).drop 1) (next.getD i.toNat [])).1) ∧ (W1 p (List.getD ds 0 0) (List.drop 1 ds) best most next i (walkP ((t1.take t1.length).drop 1) (next.getD i.toNat [])).1 (walkP ((t1.take t1.length).drop 1) (next.getD i.toNat [])).2 (0 : Int) ∧ (Int.toNat ((List.length next : Int) - i)) = Int.toNat ((List.length next : Int) - i))) ∧ (∀ m : Int, ∀ i1 : Int, ∀ n : Int, ∀ k : Int, ∀ t1x1 : List Int, ∀ b : List (List Int), ∀ nx : List (List Int), ∀ list : List (List Int), (((walkP ((ds.take ds.length).drop 1) ((stepsP p (ds.getD 0 0)).getD i1.toNat [])).2 = n ∧ ds = t1x1 ∧ (stepsP p (ds.getD 0 0)) = nx ∧ (walkP ((ds.take ds.length).drop 1) ((stepsP p (ds.getD 0 0)).getD i1.toNat [])).1 = list) ∧ (W1 p (List.getD ds 0 0) (List.drop 1 ds) b m nx i1 list n k ∧ (Int.toNat ((List.length next : Int) - i)) = Int.toNat ((List.length nx : Int) - i1))) → (bsp (decide (k < (list.length : Int))) ((inK .i64 (n + 1)) ∧ (bsp (decide ((n + 1) = m)) ((0 ≤ k ∧ k < (list.length : Int)) ∧ ((k.toNat < list.length) ∧ ((PutOk b (list.getD k.toNat [])) ∧ ((inK .i64 (k + 1)) ∧ ((((walkP ((ds.take ds.length).drop 1) ((stepsP p (ds.getD 0 0)).getD i1.toNat [])).2 = n ∧ ds = t1x1 ∧ (stepsP p (ds.getD 0 0)) = nx ∧ (walkP ((ds.take ds.length).drop 1) ((stepsP p (ds.getD 0 0)).getD i1.toNat [])).1 = list) ∧ (W1 p (List.getD ds 0 0) (List.drop 1 ds) (putD b (list.getD k.toNat [])) m nx i1 list n (k + 1) ∧ (Int.toNat ((List.length next : Int) - i)) = Int.toNat ((List.length nx : Int) - i1))) ∧ ((Int.toNat ((List.length list : Int) - (k + 1)) : Nat) < Int.toNat ((List.length list : Int) - k))))))) ((inK .i64 (i1 + 1)) ∧ (((ds = t1x1 ∧ stepsP p (ds.getD 0 0) = nx) ∧ (b = (stateP p (List.getD ds 0 0) (List.drop 1 ds) (Int.toNat (i1 + 1))).1 ∧ m = (stateP p (List.getD ds 0 0) (List.drop 1 ds) (Int.toNat (i1 + 1))).2 ∧ nx = stepsP p (List.getD ds 0 0) ∧ 0 ≤ (i1 + 1) ∧ (i1 + 1) ≤ (List.length nx : Int))) ∧ ((Int.toNat ((List.length nx : Int) - (i1 + 1)) : Nat) < Int.toNat ((List.length next : Int) - i)))))) ((inK .i64 (i1 + 1)) ∧ (((ds = t1x1 ∧ stepsP p (ds.getD 0 0) = nx) ∧ (b = (stateP p (List.getD ds 0 0) (List.drop 1 ds) (Int.toNat (i1 + 1))).1 ∧ m = (stateP p (List.getD ds 0 0) (List.drop 1 ds) (Int.toNat (i1 + 1))).2 ∧ nx = stepsP p (List.getD ds 0 0) ∧ 0 ≤ (i1 + 1) ∧ (i1 + 1) ≤ (List.length nx : Int))) ∧ ((Int.toNat ((List.length nx : Int) - (i1 + 1)) : Nat) < Int.toNat ((List.length next : Int) - i))))))))))))) (@Eq (HO c_spec_l10Walk0.outs) (best, most, ()) (c_spec_l10Walk0.out (p, ds, ()))))))))))))) (by kernel_rfl) ?_
  rintro p ds ⟨hp, hk⟩ hl
  have hn24 := hp.n
  refine ⟨by simp [AB]; omega, bspD (fun h0 => ?_) (fun h0 => ?_)⟩
  · have : ds = [] := List.eq_nil_of_length_eq_zero (by omega)
    subst this; rfl
  cases ds with
  | nil => exact absurd rfl h0
  | cons d dr =>
    exact absurd hk (by simp)
def c_spec_l10Walk1 : Con where
  ins := [(false, .v tSI), (false, .v tSI)]
  outs := [(false, .own 24 tSI), (false, .v tI)]
  sh := false
  pre := fun x => WalkOk x.1 x.2.1 ∧ List.length x.2.1 ≤ 1
  out := fun x => ((walkP x.2.1 x.1).1, (walkP x.2.1 x.1).2, ())
  upd := fun x => x
  eat := false
theorem k_spec_l10Walk1 [B : Base] : ConOk Try.prog 49 c_spec_l10Walk1 := by
  refine fn_ok (C := cx Try.prog 70 c_spec_l10Walk1) (cs := [(65, c_spec_l10Steps), (49, c_spec_l10Walk0), (50, c_spec_l10Put)]) (res := Try.f49.results.toList) (fun x => ⟨[{ sh := ⟨[(1, .one (.ref 0)), (6, .one (.ref 1)), (7, .one (.i .i64)), (8, .one (.ref 2)), (9, .one (.i .i64))], [(0, .imm tI false), (1, .own 24 tSI true), (2, .own 24 tSI true)]⟩, nx := 3, I := fun _ dat_ => (x.2.1 = dat_.2.1 ∧ stepsP x.1 (x.2.1.getD 0 0) = dat_.2.2.2.1) ∧ (dat_.2.2.1 = (stateP x.1 (List.getD x.2.1 0 0) (List.drop 1 x.2.1) (Int.toNat dat_.1.2.2.2.2.1)).1 ∧ dat_.1.2.2.1 = (stateP x.1 (List.getD x.2.1 0 0) (List.drop 1 x.2.1) (Int.toNat dat_.1.2.2.2.2.1)).2 ∧ dat_.2.2.2.1 = stepsP x.1 (List.getD x.2.1 0 0) ∧ 0 ≤ dat_.1.2.2.2.2.1 ∧ dat_.1.2.2.2.2.1 ≤ (List.length dat_.2.2.2.1 : Int)), mu := fun dat_ => Int.toNat ((List.length dat_.2.2.2.1 : Int) - dat_.1.2.2.2.2.1) }, { sh := ⟨[(1, .one (.ref 0)), (6, .one (.ref 1)), (7, .one (.i .i64)), (8, .one (.ref 2)), (9, .one (.i .i64)), (10, .one (.ref 3)), (11, .one (.i .i64)), (12, .one (.i .i64))], [(0, .imm tI false), (1, .own 24 tSI true), (2, .own 24 tSI true), (3, .own 24 tSI true)]⟩, nx := 4, I := fun g_ dat_ => ((walkP ((x.2.1.take x.2.1.length).drop 1) ((stepsP x.1 (x.2.1.getD 0 0)).getD dat_.1.2.2.2.2.1.toNat [])).2 = dat_.1.2.2.2.2.2.2.1 ∧ x.2.1 = dat_.2.1 ∧ (stepsP x.1 (x.2.1.getD 0 0)) = dat_.2.2.2.1 ∧ (walkP ((x.2.1.take x.2.1.length).drop 1) ((stepsP x.1 (x.2.1.getD 0 0)).getD dat_.1.2.2.2.2.1.toNat [])).1 = dat_.2.2.2.2.1) ∧ (W1 x.1 (List.getD x.2.1 0 0) (List.drop 1 x.2.1) dat_.2.2.1 dat_.1.2.2.1 dat_.2.2.2.1 dat_.1.2.2.2.2.1 dat_.2.2.2.2.1 dat_.1.2.2.2.2.2.2.1 dat_.1.2.2.2.2.2.2.2.1 ∧ (g_.headD 0) = Int.toNat ((List.length dat_.2.2.2.1 : Int) - dat_.1.2.2.2.2.1)), mu := fun dat_ => Int.toNat ((List.length dat_.2.2.2.2.1 : Int) - dat_.1.2.2.2.2.2.2.2.1) }], [(9, ⟨[[], [], [0, 1], [0, 1, 2], [], [4], [0, 1, 2, 3, 4, 5], [0, 1, 2, 3, 4, 5, 6], [0, 1, 2, 3, 4, 5, 6, 7], [0, 1, 2, 3, 4, 5, 6, 7], [0, 1, 2, 3, 4, 5, 6, 7, 8], [0, 1, 2, 3, 4, 5, 6, 7, 8, 9, 10]], [[1, 4, 5], [0, 4, 5], [4, 5], [4, 5], [0, 1, 2, 3], [0, 1, 2, 3], [], [], [9], [8, 10], [9], []], []⟩)], []⟩) Try.func49 (by kernel_rfl) rfl rfl rfl tysOk.look eqTsOk.look (AllCs.ok (l := [(65, c_spec_l10Steps), (49, c_spec_l10Walk0), (50, c_spec_l10Put)]) ⟨k_spec_l10Steps, k_spec_l10Walk0, k_spec_l10Put, trivial⟩) mixed rfl rfl rfl rfl ?_
  refine of_nf (P := ∀ p : List Int, ∀ ds : List Int, (WalkOk p ds ∧ List.length ds ≤ 1) → ((lensI c_spec_l10Walk1.ins (p, ds, ())) → ((([] : List Int).length + p.length ≤ AB) ∧ (bsp (decide ((ds.length : Int) = (0 : Int))) (@Eq (HO c_spec_l10Walk1.outs) ([(([] : List Int) ++ p)], 0, ()) (c_spec_l10Walk1.out (p, ds, ()))) ((0 ≤ (0 : Int) ∧ 0 < (ds.length : Int)) ∧ ((0 < ds.length) ∧ ((OkP (List.length p) p ∧ List.length p ≤ 24 ∧ 1 ≤ (ds.getD 0 0) ∧ (ds.getD 0 0) ≤ 6) ∧ (((ds = ds ∧ stepsP p (ds.getD 0 0) = (stepsP p (ds.getD 0 0))) ∧ ([(([] : List Int) ++ p)] = (stateP p (List.getD ds 0 0) (List.drop 1 ds) (Int.toNat (0 : Int))).1 ∧ (0 : Int) = (stateP p (List.getD ds 0 0) (List.drop 1 ds) (Int.toNat (0 : Int))).2 ∧ (stepsP p (ds.getD 0 0)) = stepsP p (List.getD ds 0 0) ∧ 0 ≤ (0 : Int) ∧ (0 : Int) ≤ (List.length (stepsP p (ds.getD 0 0)) : Int))) ∧ (∀ most : Int, ∀ i : Int, ∀ t1 : List Int, ∀ best : List (List Int), ∀ next : List (List Int), ((ds = t1 ∧ stepsP p (ds.getD 0 0) = next) ∧ (best = (stateP p (List.getD ds 0 0) (List.drop 1 ds) (Int.toNat i)).1 ∧ most = (stateP p (List.getD ds 0 0) (List.drop 1 ds) (Int.toNat i)).2 ∧ next = stepsP p (List.getD ds 0 0) ∧ 0 ≤ i ∧ i ≤ (List.length next : Int))) → (bsp (decide (i < (next.length : Int))) ((0 ≤ i ∧ i < (next.length : Int)) ∧ ((i.toNat < next.length) ∧ ((0 ≤ (1 : Int) ∧ (1 : Int) ≤ (t1.length : Int) ∧ (t1.length : Int) ≤ (t1.length : Int) ∧ (t1.length : Int) ≤ (t1.length : Int)) ∧ ((WalkOk (next.getD i.toNat []) ((t1.take t1.length).drop 1) ∧ List.length ((t1.take t1.length).drop 1) ≤ 0) ∧ ((inK .i64 ((walkP ((t1.take t1.length).drop 1) (next.getD i.toNat [])).2 + 1)) ∧ (bsp (decide (most < ((walkP ((t1.take t1.length).drop 1) (next.getD i.toNat [])).2 + 1))) ((inK .i64 ((walkP ((t1.take t1.length).drop 1) (next.getD i.toNat [])).2 + 1)) ∧ ((((walkP ((ds.take ds.length).drop 1) ((stepsP p (ds.getD 0 0)).getD i.toNat [])).2 = (walkP ((t1.take t1.length).drop 1) (next.getD i.toNat [])).2 ∧ ds = t1 ∧ (stepsP p (ds.getD 0 0)) = next ∧ (walkP ((ds.take ds.length).drop 1) ((stepsP p (ds.getD 0 0)).getD i.toNat [])).1 = (walkP ((t1.take t1.length).drop 1) (next.getD i.toNat [])).1) ∧ (W1 p (List.getD ds 0 0) (List.drop 1 ds) [] ((walkP ((t1.take t1.length).drop 1) (next.getD i.toNat [])).2 + 1) next i (walkP ((t1.take t1.length).drop 1) (next.getD i.toNat [])).1 (walkP ((t1.take t1.length).drop 1) (next.getD i.toNat [])).2 (0 : Int) ∧ (Int.toNat ((List.length next : Int) - i)) = Int.toNat ((List.length next : Int) - i))) ∧ (∀ m : Int, ∀ i1 : Int, ∀ n : Int, ∀ k : Int, ∀ t1x1 : List Int, ∀ b : List (List Int), ∀ nx : List (List Int), ∀ list : List (List Int), (((walkP ((ds.take ds.length).drop 1) ((stepsP p (ds.getD 0 0)).getD i1.toNat [])).2 = n ∧ ds = t1x1 ∧ (stepsP p (ds.getD 0 0)) = nx ∧ (walkP ((ds.take ds.length).drop 1) ((stepsP p (ds.getD 0 0)).getD i1.toNat [])).1 = list) ∧ (W1 p (List.getD ds 0 0) (List.drop 1 ds) b m nx i1 list n k ∧ (Int.toNat ((List.length next : Int) - i)) = Int.toNat ((List.length nx : Int) - i1))) → (bsp (decide (k < (list.length : Int))) ((inK .i64 (n + 1)) ∧ (bsp (decide ((n + 1) = m)) ((0 ≤ k ∧ k < (list.length : Int)) ∧ ((k.toNat < list.length) ∧ ((PutOk b (list.getD k.toNat [])) ∧ ((inK .i64 (k + 1)) ∧ ((((walkP ((ds.take ds.length).drop 1) ((stepsP p (ds.getD 0 0)).getD i1.toNat [])).2 = n ∧ ds = t1x1 ∧ (stepsP p (ds.getD 0 0)) = nx ∧ (walkP ((ds.take ds.length).drop 1) ((stepsP p (ds.getD 0 0)).getD i1.toNat [])).1 = list) ∧ (W1 p (List.getD ds 0 0) (List.drop 1 ds) (putD b (list.getD k.toNat [])) m nx i1 list n (k + 1) ∧ (Int.toNat ((List.length next : Int) - i)) = Int.toNat ((List.length nx : Int) - i1))) ∧ ((Int.toNat ((List.length list : Int) - (k + 1)) : Nat) < Int.toNat ((List.length list : Int) - k))))))) ((inK .i64 (i1 + 1)) ∧ (((ds = t1x1 ∧ stepsP p (ds.getD 0 0) = nx) ∧ (b = (stateP p (List.getD ds 0 0) (List.drop 1 ds) (Int.toNat (i1 + 1))).1 ∧ m = (stateP p (List.getD ds 0 0) (List.drop 1 ds) (Int.toNat (i1 + 1))).2 ∧ nx = stepsP p (List.getD ds 0 0) ∧ 0 ≤ (i1 + 1) ∧ (i1 + 1) ≤ (List.length nx : Int))) ∧ ((Int.toNat ((List.length nx : Int) - (i1 + 1)) : Nat) < Int.toNat ((List.length next : Int) - i)))))) ((inK .i64 (i1 + 1)) ∧ (((ds = t1x1 ∧ stepsP p (ds.getD 0 0) = nx) ∧ (b = (stateP p (List.getD ds 0 0) (List.drop 1 ds) (Int.toNat (i1 + 1))).1 ∧ m = (stateP p (List.getD ds 0 0) (List.drop 1 ds) (Int.toNat (i1 + 1))).2 ∧ nx = stepsP p (List.getD ds 0 0) ∧ 0 ≤ (i1 + 1) ∧ (i1 + 1) ≤ (List.length nx : Int))) ∧ ((Int.toNat ((List.length nx : Int) - (i1 + 1)) : Nat) < Int.toNat ((List.length next : Int) - i)))))))) ((((walkP ((ds.take ds.length).drop 1) ((stepsP p (ds.getD 0 0)).getD i.toNat [])).2 = (walkP ((t1.take t1.length).drop 1) (next.getD i.toNat [])).2 ∧ ds = t1 ∧ (stepsP p (ds.getD 0 0)) = next ∧ (walkP ((ds.take ds.length).drop 1) ((stepsP p (ds.getD 0 0)).getD i.toNat [])).1 = (walkP ((t1.take t1.length).drop 1) (next.getD i.toNat [])).1) ∧ (W1 p (List.getD ds 0 0) (List.drop 1 ds) best most next i (walkP ((t1.take t1.length).drop 1) (next.getD i.toNat [])).1 (walkP ((t1.take t1.length).drop 1) (next.getD i.toNat [])).2 (0 : Int) ∧ (Int.toNat ((List.length next : Int) - i)) = Int.toNat ((List.length next : Int) - i))) ∧ (∀ m : Int, ∀ i1 : Int, ∀ n : Int, ∀ k : Int, ∀ t1x1 : List Int, ∀ b : List (List Int), ∀ nx : List (List Int), ∀ list : List (List Int), (((walkP ((ds.take ds.length).drop 1) ((stepsP p (ds.getD 0 0)).getD i1.toNat [])).2 = n ∧ ds = t1x1 ∧ (stepsP p (ds.getD 0 0)) = nx ∧ (walkP ((ds.take ds.length).drop 1) ((stepsP p (ds.getD 0 0)).getD i1.toNat [])).1 = list) ∧ (W1 p (List.getD ds 0 0) (List.drop 1 ds) b m nx i1 list n k ∧ (Int.toNat ((List.length next : Int) - i)) = Int.toNat ((List.length nx : Int) - i1))) → (bsp (decide (k < (list.length : Int))) ((inK .i64 (n + 1)) ∧ (bsp (decide ((n + 1) = m)) ((0 ≤ k ∧ k < (list.length : Int)) ∧ ((k.toNat < list.length) ∧ ((PutOk b (list.getD k.toNat [])) ∧ ((inK .i64 (k + 1)) ∧ ((((walkP ((ds.take ds.length).drop 1) ((stepsP p (ds.getD 0 0)).getD i1.toNat [])).2 = n ∧ ds = t1x1 ∧ (stepsP p (ds.getD 0 0)) = nx ∧ (walkP ((ds.take ds.length).drop 1) ((stepsP p (ds.getD 0 0)).getD i1.toNat [])).1 = list) ∧ (W1 p (List.getD ds 0 0) (List.drop 1 ds) (putD b (list.getD k.toNat [])) m nx i1 list n (k + 1) ∧ (Int.toNat ((List.length next : Int) - i)) = Int.toNat ((List.length nx : Int) - i1))) ∧ ((Int.toNat ((List.length list : Int) - (k + 1)) : Nat) < Int.toNat ((List.length list : Int) - k))))))) ((inK .i64 (i1 + 1)) ∧ (((ds = t1x1 ∧ stepsP p (ds.getD 0 0) = nx) ∧ (b = (stateP p (List.getD ds 0 0) (List.drop 1 ds) (Int.toNat (i1 + 1))).1 ∧ m = (stateP p (List.getD ds 0 0) (List.drop 1 ds) (Int.toNat (i1 + 1))).2 ∧ nx = stepsP p (List.getD ds 0 0) ∧ 0 ≤ (i1 + 1) ∧ (i1 + 1) ≤ (List.length nx : Int))) ∧ ((Int.toNat ((List.length nx : Int) - (i1 + 1)) : Nat) < Int.toNat ((List.length next : Int) - i)))))) ((inK .i64 (i1 + 1)) ∧ (((ds = t1x1 ∧ stepsP p (ds.getD 0 0) = nx) ∧ (b = (stateP p (List.getD ds 0 0) (List.drop 1 ds) (Int.toNat (i1 + 1))).1 ∧ m = (stateP p (List.getD ds 0 0) (List.drop 1 ds) (Int.toNat (i1 + 1))).2 ∧ nx = stepsP p (List.getD ds 0 0) ∧ 0 ≤ (i1 + 1) ∧ (i1 + 1) ≤ (List.length nx : Int))) ∧ ((Int.toNat ((List.length nx : Int) - (i1 + 1)) : Nat) < Int.toNat ((List.length next : Int) - i))))))))))))) (@Eq (HO c_spec_l10Walk1.outs) (best, most, ()) (c_spec_l10Walk1.out (p, ds, ()))))))))))))) (by kernel_rfl) ?_
  rintro p ds ⟨hp, hk⟩ hl
  have hn24 := hp.n
  refine ⟨by simp [AB]; omega, bspD (fun h0 => ?_) (fun h0 => ?_)⟩
  · have : ds = [] := List.eq_nil_of_length_eq_zero (by omega)
    subst this; rfl
  cases ds with
  | nil => exact absurd rfl h0
  | cons d dr =>
    clear h0
    have hd1 := hp.d d (by simp)
    have hd6 := hp.six d (by simp)
    simp only [List.getD_cons_zero, List.take_length, List.drop_one, List.tail_cons]
    refine ⟨⟨by omega, by simp only [List.length_cons]; omega⟩, by simp, ⟨hp.ok, hp.n, hd1, hd6⟩, ⟨(by first | trivial | rfl | (and_intros <;> rfl)), rfl, rfl, trivial, by omega, by omega⟩, ?_⟩
    rintro most i t1 best next ⟨⟨rfl, rfl⟩, ⟨hb, hm, -, i0, i1⟩⟩
    obtain ⟨j, rfl⟩ : ∃ x : Nat, i = x := ⟨i.toNat, by omega⟩
    simp only [Int.toNat_natCast, List.take_length, List.drop_one, List.tail_cons] at hb hm ⊢
    refine bspD (fun hlt => ?_) (fun hge => ?_)
    · have hjl : j < (stepsP p d).length := by omega
      have hq : (stepsP p d).getD j [] ∈ stepsP p d := by rw [List.getD_eq_getElem?_getD, List.getElem?_eq_getElem hjl]; exact List.getElem_mem hjl
      have hqo := (step_of hp.ok hd1 hq).1
      obtain ⟨y1, y2, y3, y4⟩ := walk_all hp.n (fun x hx => hp.d x (List.mem_cons_of_mem _ hx)) hqo
      have hW0 : ∀ b m, (b, m) = openS (stateP p d dr j) (walkP dr ((stepsP p d).getD j [])).2 → W1 p d dr b m (stepsP p d) j (walkP dr ((stepsP p d).getD j [])).1 (walkP dr ((stepsP p d).getD j [])).2 0 := fun b m e =>
        ⟨rfl, by omega, rfl, rfl, by rw [Int.toNat_natCast, ← e]; simp, by rw [Int.toNat_natCast, ← e], by omega, fun h => absurd h (by omega)⟩
      have hkk : dr.length + 1 ≤ 1 := by simp only [List.length_cons] at hk; omega
      refine ⟨⟨by omega, by omega⟩, hjl, ⟨by omega, by simp only [List.length_cons]; omega, by omega, by omega⟩, ⟨⟨by rw [hqo.len]; exact hqo, by rw [hqo.len]; exact hp.n0, by rw [hqo.len]; exact hp.n, fun x hx => hp.d x (List.mem_cons_of_mem _ hx), fun x hx => hp.six x (List.mem_cons_of_mem _ hx)⟩, by omega⟩, by simp only [inK]; omega, bspD (fun hmo => ⟨by simp only [inK]; omega, ⟨(by first | trivial | rfl | (and_intros <;> rfl)), hW0 _ _ ?_, trivial⟩, ?_⟩) (fun hmo => ⟨⟨(by first | trivial | rfl | (and_intros <;> rfl)), hW0 _ _ ?_, trivial⟩, ?_⟩)⟩
      · unfold openS; rw [if_pos (by rw [← hm]; exact hmo)]
      · rintro m i1 n k t1x1 b nx list ⟨⟨rfl, rfl, rfl, rfl⟩, ⟨hW, hG⟩⟩
        obtain ⟨j1, rfl⟩ : ∃ x : Nat, i1 = x := ⟨i1.toNat, by have := hW.hi; omega⟩
        obtain ⟨c, rfl⟩ : ∃ x : Nat, k = x := ⟨k.toNat, by have := hW.hk; omega⟩
        simp only [Int.toNat_natCast] at hW hlt hG ⊢
        have hi1 := hW.hi
        have hc1 := hW.hk
        have hnn := hW.hn
        have hll := hW.hlist
        simp only [Int.toNat_natCast] at hnn hll
        have hA := hW.all hp (by simp only [List.length_cons] at hk; omega)
        have hq1 : (stepsP p d).getD j1 [] ∈ stepsP p d := by rw [List.getD_eq_getElem?_getD, List.getElem?_eq_getElem (by omega)]; exact List.getElem_mem (by omega)
        obtain ⟨z1, z2, z3, z4⟩ := walk_all hp.n (fun x hx => hp.d x (List.mem_cons_of_mem _ hx)) (step_of hp.ok (hp.d d (by simp)) hq1).1
        have hle1 : ((walkP dr ((stepsP p d).getD j1 [])).1.length : Int) ≤ 390625 := by have := pow25 (k := dr.length) (by simp only [List.length_cons] at hk; omega); omega
        have hst := stepsP_length p d
        refine bspD (fun hc => ?_) (fun hc => ?_)
        · refine ⟨by simp only [inK, List.length_cons] at *; omega, bspD (fun he => ?_) (fun he => ?_)⟩
          · have hcl : c < (walkP dr ((stepsP p d).getD j1 [])).1.length := by omega
            have hml : (walkP dr ((stepsP p d).getD j1 [])).1.getD c [] ∈ (walkP dr ((stepsP p d).getD j1 [])).1 := getP_mem hcl
            have hql := (z1 _ hml).len
            exact ⟨⟨by omega, by omega⟩, hcl, ⟨by rw [hql]; exact hA.2.1.len, by rw [hql]; exact hp.n, by omega⟩, by simp only [inK]; omega, ⟨(by first | trivial | rfl | (and_intros <;> rfl)), hW.next hcl he, hG⟩, by omega⟩
          · have hf := hW.fin (.inr he)
            refine ⟨by simp only [inK]; omega, ⟨(by first | trivial | rfl | (and_intros <;> rfl)), ?_, ?_, trivial, by omega, by omega⟩, by omega⟩
            · rw [show ((j1 : Int) + 1).toNat = j1 + 1 by omega, hf]
            · rw [show ((j1 : Int) + 1).toNat = j1 + 1 by omega, hf]
        · have hf := hW.fin (.inl (by omega))
          refine ⟨by simp only [inK]; omega, ⟨(by first | trivial | rfl | (and_intros <;> rfl)), ?_, ?_, trivial, by omega, by omega⟩, by omega⟩
          · rw [show ((j1 : Int) + 1).toNat = j1 + 1 by omega, hf]
          · rw [show ((j1 : Int) + 1).toNat = j1 + 1 by omega, hf]
      · unfold openS; rw [if_neg (by rw [← hm]; exact hmo), hb, hm]
      · rintro m i1 n k t1x1 b nx list ⟨⟨rfl, rfl, rfl, rfl⟩, ⟨hW, hG⟩⟩
        obtain ⟨j1, rfl⟩ : ∃ x : Nat, i1 = x := ⟨i1.toNat, by have := hW.hi; omega⟩
        obtain ⟨c, rfl⟩ : ∃ x : Nat, k = x := ⟨k.toNat, by have := hW.hk; omega⟩
        simp only [Int.toNat_natCast] at hW hlt hG ⊢
        have hi1 := hW.hi
        have hc1 := hW.hk
        have hnn := hW.hn
        have hll := hW.hlist
        simp only [Int.toNat_natCast] at hnn hll
        have hA := hW.all hp (by simp only [List.length_cons] at hk; omega)
        have hq1 : (stepsP p d).getD j1 [] ∈ stepsP p d := by rw [List.getD_eq_getElem?_getD, List.getElem?_eq_getElem (by omega)]; exact List.getElem_mem (by omega)
        obtain ⟨z1, z2, z3, z4⟩ := walk_all hp.n (fun x hx => hp.d x (List.mem_cons_of_mem _ hx)) (step_of hp.ok (hp.d d (by simp)) hq1).1
        have hle1 : ((walkP dr ((stepsP p d).getD j1 [])).1.length : Int) ≤ 390625 := by have := pow25 (k := dr.length) (by simp only [List.length_cons] at hk; omega); omega
        have hst := stepsP_length p d
        refine bspD (fun hc => ?_) (fun hc => ?_)
        · refine ⟨by simp only [inK, List.length_cons] at *; omega, bspD (fun he => ?_) (fun he => ?_)⟩
          · have hcl : c < (walkP dr ((stepsP p d).getD j1 [])).1.length := by omega
            have hml : (walkP dr ((stepsP p d).getD j1 [])).1.getD c [] ∈ (walkP dr ((stepsP p d).getD j1 [])).1 := getP_mem hcl
            have hql := (z1 _ hml).len
            exact ⟨⟨by omega, by omega⟩, hcl, ⟨by rw [hql]; exact hA.2.1.len, by rw [hql]; exact hp.n, by omega⟩, by simp only [inK]; omega, ⟨(by first | trivial | rfl | (and_intros <;> rfl)), hW.next hcl he, hG⟩, by omega⟩
          · have hf := hW.fin (.inr he)
            refine ⟨by simp only [inK]; omega, ⟨(by first | trivial | rfl | (and_intros <;> rfl)), ?_, ?_, trivial, by omega, by omega⟩, by omega⟩
            · rw [show ((j1 : Int) + 1).toNat = j1 + 1 by omega, hf]
            · rw [show ((j1 : Int) + 1).toNat = j1 + 1 by omega, hf]
        · have hf := hW.fin (.inl (by omega))
          refine ⟨by simp only [inK]; omega, ⟨(by first | trivial | rfl | (and_intros <;> rfl)), ?_, ?_, trivial, by omega, by omega⟩, by omega⟩
          · rw [show ((j1 : Int) + 1).toNat = j1 + 1 by omega, hf]
          · rw [show ((j1 : Int) + 1).toNat = j1 + 1 by omega, hf]
    · have hj : (stepsP p d).length ≤ j := by omega
      rw [stateP_all p d dr hj] at hb hm
      rw [hb, hm]; rfl
def c_spec_l10Walk2 : Con where
  ins := [(false, .v tSI), (false, .v tSI)]
  outs := [(false, .own 24 tSI), (false, .v tI)]
  sh := false
  pre := fun x => WalkOk x.1 x.2.1 ∧ List.length x.2.1 ≤ 2
  out := fun x => ((walkP x.2.1 x.1).1, (walkP x.2.1 x.1).2, ())
  upd := fun x => x
  eat := false
theorem k_spec_l10Walk2 [B : Base] : ConOk Try.prog 49 c_spec_l10Walk2 := by
  refine fn_ok (C := cx Try.prog 70 c_spec_l10Walk2) (cs := [(65, c_spec_l10Steps), (49, c_spec_l10Walk1), (50, c_spec_l10Put)]) (res := Try.f49.results.toList) (fun x => ⟨[{ sh := ⟨[(1, .one (.ref 0)), (6, .one (.ref 1)), (7, .one (.i .i64)), (8, .one (.ref 2)), (9, .one (.i .i64))], [(0, .imm tI false), (1, .own 24 tSI true), (2, .own 24 tSI true)]⟩, nx := 3, I := fun _ dat_ => (x.2.1 = dat_.2.1 ∧ stepsP x.1 (x.2.1.getD 0 0) = dat_.2.2.2.1) ∧ (dat_.2.2.1 = (stateP x.1 (List.getD x.2.1 0 0) (List.drop 1 x.2.1) (Int.toNat dat_.1.2.2.2.2.1)).1 ∧ dat_.1.2.2.1 = (stateP x.1 (List.getD x.2.1 0 0) (List.drop 1 x.2.1) (Int.toNat dat_.1.2.2.2.2.1)).2 ∧ dat_.2.2.2.1 = stepsP x.1 (List.getD x.2.1 0 0) ∧ 0 ≤ dat_.1.2.2.2.2.1 ∧ dat_.1.2.2.2.2.1 ≤ (List.length dat_.2.2.2.1 : Int)), mu := fun dat_ => Int.toNat ((List.length dat_.2.2.2.1 : Int) - dat_.1.2.2.2.2.1) }, { sh := ⟨[(1, .one (.ref 0)), (6, .one (.ref 1)), (7, .one (.i .i64)), (8, .one (.ref 2)), (9, .one (.i .i64)), (10, .one (.ref 3)), (11, .one (.i .i64)), (12, .one (.i .i64))], [(0, .imm tI false), (1, .own 24 tSI true), (2, .own 24 tSI true), (3, .own 24 tSI true)]⟩, nx := 4, I := fun g_ dat_ => ((walkP ((x.2.1.take x.2.1.length).drop 1) ((stepsP x.1 (x.2.1.getD 0 0)).getD dat_.1.2.2.2.2.1.toNat [])).2 = dat_.1.2.2.2.2.2.2.1 ∧ x.2.1 = dat_.2.1 ∧ (stepsP x.1 (x.2.1.getD 0 0)) = dat_.2.2.2.1 ∧ (walkP ((x.2.1.take x.2.1.length).drop 1) ((stepsP x.1 (x.2.1.getD 0 0)).getD dat_.1.2.2.2.2.1.toNat [])).1 = dat_.2.2.2.2.1) ∧ (W1 x.1 (List.getD x.2.1 0 0) (List.drop 1 x.2.1) dat_.2.2.1 dat_.1.2.2.1 dat_.2.2.2.1 dat_.1.2.2.2.2.1 dat_.2.2.2.2.1 dat_.1.2.2.2.2.2.2.1 dat_.1.2.2.2.2.2.2.2.1 ∧ (g_.headD 0) = Int.toNat ((List.length dat_.2.2.2.1 : Int) - dat_.1.2.2.2.2.1)), mu := fun dat_ => Int.toNat ((List.length dat_.2.2.2.2.1 : Int) - dat_.1.2.2.2.2.2.2.2.1) }], [(9, ⟨[[], [], [0, 1], [0, 1, 2], [], [4], [0, 1, 2, 3, 4, 5], [0, 1, 2, 3, 4, 5, 6], [0, 1, 2, 3, 4, 5, 6, 7], [0, 1, 2, 3, 4, 5, 6, 7], [0, 1, 2, 3, 4, 5, 6, 7, 8], [0, 1, 2, 3, 4, 5, 6, 7, 8, 9, 10]], [[1, 4, 5], [0, 4, 5], [4, 5], [4, 5], [0, 1, 2, 3], [0, 1, 2, 3], [], [], [9], [8, 10], [9], []], []⟩)], []⟩) Try.func49 (by kernel_rfl) rfl rfl rfl tysOk.look eqTsOk.look (AllCs.ok (l := [(65, c_spec_l10Steps), (49, c_spec_l10Walk1), (50, c_spec_l10Put)]) ⟨k_spec_l10Steps, k_spec_l10Walk1, k_spec_l10Put, trivial⟩) mixed rfl rfl rfl rfl ?_
  refine of_nf (P := ∀ p : List Int, ∀ ds : List Int, (WalkOk p ds ∧ List.length ds ≤ 2) → ((lensI c_spec_l10Walk2.ins (p, ds, ())) → ((([] : List Int).length + p.length ≤ AB) ∧ (bsp (decide ((ds.length : Int) = (0 : Int))) (@Eq (HO c_spec_l10Walk2.outs) ([(([] : List Int) ++ p)], 0, ()) (c_spec_l10Walk2.out (p, ds, ()))) ((0 ≤ (0 : Int) ∧ 0 < (ds.length : Int)) ∧ ((0 < ds.length) ∧ ((OkP (List.length p) p ∧ List.length p ≤ 24 ∧ 1 ≤ (ds.getD 0 0) ∧ (ds.getD 0 0) ≤ 6) ∧ (((ds = ds ∧ stepsP p (ds.getD 0 0) = (stepsP p (ds.getD 0 0))) ∧ ([(([] : List Int) ++ p)] = (stateP p (List.getD ds 0 0) (List.drop 1 ds) (Int.toNat (0 : Int))).1 ∧ (0 : Int) = (stateP p (List.getD ds 0 0) (List.drop 1 ds) (Int.toNat (0 : Int))).2 ∧ (stepsP p (ds.getD 0 0)) = stepsP p (List.getD ds 0 0) ∧ 0 ≤ (0 : Int) ∧ (0 : Int) ≤ (List.length (stepsP p (ds.getD 0 0)) : Int))) ∧ (∀ most : Int, ∀ i : Int, ∀ t1 : List Int, ∀ best : List (List Int), ∀ next : List (List Int), ((ds = t1 ∧ stepsP p (ds.getD 0 0) = next) ∧ (best = (stateP p (List.getD ds 0 0) (List.drop 1 ds) (Int.toNat i)).1 ∧ most = (stateP p (List.getD ds 0 0) (List.drop 1 ds) (Int.toNat i)).2 ∧ next = stepsP p (List.getD ds 0 0) ∧ 0 ≤ i ∧ i ≤ (List.length next : Int))) → (bsp (decide (i < (next.length : Int))) ((0 ≤ i ∧ i < (next.length : Int)) ∧ ((i.toNat < next.length) ∧ ((0 ≤ (1 : Int) ∧ (1 : Int) ≤ (t1.length : Int) ∧ (t1.length : Int) ≤ (t1.length : Int) ∧ (t1.length : Int) ≤ (t1.length : Int)) ∧ ((WalkOk (next.getD i.toNat []) ((t1.take t1.length).drop 1) ∧ List.length ((t1.take t1.length).drop 1) ≤ 1) ∧ ((inK .i64 ((walkP ((t1.take t1.length).drop 1) (next.getD i.toNat [])).2 + 1)) ∧ (bsp (decide (most < ((walkP ((t1.take t1.length).drop 1) (next.getD i.toNat [])).2 + 1))) ((inK .i64 ((walkP ((t1.take t1.length).drop 1) (next.getD i.toNat [])).2 + 1)) ∧ ((((walkP ((ds.take ds.length).drop 1) ((stepsP p (ds.getD 0 0)).getD i.toNat [])).2 = (walkP ((t1.take t1.length).drop 1) (next.getD i.toNat [])).2 ∧ ds = t1 ∧ (stepsP p (ds.getD 0 0)) = next ∧ (walkP ((ds.take ds.length).drop 1) ((stepsP p (ds.getD 0 0)).getD i.toNat [])).1 = (walkP ((t1.take t1.length).drop 1) (next.getD i.toNat [])).1) ∧ (W1 p (List.getD ds 0 0) (List.drop 1 ds) [] ((walkP ((t1.take t1.length).drop 1) (next.getD i.toNat [])).2 + 1) next i (walkP ((t1.take t1.length).drop 1) (next.getD i.toNat [])).1 (walkP ((t1.take t1.length).drop 1) (next.getD i.toNat [])).2 (0 : Int) ∧ (Int.toNat ((List.length next : Int) - i)) = Int.toNat ((List.length next : Int) - i))) ∧ (∀ m : Int, ∀ i1 : Int, ∀ n : Int, ∀ k : Int, ∀ t1x1 : List Int, ∀ b : List (List Int), ∀ nx : List (List Int), ∀ list : List (List Int), (((walkP ((ds.take ds.length).drop 1) ((stepsP p (ds.getD 0 0)).getD i1.toNat [])).2 = n ∧ ds = t1x1 ∧ (stepsP p (ds.getD 0 0)) = nx ∧ (walkP ((ds.take ds.length).drop 1) ((stepsP p (ds.getD 0 0)).getD i1.toNat [])).1 = list) ∧ (W1 p (List.getD ds 0 0) (List.drop 1 ds) b m nx i1 list n k ∧ (Int.toNat ((List.length next : Int) - i)) = Int.toNat ((List.length nx : Int) - i1))) → (bsp (decide (k < (list.length : Int))) ((inK .i64 (n + 1)) ∧ (bsp (decide ((n + 1) = m)) ((0 ≤ k ∧ k < (list.length : Int)) ∧ ((k.toNat < list.length) ∧ ((PutOk b (list.getD k.toNat [])) ∧ ((inK .i64 (k + 1)) ∧ ((((walkP ((ds.take ds.length).drop 1) ((stepsP p (ds.getD 0 0)).getD i1.toNat [])).2 = n ∧ ds = t1x1 ∧ (stepsP p (ds.getD 0 0)) = nx ∧ (walkP ((ds.take ds.length).drop 1) ((stepsP p (ds.getD 0 0)).getD i1.toNat [])).1 = list) ∧ (W1 p (List.getD ds 0 0) (List.drop 1 ds) (putD b (list.getD k.toNat [])) m nx i1 list n (k + 1) ∧ (Int.toNat ((List.length next : Int) - i)) = Int.toNat ((List.length nx : Int) - i1))) ∧ ((Int.toNat ((List.length list : Int) - (k + 1)) : Nat) < Int.toNat ((List.length list : Int) - k))))))) ((inK .i64 (i1 + 1)) ∧ (((ds = t1x1 ∧ stepsP p (ds.getD 0 0) = nx) ∧ (b = (stateP p (List.getD ds 0 0) (List.drop 1 ds) (Int.toNat (i1 + 1))).1 ∧ m = (stateP p (List.getD ds 0 0) (List.drop 1 ds) (Int.toNat (i1 + 1))).2 ∧ nx = stepsP p (List.getD ds 0 0) ∧ 0 ≤ (i1 + 1) ∧ (i1 + 1) ≤ (List.length nx : Int))) ∧ ((Int.toNat ((List.length nx : Int) - (i1 + 1)) : Nat) < Int.toNat ((List.length next : Int) - i)))))) ((inK .i64 (i1 + 1)) ∧ (((ds = t1x1 ∧ stepsP p (ds.getD 0 0) = nx) ∧ (b = (stateP p (List.getD ds 0 0) (List.drop 1 ds) (Int.toNat (i1 + 1))).1 ∧ m = (stateP p (List.getD ds 0 0) (List.drop 1 ds) (Int.toNat (i1 + 1))).2 ∧ nx = stepsP p (List.getD ds 0 0) ∧ 0 ≤ (i1 + 1) ∧ (i1 + 1) ≤ (List.length nx : Int))) ∧ ((Int.toNat ((List.length nx : Int) - (i1 + 1)) : Nat) < Int.toNat ((List.length next : Int) - i)))))))) ((((walkP ((ds.take ds.length).drop 1) ((stepsP p (ds.getD 0 0)).getD i.toNat [])).2 = (walkP ((t1.take t1.length).drop 1) (next.getD i.toNat [])).2 ∧ ds = t1 ∧ (stepsP p (ds.getD 0 0)) = next ∧ (walkP ((ds.take ds.length).drop 1) ((stepsP p (ds.getD 0 0)).getD i.toNat [])).1 = (walkP ((t1.take t1.length).drop 1) (next.getD i.toNat [])).1) ∧ (W1 p (List.getD ds 0 0) (List.drop 1 ds) best most next i (walkP ((t1.take t1.length).drop 1) (next.getD i.toNat [])).1 (walkP ((t1.take t1.length).drop 1) (next.getD i.toNat [])).2 (0 : Int) ∧ (Int.toNat ((List.length next : Int) - i)) = Int.toNat ((List.length next : Int) - i))) ∧ (∀ m : Int, ∀ i1 : Int, ∀ n : Int, ∀ k : Int, ∀ t1x1 : List Int, ∀ b : List (List Int), ∀ nx : List (List Int), ∀ list : List (List Int), (((walkP ((ds.take ds.length).drop 1) ((stepsP p (ds.getD 0 0)).getD i1.toNat [])).2 = n ∧ ds = t1x1 ∧ (stepsP p (ds.getD 0 0)) = nx ∧ (walkP ((ds.take ds.length).drop 1) ((stepsP p (ds.getD 0 0)).getD i1.toNat [])).1 = list) ∧ (W1 p (List.getD ds 0 0) (List.drop 1 ds) b m nx i1 list n k ∧ (Int.toNat ((List.length next : Int) - i)) = Int.toNat ((List.length nx : Int) - i1))) → (bsp (decide (k < (list.length : Int))) ((inK .i64 (n + 1)) ∧ (bsp (decide ((n + 1) = m)) ((0 ≤ k ∧ k < (list.length : Int)) ∧ ((k.toNat < list.length) ∧ ((PutOk b (list.getD k.toNat [])) ∧ ((inK .i64 (k + 1)) ∧ ((((walkP ((ds.take ds.length).drop 1) ((stepsP p (ds.getD 0 0)).getD i1.toNat [])).2 = n ∧ ds = t1x1 ∧ (stepsP p (ds.getD 0 0)) = nx ∧ (walkP ((ds.take ds.length).drop 1) ((stepsP p (ds.getD 0 0)).getD i1.toNat [])).1 = list) ∧ (W1 p (List.getD ds 0 0) (List.drop 1 ds) (putD b (list.getD k.toNat [])) m nx i1 list n (k + 1) ∧ (Int.toNat ((List.length next : Int) - i)) = Int.toNat ((List.length nx : Int) - i1))) ∧ ((Int.toNat ((List.length list : Int) - (k + 1)) : Nat) < Int.toNat ((List.length list : Int) - k))))))) ((inK .i64 (i1 + 1)) ∧ (((ds = t1x1 ∧ stepsP p (ds.getD 0 0) = nx) ∧ (b = (stateP p (List.getD ds 0 0) (List.drop 1 ds) (Int.toNat (i1 + 1))).1 ∧ m = (stateP p (List.getD ds 0 0) (List.drop 1 ds) (Int.toNat (i1 + 1))).2 ∧ nx = stepsP p (List.getD ds 0 0) ∧ 0 ≤ (i1 + 1) ∧ (i1 + 1) ≤ (List.length nx : Int))) ∧ ((Int.toNat ((List.length nx : Int) - (i1 + 1)) : Nat) < Int.toNat ((List.length next : Int) - i)))))) ((inK .i64 (i1 + 1)) ∧ (((ds = t1x1 ∧ stepsP p (ds.getD 0 0) = nx) ∧ (b = (stateP p (List.getD ds 0 0) (List.drop 1 ds) (Int.toNat (i1 + 1))).1 ∧ m = (stateP p (List.getD ds 0 0) (List.drop 1 ds) (Int.toNat (i1 + 1))).2 ∧ nx = stepsP p (List.getD ds 0 0) ∧ 0 ≤ (i1 + 1) ∧ (i1 + 1) ≤ (List.length nx : Int))) ∧ ((Int.toNat ((List.length nx : Int) - (i1 + 1)) : Nat) < Int.toNat ((List.length next : Int) - i))))))))))))) (@Eq (HO c_spec_l10Walk2.outs) (best, most, ()) (c_spec_l10Walk2.out (p, ds, ()))))))))))))) (by kernel_rfl) ?_
  rintro p ds ⟨hp, hk⟩ hl
  have hn24 := hp.n
  refine ⟨by simp [AB]; omega, bspD (fun h0 => ?_) (fun h0 => ?_)⟩
  · have : ds = [] := List.eq_nil_of_length_eq_zero (by omega)
    subst this; rfl
  cases ds with
  | nil => exact absurd rfl h0
  | cons d dr =>
    clear h0
    have hd1 := hp.d d (by simp)
    have hd6 := hp.six d (by simp)
    simp only [List.getD_cons_zero, List.take_length, List.drop_one, List.tail_cons]
    refine ⟨⟨by omega, by simp only [List.length_cons]; omega⟩, by simp, ⟨hp.ok, hp.n, hd1, hd6⟩, ⟨(by first | trivial | rfl | (and_intros <;> rfl)), rfl, rfl, trivial, by omega, by omega⟩, ?_⟩
    rintro most i t1 best next ⟨⟨rfl, rfl⟩, ⟨hb, hm, -, i0, i1⟩⟩
    obtain ⟨j, rfl⟩ : ∃ x : Nat, i = x := ⟨i.toNat, by omega⟩
    simp only [Int.toNat_natCast, List.take_length, List.drop_one, List.tail_cons] at hb hm ⊢
    refine bspD (fun hlt => ?_) (fun hge => ?_)
    · have hjl : j < (stepsP p d).length := by omega
      have hq : (stepsP p d).getD j [] ∈ stepsP p d := by rw [List.getD_eq_getElem?_getD, List.getElem?_eq_getElem hjl]; exact List.getElem_mem hjl
      have hqo := (step_of hp.ok hd1 hq).1
      obtain ⟨y1, y2, y3, y4⟩ := walk_all hp.n (fun x hx => hp.d x (List.mem_cons_of_mem _ hx)) hqo
      have hW0 : ∀ b m, (b, m) = openS (stateP p d dr j) (walkP dr ((stepsP p d).getD j [])).2 → W1 p d dr b m (stepsP p d) j (walkP dr ((stepsP p d).getD j [])).1 (walkP dr ((stepsP p d).getD j [])).2 0 := fun b m e =>
        ⟨rfl, by omega, rfl, rfl, by rw [Int.toNat_natCast, ← e]; simp, by rw [Int.toNat_natCast, ← e], by omega, fun h => absurd h (by omega)⟩
      have hkk : dr.length + 1 ≤ 2 := by simp only [List.length_cons] at hk; omega
      refine ⟨⟨by omega, by omega⟩, hjl, ⟨by omega, by simp only [List.length_cons]; omega, by omega, by omega⟩, ⟨⟨by rw [hqo.len]; exact hqo, by rw [hqo.len]; exact hp.n0, by rw [hqo.len]; exact hp.n, fun x hx => hp.d x (List.mem_cons_of_mem _ hx), fun x hx => hp.six x (List.mem_cons_of_mem _ hx)⟩, by omega⟩, by simp only [inK]; omega, bspD (fun hmo => ⟨by simp only [inK]; omega, ⟨(by first | trivial | rfl | (and_intros <;> rfl)), hW0 _ _ ?_, trivial⟩, ?_⟩) (fun hmo => ⟨⟨(by first | trivial | rfl | (and_intros <;> rfl)), hW0 _ _ ?_, trivial⟩, ?_⟩)⟩
      · unfold openS; rw [if_pos (by rw [← hm]; exact hmo)]
      · rintro m i1 n k t1x1 b nx list ⟨⟨rfl, rfl, rfl, rfl⟩, ⟨hW, hG⟩⟩
        obtain ⟨j1, rfl⟩ : ∃ x : Nat, i1 = x := ⟨i1.toNat, by have := hW.hi; omega⟩
        obtain ⟨c, rfl⟩ : ∃ x : Nat, k = x := ⟨k.toNat, by have := hW.hk; omega⟩
        simp only [Int.toNat_natCast] at hW hlt hG ⊢
        have hi1 := hW.hi
        have hc1 := hW.hk
        have hnn := hW.hn
        have hll := hW.hlist
        simp only [Int.toNat_natCast] at hnn hll
        have hA := hW.all hp (by simp only [List.length_cons] at hk; omega)
        have hq1 : (stepsP p d).getD j1 [] ∈ stepsP p d := by rw [List.getD_eq_getElem?_getD, List.getElem?_eq_getElem (by omega)]; exact List.getElem_mem (by omega)
        obtain ⟨z1, z2, z3, z4⟩ := walk_all hp.n (fun x hx => hp.d x (List.mem_cons_of_mem _ hx)) (step_of hp.ok (hp.d d (by simp)) hq1).1
        have hle1 : ((walkP dr ((stepsP p d).getD j1 [])).1.length : Int) ≤ 390625 := by have := pow25 (k := dr.length) (by simp only [List.length_cons] at hk; omega); omega
        have hst := stepsP_length p d
        refine bspD (fun hc => ?_) (fun hc => ?_)
        · refine ⟨by simp only [inK, List.length_cons] at *; omega, bspD (fun he => ?_) (fun he => ?_)⟩
          · have hcl : c < (walkP dr ((stepsP p d).getD j1 [])).1.length := by omega
            have hml : (walkP dr ((stepsP p d).getD j1 [])).1.getD c [] ∈ (walkP dr ((stepsP p d).getD j1 [])).1 := getP_mem hcl
            have hql := (z1 _ hml).len
            exact ⟨⟨by omega, by omega⟩, hcl, ⟨by rw [hql]; exact hA.2.1.len, by rw [hql]; exact hp.n, by omega⟩, by simp only [inK]; omega, ⟨(by first | trivial | rfl | (and_intros <;> rfl)), hW.next hcl he, hG⟩, by omega⟩
          · have hf := hW.fin (.inr he)
            refine ⟨by simp only [inK]; omega, ⟨(by first | trivial | rfl | (and_intros <;> rfl)), ?_, ?_, trivial, by omega, by omega⟩, by omega⟩
            · rw [show ((j1 : Int) + 1).toNat = j1 + 1 by omega, hf]
            · rw [show ((j1 : Int) + 1).toNat = j1 + 1 by omega, hf]
        · have hf := hW.fin (.inl (by omega))
          refine ⟨by simp only [inK]; omega, ⟨(by first | trivial | rfl | (and_intros <;> rfl)), ?_, ?_, trivial, by omega, by omega⟩, by omega⟩
          · rw [show ((j1 : Int) + 1).toNat = j1 + 1 by omega, hf]
          · rw [show ((j1 : Int) + 1).toNat = j1 + 1 by omega, hf]
      · unfold openS; rw [if_neg (by rw [← hm]; exact hmo), hb, hm]
      · rintro m i1 n k t1x1 b nx list ⟨⟨rfl, rfl, rfl, rfl⟩, ⟨hW, hG⟩⟩
        obtain ⟨j1, rfl⟩ : ∃ x : Nat, i1 = x := ⟨i1.toNat, by have := hW.hi; omega⟩
        obtain ⟨c, rfl⟩ : ∃ x : Nat, k = x := ⟨k.toNat, by have := hW.hk; omega⟩
        simp only [Int.toNat_natCast] at hW hlt hG ⊢
        have hi1 := hW.hi
        have hc1 := hW.hk
        have hnn := hW.hn
        have hll := hW.hlist
        simp only [Int.toNat_natCast] at hnn hll
        have hA := hW.all hp (by simp only [List.length_cons] at hk; omega)
        have hq1 : (stepsP p d).getD j1 [] ∈ stepsP p d := by rw [List.getD_eq_getElem?_getD, List.getElem?_eq_getElem (by omega)]; exact List.getElem_mem (by omega)
        obtain ⟨z1, z2, z3, z4⟩ := walk_all hp.n (fun x hx => hp.d x (List.mem_cons_of_mem _ hx)) (step_of hp.ok (hp.d d (by simp)) hq1).1
        have hle1 : ((walkP dr ((stepsP p d).getD j1 [])).1.length : Int) ≤ 390625 := by have := pow25 (k := dr.length) (by simp only [List.length_cons] at hk; omega); omega
        have hst := stepsP_length p d
        refine bspD (fun hc => ?_) (fun hc => ?_)
        · refine ⟨by simp only [inK, List.length_cons] at *; omega, bspD (fun he => ?_) (fun he => ?_)⟩
          · have hcl : c < (walkP dr ((stepsP p d).getD j1 [])).1.length := by omega
            have hml : (walkP dr ((stepsP p d).getD j1 [])).1.getD c [] ∈ (walkP dr ((stepsP p d).getD j1 [])).1 := getP_mem hcl
            have hql := (z1 _ hml).len
            exact ⟨⟨by omega, by omega⟩, hcl, ⟨by rw [hql]; exact hA.2.1.len, by rw [hql]; exact hp.n, by omega⟩, by simp only [inK]; omega, ⟨(by first | trivial | rfl | (and_intros <;> rfl)), hW.next hcl he, hG⟩, by omega⟩
          · have hf := hW.fin (.inr he)
            refine ⟨by simp only [inK]; omega, ⟨(by first | trivial | rfl | (and_intros <;> rfl)), ?_, ?_, trivial, by omega, by omega⟩, by omega⟩
            · rw [show ((j1 : Int) + 1).toNat = j1 + 1 by omega, hf]
            · rw [show ((j1 : Int) + 1).toNat = j1 + 1 by omega, hf]
        · have hf := hW.fin (.inl (by omega))
          refine ⟨by simp only [inK]; omega, ⟨(by first | trivial | rfl | (and_intros <;> rfl)), ?_, ?_, trivial, by omega, by omega⟩, by omega⟩
          · rw [show ((j1 : Int) + 1).toNat = j1 + 1 by omega, hf]
          · rw [show ((j1 : Int) + 1).toNat = j1 + 1 by omega, hf]
    · have hj : (stepsP p d).length ≤ j := by omega
      rw [stateP_all p d dr hj] at hb hm
      rw [hb, hm]; rfl
def c_spec_l10Walk3 : Con where
  ins := [(false, .v tSI), (false, .v tSI)]
  outs := [(false, .own 24 tSI), (false, .v tI)]
  sh := false
  pre := fun x => WalkOk x.1 x.2.1 ∧ List.length x.2.1 ≤ 3
  out := fun x => ((walkP x.2.1 x.1).1, (walkP x.2.1 x.1).2, ())
  upd := fun x => x
  eat := false
theorem k_spec_l10Walk3 [B : Base] : ConOk Try.prog 49 c_spec_l10Walk3 := by
  refine fn_ok (C := cx Try.prog 70 c_spec_l10Walk3) (cs := [(65, c_spec_l10Steps), (49, c_spec_l10Walk2), (50, c_spec_l10Put)]) (res := Try.f49.results.toList) (fun x => ⟨[{ sh := ⟨[(1, .one (.ref 0)), (6, .one (.ref 1)), (7, .one (.i .i64)), (8, .one (.ref 2)), (9, .one (.i .i64))], [(0, .imm tI false), (1, .own 24 tSI true), (2, .own 24 tSI true)]⟩, nx := 3, I := fun _ dat_ => (x.2.1 = dat_.2.1 ∧ stepsP x.1 (x.2.1.getD 0 0) = dat_.2.2.2.1) ∧ (dat_.2.2.1 = (stateP x.1 (List.getD x.2.1 0 0) (List.drop 1 x.2.1) (Int.toNat dat_.1.2.2.2.2.1)).1 ∧ dat_.1.2.2.1 = (stateP x.1 (List.getD x.2.1 0 0) (List.drop 1 x.2.1) (Int.toNat dat_.1.2.2.2.2.1)).2 ∧ dat_.2.2.2.1 = stepsP x.1 (List.getD x.2.1 0 0) ∧ 0 ≤ dat_.1.2.2.2.2.1 ∧ dat_.1.2.2.2.2.1 ≤ (List.length dat_.2.2.2.1 : Int)), mu := fun dat_ => Int.toNat ((List.length dat_.2.2.2.1 : Int) - dat_.1.2.2.2.2.1) }, { sh := ⟨[(1, .one (.ref 0)), (6, .one (.ref 1)), (7, .one (.i .i64)), (8, .one (.ref 2)), (9, .one (.i .i64)), (10, .one (.ref 3)), (11, .one (.i .i64)), (12, .one (.i .i64))], [(0, .imm tI false), (1, .own 24 tSI true), (2, .own 24 tSI true), (3, .own 24 tSI true)]⟩, nx := 4, I := fun g_ dat_ => ((walkP ((x.2.1.take x.2.1.length).drop 1) ((stepsP x.1 (x.2.1.getD 0 0)).getD dat_.1.2.2.2.2.1.toNat [])).2 = dat_.1.2.2.2.2.2.2.1 ∧ x.2.1 = dat_.2.1 ∧ (stepsP x.1 (x.2.1.getD 0 0)) = dat_.2.2.2.1 ∧ (walkP ((x.2.1.take x.2.1.length).drop 1) ((stepsP x.1 (x.2.1.getD 0 0)).getD dat_.1.2.2.2.2.1.toNat [])).1 = dat_.2.2.2.2.1) ∧ (W1 x.1 (List.getD x.2.1 0 0) (List.drop 1 x.2.1) dat_.2.2.1 dat_.1.2.2.1 dat_.2.2.2.1 dat_.1.2.2.2.2.1 dat_.2.2.2.2.1 dat_.1.2.2.2.2.2.2.1 dat_.1.2.2.2.2.2.2.2.1 ∧ (g_.headD 0) = Int.toNat ((List.length dat_.2.2.2.1 : Int) - dat_.1.2.2.2.2.1)), mu := fun dat_ => Int.toNat ((List.length dat_.2.2.2.2.1 : Int) - dat_.1.2.2.2.2.2.2.2.1) }], [(9, ⟨[[], [], [0, 1], [0, 1, 2], [], [4], [0, 1, 2, 3, 4, 5], [0, 1, 2, 3, 4, 5, 6], [0, 1, 2, 3, 4, 5, 6, 7], [0, 1, 2, 3, 4, 5, 6, 7], [0, 1, 2, 3, 4, 5, 6, 7, 8], [0, 1, 2, 3, 4, 5, 6, 7, 8, 9, 10]], [[1, 4, 5], [0, 4, 5], [4, 5], [4, 5], [0, 1, 2, 3], [0, 1, 2, 3], [], [], [9], [8, 10], [9], []], []⟩)], []⟩) Try.func49 (by kernel_rfl) rfl rfl rfl tysOk.look eqTsOk.look (AllCs.ok (l := [(65, c_spec_l10Steps), (49, c_spec_l10Walk2), (50, c_spec_l10Put)]) ⟨k_spec_l10Steps, k_spec_l10Walk2, k_spec_l10Put, trivial⟩) mixed rfl rfl rfl rfl ?_
  refine of_nf (P := ∀ p : List Int, ∀ ds : List Int, (WalkOk p ds ∧ List.length ds ≤ 3) → ((lensI c_spec_l10Walk3.ins (p, ds, ())) → ((([] : List Int).length + p.length ≤ AB) ∧ (bsp (decide ((ds.length : Int) = (0 : Int))) (@Eq (HO c_spec_l10Walk3.outs) ([(([] : List Int) ++ p)], 0, ()) (c_spec_l10Walk3.out (p, ds, ()))) ((0 ≤ (0 : Int) ∧ 0 < (ds.length : Int)) ∧ ((0 < ds.length) ∧ ((OkP (List.length p) p ∧ List.length p ≤ 24 ∧ 1 ≤ (ds.getD 0 0) ∧ (ds.getD 0 0) ≤ 6) ∧ (((ds = ds ∧ stepsP p (ds.getD 0 0) = (stepsP p (ds.getD 0 0))) ∧ ([(([] : List Int) ++ p)] = (stateP p (List.getD ds 0 0) (List.drop 1 ds) (Int.toNat (0 : Int))).1 ∧ (0 : Int) = (stateP p (List.getD ds 0 0) (List.drop 1 ds) (Int.toNat (0 : Int))).2 ∧ (stepsP p (ds.getD 0 0)) = stepsP p (List.getD ds 0 0) ∧ 0 ≤ (0 : Int) ∧ (0 : Int) ≤ (List.length (stepsP p (ds.getD 0 0)) : Int))) ∧ (∀ most : Int, ∀ i : Int, ∀ t1 : List Int, ∀ best : List (List Int), ∀ next : List (List Int), ((ds = t1 ∧ stepsP p (ds.getD 0 0) = next) ∧ (best = (stateP p (List.getD ds 0 0) (List.drop 1 ds) (Int.toNat i)).1 ∧ most = (stateP p (List.getD ds 0 0) (List.drop 1 ds) (Int.toNat i)).2 ∧ next = stepsP p (List.getD ds 0 0) ∧ 0 ≤ i ∧ i ≤ (List.length next : Int))) → (bsp (decide (i < (next.length : Int))) ((0 ≤ i ∧ i < (next.length : Int)) ∧ ((i.toNat < next.length) ∧ ((0 ≤ (1 : Int) ∧ (1 : Int) ≤ (t1.length : Int) ∧ (t1.length : Int) ≤ (t1.length : Int) ∧ (t1.length : Int) ≤ (t1.length : Int)) ∧ ((WalkOk (next.getD i.toNat []) ((t1.take t1.length).drop 1) ∧ List.length ((t1.take t1.length).drop 1) ≤ 2) ∧ ((inK .i64 ((walkP ((t1.take t1.length).drop 1) (next.getD i.toNat [])).2 + 1)) ∧ (bsp (decide (most < ((walkP ((t1.take t1.length).drop 1) (next.getD i.toNat [])).2 + 1))) ((inK .i64 ((walkP ((t1.take t1.length).drop 1) (next.getD i.toNat [])).2 + 1)) ∧ ((((walkP ((ds.take ds.length).drop 1) ((stepsP p (ds.getD 0 0)).getD i.toNat [])).2 = (walkP ((t1.take t1.length).drop 1) (next.getD i.toNat [])).2 ∧ ds = t1 ∧ (stepsP p (ds.getD 0 0)) = next ∧ (walkP ((ds.take ds.length).drop 1) ((stepsP p (ds.getD 0 0)).getD i.toNat [])).1 = (walkP ((t1.take t1.length).drop 1) (next.getD i.toNat [])).1) ∧ (W1 p (List.getD ds 0 0) (List.drop 1 ds) [] ((walkP ((t1.take t1.length).drop 1) (next.getD i.toNat [])).2 + 1) next i (walkP ((t1.take t1.length).drop 1) (next.getD i.toNat [])).1 (walkP ((t1.take t1.length).drop 1) (next.getD i.toNat [])).2 (0 : Int) ∧ (Int.toNat ((List.length next : Int) - i)) = Int.toNat ((List.length next : Int) - i))) ∧ (∀ m : Int, ∀ i1 : Int, ∀ n : Int, ∀ k : Int, ∀ t1x1 : List Int, ∀ b : List (List Int), ∀ nx : List (List Int), ∀ list : List (List Int), (((walkP ((ds.take ds.length).drop 1) ((stepsP p (ds.getD 0 0)).getD i1.toNat [])).2 = n ∧ ds = t1x1 ∧ (stepsP p (ds.getD 0 0)) = nx ∧ (walkP ((ds.take ds.length).drop 1) ((stepsP p (ds.getD 0 0)).getD i1.toNat [])).1 = list) ∧ (W1 p (List.getD ds 0 0) (List.drop 1 ds) b m nx i1 list n k ∧ (Int.toNat ((List.length next : Int) - i)) = Int.toNat ((List.length nx : Int) - i1))) → (bsp (decide (k < (list.length : Int))) ((inK .i64 (n + 1)) ∧ (bsp (decide ((n + 1) = m)) ((0 ≤ k ∧ k < (list.length : Int)) ∧ ((k.toNat < list.length) ∧ ((PutOk b (list.getD k.toNat [])) ∧ ((inK .i64 (k + 1)) ∧ ((((walkP ((ds.take ds.length).drop 1) ((stepsP p (ds.getD 0 0)).getD i1.toNat [])).2 = n ∧ ds = t1x1 ∧ (stepsP p (ds.getD 0 0)) = nx ∧ (walkP ((ds.take ds.length).drop 1) ((stepsP p (ds.getD 0 0)).getD i1.toNat [])).1 = list) ∧ (W1 p (List.getD ds 0 0) (List.drop 1 ds) (putD b (list.getD k.toNat [])) m nx i1 list n (k + 1) ∧ (Int.toNat ((List.length next : Int) - i)) = Int.toNat ((List.length nx : Int) - i1))) ∧ ((Int.toNat ((List.length list : Int) - (k + 1)) : Nat) < Int.toNat ((List.length list : Int) - k))))))) ((inK .i64 (i1 + 1)) ∧ (((ds = t1x1 ∧ stepsP p (ds.getD 0 0) = nx) ∧ (b = (stateP p (List.getD ds 0 0) (List.drop 1 ds) (Int.toNat (i1 + 1))).1 ∧ m = (stateP p (List.getD ds 0 0) (List.drop 1 ds) (Int.toNat (i1 + 1))).2 ∧ nx = stepsP p (List.getD ds 0 0) ∧ 0 ≤ (i1 + 1) ∧ (i1 + 1) ≤ (List.length nx : Int))) ∧ ((Int.toNat ((List.length nx : Int) - (i1 + 1)) : Nat) < Int.toNat ((List.length next : Int) - i)))))) ((inK .i64 (i1 + 1)) ∧ (((ds = t1x1 ∧ stepsP p (ds.getD 0 0) = nx) ∧ (b = (stateP p (List.getD ds 0 0) (List.drop 1 ds) (Int.toNat (i1 + 1))).1 ∧ m = (stateP p (List.getD ds 0 0) (List.drop 1 ds) (Int.toNat (i1 + 1))).2 ∧ nx = stepsP p (List.getD ds 0 0) ∧ 0 ≤ (i1 + 1) ∧ (i1 + 1) ≤ (List.length nx : Int))) ∧ ((Int.toNat ((List.length nx : Int) - (i1 + 1)) : Nat) < Int.toNat ((List.length next : Int) - i)))))))) ((((walkP ((ds.take ds.length).drop 1) ((stepsP p (ds.getD 0 0)).getD i.toNat [])).2 = (walkP ((t1.take t1.length).drop 1) (next.getD i.toNat [])).2 ∧ ds = t1 ∧ (stepsP p (ds.getD 0 0)) = next ∧ (walkP ((ds.take ds.length).drop 1) ((stepsP p (ds.getD 0 0)).getD i.toNat [])).1 = (walkP ((t1.take t1.length).drop 1) (next.getD i.toNat [])).1) ∧ (W1 p (List.getD ds 0 0) (List.drop 1 ds) best most next i (walkP ((t1.take t1.length).drop 1) (next.getD i.toNat [])).1 (walkP ((t1.take t1.length).drop 1) (next.getD i.toNat [])).2 (0 : Int) ∧ (Int.toNat ((List.length next : Int) - i)) = Int.toNat ((List.length next : Int) - i))) ∧ (∀ m : Int, ∀ i1 : Int, ∀ n : Int, ∀ k : Int, ∀ t1x1 : List Int, ∀ b : List (List Int), ∀ nx : List (List Int), ∀ list : List (List Int), (((walkP ((ds.take ds.length).drop 1) ((stepsP p (ds.getD 0 0)).getD i1.toNat [])).2 = n ∧ ds = t1x1 ∧ (stepsP p (ds.getD 0 0)) = nx ∧ (walkP ((ds.take ds.length).drop 1) ((stepsP p (ds.getD 0 0)).getD i1.toNat [])).1 = list) ∧ (W1 p (List.getD ds 0 0) (List.drop 1 ds) b m nx i1 list n k ∧ (Int.toNat ((List.length next : Int) - i)) = Int.toNat ((List.length nx : Int) - i1))) → (bsp (decide (k < (list.length : Int))) ((inK .i64 (n + 1)) ∧ (bsp (decide ((n + 1) = m)) ((0 ≤ k ∧ k < (list.length : Int)) ∧ ((k.toNat < list.length) ∧ ((PutOk b (list.getD k.toNat [])) ∧ ((inK .i64 (k + 1)) ∧ ((((walkP ((ds.take ds.length).drop 1) ((stepsP p (ds.getD 0 0)).getD i1.toNat [])).2 = n ∧ ds = t1x1 ∧ (stepsP p (ds.getD 0 0)) = nx ∧ (walkP ((ds.take ds.length).drop 1) ((stepsP p (ds.getD 0 0)).getD i1.toNat [])).1 = list) ∧ (W1 p (List.getD ds 0 0) (List.drop 1 ds) (putD b (list.getD k.toNat [])) m nx i1 list n (k + 1) ∧ (Int.toNat ((List.length next : Int) - i)) = Int.toNat ((List.length nx : Int) - i1))) ∧ ((Int.toNat ((List.length list : Int) - (k + 1)) : Nat) < Int.toNat ((List.length list : Int) - k))))))) ((inK .i64 (i1 + 1)) ∧ (((ds = t1x1 ∧ stepsP p (ds.getD 0 0) = nx) ∧ (b = (stateP p (List.getD ds 0 0) (List.drop 1 ds) (Int.toNat (i1 + 1))).1 ∧ m = (stateP p (List.getD ds 0 0) (List.drop 1 ds) (Int.toNat (i1 + 1))).2 ∧ nx = stepsP p (List.getD ds 0 0) ∧ 0 ≤ (i1 + 1) ∧ (i1 + 1) ≤ (List.length nx : Int))) ∧ ((Int.toNat ((List.length nx : Int) - (i1 + 1)) : Nat) < Int.toNat ((List.length next : Int) - i)))))) ((inK .i64 (i1 + 1)) ∧ (((ds = t1x1 ∧ stepsP p (ds.getD 0 0) = nx) ∧ (b = (stateP p (List.getD ds 0 0) (List.drop 1 ds) (Int.toNat (i1 + 1))).1 ∧ m = (stateP p (List.getD ds 0 0) (List.drop 1 ds) (Int.toNat (i1 + 1))).2 ∧ nx = stepsP p (List.getD ds 0 0) ∧ 0 ≤ (i1 + 1) ∧ (i1 + 1) ≤ (List.length nx : Int))) ∧ ((Int.toNat ((List.length nx : Int) - (i1 + 1)) : Nat) < Int.toNat ((List.length next : Int) - i))))))))))))) (@Eq (HO c_spec_l10Walk3.outs) (best, most, ()) (c_spec_l10Walk3.out (p, ds, ()))))))))))))) (by kernel_rfl) ?_
  rintro p ds ⟨hp, hk⟩ hl
  have hn24 := hp.n
  refine ⟨by simp [AB]; omega, bspD (fun h0 => ?_) (fun h0 => ?_)⟩
  · have : ds = [] := List.eq_nil_of_length_eq_zero (by omega)
    subst this; rfl
  cases ds with
  | nil => exact absurd rfl h0
  | cons d dr =>
    clear h0
    have hd1 := hp.d d (by simp)
    have hd6 := hp.six d (by simp)
    simp only [List.getD_cons_zero, List.take_length, List.drop_one, List.tail_cons]
    refine ⟨⟨by omega, by simp only [List.length_cons]; omega⟩, by simp, ⟨hp.ok, hp.n, hd1, hd6⟩, ⟨(by first | trivial | rfl | (and_intros <;> rfl)), rfl, rfl, trivial, by omega, by omega⟩, ?_⟩
    rintro most i t1 best next ⟨⟨rfl, rfl⟩, ⟨hb, hm, -, i0, i1⟩⟩
    obtain ⟨j, rfl⟩ : ∃ x : Nat, i = x := ⟨i.toNat, by omega⟩
    simp only [Int.toNat_natCast, List.take_length, List.drop_one, List.tail_cons] at hb hm ⊢
    refine bspD (fun hlt => ?_) (fun hge => ?_)
    · have hjl : j < (stepsP p d).length := by omega
      have hq : (stepsP p d).getD j [] ∈ stepsP p d := by rw [List.getD_eq_getElem?_getD, List.getElem?_eq_getElem hjl]; exact List.getElem_mem hjl
      have hqo := (step_of hp.ok hd1 hq).1
      obtain ⟨y1, y2, y3, y4⟩ := walk_all hp.n (fun x hx => hp.d x (List.mem_cons_of_mem _ hx)) hqo
      have hW0 : ∀ b m, (b, m) = openS (stateP p d dr j) (walkP dr ((stepsP p d).getD j [])).2 → W1 p d dr b m (stepsP p d) j (walkP dr ((stepsP p d).getD j [])).1 (walkP dr ((stepsP p d).getD j [])).2 0 := fun b m e =>
        ⟨rfl, by omega, rfl, rfl, by rw [Int.toNat_natCast, ← e]; simp, by rw [Int.toNat_natCast, ← e], by omega, fun h => absurd h (by omega)⟩
      have hkk : dr.length + 1 ≤ 3 := by simp only [List.length_cons] at hk; omega
      refine ⟨⟨by omega, by omega⟩, hjl, ⟨by omega, by simp only [List.length_cons]; omega, by omega, by omega⟩, ⟨⟨by rw [hqo.len]; exact hqo, by rw [hqo.len]; exact hp.n0, by rw [hqo.len]; exact hp.n, fun x hx => hp.d x (List.mem_cons_of_mem _ hx), fun x hx => hp.six x (List.mem_cons_of_mem _ hx)⟩, by omega⟩, by simp only [inK]; omega, bspD (fun hmo => ⟨by simp only [inK]; omega, ⟨(by first | trivial | rfl | (and_intros <;> rfl)), hW0 _ _ ?_, trivial⟩, ?_⟩) (fun hmo => ⟨⟨(by first | trivial | rfl | (and_intros <;> rfl)), hW0 _ _ ?_, trivial⟩, ?_⟩)⟩
      · unfold openS; rw [if_pos (by rw [← hm]; exact hmo)]
      · rintro m i1 n k t1x1 b nx list ⟨⟨rfl, rfl, rfl, rfl⟩, ⟨hW, hG⟩⟩
        obtain ⟨j1, rfl⟩ : ∃ x : Nat, i1 = x := ⟨i1.toNat, by have := hW.hi; omega⟩
        obtain ⟨c, rfl⟩ : ∃ x : Nat, k = x := ⟨k.toNat, by have := hW.hk; omega⟩
        simp only [Int.toNat_natCast] at hW hlt hG ⊢
        have hi1 := hW.hi
        have hc1 := hW.hk
        have hnn := hW.hn
        have hll := hW.hlist
        simp only [Int.toNat_natCast] at hnn hll
        have hA := hW.all hp (by simp only [List.length_cons] at hk; omega)
        have hq1 : (stepsP p d).getD j1 [] ∈ stepsP p d := by rw [List.getD_eq_getElem?_getD, List.getElem?_eq_getElem (by omega)]; exact List.getElem_mem (by omega)
        obtain ⟨z1, z2, z3, z4⟩ := walk_all hp.n (fun x hx => hp.d x (List.mem_cons_of_mem _ hx)) (step_of hp.ok (hp.d d (by simp)) hq1).1
        have hle1 : ((walkP dr ((stepsP p d).getD j1 [])).1.length : Int) ≤ 390625 := by have := pow25 (k := dr.length) (by simp only [List.length_cons] at hk; omega); omega
        have hst := stepsP_length p d
        refine bspD (fun hc => ?_) (fun hc => ?_)
        · refine ⟨by simp only [inK, List.length_cons] at *; omega, bspD (fun he => ?_) (fun he => ?_)⟩
          · have hcl : c < (walkP dr ((stepsP p d).getD j1 [])).1.length := by omega
            have hml : (walkP dr ((stepsP p d).getD j1 [])).1.getD c [] ∈ (walkP dr ((stepsP p d).getD j1 [])).1 := getP_mem hcl
            have hql := (z1 _ hml).len
            exact ⟨⟨by omega, by omega⟩, hcl, ⟨by rw [hql]; exact hA.2.1.len, by rw [hql]; exact hp.n, by omega⟩, by simp only [inK]; omega, ⟨(by first | trivial | rfl | (and_intros <;> rfl)), hW.next hcl he, hG⟩, by omega⟩
          · have hf := hW.fin (.inr he)
            refine ⟨by simp only [inK]; omega, ⟨(by first | trivial | rfl | (and_intros <;> rfl)), ?_, ?_, trivial, by omega, by omega⟩, by omega⟩
            · rw [show ((j1 : Int) + 1).toNat = j1 + 1 by omega, hf]
            · rw [show ((j1 : Int) + 1).toNat = j1 + 1 by omega, hf]
        · have hf := hW.fin (.inl (by omega))
          refine ⟨by simp only [inK]; omega, ⟨(by first | trivial | rfl | (and_intros <;> rfl)), ?_, ?_, trivial, by omega, by omega⟩, by omega⟩
          · rw [show ((j1 : Int) + 1).toNat = j1 + 1 by omega, hf]
          · rw [show ((j1 : Int) + 1).toNat = j1 + 1 by omega, hf]
      · unfold openS; rw [if_neg (by rw [← hm]; exact hmo), hb, hm]
      · rintro m i1 n k t1x1 b nx list ⟨⟨rfl, rfl, rfl, rfl⟩, ⟨hW, hG⟩⟩
        obtain ⟨j1, rfl⟩ : ∃ x : Nat, i1 = x := ⟨i1.toNat, by have := hW.hi; omega⟩
        obtain ⟨c, rfl⟩ : ∃ x : Nat, k = x := ⟨k.toNat, by have := hW.hk; omega⟩
        simp only [Int.toNat_natCast] at hW hlt hG ⊢
        have hi1 := hW.hi
        have hc1 := hW.hk
        have hnn := hW.hn
        have hll := hW.hlist
        simp only [Int.toNat_natCast] at hnn hll
        have hA := hW.all hp (by simp only [List.length_cons] at hk; omega)
        have hq1 : (stepsP p d).getD j1 [] ∈ stepsP p d := by rw [List.getD_eq_getElem?_getD, List.getElem?_eq_getElem (by omega)]; exact List.getElem_mem (by omega)
        obtain ⟨z1, z2, z3, z4⟩ := walk_all hp.n (fun x hx => hp.d x (List.mem_cons_of_mem _ hx)) (step_of hp.ok (hp.d d (by simp)) hq1).1
        have hle1 : ((walkP dr ((stepsP p d).getD j1 [])).1.length : Int) ≤ 390625 := by have := pow25 (k := dr.length) (by simp only [List.length_cons] at hk; omega); omega
        have hst := stepsP_length p d
        refine bspD (fun hc => ?_) (fun hc => ?_)
        · refine ⟨by simp only [inK, List.length_cons] at *; omega, bspD (fun he => ?_) (fun he => ?_)⟩
          · have hcl : c < (walkP dr ((stepsP p d).getD j1 [])).1.length := by omega
            have hml : (walkP dr ((stepsP p d).getD j1 [])).1.getD c [] ∈ (walkP dr ((stepsP p d).getD j1 [])).1 := getP_mem hcl
            have hql := (z1 _ hml).len
            exact ⟨⟨by omega, by omega⟩, hcl, ⟨by rw [hql]; exact hA.2.1.len, by rw [hql]; exact hp.n, by omega⟩, by simp only [inK]; omega, ⟨(by first | trivial | rfl | (and_intros <;> rfl)), hW.next hcl he, hG⟩, by omega⟩
          · have hf := hW.fin (.inr he)
            refine ⟨by simp only [inK]; omega, ⟨(by first | trivial | rfl | (and_intros <;> rfl)), ?_, ?_, trivial, by omega, by omega⟩, by omega⟩
            · rw [show ((j1 : Int) + 1).toNat = j1 + 1 by omega, hf]
            · rw [show ((j1 : Int) + 1).toNat = j1 + 1 by omega, hf]
        · have hf := hW.fin (.inl (by omega))
          refine ⟨by simp only [inK]; omega, ⟨(by first | trivial | rfl | (and_intros <;> rfl)), ?_, ?_, trivial, by omega, by omega⟩, by omega⟩
          · rw [show ((j1 : Int) + 1).toNat = j1 + 1 by omega, hf]
          · rw [show ((j1 : Int) + 1).toNat = j1 + 1 by omega, hf]
    · have hj : (stepsP p d).length ≤ j := by omega
      rw [stateP_all p d dr hj] at hb hm
      rw [hb, hm]; rfl
def c_spec_l10Walk : Con where
  ins := [(false, .v tSI), (false, .v tSI)]
  outs := [(false, .own 24 tSI), (false, .v tI)]
  sh := false
  pre := fun x => WalkOk x.1 x.2.1 ∧ List.length x.2.1 ≤ 4
  out := fun x => ((walkP x.2.1 x.1).1, (walkP x.2.1 x.1).2, ())
  upd := fun x => x
  eat := false
theorem k_spec_l10Walk [B : Base] : ConOk Try.prog 49 c_spec_l10Walk := by
  refine fn_ok (C := cx Try.prog 70 c_spec_l10Walk) (cs := [(65, c_spec_l10Steps), (49, c_spec_l10Walk3), (50, c_spec_l10Put)]) (res := Try.f49.results.toList) (fun x => ⟨[{ sh := ⟨[(1, .one (.ref 0)), (6, .one (.ref 1)), (7, .one (.i .i64)), (8, .one (.ref 2)), (9, .one (.i .i64))], [(0, .imm tI false), (1, .own 24 tSI true), (2, .own 24 tSI true)]⟩, nx := 3, I := fun _ dat_ => (x.2.1 = dat_.2.1 ∧ stepsP x.1 (x.2.1.getD 0 0) = dat_.2.2.2.1) ∧ (dat_.2.2.1 = (stateP x.1 (List.getD x.2.1 0 0) (List.drop 1 x.2.1) (Int.toNat dat_.1.2.2.2.2.1)).1 ∧ dat_.1.2.2.1 = (stateP x.1 (List.getD x.2.1 0 0) (List.drop 1 x.2.1) (Int.toNat dat_.1.2.2.2.2.1)).2 ∧ dat_.2.2.2.1 = stepsP x.1 (List.getD x.2.1 0 0) ∧ 0 ≤ dat_.1.2.2.2.2.1 ∧ dat_.1.2.2.2.2.1 ≤ (List.length dat_.2.2.2.1 : Int)), mu := fun dat_ => Int.toNat ((List.length dat_.2.2.2.1 : Int) - dat_.1.2.2.2.2.1) }, { sh := ⟨[(1, .one (.ref 0)), (6, .one (.ref 1)), (7, .one (.i .i64)), (8, .one (.ref 2)), (9, .one (.i .i64)), (10, .one (.ref 3)), (11, .one (.i .i64)), (12, .one (.i .i64))], [(0, .imm tI false), (1, .own 24 tSI true), (2, .own 24 tSI true), (3, .own 24 tSI true)]⟩, nx := 4, I := fun g_ dat_ => ((walkP ((x.2.1.take x.2.1.length).drop 1) ((stepsP x.1 (x.2.1.getD 0 0)).getD dat_.1.2.2.2.2.1.toNat [])).2 = dat_.1.2.2.2.2.2.2.1 ∧ x.2.1 = dat_.2.1 ∧ (stepsP x.1 (x.2.1.getD 0 0)) = dat_.2.2.2.1 ∧ (walkP ((x.2.1.take x.2.1.length).drop 1) ((stepsP x.1 (x.2.1.getD 0 0)).getD dat_.1.2.2.2.2.1.toNat [])).1 = dat_.2.2.2.2.1) ∧ (W1 x.1 (List.getD x.2.1 0 0) (List.drop 1 x.2.1) dat_.2.2.1 dat_.1.2.2.1 dat_.2.2.2.1 dat_.1.2.2.2.2.1 dat_.2.2.2.2.1 dat_.1.2.2.2.2.2.2.1 dat_.1.2.2.2.2.2.2.2.1 ∧ (g_.headD 0) = Int.toNat ((List.length dat_.2.2.2.1 : Int) - dat_.1.2.2.2.2.1)), mu := fun dat_ => Int.toNat ((List.length dat_.2.2.2.2.1 : Int) - dat_.1.2.2.2.2.2.2.2.1) }], [(9, ⟨[[], [], [0, 1], [0, 1, 2], [], [4], [0, 1, 2, 3, 4, 5], [0, 1, 2, 3, 4, 5, 6], [0, 1, 2, 3, 4, 5, 6, 7], [0, 1, 2, 3, 4, 5, 6, 7], [0, 1, 2, 3, 4, 5, 6, 7, 8], [0, 1, 2, 3, 4, 5, 6, 7, 8, 9, 10]], [[1, 4, 5], [0, 4, 5], [4, 5], [4, 5], [0, 1, 2, 3], [0, 1, 2, 3], [], [], [9], [8, 10], [9], []], []⟩)], []⟩) Try.func49 (by kernel_rfl) rfl rfl rfl tysOk.look eqTsOk.look (AllCs.ok (l := [(65, c_spec_l10Steps), (49, c_spec_l10Walk3), (50, c_spec_l10Put)]) ⟨k_spec_l10Steps, k_spec_l10Walk3, k_spec_l10Put, trivial⟩) mixed rfl rfl rfl rfl ?_
  refine of_nf (P := ∀ p : List Int, ∀ ds : List Int, (WalkOk p ds ∧ List.length ds ≤ 4) → ((lensI c_spec_l10Walk.ins (p, ds, ())) → ((([] : List Int).length + p.length ≤ AB) ∧ (bsp (decide ((ds.length : Int) = (0 : Int))) (@Eq (HO c_spec_l10Walk.outs) ([(([] : List Int) ++ p)], 0, ()) (c_spec_l10Walk.out (p, ds, ()))) ((0 ≤ (0 : Int) ∧ 0 < (ds.length : Int)) ∧ ((0 < ds.length) ∧ ((OkP (List.length p) p ∧ List.length p ≤ 24 ∧ 1 ≤ (ds.getD 0 0) ∧ (ds.getD 0 0) ≤ 6) ∧ (((ds = ds ∧ stepsP p (ds.getD 0 0) = (stepsP p (ds.getD 0 0))) ∧ ([(([] : List Int) ++ p)] = (stateP p (List.getD ds 0 0) (List.drop 1 ds) (Int.toNat (0 : Int))).1 ∧ (0 : Int) = (stateP p (List.getD ds 0 0) (List.drop 1 ds) (Int.toNat (0 : Int))).2 ∧ (stepsP p (ds.getD 0 0)) = stepsP p (List.getD ds 0 0) ∧ 0 ≤ (0 : Int) ∧ (0 : Int) ≤ (List.length (stepsP p (ds.getD 0 0)) : Int))) ∧ (∀ most : Int, ∀ i : Int, ∀ t1 : List Int, ∀ best : List (List Int), ∀ next : List (List Int), ((ds = t1 ∧ stepsP p (ds.getD 0 0) = next) ∧ (best = (stateP p (List.getD ds 0 0) (List.drop 1 ds) (Int.toNat i)).1 ∧ most = (stateP p (List.getD ds 0 0) (List.drop 1 ds) (Int.toNat i)).2 ∧ next = stepsP p (List.getD ds 0 0) ∧ 0 ≤ i ∧ i ≤ (List.length next : Int))) → (bsp (decide (i < (next.length : Int))) ((0 ≤ i ∧ i < (next.length : Int)) ∧ ((i.toNat < next.length) ∧ ((0 ≤ (1 : Int) ∧ (1 : Int) ≤ (t1.length : Int) ∧ (t1.length : Int) ≤ (t1.length : Int) ∧ (t1.length : Int) ≤ (t1.length : Int)) ∧ ((WalkOk (next.getD i.toNat []) ((t1.take t1.length).drop 1) ∧ List.length ((t1.take t1.length).drop 1) ≤ 3) ∧ ((inK .i64 ((walkP ((t1.take t1.length).drop 1) (next.getD i.toNat [])).2 + 1)) ∧ (bsp (decide (most < ((walkP ((t1.take t1.length).drop 1) (next.getD i.toNat [])).2 + 1))) ((inK .i64 ((walkP ((t1.take t1.length).drop 1) (next.getD i.toNat [])).2 + 1)) ∧ ((((walkP ((ds.take ds.length).drop 1) ((stepsP p (ds.getD 0 0)).getD i.toNat [])).2 = (walkP ((t1.take t1.length).drop 1) (next.getD i.toNat [])).2 ∧ ds = t1 ∧ (stepsP p (ds.getD 0 0)) = next ∧ (walkP ((ds.take ds.length).drop 1) ((stepsP p (ds.getD 0 0)).getD i.toNat [])).1 = (walkP ((t1.take t1.length).drop 1) (next.getD i.toNat [])).1) ∧ (W1 p (List.getD ds 0 0) (List.drop 1 ds) [] ((walkP ((t1.take t1.length).drop 1) (next.getD i.toNat [])).2 + 1) next i (walkP ((t1.take t1.length).drop 1) (next.getD i.toNat [])).1 (walkP ((t1.take t1.length).drop 1) (next.getD i.toNat [])).2 (0 : Int) ∧ (Int.toNat ((List.length next : Int) - i)) = Int.toNat ((List.length next : Int) - i))) ∧ (∀ m : Int, ∀ i1 : Int, ∀ n : Int, ∀ k : Int, ∀ t1x1 : List Int, ∀ b : List (List Int), ∀ nx : List (List Int), ∀ list : List (List Int), (((walkP ((ds.take ds.length).drop 1) ((stepsP p (ds.getD 0 0)).getD i1.toNat [])).2 = n ∧ ds = t1x1 ∧ (stepsP p (ds.getD 0 0)) = nx ∧ (walkP ((ds.take ds.length).drop 1) ((stepsP p (ds.getD 0 0)).getD i1.toNat [])).1 = list) ∧ (W1 p (List.getD ds 0 0) (List.drop 1 ds) b m nx i1 list n k ∧ (Int.toNat ((List.length next : Int) - i)) = Int.toNat ((List.length nx : Int) - i1))) → (bsp (decide (k < (list.length : Int))) ((inK .i64 (n + 1)) ∧ (bsp (decide ((n + 1) = m)) ((0 ≤ k ∧ k < (list.length : Int)) ∧ ((k.toNat < list.length) ∧ ((PutOk b (list.getD k.toNat [])) ∧ ((inK .i64 (k + 1)) ∧ ((((walkP ((ds.take ds.length).drop 1) ((stepsP p (ds.getD 0 0)).getD i1.toNat [])).2 = n ∧ ds = t1x1 ∧ (stepsP p (ds.getD 0 0)) = nx ∧ (walkP ((ds.take ds.length).drop 1) ((stepsP p (ds.getD 0 0)).getD i1.toNat [])).1 = list) ∧ (W1 p (List.getD ds 0 0) (List.drop 1 ds) (putD b (list.getD k.toNat [])) m nx i1 list n (k + 1) ∧ (Int.toNat ((List.length next : Int) - i)) = Int.toNat ((List.length nx : Int) - i1))) ∧ ((Int.toNat ((List.length list : Int) - (k + 1)) : Nat) < Int.toNat ((List.length list : Int) - k))))))) ((inK .i64 (i1 + 1)) ∧ (((ds = t1x1 ∧ stepsP p (ds.getD 0 0) = nx) ∧ (b = (stateP p (List.getD ds 0 0) (List.drop 1 ds) (Int.toNat (i1 + 1))).1 ∧ m = (stateP p (List.getD ds 0 0) (List.drop 1 ds) (Int.toNat (i1 + 1))).2 ∧ nx = stepsP p (List.getD ds 0 0) ∧ 0 ≤ (i1 + 1) ∧ (i1 + 1) ≤ (List.length nx : Int))) ∧ ((Int.toNat ((List.length nx : Int) - (i1 + 1)) : Nat) < Int.toNat ((List.length next : Int) - i)))))) ((inK .i64 (i1 + 1)) ∧ (((ds = t1x1 ∧ stepsP p (ds.getD 0 0) = nx) ∧ (b = (stateP p (List.getD ds 0 0) (List.drop 1 ds) (Int.toNat (i1 + 1))).1 ∧ m = (stateP p (List.getD ds 0 0) (List.drop 1 ds) (Int.toNat (i1 + 1))).2 ∧ nx = stepsP p (List.getD ds 0 0) ∧ 0 ≤ (i1 + 1) ∧ (i1 + 1) ≤ (List.length nx : Int))) ∧ ((Int.toNat ((List.length nx : Int) - (i1 + 1)) : Nat) < Int.toNat ((List.length next : Int) - i)))))))) ((((walkP ((ds.take ds.length).drop 1) ((stepsP p (ds.getD 0 0)).getD i.toNat [])).2 = (walkP ((t1.take t1.length).drop 1) (next.getD i.toNat [])).2 ∧ ds = t1 ∧ (stepsP p (ds.getD 0 0)) = next ∧ (walkP ((ds.take ds.length).drop 1) ((stepsP p (ds.getD 0 0)).getD i.toNat [])).1 = (walkP ((t1.take t1.length).drop 1) (next.getD i.toNat [])).1) ∧ (W1 p (List.getD ds 0 0) (List.drop 1 ds) best most next i (walkP ((t1.take t1.length).drop 1) (next.getD i.toNat [])).1 (walkP ((t1.take t1.length).drop 1) (next.getD i.toNat [])).2 (0 : Int) ∧ (Int.toNat ((List.length next : Int) - i)) = Int.toNat ((List.length next : Int) - i))) ∧ (∀ m : Int, ∀ i1 : Int, ∀ n : Int, ∀ k : Int, ∀ t1x1 : List Int, ∀ b : List (List Int), ∀ nx : List (List Int), ∀ list : List (List Int), (((walkP ((ds.take ds.length).drop 1) ((stepsP p (ds.getD 0 0)).getD i1.toNat [])).2 = n ∧ ds = t1x1 ∧ (stepsP p (ds.getD 0 0)) = nx ∧ (walkP ((ds.take ds.length).drop 1) ((stepsP p (ds.getD 0 0)).getD i1.toNat [])).1 = list) ∧ (W1 p (List.getD ds 0 0) (List.drop 1 ds) b m nx i1 list n k ∧ (Int.toNat ((List.length next : Int) - i)) = Int.toNat ((List.length nx : Int) - i1))) → (bsp (decide (k < (list.length : Int))) ((inK .i64 (n + 1)) ∧ (bsp (decide ((n + 1) = m)) ((0 ≤ k ∧ k < (list.length : Int)) ∧ ((k.toNat < list.length) ∧ ((PutOk b (list.getD k.toNat [])) ∧ ((inK .i64 (k + 1)) ∧ ((((walkP ((ds.take ds.length).drop 1) ((stepsP p (ds.getD 0 0)).getD i1.toNat [])).2 = n ∧ ds = t1x1 ∧ (stepsP p (ds.getD 0 0)) = nx ∧ (walkP ((ds.take ds.length).drop 1) ((stepsP p (ds.getD 0 0)).getD i1.toNat [])).1 = list) ∧ (W1 p (List.getD ds 0 0) (List.drop 1 ds) (putD b (list.getD k.toNat [])) m nx i1 list n (k + 1) ∧ (Int.toNat ((List.length next : Int) - i)) = Int.toNat ((List.length nx : Int) - i1))) ∧ ((Int.toNat ((List.length list : Int) - (k + 1)) : Nat) < Int.toNat ((List.length list : Int) - k))))))) ((inK .i64 (i1 + 1)) ∧ (((ds = t1x1 ∧ stepsP p (ds.getD 0 0) = nx) ∧ (b = (stateP p (List.getD ds 0 0) (List.drop 1 ds) (Int.toNat (i1 + 1))).1 ∧ m = (stateP p (List.getD ds 0 0) (List.drop 1 ds) (Int.toNat (i1 + 1))).2 ∧ nx = stepsP p (List.getD ds 0 0) ∧ 0 ≤ (i1 + 1) ∧ (i1 + 1) ≤ (List.length nx : Int))) ∧ ((Int.toNat ((List.length nx : Int) - (i1 + 1)) : Nat) < Int.toNat ((List.length next : Int) - i)))))) ((inK .i64 (i1 + 1)) ∧ (((ds = t1x1 ∧ stepsP p (ds.getD 0 0) = nx) ∧ (b = (stateP p (List.getD ds 0 0) (List.drop 1 ds) (Int.toNat (i1 + 1))).1 ∧ m = (stateP p (List.getD ds 0 0) (List.drop 1 ds) (Int.toNat (i1 + 1))).2 ∧ nx = stepsP p (List.getD ds 0 0) ∧ 0 ≤ (i1 + 1) ∧ (i1 + 1) ≤ (List.length nx : Int))) ∧ ((Int.toNat ((List.length nx : Int) - (i1 + 1)) : Nat) < Int.toNat ((List.length next : Int) - i))))))))))))) (@Eq (HO c_spec_l10Walk.outs) (best, most, ()) (c_spec_l10Walk.out (p, ds, ()))))))))))))) (by kernel_rfl) ?_
  rintro p ds ⟨hp, hk⟩ hl
  have hn24 := hp.n
  refine ⟨by simp [AB]; omega, bspD (fun h0 => ?_) (fun h0 => ?_)⟩
  · have : ds = [] := List.eq_nil_of_length_eq_zero (by omega)
    subst this; rfl
  cases ds with
  | nil => exact absurd rfl h0
  | cons d dr =>
    clear h0
    have hd1 := hp.d d (by simp)
    have hd6 := hp.six d (by simp)
    simp only [List.getD_cons_zero, List.take_length, List.drop_one, List.tail_cons]
    refine ⟨⟨by omega, by simp only [List.length_cons]; omega⟩, by simp, ⟨hp.ok, hp.n, hd1, hd6⟩, ⟨(by first | trivial | rfl | (and_intros <;> rfl)), rfl, rfl, trivial, by omega, by omega⟩, ?_⟩
    rintro most i t1 best next ⟨⟨rfl, rfl⟩, ⟨hb, hm, -, i0, i1⟩⟩
    obtain ⟨j, rfl⟩ : ∃ x : Nat, i = x := ⟨i.toNat, by omega⟩
    simp only [Int.toNat_natCast, List.take_length, List.drop_one, List.tail_cons] at hb hm ⊢
    refine bspD (fun hlt => ?_) (fun hge => ?_)
    · have hjl : j < (stepsP p d).length := by omega
      have hq : (stepsP p d).getD j [] ∈ stepsP p d := by rw [List.getD_eq_getElem?_getD, List.getElem?_eq_getElem hjl]; exact List.getElem_mem hjl
      have hqo := (step_of hp.ok hd1 hq).1
      obtain ⟨y1, y2, y3, y4⟩ := walk_all hp.n (fun x hx => hp.d x (List.mem_cons_of_mem _ hx)) hqo
      have hW0 : ∀ b m, (b, m) = openS (stateP p d dr j) (walkP dr ((stepsP p d).getD j [])).2 → W1 p d dr b m (stepsP p d) j (walkP dr ((stepsP p d).getD j [])).1 (walkP dr ((stepsP p d).getD j [])).2 0 := fun b m e =>
        ⟨rfl, by omega, rfl, rfl, by rw [Int.toNat_natCast, ← e]; simp, by rw [Int.toNat_natCast, ← e], by omega, fun h => absurd h (by omega)⟩
      have hkk : dr.length + 1 ≤ 4 := by simp only [List.length_cons] at hk; omega
      refine ⟨⟨by omega, by omega⟩, hjl, ⟨by omega, by simp only [List.length_cons]; omega, by omega, by omega⟩, ⟨⟨by rw [hqo.len]; exact hqo, by rw [hqo.len]; exact hp.n0, by rw [hqo.len]; exact hp.n, fun x hx => hp.d x (List.mem_cons_of_mem _ hx), fun x hx => hp.six x (List.mem_cons_of_mem _ hx)⟩, by omega⟩, by simp only [inK]; omega, bspD (fun hmo => ⟨by simp only [inK]; omega, ⟨(by first | trivial | rfl | (and_intros <;> rfl)), hW0 _ _ ?_, trivial⟩, ?_⟩) (fun hmo => ⟨⟨(by first | trivial | rfl | (and_intros <;> rfl)), hW0 _ _ ?_, trivial⟩, ?_⟩)⟩
      · unfold openS; rw [if_pos (by rw [← hm]; exact hmo)]
      · rintro m i1 n k t1x1 b nx list ⟨⟨rfl, rfl, rfl, rfl⟩, ⟨hW, hG⟩⟩
        obtain ⟨j1, rfl⟩ : ∃ x : Nat, i1 = x := ⟨i1.toNat, by have := hW.hi; omega⟩
        obtain ⟨c, rfl⟩ : ∃ x : Nat, k = x := ⟨k.toNat, by have := hW.hk; omega⟩
        simp only [Int.toNat_natCast] at hW hlt hG ⊢
        have hi1 := hW.hi
        have hc1 := hW.hk
        have hnn := hW.hn
        have hll := hW.hlist
        simp only [Int.toNat_natCast] at hnn hll
        have hA := hW.all hp (by simp only [List.length_cons] at hk; omega)
        have hq1 : (stepsP p d).getD j1 [] ∈ stepsP p d := by rw [List.getD_eq_getElem?_getD, List.getElem?_eq_getElem (by omega)]; exact List.getElem_mem (by omega)
        obtain ⟨z1, z2, z3, z4⟩ := walk_all hp.n (fun x hx => hp.d x (List.mem_cons_of_mem _ hx)) (step_of hp.ok (hp.d d (by simp)) hq1).1
        have hle1 : ((walkP dr ((stepsP p d).getD j1 [])).1.length : Int) ≤ 390625 := by have := pow25 (k := dr.length) (by simp only [List.length_cons] at hk; omega); omega
        have hst := stepsP_length p d
        refine bspD (fun hc => ?_) (fun hc => ?_)
        · refine ⟨by simp only [inK, List.length_cons] at *; omega, bspD (fun he => ?_) (fun he => ?_)⟩
          · have hcl : c < (walkP dr ((stepsP p d).getD j1 [])).1.length := by omega
            have hml : (walkP dr ((stepsP p d).getD j1 [])).1.getD c [] ∈ (walkP dr ((stepsP p d).getD j1 [])).1 := getP_mem hcl
            have hql := (z1 _ hml).len
            exact ⟨⟨by omega, by omega⟩, hcl, ⟨by rw [hql]; exact hA.2.1.len, by rw [hql]; exact hp.n, by omega⟩, by simp only [inK]; omega, ⟨(by first | trivial | rfl | (and_intros <;> rfl)), hW.next hcl he, hG⟩, by omega⟩
          · have hf := hW.fin (.inr he)
            refine ⟨by simp only [inK]; omega, ⟨(by first | trivial | rfl | (and_intros <;> rfl)), ?_, ?_, trivial, by omega, by omega⟩, by omega⟩
            · rw [show ((j1 : Int) + 1).toNat = j1 + 1 by omega, hf]
            · rw [show ((j1 : Int) + 1).toNat = j1 + 1 by omega, hf]
        · have hf := hW.fin (.inl (by omega))
          refine ⟨by simp only [inK]; omega, ⟨(by first | trivial | rfl | (and_intros <;> rfl)), ?_, ?_, trivial, by omega, by omega⟩, by omega⟩
          · rw [show ((j1 : Int) + 1).toNat = j1 + 1 by omega, hf]
          · rw [show ((j1 : Int) + 1).toNat = j1 + 1 by omega, hf]
      · unfold openS; rw [if_neg (by rw [← hm]; exact hmo), hb, hm]
      · rintro m i1 n k t1x1 b nx list ⟨⟨rfl, rfl, rfl, rfl⟩, ⟨hW, hG⟩⟩
        obtain ⟨j1, rfl⟩ : ∃ x : Nat, i1 = x := ⟨i1.toNat, by have := hW.hi; omega⟩
        obtain ⟨c, rfl⟩ : ∃ x : Nat, k = x := ⟨k.toNat, by have := hW.hk; omega⟩
        simp only [Int.toNat_natCast] at hW hlt hG ⊢
        have hi1 := hW.hi
        have hc1 := hW.hk
        have hnn := hW.hn
        have hll := hW.hlist
        simp only [Int.toNat_natCast] at hnn hll
        have hA := hW.all hp (by simp only [List.length_cons] at hk; omega)
        have hq1 : (stepsP p d).getD j1 [] ∈ stepsP p d := by rw [List.getD_eq_getElem?_getD, List.getElem?_eq_getElem (by omega)]; exact List.getElem_mem (by omega)
        obtain ⟨z1, z2, z3, z4⟩ := walk_all hp.n (fun x hx => hp.d x (List.mem_cons_of_mem _ hx)) (step_of hp.ok (hp.d d (by simp)) hq1).1
        have hle1 : ((walkP dr ((stepsP p d).getD j1 [])).1.length : Int) ≤ 390625 := by have := pow25 (k := dr.length) (by simp only [List.length_cons] at hk; omega); omega
        have hst := stepsP_length p d
        refine bspD (fun hc => ?_) (fun hc => ?_)
        · refine ⟨by simp only [inK, List.length_cons] at *; omega, bspD (fun he => ?_) (fun he => ?_)⟩
          · have hcl : c < (walkP dr ((stepsP p d).getD j1 [])).1.length := by omega
            have hml : (walkP dr ((stepsP p d).getD j1 [])).1.getD c [] ∈ (walkP dr ((stepsP p d).getD j1 [])).1 := getP_mem hcl
            have hql := (z1 _ hml).len
            exact ⟨⟨by omega, by omega⟩, hcl, ⟨by rw [hql]; exact hA.2.1.len, by rw [hql]; exact hp.n, by omega⟩, by simp only [inK]; omega, ⟨(by first | trivial | rfl | (and_intros <;> rfl)), hW.next hcl he, hG⟩, by omega⟩
          · have hf := hW.fin (.inr he)
            refine ⟨by simp only [inK]; omega, ⟨(by first | trivial | rfl | (and_intros <;> rfl)), ?_, ?_, trivial, by omega, by omega⟩, by omega⟩
            · rw [show ((j1 : Int) + 1).toNat = j1 + 1 by omega, hf]
            · rw [show ((j1 : Int) + 1).toNat = j1 + 1 by omega, hf]
        · have hf := hW.fin (.inl (by omega))
          refine ⟨by simp only [inK]; omega, ⟨(by first | trivial | rfl | (and_intros <;> rfl)), ?_, ?_, trivial, by omega, by omega⟩, by omega⟩
          · rw [show ((j1 : Int) + 1).toNat = j1 + 1 by omega, hf]
          · rw [show ((j1 : Int) + 1).toNat = j1 + 1 by omega, hf]
    · have hj : (stepsP p d).length ≤ j := by omega
      rw [stateP_all p d dr hj] at hb hm
      rw [hb, hm]; rfl
end Go.Proofs.Ytoobijimfccfgaa
