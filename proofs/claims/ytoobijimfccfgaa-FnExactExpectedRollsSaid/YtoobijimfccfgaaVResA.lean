/-
  Contracts: steps of bear-off positions, sorted lists of positions.
-/
import Derived.Test.YtoobijimfccfgaaVBear
import Derived.Test.YtoobijimfccfgaaVBoard2
import Derived.Test.YtoobijimfccfgaaSortP
import Derived.Test.YtoobijimfccfgaaMB
namespace Go.Proofs.Ytoobijimfccfgaa
open Go.RowKit
set_option linter.unusedSimpArgs false
set_option linter.unusedVariables false
/-- positions of one length, of few checkers -/
def PosOk (l : List (List Int)) : Prop := l ≠ [] ∧ l.length ≤ 1099511627776 ∧ ∃ n, 0 < n ∧ n ≤ 24 ∧ AllP n l
def c_impl_sortedPositions : Con where
  ins := [(false, .own 24 tSI)]
  outs := [(false, .own 24 tSI)]
  sh := true
  pre := fun x => PosOk x.1
  out := fun x => (canonD x.1, ())
  upd := fun x => (x.1, ())
  eat := true
theorem k_impl_sortedPositions [B : Base] : ConOk Try.prog 72 c_impl_sortedPositions := by
  refine ⟨⟨_, _, Try.func72, by kernel_rfl, rfl⟩, fun z O w args x bs hold hnew hO hO2 hbs hA hpre => ?_⟩
  obtain ⟨v, vs, b1, b2, rfl, rfl, _, ⟨us, hv, v', cs, rfl, h2, h3, h4, h5, h6⟩, rfl, rfl⟩ := hA
  obtain ⟨xs, u0⟩ := x
  have hv' : v = v' := by
    rcases hv with ⟨h', _⟩ | ⟨_, h'⟩
    · cases h'
    · simpa using h'.symm
  subst hv'
  obtain ⟨hne, hlen, n, hn0, hn1, hall⟩ : PosOk xs := hpre
  rcases h2.2 with ⟨_, h0⟩ | ⟨g, cap, cur, rfl, _, hg, k1, k2, k3, k4⟩
  · exact absurd (List.eq_nil_of_length_eq_zero h0) hne
  have hgb : g ∈ b1 := h4 g rfl
  have hOg : O g := hbs g (List.mem_append_left _ hgb)
  have hcon := sorted_con (z := true = true ∧ z) (O := O) hg hn0 hne k1 k3 h2.1 k4 hOg h6 (fun q hq => ⟨(hall q hq).len, fun j => ⟨((hall q hq).le j).1, by have := ((hall q hq).le j).2; omega⟩⟩) hlen (by omega)
  refine hcon.mono ?_
  rintro e w2 ⟨rfl, cs', cur', q1, q2, q3, q4, q5, q6, hB⟩
  have eb : ∀ b, b ∈ b1 → b = g := fun b hb => by have := h5 b hb; simpa [blkOf] using this.symm
  refine ⟨[.slice (some ⟨g, 0, none⟩) (canonD xs).length cap], [g], rfl, ?_, fun b hb => .inr ?_, ⟨hB.os, hB.tape, hB.output, hB.size, fun b hb hn => hB.block b hb fun e => hn ?_⟩⟩
  · refine ⟨_, [], [g], [], rfl, rfl, by simp, ⟨[_], .inr ⟨rfl, rfl⟩, ?_⟩, rfl, rfl⟩
    have q5' : (canonD xs).length ≤ xs.length := q5
    have k1' : xs.length ≤ cap := k1
    show RepO z _ 0 w2 (.own 24 tSI) [.slice (some ⟨g, 0, none⟩) (canonD xs).length cap] (canonD xs) [g]
    refine ⟨_, cs', rfl, ⟨by rw [q4]; simp [TC.n], .inr ⟨g, cap, cur', rfl, Nat.zero_le _, q1, by omega, k2, by rw [q2]; exact k3, ?_⟩⟩, by simp only [LB]; omega, by simp [blkOf], by simp [blkOf], fun i y hy => ?_⟩
    · rw [show (canonD xs).length * (tSI : TC).n = (canonD xs).length by simp [TC.n]]; exact q3
    · obtain ⟨c, hc, hr⟩ := q6 i y hy
      have hil := (List.getElem?_eq_some_iff.1 hc).1
      have e1 : (cs'.drop (i * (tSI : TC).n)).take (tSI : TC).n = [c] := by
        rw [show i * (tSI : TC).n = i by simp [TC.n], show (tSI : TC).n = 1 from rfl, List.drop_eq_getElem_cons hil, (List.getElem?_eq_some_iff.1 hc).2]; rfl
      rw [e1]
      refine hr.move (fun h => ⟨rfl, h⟩) fun b hb hn => ⟨fun h => ?_, hB.block b hb fun e => hn (e ▸ hOg)⟩
      rcases h with h | h
      · exact hn h.1
      · simp only [List.mem_singleton] at h; subst h; exact hn hOg
  · simp only [List.mem_singleton] at hb; subst hb; exact List.mem_append_left _ hgb
  · subst e; exact List.mem_append_left _ hgb
theorem topTo_pos {zs : List Int} (h : NN zs) : ∀ k, k ≤ zs.length → (∀ i : Nat, i < k → zs.getD i 0 ≠ 0 → ((i : Int) ≠ topTo zs k ↔ ∃ j, i < j ∧ j < k ∧ 0 < zs.getD j 0))
  | 0, _, i, hi, _ => by omega
  | k + 1, hk, i, hi, hp => by
    simp only [topTo]
    by_cases hz : 0 < zs.getD k 0
    · rw [if_pos hz]
      constructor
      · intro hne; exact ⟨k, by omega, by omega, hz⟩
      · rintro ⟨j, h1, h2, h3⟩ e; omega
    · rw [if_neg hz]
      have hik : i < k := by
        rcases Nat.lt_or_ge i k with h | h'
        · exact h
        · have : i = k := by omega
          subst this; have := h i; omega
      rw [topTo_pos h k (by omega) i hik hp]
      constructor
      · rintro ⟨j, h1, h2, h3⟩; exact ⟨j, h1, by omega, h3⟩
      · rintro ⟨j, h1, h2, h3⟩
        rcases Nat.lt_or_ge j k with h4 | h4
        · exact ⟨j, h1, h4, h3⟩
        · have : j = k := by omega
          subst this; exact absurd h3 hz
theorem top_iff {zs : List Int} (h : NN zs) {i : Nat} (hi : i < zs.length) (hp : zs.getD i 0 ≠ 0) : (i : Int) ≠ topD zs ↔ 0 < (zs.drop (i + 1)).sum := by
  rw [drop_pos h, topD, topTo_pos h zs.length (Nat.le_refl _) i hi hp]
  constructor
  · rintro ⟨j, h1, _, h3⟩; exact ⟨j, h1, h3⟩
  · rintro ⟨j, h1, h3⟩
    refine ⟨j, h1, ?_, h3⟩
    rcases Nat.lt_or_ge j zs.length with h | h
    · exact h
    · rw [getD_out h] at h3; omega
def stepsTo (p : List Int) (d : Int) (k : Nat) : List (List Int) := ((List.range k).filter (canGo p d)).map (moveD p d)
theorem stepsTo_succ (p : List Int) (d : Int) (k : Nat) : stepsTo p d (k + 1) = stepsTo p d k ++ (if canGo p d k = true then [moveD p d k] else []) := by
  unfold stepsTo
  rw [List.range_succ, List.filter_append, List.map_append]
  congr 1
  cases h : canGo p d k <;> simp [h]
theorem stepsTo_len (p : List Int) (d : Int) (k : Nat) : (stepsTo p d k).length ≤ k := by
  unfold stepsTo
  rw [List.length_map]
  exact Nat.le_trans (List.length_filter_le _ _) (by simp)
def c_impl_ordersOf : Con where
  ins := [(true, .v tRoll)]
  outs := [(false, .v (.sl tSI))]
  sh := false
  pre := fun _ => True
  out := fun x => (ordP x.1, ())
  upd := fun x => x
  eat := false
theorem k_impl_ordersOf [B : Base] : ConOk Try.prog 69 c_impl_ordersOf := by
  refine fn_ok (C := cx Try.prog 29 c_impl_ordersOf) (cs := []) (res := Try.f69.results.toList) (fun _ => ⟨[], [], []⟩) Try.func69 (by kernel_rfl) rfl rfl rfl tysOk.look eqTsOk.look (AllCs.ok (l := []) trivial) mixed rfl rfl rfl rfl ?_
  refine of_nf (P := ∀ rA : Int, ∀ rB : Int, (True) → ((lensI c_impl_ordersOf.ins ((rA, rB), ())) → (bsp (decide (rA = rB)) (@Eq (HO c_impl_ordersOf.outs) ([[rA, rA, rA, rA]], ()) (c_impl_ordersOf.out ((rA, rB), ()))) (@Eq (HO c_impl_ordersOf.outs) ([[rA, rB], [rB, rA]], ()) (c_impl_ordersOf.out ((rA, rB), ())))))) (by kernel_rfl) ?_
  rintro rA rB hp hl
  refine bspD (fun h => ?_) (fun h => ?_) <;> simp [c_impl_ordersOf, ordP, h]
theorem OkP.at {n : Nat} {p : List Int} (h : OkP n p) {z : Int} (hz : z ∈ p) : 0 ≤ z ∧ z ≤ 15 := by
  obtain ⟨i, hi⟩ := List.getElem?_of_mem hz
  have := h.le i
  rwa [List.getD_eq_getElem?_getD, hi] at this
theorem OkP.bd {n : Nat} {p : List Int} (h : OkP n p) (hn : p.length ≤ 24) : Bd p := ⟨by omega, fun _ hz => h.at hz⟩
theorem OkP.bdDrop {n : Nat} {p : List Int} (h : OkP n p) (hn : p.length ≤ 24) (m : Nat) : Bd (p.drop m) := ⟨by simp; omega, fun _ hz => h.at (List.mem_of_mem_drop hz)⟩
def c_spec_l10Sum : Con where
  ins := [(false, .v tSI)]
  outs := [(false, .v tI)]
  sh := false
  pre := fun x => Bd x.1
  out := fun x => (List.sum x.1, ())
  upd := fun x => x
  eat := false
theorem k_spec_l10Sum [B : Base] : ConOk Try.prog 51 c_spec_l10Sum := by
  refine fn_ok (C := cx Try.prog 18 c_spec_l10Sum) (cs := []) (res := Try.f51.results.toList) (fun x => ⟨[{ sh := ⟨[(0, .one (.ref 0)), (3, .one (.i .i64)), (4, .one (.i .i64))], [(0, .imm tI false)]⟩, nx := 1, I := fun _ dat_ => (x.1 = dat_.2.1) ∧ (dat_.1.2.1 = sumTo x.1 (Int.toNat dat_.1.2.2.1) ∧ 0 ≤ dat_.1.2.2.1 ∧ dat_.1.2.2.1 ≤ (List.length x.1 : Int)), mu := fun dat_ => Int.toNat ((List.length x.1 : Int) - dat_.1.2.2.1) }], [], []⟩) Try.func51 (by kernel_rfl) rfl rfl rfl tysOk.look eqTsOk.look (AllCs.ok (l := []) trivial) mixed rfl rfl rfl rfl ?_
  refine of_nf (P := ∀ zs : List Int, (Bd zs) → ((lensI c_spec_l10Sum.ins (zs, ())) → (((zs = zs) ∧ ((0 : Int) = sumTo zs (Int.toNat (0 : Int)) ∧ 0 ≤ (0 : Int) ∧ (0 : Int) ≤ (List.length zs : Int))) ∧ (∀ s : Int, ∀ i : Int, ∀ l : List Int, ((zs = l) ∧ (s = sumTo zs (Int.toNat i) ∧ 0 ≤ i ∧ i ≤ (List.length zs : Int))) → (bsp (decide (i < (l.length : Int))) ((0 ≤ i ∧ i < (l.length : Int)) ∧ ((i.toNat < l.length) ∧ ((inK .i64 (s + (l.getD i.toNat 0))) ∧ ((inK .i64 (i + 1)) ∧ (((zs = l) ∧ ((s + (l.getD i.toNat 0)) = sumTo zs (Int.toNat (i + 1)) ∧ 0 ≤ (i + 1) ∧ (i + 1) ≤ (List.length zs : Int))) ∧ ((Int.toNat ((List.length zs : Int) - (i + 1)) : Nat) < Int.toNat ((List.length zs : Int) - i))))))) (@Eq (HO c_spec_l10Sum.outs) (s, ()) (c_spec_l10Sum.out (zs, ())))))))) (by kernel_rfl) ?_
  rintro zs hpre hl
  refine ⟨by simp [sumTo], ?_⟩
  rintro s i l ⟨rfl, ⟨hs, h0, h1⟩⟩
  have hlen : zs.length ≤ 1099511627776 := hpre.1
  refine bspD (fun hlt => ?_) (fun hge => ?_)
  · obtain ⟨k, rfl⟩ : ∃ k : Nat, i = k := ⟨i.toNat, by omega⟩
    have hb := sumTo_bd hpre k (by omega)
    have ha := hpre.at k
    have hs1 := sumTo_succ (zs := zs) (k := k) (by omega)
    simp only [Int.toNat_natCast] at hs ⊢
    subst hs
    refine ⟨⟨by omega, by omega⟩, by omega, by simp only [inK]; omega, by simp only [inK]; omega, ⟨by simp, ?_, by omega, by omega⟩, by omega⟩
    rw [show ((k : Int) + 1).toNat = k + 1 by omega, hs1]
  · have : i.toNat = zs.length := by omega
    rw [this, sumTo_all] at hs
    subst hs; rfl
def c_impl_bearoffSteps : Con where
  ins := [(false, .v tSI), (false, .v tI)]
  outs := [(false, .own 24 tSI)]
  sh := false
  pre := fun x => OkP (List.length x.1) x.1 ∧ List.length x.1 ≤ 24 ∧ 1 ≤ x.2.1 ∧ x.2.1 ≤ 6
  out := fun x => (stepsP x.1 x.2.1, ())
  upd := fun x => x
  eat := false
theorem k_impl_bearoffSteps [B : Base] : ConOk Try.prog 71 c_impl_bearoffSteps := by
  refine fn_ok (C := cx Try.prog 59 c_impl_bearoffSteps) (cs := [(78, c_impl_highest), (70, c_slices_Clone_int64_int64_)]) (res := Try.f71.results.toList) (fun x => ⟨[{ sh := ⟨[(0, .one (.ref 0)), (1, .one (.i .i64)), (5, .one (.ref 1)), (6, .one (.i .i64)), (13, .one (.i .i64)), (14, .one (.i .i64))], [(0, .imm tI false), (1, .own 24 tSI true)]⟩, nx := 2, I := fun _ dat_ => (x.2.1 = dat_.1.2.1 ∧ topD x.1 = dat_.1.2.2.2.1 ∧ (x.1.length : Int) = dat_.1.2.2.2.2.1 ∧ x.1 = dat_.2.1) ∧ (dat_.2.2.1 = stepsTo x.1 x.2.1 (Int.toNat dat_.1.2.2.2.2.2.1) ∧ dat_.1.2.2.2.1 = topD x.1 ∧ dat_.1.2.2.2.2.1 = (List.length x.1 : Int) ∧ 0 ≤ dat_.1.2.2.2.2.2.1 ∧ dat_.1.2.2.2.2.2.1 ≤ (List.length x.1 : Int)), mu := fun dat_ => Int.toNat ((List.length x.1 : Int) - dat_.1.2.2.2.2.2.1) }], [], []⟩) Try.func71 (by kernel_rfl) rfl rfl rfl tysOk.look eqTsOk.look (AllCs.ok (l := [(78, c_impl_highest), (70, c_slices_Clone_int64_int64_)]) ⟨k_impl_highest, k_slices_Clone_int64_int64_, trivial⟩) mixed rfl rfl rfl rfl ?_
  refine of_nf (P := ∀ p : List Int, ∀ d : Int, (OkP (List.length p) p ∧ List.length p ≤ 24 ∧ 1 ≤ d ∧ d ≤ 6) → ((lensI c_impl_bearoffSteps.ins (p, d, ())) → (True ∧ (((d = d ∧ topD p = (topD p) ∧ (p.length : Int) = (p.length : Int) ∧ p = p) ∧ ([] = stepsTo p d (Int.toNat (0 : Int)) ∧ (topD p) = topD p ∧ (p.length : Int) = (List.length p : Int) ∧ 0 ≤ (0 : Int) ∧ (0 : Int) ≤ (List.length p : Int))) ∧ (∀ t1 : Int, ∀ top : Int, ∀ n : Int, ∀ i : Int, ∀ t0 : List Int, ∀ out : List (List Int), ((d = t1 ∧ topD p = top ∧ (p.length : Int) = n ∧ p = t0) ∧ (out = stepsTo p d (Int.toNat i) ∧ top = topD p ∧ n = (List.length p : Int) ∧ 0 ≤ i ∧ i ≤ (List.length p : Int))) → (bsp (decide (i < n)) ((0 ≤ i ∧ i < (t0.length : Int)) ∧ ((i.toNat < t0.length) ∧ (bsp (decide ((t0.getD i.toNat 0) = (0 : Int))) ((inK .i64 (i + 1)) ∧ (((d = t1 ∧ topD p = top ∧ (p.length : Int) = n ∧ p = t0) ∧ (out = stepsTo p d (Int.toNat (i + 1)) ∧ top = topD p ∧ n = (List.length p : Int) ∧ 0 ≤ (i + 1) ∧ (i + 1) ≤ (List.length p : Int))) ∧ ((Int.toNat ((List.length p : Int) - (i + 1)) : Nat) < Int.toNat ((List.length p : Int) - i)))) ((inK .i64 (i + 1)) ∧ (bsp (decide ((i + 1) < t1)) (bsp (decide (i ≠ top)) ((inK .i64 (i + 1)) ∧ (((d = t1 ∧ topD p = top ∧ (p.length : Int) = n ∧ p = t0) ∧ (out = stepsTo p d (Int.toNat (i + 1)) ∧ top = topD p ∧ n = (List.length p : Int) ∧ 0 ≤ (i + 1) ∧ (i + 1) ≤ (List.length p : Int))) ∧ ((Int.toNat ((List.length p : Int) - (i + 1)) : Nat) < Int.toNat ((List.length p : Int) - i)))) ((t0 ≠ [] ∧ List.length t0 ≤ 1099511627776) ∧ ((0 ≤ i ∧ i < (t0.length : Int)) ∧ ((i.toNat < t0.length) ∧ ((inK .i64 ((t0.getD i.toNat 0) - 1)) ∧ ((0 ≤ i ∧ i < (t0.length : Int)) ∧ ((i.toNat < t0.length) ∧ (bsp (decide (t1 ≤ i)) ((inK .i64 (i - t1)) ∧ ((0 ≤ (i - t1) ∧ (i - t1) < ((t0.set i.toNat ((t0.getD i.toNat 0) - 1)).length : Int)) ∧ (((i - t1).toNat < (t0.set i.toNat ((t0.getD i.toNat 0) - 1)).length) ∧ ((inK .i64 (((t0.set i.toNat ((t0.getD i.toNat 0) - 1)).getD (i - t1).toNat 0) + 1)) ∧ ((0 ≤ (i - t1) ∧ (i - t1) < ((t0.set i.toNat ((t0.getD i.toNat 0) - 1)).length : Int)) ∧ (((i - t1).toNat < (t0.set i.toNat ((t0.getD i.toNat 0) - 1)).length) ∧ ((out.length + ([((t0.set i.toNat ((t0.getD i.toNat 0) - 1)).set (i - t1).toNat (((t0.set i.toNat ((t0.getD i.toNat 0) - 1)).getD (i - t1).toNat 0) + 1))] : List (List Int)).length ≤ AB) ∧ ((inK .i64 (i + 1)) ∧ (((d = t1 ∧ topD p = top ∧ (p.length : Int) = n ∧ p = t0) ∧ ((out ++ [((t0.set i.toNat ((t0.getD i.toNat 0) - 1)).set (i - t1).toNat (((t0.set i.toNat ((t0.getD i.toNat 0) - 1)).getD (i - t1).toNat 0) + 1))]) = stepsTo p d (Int.toNat (i + 1)) ∧ top = topD p ∧ n = (List.length p : Int) ∧ 0 ≤ (i + 1) ∧ (i + 1) ≤ (List.length p : Int))) ∧ ((Int.toNat ((List.length p : Int) - (i + 1)) : Nat) < Int.toNat ((List.length p : Int) - i))))))))))) ((out.length + ([(t0.set i.toNat ((t0.getD i.toNat 0) - 1))] : List (List Int)).length ≤ AB) ∧ ((inK .i64 (i + 1)) ∧ (((d = t1 ∧ topD p = top ∧ (p.length : Int) = n ∧ p = t0) ∧ ((out ++ [(t0.set i.toNat ((t0.getD i.toNat 0) - 1))]) = stepsTo p d (Int.toNat (i + 1)) ∧ top = topD p ∧ n = (List.length p : Int) ∧ 0 ≤ (i + 1) ∧ (i + 1) ≤ (List.length p : Int))) ∧ ((Int.toNat ((List.length p : Int) - (i + 1)) : Nat) < Int.toNat ((List.length p : Int) - i))))))))))))) ((t0 ≠ [] ∧ List.length t0 ≤ 1099511627776) ∧ ((0 ≤ i ∧ i < (t0.length : Int)) ∧ ((i.toNat < t0.length) ∧ ((inK .i64 ((t0.getD i.toNat 0) - 1)) ∧ ((0 ≤ i ∧ i < (t0.length : Int)) ∧ ((i.toNat < t0.length) ∧ (bsp (decide (t1 ≤ i)) ((inK .i64 (i - t1)) ∧ ((0 ≤ (i - t1) ∧ (i - t1) < ((t0.set i.toNat ((t0.getD i.toNat 0) - 1)).length : Int)) ∧ (((i - t1).toNat < (t0.set i.toNat ((t0.getD i.toNat 0) - 1)).length) ∧ ((inK .i64 (((t0.set i.toNat ((t0.getD i.toNat 0) - 1)).getD (i - t1).toNat 0) + 1)) ∧ ((0 ≤ (i - t1) ∧ (i - t1) < ((t0.set i.toNat ((t0.getD i.toNat 0) - 1)).length : Int)) ∧ (((i - t1).toNat < (t0.set i.toNat ((t0.getD i.toNat 0) - 1)).length) ∧ ((out.length + ([((t0.set i.toNat ((t0.getD i.toNat 0) - 1)).set (i - t1).toNat (((t0.set i.toNat ((t0.getD i.toNat 0) - 1)).getD (i - t1).toNat 0) + 1))] : List (List Int)).length ≤ AB) ∧ ((inK .i64 (i + 1)) ∧ (((d = t1 ∧ topD p = top ∧ (p.length : Int) = n ∧ p = t0) ∧ ((out ++ [((t0.set i.toNat ((t0.getD i.toNat 0) - 1)).set (i - t1).toNat (((t0.set i.toNat ((t0.getD i.toNat 0) - 1)).getD (i - t1).toNat 0) + 1))]) = stepsTo p d (Int.toNat (i + 1)) ∧ top = topD p ∧ n = (List.length p : Int) ∧ 0 ≤ (i + 1) ∧ (i + 1) ≤ (List.length p : Int))) ∧ ((Int.toNat ((List.length p : Int) - (i + 1)) : Nat) < Int.toNat ((List.length p : Int) - i))))))))))) ((out.length + ([(t0.set i.toNat ((t0.getD i.toNat 0) - 1))] : List (List Int)).length ≤ AB) ∧ ((inK .i64 (i + 1)) ∧ (((d = t1 ∧ topD p = top ∧ (p.length : Int) = n ∧ p = t0) ∧ ((out ++ [(t0.set i.toNat ((t0.getD i.toNat 0) - 1))]) = stepsTo p d (Int.toNat (i + 1)) ∧ top = topD p ∧ n = (List.length p : Int) ∧ 0 ≤ (i + 1) ∧ (i + 1) ≤ (List.length p : Int))) ∧ ((Int.toNat ((List.length p : Int) - (i + 1)) : Nat) < Int.toNat ((List.length p : Int) - i))))))))))))))))) (@Eq (HO c_impl_bearoffSteps.outs) (out, ()) (c_impl_bearoffSteps.out (p, d, ()))))))))) (by kernel_rfl) ?_
  rintro p d ⟨hp, hn, d0, d1⟩ hl
  refine ⟨trivial, ⟨(by first | trivial | rfl | (and_intros <;> rfl)), rfl, rfl, rfl, by omega, by omega⟩, ?_⟩
  rintro t1 top n i t0 out ⟨⟨rfl, rfl, rfl, rfl⟩, ⟨ho, -, -, i0, i1⟩⟩
  obtain ⟨k, rfl⟩ : ∃ k : Nat, i = k := ⟨i.toNat, by omega⟩
  simp only [Int.toNat_natCast] at ho ⊢
  rw [show ((k : Int) + 1).toNat = k + 1 by omega, stepsTo_succ]
  subst ho
  refine bspD (fun hlt => ?_) (fun hge => ?_)
  · have hk : k < p.length := by omega
    have hle := hp.le k
    refine ⟨⟨by omega, by omega⟩, hk, bspD (fun hz => ?_) (fun hz => ⟨by simp only [inK]; omega, bspD (fun hd => bspD (fun ht => ?_) (fun ht => ?_)) (fun hd => ?_)⟩)⟩
    · have hcg : canGo p d k = false := by simp only [canGo, hz]; simp
      rw [hcg, if_neg (by decide), List.append_nil]
      exact ⟨by simp only [inK]; omega, ⟨(by first | trivial | rfl | (and_intros <;> rfl)), rfl, trivial, trivial, by omega, by omega⟩, by omega⟩
    · have hcg : canGo p d k = false := by have := (top_iff hp.nn hk hz).1 ht; simp only [canGo, decide_eq_true hd, decide_eq_true this]; simp
      rw [hcg, if_neg (by decide), List.append_nil]
      exact ⟨by simp only [inK]; omega, ⟨(by first | trivial | rfl | (and_intros <;> rfl)), rfl, trivial, trivial, by omega, by omega⟩, by omega⟩
    · have hcg : canGo p d k = true := by have : ¬ 0 < (p.drop (k + 1)).sum := fun h => ht ((top_iff hp.nn hk hz).2 h); simp only [canGo, decide_eq_true hz, decide_eq_false this]; simp
      rw [hcg, if_pos rfl]
      have hne : p.getD k 0 ≠ 0 := hz
      refine ⟨⟨by intro e; rw [e] at hk; simp at hk, by omega⟩, ⟨by omega, by omega⟩, hk, by simp only [inK]; omega, ⟨by omega, by omega⟩, hk, bspD (fun hm => ?_) (fun hm => ?_)⟩
      · have e1 : ((k : Int) - d).toNat < (p.set k (p.getD k 0 - 1)).length := by simp; omega
        have hmo : moveD p d k = (p.set k (p.getD k 0 - 1)).set ((k : Int) - d).toNat ((p.set k (p.getD k 0 - 1)).getD ((k : Int) - d).toNat 0 + 1) := by rw [moveD, if_pos hm]
        have hb := (moveD_w hp d0 hk (by have := hle.1; omega) one1).2.1 ((k : Int) - d).toNat
        have hqb : 0 ≤ (p.set k (p.getD k 0 - 1)).getD ((k : Int) - d).toNat 0 ∧ (p.set k (p.getD k 0 - 1)).getD ((k : Int) - d).toNat 0 ≤ 15 := by
          by_cases e : k = ((k : Int) - d).toNat
          · omega
          · rw [List.getD_eq_getElem?_getD, List.getElem?_set_ne e, ← List.getD_eq_getElem?_getD]; exact hp.le _
        refine ⟨by simp only [inK]; omega, ⟨by omega, by simp; omega⟩, e1, by simp only [inK]; omega, ⟨by omega, by simp; omega⟩, e1, ?_⟩
        rw [← hmo]
        exact ⟨by have := stepsTo_len p d k; simp [AB]; omega, by simp only [inK]; omega, ⟨(by first | trivial | rfl | (and_intros <;> rfl)), rfl, trivial, trivial, by omega, by omega⟩, by omega⟩
      · have hmo : moveD p d k = p.set k (p.getD k 0 - 1) := by rw [moveD, if_neg hm]
        rw [← hmo]
        exact ⟨by have := stepsTo_len p d k; simp [AB]; omega, by simp only [inK]; omega, ⟨(by first | trivial | rfl | (and_intros <;> rfl)), rfl, trivial, trivial, by omega, by omega⟩, by omega⟩
    · have hcg : canGo p d k = true := by simp only [canGo, decide_eq_true hz, decide_eq_false hd]; simp
      rw [hcg, if_pos rfl]
      have hne : p.getD k 0 ≠ 0 := hz
      refine ⟨⟨by intro e; rw [e] at hk; simp at hk, by omega⟩, ⟨by omega, by omega⟩, hk, by simp only [inK]; omega, ⟨by omega, by omega⟩, hk, bspD (fun hm => ?_) (fun hm => ?_)⟩
      · have e1 : ((k : Int) - d).toNat < (p.set k (p.getD k 0 - 1)).length := by simp; omega
        have hmo : moveD p d k = (p.set k (p.getD k 0 - 1)).set ((k : Int) - d).toNat ((p.set k (p.getD k 0 - 1)).getD ((k : Int) - d).toNat 0 + 1) := by rw [moveD, if_pos hm]
        have hb := (moveD_w hp d0 hk (by have := hle.1; omega) one1).2.1 ((k : Int) - d).toNat
        have hqb : 0 ≤ (p.set k (p.getD k 0 - 1)).getD ((k : Int) - d).toNat 0 ∧ (p.set k (p.getD k 0 - 1)).getD ((k : Int) - d).toNat 0 ≤ 15 := by
          by_cases e : k = ((k : Int) - d).toNat
          · omega
          · rw [List.getD_eq_getElem?_getD, List.getElem?_set_ne e, ← List.getD_eq_getElem?_getD]; exact hp.le _
        refine ⟨by simp only [inK]; omega, ⟨by omega, by simp; omega⟩, e1, by simp only [inK]; omega, ⟨by omega, by simp; omega⟩, e1, ?_⟩
        rw [← hmo]
        exact ⟨by have := stepsTo_len p d k; simp [AB]; omega, by simp only [inK]; omega, ⟨(by first | trivial | rfl | (and_intros <;> rfl)), rfl, trivial, trivial, by omega, by omega⟩, by omega⟩
      · have hmo : moveD p d k = p.set k (p.getD k 0 - 1) := by rw [moveD, if_neg hm]
        rw [← hmo]
        exact ⟨by have := stepsTo_len p d k; simp [AB]; omega, by simp only [inK]; omega, ⟨(by first | trivial | rfl | (and_intros <;> rfl)), rfl, trivial, trivial, by omega, by omega⟩, by omega⟩
  · have : k = p.length := by omega
    subst this
    exact rfl
def c_spec_l10Steps : Con where
  ins := [(false, .v tSI), (false, .v tI)]
  outs := [(false, .own 24 tSI)]
  sh := false
  pre := fun x => OkP (List.length x.1) x.1 ∧ List.length x.1 ≤ 24 ∧ 1 ≤ x.2.1 ∧ x.2.1 ≤ 6
  out := fun x => (stepsP x.1 x.2.1, ())
  upd := fun x => x
  eat := false
theorem k_spec_l10Steps [B : Base] : ConOk Try.prog 65 c_spec_l10Steps := by
  refine fn_ok (C := cx Try.prog 65 c_spec_l10Steps) (cs := [(51, c_spec_l10Sum)]) (res := Try.f65.results.toList) (fun x => ⟨[{ sh := ⟨[(0, .one (.ref 0)), (1, .one (.i .i64)), (5, .one (.ref 1)), (6, .one (.i .i64))], [(0, .imm tI false), (1, .own 24 tSI true)]⟩, nx := 2, I := fun _ dat_ => (x.2.1 = dat_.1.2.1 ∧ x.1 = dat_.2.1) ∧ (dat_.2.2.1 = stepsTo x.1 x.2.1 (Int.toNat dat_.1.2.2.2.1) ∧ 0 ≤ dat_.1.2.2.2.1 ∧ dat_.1.2.2.2.1 ≤ (List.length x.1 : Int)), mu := fun dat_ => Int.toNat ((List.length x.1 : Int) - dat_.1.2.2.2.1) }], [], []⟩) Try.func65 (by kernel_rfl) rfl rfl rfl tysOk.look eqTsOk.look (AllCs.ok (l := [(51, c_spec_l10Sum)]) ⟨k_spec_l10Sum, trivial⟩) mixed rfl rfl rfl rfl ?_
  refine of_nf (P := ∀ p : List Int, ∀ d : Int, (OkP (List.length p) p ∧ List.length p ≤ 24 ∧ 1 ≤ d ∧ d ≤ 6) → ((lensI c_spec_l10Steps.ins (p, d, ())) → (((d = d ∧ p = p) ∧ ([] = stepsTo p d (Int.toNat (0 : Int)) ∧ 0 ≤ (0 : Int) ∧ (0 : Int) ≤ (List.length p : Int))) ∧ (∀ t1 : Int, ∀ i : Int, ∀ t0 : List Int, ∀ out : List (List Int), ((d = t1 ∧ p = t0) ∧ (out = stepsTo p d (Int.toNat i) ∧ 0 ≤ i ∧ i ≤ (List.length p : Int))) → (bsp (decide (i < (t0.length : Int))) ((0 ≤ i ∧ i < (t0.length : Int)) ∧ ((i.toNat < t0.length) ∧ (bsp (decide ((t0.getD i.toNat 0) = (0 : Int))) ((inK .i64 (i + 1)) ∧ (((d = t1 ∧ p = t0) ∧ (out = stepsTo p d (Int.toNat (i + 1)) ∧ 0 ≤ (i + 1) ∧ (i + 1) ≤ (List.length p : Int))) ∧ ((Int.toNat ((List.length p : Int) - (i + 1)) : Nat) < Int.toNat ((List.length p : Int) - i)))) ((inK .i64 (i + 1)) ∧ (bsp (decide ((i + 1) < t1)) ((inK .i64 (i + 1)) ∧ ((0 ≤ (i + 1) ∧ (i + 1) ≤ (t0.length : Int) ∧ (t0.length : Int) ≤ (t0.length : Int) ∧ (t0.length : Int) ≤ (t0.length : Int)) ∧ ((Bd ((t0.take t0.length).drop (i + 1).toNat)) ∧ (bsp (decide ((0 : Int) < (List.sum ((t0.take t0.length).drop (i + 1).toNat)))) ((inK .i64 (i + 1)) ∧ (((d = t1 ∧ p = t0) ∧ (out = stepsTo p d (Int.toNat (i + 1)) ∧ 0 ≤ (i + 1) ∧ (i + 1) ≤ (List.length p : Int))) ∧ ((Int.toNat ((List.length p : Int) - (i + 1)) : Nat) < Int.toNat ((List.length p : Int) - i)))) ((([] : List Int).length + t0.length ≤ AB) ∧ ((0 ≤ i ∧ i < ((([] : List Int) ++ t0).length : Int)) ∧ ((i.toNat < (([] : List Int) ++ t0).length) ∧ ((inK .i64 (((([] : List Int) ++ t0).getD i.toNat 0) - 1)) ∧ ((0 ≤ i ∧ i < ((([] : List Int) ++ t0).length : Int)) ∧ ((i.toNat < (([] : List Int) ++ t0).length) ∧ (bsp (decide (t1 ≤ i)) ((inK .i64 (i - t1)) ∧ ((inK .i64 (i - t1)) ∧ ((0 ≤ (i - t1) ∧ (i - t1) < (((([] : List Int) ++ t0).set i.toNat (((([] : List Int) ++ t0).getD i.toNat 0) - 1)).length : Int)) ∧ (((i - t1).toNat < ((([] : List Int) ++ t0).set i.toNat (((([] : List Int) ++ t0).getD i.toNat 0) - 1)).length) ∧ ((inK .i64 ((((([] : List Int) ++ t0).set i.toNat (((([] : List Int) ++ t0).getD i.toNat 0) - 1)).getD (i - t1).toNat 0) + 1)) ∧ ((0 ≤ (i - t1) ∧ (i - t1) < (((([] : List Int) ++ t0).set i.toNat (((([] : List Int) ++ t0).getD i.toNat 0) - 1)).length : Int)) ∧ (((i - t1).toNat < ((([] : List Int) ++ t0).set i.toNat (((([] : List Int) ++ t0).getD i.toNat 0) - 1)).length) ∧ ((out.length + ([(((([] : List Int) ++ t0).set i.toNat (((([] : List Int) ++ t0).getD i.toNat 0) - 1)).set (i - t1).toNat ((((([] : List Int) ++ t0).set i.toNat (((([] : List Int) ++ t0).getD i.toNat 0) - 1)).getD (i - t1).toNat 0) + 1))] : List (List Int)).length ≤ AB) ∧ ((inK .i64 (i + 1)) ∧ (((d = t1 ∧ p = t0) ∧ ((out ++ [(((([] : List Int) ++ t0).set i.toNat (((([] : List Int) ++ t0).getD i.toNat 0) - 1)).set (i - t1).toNat ((((([] : List Int) ++ t0).set i.toNat (((([] : List Int) ++ t0).getD i.toNat 0) - 1)).getD (i - t1).toNat 0) + 1))]) = stepsTo p d (Int.toNat (i + 1)) ∧ 0 ≤ (i + 1) ∧ (i + 1) ≤ (List.length p : Int))) ∧ ((Int.toNat ((List.length p : Int) - (i + 1)) : Nat) < Int.toNat ((List.length p : Int) - i)))))))))))) ((out.length + ([((([] : List Int) ++ t0).set i.toNat (((([] : List Int) ++ t0).getD i.toNat 0) - 1))] : List (List Int)).length ≤ AB) ∧ ((inK .i64 (i + 1)) ∧ (((d = t1 ∧ p = t0) ∧ ((out ++ [((([] : List Int) ++ t0).set i.toNat (((([] : List Int) ++ t0).getD i.toNat 0) - 1))]) = stepsTo p d (Int.toNat (i + 1)) ∧ 0 ≤ (i + 1) ∧ (i + 1) ≤ (List.length p : Int))) ∧ ((Int.toNat ((List.length p : Int) - (i + 1)) : Nat) < Int.toNat ((List.length p : Int) - i)))))))))))))))) ((([] : List Int).length + t0.length ≤ AB) ∧ ((0 ≤ i ∧ i < ((([] : List Int) ++ t0).length : Int)) ∧ ((i.toNat < (([] : List Int) ++ t0).length) ∧ ((inK .i64 (((([] : List Int) ++ t0).getD i.toNat 0) - 1)) ∧ ((0 ≤ i ∧ i < ((([] : List Int) ++ t0).length : Int)) ∧ ((i.toNat < (([] : List Int) ++ t0).length) ∧ (bsp (decide (t1 ≤ i)) ((inK .i64 (i - t1)) ∧ ((inK .i64 (i - t1)) ∧ ((0 ≤ (i - t1) ∧ (i - t1) < (((([] : List Int) ++ t0).set i.toNat (((([] : List Int) ++ t0).getD i.toNat 0) - 1)).length : Int)) ∧ (((i - t1).toNat < ((([] : List Int) ++ t0).set i.toNat (((([] : List Int) ++ t0).getD i.toNat 0) - 1)).length) ∧ ((inK .i64 ((((([] : List Int) ++ t0).set i.toNat (((([] : List Int) ++ t0).getD i.toNat 0) - 1)).getD (i - t1).toNat 0) + 1)) ∧ ((0 ≤ (i - t1) ∧ (i - t1) < (((([] : List Int) ++ t0).set i.toNat (((([] : List Int) ++ t0).getD i.toNat 0) - 1)).length : Int)) ∧ (((i - t1).toNat < ((([] : List Int) ++ t0).set i.toNat (((([] : List Int) ++ t0).getD i.toNat 0) - 1)).length) ∧ ((out.length + ([(((([] : List Int) ++ t0).set i.toNat (((([] : List Int) ++ t0).getD i.toNat 0) - 1)).set (i - t1).toNat ((((([] : List Int) ++ t0).set i.toNat (((([] : List Int) ++ t0).getD i.toNat 0) - 1)).getD (i - t1).toNat 0) + 1))] : List (List Int)).length ≤ AB) ∧ ((inK .i64 (i + 1)) ∧ (((d = t1 ∧ p = t0) ∧ ((out ++ [(((([] : List Int) ++ t0).set i.toNat (((([] : List Int) ++ t0).getD i.toNat 0) - 1)).set (i - t1).toNat ((((([] : List Int) ++ t0).set i.toNat (((([] : List Int) ++ t0).getD i.toNat 0) - 1)).getD (i - t1).toNat 0) + 1))]) = stepsTo p d (Int.toNat (i + 1)) ∧ 0 ≤ (i + 1) ∧ (i + 1) ≤ (List.length p : Int))) ∧ ((Int.toNat ((List.length p : Int) - (i + 1)) : Nat) < Int.toNat ((List.length p : Int) - i)))))))))))) ((out.length + ([((([] : List Int) ++ t0).set i.toNat (((([] : List Int) ++ t0).getD i.toNat 0) - 1))] : List (List Int)).length ≤ AB) ∧ ((inK .i64 (i + 1)) ∧ (((d = t1 ∧ p = t0) ∧ ((out ++ [((([] : List Int) ++ t0).set i.toNat (((([] : List Int) ++ t0).getD i.toNat 0) - 1))]) = stepsTo p d (Int.toNat (i + 1)) ∧ 0 ≤ (i + 1) ∧ (i + 1) ≤ (List.length p : Int))) ∧ ((Int.toNat ((List.length p : Int) - (i + 1)) : Nat) < Int.toNat ((List.length p : Int) - i))))))))))))))))) (@Eq (HO c_spec_l10Steps.outs) (out, ()) (c_spec_l10Steps.out (p, d, ())))))))) (by kernel_rfl) ?_
  rintro p d ⟨hp, hn, d0, d1⟩ hl
  refine ⟨⟨(by first | trivial | rfl | (and_intros <;> rfl)), rfl, by omega, by omega⟩, ?_⟩
  rintro t1 i t0 out ⟨⟨rfl, rfl⟩, ⟨ho, i0, i1⟩⟩
  obtain ⟨k, rfl⟩ : ∃ k : Nat, i = k := ⟨i.toNat, by omega⟩
  simp only [Int.toNat_natCast, List.nil_append, List.take_length] at ho ⊢
  rw [show ((k : Int) + 1).toNat = k + 1 by omega, stepsTo_succ]
  subst ho
  refine bspD (fun hlt => ?_) (fun hge => ?_)
  · have hk : k < p.length := by omega
    have hle := hp.le k
    refine ⟨⟨by omega, by omega⟩, hk, bspD (fun hz => ?_) (fun hz => ⟨by simp only [inK]; omega, bspD (fun hd => ⟨by simp only [inK]; omega, ⟨by omega, by omega, by omega, by omega⟩, hp.bdDrop hn _, bspD (fun ht => ?_) (fun ht => ?_)⟩) (fun hd => ?_)⟩)⟩
    · have hcg : canGo p d k = false := by simp only [canGo, hz]; simp
      rw [hcg, if_neg (by decide), List.append_nil]
      exact ⟨by simp only [inK]; omega, ⟨(by first | trivial | rfl | (and_intros <;> rfl)), rfl, by omega, by omega⟩, by omega⟩
    · have hcg : canGo p d k = false := by simp only [canGo, decide_eq_true hd, decide_eq_true ht]; simp
      rw [hcg, if_neg (by decide), List.append_nil]
      exact ⟨by simp only [inK]; omega, ⟨(by first | trivial | rfl | (and_intros <;> rfl)), rfl, by omega, by omega⟩, by omega⟩
    · have hcg : canGo p d k = true := by simp only [canGo, decide_eq_true hz, decide_eq_false ht]; simp
      rw [hcg, if_pos rfl]
      have hne : p.getD k 0 ≠ 0 := hz
      refine ⟨by simp [AB]; omega, ⟨by omega, by omega⟩, hk, by simp only [inK]; omega, ⟨by omega, by omega⟩, hk, bspD (fun hm => ?_) (fun hm => ?_)⟩
      · have e1 : ((k : Int) - d).toNat < (p.set k (p.getD k 0 - 1)).length := by simp; omega
        have hmo : moveD p d k = (p.set k (p.getD k 0 - 1)).set ((k : Int) - d).toNat ((p.set k (p.getD k 0 - 1)).getD ((k : Int) - d).toNat 0 + 1) := by rw [moveD, if_pos hm]
        have hb := (moveD_w hp d0 hk (by have := hle.1; omega) one1).2.1 ((k : Int) - d).toNat
        have hqb : 0 ≤ (p.set k (p.getD k 0 - 1)).getD ((k : Int) - d).toNat 0 ∧ (p.set k (p.getD k 0 - 1)).getD ((k : Int) - d).toNat 0 ≤ 15 := by
          by_cases e : k = ((k : Int) - d).toNat
          · omega
          · rw [List.getD_eq_getElem?_getD, List.getElem?_set_ne e, ← List.getD_eq_getElem?_getD]; exact hp.le _
        refine ⟨by simp only [inK]; omega, by simp only [inK]; omega, ⟨by omega, by simp; omega⟩, e1, by simp only [inK]; omega, ⟨by omega, by simp; omega⟩, e1, ?_⟩
        rw [← hmo]
        exact ⟨by have := stepsTo_len p d k; simp [AB]; omega, by simp only [inK]; omega, ⟨(by first | trivial | rfl | (and_intros <;> rfl)), rfl, by omega, by omega⟩, by omega⟩
      · have hmo : moveD p d k = p.set k (p.getD k 0 - 1) := by rw [moveD, if_neg hm]
        rw [← hmo]
        exact ⟨by have := stepsTo_len p d k; simp [AB]; omega, by simp only [inK]; omega, ⟨(by first | trivial | rfl | (and_intros <;> rfl)), rfl, by omega, by omega⟩, by omega⟩
    · have hcg : canGo p d k = true := by simp only [canGo, decide_eq_true hz, decide_eq_false hd]; simp
      rw [hcg, if_pos rfl]
      have hne : p.getD k 0 ≠ 0 := hz
      refine ⟨by simp [AB]; omega, ⟨by omega, by omega⟩, hk, by simp only [inK]; omega, ⟨by omega, by omega⟩, hk, bspD (fun hm => ?_) (fun hm => ?_)⟩
      · have e1 : ((k : Int) - d).toNat < (p.set k (p.getD k 0 - 1)).length := by simp; omega
        have hmo : moveD p d k = (p.set k (p.getD k 0 - 1)).set ((k : Int) - d).toNat ((p.set k (p.getD k 0 - 1)).getD ((k : Int) - d).toNat 0 + 1) := by rw [moveD, if_pos hm]
        have hb := (moveD_w hp d0 hk (by have := hle.1; omega) one1).2.1 ((k : Int) - d).toNat
        have hqb : 0 ≤ (p.set k (p.getD k 0 - 1)).getD ((k : Int) - d).toNat 0 ∧ (p.set k (p.getD k 0 - 1)).getD ((k : Int) - d).toNat 0 ≤ 15 := by
          by_cases e : k = ((k : Int) - d).toNat
          · omega
          · rw [List.getD_eq_getElem?_getD, List.getElem?_set_ne e, ← List.getD_eq_getElem?_getD]; exact hp.le _
        refine ⟨by simp only [inK]; omega, by simp only [inK]; omega, ⟨by omega, by simp; omega⟩, e1, by simp only [inK]; omega, ⟨by omega, by simp; omega⟩, e1, ?_⟩
        rw [← hmo]
        exact ⟨by have := stepsTo_len p d k; simp [AB]; omega, by simp only [inK]; omega, ⟨(by first | trivial | rfl | (and_intros <;> rfl)), rfl, by omega, by omega⟩, by omega⟩
      · have hmo : moveD p d k = p.set k (p.getD k 0 - 1) := by rw [moveD, if_neg hm]
        rw [← hmo]
        exact ⟨by have := stepsTo_len p d k; simp [AB]; omega, by simp only [inK]; omega, ⟨(by first | trivial | rfl | (and_intros <;> rfl)), rfl, by omega, by omega⟩, by omega⟩
  · have : k = p.length := by omega
    subst this
    exact rfl
end Go.Proofs.Ytoobijimfccfgaa
