/-
  Contracts: sequences of plays, dice that are used.
-/
import Derived.Test.YtgbfcjnkohhfoaaVPlay
import Derived.Test.YtgbfcjnkohhfoaaVRoll
namespace Go.Proofs.Ytgbfcjnkohhfoaa
open Go.RowKit
set_option linter.unusedSimpArgs false
set_option linter.unusedVariables false
/-- the kept sequences of each greater length -/
def seqD (v : DVar) : List DPlay → List Int → List (List DPlay)
  | _, [] => []
  | ps, d :: ds => if nextD v ps d = [] then [] else nextD v ps d :: seqD v (nextD v ps d) ds
def startP (b : DBoard) : List DPlay := [([], b)]
def rowsD (v : DVar) (b : DBoard) (o : List Int) : List (List DPlay) := startP b :: seqD v (startP b) o
def fewB (l : List DPlay) : Bool := decide ((l.length : Int) ≤ 3000)
def fitsP (v : DVar) (b : DBoard) (o : List Int) : Bool := (seqD v (startP b) o).all fewB
def lastD (l : List DPlay) : List (List DPlay) → List DPlay
  | [] => l
  | x :: xs => lastD x xs
def ordersD (r : DRoll) : List (List Int) := if r.1 = r.2 then [[r.1, r.1, r.1, r.1]] else [[r.1, r.2], [r.2, r.1]]
def usedL (rs : List (List (List DPlay))) : Int := rs.foldl (fun m r => max m ((r.length : Int) - 1)) 0
def usedD (v : DVar) (b : DBoard) (r : DRoll) : Int := usedL ((ordersD r).map (rowsD v b))
/-- dice of an order -/
def DiceOk (o : List Int) : Prop := o.length ≤ 4 ∧ ∀ d, d ∈ o → 1 ≤ d ∧ d ≤ 6
theorem seqD_len (v : DVar) : ∀ (ps : List DPlay) (o : List Int), (seqD v ps o).length ≤ o.length
  | _, [] => by simp [seqD]
  | ps, d :: ds => by
    have := seqD_len v (nextD v ps d) ds
    simp only [seqD]; split <;> simp; omega
theorem pow25 {k : Nat} (h : k ≤ 4) : 25 ^ k ≤ 390625 := Nat.le_trans (Nat.pow_le_pow_right (by omega) h) (by decide)
theorem startP_ok {v : DVar} {b : DBoard} (h : okB v b) : PsOk v 0 (startP b) := fun p hp => by
  simp only [startP, List.mem_singleton] at hp; subst hp; exact ⟨h, by simp⟩
theorem PsOk.mono {v : DVar} {n m : Nat} {ps : List DPlay} (h : PsOk v n ps) (hn : n ≤ m) : PsOk v m ps := fun p hp => ⟨(h p hp).1, by have := (h p hp).2; omega⟩
theorem ordersD_ok {v : DVar} {r : DRoll} (h : rollD v r = true) : ∀ o, o ∈ ordersD r → DiceOk o := by
  simp only [rollD, Bool.and_eq_true, inB_iff] at h
  obtain ⟨⟨hv, h1, h2⟩, h3, h4⟩ := h
  obtain ⟨_, _, _, v7, v8⟩ := varD_iff.1 hv
  intro o ho
  unfold ordersD at ho
  split at ho <;> simp at ho
  · subst ho; exact ⟨by simp, fun d hd => by simp at hd; subst hd; omega⟩
  · rcases ho with rfl | rfl <;> exact ⟨by simp, fun d hd => by simp at hd; omega⟩
theorem rollD_facts {v : DVar} {r : DRoll} (h : rollD v r = true) : (1 ≤ r.1 ∧ r.1 ≤ 6) ∧ 1 ≤ r.2 ∧ r.2 ≤ 6 := by
  simp only [rollD, Bool.and_eq_true, inB_iff] at h
  obtain ⟨⟨hv, h1, h2⟩, h3, h4⟩ := h
  obtain ⟨_, _, _, v7, v8⟩ := varD_iff.1 hv
  omega
theorem ordersD_len (r : DRoll) : (ordersD r).length ≤ 2 := by unfold ordersD; split <;> simp
/-- where the loop stands that builds the rows -/
def RowsInv (v : DVar) (b : DBoard) (o : List Int) (rows : List (List DPlay)) (fits : Bool) (k : Nat) : Prop :=
  rows.length = k + 1 ∧ PsOk v k (rows.getD k []) ∧ (rows.getD k []).length ≤ 25 ^ k ∧ rows ++ seqD v (rows.getD k []) (o.drop k) = rowsD v b o ∧ (fits && (seqD v (rows.getD k []) (o.drop k)).all fewB) = fitsP v b o
theorem RowsInv.zero {v : DVar} {b : DBoard} (o : List Int) (h : okB v b) : RowsInv v b o [startP b] true 0 := by
  refine ⟨rfl, startP_ok h, by simp [startP], ?_, ?_⟩ <;> simp [rowsD, fitsP]
theorem getD_append_len {α : Type} (l : List α) (x d : α) : (l ++ [x]).getD l.length d = x := by simp [List.getD_eq_getElem?_getD]
theorem RowsInv.stop {v : DVar} {b : DBoard} {o : List Int} {rows : List (List DPlay)} {fits : Bool} {k : Nat} (h : RowsInv v b o rows fits k) (hk : k < o.length) (hn : nextD v (rows.getD k []) (o.getD k 0) = []) : rows = rowsD v b o ∧ fits = fitsP v b o := by
  obtain ⟨h1, h2, h3, h4, h5⟩ := h
  rw [drop_cons hk 0, seqD, if_pos hn] at h4 h5
  exact ⟨by simpa using h4, by simpa using h5⟩
theorem RowsInv.done {v : DVar} {b : DBoard} {o : List Int} {rows : List (List DPlay)} {fits : Bool} {k : Nat} (h : RowsInv v b o rows fits k) (hk : o.length ≤ k) : rows = rowsD v b o ∧ fits = fitsP v b o := by
  obtain ⟨h1, h2, h3, h4, h5⟩ := h
  rw [List.drop_eq_nil_of_le hk, seqD] at h4 h5
  exact ⟨by simpa using h4, by simpa using h5⟩
theorem RowsInv.step {v : DVar} {b : DBoard} {o : List Int} {rows : List (List DPlay)} {fits : Bool} {k : Nat} (h : RowsInv v b o rows fits k) (ho : DiceOk o) (hk : k < o.length) (hn : nextD v (rows.getD k []) (o.getD k 0) ≠ []) : RowsInv v b o (rows ++ [nextD v (rows.getD k []) (o.getD k 0)]) (fits && fewB (nextD v (rows.getD k []) (o.getD k 0))) (k + 1) := by
  obtain ⟨h1, h2, h3, h4, h5⟩ := h
  rw [drop_cons hk 0, seqD, if_neg hn] at h4 h5
  have hd := ho.2 _ (getD_mem hk 0)
  have hl := nextD_len (d := o.getD k 0) h2
  have hok := nextD_ok h2 hd.1
  generalize hN : nextD v (rows.getD k []) (o.getD k 0) = N at *
  have e : (rows ++ [N]).getD (k + 1) [] = N := by rw [← h1]; exact getD_append_len _ _ _
  refine ⟨by simp [h1], by rw [e]; exact hok, ?_, by rw [e]; simpa using h4, ?_⟩
  · rw [e, Nat.pow_succ]; omega
  · rw [e]; simpa [Bool.and_assoc] using h5
def c_impl_ordersOf : Con where
  ins := [(true, .v tRoll)]
  outs := [(false, .v (.sl tSI))]
  sh := false
  pre := fun _ => True
  out := fun x => (ordersD x.1, ())
  upd := fun x => x
  eat := false
theorem k_impl_ordersOf [B : Base] : ConOk Try.prog 83 c_impl_ordersOf := by
  refine fn_ok (C := cx Try.prog 29 c_impl_ordersOf) (cs := []) (res := Try.f83.results.toList) (fun _ => ⟨[], [], []⟩) Try.func83 (by kernel_rfl) rfl rfl rfl tysOk.look eqTsOk.look (AllCs.ok (l := []) trivial) mixed rfl rfl rfl rfl ?_
  refine @of_nf (∀ rA : Int, ∀ rB : Int, (True) → ((lensI c_impl_ordersOf.ins ((rA, rB), ())) → (bsp (decide (rA = rB)) (@Eq (HO c_impl_ordersOf.outs) ([[rA, rA, rA, rA]], ()) (c_impl_ordersOf.out ((rA, rB), ()))) (@Eq (HO c_impl_ordersOf.outs) ([[rA, rB], [rB, rA]], ()) (c_impl_ordersOf.out ((rA, rB), ())))))) _ (by kernel_rfl) ?_
  rintro rA rB hp hl
  refine bspD (fun h => ?_) (fun h => ?_) <;> simp [c_impl_ordersOf, ordersD, h]
def c_spec_l05Orders : Con where
  ins := [(true, .v tRoll)]
  outs := [(false, .v (.sl tSI))]
  sh := false
  pre := fun _ => True
  out := fun x => (ordersD x.1, ())
  upd := fun x => x
  eat := false
theorem k_spec_l05Orders [B : Base] : ConOk Try.prog 50 c_spec_l05Orders := by
  refine fn_ok (C := cx Try.prog 29 c_spec_l05Orders) (cs := []) (res := Try.f50.results.toList) (fun _ => ⟨[], [], []⟩) Try.func50 (by kernel_rfl) rfl rfl rfl tysOk.look eqTsOk.look (AllCs.ok (l := []) trivial) mixed rfl rfl rfl rfl ?_
  refine @of_nf (∀ rA : Int, ∀ rB : Int, (True) → ((lensI c_spec_l05Orders.ins ((rA, rB), ())) → (bsp (decide (rA = rB)) (@Eq (HO c_spec_l05Orders.outs) ([[rA, rA, rA, rA]], ()) (c_spec_l05Orders.out ((rA, rB), ()))) (@Eq (HO c_spec_l05Orders.outs) ([[rA, rB], [rB, rA]], ()) (c_spec_l05Orders.out ((rA, rB), ())))))) _ (by kernel_rfl) ?_
  rintro rA rB hp hl
  refine bspD (fun h => ?_) (fun h => ?_) <;> simp [c_spec_l05Orders, ordersD, h]
def c_impl_sequencesOf : Con where
  ins := [(true, .v tVar), (true, .v tBoard), (false, .v tSI)]
  outs := [(false, .v (.sl (.sl tPlay))), (false, .v .b)]
  sh := false
  pre := fun x => okB x.1 x.2.1 ∧ DiceOk x.2.2.1
  out := fun x => (rowsD x.1 x.2.1 x.2.2.1, fitsP x.1 x.2.1 x.2.2.1, ())
  upd := fun x => x
  eat := false
theorem k_impl_sequencesOf [B : Base] : ConOk Try.prog 84 c_impl_sequencesOf := by
  refine fn_okW (C := cx Try.prog 49 c_impl_sequencesOf) (cs := [(57, c_impl_cloneBoard), (95, c_impl_goOn)]) (res := Try.f84.results.toList) (fun x => ⟨[{ sh := ⟨[(3, .one (.ref 0)), (8, .one (.ref 1)), (9, .one .b), (18, .one (.ref 2)), (19, .one (.i .i64)), (20, .one (.i .i64))], [(0, .box [.i .i64, .i .i64, .i .i64, .i .i64]), (1, .own 30 (.sl tPlay) true), (2, .imm tI false)]⟩, nx := 3, I := fun _ dat_ => ((x.2.2.1.length : Int) = dat_.1.2.2.2.2.1 ∧ x.1.1 = dat_.2.1.1 ∧ x.1.2.1 = dat_.2.1.2.1 ∧ x.1.2.2.1 = dat_.2.1.2.2.1 ∧ x.1.2.2.2 = dat_.2.1.2.2.2.1 ∧ x.2.2.1 = dat_.2.2.2.1) ∧ (RowsInv x.1 x.2.1 x.2.2.1 dat_.2.2.1 dat_.1.2.2.1 (Int.toNat dat_.1.2.2.2.2.2.1) ∧ 0 ≤ dat_.1.2.2.2.2.2.1 ∧ dat_.1.2.2.2.2.2.1 ≤ (List.length x.2.2.1 : Int)), mu := fun dat_ => Int.toNat ((List.length x.2.2.1 : Int) - dat_.1.2.2.2.2.2.1) }], [(6, ⟨[[], [], [], [2], [2, 3], [1, 2, 3, 4], [1, 2, 3, 4, 5], [], [0, 1, 2, 3, 4, 5, 6, 7], [0, 1, 2, 3, 4, 5, 6, 7, 8]], [[1, 2, 3, 4, 5, 6, 7], [0, 2, 3, 4, 7], [0, 1, 7], [0, 1, 7], [0, 1, 7], [0, 7], [0, 7], [0, 1, 2, 3, 4, 5, 6], [], []], []⟩)], []⟩) Try.func84 (by kernel_rfl) rfl rfl rfl tysOk.look eqTsOk.look (AllCs.ok (l := [(57, c_impl_cloneBoard), (95, c_impl_goOn)]) ⟨k_impl_cloneBoard, k_impl_goOn, trivial⟩) mixed rfl rfl rfl rfl ?_
  refine of_nf (P := ∀ v : Int × Int × Int × Int, ∀ b : (List Int) × List Int, ∀ o : List Int, (okB v b ∧ DiceOk o) → ((lensI c_impl_sequencesOf.ins (v, b, o, ())) → ((NeB b) ∧ ((((o.length : Int) = (o.length : Int) ∧ v.1 = v.1 ∧ v.2.1 = v.2.1 ∧ v.2.2.1 = v.2.2.1 ∧ v.2.2.2 = v.2.2.2 ∧ o = o) ∧ (RowsInv v b o [[([], b)]] true (Int.toNat (0 : Int)) ∧ 0 ≤ (0 : Int) ∧ (0 : Int) ≤ (List.length o : Int))) ∧ (∀ fits : Bool, ∀ n : Int, ∀ i : Int, ∀ t3_0 : Int, ∀ t3_1 : Int, ∀ t3_2 : Int, ∀ t3_3 : Int, ∀ rows : List (List ((List (Int × Int × Int × Bool)) × (List Int) × List Int)), ∀ t18 : List Int, (((o.length : Int) = n ∧ v.1 = t3_0 ∧ v.2.1 = t3_1 ∧ v.2.2.1 = t3_2 ∧ v.2.2.2 = t3_3 ∧ o = t18) ∧ (RowsInv v b o rows fits (Int.toNat i) ∧ 0 ≤ i ∧ i ≤ (List.length o : Int))) → (bsp (decide (i < n)) ((0 ≤ i ∧ i < (t18.length : Int)) ∧ ((i.toNat < t18.length) ∧ ((inK .i64 ((rows.length : Int) - 1)) ∧ ((0 ≤ ((rows.length : Int) - 1) ∧ ((rows.length : Int) - 1) < (rows.length : Int)) ∧ ((((rows.length : Int) - 1).toNat < rows.length) ∧ ((PsOk (t3_0, t3_1, t3_2, t3_3) 4 (rows.getD ((rows.length : Int) - 1).toNat []) ∧ (1 ≤ (t18.getD i.toNat 0) ∧ (t18.getD i.toNat 0) ≤ 6) ∧ List.length (rows.getD ((rows.length : Int) - 1).toNat []) ≤ 1048576) ∧ (bsp (decide (((nextD (t3_0, t3_1, t3_2, t3_3) (rows.getD ((rows.length : Int) - 1).toNat []) (t18.getD i.toNat 0)).length : Int) = (0 : Int))) (@Eq (HO c_impl_sequencesOf.outs) (rows, fits, ()) (c_impl_sequencesOf.out (v, b, o, ()))) (bsp fits ((rows.length + ([nextD (t3_0, t3_1, t3_2, t3_3) (rows.getD ((rows.length : Int) - 1).toNat []) (t18.getD i.toNat 0)] : List (List ((List (Int × Int × Int × Bool)) × (List Int) × List Int))).length ≤ AB) ∧ ((inK .i64 (i + 1)) ∧ ((((o.length : Int) = n ∧ v.1 = t3_0 ∧ v.2.1 = t3_1 ∧ v.2.2.1 = t3_2 ∧ v.2.2.2 = t3_3 ∧ o = t18) ∧ (RowsInv v b o (rows ++ [nextD (t3_0, t3_1, t3_2, t3_3) (rows.getD ((rows.length : Int) - 1).toNat []) (t18.getD i.toNat 0)]) (decide (((nextD (t3_0, t3_1, t3_2, t3_3) (rows.getD ((rows.length : Int) - 1).toNat []) (t18.getD i.toNat 0)).length : Int) ≤ (3000 : Int))) (Int.toNat (i + 1)) ∧ 0 ≤ (i + 1) ∧ (i + 1) ≤ (List.length o : Int))) ∧ ((Int.toNat ((List.length o : Int) - (i + 1)) : Nat) < Int.toNat ((List.length o : Int) - i))))) ((rows.length + ([nextD (t3_0, t3_1, t3_2, t3_3) (rows.getD ((rows.length : Int) - 1).toNat []) (t18.getD i.toNat 0)] : List (List ((List (Int × Int × Int × Bool)) × (List Int) × List Int))).length ≤ AB) ∧ ((inK .i64 (i + 1)) ∧ ((((o.length : Int) = n ∧ v.1 = t3_0 ∧ v.2.1 = t3_1 ∧ v.2.2.1 = t3_2 ∧ v.2.2.2 = t3_3 ∧ o = t18) ∧ (RowsInv v b o (rows ++ [nextD (t3_0, t3_1, t3_2, t3_3) (rows.getD ((rows.length : Int) - 1).toNat []) (t18.getD i.toNat 0)]) false (Int.toNat (i + 1)) ∧ 0 ≤ (i + 1) ∧ (i + 1) ≤ (List.length o : Int))) ∧ ((Int.toNat ((List.length o : Int) - (i + 1)) : Nat) < Int.toNat ((List.length o : Int) - i))))))))))))) (@Eq (HO c_impl_sequencesOf.outs) (rows, fits, ()) (c_impl_sequencesOf.out (v, b, o, ()))))))))) (by kernel_rfl) ?_
  rintro v b o ⟨hb, ho⟩ hl
  have hF := hb.facts
  have hne : NeB b := ⟨⟨fun e => by have := hF.2.2.1; rw [e] at this; simp at this; omega, by omega⟩, fun e => by have := hF.2.2.2.1; rw [e] at this; simp at this; omega, by omega⟩
  have hol := ho.1
  refine ⟨hne, ⟨(by first | trivial | rfl | (and_intros <;> rfl)), RowsInv.zero o hb, by omega, by omega⟩, ?_⟩
  rintro fits n i t3_0 t3_1 t3_2 t3_3 rows t18 ⟨⟨rfl, rfl, rfl, rfl, rfl, rfl⟩, ⟨hI, i0, i1⟩⟩
  simp only [Prod.eta]
  refine bspD (fun hlt => ?_) (fun hge => ?_)
  · obtain ⟨k, rfl⟩ : ∃ k : Nat, i = k := ⟨i.toNat, by omega⟩
    simp only [Int.toNat_natCast] at hI ⊢
    have hk : k < o.length := by omega
    have h1 := hI.1
    have h2 := hI.2.1
    have h3 := hI.2.2.1
    have hp := pow25 (k := k) (by omega)
    have hd := ho.2 _ (getD_mem hk 0)
    have e1 : ((rows.length : Int) - 1).toNat = k := by omega
    rw [e1]
    refine ⟨⟨by omega, by omega⟩, hk, by simp only [inK]; omega, ⟨by omega, by omega⟩, by omega, ⟨h2.mono (by omega), hd, by omega⟩, bspD (fun hz => ?_) (fun hnz => ?_)⟩
    · have hn : nextD v (rows.getD k []) (o.getD k 0) = [] := by rw [← List.length_eq_zero_iff]; omega
      obtain ⟨e2, e3⟩ := hI.stop hk hn
      rw [e2, e3]; rfl
    · have hn : nextD v (rows.getD k []) (o.getD k 0) ≠ [] := fun e => hnz (by rw [e]; rfl)
      have hS := hI.step ho hk hn
      refine bspB (fun hf => ?_) (fun hf => ?_)
      all_goals
        rw [hf] at hS
        refine ⟨by simp [AB]; omega, by simp only [inK]; omega, ⟨(by first | trivial | rfl | (and_intros <;> rfl)), ?_, by omega, by omega⟩, by omega⟩
        rw [show ((k : Int) + 1).toNat = k + 1 by omega]
        simpa [fewB] using hS
  · obtain ⟨e2, e3⟩ := hI.done (by omega)
    rw [e2, e3]; rfl
theorem rowsD_len (v : DVar) (b : DBoard) {o : List Int} (h : DiceOk o) : 1 ≤ (rowsD v b o).length ∧ (rowsD v b o).length ≤ 5 := by
  have := seqD_len v (startP b) o
  have := h.1
  simp only [rowsD, List.length_cons]; omega
theorem take_map_succ {α β : Type} (f : α → β) {l : List α} {k : Nat} (h : k < l.length) (d : α) : (l.take (k + 1)).map f = (l.take k).map f ++ [f (l.getD k d)] := by
  rw [take_succ_getD h d]; simp
theorem take_all_succ {α : Type} (f : α → Bool) {l : List α} {k : Nat} (h : k < l.length) (d : α) : (l.take (k + 1)).all f = ((l.take k).all f && f (l.getD k d)) := by
  rw [take_succ_getD h d]; simp
theorem take_fold_succ {α β : Type} (f : β → α → β) (z : β) {l : List α} {k : Nat} (h : k < l.length) (d : α) : (l.take (k + 1)).foldl f z = f ((l.take k).foldl f z) (l.getD k d) := by
  rw [take_succ_getD h d]; simp
def c_impl_sequences : Con where
  ins := [(true, .v tVar), (true, .v tBoard), (true, .v tRoll)]
  outs := [(false, .v (.sl (.sl (.sl tPlay)))), (false, .v .b)]
  sh := false
  pre := fun x => okB x.1 x.2.1 ∧ rollD x.1 x.2.2.1 = true
  out := fun x => (List.map (rowsD x.1 x.2.1) (ordersD x.2.2.1), List.all (ordersD x.2.2.1) (fitsP x.1 x.2.1), ())
  upd := fun x => x
  eat := false
theorem k_impl_sequences [B : Base] : ConOk Try.prog 55 c_impl_sequences := by
  refine fn_okW (C := cx Try.prog 39 c_impl_sequences) (cs := [(83, c_impl_ordersOf), (84, c_impl_sequencesOf)]) (res := Try.f55.results.toList) (fun x => ⟨[{ sh := ⟨[(3, .one (.ref 0)), (4, .one (.ref 1)), (8, .one (.ref 2)), (9, .one .b), (15, .one (.ref 3)), (16, .one (.i .i64)), (17, .one (.i .i64))], [(0, .box [.i .i64, .i .i64, .i .i64, .i .i64]), (1, .box [.ref 4, .ref 5]), (2, .own 86 (.sl (.sl tPlay)) true), (3, .imm tSI true), (4, .imm tI false), (5, .imm tI false)]⟩, nx := 6, I := fun _ dat_ => (((ordersD x.2.2.1).length : Int) = dat_.1.2.2.2.2.2.1 ∧ x.1.1 = dat_.2.1.1 ∧ x.1.2.1 = dat_.2.1.2.1 ∧ x.1.2.2.1 = dat_.2.1.2.2.1 ∧ x.1.2.2.2 = dat_.2.1.2.2.2.1 ∧ ordersD x.2.2.1 = dat_.2.2.2.2.1 ∧ x.2.1.1 = dat_.2.2.2.2.2.1 ∧ x.2.1.2 = dat_.2.2.2.2.2.2.1) ∧ ((dat_.2.2.2.1 = List.map (rowsD x.1 x.2.1) (List.take (Int.toNat dat_.1.2.2.2.2.2.2.1) (ordersD x.2.2.1)) ∧ dat_.1.2.2.2.1 = List.all (List.take (Int.toNat dat_.1.2.2.2.2.2.2.1) (ordersD x.2.2.1)) (fitsP x.1 x.2.1)) ∧ 0 ≤ dat_.1.2.2.2.2.2.2.1 ∧ dat_.1.2.2.2.2.2.2.1 ≤ (List.length (ordersD x.2.2.1) : Int)), mu := fun dat_ => Int.toNat ((List.length (ordersD x.2.2.1) : Int) - dat_.1.2.2.2.2.2.2.1) }], [], []⟩) Try.func55 (by kernel_rfl) rfl rfl rfl tysOk.look eqTsOk.look (AllCs.ok (l := [(83, c_impl_ordersOf), (84, c_impl_sequencesOf)]) ⟨k_impl_ordersOf, k_impl_sequencesOf, trivial⟩) mixed rfl rfl rfl rfl ?_
  refine of_nf (P := ∀ v : Int × Int × Int × Int, ∀ b : (List Int) × List Int, ∀ r : Int × Int, (okB v b ∧ rollD v r = true) → ((lensI c_impl_sequences.ins (v, b, r, ())) → (True ∧ (((((ordersD r).length : Int) = ((ordersD r).length : Int) ∧ v.1 = v.1 ∧ v.2.1 = v.2.1 ∧ v.2.2.1 = v.2.2.1 ∧ v.2.2.2 = v.2.2.2 ∧ ordersD r = (ordersD r) ∧ b.1 = b.1 ∧ b.2 = b.2) ∧ (([] = List.map (rowsD v b) (List.take (Int.toNat (0 : Int)) (ordersD r)) ∧ true = List.all (List.take (Int.toNat (0 : Int)) (ordersD r)) (fitsP v b)) ∧ 0 ≤ (0 : Int) ∧ (0 : Int) ≤ (List.length (ordersD r) : Int))) ∧ (∀ fits : Bool, ∀ n : Int, ∀ i : Int, ∀ t3_0 : Int, ∀ t3_1 : Int, ∀ t3_2 : Int, ∀ t3_3 : Int, ∀ all : List (List (List ((List (Int × Int × Int × Bool)) × (List Int) × List Int))), ∀ t15 : List (List Int), ∀ t4_0 : List Int, ∀ t4_1 : List Int, ((((ordersD r).length : Int) = n ∧ v.1 = t3_0 ∧ v.2.1 = t3_1 ∧ v.2.2.1 = t3_2 ∧ v.2.2.2 = t3_3 ∧ ordersD r = t15 ∧ b.1 = t4_0 ∧ b.2 = t4_1) ∧ ((all = List.map (rowsD v b) (List.take (Int.toNat i) (ordersD r)) ∧ fits = List.all (List.take (Int.toNat i) (ordersD r)) (fitsP v b)) ∧ 0 ≤ i ∧ i ≤ (List.length (ordersD r) : Int))) → (bsp (decide (i < n)) ((0 ≤ i ∧ i < (t15.length : Int)) ∧ ((i.toNat < t15.length) ∧ ((okB (t3_0, t3_1, t3_2, t3_3) (t4_0, t4_1) ∧ DiceOk (t15.getD i.toNat [])) ∧ ((all.length + ([rowsD (t3_0, t3_1, t3_2, t3_3) (t4_0, t4_1) (t15.getD i.toNat [])] : List (List (List ((List (Int × Int × Int × Bool)) × (List Int) × List Int)))).length ≤ AB) ∧ (bsp fits ((inK .i64 (i + 1)) ∧ (((((ordersD r).length : Int) = n ∧ v.1 = t3_0 ∧ v.2.1 = t3_1 ∧ v.2.2.1 = t3_2 ∧ v.2.2.2 = t3_3 ∧ ordersD r = t15 ∧ b.1 = t4_0 ∧ b.2 = t4_1) ∧ (((all ++ [rowsD (t3_0, t3_1, t3_2, t3_3) (t4_0, t4_1) (t15.getD i.toNat [])]) = List.map (rowsD v b) (List.take (Int.toNat (i + 1)) (ordersD r)) ∧ (fitsP (t3_0, t3_1, t3_2, t3_3) (t4_0, t4_1) (t15.getD i.toNat [])) = List.all (List.take (Int.toNat (i + 1)) (ordersD r)) (fitsP v b)) ∧ 0 ≤ (i + 1) ∧ (i + 1) ≤ (List.length (ordersD r) : Int))) ∧ ((Int.toNat ((List.length (ordersD r) : Int) - (i + 1)) : Nat) < Int.toNat ((List.length (ordersD r) : Int) - i)))) ((inK .i64 (i + 1)) ∧ (((((ordersD r).length : Int) = n ∧ v.1 = t3_0 ∧ v.2.1 = t3_1 ∧ v.2.2.1 = t3_2 ∧ v.2.2.2 = t3_3 ∧ ordersD r = t15 ∧ b.1 = t4_0 ∧ b.2 = t4_1) ∧ (((all ++ [rowsD (t3_0, t3_1, t3_2, t3_3) (t4_0, t4_1) (t15.getD i.toNat [])]) = List.map (rowsD v b) (List.take (Int.toNat (i + 1)) (ordersD r)) ∧ false = List.all (List.take (Int.toNat (i + 1)) (ordersD r)) (fitsP v b)) ∧ 0 ≤ (i + 1) ∧ (i + 1) ≤ (List.length (ordersD r) : Int))) ∧ ((Int.toNat ((List.length (ordersD r) : Int) - (i + 1)) : Nat) < Int.toNat ((List.length (ordersD r) : Int) - i))))))))) (@Eq (HO c_impl_sequences.outs) (all, fits, ()) (c_impl_sequences.out (v, b, r, ()))))))))) (by kernel_rfl) ?_
  rintro v b r ⟨hb, hr⟩ hl
  have ho := ordersD_ok hr
  have hol := ordersD_len r
  refine ⟨trivial, ⟨(by first | trivial | rfl | (and_intros <;> rfl)), ⟨by simp, by simp⟩, by omega, by omega⟩, ?_⟩
  rintro fits n i t3_0 t3_1 t3_2 t3_3 all t15 t4_0 t4_1 ⟨⟨rfl, rfl, rfl, rfl, rfl, rfl, rfl, rfl⟩, ⟨⟨hA, hf⟩, i0, i1⟩⟩
  simp only [Prod.eta]
  refine bspD (fun hlt => ?_) (fun hge => ?_)
  · obtain ⟨k, rfl⟩ : ∃ k : Nat, i = k := ⟨i.toNat, by omega⟩
    simp only [Int.toNat_natCast] at hA hf ⊢
    have hk : k < (ordersD r).length := by omega
    have hlen : all.length = k := by rw [hA]; simp; omega
    have t1 := take_map_succ (rowsD v b) hk []
    have t2 := take_all_succ (fitsP v b) hk []
    rw [← hA] at t1
    rw [← hf] at t2
    refine ⟨⟨by omega, by omega⟩, hk, ⟨hb, ho _ (getD_mem hk [])⟩, by simp [AB]; omega, bspB (fun hy => ?_) (fun hy => ?_)⟩
    all_goals
      rw [hy] at t2
      refine ⟨by simp only [inK]; omega, ⟨(by first | trivial | rfl | (and_intros <;> rfl)), ⟨?_, ?_⟩, by omega, by omega⟩, by omega⟩
    all_goals rw [show ((k : Int) + 1).toNat = k + 1 by omega]
    · rw [t1]
    · rw [t2]; simp
    · rw [t1]
    · rw [t2]; simp
  · have e : i.toNat = (ordersD r).length := by omega
    rw [e, List.take_length] at hA hf
    rw [hA, hf]; rfl
def RowsBd (rs : List (List (List DPlay))) : Prop := rs.length ≤ 1048576 ∧ ∀ r, r ∈ rs → r.length ≤ 1048576
def c_impl_used : Con where
  ins := [(false, .v (.sl (.sl (.sl tPlay))))]
  outs := [(false, .v tI)]
  sh := false
  pre := fun x => RowsBd x.1
  out := fun x => (usedL x.1, ())
  upd := fun x => x
  eat := false
theorem k_impl_used [B : Base] : ConOk Try.prog 56 c_impl_used := by
  refine fn_ok (C := cx Try.prog 19 c_impl_used) (cs := []) (res := Try.f56.results.toList) (fun x => ⟨[{ sh := ⟨[(3, .one (.i .i64)), (6, .one (.ref 0)), (7, .one (.i .i64)), (8, .one (.i .i64))], [(0, .imm (.sl (.sl tPlay)) false)]⟩, nx := 1, I := fun _ dat_ => ((x.1.length : Int) = dat_.1.2.2.1 ∧ x.1 = dat_.2.1) ∧ (dat_.1.1 = usedL (List.take (Int.toNat dat_.1.2.2.2.1) x.1) ∧ 0 ≤ dat_.1.2.2.2.1 ∧ dat_.1.2.2.2.1 ≤ (List.length x.1 : Int)), mu := fun dat_ => Int.toNat ((List.length x.1 : Int) - dat_.1.2.2.2.1) }], [], []⟩) Try.func56 (by kernel_rfl) rfl rfl rfl tysOk.look eqTsOk.look (AllCs.ok (l := []) trivial) mixed rfl rfl rfl rfl ?_
  refine @of_nf (∀ rs : List (List (List ((List (Int × Int × Int × Bool)) × (List Int) × List Int))), (RowsBd rs) → ((lensI c_impl_used.ins (rs, ())) → ((((rs.length : Int) = (rs.length : Int) ∧ rs = rs) ∧ ((0 : Int) = usedL (List.take (Int.toNat (0 : Int)) rs) ∧ 0 ≤ (0 : Int) ∧ (0 : Int) ≤ (List.length rs : Int))) ∧ (∀ m : Int, ∀ n : Int, ∀ i : Int, ∀ t6 : List (List (List ((List (Int × Int × Int × Bool)) × (List Int) × List Int))), (((rs.length : Int) = n ∧ rs = t6) ∧ (m = usedL (List.take (Int.toNat i) rs) ∧ 0 ≤ i ∧ i ≤ (List.length rs : Int))) → (bsp (decide (i < n)) ((0 ≤ i ∧ i < (t6.length : Int)) ∧ ((i.toNat < t6.length) ∧ ((inK .i64 (((t6.getD i.toNat []).length : Int) - 1)) ∧ ((inK .i64 (i + 1)) ∧ ((((rs.length : Int) = n ∧ rs = t6) ∧ ((max m (((t6.getD i.toNat []).length : Int) - 1)) = usedL (List.take (Int.toNat (i + 1)) rs) ∧ 0 ≤ (i + 1) ∧ (i + 1) ≤ (List.length rs : Int))) ∧ ((Int.toNat ((List.length rs : Int) - (i + 1)) : Nat) < Int.toNat ((List.length rs : Int) - i))))))) (@Eq (HO c_impl_used.outs) (m, ()) (c_impl_used.out (rs, ())))))))) _ (by kernel_rfl) ?_
  rintro rs ⟨h1, h2⟩ hl
  have bd : ∀ k, 0 ≤ usedL (rs.take k) ∧ usedL (rs.take k) ≤ 1048576 := by
    have gen : ∀ (l : List (List (List DPlay))) (m : Int), (∀ r, r ∈ l → r.length ≤ 1048576) → 0 ≤ m ∧ m ≤ 1048576 → 0 ≤ l.foldl (fun m r => max m ((r.length : Int) - 1)) m ∧ l.foldl (fun m r => max m ((r.length : Int) - 1)) m ≤ 1048576 := by
      intro l
      induction l with
      | nil => intro m _ h; exact h
      | cons r l ih =>
        intro m h hm
        have := h r (List.mem_cons_self ..)
        exact ih _ (fun q hq => h q (List.mem_cons_of_mem _ hq)) (by dsimp only; omega)
    intro k
    exact gen _ 0 (fun r hr => h2 r (List.mem_of_mem_take hr)) (by omega)
  refine ⟨⟨(by first | trivial | rfl | (and_intros <;> rfl)), by simp [usedL], by omega, by omega⟩, ?_⟩
  rintro m n i t6 ⟨⟨rfl, rfl⟩, ⟨hm, i0, i1⟩⟩
  refine bspD (fun hlt => ?_) (fun hge => ?_)
  · obtain ⟨k, rfl⟩ : ∃ k : Nat, i = k := ⟨i.toNat, by omega⟩
    simp only [Int.toNat_natCast] at hm ⊢
    have hk : k < rs.length := by omega
    have hq := h2 _ (getD_mem hk [])
    have t := take_fold_succ (fun (m : Int) (r : List (List DPlay)) => max m ((r.length : Int) - 1)) 0 hk []
    refine ⟨⟨by omega, by omega⟩, hk, by simp only [inK]; omega, by simp only [inK]; omega, ⟨(by first | trivial | rfl | (and_intros <;> rfl)), ?_, by omega, by omega⟩, by omega⟩
    rw [show ((k : Int) + 1).toNat = k + 1 by omega, usedL, t, hm]; rfl
  · rw [List.take_of_length_le (by omega)] at hm
    subst hm; rfl
def longD (v : DVar) (b : DBoard) (o : List Int) : List DPlay := lastD (startP b) (seqD v (startP b) o)
def LongInv (v : DVar) (b : DBoard) (o : List Int) (l : List DPlay) (fine : Bool) (k : Nat) : Prop :=
  PsOk v k l ∧ l.length ≤ 25 ^ k ∧ lastD l (seqD v l (o.drop k)) = longD v b o ∧ (k + (seqD v l (o.drop k)).length = (seqD v (startP b) o).length) ∧ (fine && (seqD v l (o.drop k)).all fewB) = fitsP v b o
theorem LongInv.zero {v : DVar} {b : DBoard} (o : List Int) (h : okB v b) : LongInv v b o (startP b) true 0 :=
  ⟨startP_ok h, by simp [startP], rfl, by simp, by simp [fitsP]⟩
theorem LongInv.stop {v : DVar} {b : DBoard} {o : List Int} {l : List DPlay} {fine : Bool} {k : Nat} (h : LongInv v b o l fine k) (hk : k < o.length) (hn : nextD v l (o.getD k 0) = []) : l = longD v b o ∧ (k : Int) = (seqD v (startP b) o).length ∧ fine = fitsP v b o := by
  obtain ⟨h1, h2, h3, h4, h5⟩ := h
  rw [drop_cons hk 0, seqD, if_pos hn] at h3 h4 h5
  exact ⟨h3, by simp at h4; omega, by simpa using h5⟩
theorem LongInv.done {v : DVar} {b : DBoard} {o : List Int} {l : List DPlay} {fine : Bool} {k : Nat} (h : LongInv v b o l fine k) (hk : o.length = k) : l = longD v b o ∧ (o.length : Int) = (seqD v (startP b) o).length ∧ fine = fitsP v b o := by
  obtain ⟨h1, h2, h3, h4, h5⟩ := h
  rw [List.drop_eq_nil_of_le (by omega), seqD] at h3 h4 h5
  exact ⟨h3, by simp at h4; omega, by simpa using h5⟩
theorem LongInv.step {v : DVar} {b : DBoard} {o : List Int} {l : List DPlay} {fine : Bool} {k : Nat} (h : LongInv v b o l fine k) (ho : DiceOk o) (hk : k < o.length) (hn : nextD v l (o.getD k 0) ≠ []) : LongInv v b o (nextD v l (o.getD k 0)) (fine && fewB (nextD v l (o.getD k 0))) (k + 1) := by
  obtain ⟨h1, h2, h3, h4, h5⟩ := h
  rw [drop_cons hk 0, seqD, if_neg hn] at h3 h4 h5
  have hd := ho.2 _ (getD_mem hk 0)
  have hl := nextD_len (d := o.getD k 0) h1
  have hok := nextD_ok h1 hd.1
  refine ⟨hok, by rw [Nat.pow_succ]; omega, h3, by rw [List.length_cons] at h4; omega, by simpa [Bool.and_assoc] using h5⟩
def c_spec_l05Longest : Con where
  ins := [(true, .v tVar), (true, .v tBoard), (false, .v tSI)]
  outs := [(false, .v (.sl tPlay)), (false, .v tI), (false, .v .b)]
  sh := false
  pre := fun x => okB x.1 x.2.1 ∧ DiceOk x.2.2.1
  out := fun x => (longD x.1 x.2.1 x.2.2.1, (List.length (seqD x.1 (startP x.2.1) x.2.2.1) : Int), fitsP x.1 x.2.1 x.2.2.1, ())
  upd := fun x => x
  eat := false
theorem k_spec_l05Longest [B : Base] : ConOk Try.prog 51 c_spec_l05Longest := by
  refine fn_okW (C := cx Try.prog 53 c_spec_l05Longest) (cs := [(67, c_spec_l02Own), (79, c_spec_l05Next)]) (res := Try.f51.results.toList) (fun x => ⟨[{ sh := ⟨[(2, .one (.ref 0)), (3, .one (.ref 1)), (9, .one (.ref 2)), (10, .one .b), (11, .one (.i .i64))], [(0, .imm tI false), (1, .box [.i .i64, .i .i64, .i .i64, .i .i64]), (2, .own 59 tPlay true)]⟩, nx := 3, I := fun _ dat_ => (x.2.2.1 = dat_.2.1 ∧ x.1.1 = dat_.2.2.1.1 ∧ x.1.2.1 = dat_.2.2.1.2.1 ∧ x.1.2.2.1 = dat_.2.2.1.2.2.1 ∧ x.1.2.2.2 = dat_.2.2.1.2.2.2.1) ∧ (LongInv x.1 x.2.1 x.2.2.1 dat_.2.2.2.1 dat_.1.2.2.2.1 (Int.toNat dat_.1.2.2.2.2.1) ∧ 0 ≤ dat_.1.2.2.2.2.1 ∧ dat_.1.2.2.2.2.1 ≤ (List.length x.2.2.1 : Int)), mu := fun dat_ => Int.toNat ((List.length x.2.2.1 : Int) - dat_.1.2.2.2.2.1) }], [(1, ⟨[[], [], [1], [1, 2], [], [4], [1, 2, 3, 4, 5], [1, 2, 3, 4, 5, 6], [0, 1, 2, 3, 4, 5, 6, 7], [0, 1, 2, 3, 4, 5, 6, 7, 8], [0, 1, 2, 3, 4, 5, 6, 7, 8, 9]], [[1, 2, 3, 4, 5, 6, 7], [0, 4, 5], [0, 4, 5], [0, 4, 5], [0, 1, 2, 3], [0, 1, 2, 3], [0], [0], [], [], []], []⟩), (6, ⟨[[], [], [], [], [2, 3], [2, 3, 4], [0, 1, 2, 3, 4, 5], [0, 1, 2, 3, 4, 5, 6]], [[1, 2, 3, 4, 5], [0, 2, 3, 4, 5], [0, 1, 3], [0, 1, 2], [0, 1], [0, 1], [], []], []⟩)], []⟩) Try.func51 (by kernel_rfl) rfl rfl rfl tysOk.look eqTsOk.look (AllCs.ok (l := [(67, c_spec_l02Own), (79, c_spec_l05Next)]) ⟨k_spec_l02Own, k_spec_l05Next, trivial⟩) mixed rfl rfl rfl rfl ?_
  refine of_nf (P := ∀ v : Int × Int × Int × Int, ∀ b : (List Int) × List Int, ∀ o : List Int, (okB v b ∧ DiceOk o) → ((lensI c_spec_l05Longest.ins (v, b, o, ())) → ((List.length b.1 ≤ 1099511627776) ∧ ((List.length b.2 ≤ 1099511627776) ∧ (((o = o ∧ v.1 = v.1 ∧ v.2.1 = v.2.1 ∧ v.2.2.1 = v.2.2.1 ∧ v.2.2.2 = v.2.2.2) ∧ (LongInv v b o [([], b)] true (Int.toNat (0 : Int)) ∧ 0 ≤ (0 : Int) ∧ (0 : Int) ≤ (List.length o : Int))) ∧ (∀ fine : Bool, ∀ i : Int, ∀ t2 : List Int, ∀ t3_0 : Int, ∀ t3_1 : Int, ∀ t3_2 : Int, ∀ t3_3 : Int, ∀ list : List ((List (Int × Int × Int × Bool)) × (List Int) × List Int), ((o = t2 ∧ v.1 = t3_0 ∧ v.2.1 = t3_1 ∧ v.2.2.1 = t3_2 ∧ v.2.2.2 = t3_3) ∧ (LongInv v b o list fine (Int.toNat i) ∧ 0 ≤ i ∧ i ≤ (List.length o : Int))) → (bsp (decide (i < (t2.length : Int))) ((0 ≤ i ∧ i < (t2.length : Int)) ∧ ((i.toNat < t2.length) ∧ ((PsOk (t3_0, t3_1, t3_2, t3_3) 4 list ∧ (1 ≤ (t2.getD i.toNat 0) ∧ (t2.getD i.toNat 0) ≤ 6) ∧ List.length list ≤ 1048576) ∧ (bsp fine (bsp (decide (((nextD (t3_0, t3_1, t3_2, t3_3) list (t2.getD i.toNat 0)).length : Int) = (0 : Int))) (@Eq (HO c_spec_l05Longest.outs) (list, i, (decide (((nextD (t3_0, t3_1, t3_2, t3_3) list (t2.getD i.toNat 0)).length : Int) ≤ (3000 : Int))), ()) (c_spec_l05Longest.out (v, b, o, ()))) ((inK .i64 (i + 1)) ∧ (((o = t2 ∧ v.1 = t3_0 ∧ v.2.1 = t3_1 ∧ v.2.2.1 = t3_2 ∧ v.2.2.2 = t3_3) ∧ (LongInv v b o (nextD (t3_0, t3_1, t3_2, t3_3) list (t2.getD i.toNat 0)) (decide (((nextD (t3_0, t3_1, t3_2, t3_3) list (t2.getD i.toNat 0)).length : Int) ≤ (3000 : Int))) (Int.toNat (i + 1)) ∧ 0 ≤ (i + 1) ∧ (i + 1) ≤ (List.length o : Int))) ∧ ((Int.toNat ((List.length o : Int) - (i + 1)) : Nat) < Int.toNat ((List.length o : Int) - i))))) (bsp (decide (((nextD (t3_0, t3_1, t3_2, t3_3) list (t2.getD i.toNat 0)).length : Int) = (0 : Int))) (@Eq (HO c_spec_l05Longest.outs) (list, i, false, ()) (c_spec_l05Longest.out (v, b, o, ()))) ((inK .i64 (i + 1)) ∧ (((o = t2 ∧ v.1 = t3_0 ∧ v.2.1 = t3_1 ∧ v.2.2.1 = t3_2 ∧ v.2.2.2 = t3_3) ∧ (LongInv v b o (nextD (t3_0, t3_1, t3_2, t3_3) list (t2.getD i.toNat 0)) false (Int.toNat (i + 1)) ∧ 0 ≤ (i + 1) ∧ (i + 1) ≤ (List.length o : Int))) ∧ ((Int.toNat ((List.length o : Int) - (i + 1)) : Nat) < Int.toNat ((List.length o : Int) - i))))))))) (@Eq (HO c_spec_l05Longest.outs) (list, (t2.length : Int), fine, ()) (c_spec_l05Longest.out (v, b, o, ())))))))))) (by kernel_rfl) ?_
  rintro v b o ⟨hb, ho⟩ hl
  have hF := hb.facts
  have hol := ho.1
  refine ⟨by omega, by omega, ⟨(by first | trivial | rfl | (and_intros <;> rfl)), LongInv.zero o hb, by omega, by omega⟩, ?_⟩
  rintro fine i t2 t3_0 t3_1 t3_2 t3_3 list ⟨⟨rfl, rfl, rfl, rfl, rfl⟩, ⟨hI, i0, i1⟩⟩
  simp only [Prod.eta]
  refine bspD (fun hlt => ?_) (fun hge => ?_)
  · obtain ⟨k, rfl⟩ : ∃ k : Nat, i = k := ⟨i.toNat, by omega⟩
    simp only [Int.toNat_natCast] at hI ⊢
    have hk : k < o.length := by omega
    have h2 := hI.1
    have h3 := hI.2.1
    have hp := pow25 (k := k) (by omega)
    have hd := ho.2 _ (getD_mem hk 0)
    refine ⟨⟨by omega, by omega⟩, hk, ⟨h2.mono (by omega), hd, by omega⟩, bspB (fun hf => bspD (fun hz => ?_) (fun hnz => ?_)) (fun hf => bspD (fun hz => ?_) (fun hnz => ?_))⟩
    · have hn : nextD v list (o.getD k 0) = [] := by rw [← List.length_eq_zero_iff]; omega
      obtain ⟨e1, e2, e3⟩ := hI.stop hk hn
      have : decide (((nextD v list (o.getD k 0)).length : Int) ≤ 3000) = true := by rw [hn]; rfl
      rw [this, ← hf]
      simp only [c_spec_l05Longest, ← e1, e2, ← e3]
    · have hn : nextD v list (o.getD k 0) ≠ [] := fun e => hnz (by rw [e]; rfl)
      have hS := hI.step ho hk hn
      rw [hf] at hS
      refine ⟨by simp only [inK]; omega, ⟨(by first | trivial | rfl | (and_intros <;> rfl)), ?_, by omega, by omega⟩, by omega⟩
      rw [show ((k : Int) + 1).toNat = k + 1 by omega]
      simpa [fewB] using hS
    · have hn : nextD v list (o.getD k 0) = [] := by rw [← List.length_eq_zero_iff]; omega
      obtain ⟨e1, e2, e3⟩ := hI.stop hk hn
      rw [← hf]
      simp only [c_spec_l05Longest, ← e1, e2, ← e3]
    · have hn : nextD v list (o.getD k 0) ≠ [] := fun e => hnz (by rw [e]; rfl)
      have hS := hI.step ho hk hn
      rw [hf] at hS
      refine ⟨by simp only [inK]; omega, ⟨(by first | trivial | rfl | (and_intros <;> rfl)), ?_, by omega, by omega⟩, by omega⟩
      rw [show ((k : Int) + 1).toNat = k + 1 by omega]
      simpa [fewB] using hS
  · obtain ⟨e1, e2, e3⟩ := hI.done (by omega)
    simp only [c_spec_l05Longest, ← e1, e2, ← e3]
def c_spec_l05Used : Con where
  ins := [(true, .v tVar), (true, .v tBoard), (true, .v tRoll)]
  outs := [(false, .v tI)]
  sh := false
  pre := fun x => okB x.1 x.2.1 ∧ rollD x.1 x.2.2.1 = true
  out := fun x => (usedD x.1 x.2.1 x.2.2.1, ())
  upd := fun x => x
  eat := false
theorem k_spec_l05Used [B : Base] : ConOk Try.prog 49 c_spec_l05Used := by
  refine fn_okW (C := cx Try.prog 36 c_spec_l05Used) (cs := [(50, c_spec_l05Orders), (51, c_spec_l05Longest)]) (res := Try.f49.results.toList) (fun x => ⟨[{ sh := ⟨[(3, .one (.ref 0)), (4, .one (.ref 1)), (7, .one (.i .i64)), (8, .one (.ref 2)), (9, .one (.i .i64))], [(0, .box [.i .i64, .i .i64, .i .i64, .i .i64]), (1, .box [.ref 3, .ref 4]), (2, .imm tSI true), (3, .imm tI false), (4, .imm tI false)]⟩, nx := 5, I := fun _ dat_ => (x.1.1 = dat_.2.1.1 ∧ x.1.2.1 = dat_.2.1.2.1 ∧ x.1.2.2.1 = dat_.2.1.2.2.1 ∧ x.1.2.2.2 = dat_.2.1.2.2.2.1 ∧ ordersD x.2.2.1 = dat_.2.2.2.1 ∧ x.2.1.1 = dat_.2.2.2.2.1 ∧ x.2.1.2 = dat_.2.2.2.2.2.1) ∧ (dat_.1.2.2.1 = usedL (List.map (rowsD x.1 x.2.1) (List.take (Int.toNat dat_.1.2.2.2.2.1) (ordersD x.2.2.1))) ∧ 0 ≤ dat_.1.2.2.2.2.1 ∧ dat_.1.2.2.2.2.1 ≤ (List.length (ordersD x.2.2.1) : Int)), mu := fun dat_ => Int.toNat ((List.length (ordersD x.2.2.1) : Int) - dat_.1.2.2.2.2.1) }], [(6, ⟨[[], [], [], [], [2, 3], [2, 3, 4], [0, 1, 2, 3, 4, 5], [0, 1, 2, 3, 4, 5, 6], [0, 1, 2, 3, 4, 5, 6, 7], [0, 1, 2, 3, 4, 5, 6, 7], [0, 1, 2, 3, 4, 5, 6, 7], [0, 1, 2, 3, 4, 5, 6, 7, 8], [0, 1, 2, 3, 4, 5, 6, 7, 8, 9, 11], [0, 1, 2, 3, 4, 5, 6, 7, 8, 9, 10, 11, 12]], [[1, 2, 3, 4, 5], [0, 2, 3, 4, 5], [0, 1, 3], [0, 1, 2], [0, 1], [0, 1], [], [], [9, 10], [8, 10, 11], [8, 9, 11, 12], [9, 10], [10], []], []⟩)], []⟩) Try.func49 (by kernel_rfl) rfl rfl rfl tysOk.look eqTsOk.look (AllCs.ok (l := [(50, c_spec_l05Orders), (51, c_spec_l05Longest)]) ⟨k_spec_l05Orders, k_spec_l05Longest, trivial⟩) mixed rfl rfl rfl rfl ?_
  refine of_nf (P := ∀ v : Int × Int × Int × Int, ∀ b : (List Int) × List Int, ∀ r : Int × Int, (okB v b ∧ rollD v r = true) → ((lensI c_spec_l05Used.ins (v, b, r, ())) → (True ∧ (((v.1 = v.1 ∧ v.2.1 = v.2.1 ∧ v.2.2.1 = v.2.2.1 ∧ v.2.2.2 = v.2.2.2 ∧ ordersD r = (ordersD r) ∧ b.1 = b.1 ∧ b.2 = b.2) ∧ ((0 : Int) = usedL (List.map (rowsD v b) (List.take (Int.toNat (0 : Int)) (ordersD r))) ∧ 0 ≤ (0 : Int) ∧ (0 : Int) ≤ (List.length (ordersD r) : Int))) ∧ (∀ m : Int, ∀ i : Int, ∀ t3_0 : Int, ∀ t3_1 : Int, ∀ t3_2 : Int, ∀ t3_3 : Int, ∀ orders : List (List Int), ∀ t4_0 : List Int, ∀ t4_1 : List Int, ((v.1 = t3_0 ∧ v.2.1 = t3_1 ∧ v.2.2.1 = t3_2 ∧ v.2.2.2 = t3_3 ∧ ordersD r = orders ∧ b.1 = t4_0 ∧ b.2 = t4_1) ∧ (m = usedL (List.map (rowsD v b) (List.take (Int.toNat i) (ordersD r))) ∧ 0 ≤ i ∧ i ≤ (List.length (ordersD r) : Int))) → (bsp (decide (i < (orders.length : Int))) ((0 ≤ i ∧ i < (orders.length : Int)) ∧ ((i.toNat < orders.length) ∧ ((okB (t3_0, t3_1, t3_2, t3_3) (t4_0, t4_1) ∧ DiceOk (orders.getD i.toNat [])) ∧ ((inK .i64 (i + 1)) ∧ (((v.1 = t3_0 ∧ v.2.1 = t3_1 ∧ v.2.2.1 = t3_2 ∧ v.2.2.2 = t3_3 ∧ ordersD r = orders ∧ b.1 = t4_0 ∧ b.2 = t4_1) ∧ ((max m (List.length (seqD (t3_0, t3_1, t3_2, t3_3) (startP (t4_0, t4_1)) (orders.getD i.toNat [])) : Int)) = usedL (List.map (rowsD v b) (List.take (Int.toNat (i + 1)) (ordersD r))) ∧ 0 ≤ (i + 1) ∧ (i + 1) ≤ (List.length (ordersD r) : Int))) ∧ ((Int.toNat ((List.length (ordersD r) : Int) - (i + 1)) : Nat) < Int.toNat ((List.length (ordersD r) : Int) - i))))))) (@Eq (HO c_spec_l05Used.outs) (m, ()) (c_spec_l05Used.out (v, b, r, ()))))))))) (by kernel_rfl) ?_
  rintro v b r ⟨hb, hr⟩ hl
  have ho := ordersD_ok hr
  have hol := ordersD_len r
  refine ⟨trivial, ⟨(by first | trivial | rfl | (and_intros <;> rfl)), by simp [usedL], by omega, by omega⟩, ?_⟩
  rintro m i t3_0 t3_1 t3_2 t3_3 orders t4_0 t4_1 ⟨⟨rfl, rfl, rfl, rfl, rfl, rfl, rfl⟩, ⟨hm, i0, i1⟩⟩
  simp only [Prod.eta]
  refine bspD (fun hlt => ?_) (fun hge => ?_)
  · obtain ⟨k, rfl⟩ : ∃ k : Nat, i = k := ⟨i.toNat, by omega⟩
    simp only [Int.toNat_natCast] at hm ⊢
    have hk : k < (ordersD r).length := by omega
    have t := take_map_succ (rowsD v b) hk []
    refine ⟨⟨by omega, by omega⟩, hk, ⟨hb, ho _ (getD_mem hk [])⟩, by simp only [inK]; omega, ⟨(by first | trivial | rfl | (and_intros <;> rfl)), ?_, by omega, by omega⟩, by omega⟩
    rw [show ((k : Int) + 1).toNat = k + 1 by omega, t, hm]
    simp only [usedL, List.foldl_append, List.foldl_cons, List.foldl_nil, rowsD, List.length_cons]
    congr 1; omega
  · rw [List.take_of_length_le (by omega)] at hm
    subst hm; rfl
def codeD (v : DVar) (b : DBoard) (r : DRoll) : Int := if boardD v b = false then 1 else if rollD v r = false then 2 else 0
theorem codeD_ok {v : DVar} {b : DBoard} {r : DRoll} (h : codeD v b r = 0) : okB v b ∧ rollD v r = true := by
  unfold codeD at h
  cases h1 : boardD v b <;> cases h2 : rollD v r <;> simp [h1, h2] at h
  exact ⟨okB_of h1, rfl⟩
def diceUsedD (v : DVar) (b : DBoard) (r : DRoll) : Int × Int := if codeD v b r ≠ 0 then (0, codeD v b r) else (usedD v b r, 0)
theorem usedL_bd {rs : List (List (List DPlay))} {n : Nat} (h : ∀ r, r ∈ rs → r.length ≤ n + 1) : 0 ≤ usedL rs ∧ usedL rs ≤ n := by
  have gen : ∀ (l : List (List (List DPlay))) (m : Int), (∀ r, r ∈ l → r.length ≤ n + 1) → 0 ≤ m ∧ m ≤ n → 0 ≤ l.foldl (fun m r => max m ((r.length : Int) - 1)) m ∧ l.foldl (fun m r => max m ((r.length : Int) - 1)) m ≤ n := by
    intro l
    induction l with
    | nil => intro m _ h; exact h
    | cons r l ih =>
      intro m h hm
      have := h r (List.mem_cons_self ..)
      exact ih _ (fun q hq => h q (List.mem_cons_of_mem _ hq)) (by dsimp only; omega)
  exact gen rs 0 h (by omega)
theorem rows_bd {v : DVar} {b : DBoard} {r : DRoll} (hr : rollD v r = true) : ∀ x, x ∈ (ordersD r).map (rowsD v b) → x.length ≤ 5 := by
  intro x hx
  obtain ⟨o, ho, rfl⟩ := List.mem_map.1 hx
  exact (rowsD_len v b (ordersD_ok hr o ho)).2
theorem usedD_bd {v : DVar} {b : DBoard} {r : DRoll} (hr : rollD v r = true) : 0 ≤ usedD v b r ∧ usedD v b r ≤ 4 := usedL_bd (n := 4) (rows_bd hr)
def c_impl_checkRoll : Con where
  ins := [(true, .v tVar), (true, .v tBoard), (true, .v tRoll)]
  outs := [(false, .v tI)]
  sh := false
  pre := fun _ => True
  out := fun x => (codeD x.1 x.2.1 x.2.2.1, ())
  upd := fun x => x
  eat := false
theorem k_impl_checkRoll [B : Base] : ConOk Try.prog 25 c_impl_checkRoll := by
  refine fn_okW (C := cx Try.prog 15 c_impl_checkRoll) (cs := [(53, c_impl_IsBoard), (54, c_impl_IsRoll)]) (res := Try.f25.results.toList) (fun _ => ⟨[], [], []⟩) Try.func25 (by kernel_rfl) rfl rfl rfl tysOk.look eqTsOk.look (AllCs.ok (l := [(53, c_impl_IsBoard), (54, c_impl_IsRoll)]) ⟨k_impl_IsBoard, k_impl_IsRoll, trivial⟩) mixed rfl rfl rfl rfl ?_
  refine of_nf (P := ∀ v : Int × Int × Int × Int, ∀ b : (List Int) × List Int, ∀ r : Int × Int, (True) → ((lensI c_impl_checkRoll.ins (v, b, r, ())) → (True ∧ (bsp (!(boardD v b)) (@Eq (HO c_impl_checkRoll.outs) (1, ()) (c_impl_checkRoll.out (v, b, r, ()))) (True ∧ (bsp (!(rollD v r)) (@Eq (HO c_impl_checkRoll.outs) (2, ()) (c_impl_checkRoll.out (v, b, r, ()))) (@Eq (HO c_impl_checkRoll.outs) (0, ()) (c_impl_checkRoll.out (v, b, r, ()))))))))) (by kernel_rfl) ?_
  rintro v b r hp hl
  repeat' first
    | refine ⟨trivial, ?_⟩
    | refine bspB (fun _ => ?_) (fun _ => ?_)
    | fail
  all_goals simp_all [c_impl_checkRoll, codeD]
def c_spec_l05Code : Con where
  ins := [(true, .v tVar), (true, .v tBoard), (true, .v tRoll)]
  outs := [(false, .v tI)]
  sh := false
  pre := fun _ => True
  out := fun x => (codeD x.1 x.2.1 x.2.2.1, ())
  upd := fun x => x
  eat := false
theorem k_spec_l05Code [B : Base] : ConOk Try.prog 22 c_spec_l05Code := by
  refine fn_okW (C := cx Try.prog 15 c_spec_l05Code) (cs := [(47, c_spec_IsBoard), (48, c_spec_IsRoll)]) (res := Try.f22.results.toList) (fun _ => ⟨[], [], []⟩) Try.func22 (by kernel_rfl) rfl rfl rfl tysOk.look eqTsOk.look (AllCs.ok (l := [(47, c_spec_IsBoard), (48, c_spec_IsRoll)]) ⟨k_spec_IsBoard, k_spec_IsRoll, trivial⟩) mixed rfl rfl rfl rfl ?_
  refine of_nf (P := ∀ v : Int × Int × Int × Int, ∀ b : (List Int) × List Int, ∀ r : Int × Int, (True) → ((lensI c_spec_l05Code.ins (v, b, r, ())) → (True ∧ (bsp (!(boardD v b)) (@Eq (HO c_spec_l05Code.outs) (1, ()) (c_spec_l05Code.out (v, b, r, ()))) (True ∧ (bsp (!(rollD v r)) (@Eq (HO c_spec_l05Code.outs) (2, ()) (c_spec_l05Code.out (v, b, r, ()))) (@Eq (HO c_spec_l05Code.outs) (0, ()) (c_spec_l05Code.out (v, b, r, ()))))))))) (by kernel_rfl) ?_
  rintro v b r hp hl
  repeat' first
    | refine ⟨trivial, ?_⟩
    | refine bspB (fun _ => ?_) (fun _ => ?_)
    | fail
  all_goals simp_all [c_spec_l05Code, codeD]
end Go.Proofs.Ytgbfcjnkohhfoaa
