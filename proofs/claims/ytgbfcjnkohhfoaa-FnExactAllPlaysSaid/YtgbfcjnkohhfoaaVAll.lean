/-
  Contracts: all plays of a roll.
-/
import Derived.Test.YtgbfcjnkohhfoaaVDance
namespace Go.Proofs.Ytgbfcjnkohhfoaa
open Go.RowKit
set_option linter.unusedSimpArgs false
set_option linter.unusedVariables false
def seqN (v : DVar) (b : DBoard) (o : List Int) : Int := ((seqD v (startP b) o).length : Int)
/-- the orders that count: those of the greatest length, the first alone if one die is used -/
def selD (v : DVar) (b : DBoard) (n : Int) (l : List (List Int)) : List (List Int) :=
  if n = 1 then (l.filter fun o => decide (seqN v b o = n)).take 1 else l.filter fun o => decide (seqN v b o = n)
def allD (v : DVar) (b : DBoard) (r : DRoll) : List DPlay := ((selD v b (usedD v b r) (ordersD r)).flatMap (longD v b)).foldl addP []
theorem selD_cons_no {v : DVar} {b : DBoard} {n : Int} {o : List Int} {l : List (List Int)} (h : seqN v b o ≠ n) : selD v b n (o :: l) = selD v b n l := by
  simp [selD, h]
theorem selD_cons_one {v : DVar} {b : DBoard} {o : List Int} {l : List (List Int)} (h : seqN v b o = 1) : selD v b 1 (o :: l) = [o] := by
  simp [selD, h]
theorem selD_cons_yes {v : DVar} {b : DBoard} {n : Int} {o : List Int} {l : List (List Int)} (h : seqN v b o = n) (hn : n ≠ 1) : selD v b n (o :: l) = o :: selD v b n l := by
  simp [selD, h, hn]
theorem selD_nil (v : DVar) (b : DBoard) (n : Int) : selD v b n [] = [] := by simp [selD]
theorem last_ok {v : DVar} : ∀ {o : List Int} {l : List DPlay} {k : Nat}, (∀ d, d ∈ o → 1 ≤ d ∧ d ≤ 6) → PsOk v k l → l.length ≤ 25 ^ k → PsOk v (k + o.length) (lastD l (seqD v l o)) ∧ (lastD l (seqD v l o)).length ≤ 25 ^ (k + o.length)
  | [], l, k, _, h1, h2 => ⟨h1, h2⟩
  | d :: ds, l, k, ho, h1, h2 => by
    simp only [seqD]
    split
    · exact ⟨h1.mono (by omega), Nat.le_trans h2 (Nat.pow_le_pow_right (by omega) (by omega))⟩
    · have hd := ho d (List.mem_cons_self ..)
      have hl := nextD_len (d := d) h1
      have := last_ok (o := ds) (k := k + 1) (fun e he => ho e (List.mem_cons_of_mem _ he)) (nextD_ok h1 hd.1) (by rw [Nat.pow_succ]; omega)
      simp only [lastD, List.length_cons]
      rw [show k + (ds.length + 1) = k + 1 + ds.length by omega]; exact this
theorem longD_ok {v : DVar} {b : DBoard} {o : List Int} (hb : okB v b) (ho : DiceOk o) : PsOk v 4 (longD v b o) ∧ (longD v b o).length ≤ 390625 := by
  have := last_ok (v := v) (o := o) (k := 0) ho.2 (startP_ok hb) (by simp [startP])
  have h4 := ho.1
  exact ⟨this.1.mono (by omega), Nat.le_trans this.2 (pow25 (by omega))⟩
theorem last_getD (l : List DPlay) : ∀ (rs : List (List DPlay)), (l :: rs).getD rs.length [] = lastD l rs
  | [] => rfl
  | x :: rs => by
    have := last_getD x rs
    simpa [lastD] using this
theorem rows_last (v : DVar) (b : DBoard) (o : List Int) : (rowsD v b o).getD (seqN v b o).toNat [] = longD v b o := by
  simp only [seqN, Int.toNat_natCast, rowsD, longD]; exact last_getD _ _
theorem seqN_le {v : DVar} {b : DBoard} {r : DRoll} {o : List Int} (h : o ∈ ordersD r) : seqN v b o ≤ usedD v b r := by
  have gen : ∀ (l : List (List (List DPlay))) (m : Int), m ≤ l.foldl (fun m r => max m ((r.length : Int) - 1)) m ∧ ∀ x, x ∈ l → (x.length : Int) - 1 ≤ l.foldl (fun m r => max m ((r.length : Int) - 1)) m := by
    intro l
    induction l with
    | nil => intro m; simp
    | cons r l ih =>
      intro m
      obtain ⟨h1, h2⟩ := ih (max m ((r.length : Int) - 1))
      refine ⟨by simp only [List.foldl_cons]; omega, fun x hx => ?_⟩
      rcases List.mem_cons.1 hx with rfl | hx
      · simp only [List.foldl_cons]; omega
      · exact h2 x hx
  have := (gen _ 0).2 _ (List.mem_map_of_mem (f := rowsD v b) h)
  simp only [rowsD, List.length_cons] at this
  simp only [usedD, usedL, seqN]; omega
theorem addP_ne (out : List DPlay) (p : DPlay) : addP out p ≠ [] := by
  unfold addP
  split
  · next h => intro e; rw [e] at h; simp at h
  · simp
theorem foldl_addP_ne : ∀ {l : List DPlay}, l ≠ [] → l.foldl addP [] ≠ []
  | [], h => absurd rfl h
  | p :: l, _ => fun e => by
    have := (len_foldl_addP l (addP [] p)).1
    rw [show (p :: l).foldl addP [] = l.foldl addP (addP [] p) from rfl] at e
    rw [e] at this
    have h2 := addP_ne [] p
    have : (addP [] p).length = 0 := by simpa using this
    exact h2 (List.length_eq_zero_iff.1 this)
theorem last_ne {v : DVar} : ∀ {o : List Int} {l : List DPlay}, l ≠ [] → lastD l (seqD v l o) ≠ []
  | [], _, h => h
  | d :: ds, l, h => by
    simp only [seqD]
    split
    · exact h
    · next hn => exact last_ne hn
theorem longD_ne (v : DVar) (b : DBoard) (o : List Int) : longD v b o ≠ [] := last_ne (by simp [startP])
theorem selD_sub {v : DVar} {b : DBoard} {n : Int} {l : List (List Int)} : (∀ o, o ∈ selD v b n l → o ∈ l) ∧ (selD v b n l).length ≤ l.length := by
  unfold selD
  split
  · exact ⟨fun o h => (List.mem_filter.1 (List.mem_of_mem_take h)).1, by have := List.length_filter_le (fun o => decide (seqN v b o = n)) l; rw [List.length_take]; omega⟩
  · exact ⟨fun o h => (List.mem_filter.1 h).1, List.length_filter_le _ _⟩
theorem flat_long_len {v : DVar} {b : DBoard} : ∀ {l : List (List Int)}, (∀ o, o ∈ l → (longD v b o).length ≤ 390625) → (l.flatMap (longD v b)).length ≤ 390625 * l.length
  | [], _ => by simp
  | o :: l, h => by
    have := flat_long_len (v := v) (b := b) (l := l) fun x hx => h x (List.mem_cons_of_mem _ hx)
    have := h o (List.mem_cons_self ..)
    rw [List.flatMap_cons, List.length_append, List.length_cons]; omega
theorem allD_len {v : DVar} {b : DBoard} {r : DRoll} (hb : okB v b) (hr : rollD v r = true) : (allD v b r).length ≤ 781250 := by
  have h1 := (len_foldl_addP ((selD v b (usedD v b r) (ordersD r)).flatMap (longD v b)) []).2
  have h2 := selD_sub (v := v) (b := b) (n := usedD v b r) (l := ordersD r)
  have h3 := flat_long_len (v := v) (b := b) (l := selD v b (usedD v b r) (ordersD r)) fun o ho => (longD_ok hb (ordersD_ok hr o (h2.1 o ho))).2
  have h4 := ordersD_len r
  rw [List.length_nil] at h1
  unfold allD; omega
/-- nothing is used: the one play is none -/
theorem allD_zero {v : DVar} {b : DBoard} {r : DRoll} (h : usedD v b r = 0) : allD v b r = [([], b)] := by
  have hz : ∀ o, o ∈ ordersD r → seqN v b o = 0 := fun o ho => by
    have := seqN_le (v := v) (b := b) ho
    have : 0 ≤ seqN v b o := by unfold seqN; omega
    omega
  have hl : ∀ o, o ∈ ordersD r → longD v b o = [([], b)] := fun o ho => by
    have h1 := hz o ho
    simp only [seqN] at h1
    have h2 : seqD v (startP b) o = [] := List.length_eq_zero_iff.1 (by omega)
    unfold longD; rw [h2]; rfl
  have hs : selD v b 0 (ordersD r) = ordersD r := by
    unfold selD
    rw [if_neg (by decide), List.filter_eq_self]
    intro o ho; simp [hz o ho]
  unfold allD
  rw [h, hs]
  unfold ordersD at hl ⊢
  split
  · next e =>
    rw [if_pos e] at hl
    simp [hl, addP]
  · next e =>
    rw [if_neg e] at hl
    simp [hl, addP]
def c_impl_allPlays : Con where
  ins := [(true, .v tVar), (true, .v tBoard), (true, .v tRoll)]
  outs := [(false, .v (.sl tPlay)), (false, .v .b)]
  sh := false
  pre := fun x => okB x.1 x.2.1 ∧ rollD x.1 x.2.2.1 = true
  out := fun x => ((if List.all (ordersD x.2.2.1) (fitsP x.1 x.2.1) then allD x.1 x.2.1 x.2.2.1 else []), List.all (ordersD x.2.2.1) (fitsP x.1 x.2.1), ())
  upd := fun x => x
  eat := false
theorem k_impl_allPlays [B : Base] : ConOk Try.prog 26 c_impl_allPlays := by
  refine fn_okW (C := cx Try.prog 73 c_impl_allPlays) (cs := [(55, c_impl_sequences), (56, c_impl_used), (57, c_impl_cloneBoard), (58, c_impl_boardKey)]) (res := Try.f26.results.toList) (fun x => ⟨[{ sh := ⟨[(10, .one (.i .i64)), (11, .one (.ref 0)), (12, .one (.ref 1)), (36, .one (.ref 2)), (37, .one (.i .i64)), (38, .one (.i .i64))], [(0, .mp false .s .b), (1, .own 59 tPlay true), (2, .imm (.sl (.sl tPlay)) true)]⟩, nx := 3, I := fun _ dat_ => (usedL (List.map (rowsD x.1 x.2.1) (ordersD x.2.2.1)) = dat_.1.1 ∧ ((List.map (rowsD x.1 x.2.1) (ordersD x.2.2.1)).length : Int) = dat_.1.2.2.2.2.1 ∧ List.map (rowsD x.1 x.2.1) (ordersD x.2.2.1) = dat_.2.2.2.1) ∧ ((SeenOk x.1 dat_.2.1 dat_.2.2.1 ∧ List.foldl addP dat_.2.2.1 (List.flatMap (longD x.1 x.2.1) (selD x.1 x.2.1 (usedD x.1 x.2.1 x.2.2.1) (List.drop (Int.toNat dat_.1.2.2.2.2.2.1) (ordersD x.2.2.1)))) = allD x.1 x.2.1 x.2.2.1) ∧ 0 ≤ dat_.1.2.2.2.2.2.1 ∧ dat_.1.2.2.2.2.2.1 ≤ (List.length (ordersD x.2.2.1) : Int)), mu := fun dat_ => Int.toNat ((List.length (ordersD x.2.2.1) : Int) - dat_.1.2.2.2.2.2.1) }, { sh := ⟨[(10, .one (.i .i64)), (11, .one (.ref 0)), (12, .one (.ref 1)), (36, .one (.ref 2)), (37, .one (.i .i64)), (38, .one (.i .i64)), (49, .one (.ref 3)), (50, .one (.i .i64)), (51, .one (.i .i64))], [(0, .mp false .s .b), (1, .own 59 tPlay true), (2, .imm (.sl (.sl tPlay)) true), (3, .imm tPlay true)]⟩, nx := 4, I := fun g_ dat_ => ((usedL (List.map (rowsD x.1 x.2.1) (ordersD x.2.2.1))) = dat_.1.1 ∧ ((List.map (rowsD x.1 x.2.1) (ordersD x.2.2.1)).length : Int) = dat_.1.2.2.2.2.1 ∧ ((((List.map (rowsD x.1 x.2.1) (ordersD x.2.2.1)).getD dat_.1.2.2.2.2.2.1.toNat []).getD (usedL (List.map (rowsD x.1 x.2.1) (ordersD x.2.2.1))).toNat []).length : Int) = dat_.1.2.2.2.2.2.2.2.1 ∧ (List.map (rowsD x.1 x.2.1) (ordersD x.2.2.1)) = dat_.2.2.2.1 ∧ (((List.map (rowsD x.1 x.2.1) (ordersD x.2.2.1)).getD dat_.1.2.2.2.2.2.1.toNat []).getD (usedL (List.map (rowsD x.1 x.2.1) (ordersD x.2.2.1))).toNat []) = dat_.2.2.2.2.1) ∧ ((SeenOk x.1 dat_.2.1 dat_.2.2.1 ∧ List.foldl addP dat_.2.2.1 (List.drop (Int.toNat dat_.1.2.2.2.2.2.2.2.2.1) dat_.2.2.2.2.1 ++ (if usedD x.1 x.2.1 x.2.2.1 = 1 then [] else List.flatMap (longD x.1 x.2.1) (selD x.1 x.2.1 (usedD x.1 x.2.1 x.2.2.1) (List.drop (Int.toNat dat_.1.2.2.2.2.2.1 + 1) (ordersD x.2.2.1))))) = allD x.1 x.2.1 x.2.2.1) ∧ (0 ≤ dat_.1.2.2.2.2.2.1 ∧ dat_.1.2.2.2.2.2.1 < (List.length (ordersD x.2.2.1) : Int)) ∧ (0 ≤ dat_.1.2.2.2.2.2.2.2.2.1 ∧ dat_.1.2.2.2.2.2.2.2.2.1 ≤ dat_.1.2.2.2.2.2.2.2.1) ∧ (g_.headD 0) = Int.toNat ((List.length (ordersD x.2.2.1) : Int) - dat_.1.2.2.2.2.2.1)), mu := fun dat_ => Int.toNat (dat_.1.2.2.2.2.2.2.2.1 - dat_.1.2.2.2.2.2.2.2.2.1) }], [], []⟩) Try.func26 (by kernel_rfl) rfl rfl rfl tysOk.look eqTsOk.look (AllCs.ok (l := [(55, c_impl_sequences), (56, c_impl_used), (57, c_impl_cloneBoard), (58, c_impl_boardKey)]) ⟨k_impl_sequences, k_impl_used, k_impl_cloneBoard, k_impl_boardKey, trivial⟩) mixed rfl rfl rfl rfl ?_
  refine of_nf (P := ∀ v : Int × Int × Int × Int, ∀ b : (List Int) × List Int, ∀ r : Int × Int, (okB v b ∧ rollD v r = true) → ((lensI c_impl_allPlays.ins (v, b, r, ())) → ((okB v b ∧ rollD v r = true) ∧ (bsp (!(List.all (ordersD r) (fitsP v b))) (@Eq (HO c_impl_allPlays.outs) ([], false, ()) (c_impl_allPlays.out (v, b, r, ()))) ((RowsBd (List.map (rowsD v b) (ordersD r))) ∧ (bsp (decide ((usedL (List.map (rowsD v b) (ordersD r))) = (0 : Int))) ((NeB b) ∧ (@Eq (HO c_impl_allPlays.outs) ([([], b)], true, ()) (c_impl_allPlays.out (v, b, r, ())))) (((usedL (List.map (rowsD v b) (ordersD r)) = (usedL (List.map (rowsD v b) (ordersD r))) ∧ ((List.map (rowsD v b) (ordersD r)).length : Int) = ((List.map (rowsD v b) (ordersD r)).length : Int) ∧ List.map (rowsD v b) (ordersD r) = (List.map (rowsD v b) (ordersD r))) ∧ ((SeenOk v ([] : List (ByteArray × Bool)) [] ∧ List.foldl addP [] (List.flatMap (longD v b) (selD v b (usedD v b r) (List.drop (Int.toNat (0 : Int)) (ordersD r)))) = allD v b r) ∧ 0 ≤ (0 : Int) ∧ (0 : Int) ≤ (List.length (ordersD r) : Int))) ∧ (∀ n : Int, ∀ m : Int, ∀ i : Int, ∀ seen : List (ByteArray × Bool), ∀ out : List ((List (Int × Int × Int × Bool)) × (List Int) × List Int), ∀ rows : List (List (List ((List (Int × Int × Int × Bool)) × (List Int) × List Int))), ((usedL (List.map (rowsD v b) (ordersD r)) = n ∧ ((List.map (rowsD v b) (ordersD r)).length : Int) = m ∧ List.map (rowsD v b) (ordersD r) = rows) ∧ ((SeenOk v seen out ∧ List.foldl addP out (List.flatMap (longD v b) (selD v b (usedD v b r) (List.drop (Int.toNat i) (ordersD r)))) = allD v b r) ∧ 0 ≤ i ∧ i ≤ (List.length (ordersD r) : Int))) → (bsp (decide (i < m)) ((0 ≤ i ∧ i < (rows.length : Int)) ∧ ((i.toNat < rows.length) ∧ (bsp (decide (((rows.getD i.toNat []).length : Int) ≤ n)) ((inK .i64 (i + 1)) ∧ (((usedL (List.map (rowsD v b) (ordersD r)) = n ∧ ((List.map (rowsD v b) (ordersD r)).length : Int) = m ∧ List.map (rowsD v b) (ordersD r) = rows) ∧ ((SeenOk v seen out ∧ List.foldl addP out (List.flatMap (longD v b) (selD v b (usedD v b r) (List.drop (Int.toNat (i + 1)) (ordersD r)))) = allD v b r) ∧ 0 ≤ (i + 1) ∧ (i + 1) ≤ (List.length (ordersD r) : Int))) ∧ ((Int.toNat ((List.length (ordersD r) : Int) - (i + 1)) : Nat) < Int.toNat ((List.length (ordersD r) : Int) - i)))) ((0 ≤ n ∧ n < ((rows.getD i.toNat []).length : Int)) ∧ ((n.toNat < (rows.getD i.toNat []).length) ∧ ((((usedL (List.map (rowsD v b) (ordersD r))) = n ∧ ((List.map (rowsD v b) (ordersD r)).length : Int) = m ∧ ((((List.map (rowsD v b) (ordersD r)).getD i.toNat []).getD (usedL (List.map (rowsD v b) (ordersD r))).toNat []).length : Int) = (((rows.getD i.toNat []).getD n.toNat []).length : Int) ∧ (List.map (rowsD v b) (ordersD r)) = rows ∧ (((List.map (rowsD v b) (ordersD r)).getD i.toNat []).getD (usedL (List.map (rowsD v b) (ordersD r))).toNat []) = ((rows.getD i.toNat []).getD n.toNat [])) ∧ ((SeenOk v seen out ∧ List.foldl addP out (List.drop (Int.toNat (0 : Int)) ((rows.getD i.toNat []).getD n.toNat []) ++ (if usedD v b r = 1 then [] else List.flatMap (longD v b) (selD v b (usedD v b r) (List.drop (Int.toNat i + 1) (ordersD r))))) = allD v b r) ∧ (0 ≤ i ∧ i < (List.length (ordersD r) : Int)) ∧ (0 ≤ (0 : Int) ∧ (0 : Int) ≤ (((rows.getD i.toNat []).getD n.toNat []).length : Int)) ∧ (Int.toNat ((List.length (ordersD r) : Int) - i)) = Int.toNat ((List.length (ordersD r) : Int) - i))) ∧ (∀ n_1 : Int, ∀ m_1 : Int, ∀ i_1 : Int, ∀ q : Int, ∀ k : Int, ∀ seen_1 : List (ByteArray × Bool), ∀ out_1 : List ((List (Int × Int × Int × Bool)) × (List Int) × List Int), ∀ rows_1 : List (List (List ((List (Int × Int × Int × Bool)) × (List Int) × List Int))), ∀ ps : List ((List (Int × Int × Int × Bool)) × (List Int) × List Int), (((usedL (List.map (rowsD v b) (ordersD r))) = n_1 ∧ ((List.map (rowsD v b) (ordersD r)).length : Int) = m_1 ∧ ((((List.map (rowsD v b) (ordersD r)).getD i_1.toNat []).getD (usedL (List.map (rowsD v b) (ordersD r))).toNat []).length : Int) = q ∧ (List.map (rowsD v b) (ordersD r)) = rows_1 ∧ (((List.map (rowsD v b) (ordersD r)).getD i_1.toNat []).getD (usedL (List.map (rowsD v b) (ordersD r))).toNat []) = ps) ∧ ((SeenOk v seen_1 out_1 ∧ List.foldl addP out_1 (List.drop (Int.toNat k) ps ++ (if usedD v b r = 1 then [] else List.flatMap (longD v b) (selD v b (usedD v b r) (List.drop (Int.toNat i_1 + 1) (ordersD r))))) = allD v b r) ∧ (0 ≤ i_1 ∧ i_1 < (List.length (ordersD r) : Int)) ∧ (0 ≤ k ∧ k ≤ q) ∧ (Int.toNat ((List.length (ordersD r) : Int) - i)) = Int.toNat ((List.length (ordersD r) : Int) - i_1))) → (bsp (decide (k < q)) ((0 ≤ k ∧ k < (ps.length : Int)) ∧ ((k.toNat < ps.length) ∧ ((Bd (ps.getD k.toNat ([], [], [])).2.1 ∧ Bd (ps.getD k.toNat ([], [], [])).2.2 ∧ List.length (ps.getD k.toNat ([], [], [])).2.1 + List.length (ps.getD k.toNat ([], [], [])).2.2 ≤ 1099511627776) ∧ (bsp (!((mget .s (keyD (ps.getD k.toNat ([], [], [])).2) seen_1).getD false)) ((out_1.length + ([(ps.getD k.toNat ([], [], []))] : List ((List (Int × Int × Int × Bool)) × (List Int) × List Int)).length ≤ AB) ∧ ((inK .i64 (k + 1)) ∧ ((((usedL (List.map (rowsD v b) (ordersD r))) = n_1 ∧ ((List.map (rowsD v b) (ordersD r)).length : Int) = m_1 ∧ ((((List.map (rowsD v b) (ordersD r)).getD i_1.toNat []).getD (usedL (List.map (rowsD v b) (ordersD r))).toNat []).length : Int) = q ∧ (List.map (rowsD v b) (ordersD r)) = rows_1 ∧ (((List.map (rowsD v b) (ordersD r)).getD i_1.toNat []).getD (usedL (List.map (rowsD v b) (ordersD r))).toNat []) = ps) ∧ ((SeenOk v (mset .s (keyD (ps.getD k.toNat ([], [], [])).2) true seen_1) (out_1 ++ [(ps.getD k.toNat ([], [], []))]) ∧ List.foldl addP (out_1 ++ [(ps.getD k.toNat ([], [], []))]) (List.drop (Int.toNat (k + 1)) ps ++ (if usedD v b r = 1 then [] else List.flatMap (longD v b) (selD v b (usedD v b r) (List.drop (Int.toNat i_1 + 1) (ordersD r))))) = allD v b r) ∧ (0 ≤ i_1 ∧ i_1 < (List.length (ordersD r) : Int)) ∧ (0 ≤ (k + 1) ∧ (k + 1) ≤ q) ∧ (Int.toNat ((List.length (ordersD r) : Int) - i)) = Int.toNat ((List.length (ordersD r) : Int) - i_1))) ∧ ((Int.toNat (q - (k + 1)) : Nat) < Int.toNat (q - k))))) ((inK .i64 (k + 1)) ∧ ((((usedL (List.map (rowsD v b) (ordersD r))) = n_1 ∧ ((List.map (rowsD v b) (ordersD r)).length : Int) = m_1 ∧ ((((List.map (rowsD v b) (ordersD r)).getD i_1.toNat []).getD (usedL (List.map (rowsD v b) (ordersD r))).toNat []).length : Int) = q ∧ (List.map (rowsD v b) (ordersD r)) = rows_1 ∧ (((List.map (rowsD v b) (ordersD r)).getD i_1.toNat []).getD (usedL (List.map (rowsD v b) (ordersD r))).toNat []) = ps) ∧ ((SeenOk v seen_1 out_1 ∧ List.foldl addP out_1 (List.drop (Int.toNat (k + 1)) ps ++ (if usedD v b r = 1 then [] else List.flatMap (longD v b) (selD v b (usedD v b r) (List.drop (Int.toNat i_1 + 1) (ordersD r))))) = allD v b r) ∧ (0 ≤ i_1 ∧ i_1 < (List.length (ordersD r) : Int)) ∧ (0 ≤ (k + 1) ∧ (k + 1) ≤ q) ∧ (Int.toNat ((List.length (ordersD r) : Int) - i)) = Int.toNat ((List.length (ordersD r) : Int) - i_1))) ∧ ((Int.toNat (q - (k + 1)) : Nat) < Int.toNat (q - k)))))))) (bsp (decide (n_1 = (1 : Int))) (@Eq (HO c_impl_allPlays.outs) (out_1, true, ()) (c_impl_allPlays.out (v, b, r, ()))) ((inK .i64 (i_1 + 1)) ∧ (((usedL (List.map (rowsD v b) (ordersD r)) = n_1 ∧ ((List.map (rowsD v b) (ordersD r)).length : Int) = m_1 ∧ List.map (rowsD v b) (ordersD r) = rows_1) ∧ ((SeenOk v seen_1 out_1 ∧ List.foldl addP out_1 (List.flatMap (longD v b) (selD v b (usedD v b r) (List.drop (Int.toNat (i_1 + 1)) (ordersD r)))) = allD v b r) ∧ 0 ≤ (i_1 + 1) ∧ (i_1 + 1) ≤ (List.length (ordersD r) : Int))) ∧ ((Int.toNat ((List.length (ordersD r) : Int) - (i_1 + 1)) : Nat) < Int.toNat ((List.length (ordersD r) : Int) - i))))))))))))) (@Eq (HO c_impl_allPlays.outs) (out, true, ()) (c_impl_allPlays.out (v, b, r, ())))))))))))) (by kernel_rfl) ?_
  rintro v b r ⟨hb, hr⟩ hl
  have hol := ordersD_len r
  have hF := hb.facts
  have hne : NeB b := ⟨⟨fun e => by have := hF.2.2.1; rw [e] at this; simp at this; omega, by omega⟩, fun e => by have := hF.2.2.2.1; rw [e] at this; simp at this; omega, by omega⟩
  have hu : usedL (List.map (rowsD v b) (ordersD r)) = usedD v b r := rfl
  have hub := usedD_bd (b := b) hr
  refine ⟨⟨hb, hr⟩, bspB (fun h => by simp only [Bool.not_eq_true'] at h; simp only [c_impl_allPlays, h]; rfl) (fun hf => ⟨⟨by simp; omega, fun x hx => by have := rows_bd hr x hx; omega⟩, ?_⟩)⟩
  simp only [Bool.not_eq_false'] at hf
  have out0 : ∀ l, l = allD v b r → @Eq (HO c_impl_allPlays.outs) (l, true, ()) (c_impl_allPlays.out (v, b, r, ())) := fun l h => by subst h; simp only [c_impl_allPlays, hf, if_true]
  simp only [hu, List.length_map]
  refine bspD (fun hz => ⟨hne, out0 _ (allD_zero hz).symm⟩) (fun hz => ⟨⟨(by first | trivial | rfl | (and_intros <;> rfl)), ⟨SeenOk.nil v, rfl⟩, by omega, by omega⟩, ?_⟩)
  rintro n m i seen out rows ⟨⟨rfl, rfl, rfl⟩, ⟨⟨hs, hfo⟩, i0, i1⟩⟩
  refine bspD (fun hlt => ?_) (fun hge => ?_)
  · obtain ⟨a, rfl⟩ : ∃ a : Nat, i = a := ⟨i.toNat, by omega⟩
    have ha : a < (ordersD r).length := by omega
    rw [show ((a : Int)).toNat = a from rfl] at hfo ⊢
    have e1 : (List.map (rowsD v b) (ordersD r)).getD a [] = rowsD v b ((ordersD r).getD a []) := by simp [List.getD_eq_getElem?_getD, ha]
    rw [e1]
    have hmem := getD_mem ha []
    have hdo := ordersD_ok hr _ hmem
    have hle := seqN_le (v := v) (b := b) hmem
    have hlen : ((rowsD v b ((ordersD r).getD a [])).length : Int) = seqN v b ((ordersD r).getD a []) + 1 := by simp [rowsD, seqN]
    rw [drop_cons ha []] at hfo
    have e3 : ((a : Int) + 1).toNat = a + 1 := by omega
    refine ⟨⟨by omega, by simp; omega⟩, by simp; omega, bspD (fun hno => ?_) (fun hyes => ?_)⟩
    · rw [selD_cons_no (by omega)] at hfo
      refine ⟨by simp only [inK]; omega, ⟨(by first | trivial | rfl | (and_intros <;> rfl)), ⟨hs, ?_⟩, by omega, by omega⟩, by omega⟩
      rw [e3]; exact hfo
    · have hsq : seqN v b ((ordersD r).getD a []) = usedD v b r := by omega
      have hps : (rowsD v b ((ordersD r).getD a [])).getD (usedD v b r).toNat [] = longD v b ((ordersD r).getD a []) := by rw [← hsq]; exact rows_last _ _ _
      obtain ⟨hpo, hpl⟩ := longD_ok hb hdo
      have hfo2 : List.foldl addP out (longD v b ((ordersD r).getD a []) ++ (if usedD v b r = 1 then [] else List.flatMap (longD v b) (selD v b (usedD v b r) (List.drop (a + 1) (ordersD r))))) = allD v b r := by
        by_cases h1 : usedD v b r = 1
        · rw [if_pos h1]
          rw [h1, selD_cons_one (by omega)] at hfo
          simpa using hfo
        · rw [if_neg h1]
          rw [selD_cons_yes hsq h1] at hfo
          simpa using hfo
      refine ⟨⟨by omega, by omega⟩, by omega, ⟨(by first | trivial | rfl | (and_intros <;> rfl)), ⟨hs, ?_⟩, ⟨by omega, by omega⟩, ⟨by omega, by omega⟩, by first | trivial | rfl⟩, ?_⟩
      · rw [hps]; exact hfo2
      rintro n_1 m_1 i_1 q k seen_1 out_1 rows_1 ps ⟨⟨rfl, rfl, rfl, rfl, rfl⟩, ⟨⟨hs2, hf2⟩, ⟨g0, g1⟩, ⟨k0, k1⟩, hG⟩⟩
      obtain rfl : i_1 = a := by omega
      rw [show ((a : Int)).toNat = a from rfl] at hf2 k1 ⊢
      rw [e1, hps] at hf2 k1 ⊢
      have hlo : out_1.length ≤ 800000 := by
        have h2 := (len_foldl_addP (List.drop k.toNat (longD v b ((ordersD r).getD a [])) ++ (if usedD v b r = 1 then [] else List.flatMap (longD v b) (selD v b (usedD v b r) (List.drop (a + 1) (ordersD r))))) out_1).1
        rw [hf2] at h2
        have h4 := allD_len hb hr
        omega
      refine bspD (fun hlk => ?_) (fun hgk => ?_)
      · obtain ⟨c, rfl⟩ : ∃ c : Nat, k = c := ⟨k.toNat, by omega⟩
        rw [show ((c : Int)).toNat = c from rfl] at hf2 ⊢
        have hc : c < (longD v b ((ordersD r).getD a [])).length := by omega
        have hpc := hpo _ (getD_mem hc ([], [], []))
        have hbd := hpc.1.facts
        rw [drop_cons hc ([], [], []), List.cons_append, List.foldl_cons] at hf2
        have e4 : ((c : Int) + 1).toNat = c + 1 := by omega
        refine ⟨⟨by omega, by omega⟩, hc, ⟨hbd.1, hbd.2.1, by omega⟩, ?_⟩
        rw [hs2.2 _ hpc.1]
        refine bspB (fun hn => ?_) (fun hy => ?_)
        · simp only [Bool.not_eq_true'] at hn
          rw [show addP out_1 _ = out_1 ++ [_] from if_neg (by rw [hn]; decide)] at hf2
          refine ⟨by simp [AB]; omega, by simp only [inK]; omega, ⟨(by first | trivial | rfl | (and_intros <;> rfl)), ⟨hs2.add ⟨hpc.1, by have := hpc.2; omega⟩, ?_⟩, ⟨by omega, by omega⟩, ⟨by omega, by omega⟩, hG⟩, by omega⟩
          rw [e4]; exact hf2
        · simp only [Bool.not_eq_false'] at hy
          rw [show addP out_1 _ = out_1 from if_pos hy] at hf2
          refine ⟨by simp only [inK]; omega, ⟨(by first | trivial | rfl | (and_intros <;> rfl)), ⟨hs2, ?_⟩, ⟨by omega, by omega⟩, ⟨by omega, by omega⟩, hG⟩, by omega⟩
          rw [e4]; exact hf2
      · rw [List.drop_eq_nil_of_le (by omega), List.nil_append] at hf2
        refine bspD (fun h1 => out0 _ ?_) (fun h1 => ?_)
        · rw [if_pos h1] at hf2; exact hf2
        · rw [if_neg h1] at hf2
          refine ⟨by simp only [inK]; omega, ⟨(by first | trivial | rfl | (and_intros <;> rfl)), ⟨hs2, ?_⟩, by omega, by omega⟩, by omega⟩
          rw [e3]; exact hf2
  · rw [List.drop_eq_nil_of_le (by omega), selD_nil] at hfo
    exact out0 _ (by simpa using hfo)
def noP (l : List DPlay) : Prop := l = []
def restS (out : List DPlay) (n : Int) (rest : List DPlay) : List DPlay := if n = 1 ∧ out ≠ [] then [] else rest
def fitsR (v : DVar) (b : DBoard) (r : DRoll) : Bool := (ordersD r).all (fitsP v b)
theorem restS_no {out : List DPlay} {v : DVar} {b : DBoard} {r : DRoll} {k : Nat} (hk : k < (ordersD r).length) (h : seqN v b ((ordersD r).getD k []) ≠ usedD v b r) : restS out (usedD v b r) ((selD v b (usedD v b r) ((ordersD r).drop k)).flatMap (longD v b)) = restS out (usedD v b r) ((selD v b (usedD v b r) ((ordersD r).drop (k + 1))).flatMap (longD v b)) := by
  rw [drop_cons hk [], selD_cons_no h]
def c_spec_l05All : Con where
  ins := [(true, .v tVar), (true, .v tBoard), (true, .v tRoll)]
  outs := [(false, .v (.sl tPlay)), (false, .v .b)]
  sh := false
  pre := fun x => okB x.1 x.2.1 ∧ rollD x.1 x.2.2.1 = true
  out := fun x => (allD x.1 x.2.1 x.2.2.1, List.all (ordersD x.2.2.1) (fitsP x.1 x.2.1), ())
  upd := fun x => x
  eat := false
theorem k_spec_l05All [B : Base] : ConOk Try.prog 23 c_spec_l05All := by
  refine fn_okW (C := cx Try.prog 84 c_spec_l05All) (cs := [(49, c_spec_l05Used), (50, c_spec_l05Orders), (51, c_spec_l05Longest), (52, c_spec_l05Find)]) (res := Try.f23.results.toList) (fun x => ⟨[{ sh := ⟨[(3, .one (.ref 0)), (4, .one (.ref 1)), (8, .one (.i .i64)), (9, .one (.ref 2)), (10, .one .b), (11, .one (.ref 3)), (12, .one (.i .i64))], [(0, .box [.i .i64, .i .i64, .i .i64, .i .i64]), (1, .box [.ref 4, .ref 5]), (2, .own 59 tPlay true), (3, .imm tSI true), (4, .imm tI false), (5, .imm tI false)]⟩, nx := 6, I := fun _ dat_ => (usedD x.1 x.2.1 x.2.2.1 = dat_.1.2.2.1 ∧ x.1.1 = dat_.2.1.1 ∧ x.1.2.1 = dat_.2.1.2.1 ∧ x.1.2.2.1 = dat_.2.1.2.2.1 ∧ x.1.2.2.2 = dat_.2.1.2.2.2.1 ∧ ordersD x.2.2.1 = dat_.2.2.2.2.1 ∧ x.2.1.1 = dat_.2.2.2.2.2.1 ∧ x.2.1.2 = dat_.2.2.2.2.2.2.1) ∧ ((((dat_.1.2.2.2.2.2.2.1 = 0 → noP dat_.2.2.2.1) ∧ dat_.1.2.2.2.2.1 = List.all (List.take (Int.toNat dat_.1.2.2.2.2.2.2.1) (ordersD x.2.2.1)) (fitsP x.1 x.2.1)) ∧ List.foldl addP dat_.2.2.2.1 (restS dat_.2.2.2.1 (usedD x.1 x.2.1 x.2.2.1) (List.flatMap (longD x.1 x.2.1) (selD x.1 x.2.1 (usedD x.1 x.2.1 x.2.2.1) (List.drop (Int.toNat dat_.1.2.2.2.2.2.2.1) (ordersD x.2.2.1))))) = allD x.1 x.2.1 x.2.2.1) ∧ 0 ≤ dat_.1.2.2.2.2.2.2.1 ∧ dat_.1.2.2.2.2.2.2.1 ≤ (List.length (ordersD x.2.2.1) : Int)), mu := fun dat_ => Int.toNat ((List.length (ordersD x.2.2.1) : Int) - dat_.1.2.2.2.2.2.2.1) }, { sh := ⟨[(3, .one (.ref 0)), (4, .one (.ref 1)), (8, .one (.i .i64)), (9, .one (.ref 2)), (10, .one .b), (11, .one (.ref 3)), (12, .one (.i .i64)), (13, .one (.ref 4)), (16, .one (.i .i64))], [(0, .box [.i .i64, .i .i64, .i .i64, .i .i64]), (1, .box [.ref 5, .ref 6]), (2, .own 59 tPlay true), (3, .imm tSI true), (4, .imm tPlay true), (5, .imm tI false), (6, .imm tI false)]⟩, nx := 7, I := fun g_ dat_ => (x.1.1 = dat_.2.1.1 ∧ x.1.2.1 = dat_.2.1.2.1 ∧ x.1.2.2.1 = dat_.2.1.2.2.1 ∧ x.1.2.2.2 = dat_.2.1.2.2.2.1 ∧ x.2.1.1 = dat_.2.2.2.2.2.2.1 ∧ x.2.1.2 = dat_.2.2.2.2.2.2.2.1) ∧ (((dat_.1.2.2.1 = usedD x.1 x.2.1 x.2.2.1 ∧ dat_.2.2.2.2.1 = ordersD x.2.2.1 ∧ dat_.2.2.2.2.2.1 = longD x.1 x.2.1 (List.getD (ordersD x.2.2.1) (Int.toNat dat_.1.2.2.2.2.2.2.1) [])) ∧ ((dat_.1.2.2.2.2.1 = List.all (List.take (Int.toNat dat_.1.2.2.2.2.2.2.1 + 1) (ordersD x.2.2.1)) (fitsP x.1 x.2.1)) ∧ (usedD x.1 x.2.1 x.2.2.1 = 1 → allD x.1 x.2.1 x.2.2.1 ≠ [])) ∧ List.foldl addP dat_.2.2.2.1 (List.drop (Int.toNat dat_.1.2.2.2.2.2.2.2.2.1) dat_.2.2.2.2.2.1 ++ (if usedD x.1 x.2.1 x.2.2.1 = 1 then [] else List.flatMap (longD x.1 x.2.1) (selD x.1 x.2.1 (usedD x.1 x.2.1 x.2.2.1) (List.drop (Int.toNat dat_.1.2.2.2.2.2.2.1 + 1) (ordersD x.2.2.1))))) = allD x.1 x.2.1 x.2.2.1) ∧ (0 ≤ dat_.1.2.2.2.2.2.2.1 ∧ dat_.1.2.2.2.2.2.2.1 < (List.length (ordersD x.2.2.1) : Int)) ∧ (0 ≤ dat_.1.2.2.2.2.2.2.2.2.1 ∧ dat_.1.2.2.2.2.2.2.2.2.1 ≤ (List.length dat_.2.2.2.2.2.1 : Int)) ∧ (g_.headD 0) = Int.toNat ((List.length (ordersD x.2.2.1) : Int) - dat_.1.2.2.2.2.2.2.1)), mu := fun dat_ => Int.toNat ((List.length dat_.2.2.2.2.2.1 : Int) - dat_.1.2.2.2.2.2.2.2.2.1) }], [(8, ⟨[[], [], [], [], [2, 3], [2, 3, 4], [0, 1, 2, 3, 4, 5], [0, 1, 2, 3, 4, 5, 6], [0, 1, 2, 3, 4, 5, 6, 7], [0, 1, 2, 3, 4, 5, 6, 7], [0, 1, 2, 3, 4, 5, 6, 7], [0, 1, 2, 3, 4, 5, 6, 7, 8], [0, 1, 2, 3, 4, 5, 6, 7, 8, 9, 11], [0, 1, 2, 3, 4, 5, 6, 7, 8, 9, 10, 11, 12]], [[1, 2, 3, 4, 5], [0, 2, 3, 4, 5], [0, 1, 3], [0, 1, 2], [0, 1], [0, 1], [], [], [9, 10], [8, 10, 11], [8, 9, 11, 12], [9, 10], [10], []], []⟩)], [(11, { sh := ⟨[(3, .one (.ref 0)), (4, .one (.ref 1)), (8, .one (.i .i64)), (9, .one (.ref 2)), (10, .one .b), (11, .one (.ref 3)), (12, .one (.i .i64)), (13, .one (.ref 4))], [(0, .box [.i .i64, .i .i64, .i .i64, .i .i64]), (1, .box [.ref 5, .ref 6]), (2, .own 59 tPlay true), (3, .imm tSI true), (4, .imm tPlay true), (5, .imm tI false), (6, .imm tI false)]⟩, nx := 7, I := fun g_ dat_ => (x.1.1 = dat_.2.1.1 ∧ x.1.2.1 = dat_.2.1.2.1 ∧ x.1.2.2.1 = dat_.2.1.2.2.1 ∧ x.1.2.2.2 = dat_.2.1.2.2.2.1 ∧ x.2.1.1 = dat_.2.2.2.2.2.2.1 ∧ x.2.1.2 = dat_.2.2.2.2.2.2.2.1) ∧ (((dat_.1.2.2.1 = usedD x.1 x.2.1 x.2.2.1 ∧ dat_.2.2.2.2.1 = ordersD x.2.2.1 ∧ dat_.2.2.2.2.2.1 = longD x.1 x.2.1 (List.getD (ordersD x.2.2.1) (Int.toNat dat_.1.2.2.2.2.2.2.1) [])) ∧ ((dat_.1.2.2.2.2.1 = List.all (List.take (Int.toNat dat_.1.2.2.2.2.2.2.1 + 1) (ordersD x.2.2.1)) (fitsP x.1 x.2.1)) ∧ (usedD x.1 x.2.1 x.2.2.1 = 1 → allD x.1 x.2.1 x.2.2.1 ≠ [])) ∧ List.foldl addP dat_.2.2.2.1 (dat_.2.2.2.2.2.1 ++ (if usedD x.1 x.2.1 x.2.2.1 = 1 then [] else List.flatMap (longD x.1 x.2.1) (selD x.1 x.2.1 (usedD x.1 x.2.1 x.2.2.1) (List.drop (Int.toNat dat_.1.2.2.2.2.2.2.1 + 1) (ordersD x.2.2.1))))) = allD x.1 x.2.1 x.2.2.1) ∧ (0 ≤ dat_.1.2.2.2.2.2.2.1 ∧ dat_.1.2.2.2.2.2.2.1 < (List.length (ordersD x.2.2.1) : Int)) ∧ (g_.headD 0) = Int.toNat ((List.length (ordersD x.2.2.1) : Int) - dat_.1.2.2.2.2.2.2.1)), mu := fun dat_ => 0 })]⟩) Try.func23 (by kernel_rfl) rfl rfl rfl tysOk.look eqTsOk.look (AllCs.ok (l := [(49, c_spec_l05Used), (50, c_spec_l05Orders), (51, c_spec_l05Longest), (52, c_spec_l05Find)]) ⟨k_spec_l05Used, k_spec_l05Orders, k_spec_l05Longest, k_spec_l05Find, trivial⟩) mixed rfl rfl rfl rfl ?_
  refine of_nf (P := ∀ v : Int × Int × Int × Int, ∀ b : (List Int) × List Int, ∀ r : Int × Int, (okB v b ∧ rollD v r = true) → ((lensI c_spec_l05All.ins (v, b, r, ())) → ((okB v b ∧ rollD v r = true) ∧ (True ∧ (((usedD v b r = (usedD v b r) ∧ v.1 = v.1 ∧ v.2.1 = v.2.1 ∧ v.2.2.1 = v.2.2.1 ∧ v.2.2.2 = v.2.2.2 ∧ ordersD r = (ordersD r) ∧ b.1 = b.1 ∧ b.2 = b.2) ∧ (((((0 : Int) = 0 → noP []) ∧ true = List.all (List.take (Int.toNat (0 : Int)) (ordersD r)) (fitsP v b)) ∧ List.foldl addP [] (restS [] (usedD v b r) (List.flatMap (longD v b) (selD v b (usedD v b r) (List.drop (Int.toNat (0 : Int)) (ordersD r))))) = allD v b r) ∧ 0 ≤ (0 : Int) ∧ (0 : Int) ≤ (List.length (ordersD r) : Int))) ∧ (∀ n : Int, ∀ fine : Bool, ∀ i : Int, ∀ t3_0 : Int, ∀ t3_1 : Int, ∀ t3_2 : Int, ∀ t3_3 : Int, ∀ out : List ((List (Int × Int × Int × Bool)) × (List Int) × List Int), ∀ orders : List (List Int), ∀ t4_0 : List Int, ∀ t4_1 : List Int, ((usedD v b r = n ∧ v.1 = t3_0 ∧ v.2.1 = t3_1 ∧ v.2.2.1 = t3_2 ∧ v.2.2.2 = t3_3 ∧ ordersD r = orders ∧ b.1 = t4_0 ∧ b.2 = t4_1) ∧ ((((i = 0 → noP out) ∧ fine = List.all (List.take (Int.toNat i) (ordersD r)) (fitsP v b)) ∧ List.foldl addP out (restS out (usedD v b r) (List.flatMap (longD v b) (selD v b (usedD v b r) (List.drop (Int.toNat i) (ordersD r))))) = allD v b r) ∧ 0 ≤ i ∧ i ≤ (List.length (ordersD r) : Int))) → (bsp (decide (i < (orders.length : Int))) ((0 ≤ i ∧ i < (orders.length : Int)) ∧ ((i.toNat < orders.length) ∧ ((okB (t3_0, t3_1, t3_2, t3_3) (t4_0, t4_1) ∧ DiceOk (orders.getD i.toNat [])) ∧ (bsp fine ((bsp (decide ((List.length (seqD (t3_0, t3_1, t3_2, t3_3) (startP (t4_0, t4_1)) (orders.getD i.toNat [])) : Int) ≠ n)) ((inK .i64 (i + 1)) ∧ (((usedD v b r = n ∧ v.1 = t3_0 ∧ v.2.1 = t3_1 ∧ v.2.2.1 = t3_2 ∧ v.2.2.2 = t3_3 ∧ ordersD r = orders ∧ b.1 = t4_0 ∧ b.2 = t4_1) ∧ (((((i + 1) = 0 → noP out) ∧ (fitsP (t3_0, t3_1, t3_2, t3_3) (t4_0, t4_1) (orders.getD i.toNat [])) = List.all (List.take (Int.toNat (i + 1)) (ordersD r)) (fitsP v b)) ∧ List.foldl addP out (restS out (usedD v b r) (List.flatMap (longD v b) (selD v b (usedD v b r) (List.drop (Int.toNat (i + 1)) (ordersD r))))) = allD v b r) ∧ 0 ≤ (i + 1) ∧ (i + 1) ≤ (List.length (ordersD r) : Int))) ∧ ((Int.toNat ((List.length (ordersD r) : Int) - (i + 1)) : Nat) < Int.toNat ((List.length (ordersD r) : Int) - i)))) (bsp (decide (n = (1 : Int))) (bsp (decide (i = (1 : Int))) (bsp (decide ((0 : Int) < (out.length : Int))) ((inK .i64 (i + 1)) ∧ (((usedD v b r = n ∧ v.1 = t3_0 ∧ v.2.1 = t3_1 ∧ v.2.2.1 = t3_2 ∧ v.2.2.2 = t3_3 ∧ ordersD r = orders ∧ b.1 = t4_0 ∧ b.2 = t4_1) ∧ (((((i + 1) = 0 → noP out) ∧ (fitsP (t3_0, t3_1, t3_2, t3_3) (t4_0, t4_1) (orders.getD i.toNat [])) = List.all (List.take (Int.toNat (i + 1)) (ordersD r)) (fitsP v b)) ∧ List.foldl addP out (restS out (usedD v b r) (List.flatMap (longD v b) (selD v b (usedD v b r) (List.drop (Int.toNat (i + 1)) (ordersD r))))) = allD v b r) ∧ 0 ≤ (i + 1) ∧ (i + 1) ≤ (List.length (ordersD r) : Int))) ∧ ((Int.toNat ((List.length (ordersD r) : Int) - (i + 1)) : Nat) < Int.toNat ((List.length (ordersD r) : Int) - i)))) ((v.1 = t3_0 ∧ v.2.1 = t3_1 ∧ v.2.2.1 = t3_2 ∧ v.2.2.2 = t3_3 ∧ b.1 = t4_0 ∧ b.2 = t4_1) ∧ (((n = usedD v b r ∧ orders = ordersD r ∧ (longD (t3_0, t3_1, t3_2, t3_3) (t4_0, t4_1) (orders.getD i.toNat [])) = longD v b (List.getD (ordersD r) (Int.toNat i) [])) ∧ (((fitsP (t3_0, t3_1, t3_2, t3_3) (t4_0, t4_1) (orders.getD i.toNat [])) = List.all (List.take (Int.toNat i + 1) (ordersD r)) (fitsP v b)) ∧ (usedD v b r = 1 → allD v b r ≠ [])) ∧ List.foldl addP out ((longD (t3_0, t3_1, t3_2, t3_3) (t4_0, t4_1) (orders.getD i.toNat [])) ++ (if usedD v b r = 1 then [] else List.flatMap (longD v b) (selD v b (usedD v b r) (List.drop (Int.toNat i + 1) (ordersD r))))) = allD v b r) ∧ (0 ≤ i ∧ i < (List.length (ordersD r) : Int)) ∧ (Int.toNat ((List.length (ordersD r) : Int) - i)) = Int.toNat ((List.length (ordersD r) : Int) - i)))) ((v.1 = t3_0 ∧ v.2.1 = t3_1 ∧ v.2.2.1 = t3_2 ∧ v.2.2.2 = t3_3 ∧ b.1 = t4_0 ∧ b.2 = t4_1) ∧ (((n = usedD v b r ∧ orders = ordersD r ∧ (longD (t3_0, t3_1, t3_2, t3_3) (t4_0, t4_1) (orders.getD i.toNat [])) = longD v b (List.getD (ordersD r) (Int.toNat i) [])) ∧ (((fitsP (t3_0, t3_1, t3_2, t3_3) (t4_0, t4_1) (orders.getD i.toNat [])) = List.all (List.take (Int.toNat i + 1) (ordersD r)) (fitsP v b)) ∧ (usedD v b r = 1 → allD v b r ≠ [])) ∧ List.foldl addP out ((longD (t3_0, t3_1, t3_2, t3_3) (t4_0, t4_1) (orders.getD i.toNat [])) ++ (if usedD v b r = 1 then [] else List.flatMap (longD v b) (selD v b (usedD v b r) (List.drop (Int.toNat i + 1) (ordersD r))))) = allD v b r) ∧ (0 ≤ i ∧ i < (List.length (ordersD r) : Int)) ∧ (Int.toNat ((List.length (ordersD r) : Int) - i)) = Int.toNat ((List.length (ordersD r) : Int) - i)))) ((v.1 = t3_0 ∧ v.2.1 = t3_1 ∧ v.2.2.1 = t3_2 ∧ v.2.2.2 = t3_3 ∧ b.1 = t4_0 ∧ b.2 = t4_1) ∧ (((n = usedD v b r ∧ orders = ordersD r ∧ (longD (t3_0, t3_1, t3_2, t3_3) (t4_0, t4_1) (orders.getD i.toNat [])) = longD v b (List.getD (ordersD r) (Int.toNat i) [])) ∧ (((fitsP (t3_0, t3_1, t3_2, t3_3) (t4_0, t4_1) (orders.getD i.toNat [])) = List.all (List.take (Int.toNat i + 1) (ordersD r)) (fitsP v b)) ∧ (usedD v b r = 1 → allD v b r ≠ [])) ∧ List.foldl addP out ((longD (t3_0, t3_1, t3_2, t3_3) (t4_0, t4_1) (orders.getD i.toNat [])) ++ (if usedD v b r = 1 then [] else List.flatMap (longD v b) (selD v b (usedD v b r) (List.drop (Int.toNat i + 1) (ordersD r))))) = allD v b r) ∧ (0 ≤ i ∧ i < (List.length (ordersD r) : Int)) ∧ (Int.toNat ((List.length (ordersD r) : Int) - i)) = Int.toNat ((List.length (ordersD r) : Int) - i))))) ∧ (∀ n_1 : Int, ∀ fine_1 : Bool, ∀ i_1 : Int, ∀ t3_0x1 : Int, ∀ t3_1x1 : Int, ∀ t3_2x1 : Int, ∀ t3_3x1 : Int, ∀ out_1 : List ((List (Int × Int × Int × Bool)) × (List Int) × List Int), ∀ orders_1 : List (List Int), ∀ list : List ((List (Int × Int × Int × Bool)) × (List Int) × List Int), ∀ t4_0x1 : List Int, ∀ t4_1x1 : List Int, ((v.1 = t3_0x1 ∧ v.2.1 = t3_1x1 ∧ v.2.2.1 = t3_2x1 ∧ v.2.2.2 = t3_3x1 ∧ b.1 = t4_0x1 ∧ b.2 = t4_1x1) ∧ (((n_1 = usedD v b r ∧ orders_1 = ordersD r ∧ list = longD v b (List.getD (ordersD r) (Int.toNat i_1) [])) ∧ ((fine_1 = List.all (List.take (Int.toNat i_1 + 1) (ordersD r)) (fitsP v b)) ∧ (usedD v b r = 1 → allD v b r ≠ [])) ∧ List.foldl addP out_1 (list ++ (if usedD v b r = 1 then [] else List.flatMap (longD v b) (selD v b (usedD v b r) (List.drop (Int.toNat i_1 + 1) (ordersD r))))) = allD v b r) ∧ (0 ≤ i_1 ∧ i_1 < (List.length (ordersD r) : Int)) ∧ (Int.toNat ((List.length (ordersD r) : Int) - i)) = Int.toNat ((List.length (ordersD r) : Int) - i_1))) → (((v.1 = t3_0x1 ∧ v.2.1 = t3_1x1 ∧ v.2.2.1 = t3_2x1 ∧ v.2.2.2 = t3_3x1 ∧ b.1 = t4_0x1 ∧ b.2 = t4_1x1) ∧ (((n_1 = usedD v b r ∧ orders_1 = ordersD r ∧ list = longD v b (List.getD (ordersD r) (Int.toNat i_1) [])) ∧ ((fine_1 = List.all (List.take (Int.toNat i_1 + 1) (ordersD r)) (fitsP v b)) ∧ (usedD v b r = 1 → allD v b r ≠ [])) ∧ List.foldl addP out_1 (List.drop (Int.toNat (0 : Int)) list ++ (if usedD v b r = 1 then [] else List.flatMap (longD v b) (selD v b (usedD v b r) (List.drop (Int.toNat i_1 + 1) (ordersD r))))) = allD v b r) ∧ (0 ≤ i_1 ∧ i_1 < (List.length (ordersD r) : Int)) ∧ (0 ≤ (0 : Int) ∧ (0 : Int) ≤ (List.length list : Int)) ∧ (Int.toNat ((List.length (ordersD r) : Int) - i)) = Int.toNat ((List.length (ordersD r) : Int) - i_1))) ∧ (∀ n_2 : Int, ∀ fine_2 : Bool, ∀ i_2 : Int, ∀ k : Int, ∀ t3_0x2 : Int, ∀ t3_1x2 : Int, ∀ t3_2x2 : Int, ∀ t3_3x2 : Int, ∀ out_2 : List ((List (Int × Int × Int × Bool)) × (List Int) × List Int), ∀ orders_2 : List (List Int), ∀ list_1 : List ((List (Int × Int × Int × Bool)) × (List Int) × List Int), ∀ t4_0x2 : List Int, ∀ t4_1x2 : List Int, ((v.1 = t3_0x2 ∧ v.2.1 = t3_1x2 ∧ v.2.2.1 = t3_2x2 ∧ v.2.2.2 = t3_3x2 ∧ b.1 = t4_0x2 ∧ b.2 = t4_1x2) ∧ (((n_2 = usedD v b r ∧ orders_2 = ordersD r ∧ list_1 = longD v b (List.getD (ordersD r) (Int.toNat i_2) [])) ∧ ((fine_2 = List.all (List.take (Int.toNat i_2 + 1) (ordersD r)) (fitsP v b)) ∧ (usedD v b r = 1 → allD v b r ≠ [])) ∧ List.foldl addP out_2 (List.drop (Int.toNat k) list_1 ++ (if usedD v b r = 1 then [] else List.flatMap (longD v b) (selD v b (usedD v b r) (List.drop (Int.toNat i_2 + 1) (ordersD r))))) = allD v b r) ∧ (0 ≤ i_2 ∧ i_2 < (List.length (ordersD r) : Int)) ∧ (0 ≤ k ∧ k ≤ (List.length list_1 : Int)) ∧ (Int.toNat ((List.length (ordersD r) : Int) - i)) = Int.toNat ((List.length (ordersD r) : Int) - i_2))) → (bsp (decide (k < (list_1.length : Int))) ((0 ≤ k ∧ k < (list_1.length : Int)) ∧ ((k.toNat < list_1.length) ∧ (True ∧ (bsp (decide ((findD out_2 (list_1.getD k.toNat ([], [], [])).2) < (0 : Int))) ((0 ≤ k ∧ k < (list_1.length : Int)) ∧ ((k.toNat < list_1.length) ∧ ((out_2.length + ([(list_1.getD k.toNat ([], [], []))] : List ((List (Int × Int × Int × Bool)) × (List Int) × List Int)).length ≤ AB) ∧ ((inK .i64 (k + 1)) ∧ (((v.1 = t3_0x2 ∧ v.2.1 = t3_1x2 ∧ v.2.2.1 = t3_2x2 ∧ v.2.2.2 = t3_3x2 ∧ b.1 = t4_0x2 ∧ b.2 = t4_1x2) ∧ (((n_2 = usedD v b r ∧ orders_2 = ordersD r ∧ list_1 = longD v b (List.getD (ordersD r) (Int.toNat i_2) [])) ∧ ((fine_2 = List.all (List.take (Int.toNat i_2 + 1) (ordersD r)) (fitsP v b)) ∧ (usedD v b r = 1 → allD v b r ≠ [])) ∧ List.foldl addP (out_2 ++ [(list_1.getD k.toNat ([], [], []))]) (List.drop (Int.toNat (k + 1)) list_1 ++ (if usedD v b r = 1 then [] else List.flatMap (longD v b) (selD v b (usedD v b r) (List.drop (Int.toNat i_2 + 1) (ordersD r))))) = allD v b r) ∧ (0 ≤ i_2 ∧ i_2 < (List.length (ordersD r) : Int)) ∧ (0 ≤ (k + 1) ∧ (k + 1) ≤ (List.length list_1 : Int)) ∧ (Int.toNat ((List.length (ordersD r) : Int) - i)) = Int.toNat ((List.length (ordersD r) : Int) - i_2))) ∧ ((Int.toNat ((List.length list_1 : Int) - (k + 1)) : Nat) < Int.toNat ((List.length list_1 : Int) - k))))))) ((inK .i64 (k + 1)) ∧ (((v.1 = t3_0x2 ∧ v.2.1 = t3_1x2 ∧ v.2.2.1 = t3_2x2 ∧ v.2.2.2 = t3_3x2 ∧ b.1 = t4_0x2 ∧ b.2 = t4_1x2) ∧ (((n_2 = usedD v b r ∧ orders_2 = ordersD r ∧ list_1 = longD v b (List.getD (ordersD r) (Int.toNat i_2) [])) ∧ ((fine_2 = List.all (List.take (Int.toNat i_2 + 1) (ordersD r)) (fitsP v b)) ∧ (usedD v b r = 1 → allD v b r ≠ [])) ∧ List.foldl addP out_2 (List.drop (Int.toNat (k + 1)) list_1 ++ (if usedD v b r = 1 then [] else List.flatMap (longD v b) (selD v b (usedD v b r) (List.drop (Int.toNat i_2 + 1) (ordersD r))))) = allD v b r) ∧ (0 ≤ i_2 ∧ i_2 < (List.length (ordersD r) : Int)) ∧ (0 ≤ (k + 1) ∧ (k + 1) ≤ (List.length list_1 : Int)) ∧ (Int.toNat ((List.length (ordersD r) : Int) - i)) = Int.toNat ((List.length (ordersD r) : Int) - i_2))) ∧ ((Int.toNat ((List.length list_1 : Int) - (k + 1)) : Nat) < Int.toNat ((List.length list_1 : Int) - k)))))))) ((inK .i64 (i_2 + 1)) ∧ (((usedD v b r = n_2 ∧ v.1 = t3_0x2 ∧ v.2.1 = t3_1x2 ∧ v.2.2.1 = t3_2x2 ∧ v.2.2.2 = t3_3x2 ∧ ordersD r = orders_2 ∧ b.1 = t4_0x2 ∧ b.2 = t4_1x2) ∧ (((((i_2 + 1) = 0 → noP out_2) ∧ fine_2 = List.all (List.take (Int.toNat (i_2 + 1)) (ordersD r)) (fitsP v b)) ∧ List.foldl addP out_2 (restS out_2 (usedD v b r) (List.flatMap (longD v b) (selD v b (usedD v b r) (List.drop (Int.toNat (i_2 + 1)) (ordersD r))))) = allD v b r) ∧ 0 ≤ (i_2 + 1) ∧ (i_2 + 1) ≤ (List.length (ordersD r) : Int))) ∧ ((Int.toNat ((List.length (ordersD r) : Int) - (i_2 + 1)) : Nat) < Int.toNat ((List.length (ordersD r) : Int) - i))))))))) ((bsp (decide ((List.length (seqD (t3_0, t3_1, t3_2, t3_3) (startP (t4_0, t4_1)) (orders.getD i.toNat [])) : Int) ≠ n)) ((inK .i64 (i + 1)) ∧ (((usedD v b r = n ∧ v.1 = t3_0 ∧ v.2.1 = t3_1 ∧ v.2.2.1 = t3_2 ∧ v.2.2.2 = t3_3 ∧ ordersD r = orders ∧ b.1 = t4_0 ∧ b.2 = t4_1) ∧ (((((i + 1) = 0 → noP out) ∧ false = List.all (List.take (Int.toNat (i + 1)) (ordersD r)) (fitsP v b)) ∧ List.foldl addP out (restS out (usedD v b r) (List.flatMap (longD v b) (selD v b (usedD v b r) (List.drop (Int.toNat (i + 1)) (ordersD r))))) = allD v b r) ∧ 0 ≤ (i + 1) ∧ (i + 1) ≤ (List.length (ordersD r) : Int))) ∧ ((Int.toNat ((List.length (ordersD r) : Int) - (i + 1)) : Nat) < Int.toNat ((List.length (ordersD r) : Int) - i)))) (bsp (decide (n = (1 : Int))) (bsp (decide (i = (1 : Int))) (bsp (decide ((0 : Int) < (out.length : Int))) ((inK .i64 (i + 1)) ∧ (((usedD v b r = n ∧ v.1 = t3_0 ∧ v.2.1 = t3_1 ∧ v.2.2.1 = t3_2 ∧ v.2.2.2 = t3_3 ∧ ordersD r = orders ∧ b.1 = t4_0 ∧ b.2 = t4_1) ∧ (((((i + 1) = 0 → noP out) ∧ false = List.all (List.take (Int.toNat (i + 1)) (ordersD r)) (fitsP v b)) ∧ List.foldl addP out (restS out (usedD v b r) (List.flatMap (longD v b) (selD v b (usedD v b r) (List.drop (Int.toNat (i + 1)) (ordersD r))))) = allD v b r) ∧ 0 ≤ (i + 1) ∧ (i + 1) ≤ (List.length (ordersD r) : Int))) ∧ ((Int.toNat ((List.length (ordersD r) : Int) - (i + 1)) : Nat) < Int.toNat ((List.length (ordersD r) : Int) - i)))) ((v.1 = t3_0 ∧ v.2.1 = t3_1 ∧ v.2.2.1 = t3_2 ∧ v.2.2.2 = t3_3 ∧ b.1 = t4_0 ∧ b.2 = t4_1) ∧ (((n = usedD v b r ∧ orders = ordersD r ∧ (longD (t3_0, t3_1, t3_2, t3_3) (t4_0, t4_1) (orders.getD i.toNat [])) = longD v b (List.getD (ordersD r) (Int.toNat i) [])) ∧ ((false = List.all (List.take (Int.toNat i + 1) (ordersD r)) (fitsP v b)) ∧ (usedD v b r = 1 → allD v b r ≠ [])) ∧ List.foldl addP out ((longD (t3_0, t3_1, t3_2, t3_3) (t4_0, t4_1) (orders.getD i.toNat [])) ++ (if usedD v b r = 1 then [] else List.flatMap (longD v b) (selD v b (usedD v b r) (List.drop (Int.toNat i + 1) (ordersD r))))) = allD v b r) ∧ (0 ≤ i ∧ i < (List.length (ordersD r) : Int)) ∧ (Int.toNat ((List.length (ordersD r) : Int) - i)) = Int.toNat ((List.length (ordersD r) : Int) - i)))) ((v.1 = t3_0 ∧ v.2.1 = t3_1 ∧ v.2.2.1 = t3_2 ∧ v.2.2.2 = t3_3 ∧ b.1 = t4_0 ∧ b.2 = t4_1) ∧ (((n = usedD v b r ∧ orders = ordersD r ∧ (longD (t3_0, t3_1, t3_2, t3_3) (t4_0, t4_1) (orders.getD i.toNat [])) = longD v b (List.getD (ordersD r) (Int.toNat i) [])) ∧ ((false = List.all (List.take (Int.toNat i + 1) (ordersD r)) (fitsP v b)) ∧ (usedD v b r = 1 → allD v b r ≠ [])) ∧ List.foldl addP out ((longD (t3_0, t3_1, t3_2, t3_3) (t4_0, t4_1) (orders.getD i.toNat [])) ++ (if usedD v b r = 1 then [] else List.flatMap (longD v b) (selD v b (usedD v b r) (List.drop (Int.toNat i + 1) (ordersD r))))) = allD v b r) ∧ (0 ≤ i ∧ i < (List.length (ordersD r) : Int)) ∧ (Int.toNat ((List.length (ordersD r) : Int) - i)) = Int.toNat ((List.length (ordersD r) : Int) - i)))) ((v.1 = t3_0 ∧ v.2.1 = t3_1 ∧ v.2.2.1 = t3_2 ∧ v.2.2.2 = t3_3 ∧ b.1 = t4_0 ∧ b.2 = t4_1) ∧ (((n = usedD v b r ∧ orders = ordersD r ∧ (longD (t3_0, t3_1, t3_2, t3_3) (t4_0, t4_1) (orders.getD i.toNat [])) = longD v b (List.getD (ordersD r) (Int.toNat i) [])) ∧ ((false = List.all (List.take (Int.toNat i + 1) (ordersD r)) (fitsP v b)) ∧ (usedD v b r = 1 → allD v b r ≠ [])) ∧ List.foldl addP out ((longD (t3_0, t3_1, t3_2, t3_3) (t4_0, t4_1) (orders.getD i.toNat [])) ++ (if usedD v b r = 1 then [] else List.flatMap (longD v b) (selD v b (usedD v b r) (List.drop (Int.toNat i + 1) (ordersD r))))) = allD v b r) ∧ (0 ≤ i ∧ i < (List.length (ordersD r) : Int)) ∧ (Int.toNat ((List.length (ordersD r) : Int) - i)) = Int.toNat ((List.length (ordersD r) : Int) - i))))) ∧ (∀ n_1 : Int, ∀ fine_1 : Bool, ∀ i_1 : Int, ∀ t3_0x1 : Int, ∀ t3_1x1 : Int, ∀ t3_2x1 : Int, ∀ t3_3x1 : Int, ∀ out_1 : List ((List (Int × Int × Int × Bool)) × (List Int) × List Int), ∀ orders_1 : List (List Int), ∀ list : List ((List (Int × Int × Int × Bool)) × (List Int) × List Int), ∀ t4_0x1 : List Int, ∀ t4_1x1 : List Int, ((v.1 = t3_0x1 ∧ v.2.1 = t3_1x1 ∧ v.2.2.1 = t3_2x1 ∧ v.2.2.2 = t3_3x1 ∧ b.1 = t4_0x1 ∧ b.2 = t4_1x1) ∧ (((n_1 = usedD v b r ∧ orders_1 = ordersD r ∧ list = longD v b (List.getD (ordersD r) (Int.toNat i_1) [])) ∧ ((fine_1 = List.all (List.take (Int.toNat i_1 + 1) (ordersD r)) (fitsP v b)) ∧ (usedD v b r = 1 → allD v b r ≠ [])) ∧ List.foldl addP out_1 (list ++ (if usedD v b r = 1 then [] else List.flatMap (longD v b) (selD v b (usedD v b r) (List.drop (Int.toNat i_1 + 1) (ordersD r))))) = allD v b r) ∧ (0 ≤ i_1 ∧ i_1 < (List.length (ordersD r) : Int)) ∧ (Int.toNat ((List.length (ordersD r) : Int) - i)) = Int.toNat ((List.length (ordersD r) : Int) - i_1))) → (((v.1 = t3_0x1 ∧ v.2.1 = t3_1x1 ∧ v.2.2.1 = t3_2x1 ∧ v.2.2.2 = t3_3x1 ∧ b.1 = t4_0x1 ∧ b.2 = t4_1x1) ∧ (((n_1 = usedD v b r ∧ orders_1 = ordersD r ∧ list = longD v b (List.getD (ordersD r) (Int.toNat i_1) [])) ∧ ((fine_1 = List.all (List.take (Int.toNat i_1 + 1) (ordersD r)) (fitsP v b)) ∧ (usedD v b r = 1 → allD v b r ≠ [])) ∧ List.foldl addP out_1 (List.drop (Int.toNat (0 : Int)) list ++ (if usedD v b r = 1 then [] else List.flatMap (longD v b) (selD v b (usedD v b r) (List.drop (Int.toNat i_1 + 1) (ordersD r))))) = allD v b r) ∧ (0 ≤ i_1 ∧ i_1 < (List.length (ordersD r) : Int)) ∧ (0 ≤ (0 : Int) ∧ (0 : Int) ≤ (List.length list : Int)) ∧ (Int.toNat ((List.length (ordersD r) : Int) - i)) = Int.toNat ((List.length (ordersD r) : Int) - i_1))) ∧ (∀ n_2 : Int, ∀ fine_2 : Bool, ∀ i_2 : Int, ∀ k : Int, ∀ t3_0x2 : Int, ∀ t3_1x2 : Int, ∀ t3_2x2 : Int, ∀ t3_3x2 : Int, ∀ out_2 : List ((List (Int × Int × Int × Bool)) × (List Int) × List Int), ∀ orders_2 : List (List Int), ∀ list_1 : List ((List (Int × Int × Int × Bool)) × (List Int) × List Int), ∀ t4_0x2 : List Int, ∀ t4_1x2 : List Int, ((v.1 = t3_0x2 ∧ v.2.1 = t3_1x2 ∧ v.2.2.1 = t3_2x2 ∧ v.2.2.2 = t3_3x2 ∧ b.1 = t4_0x2 ∧ b.2 = t4_1x2) ∧ (((n_2 = usedD v b r ∧ orders_2 = ordersD r ∧ list_1 = longD v b (List.getD (ordersD r) (Int.toNat i_2) [])) ∧ ((fine_2 = List.all (List.take (Int.toNat i_2 + 1) (ordersD r)) (fitsP v b)) ∧ (usedD v b r = 1 → allD v b r ≠ [])) ∧ List.foldl addP out_2 (List.drop (Int.toNat k) list_1 ++ (if usedD v b r = 1 then [] else List.flatMap (longD v b) (selD v b (usedD v b r) (List.drop (Int.toNat i_2 + 1) (ordersD r))))) = allD v b r) ∧ (0 ≤ i_2 ∧ i_2 < (List.length (ordersD r) : Int)) ∧ (0 ≤ k ∧ k ≤ (List.length list_1 : Int)) ∧ (Int.toNat ((List.length (ordersD r) : Int) - i)) = Int.toNat ((List.length (ordersD r) : Int) - i_2))) → (bsp (decide (k < (list_1.length : Int))) ((0 ≤ k ∧ k < (list_1.length : Int)) ∧ ((k.toNat < list_1.length) ∧ (True ∧ (bsp (decide ((findD out_2 (list_1.getD k.toNat ([], [], [])).2) < (0 : Int))) ((0 ≤ k ∧ k < (list_1.length : Int)) ∧ ((k.toNat < list_1.length) ∧ ((out_2.length + ([(list_1.getD k.toNat ([], [], []))] : List ((List (Int × Int × Int × Bool)) × (List Int) × List Int)).length ≤ AB) ∧ ((inK .i64 (k + 1)) ∧ (((v.1 = t3_0x2 ∧ v.2.1 = t3_1x2 ∧ v.2.2.1 = t3_2x2 ∧ v.2.2.2 = t3_3x2 ∧ b.1 = t4_0x2 ∧ b.2 = t4_1x2) ∧ (((n_2 = usedD v b r ∧ orders_2 = ordersD r ∧ list_1 = longD v b (List.getD (ordersD r) (Int.toNat i_2) [])) ∧ ((fine_2 = List.all (List.take (Int.toNat i_2 + 1) (ordersD r)) (fitsP v b)) ∧ (usedD v b r = 1 → allD v b r ≠ [])) ∧ List.foldl addP (out_2 ++ [(list_1.getD k.toNat ([], [], []))]) (List.drop (Int.toNat (k + 1)) list_1 ++ (if usedD v b r = 1 then [] else List.flatMap (longD v b) (selD v b (usedD v b r) (List.drop (Int.toNat i_2 + 1) (ordersD r))))) = allD v b r) ∧ (0 ≤ i_2 ∧ i_2 < (List.length (ordersD r) : Int)) ∧ (0 ≤ (k + 1) ∧ (k + 1) ≤ (List.length list_1 : Int)) ∧ (Int.toNat ((List.length (ordersD r) : Int) - i)) = Int.toNat ((List.length (ordersD r) : Int) - i_2))) ∧ ((Int.toNat ((List.length list_1 : Int) - (k + 1)) : Nat) < Int.toNat ((List.length list_1 : Int) - k))))))) ((inK .i64 (k + 1)) ∧ (((v.1 = t3_0x2 ∧ v.2.1 = t3_1x2 ∧ v.2.2.1 = t3_2x2 ∧ v.2.2.2 = t3_3x2 ∧ b.1 = t4_0x2 ∧ b.2 = t4_1x2) ∧ (((n_2 = usedD v b r ∧ orders_2 = ordersD r ∧ list_1 = longD v b (List.getD (ordersD r) (Int.toNat i_2) [])) ∧ ((fine_2 = List.all (List.take (Int.toNat i_2 + 1) (ordersD r)) (fitsP v b)) ∧ (usedD v b r = 1 → allD v b r ≠ [])) ∧ List.foldl addP out_2 (List.drop (Int.toNat (k + 1)) list_1 ++ (if usedD v b r = 1 then [] else List.flatMap (longD v b) (selD v b (usedD v b r) (List.drop (Int.toNat i_2 + 1) (ordersD r))))) = allD v b r) ∧ (0 ≤ i_2 ∧ i_2 < (List.length (ordersD r) : Int)) ∧ (0 ≤ (k + 1) ∧ (k + 1) ≤ (List.length list_1 : Int)) ∧ (Int.toNat ((List.length (ordersD r) : Int) - i)) = Int.toNat ((List.length (ordersD r) : Int) - i_2))) ∧ ((Int.toNat ((List.length list_1 : Int) - (k + 1)) : Nat) < Int.toNat ((List.length list_1 : Int) - k)))))))) ((inK .i64 (i_2 + 1)) ∧ (((usedD v b r = n_2 ∧ v.1 = t3_0x2 ∧ v.2.1 = t3_1x2 ∧ v.2.2.1 = t3_2x2 ∧ v.2.2.2 = t3_3x2 ∧ ordersD r = orders_2 ∧ b.1 = t4_0x2 ∧ b.2 = t4_1x2) ∧ (((((i_2 + 1) = 0 → noP out_2) ∧ fine_2 = List.all (List.take (Int.toNat (i_2 + 1)) (ordersD r)) (fitsP v b)) ∧ List.foldl addP out_2 (restS out_2 (usedD v b r) (List.flatMap (longD v b) (selD v b (usedD v b r) (List.drop (Int.toNat (i_2 + 1)) (ordersD r))))) = allD v b r) ∧ 0 ≤ (i_2 + 1) ∧ (i_2 + 1) ≤ (List.length (ordersD r) : Int))) ∧ ((Int.toNat ((List.length (ordersD r) : Int) - (i_2 + 1)) : Nat) < Int.toNat ((List.length (ordersD r) : Int) - i))))))))))))) (@Eq (HO c_spec_l05All.outs) (out, fine, ()) (c_spec_l05All.out (v, b, r, ())))))))))) (by kernel_rfl) ?_
  rintro v b r ⟨hb, hr⟩ hl
  have hol := ordersD_len r
  refine ⟨⟨hb, hr⟩, trivial, ⟨(by first | trivial | rfl | (and_intros <;> rfl)), ⟨⟨fun _ => rfl, by simp⟩, by simp [allD, restS]⟩, by omega, by omega⟩, ?_⟩
  rintro n fine i t3_0 t3_1 t3_2 t3_3 out orders t4_0 t4_1 ⟨⟨rfl, rfl, rfl, rfl, rfl, rfl, rfl, rfl⟩, ⟨⟨⟨ho0, hfi⟩, hf⟩, i0, i1⟩⟩
  simp only [Prod.eta]
  refine bspD (fun hlt => ?_) (fun hge => ?_)
  · obtain ⟨a, rfl⟩ : ∃ a : Nat, i = a := ⟨i.toNat, by omega⟩
    have ha : a < (ordersD r).length := by omega
    simp only [Int.toNat_natCast] at hfi hf ⊢
    have hmem := getD_mem ha []
    have hdo := ordersD_ok hr _ hmem
    have hle := seqN_le (v := v) (b := b) hmem
    have e3 : ((a : Int) + 1).toNat = a + 1 := by omega
    have t := take_all_succ (fitsP v b) ha []
    rw [← hfi] at t
    obtain ⟨hpo, hpl⟩ := longD_ok hb hdo
    rw [e3]
    have skip1 : seqN v b ((ordersD r).getD a []) ≠ usedD v b r → List.foldl addP out (restS out (usedD v b r) (List.flatMap (longD v b) (selD v b (usedD v b r) (List.drop (a + 1) (ordersD r))))) = allD v b r := fun h => by
      rw [restS_no ha h] at hf; exact hf
    have skip2 : usedD v b r = 1 → out ≠ [] → List.foldl addP out (restS out (usedD v b r) (List.flatMap (longD v b) (selD v b (usedD v b r) (List.drop (a + 1) (ordersD r))))) = allD v b r := fun h1 h2 => by
      rw [restS, if_pos ⟨h1, h2⟩] at hf ⊢; exact hf
    have yes : seqN v b ((ordersD r).getD a []) = usedD v b r → (usedD v b r = 1 → out = []) → (usedD v b r = 1 → allD v b r ≠ []) ∧ List.foldl addP out (longD v b ((ordersD r).getD a []) ++ (if usedD v b r = 1 then [] else List.flatMap (longD v b) (selD v b (usedD v b r) (List.drop (a + 1) (ordersD r))))) = allD v b r := fun hs h1 => by
      rw [drop_cons ha []] at hf
      by_cases h : usedD v b r = 1
      · have h2 := h1 h
        subst h2
        rw [restS, if_neg (fun h => h.2 rfl), h, selD_cons_one (by omega)] at hf
        simp only [List.flatMap_cons, List.flatMap_nil, List.append_nil] at hf
        rw [if_pos h, List.append_nil]
        exact ⟨fun _ => by rw [← hf]; exact foldl_addP_ne (longD_ne v b _), hf⟩
      · rw [restS, if_neg (fun g => h g.1), selD_cons_yes hs h, List.flatMap_cons] at hf
        rw [if_neg h]
        exact ⟨fun g => absurd g h, hf⟩
    have mk : ∀ fine2, fine2 = List.all (List.take (a + 1) (ordersD r)) (fitsP v b) → ∀ X : Prop, X → X := fun _ _ _ h => h
    clear mk
    refine ⟨⟨by omega, by omega⟩, ha, ⟨hb, hdo⟩, bspB (fun hfine => ⟨?_, ?_⟩) (fun hfine => ⟨?_, ?_⟩)⟩
    · rw [hfine] at t
      refine bspD (fun hne => ?_) (fun heq => ?_)
      · exact ⟨by simp only [inK]; omega, ⟨(by first | trivial | rfl | (and_intros <;> rfl)), ⟨⟨fun h => by omega, by rw [t]; simp⟩, skip1 hne⟩, by omega, by omega⟩, by omega⟩
      · have hs : seqN v b ((ordersD r).getD a []) = usedD v b r := by unfold seqN; omega
        refine bspD (fun h1 => bspD (fun ha1 => bspD (fun hl => ?_) (fun hl => ?_)) (fun ha1 => ?_)) (fun h1 => ?_)
        · exact ⟨by simp only [inK]; omega, ⟨(by first | trivial | rfl | (and_intros <;> rfl)), ⟨⟨fun h => by omega, by rw [t]; simp⟩, skip2 h1 (fun e => by rw [e] at hl; simp at hl)⟩, by omega, by omega⟩, by omega⟩
        · have y := yes hs (fun _ => List.length_eq_zero_iff.1 (by omega))
          exact ⟨(by first | trivial | rfl | (and_intros <;> rfl)), ⟨(by first | trivial | rfl | (and_intros <;> rfl)), ⟨by rw [t]; simp, y.1⟩, y.2⟩, ⟨by omega, by omega⟩, (by first | trivial | rfl | (and_intros <;> rfl))⟩
        · have y := yes hs (fun _ => ho0 (by omega))
          exact ⟨(by first | trivial | rfl | (and_intros <;> rfl)), ⟨(by first | trivial | rfl | (and_intros <;> rfl)), ⟨by rw [t]; simp, y.1⟩, y.2⟩, ⟨by omega, by omega⟩, (by first | trivial | rfl | (and_intros <;> rfl))⟩
        · have y := yes hs (fun h => absurd h h1)
          exact ⟨(by first | trivial | rfl | (and_intros <;> rfl)), ⟨(by first | trivial | rfl | (and_intros <;> rfl)), ⟨by rw [t]; simp, y.1⟩, y.2⟩, ⟨by omega, by omega⟩, (by first | trivial | rfl | (and_intros <;> rfl))⟩
    · skip
      rintro n_1 fine_1 i_1 t3_0x1 t3_1x1 t3_2x1 t3_3x1 out_1 orders_1 list t4_0x1 t4_1x1 ⟨⟨rfl, rfl, rfl, rfl, rfl, rfl⟩, ⟨⟨⟨rfl, rfl, rfl⟩, ⟨hfi1, hne1⟩, hf1⟩, ⟨g0, g1⟩, hG⟩⟩
      simp only [Prod.eta]
      obtain rfl : i_1 = a := by omega
      simp only [Int.toNat_natCast] at hfi1 hf1 ⊢
      refine ⟨⟨(by first | trivial | rfl | (and_intros <;> rfl)), ⟨(by first | trivial | rfl | (and_intros <;> rfl)), ⟨hfi1, hne1⟩, by simpa using hf1⟩, ⟨by omega, by omega⟩, ⟨by omega, by omega⟩, by first | trivial | omega⟩, ?_⟩
      rintro n_2 fine_2 i_2 k t3_0x2 t3_1x2 t3_2x2 t3_3x2 out_2 orders_2 list_1 t4_0x2 t4_1x2 ⟨⟨rfl, rfl, rfl, rfl, rfl, rfl⟩, ⟨⟨⟨rfl, rfl, rfl⟩, ⟨hfi2, hne2⟩, hf2⟩, ⟨j0, j1⟩, ⟨k0, k1⟩, hG2⟩⟩
      simp only [Prod.eta]
      obtain rfl : i_2 = a := by omega
      simp only [Int.toNat_natCast] at hfi2 hf2 k1 ⊢
      have hlo : out_2.length ≤ 781250 := by
        have h2 := (len_foldl_addP (List.drop k.toNat (longD v b ((ordersD r).getD a [])) ++ (if usedD v b r = 1 then [] else List.flatMap (longD v b) (selD v b (usedD v b r) (List.drop (a + 1) (ordersD r))))) out_2).1
        rw [hf2] at h2
        have h4 := allD_len hb hr
        omega
      refine bspD (fun hlk => ?_) (fun hgk => ?_)
      · obtain ⟨c, rfl⟩ : ∃ c : Nat, k = c := ⟨k.toNat, by omega⟩
        simp only [Int.toNat_natCast] at hf2 ⊢
        have hc : c < (longD v b ((ordersD r).getD a [])).length := by omega
        rw [drop_cons hc ([], [], []), List.cons_append, List.foldl_cons] at hf2
        have e4 : ((c : Int) + 1).toNat = c + 1 := by omega
        rw [e4]
        refine ⟨⟨by omega, by omega⟩, hc, trivial, bspD (fun hn => ?_) (fun hy => ?_)⟩
        · have hn' := findD_neg.1 hn
          rw [show addP out_2 _ = out_2 ++ [_] from if_neg (by rw [hn']; decide)] at hf2
          exact ⟨⟨by omega, by omega⟩, hc, by simp [AB]; omega, by simp only [inK]; omega, ⟨(by first | trivial | rfl | (and_intros <;> rfl)), ⟨(by first | trivial | rfl | (and_intros <;> rfl)), ⟨hfi2, hne2⟩, hf2⟩, ⟨by omega, by omega⟩, ⟨by omega, by omega⟩, by first | trivial | omega⟩, by omega⟩
        · have hy' : out_2.any (fun q => decide (q.2 = ((longD v b ((ordersD r).getD a [])).getD c ([], [], [])).2)) = true := by
            rw [← Bool.not_eq_false]; exact fun h => hy (findD_neg.2 h)
          rw [show addP out_2 _ = out_2 from if_pos hy'] at hf2
          exact ⟨by simp only [inK]; omega, ⟨(by first | trivial | rfl | (and_intros <;> rfl)), ⟨(by first | trivial | rfl | (and_intros <;> rfl)), ⟨hfi2, hne2⟩, hf2⟩, ⟨by omega, by omega⟩, ⟨by omega, by omega⟩, by first | trivial | omega⟩, by omega⟩
      · rw [List.drop_eq_nil_of_le (by omega), List.nil_append] at hf2
        refine ⟨by simp only [inK]; omega, ⟨(by first | trivial | rfl | (and_intros <;> rfl)), ⟨⟨fun h => by omega, by rw [e3]; exact hfi2⟩, ?_⟩, by omega, by omega⟩, by omega⟩
        rw [e3]
        by_cases h1 : usedD v b r = 1
        · rw [if_pos h1] at hf2
          have : out_2 ≠ [] := fun e => hne2 h1 (by rw [← hf2, e]; rfl)
          rw [restS, if_pos ⟨h1, this⟩]; exact hf2
        · rw [if_neg h1] at hf2
          rw [restS, if_neg fun g => h1 g.1]; exact hf2
    · rw [hfine] at t
      refine bspD (fun hne => ?_) (fun heq => ?_)
      · exact ⟨by simp only [inK]; omega, ⟨(by first | trivial | rfl | (and_intros <;> rfl)), ⟨⟨fun h => by omega, by rw [t]; simp⟩, skip1 hne⟩, by omega, by omega⟩, by omega⟩
      · have hs : seqN v b ((ordersD r).getD a []) = usedD v b r := by unfold seqN; omega
        refine bspD (fun h1 => bspD (fun ha1 => bspD (fun hl => ?_) (fun hl => ?_)) (fun ha1 => ?_)) (fun h1 => ?_)
        · exact ⟨by simp only [inK]; omega, ⟨(by first | trivial | rfl | (and_intros <;> rfl)), ⟨⟨fun h => by omega, by rw [t]; simp⟩, skip2 h1 (fun e => by rw [e] at hl; simp at hl)⟩, by omega, by omega⟩, by omega⟩
        · have y := yes hs (fun _ => List.length_eq_zero_iff.1 (by omega))
          exact ⟨(by first | trivial | rfl | (and_intros <;> rfl)), ⟨(by first | trivial | rfl | (and_intros <;> rfl)), ⟨by rw [t]; simp, y.1⟩, y.2⟩, ⟨by omega, by omega⟩, (by first | trivial | rfl | (and_intros <;> rfl))⟩
        · have y := yes hs (fun _ => ho0 (by omega))
          exact ⟨(by first | trivial | rfl | (and_intros <;> rfl)), ⟨(by first | trivial | rfl | (and_intros <;> rfl)), ⟨by rw [t]; simp, y.1⟩, y.2⟩, ⟨by omega, by omega⟩, (by first | trivial | rfl | (and_intros <;> rfl))⟩
        · have y := yes hs (fun h => absurd h h1)
          exact ⟨(by first | trivial | rfl | (and_intros <;> rfl)), ⟨(by first | trivial | rfl | (and_intros <;> rfl)), ⟨by rw [t]; simp, y.1⟩, y.2⟩, ⟨by omega, by omega⟩, (by first | trivial | rfl | (and_intros <;> rfl))⟩
    · skip
      rintro n_1 fine_1 i_1 t3_0x1 t3_1x1 t3_2x1 t3_3x1 out_1 orders_1 list t4_0x1 t4_1x1 ⟨⟨rfl, rfl, rfl, rfl, rfl, rfl⟩, ⟨⟨⟨rfl, rfl, rfl⟩, ⟨hfi1, hne1⟩, hf1⟩, ⟨g0, g1⟩, hG⟩⟩
      simp only [Prod.eta]
      obtain rfl : i_1 = a := by omega
      simp only [Int.toNat_natCast] at hfi1 hf1 ⊢
      refine ⟨⟨(by first | trivial | rfl | (and_intros <;> rfl)), ⟨(by first | trivial | rfl | (and_intros <;> rfl)), ⟨hfi1, hne1⟩, by simpa using hf1⟩, ⟨by omega, by omega⟩, ⟨by omega, by omega⟩, by first | trivial | omega⟩, ?_⟩
      rintro n_2 fine_2 i_2 k t3_0x2 t3_1x2 t3_2x2 t3_3x2 out_2 orders_2 list_1 t4_0x2 t4_1x2 ⟨⟨rfl, rfl, rfl, rfl, rfl, rfl⟩, ⟨⟨⟨rfl, rfl, rfl⟩, ⟨hfi2, hne2⟩, hf2⟩, ⟨j0, j1⟩, ⟨k0, k1⟩, hG2⟩⟩
      simp only [Prod.eta]
      obtain rfl : i_2 = a := by omega
      simp only [Int.toNat_natCast] at hfi2 hf2 k1 ⊢
      have hlo : out_2.length ≤ 781250 := by
        have h2 := (len_foldl_addP (List.drop k.toNat (longD v b ((ordersD r).getD a [])) ++ (if usedD v b r = 1 then [] else List.flatMap (longD v b) (selD v b (usedD v b r) (List.drop (a + 1) (ordersD r))))) out_2).1
        rw [hf2] at h2
        have h4 := allD_len hb hr
        omega
      refine bspD (fun hlk => ?_) (fun hgk => ?_)
      · obtain ⟨c, rfl⟩ : ∃ c : Nat, k = c := ⟨k.toNat, by omega⟩
        simp only [Int.toNat_natCast] at hf2 ⊢
        have hc : c < (longD v b ((ordersD r).getD a [])).length := by omega
        rw [drop_cons hc ([], [], []), List.cons_append, List.foldl_cons] at hf2
        have e4 : ((c : Int) + 1).toNat = c + 1 := by omega
        rw [e4]
        refine ⟨⟨by omega, by omega⟩, hc, trivial, bspD (fun hn => ?_) (fun hy => ?_)⟩
        · have hn' := findD_neg.1 hn
          rw [show addP out_2 _ = out_2 ++ [_] from if_neg (by rw [hn']; decide)] at hf2
          exact ⟨⟨by omega, by omega⟩, hc, by simp [AB]; omega, by simp only [inK]; omega, ⟨(by first | trivial | rfl | (and_intros <;> rfl)), ⟨(by first | trivial | rfl | (and_intros <;> rfl)), ⟨hfi2, hne2⟩, hf2⟩, ⟨by omega, by omega⟩, ⟨by omega, by omega⟩, by first | trivial | omega⟩, by omega⟩
        · have hy' : out_2.any (fun q => decide (q.2 = ((longD v b ((ordersD r).getD a [])).getD c ([], [], [])).2)) = true := by
            rw [← Bool.not_eq_false]; exact fun h => hy (findD_neg.2 h)
          rw [show addP out_2 _ = out_2 from if_pos hy'] at hf2
          exact ⟨by simp only [inK]; omega, ⟨(by first | trivial | rfl | (and_intros <;> rfl)), ⟨(by first | trivial | rfl | (and_intros <;> rfl)), ⟨hfi2, hne2⟩, hf2⟩, ⟨by omega, by omega⟩, ⟨by omega, by omega⟩, by first | trivial | omega⟩, by omega⟩
      · rw [List.drop_eq_nil_of_le (by omega), List.nil_append] at hf2
        refine ⟨by simp only [inK]; omega, ⟨(by first | trivial | rfl | (and_intros <;> rfl)), ⟨⟨fun h => by omega, by rw [e3]; exact hfi2⟩, ?_⟩, by omega, by omega⟩, by omega⟩
        rw [e3]
        by_cases h1 : usedD v b r = 1
        · rw [if_pos h1] at hf2
          have : out_2 ≠ [] := fun e => hne2 h1 (by rw [← hf2, e]; rfl)
          rw [restS, if_pos ⟨h1, this⟩]; exact hf2
        · rw [if_neg h1] at hf2
          rw [restS, if_neg fun g => h1 g.1]; exact hf2
  · rw [List.drop_eq_nil_of_le (by omega), selD_nil] at hf
    rw [List.take_of_length_le (by omega)] at hfi
    have : out = allD v b r := by
      rw [← hf]; unfold restS; split <;> simp
    subst hfi
    rw [this]; rfl
end Go.Proofs.Ytgbfcjnkohhfoaa
