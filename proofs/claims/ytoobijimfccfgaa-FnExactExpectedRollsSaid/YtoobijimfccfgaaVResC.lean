/-
  Contracts: results of rolls, of the reference and of the program.
-/
import Derived.Test.YtoobijimfccfgaaVResB
import Derived.Test.YtoobijimfccfgaaVGame
namespace Go.Proofs.Ytoobijimfccfgaa
open Go.RowKit
set_option linter.unusedSimpArgs false
set_option linter.unusedVariables false
theorem fits_ok : ∀ {zs : List Int} {left : Int}, fitsP left zs = true → 0 ≤ left → NN zs ∧ zs.sum ≤ left
  | [], left, _, h0 => ⟨fun j => by simp, by simpa using h0⟩
  | z :: zs, left, h, h0 => by
    simp only [fitsP, Bool.and_eq_true, decide_eq_true_eq] at h
    obtain ⟨⟨h1, h2⟩, h3⟩ := h
    obtain ⟨i1, i2⟩ := fits_ok h3 (by omega)
    refine ⟨fun j => ?_, by simp only [List.sum_cons]; omega⟩
    cases j with
    | zero => exact h1
    | succ j => simpa using i1 j
theorem fits_of : ∀ {zs : List Int} {left : Int}, NN zs → zs.sum ≤ left → fitsP left zs = true
  | [], _, _, _ => rfl
  | z :: zs, left, h, h0 => by
    have h1 : 0 ≤ z := h 0
    have h2 : NN zs := fun j => by simpa using h (j + 1)
    have h3 := sum_nn h2
    simp only [List.sum_cons] at h0
    simp only [fitsP, Bool.and_eq_true, decide_eq_true_eq]
    exact ⟨⟨h1, by omega⟩, fits_of h2 (by omega)⟩
theorem bear_ok {v : DVar} {p : List Int} (hv : varD v = true) (hb : bearD v p = true) : OkP p.length p ∧ 0 < p.length ∧ p.length ≤ 24 ∧ p.sum ≤ v.2.1 ∧ (p.length : Int) = v.2.2.1 := by
  obtain ⟨⟨g1, g1'⟩, ⟨g2, g2'⟩, ⟨g3, g3'⟩, g4⟩ := varD_iff.1 hv
  simp only [bearD, Bool.and_eq_true, decide_eq_true_eq] at hb
  obtain ⟨h1, h2⟩ := fits_ok hb.2 (by omega)
  exact ⟨⟨rfl, h1, by omega⟩, by omega, by omega, h2, hb.1⟩
theorem roll_ok {v : DVar} {r : DRoll} (h : rollD v r = true) : varD v = true ∧ 1 ≤ r.2 ∧ r.2 ≤ r.1 ∧ r.1 ≤ 6 ∧ r.1 ≤ v.2.2.2 := by
  simp only [rollD, Bool.and_eq_true, inB, decide_eq_true_eq] at h
  obtain ⟨_, _, _, v7, v8⟩ := varD_iff.1 h.1.1
  exact ⟨h.1.1, h.2.1, h.2.2, by omega, h.1.2.2⟩
structure ResOk (p : List Int) (r : DRoll) : Prop where
  ok : OkP p.length p
  n0 : 0 < p.length
  n : p.length ≤ 24
  lo : 1 ≤ r.2
  mid : r.2 ≤ r.1
  hi : r.1 ≤ 6
theorem ResOk.walk {p : List Int} {r : DRoll} (h : ResOk p r) {ds : List Int} (hd : ∀ d, d ∈ ds → d = r.1 ∨ d = r.2) : WalkOk p ds :=
  ⟨h.ok, h.n0, h.n, fun d hh => by have := hd d hh; have := h.lo; have := h.mid; omega, fun d hh => by have := hd d hh; have := h.hi; have := h.mid; omega⟩
/-- results of a roll, with a code -/
def brD (v : DVar) (p : List Int) (r : DRoll) : List (List Int) × Int := if codeP v p ≠ 0 then ([], codeP v p) else if rollD v r = false then ([], 2) else (resP p r, 0)
theorem br_ok {v : DVar} {p : List Int} {r : DRoll} (h1 : codeP v p = 0) (h2 : rollD v r = true) : ResOk p r ∧ varD v = true ∧ bearD v p = true := by
  obtain ⟨hv, k1, k2, k3, _⟩ := roll_ok h2
  unfold codeP at h1
  rw [if_neg (by rw [hv]; decide)] at h1
  have hb : bearD v p = true := by
    cases h : bearD v p with
    | true => rfl
    | false => rw [if_pos h] at h1; cases h1
  obtain ⟨b1, b2, b3, _⟩ := bear_ok hv hb
  exact ⟨⟨b1, b2, b3, k1, k2, k3⟩, hv, hb⟩
/-- where the loop stands that puts one list into the other -/
structure PutI (p : List Int) (r : DRoll) (out : List (List Int)) (n : Int) (more : List (List Int)) (m i : Int) : Prop where
  h1 : more = (walkP [r.2, r.1] p).1
  h2 : m = (walkP [r.2, r.1] p).2
  h3 : n = (walkP [r.1, r.2] p).2
  h4 : out = (more.take i.toNat).foldl putD (walkP [r.1, r.2] p).1
  h5 : 0 ≤ i ∧ i ≤ (more.length : Int)
  h6 : 0 < i → m = n
theorem PutI.fin {p : List Int} {r : DRoll} {out : List (List Int)} {n : Int} {more : List (List Int)} {m i : Int} (h : PutI p r out n more m i) (hr : r.1 ≠ r.2) (hnm : ¬ n < m) (hf : i = more.length ∨ m ≠ n) : specRes p r = out := by
  obtain ⟨h1, h2, h3, h4, h5, h6⟩ := h
  unfold specRes
  rw [if_neg hr, ← h1, ← h2, ← h3, if_neg hnm]
  by_cases e : m = n
  · have : i = more.length := hf.resolve_right (fun h => h e)
    rw [if_pos e, h4, this, Int.toNat_natCast, List.take_length]
  · have : i = 0 := Classical.byContradiction fun hk => e (h6 (by omega))
    rw [if_neg e, h4, this]; simp
theorem PutI.next {p : List Int} {r : DRoll} {out : List (List Int)} {n : Int} {more : List (List Int)} {m : Int} {k : Nat} (h : PutI p r out n more m k) (hk : k < more.length) (e : m = n) : PutI p r (putD out (more.getD k [])) n more m ((k : Int) + 1) := by
  obtain ⟨h1, h2, h3, h4, h5, h6⟩ := h
  refine ⟨h1, h2, h3, ?_, by omega, fun _ => e⟩
  rw [show ((k : Int) + 1).toNat = k + 1 by omega, ← List.take_append_getElem hk, List.foldl_append, h4, Int.toNat_natCast, List.getD_eq_getElem?_getD, List.getElem?_eq_getElem hk]; rfl
theorem PutI.all {p : List Int} {r : DRoll} {out : List (List Int)} {n : Int} {more : List (List Int)} {m i : Int} (h : PutI p r out n more m i) (hp : ResOk p r) : AllP p.length more ∧ AllP p.length out ∧ more.length ≤ 625 ∧ out.length ≤ 1250 := by
  obtain ⟨h1, h2, h3, h4, h5, h6⟩ := h
  have w1 := hp.walk (ds := [r.2, r.1]) (fun d hd => by simp at hd; omega)
  have w2 := hp.walk (ds := [r.1, r.2]) (fun d hd => by simp at hd; omega)
  obtain ⟨a1, a2, _, _⟩ := walk_all hp.n w1.d hp.ok
  obtain ⟨b1, b2, _, _⟩ := walk_all hp.n w2.d hp.ok
  rw [← h1] at a1 a2
  have a2' : more.length ≤ 625 := a2
  have b2' : (walkP [r.1, r.2] p).1.length ≤ 625 := b2
  refine ⟨a1, ?_, a2', ?_⟩
  · rw [h4]; exact put_all (fun x hx => a1 x (List.mem_of_mem_take hx)) b1
  · rw [h4]
    have := foldP_length (more.take i.toNat) (walkP [r.1, r.2] p).1
    rw [List.length_take] at this
    omega
theorem step1_len {n : Nat} (hn0 : 0 < n) (hn : n ≤ 24) {d : Int} {q : List Int} (h : OkP n q) : (step1 d q).length ≤ 24 := by
  unfold step1
  split
  · simp
  · have := stepsP_length q d
    rw [h.len] at this; omega
theorem flat_len {n : Nat} (hn0 : 0 < n) (hn : n ≤ 24) {d : Int} : ∀ {row : List (List Int)}, AllP n row → (row.flatMap (step1 d)).length ≤ row.length * 24
  | [], _ => by simp
  | q :: row, h => by
    have h1 := step1_len hn0 hn (d := d) (h q (by simp))
    have h2 := flat_len hn0 hn (d := d) (row := row) fun x hx => h x (List.mem_cons_of_mem _ hx)
    rw [List.flatMap_cons, List.length_append, List.length_cons, Nat.add_mul]; omega
theorem step1_ne {n : Nat} {d : Int} {q : List Int} (h : OkP n q) : step1 d q ≠ [] := by
  unfold step1
  split
  · simp
  · next hs => exact stepsP_ne h d hs
theorem flat_ne {n : Nat} {d : Int} {row : List (List Int)} (h : AllP n row) (hne : row ≠ []) : row.flatMap (step1 d) ≠ [] := by
  obtain ⟨q, hq⟩ := List.exists_mem_of_ne_nil _ hne
  obtain ⟨x, hx⟩ := List.exists_mem_of_ne_nil _ (step1_ne (d := d) (h q hq))
  exact List.ne_nil_of_mem (List.mem_flatMap.2 ⟨q, hq, hx⟩)
theorem canonD_ne {n : Nat} {l : List (List Int)} (h : LenL n l) (hne : l ≠ []) : canonD l ≠ [] := by
  obtain ⟨q, hq⟩ := List.exists_mem_of_ne_nil _ hne
  exact List.ne_nil_of_mem (((canonD_all h).2.2 q).2 hq)
theorem rows_all {n : Nat} (hn0 : 0 < n) (hn : n ≤ 24) : ∀ {ds : List Int} {row : List (List Int)}, DiceP ds → AllP n row → row ≠ [] → AllP n (ds.foldl rowStep row) ∧ ds.foldl rowStep row ≠ [] ∧ (ds.foldl rowStep row).length ≤ row.length * 24 ^ ds.length
  | [], row, _, h, hne => ⟨h, hne, by simp⟩
  | d :: ds, row, hd, h, hne => by
    have hd1 := hd d (by simp)
    obtain ⟨i1, i2, i3⟩ := rows_all hn0 hn (ds := ds) (row := rowStep row d) (fun x hx => hd x (List.mem_cons_of_mem _ hx)) (rowStep_ok hd1 h).1 (canonD_ne (step1_ok hd1 h).len (flat_ne h hne))
    refine ⟨i1, i2, ?_⟩
    have h1 := canonD_length (row.flatMap (step1 d))
    have h2 := flat_len hn0 hn (d := d) h
    have h3 : (rowStep row d).length ≤ row.length * 24 := Nat.le_trans h1 h2
    have h4 : (rowStep row d).length * 24 ^ ds.length ≤ row.length * 24 * 24 ^ ds.length := Nat.mul_le_mul_right _ h3
    rw [List.foldl_cons, List.length_cons, Nat.pow_succ]
    rw [Nat.mul_assoc, Nat.mul_comm 24] at h4
    omega
theorem pow24 {k : Nat} (h : k ≤ 4) : 24 ^ k ≤ 331776 := Nat.le_trans (Nat.pow_le_pow_right (by omega) h) (by decide)
theorem ordP_len (r : Int × Int) : (ordP r).length ≤ 2 := by unfold ordP; split <;> simp
theorem getO_mem {l : List (List Int)} {k : Nat} (h : k < l.length) : l.getD k [] ∈ l := getP_mem h
/-- where the loop over the dice stands -/
structure R1 (p : List Int) (r : DRoll) (res row : List (List Int)) (o : List Int) (i j : Int) : Prop where
  ho : o = (ordP r).getD i.toNat []
  hi : 0 ≤ i ∧ i < ((ordP r).length : Int)
  hres : res = ((ordP r).take i.toNat).flatMap fun o => rowsP o p
  hrow : row = (o.take j.toNat).foldl rowStep [p]
  hj : 0 ≤ j ∧ j ≤ (o.length : Int)
/-- where the loop over a row stands -/
structure R2 (p : List Int) (r : DRoll) (res row : List (List Int)) (o : List Int) (i j die : Int) (next : List (List Int)) (k no : Int) : Prop where
  h1 : R1 p r res row o i j
  hj : j < (o.length : Int)
  hdie : die = o.getD j.toNat 0
  hnext : next = (row.take k.toNat).flatMap (step1 die)
  hk : 0 ≤ k ∧ k ≤ (row.length : Int)
  hno : no = (o.length : Int)
theorem R1.dice {p : List Int} {r : DRoll} {res row : List (List Int)} {o : List Int} {i j : Int} (h : R1 p r res row o i j) (hp : ResOk p r) : DiceP o ∧ o.length ≤ 4 ∧ o ≠ [] ∧ ∀ d, d ∈ o → d ≤ 6 := by
  have hm : o ∈ ordP r := by rw [h.ho]; exact getO_mem (by have := h.hi; omega)
  obtain ⟨h1, h2, h3, h4⟩ := ordP_dice hp.lo hp.mid o hm
  exact ⟨h1, h2, h3, fun d hd => by have := h4 d hd; have := hp.hi; omega⟩
theorem R1.all {p : List Int} {r : DRoll} {res row : List (List Int)} {o : List Int} {i j : Int} (h : R1 p r res row o i j) (hp : ResOk p r) : AllP p.length row ∧ row ≠ [] ∧ row.length ≤ 331776 := by
  obtain ⟨d1, d2, _, _⟩ := h.dice hp
  obtain ⟨a1, a2, a3⟩ := rows_all hp.n0 hp.n (ds := o.take j.toNat) (row := [p]) (fun x hx => d1 x (List.mem_of_mem_take hx)) (fun q hq => by simp only [List.mem_singleton] at hq; subst hq; exact hp.ok) (by simp)
  rw [h.hrow]
  refine ⟨a1, a2, ?_⟩
  have := pow24 (k := (o.take j.toNat).length) (by rw [List.length_take]; omega)
  simp only [List.length_singleton, Nat.one_mul] at a3
  omega
theorem rows_len {p : List Int} {r : DRoll} (hp : ResOk p r) {o : List Int} (ho : o ∈ ordP r) : (rowsP o p).length ≤ 331776 := by
  obtain ⟨h1, h2, _, _⟩ := ordP_dice hp.lo hp.mid o ho
  obtain ⟨_, _, a3⟩ := rows_all hp.n0 hp.n (ds := o) (row := [p]) h1 (fun q hq => by simp only [List.mem_singleton] at hq; subst hq; exact hp.ok) (by simp)
  have := pow24 h2
  simp only [List.length_singleton, Nat.one_mul] at a3
  unfold rowsP; omega
theorem res_len {p : List Int} {r : DRoll} (hp : ResOk p r) : ∀ (l : List (List Int)), (∀ o, o ∈ l → o ∈ ordP r) → (l.flatMap fun o => rowsP o p).length ≤ l.length * 331776
  | [], _ => by simp
  | o :: l, h => by
    have h1 := rows_len hp (h o (by simp))
    have h2 := res_len hp l fun x hx => h x (List.mem_cons_of_mem _ hx)
    rw [List.flatMap_cons, List.length_append, List.length_cons, Nat.add_mul]; omega
theorem res_all {p : List Int} {r : DRoll} (hp : ResOk p r) {l : List (List Int)} (h : ∀ o, o ∈ l → o ∈ ordP r) : AllP p.length (l.flatMap fun o => rowsP o p) := fun x hx => by
  obtain ⟨o, ho, hx⟩ := List.mem_flatMap.1 hx
  exact (rows_all hp.n0 hp.n (ordP_dice hp.lo hp.mid o (h o ho)).1 (fun q hq => by simp only [List.mem_singleton] at hq; subst hq; exact hp.ok) (by simp)).1 x hx
theorem R1.resLen {p : List Int} {r : DRoll} {res row : List (List Int)} {o : List Int} {i j : Int} (h : R1 p r res row o i j) (hp : ResOk p r) : res.length ≤ 663552 := by
  rw [h.hres]
  have := res_len hp ((ordP r).take i.toNat) fun o ho => List.mem_of_mem_take ho
  have := ordP_len r
  rw [List.length_take] at *
  omega
theorem R2.next {p : List Int} {r : DRoll} {res row : List (List Int)} {o : List Int} {i j die : Int} {next : List (List Int)} {k : Nat} {no : Int} (h : R2 p r res row o i j die next k no) (hk : k < row.length) : R2 p r res row o i j die (next ++ step1 die (row.getD k [])) ((k : Int) + 1) no := by
  obtain ⟨h1, h2, h3, h4, h5, h6⟩ := h
  refine ⟨h1, h2, h3, ?_, by omega, h6⟩
  rw [show ((k : Int) + 1).toNat = k + 1 by omega, ← List.take_append_getElem hk, List.flatMap_append, h4, Int.toNat_natCast, List.getD_eq_getElem?_getD, List.getElem?_eq_getElem hk]
  simp
theorem R2.die {p : List Int} {r : DRoll} {res row : List (List Int)} {o : List Int} {i j die : Int} {next : List (List Int)} {k no : Int} (h : R2 p r res row o i j die next k no) (hp : ResOk p r) : 1 ≤ die ∧ die ≤ 6 := by
  obtain ⟨d1, _, _, d4⟩ := h.h1.dice hp
  have hj := h.hj
  have hj0 := h.h1.hj
  have hm : die ∈ o := by rw [h.hdie, List.getD_eq_getElem?_getD, List.getElem?_eq_getElem (by omega)]; exact List.getElem_mem (by omega)
  exact ⟨d1 _ hm, d4 _ hm⟩
theorem R2.nlen {p : List Int} {r : DRoll} {res row : List (List Int)} {o : List Int} {i j die : Int} {next : List (List Int)} {k no : Int} (h : R2 p r res row o i j die next k no) (hp : ResOk p r) : next.length ≤ 7962624 := by
  obtain ⟨a1, _, a3⟩ := h.h1.all hp
  rw [h.hnext]
  have := flat_len hp.n0 hp.n (d := die) (row := row.take k.toNat) fun x hx => a1 x (List.mem_of_mem_take hx)
  rw [List.length_take] at this
  omega
theorem R2.done {p : List Int} {r : DRoll} {res row : List (List Int)} {o : List Int} {i j die : Int} {next : List (List Int)} {k no : Int} (h : R2 p r res row o i j die next k no) (hp : ResOk p r) (hk : (row.length : Int) ≤ k) : PosOk next ∧ R1 p r res (canonD next) o i (j + 1) := by
  have hd := h.die hp
  have hl := h.nlen hp
  obtain ⟨a1, a2, a3⟩ := h.h1.all hp
  obtain ⟨h1, h2, h3, h4, h5, h6⟩ := h
  have hn : next = row.flatMap (step1 die) := by rw [h4, List.take_of_length_le (by omega)]
  have hj0 := h1.hj
  refine ⟨⟨by rw [hn]; exact flat_ne a1 a2, by omega, p.length, hp.n0, hp.n, by rw [hn]; exact step1_ok hd.1 a1⟩, h1.ho, h1.hi, h1.hres, ?_, by omega⟩
  obtain ⟨jj, rfl⟩ : ∃ x : Nat, j = x := ⟨j.toNat, by omega⟩
  rw [show ((jj : Int) + 1).toNat = jj + 1 by omega, ← List.take_append_getElem (by omega : jj < o.length), List.foldl_append]
  have e : die = o[jj]'(by omega) := by rw [h3, Int.toNat_natCast, List.getD_eq_getElem?_getD, List.getElem?_eq_getElem (by omega)]; rfl
  have hr := h1.hrow
  rw [Int.toNat_natCast] at hr
  rw [← hr, List.foldl_cons, List.foldl_nil, ← e, hn]; rfl
def c_spec_l10Results : Con where
  ins := [(true, .v tVar), (false, .v tSI), (true, .v tRoll)]
  outs := [(false, .own 24 tSI)]
  sh := false
  pre := fun x => ResOk x.2.1 x.2.2.1
  out := fun x => (specRes x.2.1 x.2.2.1, ())
  upd := fun x => x
  eat := false
theorem k_spec_l10Results [B : Base] : ConOk Try.prog 34 c_spec_l10Results := by
  refine fn_okW (C := cx Try.prog 76 c_spec_l10Results) (cs := [(49, c_spec_l10Walk), (50, c_spec_l10Put)]) (res := Try.f34.results.toList) (fun x => ⟨[{ sh := ⟨[(9, .one (.ref 0)), (10, .one (.i .i64)), (11, .one (.ref 1)), (12, .one (.i .i64)), (13, .one (.i .i64))], [(0, .own 24 tSI true), (1, .own 24 tSI true)]⟩, nx := 2, I := fun _ dat_ => ((walkP [x.2.2.1.1, x.2.2.1.2] x.2.1).2 = dat_.1.2.1 ∧ (walkP [x.2.2.1.2, x.2.2.1.1] x.2.1).2 = dat_.1.2.2.2.1 ∧ (walkP [x.2.2.1.2, x.2.2.1.1] x.2.1).1 = dat_.2.2.1) ∧ (PutI x.2.1 x.2.2.1 dat_.2.1 dat_.1.2.1 dat_.2.2.1 dat_.1.2.2.2.1 dat_.1.2.2.2.2.1), mu := fun dat_ => Int.toNat ((List.length dat_.2.2.1 : Int) - dat_.1.2.2.2.2.1) }], [], []⟩) Try.func34 (by kernel_rfl) rfl rfl rfl tysOk.look eqTsOk.look (AllCs.ok (l := [(49, c_spec_l10Walk), (50, c_spec_l10Put)]) ⟨k_spec_l10Walk, k_spec_l10Put, trivial⟩) mixed rfl rfl rfl rfl ?_
  refine of_nf (P := ∀ v : Int × Int × Int × Int, ∀ p : List Int, ∀ r : Int × Int, (ResOk p r) → ((lensI c_spec_l10Results.ins (v, p, r, ())) → (bsp (decide (r.1 = r.2)) ((WalkOk p [r.1, r.1, r.1, r.1] ∧ List.length [r.1, r.1, r.1, r.1] ≤ 4) ∧ (@Eq (HO c_spec_l10Results.outs) ((walkP [r.1, r.1, r.1, r.1] p).1, ()) (c_spec_l10Results.out (v, p, r, ())))) ((WalkOk p [r.1, r.2] ∧ List.length [r.1, r.2] ≤ 4) ∧ ((WalkOk p [r.2, r.1] ∧ List.length [r.2, r.1] ≤ 4) ∧ (bsp (decide ((walkP [r.1, r.2] p).2 < (walkP [r.2, r.1] p).2)) (@Eq (HO c_spec_l10Results.outs) ((walkP [r.2, r.1] p).1, ()) (c_spec_l10Results.out (v, p, r, ()))) ((((walkP [r.1, r.2] p).2 = (walkP [r.1, r.2] p).2 ∧ (walkP [r.2, r.1] p).2 = (walkP [r.2, r.1] p).2 ∧ (walkP [r.2, r.1] p).1 = (walkP [r.2, r.1] p).1) ∧ (PutI p r (walkP [r.1, r.2] p).1 (walkP [r.1, r.2] p).2 (walkP [r.2, r.1] p).1 (walkP [r.2, r.1] p).2 (0 : Int))) ∧ (∀ n : Int, ∀ m : Int, ∀ i : Int, ∀ out : List (List Int), ∀ more : List (List Int), (((walkP [r.1, r.2] p).2 = n ∧ (walkP [r.2, r.1] p).2 = m ∧ (walkP [r.2, r.1] p).1 = more) ∧ (PutI p r out n more m i)) → (bsp (decide (i < (more.length : Int))) (bsp (decide (m = n)) ((0 ≤ i ∧ i < (more.length : Int)) ∧ ((i.toNat < more.length) ∧ ((PutOk out (more.getD i.toNat [])) ∧ ((inK .i64 (i + 1)) ∧ ((((walkP [r.1, r.2] p).2 = n ∧ (walkP [r.2, r.1] p).2 = m ∧ (walkP [r.2, r.1] p).1 = more) ∧ (PutI p r (putD out (more.getD i.toNat [])) n more m (i + 1))) ∧ ((Int.toNat ((List.length more : Int) - (i + 1)) : Nat) < Int.toNat ((List.length more : Int) - i))))))) (@Eq (HO c_spec_l10Results.outs) (out, ()) (c_spec_l10Results.out (v, p, r, ())))) (@Eq (HO c_spec_l10Results.outs) (out, ()) (c_spec_l10Results.out (v, p, r, ())))))))))))) (by kernel_rfl) ?_
  rintro v p r hp hl
  have outc : ∀ c, specRes p r = c → @Eq (HO c_spec_l10Results.outs) (c, ()) (c_spec_l10Results.out (v, p, r, ())) := fun c h => by subst h; rfl
  refine bspD (fun h => ⟨⟨hp.walk (fun d hd => by simp at hd; omega), by simp⟩, outc _ (by unfold specRes; rw [if_pos h])⟩) (fun h => ⟨⟨hp.walk (fun d hd => by simp at hd; omega), by simp⟩, ⟨hp.walk (fun d hd => by simp at hd; omega), by simp⟩, bspD (fun hnm => outc _ (by unfold specRes; rw [if_neg h, if_pos hnm])) (fun hnm => ⟨⟨(by first | trivial | rfl | (and_intros <;> rfl)), ⟨rfl, rfl, rfl, by simp, by omega, fun h => absurd h (by omega)⟩⟩, ?_⟩)⟩)
  rintro n m i out more ⟨⟨rfl, rfl, rfl⟩, hI⟩
  obtain ⟨k, rfl⟩ : ∃ x : Nat, i = x := ⟨i.toNat, by have := hI.h5; omega⟩
  obtain ⟨a1, a2, a3, a4⟩ := hI.all hp
  refine bspD (fun hlt => bspD (fun he => ?_) (fun he => outc _ (hI.fin h hnm (.inr he)))) (fun hge => outc _ (hI.fin h hnm (.inl (by have := hI.h5; omega))))
  have hkl : k < (walkP [r.2, r.1] p).1.length := by omega
  have hql := (a1 _ (getP_mem hkl)).len
  simp only [Int.toNat_natCast]
  exact ⟨⟨by omega, by omega⟩, hkl, ⟨by rw [hql]; exact a2.len, by rw [hql]; exact hp.n, by omega⟩, by simp only [inK]; omega, ⟨(by first | trivial | rfl | (and_intros <;> rfl)), hI.next hkl he⟩, by omega⟩
def c_impl_bearoffResults : Con where
  ins := [(false, .v tSI), (true, .v tRoll)]
  outs := [(false, .own 24 tSI)]
  sh := false
  pre := fun x => ResOk x.1 x.2.1
  out := fun x => (implRes x.1 x.2.1, ())
  upd := fun x => x
  eat := false
theorem k_impl_bearoffResults [B : Base] : ConOk Try.prog 58 c_impl_bearoffResults := by
  refine fn_okW (C := cx Try.prog 58 c_impl_bearoffResults) (cs := [(69, c_impl_ordersOf), (70, c_slices_Clone_int64_int64_), (29, c_impl_total), (71, c_impl_bearoffSteps), (72, c_impl_sortedPositions)]) (res := Try.f58.results.toList) (fun x => ⟨[{ sh := ⟨[(0, .one (.ref 0)), (5, .one (.ref 1)), (15, .one (.ref 2)), (16, .one (.i .i64)), (17, .one (.i .i64))], [(0, .imm tI false), (1, .own 24 tSI true), (2, .imm tSI true)]⟩, nx := 3, I := fun _ dat_ => (((ordP x.2.1).length : Int) = dat_.1.2.2.2.1 ∧ x.1 = dat_.2.1 ∧ ordP x.2.1 = dat_.2.2.2.1) ∧ (dat_.2.2.1 = List.flatMap (fun o => rowsP o x.1) (List.take (Int.toNat dat_.1.2.2.2.2.1) (ordP x.2.1)) ∧ 0 ≤ dat_.1.2.2.2.2.1 ∧ dat_.1.2.2.2.2.1 ≤ (List.length (ordP x.2.1) : Int)), mu := fun dat_ => Int.toNat ((List.length (ordP x.2.1) : Int) - dat_.1.2.2.2.2.1) }, { sh := ⟨[(0, .one (.ref 0)), (5, .one (.ref 1)), (8, .one (.ref 2)), (15, .one (.ref 3)), (16, .one (.i .i64)), (17, .one (.i .i64)), (24, .one (.ref 4)), (25, .one (.i .i64)), (26, .one (.i .i64))], [(0, .imm tI false), (1, .own 24 tSI true), (2, .own 24 tSI true), (3, .imm tSI true), (4, .imm tI true)]⟩, nx := 5, I := fun g_ dat_ => (((ordP x.2.1).length : Int) = dat_.1.2.2.2.2.1 ∧ (((ordP x.2.1).getD dat_.1.2.2.2.2.2.1.toNat []).length : Int) = dat_.1.2.2.2.2.2.2.2.1 ∧ x.1 = dat_.2.1 ∧ (ordP x.2.1) = dat_.2.2.2.2.1 ∧ ((ordP x.2.1).getD dat_.1.2.2.2.2.2.1.toNat []) = dat_.2.2.2.2.2.1) ∧ (R1 x.1 x.2.1 dat_.2.2.1 dat_.2.2.2.1 dat_.2.2.2.2.2.1 dat_.1.2.2.2.2.2.1 dat_.1.2.2.2.2.2.2.2.2.1 ∧ (g_.headD 0) = Int.toNat ((List.length (ordP x.2.1) : Int) - dat_.1.2.2.2.2.2.1)), mu := fun dat_ => Int.toNat ((List.length dat_.2.2.2.2.2.1 : Int) - dat_.1.2.2.2.2.2.2.2.2.1) }, { sh := ⟨[(0, .one (.ref 0)), (5, .one (.ref 1)), (10, .one (.i .i64)), (11, .one (.ref 2)), (15, .one (.ref 3)), (16, .one (.i .i64)), (17, .one (.i .i64)), (24, .one (.ref 4)), (25, .one (.i .i64)), (26, .one (.i .i64)), (30, .one (.ref 5)), (31, .one (.i .i64)), (32, .one (.i .i64))], [(0, .imm tI false), (1, .own 24 tSI true), (2, .own 24 tSI true), (3, .imm tSI true), (4, .imm tI true), (5, .own 24 tSI true)]⟩, nx := 6, I := fun g_ dat_ => ((dat_.2.2.2.2.2.1.getD dat_.1.2.2.2.2.2.2.2.2.2.1.toNat 0) = dat_.1.2.2.1 ∧ ((ordP x.2.1).length : Int) = dat_.1.2.2.2.2.2.1 ∧ (dat_.2.2.2.2.2.2.1.length : Int) = dat_.1.2.2.2.2.2.2.2.2.2.2.2.1 ∧ x.1 = dat_.2.1 ∧ (ordP x.2.1) = dat_.2.2.2.2.1) ∧ (R2 x.1 x.2.1 dat_.2.2.1 dat_.2.2.2.2.2.2.1 dat_.2.2.2.2.2.1 dat_.1.2.2.2.2.2.2.1 dat_.1.2.2.2.2.2.2.2.2.2.1 dat_.1.2.2.1 dat_.2.2.2.1 dat_.1.2.2.2.2.2.2.2.2.2.2.2.2.1 dat_.1.2.2.2.2.2.2.2.2.1 ∧ (g_.headD 0) = Int.toNat ((List.length dat_.2.2.2.2.2.1 : Int) - dat_.1.2.2.2.2.2.2.2.2.2.1) ∧ (g_.tail.headD 0) = Int.toNat ((List.length (ordP x.2.1) : Int) - dat_.1.2.2.2.2.2.2.1)), mu := fun dat_ => Int.toNat ((List.length dat_.2.2.2.2.2.2.1 : Int) - dat_.1.2.2.2.2.2.2.2.2.2.2.2.2.1) }], [], []⟩) Try.func58 (by kernel_rfl) rfl rfl rfl tysOk.look eqTsOk.look (AllCs.ok (l := [(69, c_impl_ordersOf), (70, c_slices_Clone_int64_int64_), (29, c_impl_total), (71, c_impl_bearoffSteps), (72, c_impl_sortedPositions)]) ⟨k_impl_ordersOf, k_slices_Clone_int64_int64_, k_impl_total, k_impl_bearoffSteps, k_impl_sortedPositions, trivial⟩) mixed rfl rfl rfl rfl ?_
  refine of_nf (P := ∀ p : List Int, ∀ r : Int × Int, (ResOk p r) → ((lensI c_impl_bearoffResults.ins (p, r, ())) → (True ∧ (((((ordP r).length : Int) = ((ordP r).length : Int) ∧ p = p ∧ ordP r = (ordP r)) ∧ ([] = List.flatMap (fun o => rowsP o p) (List.take (Int.toNat (0 : Int)) (ordP r)) ∧ 0 ≤ (0 : Int) ∧ (0 : Int) ≤ (List.length (ordP r) : Int))) ∧ (∀ n0 : Int, ∀ i : Int, ∀ t0 : List Int, ∀ res : List (List Int), ∀ ords : List (List Int), ((((ordP r).length : Int) = n0 ∧ p = t0 ∧ ordP r = ords) ∧ (res = List.flatMap (fun o => rowsP o p) (List.take (Int.toNat i) (ordP r)) ∧ 0 ≤ i ∧ i ≤ (List.length (ordP r) : Int))) → (bsp (decide (i < n0)) ((0 ≤ i ∧ i < (ords.length : Int)) ∧ ((i.toNat < ords.length) ∧ ((t0 ≠ [] ∧ List.length t0 ≤ 1099511627776) ∧ (((((ordP r).length : Int) = n0 ∧ (((ordP r).getD i.toNat []).length : Int) = ((ords.getD i.toNat []).length : Int) ∧ p = t0 ∧ (ordP r) = ords ∧ ((ordP r).getD i.toNat []) = (ords.getD i.toNat [])) ∧ (R1 p r res [t0] (ords.getD i.toNat []) i (0 : Int) ∧ (Int.toNat ((List.length (ordP r) : Int) - i)) = Int.toNat ((List.length (ordP r) : Int) - i))) ∧ (∀ n1 : Int, ∀ i1 : Int, ∀ no : Int, ∀ j : Int, ∀ t0x1 : List Int, ∀ res1 : List (List Int), ∀ row : List (List Int), ∀ ord1 : List (List Int), ∀ o : List Int, ((((ordP r).length : Int) = n1 ∧ (((ordP r).getD i1.toNat []).length : Int) = no ∧ p = t0x1 ∧ (ordP r) = ord1 ∧ ((ordP r).getD i1.toNat []) = o) ∧ (R1 p r res1 row o i1 j ∧ (Int.toNat ((List.length (ordP r) : Int) - i)) = Int.toNat ((List.length (ordP r) : Int) - i1))) → (bsp (decide (j < no)) ((0 ≤ j ∧ j < (o.length : Int)) ∧ ((j.toNat < o.length) ∧ ((((o.getD j.toNat 0) = (o.getD j.toNat 0) ∧ ((ordP r).length : Int) = n1 ∧ (row.length : Int) = (row.length : Int) ∧ p = t0x1 ∧ (ordP r) = ord1) ∧ (R2 p r res1 row o i1 j (o.getD j.toNat 0) [] (0 : Int) no ∧ (Int.toNat ((List.length o : Int) - j)) = Int.toNat ((List.length o : Int) - j) ∧ (Int.toNat ((List.length (ordP r) : Int) - i)) = Int.toNat ((List.length (ordP r) : Int) - i1))) ∧ (∀ die : Int, ∀ n2 : Int, ∀ i2 : Int, ∀ no2 : Int, ∀ j2 : Int, ∀ nr : Int, ∀ k : Int, ∀ t0x2 : List Int, ∀ res2 : List (List Int), ∀ next : List (List Int), ∀ ord2 : List (List Int), ∀ o2 : List Int, ∀ row2 : List (List Int), (((o2.getD j2.toNat 0) = die ∧ ((ordP r).length : Int) = n2 ∧ (row2.length : Int) = nr ∧ p = t0x2 ∧ (ordP r) = ord2) ∧ (R2 p r res2 row2 o2 i2 j2 die next k no2 ∧ (Int.toNat ((List.length o : Int) - j)) = Int.toNat ((List.length o2 : Int) - j2) ∧ (Int.toNat ((List.length (ordP r) : Int) - i)) = Int.toNat ((List.length (ordP r) : Int) - i2))) → (bsp (decide (k < nr)) ((0 ≤ k ∧ k < (row2.length : Int)) ∧ ((k.toNat < row2.length) ∧ ((Bd (row2.getD k.toNat [])) ∧ (bsp (decide ((List.sum (row2.getD k.toNat [])) = (0 : Int))) ((next.length + ([(row2.getD k.toNat [])] : List (List Int)).length ≤ AB) ∧ ((inK .i64 (k + 1)) ∧ ((((o2.getD j2.toNat 0) = die ∧ ((ordP r).length : Int) = n2 ∧ (row2.length : Int) = nr ∧ p = t0x2 ∧ (ordP r) = ord2) ∧ (R2 p r res2 row2 o2 i2 j2 die (next ++ [(row2.getD k.toNat [])]) (k + 1) no2 ∧ (Int.toNat ((List.length o : Int) - j)) = Int.toNat ((List.length o2 : Int) - j2) ∧ (Int.toNat ((List.length (ordP r) : Int) - i)) = Int.toNat ((List.length (ordP r) : Int) - i2))) ∧ ((Int.toNat ((List.length row2 : Int) - (k + 1)) : Nat) < Int.toNat ((List.length row2 : Int) - k))))) ((OkP (List.length (row2.getD k.toNat [])) (row2.getD k.toNat []) ∧ List.length (row2.getD k.toNat []) ≤ 24 ∧ 1 ≤ die ∧ die ≤ 6) ∧ ((next.length + (stepsP (row2.getD k.toNat []) die).length ≤ AB) ∧ ((inK .i64 (k + 1)) ∧ ((((o2.getD j2.toNat 0) = die ∧ ((ordP r).length : Int) = n2 ∧ (row2.length : Int) = nr ∧ p = t0x2 ∧ (ordP r) = ord2) ∧ (R2 p r res2 row2 o2 i2 j2 die (next ++ (stepsP (row2.getD k.toNat []) die)) (k + 1) no2 ∧ (Int.toNat ((List.length o : Int) - j)) = Int.toNat ((List.length o2 : Int) - j2) ∧ (Int.toNat ((List.length (ordP r) : Int) - i)) = Int.toNat ((List.length (ordP r) : Int) - i2))) ∧ ((Int.toNat ((List.length row2 : Int) - (k + 1)) : Nat) < Int.toNat ((List.length row2 : Int) - k)))))))))) ((PosOk next) ∧ ((inK .i64 (j2 + 1)) ∧ (((((ordP r).length : Int) = n2 ∧ (((ordP r).getD i2.toNat []).length : Int) = no2 ∧ p = t0x2 ∧ (ordP r) = ord2 ∧ ((ordP r).getD i2.toNat []) = o2) ∧ (R1 p r res2 (canonD next) o2 i2 (j2 + 1) ∧ (Int.toNat ((List.length (ordP r) : Int) - i)) = Int.toNat ((List.length (ordP r) : Int) - i2))) ∧ ((Int.toNat ((List.length o2 : Int) - (j2 + 1)) : Nat) < Int.toNat ((List.length o : Int) - j)))))))))) ((res1.length + row.length ≤ AB) ∧ ((inK .i64 (i1 + 1)) ∧ (((((ordP r).length : Int) = n1 ∧ p = t0x1 ∧ ordP r = ord1) ∧ ((res1 ++ row) = List.flatMap (fun o => rowsP o p) (List.take (Int.toNat (i1 + 1)) (ordP r)) ∧ 0 ≤ (i1 + 1) ∧ (i1 + 1) ≤ (List.length (ordP r) : Int))) ∧ ((Int.toNat ((List.length (ordP r) : Int) - (i1 + 1)) : Nat) < Int.toNat ((List.length (ordP r) : Int) - i))))))))))) ((PosOk res) ∧ (@Eq (HO c_impl_bearoffResults.outs) (canonD res, ()) (c_impl_bearoffResults.out (p, r, ())))))))))) (by kernel_rfl) ?_
  rintro p r hp hl
  have hp24 := hp.n
  have hpn : p ≠ [] := by intro e; have := hp.n0; rw [e] at this; simp at this
  refine ⟨trivial, ⟨(by first | trivial | rfl | (and_intros <;> rfl)), rfl, by omega, by omega⟩, ?_⟩
  rintro n0 i t0 res ords ⟨⟨rfl, rfl, rfl⟩, ⟨hr, i0, i1'⟩⟩
  obtain ⟨k0, rfl⟩ : ∃ x : Nat, i = x := ⟨i.toNat, by omega⟩
  have hol := ordP_len r
  refine bspD (fun hlt => ?_) (fun hge => ?_)
  · simp only [Int.toNat_natCast] at hr ⊢
    refine ⟨⟨by omega, by omega⟩, by omega, ⟨hpn, by omega⟩, ⟨(by first | trivial | rfl | (and_intros <;> rfl)), ⟨by rw [Int.toNat_natCast], by omega, by rw [Int.toNat_natCast]; exact hr, rfl, by omega, by omega⟩, trivial⟩, ?_⟩
    rintro n1 i1 no j t0x1 res1 row ord1 o ⟨⟨rfl, rfl, rfl, rfl, rfl⟩, ⟨h1, g1⟩⟩
    have hi1 := h1.hi
    have hj1 := h1.hj
    obtain ⟨b1, b2, b3⟩ := h1.all hp
    obtain ⟨d1, d2, d3, d4⟩ := h1.dice hp
    have hrl := h1.resLen hp
    refine bspD (fun hjl => ?_) (fun hjl => ?_)
    · refine ⟨⟨by omega, by omega⟩, by omega, ⟨(by first | trivial | rfl | (and_intros <;> rfl)), ⟨h1, by omega, rfl, rfl, by omega, rfl⟩, trivial, g1⟩, ?_⟩
      rintro die n2 i2 no2 j2 nr k t0x2 res2 next ord2 o2 row2 ⟨⟨rfl, rfl, rfl, rfl, rfl⟩, ⟨h2, g2, g3⟩⟩
      have hk2 := h2.hk
      have hj2 := h2.hj
      have hj20 := h2.h1.hj
      have hi2 := h2.h1.hi
      have hdd := h2.die hp
      have hnl := h2.nlen hp
      have hno := h2.hno
      obtain ⟨c1, c2, c3⟩ := h2.h1.all hp
      obtain ⟨e1, e2, e3, e4⟩ := h2.h1.dice hp
      obtain ⟨kk, rfl⟩ : ∃ x : Nat, k = x := ⟨k.toNat, by omega⟩
      refine bspD (fun hkl => ?_) (fun hkl => ?_)
      · have hkk : kk < row2.length := by omega
        have hq := c1 _ (getP_mem hkk)
        have hn2 := h2.next hkk
        simp only [Int.toNat_natCast] at *
        refine ⟨⟨by omega, by omega⟩, hkk, hq.bd (by rw [hq.len]; exact hp24), bspD (fun hz => ?_) (fun hz => ?_)⟩
        · rw [step1, if_pos hz] at hn2
          exact ⟨by simp [AB]; omega, by simp only [inK]; omega, ⟨(by first | trivial | rfl | (and_intros <;> rfl)), hn2, g2, g3⟩, by omega⟩
        · rw [step1, if_neg hz] at hn2
          have hsl := stepsP_length (row2.getD kk []) (o2.getD j2.toNat 0)
          rw [hq.len] at hsl
          exact ⟨⟨by rw [hq.len]; exact hq, by rw [hq.len]; exact hp24, hdd.1, hdd.2⟩, by simp only [AB]; omega, by simp only [inK]; omega, ⟨(by first | trivial | rfl | (and_intros <;> rfl)), hn2, g2, g3⟩, by omega⟩
      · obtain ⟨f1, f2⟩ := h2.done hp (by omega)
        exact ⟨f1, by simp only [inK]; omega, ⟨⟨rfl, by rw [hno, ← h2.h1.ho], rfl, rfl, h2.h1.ho.symm⟩, f2, g3⟩, by omega⟩
    · refine ⟨by simp only [AB]; omega, by simp only [inK]; omega, ⟨(by first | trivial | rfl | (and_intros <;> rfl)), ?_, by omega, by omega⟩, by omega⟩
      obtain ⟨kx, rfl⟩ : ∃ x : Nat, i1 = x := ⟨i1.toNat, by omega⟩
      rw [show ((kx : Int) + 1).toNat = kx + 1 by omega, ← List.take_append_getElem (by omega : kx < (ordP r).length), List.flatMap_append, h1.hres, Int.toNat_natCast]
      congr 1
      have ho : (ordP r).getD (kx : Int).toNat [] = (ordP r)[kx]'(by omega) := by rw [Int.toNat_natCast, List.getD_eq_getElem?_getD, List.getElem?_eq_getElem (by omega : kx < (ordP r).length)]; rfl
      have hrow := h1.hrow
      rw [List.take_of_length_le (by omega), ho] at hrow
      rw [hrow]
      simp [rowsP]
  · rw [Int.toNat_natCast, List.take_of_length_le (by omega)] at hr
    have hra := res_all hp (l := ordP r) (fun o ho => ho)
    have hrl := res_len hp (ordP r) (fun o ho => ho)
    rw [← hr] at hra hrl
    refine ⟨⟨?_, by omega, p.length, hp.n0, hp24, hra⟩, by rw [hr]; rfl⟩
    obtain ⟨o, ho⟩ : ∃ o, o ∈ ordP r := by
      by_cases e : r.1 = r.2
      · exact ⟨[r.1, r.1, r.1, r.1], by simp [ordP, e]⟩
      · exact ⟨[r.1, r.2], by simp [ordP, e]⟩
    have := (rows_all hp.n0 hp.n (ordP_dice hp.lo hp.mid o ho).1 (row := [p]) (fun q hq => by simp only [List.mem_singleton] at hq; subst hq; exact hp.ok) (by simp)).2.1
    obtain ⟨x, hx⟩ := List.exists_mem_of_ne_nil _ this
    rw [hr]
    exact List.ne_nil_of_mem (List.mem_flatMap.2 ⟨o, ho, hx⟩)
end Go.Proofs.Ytoobijimfccfgaa
