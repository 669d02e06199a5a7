/-
  Contracts: draws of boards.
-/
import Derived.Test.YtfbbclejoacioaaVDrawB
namespace Go.Proofs.Ytfbbclejoacioaa
open Go.RowKit
set_option linter.unusedSimpArgs false
set_option linter.unusedVariables false
def sideAt (v : DVar) (w : Int) (s : DSrc) : Int := if (nxtD (nxtD s w).2 10).1 = 0 then v.1 else (nxtD s w).1
def sideStep (v : DVar) (taken : List Int) (w : Int) (p : List Int × DSrc) : List Int × DSrc :=
  (if sideAt v w p.2 = v.1 ∨ taken.getD (v.1 - 1 - sideAt v w p.2).toNat 0 = 0 then p.1.set (sideAt v w p.2).toNat (p.1.getD (sideAt v w p.2).toNat 0 + 1) else p.1, (nxtD (nxtD p.2 w).2 10).2)
def sideIt (v : DVar) (taken : List Int) (w : Int) (p : List Int × DSrc) : Nat → List Int × DSrc
  | 0 => p
  | n + 1 => sideStep v taken w (sideIt v taken w p n)
def emptyD (v : DVar) : List Int := List.replicate (v.1 + 1).toNat 0
def sideW (s : DSrc) (v : DVar) : Int := 1 + (nxtD s v.1).1
def sideN (s : DSrc) (v : DVar) : Int := (nxtD (nxtD s v.1).2 (v.2.1 + 1)).1
def sideS (s : DSrc) (v : DVar) : DSrc := (nxtD (nxtD s v.1).2 (v.2.1 + 1)).2
def drawSide (s : DSrc) (v : DVar) (taken : List Int) : List Int × DSrc := sideIt v taken (sideW s v) (emptyD v, sideS s v) (sideN s v).toNat
theorem sideStep_ok {v : DVar} {tk : List Int} {w : Int} {p : List Int × DSrc} {n : Nat} (h : okS p.2) (hl : ∀ j : Nat, 0 ≤ p.1.getD j 0 ∧ p.1.getD j 0 ≤ n) :
    okS (sideStep v tk w p).2 ∧ (sideStep v tk w p).2.1 = p.2.1 ∧ (sideStep v tk w p).1.length = p.1.length ∧ ∀ j : Nat, 0 ≤ (sideStep v tk w p).1.getD j 0 ∧ (sideStep v tk w p).1.getD j 0 ≤ ((n + 1 : Nat) : Int) := by
  have h1 := nxtD_ok h w
  have h2 := nxtD_ok h1 10
  unfold sideStep
  refine ⟨h2, by simp only [nxtD_codeB], ?_, fun j => ?_⟩
  · dsimp only; split <;> simp
  · dsimp only
    have hj := hl j
    split
    · have hi := hl (sideAt v w p.2).toNat
      simp only [List.getD_eq_getElem?_getD, List.getElem?_set] at hj hi ⊢
      split
      · next e =>
        split
        · simp only [Option.getD_some]; omega
        · simp only [Option.getD_none]; omega
      · omega
    · omega
theorem sideIt_ok {v : DVar} {tk : List Int} {w : Int} {p : List Int × DSrc} (h : okS p.2) (hl : ∀ j : Nat, p.1.getD j 0 = 0) : ∀ n : Nat, okS (sideIt v tk w p n).2 ∧ (sideIt v tk w p n).2.1 = p.2.1 ∧ (sideIt v tk w p n).1.length = p.1.length ∧ ∀ j : Nat, 0 ≤ (sideIt v tk w p n).1.getD j 0 ∧ (sideIt v tk w p n).1.getD j 0 ≤ (n : Int)
  | 0 => ⟨h, rfl, rfl, fun j => by simp only [sideIt]; rw [hl j]; omega⟩
  | n + 1 => by
    obtain ⟨i1, i2, i3, i4⟩ := sideIt_ok (v := v) (tk := tk) (w := w) h hl n
    obtain ⟨j1, j2, j3, j4⟩ := sideStep_ok (v := v) (tk := tk) (w := w) i1 i4
    exact ⟨j1, j2.trans i2, j3.trans i3, j4⟩
theorem empty_at (v : DVar) (j : Nat) : (emptyD v).getD j 0 = 0 := by
  unfold emptyD
  rw [List.getD_eq_getElem?_getD, List.getElem?_replicate]
  split <;> rfl
theorem drawSide_ok {s : DSrc} {v : DVar} {tk : List Int} (hs : okS s) (hv : varD v = true) : okS (drawSide s v tk).2 ∧ (drawSide s v tk).2.1 = s.1 ∧ ((drawSide s v tk).1.length : Int) = v.1 + 1 ∧ Bd (drawSide s v tk).1 := by
  obtain ⟨g1, g2, g3, g4⟩ := varD_iff.1 hv
  have h1 := nxtD_ok hs v.1
  have b2 := nxtD_bd h1 (v.2.1 + 1)
  have h2 := nxtD_ok h1 (v.2.1 + 1)
  obtain ⟨i1, i2, i3, i4⟩ := sideIt_ok (v := v) (tk := tk) (w := sideW s v) (p := (emptyD v, sideS s v)) h2 (empty_at v) (sideN s v).toNat
  have hlen : (drawSide s v tk).1.length = (v.1 + 1).toNat := i3.trans (by simp [emptyD])
  refine ⟨i1, i2.trans (by simp only [sideS, nxtD_codeB]), by omega, by omega, fun z hz => ?_⟩
  obtain ⟨j, hj, rfl⟩ := List.getElem_of_mem hz
  have := i4 j
  have e : (drawSide s v tk).1.getD j 0 = (drawSide s v tk).1[j] := by rw [List.getD_eq_getElem?_getD, List.getElem?_eq_getElem hj]; rfl
  rw [← e]
  have hN : sideN s v ≤ v.2.1 := by unfold sideN; omega
  have hN0 : 0 ≤ sideN s v := b2.1
  unfold drawSide
  omega
def c_spec_l02DrawSide : Con where
  ins := [(false, .bx (.pr (.sl (.i .u8)) tRoll)), (true, .v tVar), (false, .v tSI)]
  outs := [(false, .own 2 tI)]
  sh := false
  pre := fun x => (okS x.1 ∧ varD x.2.1 = true) ∧ (List.length x.2.2.1 : Int) = x.2.1.1 + 1
  out := fun x => ((drawSide x.1 x.2.1 x.2.2.1).1, ())
  upd := fun x => ((x.1.1, (drawSide x.1 x.2.1 x.2.2.1).2.2), x.2.1, x.2.2.1, ())
theorem k_spec_l02DrawSide : ConOk Try.prog 33 c_spec_l02DrawSide := by
  refine fn_okW (C := cx Try.prog 59 c_spec_l02DrawSide) (cs := [(30, c_spec_l02Empty), (15, c_spec_l01Next)]) (res := Try.f33.results.toList) (fun x => ⟨[{ sh := ⟨[(0, .one (.ref 0)), (2, .one (.ref 2)), (4, .one (.ref 3)), (7, .one (.ref 4)), (8, .one (.i .i64)), (9, .one (.i .i64))], [(2, .imm tI false), (3, .box [.i .i64, .i .i64, .i .i64, .i .i64]), (4, .own 2 tI true), (0, .box [.ref 1, .i .i64, .i .i64]), (1, .imm (.i .u8) false)]⟩, nx := 5, I := fun _ dat_ => ((1 + (nxtD x.1 x.2.1.1).1) = dat_.1.2.2.2.2.1 ∧ x.2.2.1 = dat_.2.1 ∧ x.2.1.1 = dat_.2.2.1.1 ∧ x.2.1.2.1 = dat_.2.2.1.2.1 ∧ x.2.1.2.2.1 = dat_.2.2.1.2.2.1 ∧ x.2.1.2.2.2 = dat_.2.2.1.2.2.2.1 ∧ x.1.1 = dat_.2.2.2.2.2.1) ∧ ((dat_.2.2.2.1 = (sideIt x.2.1 x.2.2.1 (sideW x.1 x.2.1) (emptyD x.2.1, sideS x.1 x.2.1) (Int.toNat (sideN x.1 x.2.1 - dat_.1.2.2.2.2.2.1))).1 ∧ (x.1.1, dat_.2.2.2.2.1.2.1, dat_.2.2.2.2.1.2.2.1) = (sideIt x.2.1 x.2.2.1 (sideW x.1 x.2.1) (emptyD x.2.1, sideS x.1 x.2.1) (Int.toNat (sideN x.1 x.2.1 - dat_.1.2.2.2.2.2.1))).2) ∧ 0 ≤ dat_.1.2.2.2.2.2.1 ∧ dat_.1.2.2.2.2.2.1 ≤ sideN x.1 x.2.1), mu := fun dat_ => Int.toNat dat_.1.2.2.2.2.2.1 }], [], [(9, { sh := ⟨[(0, .one (.ref 0)), (2, .one (.ref 2)), (4, .one (.ref 3)), (7, .one (.ref 4)), (8, .one (.i .i64)), (9, .one (.i .i64)), (10, .one (.i .i64))], [(2, .imm tI false), (3, .box [.i .i64, .i .i64, .i .i64, .i .i64]), (4, .own 2 tI true), (0, .box [.ref 1, .i .i64, .i .i64]), (1, .imm (.i .u8) false)]⟩, nx := 5, I := fun g_ dat_ => (x.2.2.1 = dat_.2.1 ∧ x.2.1.1 = dat_.2.2.1.1 ∧ x.2.1.2.1 = dat_.2.2.1.2.1 ∧ x.2.1.2.2.1 = dat_.2.2.1.2.2.1 ∧ x.2.1.2.2.2 = dat_.2.2.1.2.2.2.1 ∧ x.1.1 = dat_.2.2.2.2.2.1) ∧ ((dat_.1.2.2.2.2.1 = sideW x.1 x.2.1 ∧ dat_.2.2.2.1 = (sideIt x.2.1 x.2.2.1 (sideW x.1 x.2.1) (emptyD x.2.1, sideS x.1 x.2.1) (Int.toNat (sideN x.1 x.2.1 - dat_.1.2.2.2.2.2.1))).1 ∧ (x.1.1, dat_.2.2.2.2.1.2.1, dat_.2.2.2.2.1.2.2.1) = (nxtD (nxtD (sideIt x.2.1 x.2.2.1 (sideW x.1 x.2.1) (emptyD x.2.1, sideS x.1 x.2.1) (Int.toNat (sideN x.1 x.2.1 - dat_.1.2.2.2.2.2.1))).2 (sideW x.1 x.2.1)).2 10).2) ∧ dat_.1.2.2.2.2.2.2.1 = sideAt x.2.1 (sideW x.1 x.2.1) (sideIt x.2.1 x.2.2.1 (sideW x.1 x.2.1) (emptyD x.2.1, sideS x.1 x.2.1) (Int.toNat (sideN x.1 x.2.1 - dat_.1.2.2.2.2.2.1))).2 ∧ 0 < dat_.1.2.2.2.2.2.1 ∧ dat_.1.2.2.2.2.2.1 ≤ sideN x.1 x.2.1 ∧ (g_.headD 0) = Int.toNat dat_.1.2.2.2.2.2.1), mu := fun dat_ => 0 })]⟩) Try.func33 (by kernel_rfl) rfl rfl rfl tysOk.look eqTsOk.look (AllCs.ok (l := [(30, c_spec_l02Empty), (15, c_spec_l01Next)]) ⟨k_spec_l02Empty, k_spec_l01Next, trivial⟩) mixed rfl rfl rfl ?_
  refine of_nf (P := ∀ s : (List Int) × Int × Int, ∀ v : Int × Int × Int × Int, ∀ tk : List Int, ((okS s ∧ varD v = true) ∧ (List.length tk : Int) = v.1 + 1) → ((lensI c_spec_l02DrawSide.ins (s, v, tk, ())) → ((2 ≤ v.1 ∧ v.1 ≤ 24) ∧ ((okS s ∧ v.1 ≤ 1000000000000) ∧ ((inK .i64 (1 + (nxtD s v.1).1)) ∧ ((inK .i64 (v.2.1 + 1)) ∧ ((okS (s.1, (nxtD s v.1).2.2) ∧ (v.2.1 + 1) ≤ 1000000000000) ∧ ((((1 + (nxtD s v.1).1) = (1 + (nxtD s v.1).1) ∧ tk = tk ∧ v.1 = v.1 ∧ v.2.1 = v.2.1 ∧ v.2.2.1 = v.2.2.1 ∧ v.2.2.2 = v.2.2.2 ∧ s.1 = s.1) ∧ (((List.replicate (Int.toNat (v.1 + 1)) (0 : Int)) = (sideIt v tk (sideW s v) (emptyD v, sideS s v) (Int.toNat (sideN s v - (nxtD (s.1, (nxtD s v.1).2.2) (v.2.1 + 1)).1))).1 ∧ (s.1, (nxtD (s.1, (nxtD s v.1).2.2) (v.2.1 + 1)).2.2.1, (nxtD (s.1, (nxtD s v.1).2.2) (v.2.1 + 1)).2.2.2) = (sideIt v tk (sideW s v) (emptyD v, sideS s v) (Int.toNat (sideN s v - (nxtD (s.1, (nxtD s v.1).2.2) (v.2.1 + 1)).1))).2) ∧ 0 ≤ (nxtD (s.1, (nxtD s v.1).2.2) (v.2.1 + 1)).1 ∧ (nxtD (s.1, (nxtD s v.1).2.2) (v.2.1 + 1)).1 ≤ sideN s v)) ∧ (∀ w : Int, ∀ k : Int, ∀ t2 : List Int, ∀ t4_0 : Int, ∀ t4_1 : Int, ∀ t4_2 : Int, ∀ t4_3 : Int, ∀ out : List Int, ∀ s_1 : Int, ∀ s_2 : Int, ∀ s_0 : List Int, (((1 + (nxtD s v.1).1) = w ∧ tk = t2 ∧ v.1 = t4_0 ∧ v.2.1 = t4_1 ∧ v.2.2.1 = t4_2 ∧ v.2.2.2 = t4_3 ∧ s.1 = s_0) ∧ ((out = (sideIt v tk (sideW s v) (emptyD v, sideS s v) (Int.toNat (sideN s v - k))).1 ∧ (s.1, s_1, s_2) = (sideIt v tk (sideW s v) (emptyD v, sideS s v) (Int.toNat (sideN s v - k))).2) ∧ 0 ≤ k ∧ k ≤ sideN s v)) → (bsp (decide ((0 : Int) < k)) ((okS (s_0, s_1, s_2) ∧ w ≤ 1000000000000) ∧ (((okS (s_0, (nxtD (s_0, s_1, s_2) w).2.2) ∧ (10 : Int) ≤ 1000000000000) ∧ (bsp (decide ((nxtD (s_0, (nxtD (s_0, s_1, s_2) w).2.2) (10 : Int)).1 = (0 : Int))) ((tk = t2 ∧ v.1 = t4_0 ∧ v.2.1 = t4_1 ∧ v.2.2.1 = t4_2 ∧ v.2.2.2 = t4_3 ∧ s.1 = s_0) ∧ ((w = sideW s v ∧ out = (sideIt v tk (sideW s v) (emptyD v, sideS s v) (Int.toNat (sideN s v - k))).1 ∧ (s.1, (nxtD (s_0, (nxtD (s_0, s_1, s_2) w).2.2) (10 : Int)).2.2.1, (nxtD (s_0, (nxtD (s_0, s_1, s_2) w).2.2) (10 : Int)).2.2.2) = (nxtD (nxtD (sideIt v tk (sideW s v) (emptyD v, sideS s v) (Int.toNat (sideN s v - k))).2 (sideW s v)).2 10).2) ∧ t4_0 = sideAt v (sideW s v) (sideIt v tk (sideW s v) (emptyD v, sideS s v) (Int.toNat (sideN s v - k))).2 ∧ 0 < k ∧ k ≤ sideN s v ∧ (Int.toNat k) = Int.toNat k)) ((tk = t2 ∧ v.1 = t4_0 ∧ v.2.1 = t4_1 ∧ v.2.2.1 = t4_2 ∧ v.2.2.2 = t4_3 ∧ s.1 = s_0) ∧ ((w = sideW s v ∧ out = (sideIt v tk (sideW s v) (emptyD v, sideS s v) (Int.toNat (sideN s v - k))).1 ∧ (s.1, (nxtD (s_0, (nxtD (s_0, s_1, s_2) w).2.2) (10 : Int)).2.2.1, (nxtD (s_0, (nxtD (s_0, s_1, s_2) w).2.2) (10 : Int)).2.2.2) = (nxtD (nxtD (sideIt v tk (sideW s v) (emptyD v, sideS s v) (Int.toNat (sideN s v - k))).2 (sideW s v)).2 10).2) ∧ (nxtD (s_0, s_1, s_2) w).1 = sideAt v (sideW s v) (sideIt v tk (sideW s v) (emptyD v, sideS s v) (Int.toNat (sideN s v - k))).2 ∧ 0 < k ∧ k ≤ sideN s v ∧ (Int.toNat k) = Int.toNat k)))) ∧ (∀ w_1 : Int, ∀ k_1 : Int, ∀ i : Int, ∀ t2x1 : List Int, ∀ t4_0x1 : Int, ∀ t4_1x1 : Int, ∀ t4_2x1 : Int, ∀ t4_3x1 : Int, ∀ out_1 : List Int, ∀ s_1x1 : Int, ∀ s_2x1 : Int, ∀ s_0x1 : List Int, ((tk = t2x1 ∧ v.1 = t4_0x1 ∧ v.2.1 = t4_1x1 ∧ v.2.2.1 = t4_2x1 ∧ v.2.2.2 = t4_3x1 ∧ s.1 = s_0x1) ∧ ((w_1 = sideW s v ∧ out_1 = (sideIt v tk (sideW s v) (emptyD v, sideS s v) (Int.toNat (sideN s v - k_1))).1 ∧ (s.1, s_1x1, s_2x1) = (nxtD (nxtD (sideIt v tk (sideW s v) (emptyD v, sideS s v) (Int.toNat (sideN s v - k_1))).2 (sideW s v)).2 10).2) ∧ i = sideAt v (sideW s v) (sideIt v tk (sideW s v) (emptyD v, sideS s v) (Int.toNat (sideN s v - k_1))).2 ∧ 0 < k_1 ∧ k_1 ≤ sideN s v ∧ (Int.toNat k) = Int.toNat k_1)) → (bsp (decide (i = t4_0x1)) ((0 ≤ i ∧ i < (out_1.length : Int)) ∧ ((i.toNat < out_1.length) ∧ ((inK .i64 ((out_1.getD i.toNat 0) + 1)) ∧ ((0 ≤ i ∧ i < (out_1.length : Int)) ∧ ((i.toNat < out_1.length) ∧ ((inK .i64 (k_1 - 1)) ∧ ((((1 + (nxtD s v.1).1) = w_1 ∧ tk = t2x1 ∧ v.1 = t4_0x1 ∧ v.2.1 = t4_1x1 ∧ v.2.2.1 = t4_2x1 ∧ v.2.2.2 = t4_3x1 ∧ s.1 = s_0x1) ∧ (((out_1.set i.toNat ((out_1.getD i.toNat 0) + 1)) = (sideIt v tk (sideW s v) (emptyD v, sideS s v) (Int.toNat (sideN s v - (k_1 - 1)))).1 ∧ (s.1, s_1x1, s_2x1) = (sideIt v tk (sideW s v) (emptyD v, sideS s v) (Int.toNat (sideN s v - (k_1 - 1)))).2) ∧ 0 ≤ (k_1 - 1) ∧ (k_1 - 1) ≤ sideN s v)) ∧ ((Int.toNat (k_1 - 1) : Nat) < Int.toNat k)))))))) ((inK .i64 (t4_0x1 - 1)) ∧ ((inK .i64 ((t4_0x1 - 1) - i)) ∧ ((0 ≤ ((t4_0x1 - 1) - i) ∧ ((t4_0x1 - 1) - i) < (t2x1.length : Int)) ∧ ((((t4_0x1 - 1) - i).toNat < t2x1.length) ∧ (bsp (decide ((t2x1.getD ((t4_0x1 - 1) - i).toNat 0) = (0 : Int))) ((0 ≤ i ∧ i < (out_1.length : Int)) ∧ ((i.toNat < out_1.length) ∧ ((inK .i64 ((out_1.getD i.toNat 0) + 1)) ∧ ((0 ≤ i ∧ i < (out_1.length : Int)) ∧ ((i.toNat < out_1.length) ∧ ((inK .i64 (k_1 - 1)) ∧ ((((1 + (nxtD s v.1).1) = w_1 ∧ tk = t2x1 ∧ v.1 = t4_0x1 ∧ v.2.1 = t4_1x1 ∧ v.2.2.1 = t4_2x1 ∧ v.2.2.2 = t4_3x1 ∧ s.1 = s_0x1) ∧ (((out_1.set i.toNat ((out_1.getD i.toNat 0) + 1)) = (sideIt v tk (sideW s v) (emptyD v, sideS s v) (Int.toNat (sideN s v - (k_1 - 1)))).1 ∧ (s.1, s_1x1, s_2x1) = (sideIt v tk (sideW s v) (emptyD v, sideS s v) (Int.toNat (sideN s v - (k_1 - 1)))).2) ∧ 0 ≤ (k_1 - 1) ∧ (k_1 - 1) ≤ sideN s v)) ∧ ((Int.toNat (k_1 - 1) : Nat) < Int.toNat k)))))))) ((inK .i64 (k_1 - 1)) ∧ ((((1 + (nxtD s v.1).1) = w_1 ∧ tk = t2x1 ∧ v.1 = t4_0x1 ∧ v.2.1 = t4_1x1 ∧ v.2.2.1 = t4_2x1 ∧ v.2.2.2 = t4_3x1 ∧ s.1 = s_0x1) ∧ ((out_1 = (sideIt v tk (sideW s v) (emptyD v, sideS s v) (Int.toNat (sideN s v - (k_1 - 1)))).1 ∧ (s.1, s_1x1, s_2x1) = (sideIt v tk (sideW s v) (emptyD v, sideS s v) (Int.toNat (sideN s v - (k_1 - 1)))).2) ∧ 0 ≤ (k_1 - 1) ∧ (k_1 - 1) ≤ sideN s v)) ∧ ((Int.toNat (k_1 - 1) : Nat) < Int.toNat k)))))))))))) (@Eq (HO c_spec_l02DrawSide.outs) (out, ()) (c_spec_l02DrawSide.out (s, v, tk, ())) ∧ @Eq (HI c_spec_l02DrawSide.ins) ((s.1, s_1, s_2), v, tk, ()) (c_spec_l02DrawSide.upd (s, v, tk, ()))))))))))))) (by kernel_rfl) ?_
  rintro s v tk ⟨⟨hs, hv⟩, ht⟩ hl
  obtain ⟨⟨g1, g1'⟩, ⟨g2, g2'⟩, g3, g4⟩ := varD_iff.1 hv
  have b1 := nxtD_bd hs v.1
  have h1 := nxtD_ok hs v.1
  have b2 := nxtD_bd h1 (v.2.1 + 1)
  have h2 : okS (sideS s v) := nxtD_ok h1 (v.2.1 + 1)
  have hSc : (sideS s v).1 = s.1 := by simp only [sideS, nxtD_codeB]
  have hN0 : (nxtD (nxtD s v.1).2 (v.2.1 + 1)).1 = sideN s v := rfl
  have hS0 : (nxtD (nxtD s v.1).2 (v.2.1 + 1)).2 = sideS s v := rfl
  have hW0 : 1 + (nxtD s v.1).1 = sideW s v := rfl
  have hok := fun n => sideIt_ok (v := v) (tk := tk) (w := sideW s v) (p := (emptyD v, sideS s v)) h2 (empty_at v) n
  simp only [src_etaB, nxtD_codeB, hN0, hS0, hW0]
  rw [hN0] at b2
  have hW1 : 1 ≤ sideW s v ∧ sideW s v ≤ v.1 := by rw [← hW0]; omega
  have hz : (sideN s v - sideN s v).toNat = 0 := by omega
  rw [hz]
  refine ⟨⟨g1, g1'⟩, ⟨hs, by omega⟩, by simp only [inK]; omega, by simp only [inK]; omega, ⟨h1, by omega⟩, ⟨(by first | trivial | rfl | (and_intros <;> rfl)), ⟨rfl, by show (s.1, (sideS s v).2.1, (sideS s v).2.2) = sideS s v; rw [← hSc]⟩, by omega, by omega⟩, ?_⟩
  rintro w k t2 t4_0 t4_1 t4_2 t4_3 out s_1 s_2 s_0 ⟨⟨rfl, rfl, rfl, rfl, rfl, rfl, rfl⟩, ⟨⟨ho, hs'⟩, k0, k1⟩⟩
  simp only [Prod.eta]
  obtain ⟨i1, i2, i3, i4⟩ := hok (sideN s v - k).toNat
  have i5 : (sideIt v tk (sideW s v) (emptyD v, sideS s v) (sideN s v - k).toNat).2.1 = s.1 := i2.trans hSc
  rw [hs']
  have hI := sideAt.eq_1 v (sideW s v) (sideIt v tk (sideW s v) (emptyD v, sideS s v) (sideN s v - k).toNat).2
  have r1 := nxtD_ok i1 (sideW s v)
  simp only [src_etaB, nxtD_codeB, i5]
  refine bspD (fun hk => ⟨⟨i1, by omega⟩, ⟨⟨r1, by decide⟩, bspD (fun c => ⟨(by first | trivial | rfl | (and_intros <;> rfl)), ⟨trivial, ho, trivial⟩, ?_, hk, k1, trivial⟩) (fun c => ⟨(by first | trivial | rfl | (and_intros <;> rfl)), ⟨trivial, ho, trivial⟩, ?_, hk, k1, trivial⟩)⟩, ?_⟩) (fun hk => ?_)
  · rw [hI, if_pos c]
  · rw [hI, if_neg c]
  · rintro w_1 k_1 i t2x1 t4_0x1 t4_1x1 t4_2x1 t4_3x1 out_1 s_1x1 s_2x1 s_0x1 ⟨⟨rfl, rfl, rfl, rfl, rfl, rfl⟩, ⟨⟨hw, ho1, hs1⟩, hi, q0, q1, hG⟩⟩
    simp only [Prod.eta]
    obtain rfl : k_1 = k := by omega
    have e1 : (sideN s v - (k_1 - 1)).toNat = (sideN s v - k_1).toNat + 1 := by omega
    have hSt := sideStep.eq_1 v tk (sideW s v) (sideIt v tk (sideW s v) (emptyD v, sideS s v) (sideN s v - k_1).toNat)
    rw [e1, hs1]
    simp only [sideIt]
    have b3 := nxtD_bd i1 (sideW s v)
    have hib : 0 ≤ i ∧ i ≤ v.1 := by
      rw [hi, hI]; split <;> omega
    rw [← hi, ← ho1] at hSt
    rw [← ho1] at i3 i4
    have hlen : out_1.length = (v.1 + 1).toNat := i3.trans (by simp [emptyD])
    have hat := i4 i.toNat
    have hN15 : sideN s v ≤ v.2.1 := by omega
    have hnx : (nxtD (nxtD (sideIt v tk (sideW s v) (emptyD v, sideS s v) (sideN s v - k_1).toNat).2 (sideW s v)).2 10).2 = (sideStep v tk (sideW s v) (sideIt v tk (sideW s v) (emptyD v, sideS s v) (sideN s v - k_1).toNat)).2 := rfl
    refine bspD (fun c => ⟨⟨by omega, by omega⟩, by omega, by simp only [inK]; omega, ⟨by omega, by omega⟩, by omega, by simp only [inK]; omega, ⟨⟨hw.symm, (by first | trivial | rfl | (and_intros <;> rfl))⟩, ⟨?_, hnx⟩, by omega, by omega⟩, by omega⟩) (fun c => ⟨by simp only [inK]; omega, by simp only [inK]; omega, ⟨by omega, by omega⟩, by omega, bspD (fun c' => ⟨⟨by omega, by omega⟩, by omega, by simp only [inK]; omega, ⟨by omega, by omega⟩, by omega, by simp only [inK]; omega, ⟨⟨hw.symm, (by first | trivial | rfl | (and_intros <;> rfl))⟩, ⟨?_, hnx⟩, by omega, by omega⟩, by omega⟩) (fun c' => ⟨by simp only [inK]; omega, ⟨⟨hw.symm, (by first | trivial | rfl | (and_intros <;> rfl))⟩, ⟨?_, hnx⟩, by omega, by omega⟩, by omega⟩)⟩)
    · rw [hSt, if_pos (.inl c)]
    · rw [hSt, if_pos (.inr c')]
    · rw [hSt, if_neg fun x => x.elim c c']
  · have e0 : (sideN s v - k).toNat = (sideN s v).toNat := by omega
    rw [e0] at ho ⊢
    subst ho
    refine ⟨rfl, ?_⟩
    simp only [c_spec_l02DrawSide]
    rw [← drawSide.eq_1 s v tk]
    rw [upd_etaB (drawSide_ok hs hv).2.1]
end Go.Proofs.Ytfbbclejoacioaa
