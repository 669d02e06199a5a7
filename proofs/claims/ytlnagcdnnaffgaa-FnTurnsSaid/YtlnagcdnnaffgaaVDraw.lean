/-
  Contracts: draws: the source.
-/
import Derived.Test.YtlnagcdnnaffgaaVBase
import Derived.Test.YtlnagcdnnaffgaaAbW
import Derived.Test.YtlnagcdnnaffgaaAbL
namespace Go.Proofs.Ytlnagcdnnaffgaa
open Go.RowKit
set_option linter.unusedSimpArgs false
set_option linter.unusedVariables false
abbrev DSrc := List Int × Int × Int
/-- a source: its bytes, its place, its seed -/
def okS (s : DSrc) : Prop := (s.1.length ≤ 1099511627776 ∧ ∀ i : Nat, 0 ≤ s.1.getD i 0 ∧ s.1.getD i 0 ≤ 255) ∧ (0 ≤ s.2.1 ∧ s.2.1 ≤ (s.1.length : Int)) ∧ 0 ≤ s.2.2 ∧ s.2.2 ≤ 2147483646
def seedZ (s : DSrc) : Int := Int.tmod (s.2.2 * 48271 + 17) 2147483647
def nxtD (s : DSrc) (n : Int) : Int × DSrc :=
  if n ≤ 1 then (0, s)
  else if s.2.1 < (s.1.length : Int) then
    (Int.tmod (if n ≤ 256 ∧ Int.tmod (s.2.1 + 1) 2 = 0 then s.1.getD s.2.1.toNat 0 else Int.tdiv (seedZ s) 11 + s.1.getD s.2.1.toNat 0) n, (s.1, s.2.1 + 1, seedZ s))
  else (Int.tmod (Int.tdiv (seedZ s) 11) n, (s.1, s.2.1, seedZ s))
theorem seedZ_bd {s : DSrc} (h : okS s) : 0 ≤ seedZ s ∧ seedZ s ≤ 2147483646 := by
  obtain ⟨_, _, h1, h2⟩ := h
  unfold seedZ
  rw [Int.tmod_eq_emod_of_nonneg (by omega)]
  omega
theorem nxtD_ok {s : DSrc} (h : okS s) (n : Int) : okS (nxtD s n).2 := by
  have hz := seedZ_bd h
  obtain ⟨h0, h1, h2⟩ := h
  unfold nxtD
  split
  · exact ⟨h0, h1, h2⟩
  · split
    · exact ⟨h0, by dsimp only; omega, hz⟩
    · exact ⟨h0, h1, hz⟩
theorem nxtD_bd {s : DSrc} (h : okS s) (n : Int) : 0 ≤ (nxtD s n).1 ∧ ((nxtD s n).1 < n ∨ n ≤ 0 ∧ (nxtD s n).1 = 0) := by
  have hz := seedZ_bd h
  obtain ⟨h0, h1, h2⟩ := h
  have hb := h0.2 s.2.1.toNat
  have hq : Int.tdiv (seedZ s) 11 = seedZ s / 11 := Int.tdiv_eq_ediv_of_nonneg hz.1
  unfold nxtD
  split
  · dsimp only; omega
  · have key : ∀ x : Int, 0 ≤ x → 0 ≤ Int.tmod x n ∧ Int.tmod x n < n := fun x hx => by
      rw [Int.tmod_eq_emod_of_nonneg hx]
      exact ⟨Int.emod_nonneg _ (by omega), Int.emod_lt_of_pos _ (by omega)⟩
    split
    · dsimp only
      split
      · have := key _ hb.1; omega
      · have := key (Int.tdiv (seedZ s) 11 + s.1.getD s.2.1.toNat 0) (by omega); omega
    · have := key (Int.tdiv (seedZ s) 11) (by omega); dsimp only; omega
def c_spec_l01Next : Con where
  ins := [(false, .bx (.pr (.sl (.i .u8)) tRoll)), (false, .v tI)]
  outs := [(false, .v tI)]
  sh := false
  pre := fun x => okS x.1 ∧ x.2.1 ≤ 1000000000000
  out := fun x => ((nxtD x.1 x.2.1).1, ())
  upd := fun x => ((x.1.1, (nxtD x.1 x.2.1).2.2), x.2.1, ())
  eat := false
theorem k_spec_l01Next [B : Base] : ConOk Try.prog 45 c_spec_l01Next := by
  refine fn_ok (C := cx Try.prog 78 c_spec_l01Next) (cs := []) (res := Try.f45.results.toList) (fun _ => ⟨[], [(5, ⟨[[], [0], [0, 1], [0, 1, 2], [], [4], [4, 5], [4, 5, 6], [4, 5, 6, 7], [0, 1, 2, 3, 4, 5, 6, 7, 8]], [[4, 5, 6, 7, 8], [4, 5, 6, 7, 8], [4, 5, 6, 7, 8], [4, 5, 6, 7, 8], [0, 1, 2, 3], [0, 1, 2, 3], [0, 1, 2, 3], [0, 1, 2, 3], [0, 1, 2, 3], []], []⟩), (6, ⟨[[], [], [1], [1, 2], [1, 2, 3], [], [5], [5, 6], [5, 6, 7], [1, 2, 3, 4, 5, 6, 7, 8], [1, 2, 3, 4, 5, 6, 7, 8, 9], [1, 2, 3, 4, 5, 6, 7, 8, 9, 10], [0, 1, 2, 3, 4, 5, 6, 7, 8, 9, 10, 11], [0, 1, 2, 3, 4, 5, 6, 7, 8, 9, 10, 11, 12]], [[1, 2, 3, 4, 5, 6, 7, 8, 9, 10, 11], [0, 5, 6, 7, 8], [0, 5, 6, 7, 8], [0, 5, 6, 7, 8], [0, 5, 6, 7, 8], [0, 1, 2, 3, 4], [0, 1, 2, 3, 4], [0, 1, 2, 3, 4], [0, 1, 2, 3, 4], [0], [0], [0], [], []], []⟩), (9, ⟨[[], [0], [0, 1], [0, 1, 2], [], [4], [4, 5], [4, 5, 6], [4, 5, 6, 7], [0, 1, 2, 3, 4, 5, 6, 7, 8], [0, 1, 2, 3, 4, 5, 6, 7, 8, 9], [0, 1, 2, 3, 4, 5, 6, 7, 8, 9, 10], [0, 1, 2, 3, 4, 5, 6, 7, 8, 9, 10, 11]], [[4, 5, 6, 7, 8], [4, 5, 6, 7, 8], [4, 5, 6, 7, 8], [4, 5, 6, 7, 8], [0, 1, 2, 3], [0, 1, 2, 3], [0, 1, 2, 3], [0, 1, 2, 3], [0, 1, 2, 3], [], [], [], []], []⟩)], []⟩) Try.func45 (by kernel_rfl) rfl rfl rfl tysOk.look eqTsOk.look (AllCs.ok (l := []) trivial) mixed rfl rfl rfl rfl ?_
  refine of_nf (P := ∀ sCode : List Int, ∀ sAt : Int, ∀ sSeed : Int, ∀ n : Int, (okS (sCode, sAt, sSeed) ∧ n ≤ 1000000000000) → ((lensI c_spec_l01Next.ins ((sCode, sAt, sSeed), n, ())) → (bsp (decide (n ≤ (1 : Int))) (@Eq (HO c_spec_l01Next.outs) (0, ()) (c_spec_l01Next.out ((sCode, sAt, sSeed), n, ())) ∧ @Eq (HI c_spec_l01Next.ins) ((sCode, sAt, sSeed), n, ()) (c_spec_l01Next.upd ((sCode, sAt, sSeed), n, ()))) ((inK .i64 (sSeed * 48271)) ∧ ((inK .i64 ((sSeed * 48271) + 17)) ∧ (((2147483647 : Int) ≠ 0) ∧ (((11 : Int) ≠ 0) ∧ ((inK .i64 (Int.tdiv (Int.tmod ((sSeed * 48271) + 17) 2147483647) 11)) ∧ (bsp (decide (sAt < (sCode.length : Int))) ((0 ≤ sAt ∧ sAt < (sCode.length : Int)) ∧ ((sAt.toNat < sCode.length) ∧ ((inK .i64 (sCode.getD sAt.toNat 0)) ∧ ((inK .i64 ((Int.tdiv (Int.tmod ((sSeed * 48271) + 17) 2147483647) 11) + (sCode.getD sAt.toNat 0))) ∧ ((inK .i64 (sAt + 1)) ∧ (bsp (decide (n ≤ (256 : Int))) (((2 : Int) ≠ 0) ∧ (bsp (decide ((Int.tmod (sAt + 1) 2) = (0 : Int))) ((inK .i64 ((sAt + 1) - 1)) ∧ ((0 ≤ ((sAt + 1) - 1) ∧ ((sAt + 1) - 1) < (sCode.length : Int)) ∧ ((((sAt + 1) - 1).toNat < sCode.length) ∧ ((inK .i64 (sCode.getD ((sAt + 1) - 1).toNat 0)) ∧ ((n ≠ 0) ∧ (@Eq (HO c_spec_l01Next.outs) ((Int.tmod (sCode.getD ((sAt + 1) - 1).toNat 0) n), ()) (c_spec_l01Next.out ((sCode, sAt, sSeed), n, ())) ∧ @Eq (HI c_spec_l01Next.ins) ((sCode, sAt + 1, Int.tmod ((sSeed * 48271) + 17) 2147483647), n, ()) (c_spec_l01Next.upd ((sCode, sAt, sSeed), n, ())))))))) ((n ≠ 0) ∧ (@Eq (HO c_spec_l01Next.outs) ((Int.tmod ((Int.tdiv (Int.tmod ((sSeed * 48271) + 17) 2147483647) 11) + (sCode.getD sAt.toNat 0)) n), ()) (c_spec_l01Next.out ((sCode, sAt, sSeed), n, ())) ∧ @Eq (HI c_spec_l01Next.ins) ((sCode, sAt + 1, Int.tmod ((sSeed * 48271) + 17) 2147483647), n, ()) (c_spec_l01Next.upd ((sCode, sAt, sSeed), n, ())))))) ((n ≠ 0) ∧ (@Eq (HO c_spec_l01Next.outs) ((Int.tmod ((Int.tdiv (Int.tmod ((sSeed * 48271) + 17) 2147483647) 11) + (sCode.getD sAt.toNat 0)) n), ()) (c_spec_l01Next.out ((sCode, sAt, sSeed), n, ())) ∧ @Eq (HI c_spec_l01Next.ins) ((sCode, sAt + 1, Int.tmod ((sSeed * 48271) + 17) 2147483647), n, ()) (c_spec_l01Next.upd ((sCode, sAt, sSeed), n, ())))))))))) ((n ≠ 0) ∧ (@Eq (HO c_spec_l01Next.outs) ((Int.tmod (Int.tdiv (Int.tmod ((sSeed * 48271) + 17) 2147483647) 11) n), ()) (c_spec_l01Next.out ((sCode, sAt, sSeed), n, ())) ∧ @Eq (HI c_spec_l01Next.ins) ((sCode, sAt, Int.tmod ((sSeed * 48271) + 17) 2147483647), n, ()) (c_spec_l01Next.upd ((sCode, sAt, sSeed), n, ()))))))))))))) (by kernel_rfl) ?_
  rintro sCode sAt sSeed n ⟨hs, hn⟩ hl
  have hz := seedZ_bd hs
  obtain ⟨⟨hL, hC⟩, ⟨a0, a1⟩, z0, z1⟩ := hs
  dsimp only at hL hC a0 a1 z0 z1
  have hb := hC sAt.toNat
  simp only [seedZ] at hz
  have hq : Int.tdiv ((sSeed * 48271 + 17).tmod 2147483647) 11 = (sSeed * 48271 + 17).tmod 2147483647 / 11 := Int.tdiv_eq_ediv_of_nonneg hz.1
  have hat : sAt + 1 - 1 = sAt := by omega
  have fin : ∀ (r : Int) (s' : DSrc), nxtD (sCode, sAt, sSeed) n = (r, s') → s'.1 = sCode → @Eq (HO c_spec_l01Next.outs) (r, ()) (c_spec_l01Next.out ((sCode, sAt, sSeed), n, ())) ∧ @Eq (HI c_spec_l01Next.ins) (s', n, ()) (c_spec_l01Next.upd ((sCode, sAt, sSeed), n, ())) := fun r s' h e => by
    obtain ⟨u, w⟩ := s'
    dsimp only at e
    subst e
    simp only [c_spec_l01Next, h, and_self]
  rw [hq, hat]
  generalize hZ : (sSeed * 48271 + 17).tmod 2147483647 = Z at *
  have hD := nxtD.eq_1 (sCode, sAt, sSeed) n
  simp only [seedZ, hZ, hq] at hD
  refine bspD (fun h => fin _ _ (hD.trans (if_pos h)) rfl) (fun h => ⟨by simp only [inK]; omega, by simp only [inK]; omega, by decide, by decide, by simp only [inK]; omega, bspD (fun g => ?_) (fun g => ⟨by omega, fin _ _ (by rw [hD, if_neg h, if_neg g]) rfl⟩)⟩)
  rw [if_neg h, if_pos g] at hD
  refine ⟨⟨a0, g⟩, by omega, by simp only [inK]; omega, by simp only [inK]; omega, by simp only [inK]; omega, bspD (fun k => ⟨by decide, bspD (fun m => ⟨by simp only [inK]; omega, ⟨a0, g⟩, by omega, by simp only [inK]; omega, by omega, fin _ _ (by rw [hD, if_pos ⟨k, m⟩]) rfl⟩) (fun m => ⟨by omega, fin _ _ (by rw [hD, if_neg fun x => m x.2]) rfl⟩)⟩) (fun k => ⟨by omega, fin _ _ (by rw [hD, if_neg fun x => k x.1]) rfl⟩)⟩
def foldZ (z c : Int) : Int := Int.tmod (z * 43 + c) 2147483647
def fromD (c : List Int) : DSrc := (c, 0, (c.take 64).foldl foldZ 24157)
def okC (c : List Int) : Prop := c.length ≤ 1099511627776 ∧ ∀ i : Nat, 0 ≤ c.getD i 0 ∧ c.getD i 0 ≤ 255
theorem foldZ_bd : ∀ (l : List Int) (z : Int), (∀ c, c ∈ l → 0 ≤ c) → 0 ≤ z ∧ z ≤ 2147483646 → 0 ≤ l.foldl foldZ z ∧ l.foldl foldZ z ≤ 2147483646
  | [], _, _, h => h
  | c :: l, z, hc, h => foldZ_bd l _ (fun x hx => hc x (List.mem_cons_of_mem _ hx)) (by
      have := hc c (by simp)
      unfold foldZ
      rw [Int.tmod_eq_emod_of_nonneg (by omega)]; omega)
theorem mem_getD0 {l : List Int} {x : Int} (h : x ∈ l) : ∃ i : Nat, l.getD i 0 = x := by
  obtain ⟨i, hi, rfl⟩ := List.getElem_of_mem h
  exact ⟨i, by rw [List.getD_eq_getElem?_getD, List.getElem?_eq_getElem hi]; rfl⟩
theorem fromD_ok {c : List Int} (h : okC c) : okS (fromD c) := by
  refine ⟨h, ⟨by simp [fromD], by simp [fromD]⟩, foldZ_bd _ _ (fun x hx => ?_) (by decide)⟩
  obtain ⟨i, hi⟩ := mem_getD0 (List.mem_of_mem_take hx)
  rw [← hi]; exact (h.2 i).1
theorem take_foldZ {c : List Int} {k : Nat} (h : k < c.length) (h64 : k < 64) : ((c.take (k + 1)).take 64).foldl foldZ 24157 = foldZ (((c.take k).take 64).foldl foldZ 24157) (c.getD k 0) := by
  rw [List.take_take, List.take_take, show min 64 (k + 1) = k + 1 by omega, show min 64 k = k by omega, List.take_add_one, List.foldl_append, List.getD_eq_getElem?_getD, List.getElem?_eq_getElem h]; rfl
def c_spec_l01From : Con where
  ins := [(false, .v (.sl (.i .u8)))]
  outs := [(false, .bx (.pr (.sl (.i .u8)) tRoll))]
  sh := true
  pre := fun x => okC x.1
  out := fun x => (fromD x.1, ())
  upd := fun x => x
  eat := false
theorem k_spec_l01From [B : Base] : ConOk Try.prog 24 c_spec_l01From := by
  refine fn_ok (C := cx Try.prog 34 c_spec_l01From) (cs := []) (res := Try.f24.results.toList) (fun x => ⟨[{ sh := ⟨[(0, .one (.ref 0)), (3, .one (.ref 1)), (4, .one (.i .i64))], [(0, .imm (.i .u8) true), (1, .box [.ref 0, .i .i64, .i .i64])]⟩, nx := 2, I := fun _ dat_ => (x.1 = dat_.2.1) ∧ (dat_.2.2.1.2.2.1 = List.foldl foldZ 24157 (List.take 64 (List.take (Int.toNat dat_.1.2.2.1) x.1)) ∧ dat_.2.2.1.2.1 = 0 ∧ 0 ≤ dat_.1.2.2.1 ∧ dat_.1.2.2.1 ≤ (List.length x.1 : Int)), mu := fun dat_ => Int.toNat ((List.length x.1 : Int) - dat_.1.2.2.1) }], [(5, ⟨[[], [], [1], [1, 2], [1, 2, 3], [1, 2, 3, 4], [], [], [6, 7], [6, 7, 8], [6, 7, 8, 9], [1, 2, 3, 4, 5, 6, 7, 8, 9, 10], [1, 2, 3, 4, 5, 6, 7, 8, 9, 10, 11], [0, 1, 2, 3, 4, 5, 6, 7, 8, 9, 10, 11, 12], [0, 1, 2, 3, 4, 5, 6, 7, 8, 9, 10, 11, 12, 13], [0, 1, 2, 3, 4, 5, 6, 7, 8, 9, 10, 11, 12, 13, 14]], [[1, 2, 3, 4, 5, 6, 7, 8, 9, 10, 11, 12], [0, 6, 7, 8, 9, 10], [0, 6, 7, 8, 9, 10], [0, 6, 7, 8, 9, 10], [0, 6, 7, 8, 9, 10], [0, 6, 7, 8, 9, 10], [0, 1, 2, 3, 4, 5, 7], [0, 1, 2, 3, 4, 5, 6], [0, 1, 2, 3, 4, 5], [0, 1, 2, 3, 4, 5], [0, 1, 2, 3, 4, 5], [0], [0], [], [], []], []⟩)], []⟩) Try.func24 (by kernel_rfl) rfl rfl rfl tysOk.look eqTsOk.look (AllCs.ok (l := []) trivial) mixed rfl rfl rfl rfl ?_
  refine of_nf (P := ∀ c : List Int, (okC c) → ((lensI c_spec_l01From.ins (c, ())) → (((c = c) ∧ ((24157 : Int) = List.foldl foldZ 24157 (List.take 64 (List.take (Int.toNat (0 : Int)) c)) ∧ (0 : Int) = 0 ∧ 0 ≤ (0 : Int) ∧ (0 : Int) ≤ (List.length c : Int))) ∧ (∀ i : Int, ∀ t0 : List Int, ∀ s_1 : Int, ∀ s_2 : Int, ((c = t0) ∧ (s_2 = List.foldl foldZ 24157 (List.take 64 (List.take (Int.toNat i) c)) ∧ s_1 = 0 ∧ 0 ≤ i ∧ i ≤ (List.length c : Int))) → (bsp (decide (i < (t0.length : Int))) (bsp (decide (i < (64 : Int))) ((inK .i64 (s_2 * 43)) ∧ ((0 ≤ i ∧ i < (t0.length : Int)) ∧ ((i.toNat < t0.length) ∧ ((inK .i64 (t0.getD i.toNat 0)) ∧ ((inK .i64 ((s_2 * 43) + (t0.getD i.toNat 0))) ∧ (((2147483647 : Int) ≠ 0) ∧ ((inK .i64 (i + 1)) ∧ (((c = t0) ∧ ((Int.tmod ((s_2 * 43) + (t0.getD i.toNat 0)) 2147483647) = List.foldl foldZ 24157 (List.take 64 (List.take (Int.toNat (i + 1)) c)) ∧ s_1 = 0 ∧ 0 ≤ (i + 1) ∧ (i + 1) ≤ (List.length c : Int))) ∧ ((Int.toNat ((List.length c : Int) - (i + 1)) : Nat) < Int.toNat ((List.length c : Int) - i)))))))))) (@Eq (HO c_spec_l01From.outs) ((t0, s_1, s_2), ()) (c_spec_l01From.out (c, ())))) (@Eq (HO c_spec_l01From.outs) ((t0, s_1, s_2), ()) (c_spec_l01From.out (c, ())))))))) (by kernel_rfl) ?_
  rintro c hc hl
  have fin : ∀ k : Nat, (64 ≤ k ∨ c.length ≤ k) → (c.take k).take 64 = c.take 64 := fun k h => by
    rw [List.take_take]
    rcases h with h | h
    · rw [show min 64 k = 64 by omega]
    · rcases Nat.le_total 64 k with g | g
      · rw [show min 64 k = 64 by omega]
      · rw [show min 64 k = k by omega, List.take_of_length_le h, List.take_of_length_le (by omega)]
  refine ⟨⟨rfl, by simp, rfl, by omega, by omega⟩, ?_⟩
  rintro i t0 s_1 s_2 ⟨rfl, ⟨hz, h1, i0, i1⟩⟩
  obtain ⟨k, rfl⟩ : ∃ k : Nat, i = k := ⟨i.toNat, by omega⟩
  simp only [Int.toNat_natCast] at hz ⊢
  subst h1
  have hbd := foldZ_bd ((c.take k).take 64) 24157 (fun x hx => by
    obtain ⟨i, hi⟩ := mem_getD0 (List.mem_of_mem_take (List.mem_of_mem_take hx))
    rw [← hi]; exact (hc.2 i).1) (by decide)
  rw [← hz] at hbd
  have hck := hc.2 k
  have hL := hc.1
  refine bspD (fun hlt => bspD (fun h64 => ?_) (fun h64 => ?_)) (fun hge => ?_)
  · refine ⟨by simp only [inK]; omega, ⟨by omega, by omega⟩, by omega, by simp only [inK]; omega, by simp only [inK]; omega, by decide, by simp only [inK]; omega, ⟨by trivial, ?_, by trivial, by omega, by omega⟩, by omega⟩
    rw [show ((k : Int) + 1).toNat = k + 1 by omega, take_foldZ (by omega) (by omega), ← hz]; rfl
  · rw [hz, fin k (.inl (by omega))]; rfl
  · rw [hz, fin k (.inr (by omega))]; rfl
end Go.Proofs.Ytlnagcdnnaffgaa
