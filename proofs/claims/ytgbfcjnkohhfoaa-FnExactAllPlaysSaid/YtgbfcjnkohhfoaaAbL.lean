/-
  From a law's given arguments to data: what reads as a datum is the cells of data.
-/
import Derived.Test.YtgbfcjnkohhfoaaAbT
import Derived.OpenShut
import Derived.ChangeOld
import Derived.Deep.Slices
namespace Go.Proofs.Ytgbfcjnkohhfoaa
open Go.RowKit Go.WideShapes Go.Deep

/-- integers in the bounds of their kinds -/
def wfD : (t : TC) → t.D → Prop
  | .i k, x => inK k x
  | .b, _ => True
  | .s, _ => True
  | .sl t, (xs : List t.D) => ∀ x, x ∈ xs → wfD t x
  | .pr t u, x => wfD t x.1 ∧ wfD u x.2
  | .tw t u, x => wfD t x.1 ∧ wfD u x.2
/-- what reads as a datum of type t is data of code tc -/
def Opn (P : Program) (t : TypeId) (tc : TC) : Prop :=
  P.cellsOf t = tc.n ∧ ∀ {H : Type} {enc : TypeId × Value → H} {w : World} {base : Nat} {spare : Nat → Bool} {held : Bool} {n : Nat} {cs : List Value} {y : DataW H × List MemPlace},
    DataW.trod enc P w base spare held n t cs = some y → ∃ x : tc.D, Rep False (fun _ => False) w tc cs x ∧ wfD tc x

theorem opnOfInt {P : Program} {t : TypeId} {k : IntKind} (hc : P.cellsOf t = 1) (ht : P.underlying t = some (.int k)) : Opn P t (.i k) := by
  refine ⟨hc, fun h => ?_⟩
  obtain ⟨n, rfl, _, hw⟩ := DataW.trod_int ht h
  refine ⟨n, rfl, ?_⟩
  simp only [Lit.wf, Bool.and_eq_true, decide_eq_true_eq] at hw
  cases k <;> simp [wfD, inK, IntKind.min, IntKind.max, IntKind.bits, IntKind.signed] at hw ⊢ <;> omega
theorem opnOfBool {P : Program} {t : TypeId} (hc : P.cellsOf t = 1) (ht : P.underlying t = some .bool) : Opn P t .b := by
  refine ⟨hc, fun h => ?_⟩
  obtain ⟨n, rfl, _⟩ := DataW.trod_bool ht h
  exact ⟨n, rfl, trivial⟩
theorem opnOfStr {P : Program} {t : TypeId} (hc : P.cellsOf t = 1) (ht : P.underlying t = some .string) : Opn P t .s := by
  refine ⟨hc, fun h => ?_⟩
  obtain ⟨n, rfl, _⟩ := DataW.trod_string ht h
  exact ⟨n, rfl, trivial⟩
theorem cell_spot {w : World} {a : Addr} {v : Value} (h : w.cell? a = some v) : a.spot = none := by
  unfold World.cell? at h
  split at h
  · split at h
    · cases h
    · next hs => simpa using hs
  · simp at h
theorem opnOfSl {P : Program} {t e : TypeId} {tc : TC} (hc : P.cellsOf t = 1) (ht : P.underlying t = some (.slice e)) (he : Opn P e tc) : Opn P t (.sl tc) := by
  refine ⟨hc, fun {H enc w base spare held n cs y} h => ?_⟩
  rcases open_slice ht h with ⟨rfl, _⟩ | ⟨a, len, cap, m, n', D, Pl, rfl, _, hl, hm, hmm, _, hx⟩
  · exact ⟨[], ⟨none, 0, rfl, by simp, by simp, fun _ => rfl, fun _ _ => .inl rfl, .inl rfl⟩, by simp [wfD]⟩
  · have hlm : len ≤ m := by rw [hmm]; split <;> omega
    have hq : ∀ i, i < len → ∃ x : tc.D, ∃ us : List Value, us.length = tc.n ∧ (∀ (j : Nat) (v : Value), us[j]? = some v → w.cell? ((a.add (i * tc.n)).add j) = some v) ∧ Rep False (fun _ => False) w tc us x ∧ wfD tc x := by
      intro i hi
      obtain ⟨cs', h1, h2⟩ := hx i (by omega)
      rw [he.1] at h1
      obtain ⟨_, hlen, hcell⟩ := World.cells?_some h1
      obtain ⟨x, hr, hw⟩ := he.2 h2
      refine ⟨x, cs', hlen, fun j v hj => ?_, hr, hw⟩
      have hjl := (List.getElem?_eq_some_iff.1 hj).1
      rw [hcell j (by omega), hj]
    haveI : Inhabited tc.D := ⟨tc.z⟩
    obtain ⟨X, hX⟩ := choose_lt (α := tc.D) hq
    refine ⟨(List.range len).map X, ⟨some a, cap, by simp, by simpa using hl, by simp; unfold maxLen at hm; unfold LB; omega, by simp, fun h => h.elim, ?_⟩, fun x hx => ?_⟩
    · by_cases h0 : len = 0
      · exact .inl (by simp [h0])
      · right
        have hsp : a.spot = none := by
          obtain ⟨us, hlu, hcu, _⟩ := hX 0 (by omega)
          cases us with
          | nil => have := TC.n_pos tc; simp at hlu; omega
          | cons u us =>
            have := cell_spot (hcu 0 u rfl)
            simpa [Addr.add] using this
        obtain ⟨b, off, sp⟩ := a
        simp only at hsp
        subst hsp
        refine ⟨b, off, rfl, by simp, fun i x hi => ?_⟩
        have hil : i < len := by have := (List.getElem?_eq_some_iff.1 hi).1; simpa using this
        have hxe : x = X i := by simp [hil] at hi; exact hi.symm
        subst hxe
        obtain ⟨us, hlu, hcu, hr, _⟩ := hX i hil
        refine ⟨us, hlu, fun j v hj => ?_, hr⟩
        have := hcu j v hj
        have ea : ∀ (o j : Nat), (⟨b, o, none⟩ : Addr).add j = ⟨b, o + j, none⟩ := fun o j => by unfold Addr.add; split <;> simp_all
        rw [ea, ea] at this
        exact this
    · obtain ⟨i, hi, rfl⟩ := List.mem_map.1 hx
      obtain ⟨_, _, _, _, hw⟩ := hX i (by simpa using hi)
      exact hw
/-- a struct's data code -/
def prL : TC → List TC → TC
  | t, [] => t
  | t, u :: l => .pr t (prL u l)
def FsOk (P : Program) : List Field → TC → List TC → Nat → Prop
  | [], _, _, _ => False
  | f :: fs, t, ts, o => f.offset = o ∧ Opn P f.type t ∧ (match fs, ts with | [], [] => True | fs, u :: l => FsOk P fs u l (o + t.n) | _, _ => False)
theorem FsOk.rep {P : Program} {H : Type} {enc : TypeId × Value → H} {w : World} {base : Nat} {spare : Nat → Bool} {held : Bool} {n : Nat} {cs : List Value} :
    ∀ (fs : List Field) (t : TC) (ts : List TC) (o : Nat), FsOk P fs t ts o → (∀ f, f ∈ fs → ∃ y, DataW.trod enc P w base spare held n f.type ((cs.drop f.offset).take (P.cellsOf f.type)) = some y) → cs.length = o + (prL t ts).n →
      ∃ x : (prL t ts).D, Rep False (fun _ => False) w (prL t ts) (cs.drop o) x ∧ wfD (prL t ts) x
  | [], _, _, _, h, _, _ => h.elim
  | [f], t, [], o, h, hy, hl => by
    obtain ⟨rfl, h1, _⟩ := h
    obtain ⟨y, hy⟩ := hy f (by simp)
    obtain ⟨x, hx, hw⟩ := h1.2 hy
    rw [h1.1, List.take_of_length_le (by simp only [prL] at hl; simp; omega)] at hx
    exact ⟨x, hx, hw⟩
  | f :: g :: fs, t, u :: l, o, h, hy, hl => by
    obtain ⟨rfl, h1, h2⟩ := h
    obtain ⟨y, hyf⟩ := hy f (by simp)
    obtain ⟨x, hx, hw⟩ := h1.2 hyf
    simp only [prL, TC.n] at hl
    obtain ⟨x2, hx2, hw2⟩ := FsOk.rep (g :: fs) u l (f.offset + t.n) h2 (fun q hq => hy q (List.mem_cons_of_mem _ hq)) (by omega)
    refine ⟨(x, x2), ⟨_, _, ?_, hx, hx2⟩, hw, hw2⟩
    rw [h1.1, ← List.drop_drop, List.take_append_drop]
  | [f], t, u :: l, o, h, _, _ => by obtain ⟨_, _, h2⟩ := h; exact h2.elim
  | f :: g :: fs, t, [], o, h, _, _ => by obtain ⟨_, _, h2⟩ := h; exact h2.elim
theorem opnOfSt {P : Program} {t : TypeId} {fs : Array Field} {a : TC} {ts : List TC} (ht : P.underlying t = some (.struct fs)) (hc : P.cellsOf t = (prL a ts).n) (hf : FsOk P fs.toList a ts 0) : Opn P t (prL a ts) := by
  refine ⟨hc, fun {H enc w base spare held n cs y} h => ?_⟩
  obtain ⟨xs, m, _, _, hlen, hsz, hg⟩ := DataW.trod_struct ht h
  have := FsOk.rep (enc := enc) (w := w) (base := base) (spare := spare) (held := held) (n := m) (cs := cs) fs.toList a ts 0 hf (fun f hf => ?_) (by rw [hlen, hc]; omega)
  · simpa using this
  · obtain ⟨i, hi⟩ := List.getElem?_of_mem hf
    have hi' : fs[i]? = some f := by simpa using hi
    have hlt : i < xs.length := by rw [hsz]; exact (Array.getElem?_eq_some_iff.1 hi').1
    exact ⟨xs[i], by rw [hg i f hi']; simp [hlt]⟩

theorem law_run {P : Program} {f : Nat} {ins : List (Bool × IT)} {pre : HI ins → Prop} {upd : HI ins → HI ins} {W : World} (hW : LaidW W) (hc : @ConOk ⟨W, hW⟩ P f ⟨ins, [(false, .v .b)], false, pre, fun _ => (true, ()), upd, false⟩) {args : List Value} {x : HI ins} (hA : RepA (false = true ∧ True) (fun b => b ∈ ([] : List Nat)) W ins args x []) (hp : pre x) :
    Calls P f args.toArray W fun e w' => e = .returned (.bool true) ∧ Below W.heap.size W w' := by
  refine (hc.2 True (fun b => b < W.heap.size) W args x [] (@OldOk.mk ⟨W, hW⟩ W (Nat.le_refl _) fun _ _ => rfl) (by simp) (fun b hb => hb) (fun _ b hb => hb) (by simp) (by simpa using hA) hp).mono ?_
  rintro e w' ⟨vs, bs, rfl, hR, _, hB⟩
  obtain ⟨v, vs', b1, b2, rfl, _, _, ⟨us, hv, hr⟩, hR2⟩ := hR
  obtain ⟨rfl, _⟩ := hR2
  obtain ⟨_, hr⟩ := hr
  simp only [Rep] at hr
  subst hr
  rcases hv with ⟨h, _⟩ | ⟨_, h⟩
  · cases h
  · simp only [List.cons.injEq, and_true] at h
    subst h
    exact ⟨rfl, hB.os, hB.tape, hB.output, hB.size, fun b hb => hB.block b hb (by simp)⟩
theorem Rep.nil {w : World} {t : TC} {vs : List Value} {x : t.D} (h : Rep False (fun _ => False) w t vs x) : Rep (false = true ∧ True) (fun b => b ∈ ([] : List Nat)) w t vs x := h.move (fun h => nomatch h.1) fun _ _ _ => ⟨by simp, rfl⟩
theorem opn_int64 : Opn Try.prog 2 tI := opnOfInt (by kernel_rfl) (by kernel_rfl)
theorem opn_bool : Opn Try.prog 4 .b := opnOfBool (by kernel_rfl) (by kernel_rfl)
theorem opn_uint8 : Opn Try.prog 5 (.i .u8) := opnOfInt (by kernel_rfl) (by kernel_rfl)
theorem opn_string : Opn Try.prog 9 .s := opnOfStr (by kernel_rfl) (by kernel_rfl)
theorem opn_s_int64 : Opn Try.prog 24 tSI := opnOfSl (by kernel_rfl) (by kernel_rfl) opn_int64
theorem opn_s_uint8 : Opn Try.prog 106 (.sl (.i .u8)) := opnOfSl (by kernel_rfl) (by kernel_rfl) opn_uint8
theorem opn_Variant : Opn Try.prog 23 tVar := opnOfSt (a := tI) (ts := [tI, tI, tI]) Try.underlying23 (by kernel_rfl) ⟨rfl, opn_int64, ⟨rfl, opn_int64, ⟨rfl, opn_int64, ⟨rfl, opn_int64, trivial⟩⟩⟩⟩
theorem opn_Board : Opn Try.prog 26 tBoard := opnOfSt (a := tSI) (ts := [tSI]) Try.underlying26 (by kernel_rfl) ⟨rfl, opn_s_int64, ⟨rfl, opn_s_int64, trivial⟩⟩
theorem opn_Roll : Opn Try.prog 28 tRoll := opnOfSt (a := tI) (ts := [tI]) Try.underlying28 (by kernel_rfl) ⟨rfl, opn_int64, ⟨rfl, opn_int64, trivial⟩⟩
end Go.Proofs.Ytgbfcjnkohhfoaa
