/-
  Reading decimal numerals: the contract of readDecimal.
-/
import Derived.Test.YtokddngcfkimlaaDoorLibS
import Derived.Test.YtokddngcfkimlaaDoorTab
import Derived.Test.YtokddngcfkimlaaDoorPNum
namespace Go.Proofs.YtokddngcfkimlaaDoor
open Go.RowKit

theorem iface_of_trod {P : Program} {W : World} {t : TypeId} {ms : _} {cs : List Value} (hu : P.underlying t = some (.interface ms)) : ∀ {fuel : Nat} {x}, DataW.trod (fun _ => ()) P W 0 (fun _ => true) false fuel t cs = some x → ∃ v, cs = [v] ∧ (v = .nilIface ∨ ∃ a b, v = .iface a b)
  | 0, _, h => by simp [DataW.trod] at h
  | fuel + 1, _, h => by
    unfold DataW.trod at h
    rw [hu] at h
    split at h <;> first | (next e => cases e) | skip
    all_goals first
      | exact ⟨_, rfl, .inl rfl⟩
      | exact ⟨_, rfl, .inr ⟨_, _, rfl⟩⟩
      | cases h
def isIf : Option TypeDesc → Bool
  | some (.interface _) => true
  | _ => false
theorem err_of_reads {P : Program} {W : World} {n : String} {d : DataW Unit} {g : Nat} {t : TypeId} (hn : P.globalNamed n = some g) (ht : (P.globals[g]?).map (·.type) = some t) (hu : isIf (P.underlying t) = true) (h : Lib.VarReads P W n d) :
    ∃ ev, W.cell? ⟨g, 0, none⟩ = some ev ∧ (ev = .nilIface ∨ ∃ a b, ev = .iface a b) := by
  obtain ⟨g', t', cs, fuel, p, h1, h2, h3, h4⟩ := h
  obtain rfl := Option.some.inj (hn.symm.trans h1)
  obtain rfl := Option.some.inj (ht.symm.trans h2)
  obtain ⟨ms, hu⟩ : ∃ ms, P.underlying t = some (.interface ms) := by
    unfold isIf at hu
    split at hu
    · next ms e => exact ⟨ms, e⟩
    · cases hu
  obtain ⟨v, hv, ho⟩ := iface_of_trod hu h4
  refine ⟨v, ?_, ho⟩
  rw [World.var?_cell hn h3 0]
  have e : cs = #[v] := Array.ext' (by simpa using hv)
  rw [e]; rfl
theorem cell_old [B : Base] {w : World} (h : OldOk w) {a : Addr} {v : Value} (hc : B.W.cell? a = some v) : w.cell? a = some v := by
  have hl := Lib.lt_of_cell hc
  unfold World.cell? at hc ⊢
  rw [h.block _ hl]; exact hc
theorem OldOk.below [B : Base] {w w' : World} (h : OldOk w) (hb : Below w.heap.size w w') : OldOk w' :=
  ⟨Nat.le_trans h.size hb.size, fun b hl => (hb.block b (Nat.lt_of_lt_of_le hl h.size)).trans (h.block b hl)⟩
/-- the number with a text, if there is one -/
def readD (s : ByteArray) : Int × Bool :=
  match Lib.parseIntB 64 s.data.toList with
  | .ok x => if decS x = s then (x, true) else (0, false)
  | _ => (0, false)
theorem decS_list (x : Int) : (decS x).data.toList = Lib.itoa x := by simp [decS]
theorem readD_decS {x : Int} (h : inK .i64 x) : readD (decS x) = (x, true) := by
  simp only [inK] at h
  unfold readD
  rw [decS_list, parseIntB_itoa (by omega) (by omega)]
  simp
theorem readD_some {s : ByteArray} (h : (readD s).2 = true) : s = decS (readD s).1 ∧ inK .i64 (readD s).1 := by
  unfold readD at h ⊢
  rcases hp : Lib.parseIntB 64 s.data.toList with x | _ | _
  · rw [hp] at h
    dsimp only at h ⊢
    by_cases e : decS x = s
    · rw [if_pos e]
      have := Lib.parseIntB_bounds hp
      exact ⟨e.symm, by simp only [inK]; omega⟩
    · rw [if_neg e] at h; cases h
  · rw [hp] at h; cases h
  · rw [hp] at h; cases h
theorem readD_none {s : ByteArray} (h : (readD s).2 = false) : readD s = (0, false) := by
  unfold readD at h ⊢
  rcases hp : Lib.parseIntB 64 s.data.toList with x | _ | _
  · rw [hp] at h
    dsimp only at h ⊢
    by_cases e : decS x = s
    · rw [if_pos e] at h; cases h
    · rw [if_neg e]
  · rfl
  · rfl
theorem trim_decS {x : Int} (h : inK .i64 x) : 1 ≤ (Lib.trimPrefix (Lib.itoa x) [45]).length ∧ (Lib.trimPrefix (Lib.itoa x) [45]).length ≤ 19 := by
  simp only [inK] at h
  have hl : ∀ u : Nat, u ≤ 9223372036854775808 → 1 ≤ (Lib.decDigits u).length ∧ (Lib.decDigits u).length ≤ 19 := fun u hu =>
    ⟨List.length_pos_iff.2 (decDigits_ne u), decDigits_len (k := 18) (by omega)⟩
  unfold Lib.itoa
  split
  · exact hl _ (by omega)
  · obtain ⟨c, r, hc⟩ := List.exists_cons_of_ne_nil (decDigits_ne x.toNat)
    have hd := decDigits_dig x.toNat c (by rw [hc]; simp)
    have := hl x.toNat (by omega)
    unfold Lib.trimPrefix
    rw [if_neg]
    · exact this
    · rw [hc]
      simp only [Lib.hasPrefix, List.isPrefixOf]
      intro h
      simp only [Bool.and_true, beq_iff_eq] at h
      rw [← h] at hd
      exact absurd hd.1 (by decide)
theorem decimal_calls [B : Base] {x : Int} (hx : inK .i64 x) {w : World} (hold : OldOk w) : Calls Tryd.prog 15 #[.int .i64 x] w fun e w' => e = .returned (.string (decS x)) ∧ Below w.heap.size w w' := by
  simp only [inK] at hx
  go_enter Tryd.func15, Tryd.ntmps15
  go_wp2_with (go_at_call 38; refine (Any.strconv_FormatInt_10 Tryd.laysM173 x (by omega) (by omega) _ (pow10Now hold)).mono ?_; rintro e w' ⟨rfl, k, os, rfl⟩)
  go_ret
  exact ⟨rfl, Lib.below_grow _ _ (Nat.le_refl _) _ _⟩
theorem trim_bad {s : ByteArray} (h : (Lib.trimPrefix s.data.toList [45]).length = 0 ∨ 19 < (Lib.trimPrefix s.data.toList [45]).length) : readD s = (0, false) := by
  cases hr : (readD s).2 with
  | false => exact readD_none hr
  | true =>
    obtain ⟨e, hx⟩ := readD_some hr
    have := trim_decS hx
    rw [e, decS_list] at h
    omega
theorem errS {W : World} (h : LaidW W) : ∃ ev, W.cell? ⟨Tryd.laysC174_ren.g 15, 0, none⟩ = some ev ∧ (ev = .nilIface ∨ ∃ a b, ev = .iface a b) :=
  err_of_reads (n := "strconv.ErrSyntax") (t := 63) (by kernel_rfl) (by kernel_rfl) (by kernel_rfl) (Lib.laidMet.reads (laidMet_of_H (by kernel_rfl) h.1) (d := (Rows.fnExactTextRow.laid.getD 4 ("", .nil)).2) (List.mem_of_getElem? (i := 4) (by kernel_rfl)))
theorem errR {W : World} (h : LaidW W) : ∃ ev, W.cell? ⟨Tryd.laysC174_ren.g 16, 0, none⟩ = some ev ∧ (ev = .nilIface ∨ ∃ a b, ev = .iface a b) :=
  err_of_reads (n := "strconv.ErrRange") (t := 63) (by kernel_rfl) (by kernel_rfl) (by kernel_rfl) (Lib.laidMet.reads (laidMet_of_H (by kernel_rfl) h.1) (d := (Rows.fnExactTextRow.laid.getD 3 ("", .nil)).2) (List.mem_of_getElem? (i := 3) (by kernel_rfl)))
theorem bytes_below {w w1 : World} {T : TypeId} (h : w1 = w ∨ ∃ t, w1 = Lib.bytesWorld w T t) : Below w.heap.size w w1 := by
  rcases h with rfl | ⟨t, rfl⟩
  · exact Below.refl _ _
  · exact Lib.bytesWorld_below _ _ _
theorem readDecimal_calls [B : Base] {s : ByteArray} (hs : s.size ≤ 281474976710656) {w : World} (hold : OldOk w) : Calls Tryd.prog 22 #[.string s] w fun e w' => e = .returned (.tuple #[.int .i64 (readD s).1, .bool (readD s).2]) ∧ Below w.heap.size w w' := by
  obtain ⟨evS, hvS, hoS⟩ := errS B.ok
  obtain ⟨evR, hvR, hoR⟩ := errR B.ok
  have hvS := cell_old hold hvS
  have hvR := cell_old hold hvR
  by_cases hbad : (Lib.trimPrefix s.data.toList [45]).length = 0 ∨ 19 < (Lib.trimPrefix s.data.toList [45]).length
  · rw [trim_bad hbad]
    go_enter Tryd.func22, Tryd.ntmps22
    go_wp2_with (go_at_call 41; refine (Any.strings_TrimPrefix Tryd.lays101 _ _ _).mono ?_; rintro e w' ⟨rfl, rfl⟩)
    all_goals first
      | (go_ret2; exact ⟨rfl, Below.refl _ _⟩)
      | (exfalso; simp_all; done)
      | (exfalso; simp_all; omega)
  rcases hp : Lib.parseIntB 64 s.data.toList with x | _ | _
  · have hin := Lib.parseIntB_bounds hp
    have hx : inK .i64 x := by simp only [inK]; omega
    have hT : (readD s) = if decS x = s then (x, true) else (0, false) := by unfold readD; rw [hp]
    by_cases he : decS x = s
    · rw [hT, if_pos he]
      go_enter Tryd.func22, Tryd.ntmps22
      go_wp2_with (first | (go_at_call 41; refine (Any.strings_TrimPrefix Tryd.lays101 _ _ _).mono ?_; rintro e w' ⟨rfl, rfl⟩) | (go_at_call 42; refine (Any.strconv_ParseInt_10_at64_ok Tryd.laysC174 s (by omega) x hp _).mono ?_; rintro e w1 ⟨rfl, hW⟩; have hb1 := bytes_below hW; clear hW) | (go_at_call 15; refine (decimal_calls hx (hold.below hb1)).mono ?_; rintro e w2 ⟨rfl, hb2⟩))
      all_goals first
        | (exfalso; simp_all; done)
        | (exfalso; simp_all; omega)
        | (go_ret2; exact ⟨rfl, hb1.trans (hb2.mono hb1.size)⟩)
    · have hbe : ((decS x).toList == s.toList) = false := by rw [ba_eq]; exact decide_eq_false he
      have hne : ¬ (decS x).toList = s.toList := fun e => by rw [beq_iff_eq.2 e] at hbe; cases hbe
      rw [hT, if_neg he]
      go_enter Tryd.func22, Tryd.ntmps22
      go_wp2_with (first | (go_at_call 41; refine (Any.strings_TrimPrefix Tryd.lays101 _ _ _).mono ?_; rintro e w' ⟨rfl, rfl⟩) | (go_at_call 42; refine (Any.strconv_ParseInt_10_at64_ok Tryd.laysC174 s (by omega) x hp _).mono ?_; rintro e w1 ⟨rfl, hW⟩; have hb1 := bytes_below hW; clear hW) | (go_at_call 15; refine (decimal_calls hx (hold.below hb1)).mono ?_; rintro e w2 ⟨rfl, hb2⟩))
      all_goals first
        | (exact absurd (by assumption) hne)
        | (exfalso; simp_all; done)
        | (exfalso; simp_all; omega)
        | (go_ret2; exact ⟨rfl, hb1.trans (hb2.mono hb1.size)⟩)
  · have hT : readD s = (0, false) := by unfold readD; rw [hp]
    rw [hT]
    go_enter Tryd.func22, Tryd.ntmps22
    go_wp2_with (first | (go_at_call 41; refine (Any.strings_TrimPrefix Tryd.lays101 _ _ _).mono ?_; rintro e w' ⟨rfl, rfl⟩) | (go_at_call 42; refine (Any.strconv_ParseInt_10_at64_syntax Tryd.laysC174 s hs hp evS _ hvS hoS).mono ?_; rintro e w1 ⟨N, rfl, -, -, hb1⟩))
    all_goals first
      | (exfalso; simp_all; done)
      | (exfalso; simp_all; omega)
      | (go_ret2; exact ⟨rfl, hb1⟩)
  · have hT : readD s = (0, false) := by unfold readD; rw [hp]
    rw [hT]
    go_enter Tryd.func22, Tryd.ntmps22
    go_wp2_with (first | (go_at_call 41; refine (Any.strings_TrimPrefix Tryd.lays101 _ _ _).mono ?_; rintro e w' ⟨rfl, rfl⟩) | (go_at_call 42; refine (Any.strconv_ParseInt_10_at64_range Tryd.laysC174 s hs hp evR _ hvR hoR).mono ?_; rintro e w1 ⟨N, rfl, -, -, hb1⟩))
    all_goals first
      | (exfalso; simp_all; done)
      | (exfalso; simp_all; omega)
      | (go_ret2; exact ⟨rfl, hb1⟩)
end Go.Proofs.YtokddngcfkimlaaDoor
