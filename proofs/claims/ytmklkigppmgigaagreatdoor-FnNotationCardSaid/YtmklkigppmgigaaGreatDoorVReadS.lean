/-
  Contracts: steps and rolls read.
-/
import Derived.Test.YtmklkigppmgigaaGreatDoorVStepT
import Derived.Test.YtmklkigppmgigaaGreatDoorVSplit
import Derived.Test.YtmklkigppmgigaaGreatDoorPCut
import Derived.Test.YtmklkigppmgigaaGreatDoorAbL
namespace Go.Proofs.YtmklkigppmgigaaGreatDoor
open Go.RowKit
set_option linter.unusedSimpArgs false
set_option linter.unusedVariables false
def c_strings_CutPrefix : Con where
  ins := [(false, .v .s), (false, .v .s)]
  outs := [(false, .v .s), (false, .v .b)]
  sh := false
  pre := fun _ => True
  out := fun x => (mkB (Lib.trimPrefix (ByteArray.data x.1).toList (ByteArray.data x.2.1).toList), Lib.hasPrefix (ByteArray.data x.1).toList (ByteArray.data x.2.1).toList, ())
  upd := fun x => x
def c_strings_CutSuffix : Con where
  ins := [(false, .v .s), (false, .v .s)]
  outs := [(false, .v .s), (false, .v .b)]
  sh := false
  pre := fun x => (x.1).size ≤ 9223372036854775807
  out := fun x => (mkB (Lib.trimSuffix (ByteArray.data x.1).toList (ByteArray.data x.2.1).toList), Lib.hasSuffix (ByteArray.data x.1).toList (ByteArray.data x.2.1).toList, ())
  upd := fun x => x
def c_strings_TrimPrefix : Con where
  ins := [(false, .v .s), (false, .v .s)]
  outs := [(false, .v .s)]
  sh := false
  pre := fun _ => True
  out := fun x => (mkB (Lib.trimPrefix (ByteArray.data x.1).toList (ByteArray.data x.2.1).toList), ())
  upd := fun x => x
def c_strings_TrimSuffix : Con where
  ins := [(false, .v .s), (false, .v .s)]
  outs := [(false, .v .s)]
  sh := false
  pre := fun x => (x.1).size ≤ 9223372036854775807
  out := fun x => (mkB (Lib.trimSuffix (ByteArray.data x.1).toList (ByteArray.data x.2.1).toList), ())
  upd := fun x => x
theorem k_strings_CutPrefix [B : Base] : ConOk Tryz.prog 45 c_strings_CutPrefix :=
  conF22 (t1 := .s) (t2 := .s) (r1 := .s) (r2 := .b) (pre := c_strings_CutPrefix.pre) (o := fun s p => (mkB (Lib.trimPrefix s.data.toList p.data.toList), Lib.hasPrefix s.data.toList p.data.toList)) rfl rfl rfl rfl ⟨_, _, Tryz.func45, by kernel_rfl, rfl⟩ fun s p w _ _ =>
    (Any.strings_CutPrefix Tryz.lays103 s p w).mono fun e w' ⟨he, hw⟩ => ⟨he, hw ▸ Below.refl _ _⟩
theorem k_strings_CutSuffix [B : Base] : ConOk Tryz.prog 48 c_strings_CutSuffix :=
  conF22 (t1 := .s) (t2 := .s) (r1 := .s) (r2 := .b) (pre := c_strings_CutSuffix.pre) (o := fun s p => (mkB (Lib.trimSuffix s.data.toList p.data.toList), Lib.hasSuffix s.data.toList p.data.toList)) rfl rfl rfl rfl ⟨_, _, Tryz.func48, by kernel_rfl, rfl⟩ fun s p w _ hp =>
    (Any.strings_CutSuffix Tryz.lays104 s p w hp).mono fun e w' ⟨he, hw⟩ => ⟨he, hw ▸ Below.refl _ _⟩
theorem k_strings_TrimPrefix [B : Base] : ConOk Tryz.prog 47 c_strings_TrimPrefix :=
  conF21 (t1 := .s) (t2 := .s) (r1 := .s) (pre := c_strings_TrimPrefix.pre) (o := fun s p => mkB (Lib.trimPrefix s.data.toList p.data.toList)) rfl rfl rfl ⟨_, _, Tryz.func47, by kernel_rfl, rfl⟩ fun s p w _ _ =>
    (Any.strings_TrimPrefix Tryz.lays101 s p w).mono fun e w' ⟨he, hw⟩ => ⟨he, hw ▸ Below.refl _ _⟩
theorem k_strings_TrimSuffix [B : Base] : ConOk Tryz.prog 46 c_strings_TrimSuffix :=
  conF21 (t1 := .s) (t2 := .s) (r1 := .s) (pre := c_strings_TrimSuffix.pre) (o := fun s p => mkB (Lib.trimSuffix s.data.toList p.data.toList)) rfl rfl rfl ⟨_, _, Tryz.func46, by kernel_rfl, rfl⟩ fun s p w _ hp =>
    (Any.strings_TrimSuffix Tryz.lays102 s p w hp).mono fun e w' ⟨he, hw⟩ => ⟨he, hw ▸ Below.refl _ _⟩
noncomputable section
/-- digits as a number -/
def valL : Int → List UInt8 → Option Int
  | n, [] => some n
  | n, c :: r => if 48 ≤ c.toNat ∧ c.toNat ≤ 57 then valL (10 * n + ((c.toNat : Int) - 48)) r else none
def l01V (s : ByteArray) : Int × Bool :=
  if s.size = 0 then (0, false) else if 15 < s.size then (0, false) else if 1 < s.size ∧ byteAt s 0 = 48 then (0, false) else match valL 0 s.data.toList with
    | some n => (n, true)
    | none => (0, false)
def ValI (s : ByteArray) (n i : Int) : Prop := ∃ k : Nat, i = k ∧ k ≤ s.size ∧ valL 0 s.data.toList = valL n (s.data.toList.drop k) ∧ 0 ≤ n ∧ n < ((10 ^ k : Nat) : Int)
structure StT (v : DVar) (s : ByteArray) (x : DStep) : Prop where
  ok : plainD v x = true
  tx : stepS v x = s
def readS (v : DVar) (s : ByteArray) : DStep × Bool := by
  classical exact if h : ∃ x, StT v s x then (Classical.choose h, true) else ((0, 0, 0, false), false)
def restT (x : DStep) : ByteArray := if 0 ≤ x.2.1 then decS (x.2.1 + 1) ++ (if x.2.2.2 = true then starB else nilB) else offB ++ (if x.2.2.1 = x.1 + 1 then nilB else opB ++ decS x.2.2.1 ++ clB)
theorem app_listS (a b : ByteArray) : (a ++ b).data.toList = a.data.toList ++ b.data.toList := by rw [ByteArray.data_append, Array.toList_append]
theorem step_rest (v : DVar) (x : DStep) : stepS v x = fromT v x ++ slB ++ restT x := by
  unfold stepS restT
  split
  · simp only [app_assoc]
  · simp only [app_assoc]
def gsD (v : DVar) (s : ByteArray) : DStep :=
  if (splS s 47).length ≠ 2 then (0, 0, 0, false) else
    let f := (splS s 47).getD 0 ByteArray.empty
    let e := (splS s 47).getD 1 ByteArray.empty
    let fr := if f ≠ barB then (l01V f).1 - 1 else v.1
    if 3 ≤ e.size ∧ e.extract 0 3 = offB then (fr, -1, if 5 < e.size then (l01V (e.extract 4 (e.size - 1))).1 else fr + 1, false)
    else if 0 < e.size ∧ byteAt e ((e.size : Int) - 1) = 42 then (fr, (l01V (e.extract 0 (e.size - 1))).1 - 1, fr - ((l01V (e.extract 0 (e.size - 1))).1 - 1), true)
    else (fr, (l01V e).1 - 1, fr - ((l01V e).1 - 1), false)
theorem dec_head {n : Int} (h : 0 ≤ n) : ∃ c r, (decS n).data.toList = c :: r ∧ 48 ≤ c.toNat ∧ c.toNat ≤ 57 := by
  rw [decS_list, itoa_nat h]
  obtain ⟨c, r, e⟩ := List.exists_cons_of_ne_nil (decDigits_ne n.toNat)
  exact ⟨c, r, e, decDigits_dig _ c (by rw [e]; simp)⟩
theorem dec_not {n : Int} {c : UInt8} (h1 : c ≠ 45) (h2 : c.toNat < 48 ∨ 57 < c.toNat) : c ∉ (decS n).data.toList := by
  rw [decS_list]; exact itoa_not h1 h2
theorem bar_ne (n : Int) : decS n ≠ barB := fun e => dec_not (n := n) (c := 98) (by decide) (.inr (by decide)) (by rw [e]; simp [barB])
theorem fromT_cases (v : DVar) (x : DStep) : (x.1 < v.1 ∧ fromT v x = decS (x.1 + 1)) ∨ (¬ x.1 < v.1 ∧ fromT v x = barB) := by
  unfold fromT; split
  · exact .inl ⟨by assumption, rfl⟩
  · exact .inr ⟨by assumption, rfl⟩
theorem from_no (v : DVar) (x : DStep) : (47 : UInt8) ∉ (fromT v x).data.toList := by
  rcases fromT_cases v x with ⟨-, e⟩ | ⟨-, e⟩
  · rw [e]; exact dec_not (by decide) (.inl (by decide))
  · rw [e]; simp [barB]
def tailT (x : DStep) : ByteArray := if x.2.2.1 = x.1 + 1 then nilB else opB ++ decS x.2.2.1 ++ clB
theorem nil_list : nilB.data.toList = [] := rfl
theorem star_list : starB.data.toList = [42] := rfl
theorem off_list : offB.data.toList = [111, 102, 102] := rfl
theorem op_list : opB.data.toList = [40] := rfl
theorem cl_list : clB.data.toList = [41] := rfl
theorem sl_list : slB.data.toList = [47] := rfl
theorem tail_list (x : DStep) : (x.2.2.1 = x.1 + 1 ∧ (tailT x).data.toList = []) ∨ (x.2.2.1 ≠ x.1 + 1 ∧ (tailT x).data.toList = 40 :: ((decS x.2.2.1).data.toList ++ [41])) := by
  unfold tailT; split
  · exact .inl ⟨by assumption, rfl⟩
  · exact .inr ⟨by assumption, by simp only [app_listS, op_list, cl_list]; simp⟩
theorem rest_list (x : DStep) : (0 ≤ x.2.1 ∧ (restT x).data.toList = (decS (x.2.1 + 1)).data.toList ++ (if x.2.2.2 = true then [42] else [])) ∨ (¬ 0 ≤ x.2.1 ∧ (restT x).data.toList = [111, 102, 102] ++ (tailT x).data.toList) := by
  unfold restT tailT; split
  · refine .inl ⟨by assumption, ?_⟩
    rw [app_listS]; congr 1; split <;> rfl
  · exact .inr ⟨by assumption, by rw [app_listS, off_list]⟩
theorem rest_no (x : DStep) : (47 : UInt8) ∉ (restT x).data.toList := by
  rcases rest_list x with ⟨-, e⟩ | ⟨-, e⟩ <;> rw [e]
  · rw [List.mem_append, not_or]
    exact ⟨dec_not (by decide) (.inl (by decide)), by split <;> decide⟩
  · rw [List.mem_append, not_or]
    refine ⟨by decide, ?_⟩
    rcases tail_list x with ⟨-, e⟩ | ⟨-, e⟩ <;> rw [e]
    · decide
    · simp only [List.mem_cons, List.mem_append, not_or]
      exact ⟨by decide, dec_not (by decide) (.inl (by decide)), by decide⟩
theorem cutD_any {h t : ByteArray} (hn : (47 : UInt8) ∉ h.data.toList) : cutD (h ++ slB ++ t) slB = (h, t, true) := by
  unfold cutD
  have e : (h ++ slB ++ t).data.toList = h.data.toList ++ 47 :: t.data.toList := by
    rw [app_listS, app_listS, sl_list]; simp
  have hc : Lib.cut (h ++ slB ++ t).data.toList slB.data.toList = (h.data.toList, t.data.toList, true) := by
    rw [e]; exact cut_at hn
  rw [hc]
theorem splS_two {h t : ByteArray} (hn : (47 : UInt8) ∉ h.data.toList) (ht : (47 : UInt8) ∉ t.data.toList) : splS (h ++ slB ++ t) 47 = [h, t] := by
  unfold splS
  have e : (h ++ slB ++ t).data.toList = h.data.toList ++ 47 :: t.data.toList := by
    rw [app_listS, app_listS, sl_list]; simp
  rw [e, show UInt8.ofNat (47 : Int).toNat = 47 from rfl, spl_at hn, spl_no ht]
  simp only [List.map_cons, List.map_nil, mkB_of]
theorem valL_dec {n : Int} (h0 : 0 ≤ n) (h1 : n ≤ 99) : valL 0 (decS n).data.toList = some n := by
  rw [decS_list, itoa_nat h0]
  by_cases h : n.toNat < 10
  · rw [Lib.decDigits_one h]
    simp only [valL, byte_dig h]
    rw [if_pos (by omega)]; congr 1; omega
  · rw [decDigits_rec (by omega), Lib.decDigits_one (by omega)]
    simp only [List.cons_append, List.nil_append, valL, byte_dig (show n.toNat / 10 < 10 by omega), byte_dig (Nat.mod_lt n.toNat (show 0 < 10 by decide))]
    rw [if_pos (by omega), if_pos (by omega)]; congr 1; omega
theorem l01V_dec {n : Int} (h0 : 0 ≤ n) (h1 : n ≤ 99) : l01V (decS n) = (n, true) := by
  have hv := valL_dec h0 h1
  obtain ⟨c, r, e, -⟩ := dec_head h0
  have hs : (decS n).size ≠ 0 := by rw [Lib.size_eq, e]; simp
  have hs2 : (decS n).size ≤ 2 := by
    rw [Lib.size_eq, decS_list, itoa_nat h0]; exact decDigits_len (k := 1) (by omega)
  unfold l01V
  rw [if_neg hs, if_neg (by omega), if_neg, hv]
  rintro ⟨h2, h3⟩
  rw [show byteAt (decS n) 0 = (((decS n).data.toList.getD 0 0).toNat : Int) from rfl, decS_list, itoa_nat h0] at h3
  rw [Lib.size_eq, decS_list, itoa_nat h0] at h2
  by_cases h : n.toNat < 10
  · rw [Lib.decDigits_one h] at h2; simp at h2
  · rw [decDigits_rec (by omega), Lib.decDigits_one (by omega)] at h3
    simp only [List.cons_append, List.getD_cons_zero, byte_dig (show n.toNat / 10 < 10 by omega)] at h3
    omega
/-- what a plain step's text gives back -/
theorem gs_eq {v : DVar} {s : ByteArray} {x : DStep} (hv : varD v = true) (h : StT v s x) : gsD v s = x := by
  obtain ⟨h1, h2⟩ := h
  obtain ⟨p1, p2, p3, p4, p5⟩ := plainD_in hv h1
  have hto : 0 ≤ x.2.1 → x.2.2.1 = x.1 - x.2.1 := fun h => by
    simp only [plainD, Bool.and_eq_true] at h1
    have := h1.2
    rw [if_neg (by omega)] at this
    simp only [Bool.and_eq_true, decide_eq_true_eq] at this; omega
  rw [step_rest] at h2
  subst h2
  have hf : (if fromT v x ≠ barB then (l01V (fromT v x)).1 - 1 else v.1) = x.1 := by
    rcases fromT_cases v x with ⟨hl, e⟩ | ⟨hl, e⟩ <;> rw [e]
    · rw [if_pos (bar_ne _), l01V_dec (by omega) (by omega)]; dsimp only; omega
    · rw [if_neg (fun h => h rfl)]; omega
  unfold gsD
  simp only [splS_two (from_no v x) (rest_no x), List.length_cons, List.length_nil, List.getD_cons_zero, List.getD_cons_succ, hf]
  rw [if_neg (by decide)]
  have hsz := Lib.size_eq (restT x)
  have hex := ext_list (restT x) 0 3
  rw [List.drop_zero] at hex
  rcases rest_list x with ⟨h0, e⟩ | ⟨h0, e⟩
  · obtain ⟨c, r, hc, hc1, hc2⟩ := dec_head (n := x.2.1 + 1) (by omega)
    rw [if_neg]
    · by_cases hh : x.2.2.2 = true
      · rw [if_pos hh] at e
        have hl : (restT x).size = (decS (x.2.1 + 1)).data.toList.length + 1 := by rw [hsz, e]; simp
        have hb : byteAt (restT x) (((restT x).size : Int) - 1) = 42 := by
          have e1 : (((restT x).size : Int) - 1) = ((decS (x.2.1 + 1)).data.toList.length : Int) := by omega
          rw [e1, byteAt_list, e, List.getD_eq_getElem?_getD, List.getElem?_append_right (Nat.le_refl _)]; simp
        have hx : (restT x).extract 0 ((restT x).size - 1) = decS (x.2.1 + 1) := by
          refine bytes_ext ?_
          rw [ext_list, e, hl]; simp
        rw [if_pos ⟨by omega, hb⟩, hx, l01V_dec (by omega) (by omega)]
        have := hto h0
        refine Prod.ext rfl (Prod.ext ?_ (Prod.ext ?_ hh.symm)) <;> dsimp only <;> omega
      · have hh' : x.2.2.2 = false := by simpa using hh
        rw [if_neg hh, List.append_nil] at e
        have he : restT x = decS (x.2.1 + 1) := bytes_ext e
        rw [if_neg, he, l01V_dec (by omega) (by omega)]
        · have := hto h0
          refine Prod.ext rfl (Prod.ext ?_ (Prod.ext ?_ hh'.symm)) <;> dsimp only <;> omega
        · rintro ⟨g1, g2⟩
          have hm := dec_not (n := x.2.1 + 1) (c := 42) (by decide) (.inl (by decide))
          rw [← e] at hm
          have e1 : (((restT x).size : Int) - 1) = (((restT x).size - 1 : Nat) : Int) := by omega
          rw [e1, byteAt_list, List.getD_eq_getElem?_getD, List.getElem?_eq_getElem (by omega), Option.getD_some] at g2
          have : (restT x).data.toList[(restT x).size - 1]'(by omega) = 42 := UInt8.toNat_inj.1 (by have : (42 : UInt8).toNat = 42 := rfl; omega)
          exact hm (this ▸ List.getElem_mem _)
    · rintro ⟨-, g⟩
      have g2 : ((restT x).extract 0 3).data.toList = offB.data.toList := by rw [g]
      rw [hex, e, hc, off_list] at g2
      simp only [List.cons_append, List.take_succ_cons, List.cons.injEq] at g2
      rw [g2.1] at hc2
      exact absurd hc2 (by decide)
  · have hm1 : x.2.1 = -1 := by omega
    have h3 : (restT x).extract 0 3 = offB := bytes_ext (by rw [hex, e, off_list]; rfl)
    have hl : (restT x).size = 3 + (tailT x).data.toList.length := by rw [hsz, e, List.length_append]; rfl
    rw [if_pos ⟨by omega, h3⟩]
    have hh := p5 hm1
    rcases tail_list x with ⟨hd, et⟩ | ⟨hd, et⟩
    · rw [et] at hl
      rw [if_neg (by simp at hl; omega)]
      exact Prod.ext rfl (Prod.ext hm1.symm (Prod.ext hd.symm hh.symm))
    · have hdn : 1 ≤ (decS x.2.2.1).data.toList.length := by
        obtain ⟨c, r, hc, -⟩ := dec_head (n := x.2.2.1) (by omega)
        rw [hc]; simp
      have hx : (restT x).extract 4 ((restT x).size - 1) = decS x.2.2.1 := by
        refine bytes_ext ?_
        rw [et] at hl
        simp only [List.length_cons, List.length_append, List.length_nil] at hl
        rw [ext_list, e, et, show (restT x).size - 1 - 4 = (decS x.2.2.1).data.toList.length by omega]
        simp
      rw [et] at hl
      simp only [List.length_cons, List.length_append, List.length_nil] at hl
      rw [if_pos (by omega), hx, l01V_dec (by omega) (by omega)]
      exact Prod.ext rfl (Prod.ext hm1.symm (Prod.ext rfl hh.symm))
theorem readS_yes {v : DVar} {s : ByteArray} {x : DStep} (hv : varD v = true) (h : StT v s x) : readS v s = (x, true) := by
  have he : ∃ x, StT v s x := ⟨x, h⟩
  unfold readS
  rw [dif_pos he, ← gs_eq hv (Classical.choose_spec he), gs_eq hv h]
theorem readS_no {v : DVar} {s : ByteArray} (h : ∀ x, ¬ StT v s x) : readS v s = ((0, 0, 0, false), false) := by
  unfold readS
  rw [dif_neg (fun ⟨x, hx⟩ => h x hx)]
/-- the parts of a plain step's text, as the library cuts them -/
theorem step_left {v : DVar} {s : ByteArray} {x : DStep} (hv : varD v = true) (h : StT v s x) : (cutD s slB).2.2 = true ∧ (cutD s slB).2.1 = restT x ∧ (((cutD s slB).1 = barB ∧ x.1 = v.1) ∨ ((cutD s slB).1 ≠ barB ∧ readD (cutD s slB).1 = (x.1 + 1, true))) := by
  obtain ⟨h1, h2⟩ := h
  obtain ⟨p1, p2, p3, p4, p5⟩ := plainD_in hv h1
  rw [step_rest] at h2
  subst h2
  rw [cutD_any (from_no v x)]
  refine ⟨rfl, rfl, ?_⟩
  rcases fromT_cases v x with ⟨hl, e⟩ | ⟨hl, e⟩
  · exact .inr ⟨by rw [e]; exact bar_ne _, by rw [e, readD_decS (by simp only [inK]; omega)]⟩
  · exact .inl ⟨e, by omega⟩
theorem rest_plus {x : DStep} (h : 0 ≤ x.2.1) (h' : x.2.1 ≤ 24) : Lib.hasPrefix (restT x).data.toList [111, 102, 102] = false ∧ readD (mkB (Lib.trimSuffix (restT x).data.toList [42])) = (x.2.1 + 1, true) ∧ Lib.hasSuffix (restT x).data.toList [42] = x.2.2.2 := by
  obtain ⟨-, e⟩ := (rest_list x).resolve_right (fun g => g.1 h)
  obtain ⟨c, r, hc, hc1, hc2⟩ := dec_head (n := x.2.1 + 1) (by omega)
  have hr : readD (decS (x.2.1 + 1)) = (x.2.1 + 1, true) := readD_decS (by simp only [inK]; omega)
  refine ⟨?_, ?_⟩
  · rw [e, hc]
    unfold Lib.hasPrefix
    rw [List.cons_append, List.isPrefixOf_cons_cons]
    have : ((111 : UInt8) == c) = false := by
      rw [beq_eq_false_iff_ne]; intro g; rw [← g] at hc2; exact absurd hc2 (by decide)
    rw [this]; rfl
  · by_cases hh : x.2.2.2 = true
    · rw [if_pos hh] at e
      have hs : Lib.hasSuffix (restT x).data.toList [42] = true := by
        unfold Lib.hasSuffix
        rw [List.isSuffixOf_iff_suffix, e]
        exact ⟨_, rfl⟩
      refine ⟨?_, by rw [hs, hh]⟩
      unfold Lib.trimSuffix
      rw [if_pos hs, e]
      have : ((decS (x.2.1 + 1)).data.toList ++ [42]).take (((decS (x.2.1 + 1)).data.toList ++ [42]).length - [(42 : UInt8)].length) = (decS (x.2.1 + 1)).data.toList := by simp
      rw [this, mkB_of, hr]
    · rw [if_neg hh, List.append_nil] at e
      have hs : Lib.hasSuffix (restT x).data.toList [42] = false := by
        cases hg : Lib.hasSuffix (restT x).data.toList [42] with
        | false => rfl
        | true =>
          unfold Lib.hasSuffix at hg
          rw [List.isSuffixOf_iff_suffix, e] at hg
          exact absurd (hg.subset (by simp)) (dec_not (n := x.2.1 + 1) (c := 42) (by decide) (.inl (by decide)))
      refine ⟨?_, by rw [hs]; simpa using Ne.symm hh⟩
      unfold Lib.trimSuffix
      rw [if_neg (by rw [hs]; decide), e, mkB_of, hr]
theorem rest_off {x : DStep} (h : ¬ 0 ≤ x.2.1) : Lib.hasPrefix (restT x).data.toList [111, 102, 102] = true ∧ Lib.trimPrefix (restT x).data.toList [111, 102, 102] = (tailT x).data.toList := by
  obtain ⟨-, e⟩ := (rest_list x).resolve_left (fun g => h g.1)
  have hp : Lib.hasPrefix (restT x).data.toList [111, 102, 102] = true := by
    unfold Lib.hasPrefix
    rw [List.isPrefixOf_iff_prefix, e]
    exact ⟨_, rfl⟩
  refine ⟨hp, ?_⟩
  unfold Lib.trimPrefix
  rw [if_pos hp, e]; rfl
theorem tail_read {x : DStep} (h : inK .i64 x.2.2.1) (hd : x.2.2.1 ≠ x.1 + 1) : (tailT x).data.toList ≠ [] ∧ readD (mkB (Lib.trimSuffix (mkB (Lib.trimPrefix (tailT x).data.toList [40])).data.toList [41])) = (x.2.2.1, true) := by
  obtain ⟨-, e⟩ := (tail_list x).resolve_left (fun g => hd g.1)
  have hp : Lib.hasPrefix (tailT x).data.toList [40] = true := by
    unfold Lib.hasPrefix
    rw [List.isPrefixOf_iff_prefix, e]
    exact ⟨_, rfl⟩
  have e1 : Lib.trimPrefix (tailT x).data.toList [40] = (decS x.2.2.1).data.toList ++ [41] := by
    unfold Lib.trimPrefix
    rw [if_pos hp, e]; rfl
  have hs : Lib.hasSuffix ((decS x.2.2.1).data.toList ++ [41]) [41] = true := by
    unfold Lib.hasSuffix
    rw [List.isSuffixOf_iff_suffix]
    exact ⟨_, rfl⟩
  refine ⟨by rw [e]; simp, ?_⟩
  rw [e1, mkB_data]
  unfold Lib.trimSuffix
  rw [if_pos hs]
  have : ((decS x.2.2.1).data.toList ++ [41]).take (((decS x.2.2.1).data.toList ++ [41]).length - [(41 : UInt8)].length) = (decS x.2.2.1).data.toList := by simp
  rw [this, mkB_of, readD_decS h]
theorem mkB_size (l : List UInt8) : (mkB l).size = l.length := by rw [Lib.size_eq, mkB_data]
theorem splS_sz {s w : ByteArray} {c : Int} (h : w ∈ splS s c) : w.size ≤ s.size := by
  unfold splS at h
  obtain ⟨l, hl, rfl⟩ := List.mem_map.1 h
  rw [mkB_size, Lib.size_eq]
  exact spl_len hl
theorem splS_cnt (s : ByteArray) (c : Int) : (splS s c).length ≤ s.size + 1 := by
  unfold splS
  rw [List.length_map, Lib.size_eq]
  exact spl_cnt _
theorem getD_memS {l : List ByteArray} {k : Nat} (h : k < l.length) : l.getD k ByteArray.empty ∈ l := by
  rw [List.getD_eq_getElem?_getD, List.getElem?_eq_getElem h]; exact List.getElem_mem h
theorem trimP_len (l p : List UInt8) : (Lib.trimPrefix l p).length ≤ l.length := by unfold Lib.trimPrefix; split <;> simp
theorem trimS_len (l p : List UInt8) : (Lib.trimSuffix l p).length ≤ l.length := by
  unfold Lib.trimSuffix; split
  · rw [List.length_take]; omega
  · exact Nat.le_refl _
theorem cutD_sz (s p : ByteArray) : (cutD s p).1.size ≤ s.size ∧ (cutD s p).2.1.size ≤ s.size := by
  have e : ∀ l : List UInt8, (ByteArray.mk l.toArray).size = l.length := fun l => mkB_size l
  unfold cutD
  rw [e, e, Lib.size_eq]
  unfold Lib.cut
  split
  · exact ⟨by simp; omega, by simp⟩
  · exact ⟨Nat.le_refl _, by simp⟩
theorem valL_bd : ∀ {l : List UInt8} {n : Int} {m : Int} {k : Nat}, valL n l = some m → 0 ≤ n → n < ((10 ^ k : Nat) : Int) → 0 ≤ m ∧ m < ((10 ^ (k + l.length) : Nat) : Int)
  | [], n, m, k, h, h0, h1 => by
    simp only [valL, Option.some.injEq] at h
    subst h; exact ⟨h0, h1⟩
  | c :: r, n, m, k, h, h0, h1 => by
    simp only [valL] at h
    split at h
    · next hc =>
      have := valL_bd (k := k + 1) h (by omega) (by rw [Nat.pow_succ]; push_cast at h1 ⊢; omega)
      rw [List.length_cons, show k + (r.length + 1) = k + 1 + r.length by omega]; exact this
    · cases h
theorem l01V_bd (s : ByteArray) : 0 ≤ (l01V s).1 ∧ (l01V s).1 ≤ 999999999999999 := by
  unfold l01V
  split
  · decide
  · split
    · decide
    · split
      · decide
      · split
        · next n hn =>
          have h := valL_bd (k := 0) hn (by omega) (by decide)
          have hl : s.data.toList.length ≤ 15 := by rw [← Lib.size_eq]; omega
          have hp : 10 ^ (0 + s.data.toList.length) ≤ 10 ^ 15 := Nat.pow_le_pow_right (by decide) (by omega)
          have e15 : (10 : Nat) ^ 15 = 1000000000000000 := rfl
          dsimp only; omega
        · decide
def c_impl_readStep : Con where
  ins := [(true, .v tVar), (false, .v .s)]
  outs := [(true, .v tStep), (false, .v .b)]
  sh := false
  pre := fun x => varD x.1 = true ∧ (x.2.1).size ≤ 1048576
  out := fun x => ((readS x.1 x.2.1).1, (readS x.1 x.2.1).2, ())
  upd := fun x => x
theorem k_impl_readStep [B : Base] : ConOk Tryz.prog 26 c_impl_readStep := by
  refine fn_okW (C := cxw Tryz.prog 107 c_impl_readStep) (cs := [(23, c_strings_Cut), (44, c_impl_readDecimal), (45, c_strings_CutPrefix), (47, c_strings_TrimPrefix), (46, c_strings_TrimSuffix), (27, c_impl_plainStep), (28, c_impl_stepText), (48, c_strings_CutSuffix)]) (res := Tryz.f26.results.toList) (fun _ => ⟨[], [], []⟩) Tryz.func26 (by kernel_rfl) rfl rfl rfl tysOk.look eqTsOk.look (AllCs.okw (l := [(23, c_strings_Cut), (44, c_impl_readDecimal), (45, c_strings_CutPrefix), (47, c_strings_TrimPrefix), (46, c_strings_TrimSuffix), (27, c_impl_plainStep), (28, c_impl_stepText), (48, c_strings_CutSuffix)]) ⟨k_strings_Cut, k_impl_readDecimal, k_strings_CutPrefix, k_strings_TrimPrefix, k_strings_TrimSuffix, k_impl_plainStep, k_impl_stepText, k_strings_CutSuffix, trivial⟩) mixed rfl rfl rfl ?_
  refine of_nf (P := ∀ v : Int × Int × Int × Int, ∀ s : ByteArray, (varD v = true ∧ (s).size ≤ 1048576) → ((lensI c_impl_readStep.ins (v, s, ())) → (((s).size < 4294967281) ∧ (bsp (!(cutD s (ByteArray.mk #[47])).2.2) (@Eq (HO c_impl_readStep.outs) ((0, 0, 0, false), false, ()) (c_impl_readStep.out (v, s, ()))) (bsp (decide ((cutD s (ByteArray.mk #[47])).1 ≠ (ByteArray.mk #[98, 97, 114]))) ((((cutD s (ByteArray.mk #[47])).1).size ≤ 281474976710656) ∧ (bsp (!(readD (cutD s (ByteArray.mk #[47])).1).2) (@Eq (HO c_impl_readStep.outs) ((0, 0, 0, false), false, ()) (c_impl_readStep.out (v, s, ()))) (True ∧ (bsp (Lib.hasPrefix (ByteArray.data (cutD s (ByteArray.mk #[47])).2.1).toList (ByteArray.data (ByteArray.mk #[111, 102, 102])).toList) (bsp (decide (mkB (Lib.trimPrefix (ByteArray.data (cutD s (ByteArray.mk #[47])).2.1).toList (ByteArray.data (ByteArray.mk #[111, 102, 102])).toList) ≠ (ByteArray.mk #[]))) (True ∧ ((((mkB (Lib.trimPrefix (ByteArray.data (mkB (Lib.trimPrefix (ByteArray.data (cutD s (ByteArray.mk #[47])).2.1).toList (ByteArray.data (ByteArray.mk #[111, 102, 102])).toList))).toList (ByteArray.data (ByteArray.mk #[40])).toList))).size ≤ 9223372036854775807) ∧ ((((mkB (Lib.trimSuffix (ByteArray.data (mkB (Lib.trimPrefix (ByteArray.data (mkB (Lib.trimPrefix (ByteArray.data (cutD s (ByteArray.mk #[47])).2.1).toList (ByteArray.data (ByteArray.mk #[111, 102, 102])).toList))).toList (ByteArray.data (ByteArray.mk #[40])).toList))).toList (ByteArray.data (ByteArray.mk #[41])).toList))).size ≤ 281474976710656) ∧ (bsp (!(readD (mkB (Lib.trimSuffix (ByteArray.data (mkB (Lib.trimPrefix (ByteArray.data (mkB (Lib.trimPrefix (ByteArray.data (cutD s (ByteArray.mk #[47])).2.1).toList (ByteArray.data (ByteArray.mk #[111, 102, 102])).toList))).toList (ByteArray.data (ByteArray.mk #[40])).toList))).toList (ByteArray.data (ByteArray.mk #[41])).toList))).2) (@Eq (HO c_impl_readStep.outs) ((0, 0, 0, false), false, ()) (c_impl_readStep.out (v, s, ()))) ((varD v = true) ∧ (bsp (!(plainD v ((IntKind.wrap .i64 ((readD (cutD s (ByteArray.mk #[47])).1).1 - 1)), (-1), (readD (mkB (Lib.trimSuffix (ByteArray.data (mkB (Lib.trimPrefix (ByteArray.data (mkB (Lib.trimPrefix (ByteArray.data (cutD s (ByteArray.mk #[47])).2.1).toList (ByteArray.data (ByteArray.mk #[111, 102, 102])).toList))).toList (ByteArray.data (ByteArray.mk #[40])).toList))).toList (ByteArray.data (ByteArray.mk #[41])).toList))).1, false))) (@Eq (HO c_impl_readStep.outs) ((0, 0, 0, false), false, ()) (c_impl_readStep.out (v, s, ()))) ((varD v = true ∧ plainD v ((IntKind.wrap .i64 ((readD (cutD s (ByteArray.mk #[47])).1).1 - 1)), (-1), (readD (mkB (Lib.trimSuffix (ByteArray.data (mkB (Lib.trimPrefix (ByteArray.data (mkB (Lib.trimPrefix (ByteArray.data (cutD s (ByteArray.mk #[47])).2.1).toList (ByteArray.data (ByteArray.mk #[111, 102, 102])).toList))).toList (ByteArray.data (ByteArray.mk #[40])).toList))).toList (ByteArray.data (ByteArray.mk #[41])).toList))).1, false) = true) ∧ (bsp (decide (stepS v ((IntKind.wrap .i64 ((readD (cutD s (ByteArray.mk #[47])).1).1 - 1)), (-1), (readD (mkB (Lib.trimSuffix (ByteArray.data (mkB (Lib.trimPrefix (ByteArray.data (mkB (Lib.trimPrefix (ByteArray.data (cutD s (ByteArray.mk #[47])).2.1).toList (ByteArray.data (ByteArray.mk #[111, 102, 102])).toList))).toList (ByteArray.data (ByteArray.mk #[40])).toList))).toList (ByteArray.data (ByteArray.mk #[41])).toList))).1, false) ≠ s)) (@Eq (HO c_impl_readStep.outs) ((0, 0, 0, false), false, ()) (c_impl_readStep.out (v, s, ()))) (@Eq (HO c_impl_readStep.outs) (((IntKind.wrap .i64 ((readD (cutD s (ByteArray.mk #[47])).1).1 - 1)), (-1), (readD (mkB (Lib.trimSuffix (ByteArray.data (mkB (Lib.trimPrefix (ByteArray.data (mkB (Lib.trimPrefix (ByteArray.data (cutD s (ByteArray.mk #[47])).2.1).toList (ByteArray.data (ByteArray.mk #[111, 102, 102])).toList))).toList (ByteArray.data (ByteArray.mk #[40])).toList))).toList (ByteArray.data (ByteArray.mk #[41])).toList))).1, false), true, ()) (c_impl_readStep.out (v, s, ()))))))))))) ((varD v = true) ∧ (bsp (!(plainD v ((IntKind.wrap .i64 ((readD (cutD s (ByteArray.mk #[47])).1).1 - 1)), (-1), IntKind.wrap .i64 ((IntKind.wrap .i64 ((readD (cutD s (ByteArray.mk #[47])).1).1 - 1)) + 1), false))) (@Eq (HO c_impl_readStep.outs) ((0, 0, 0, false), false, ()) (c_impl_readStep.out (v, s, ()))) ((varD v = true ∧ plainD v ((IntKind.wrap .i64 ((readD (cutD s (ByteArray.mk #[47])).1).1 - 1)), (-1), IntKind.wrap .i64 ((IntKind.wrap .i64 ((readD (cutD s (ByteArray.mk #[47])).1).1 - 1)) + 1), false) = true) ∧ (bsp (decide (stepS v ((IntKind.wrap .i64 ((readD (cutD s (ByteArray.mk #[47])).1).1 - 1)), (-1), IntKind.wrap .i64 ((IntKind.wrap .i64 ((readD (cutD s (ByteArray.mk #[47])).1).1 - 1)) + 1), false) ≠ s)) (@Eq (HO c_impl_readStep.outs) ((0, 0, 0, false), false, ()) (c_impl_readStep.out (v, s, ()))) (@Eq (HO c_impl_readStep.outs) (((IntKind.wrap .i64 ((readD (cutD s (ByteArray.mk #[47])).1).1 - 1)), (-1), IntKind.wrap .i64 ((IntKind.wrap .i64 ((readD (cutD s (ByteArray.mk #[47])).1).1 - 1)) + 1), false), true, ()) (c_impl_readStep.out (v, s, ())))))))) ((((cutD s (ByteArray.mk #[47])).2.1).size ≤ 9223372036854775807) ∧ ((((mkB (Lib.trimSuffix (ByteArray.data (cutD s (ByteArray.mk #[47])).2.1).toList (ByteArray.data (ByteArray.mk #[42])).toList))).size ≤ 281474976710656) ∧ (bsp (!(readD (mkB (Lib.trimSuffix (ByteArray.data (cutD s (ByteArray.mk #[47])).2.1).toList (ByteArray.data (ByteArray.mk #[42])).toList))).2) (@Eq (HO c_impl_readStep.outs) ((0, 0, 0, false), false, ()) (c_impl_readStep.out (v, s, ()))) ((varD v = true) ∧ (bsp (!(plainD v ((IntKind.wrap .i64 ((readD (cutD s (ByteArray.mk #[47])).1).1 - 1)), (IntKind.wrap .i64 ((readD (mkB (Lib.trimSuffix (ByteArray.data (cutD s (ByteArray.mk #[47])).2.1).toList (ByteArray.data (ByteArray.mk #[42])).toList))).1 - 1)), IntKind.wrap .i64 ((IntKind.wrap .i64 ((readD (cutD s (ByteArray.mk #[47])).1).1 - 1)) - (IntKind.wrap .i64 ((readD (mkB (Lib.trimSuffix (ByteArray.data (cutD s (ByteArray.mk #[47])).2.1).toList (ByteArray.data (ByteArray.mk #[42])).toList))).1 - 1))), Lib.hasSuffix (ByteArray.data (cutD s (ByteArray.mk #[47])).2.1).toList (ByteArray.data (ByteArray.mk #[42])).toList))) (@Eq (HO c_impl_readStep.outs) ((0, 0, 0, false), false, ()) (c_impl_readStep.out (v, s, ()))) ((varD v = true ∧ plainD v ((IntKind.wrap .i64 ((readD (cutD s (ByteArray.mk #[47])).1).1 - 1)), (IntKind.wrap .i64 ((readD (mkB (Lib.trimSuffix (ByteArray.data (cutD s (ByteArray.mk #[47])).2.1).toList (ByteArray.data (ByteArray.mk #[42])).toList))).1 - 1)), IntKind.wrap .i64 ((IntKind.wrap .i64 ((readD (cutD s (ByteArray.mk #[47])).1).1 - 1)) - (IntKind.wrap .i64 ((readD (mkB (Lib.trimSuffix (ByteArray.data (cutD s (ByteArray.mk #[47])).2.1).toList (ByteArray.data (ByteArray.mk #[42])).toList))).1 - 1))), Lib.hasSuffix (ByteArray.data (cutD s (ByteArray.mk #[47])).2.1).toList (ByteArray.data (ByteArray.mk #[42])).toList) = true) ∧ (bsp (decide (stepS v ((IntKind.wrap .i64 ((readD (cutD s (ByteArray.mk #[47])).1).1 - 1)), (IntKind.wrap .i64 ((readD (mkB (Lib.trimSuffix (ByteArray.data (cutD s (ByteArray.mk #[47])).2.1).toList (ByteArray.data (ByteArray.mk #[42])).toList))).1 - 1)), IntKind.wrap .i64 ((IntKind.wrap .i64 ((readD (cutD s (ByteArray.mk #[47])).1).1 - 1)) - (IntKind.wrap .i64 ((readD (mkB (Lib.trimSuffix (ByteArray.data (cutD s (ByteArray.mk #[47])).2.1).toList (ByteArray.data (ByteArray.mk #[42])).toList))).1 - 1))), Lib.hasSuffix (ByteArray.data (cutD s (ByteArray.mk #[47])).2.1).toList (ByteArray.data (ByteArray.mk #[42])).toList) ≠ s)) (@Eq (HO c_impl_readStep.outs) ((0, 0, 0, false), false, ()) (c_impl_readStep.out (v, s, ()))) (@Eq (HO c_impl_readStep.outs) (((IntKind.wrap .i64 ((readD (cutD s (ByteArray.mk #[47])).1).1 - 1)), (IntKind.wrap .i64 ((readD (mkB (Lib.trimSuffix (ByteArray.data (cutD s (ByteArray.mk #[47])).2.1).toList (ByteArray.data (ByteArray.mk #[42])).toList))).1 - 1)), IntKind.wrap .i64 ((IntKind.wrap .i64 ((readD (cutD s (ByteArray.mk #[47])).1).1 - 1)) - (IntKind.wrap .i64 ((readD (mkB (Lib.trimSuffix (ByteArray.data (cutD s (ByteArray.mk #[47])).2.1).toList (ByteArray.data (ByteArray.mk #[42])).toList))).1 - 1))), Lib.hasSuffix (ByteArray.data (cutD s (ByteArray.mk #[47])).2.1).toList (ByteArray.data (ByteArray.mk #[42])).toList), true, ()) (c_impl_readStep.out (v, s, ())))))))))))))) (True ∧ (bsp (Lib.hasPrefix (ByteArray.data (cutD s (ByteArray.mk #[47])).2.1).toList (ByteArray.data (ByteArray.mk #[111, 102, 102])).toList) (bsp (decide (mkB (Lib.trimPrefix (ByteArray.data (cutD s (ByteArray.mk #[47])).2.1).toList (ByteArray.data (ByteArray.mk #[111, 102, 102])).toList) ≠ (ByteArray.mk #[]))) (True ∧ ((((mkB (Lib.trimPrefix (ByteArray.data (mkB (Lib.trimPrefix (ByteArray.data (cutD s (ByteArray.mk #[47])).2.1).toList (ByteArray.data (ByteArray.mk #[111, 102, 102])).toList))).toList (ByteArray.data (ByteArray.mk #[40])).toList))).size ≤ 9223372036854775807) ∧ ((((mkB (Lib.trimSuffix (ByteArray.data (mkB (Lib.trimPrefix (ByteArray.data (mkB (Lib.trimPrefix (ByteArray.data (cutD s (ByteArray.mk #[47])).2.1).toList (ByteArray.data (ByteArray.mk #[111, 102, 102])).toList))).toList (ByteArray.data (ByteArray.mk #[40])).toList))).toList (ByteArray.data (ByteArray.mk #[41])).toList))).size ≤ 281474976710656) ∧ (bsp (!(readD (mkB (Lib.trimSuffix (ByteArray.data (mkB (Lib.trimPrefix (ByteArray.data (mkB (Lib.trimPrefix (ByteArray.data (cutD s (ByteArray.mk #[47])).2.1).toList (ByteArray.data (ByteArray.mk #[111, 102, 102])).toList))).toList (ByteArray.data (ByteArray.mk #[40])).toList))).toList (ByteArray.data (ByteArray.mk #[41])).toList))).2) (@Eq (HO c_impl_readStep.outs) ((0, 0, 0, false), false, ()) (c_impl_readStep.out (v, s, ()))) ((varD v = true) ∧ (bsp (!(plainD v (v.1, (-1), (readD (mkB (Lib.trimSuffix (ByteArray.data (mkB (Lib.trimPrefix (ByteArray.data (mkB (Lib.trimPrefix (ByteArray.data (cutD s (ByteArray.mk #[47])).2.1).toList (ByteArray.data (ByteArray.mk #[111, 102, 102])).toList))).toList (ByteArray.data (ByteArray.mk #[40])).toList))).toList (ByteArray.data (ByteArray.mk #[41])).toList))).1, false))) (@Eq (HO c_impl_readStep.outs) ((0, 0, 0, false), false, ()) (c_impl_readStep.out (v, s, ()))) ((varD v = true ∧ plainD v (v.1, (-1), (readD (mkB (Lib.trimSuffix (ByteArray.data (mkB (Lib.trimPrefix (ByteArray.data (mkB (Lib.trimPrefix (ByteArray.data (cutD s (ByteArray.mk #[47])).2.1).toList (ByteArray.data (ByteArray.mk #[111, 102, 102])).toList))).toList (ByteArray.data (ByteArray.mk #[40])).toList))).toList (ByteArray.data (ByteArray.mk #[41])).toList))).1, false) = true) ∧ (bsp (decide (stepS v (v.1, (-1), (readD (mkB (Lib.trimSuffix (ByteArray.data (mkB (Lib.trimPrefix (ByteArray.data (mkB (Lib.trimPrefix (ByteArray.data (cutD s (ByteArray.mk #[47])).2.1).toList (ByteArray.data (ByteArray.mk #[111, 102, 102])).toList))).toList (ByteArray.data (ByteArray.mk #[40])).toList))).toList (ByteArray.data (ByteArray.mk #[41])).toList))).1, false) ≠ s)) (@Eq (HO c_impl_readStep.outs) ((0, 0, 0, false), false, ()) (c_impl_readStep.out (v, s, ()))) (@Eq (HO c_impl_readStep.outs) ((v.1, (-1), (readD (mkB (Lib.trimSuffix (ByteArray.data (mkB (Lib.trimPrefix (ByteArray.data (mkB (Lib.trimPrefix (ByteArray.data (cutD s (ByteArray.mk #[47])).2.1).toList (ByteArray.data (ByteArray.mk #[111, 102, 102])).toList))).toList (ByteArray.data (ByteArray.mk #[40])).toList))).toList (ByteArray.data (ByteArray.mk #[41])).toList))).1, false), true, ()) (c_impl_readStep.out (v, s, ()))))))))))) ((varD v = true) ∧ (bsp (!(plainD v (v.1, (-1), IntKind.wrap .i64 (v.1 + 1), false))) (@Eq (HO c_impl_readStep.outs) ((0, 0, 0, false), false, ()) (c_impl_readStep.out (v, s, ()))) ((varD v = true ∧ plainD v (v.1, (-1), IntKind.wrap .i64 (v.1 + 1), false) = true) ∧ (bsp (decide (stepS v (v.1, (-1), IntKind.wrap .i64 (v.1 + 1), false) ≠ s)) (@Eq (HO c_impl_readStep.outs) ((0, 0, 0, false), false, ()) (c_impl_readStep.out (v, s, ()))) (@Eq (HO c_impl_readStep.outs) ((v.1, (-1), IntKind.wrap .i64 (v.1 + 1), false), true, ()) (c_impl_readStep.out (v, s, ())))))))) ((((cutD s (ByteArray.mk #[47])).2.1).size ≤ 9223372036854775807) ∧ ((((mkB (Lib.trimSuffix (ByteArray.data (cutD s (ByteArray.mk #[47])).2.1).toList (ByteArray.data (ByteArray.mk #[42])).toList))).size ≤ 281474976710656) ∧ (bsp (!(readD (mkB (Lib.trimSuffix (ByteArray.data (cutD s (ByteArray.mk #[47])).2.1).toList (ByteArray.data (ByteArray.mk #[42])).toList))).2) (@Eq (HO c_impl_readStep.outs) ((0, 0, 0, false), false, ()) (c_impl_readStep.out (v, s, ()))) ((varD v = true) ∧ (bsp (!(plainD v (v.1, (IntKind.wrap .i64 ((readD (mkB (Lib.trimSuffix (ByteArray.data (cutD s (ByteArray.mk #[47])).2.1).toList (ByteArray.data (ByteArray.mk #[42])).toList))).1 - 1)), IntKind.wrap .i64 (v.1 - (IntKind.wrap .i64 ((readD (mkB (Lib.trimSuffix (ByteArray.data (cutD s (ByteArray.mk #[47])).2.1).toList (ByteArray.data (ByteArray.mk #[42])).toList))).1 - 1))), Lib.hasSuffix (ByteArray.data (cutD s (ByteArray.mk #[47])).2.1).toList (ByteArray.data (ByteArray.mk #[42])).toList))) (@Eq (HO c_impl_readStep.outs) ((0, 0, 0, false), false, ()) (c_impl_readStep.out (v, s, ()))) ((varD v = true ∧ plainD v (v.1, (IntKind.wrap .i64 ((readD (mkB (Lib.trimSuffix (ByteArray.data (cutD s (ByteArray.mk #[47])).2.1).toList (ByteArray.data (ByteArray.mk #[42])).toList))).1 - 1)), IntKind.wrap .i64 (v.1 - (IntKind.wrap .i64 ((readD (mkB (Lib.trimSuffix (ByteArray.data (cutD s (ByteArray.mk #[47])).2.1).toList (ByteArray.data (ByteArray.mk #[42])).toList))).1 - 1))), Lib.hasSuffix (ByteArray.data (cutD s (ByteArray.mk #[47])).2.1).toList (ByteArray.data (ByteArray.mk #[42])).toList) = true) ∧ (bsp (decide (stepS v (v.1, (IntKind.wrap .i64 ((readD (mkB (Lib.trimSuffix (ByteArray.data (cutD s (ByteArray.mk #[47])).2.1).toList (ByteArray.data (ByteArray.mk #[42])).toList))).1 - 1)), IntKind.wrap .i64 (v.1 - (IntKind.wrap .i64 ((readD (mkB (Lib.trimSuffix (ByteArray.data (cutD s (ByteArray.mk #[47])).2.1).toList (ByteArray.data (ByteArray.mk #[42])).toList))).1 - 1))), Lib.hasSuffix (ByteArray.data (cutD s (ByteArray.mk #[47])).2.1).toList (ByteArray.data (ByteArray.mk #[42])).toList) ≠ s)) (@Eq (HO c_impl_readStep.outs) ((0, 0, 0, false), false, ()) (c_impl_readStep.out (v, s, ()))) (@Eq (HO c_impl_readStep.outs) ((v.1, (IntKind.wrap .i64 ((readD (mkB (Lib.trimSuffix (ByteArray.data (cutD s (ByteArray.mk #[47])).2.1).toList (ByteArray.data (ByteArray.mk #[42])).toList))).1 - 1)), IntKind.wrap .i64 (v.1 - (IntKind.wrap .i64 ((readD (mkB (Lib.trimSuffix (ByteArray.data (cutD s (ByteArray.mk #[47])).2.1).toList (ByteArray.data (ByteArray.mk #[42])).toList))).1 - 1))), Lib.hasSuffix (ByteArray.data (cutD s (ByteArray.mk #[47])).2.1).toList (ByteArray.data (ByteArray.mk #[42])).toList), true, ()) (c_impl_readStep.out (v, s, ()))))))))))))))))) (by kernel_rfl) ?_
  rintro v s ⟨hv, hs⟩ hl
  have out : ∀ r : DStep × Bool, readS v s = r → @Eq (HO c_impl_readStep.outs) (r.1, r.2, ()) (c_impl_readStep.out (v, s, ())) := fun r h => by subst h; rfl
  have no : (∀ x, ¬ StT v s x) → @Eq (HO c_impl_readStep.outs) ((0, 0, 0, false), false, ()) (c_impl_readStep.out (v, s, ())) := fun h => out (_, false) (readS_no h)
  have fin : ∀ g : DStep, (∀ x, StT v s x → g = x) → varD v = true ∧ bsp (!plainD v g) (@Eq (HO c_impl_readStep.outs) ((0, 0, 0, false), false, ()) (c_impl_readStep.out (v, s, ()))) ((varD v = true ∧ plainD v g = true) ∧ bsp (decide (stepS v g ≠ s)) (@Eq (HO c_impl_readStep.outs) ((0, 0, 0, false), false, ()) (c_impl_readStep.out (v, s, ()))) (@Eq (HO c_impl_readStep.outs) (g, true, ()) (c_impl_readStep.out (v, s, ())))) := fun g hg => by
    refine ⟨hv, bspB (fun h => no fun x hx => ?_) (fun h => ?_)⟩
    · rw [hg x hx, hx.ok] at h; cases h
    · have h' : plainD v g = true := by simpa using h
      exact ⟨⟨hv, h'⟩, bspD (fun hn => no fun x hx => hn (by rw [hg x hx]; exact hx.tx)) (fun hn => out (g, true) (readS_yes hv ⟨h', Decidable.not_not.1 hn⟩))⟩
  have w1 : ∀ z : Int, inK .i64 z → IntKind.i64.wrap z = z := fun z h => wrap_in h
  have hsl : ByteArray.mk #[47] = slB := rfl
  have hbar : ByteArray.mk #[98, 97, 114] = barB := rfl
  have hof : (ByteArray.mk #[111, 102, 102]).data.toList = [111, 102, 102] := rfl
  have hop : (ByteArray.mk #[40]).data.toList = [40] := rfl
  have hcl : (ByteArray.mk #[41]).data.toList = [41] := rfl
  have hst : (ByteArray.mk #[42]).data.toList = [42] := rfl
  rw [hsl, hbar, hof, hop, hcl, hst]
  obtain ⟨z1, z2⟩ := cutD_sz s slB
  have L := fun x (hx : StT v s x) => step_left hv hx
  have Pn := fun x (hx : StT v s x) => plainD_in hv hx.ok
  refine ⟨by omega, bspB (fun h => no fun x hx => ?_) (fun hcut => bspD (fun hb => ⟨by omega, bspB (fun h => no fun x hx => ?_) (fun hr => ?_)⟩) (fun hb => ?_))⟩
  · rw [(L x hx).1] at h; cases h
  · rcases (L x hx).2.2 with ⟨e, -⟩ | ⟨-, e⟩
    · exact hb e
    · rw [e] at h; cases h
  · have hfr : ∀ x, StT v s x → IntKind.i64.wrap ((readD (cutD s slB).1).1 - 1) = x.1 := fun x hx => by
      rcases (L x hx).2.2 with ⟨e, -⟩ | ⟨-, e⟩
      · exact absurd e hb
      · have p := Pn x hx
        rw [e, w1 _ (by simp only [inK]; omega)]; dsimp only; omega
    generalize IntKind.i64.wrap ((readD (cutD s slB).1).1 - 1) = fr at hfr ⊢
    refine ⟨trivial, bspB (fun hp => ?_) (fun hp => ?_)⟩
    · refine bspD (fun ht => ⟨trivial, by rw [mkB_size]; have a1 := trimP_len (cutD s slB).2.1.data.toList [111, 102, 102]; have a2 := trimP_len (mkB (Lib.trimPrefix (cutD s slB).2.1.data.toList [111, 102, 102])).data.toList [40]; rw [mkB_data] at a2 ⊢; rw [Lib.size_eq] at z2; omega, by rw [mkB_size]; have a1 := trimP_len (cutD s slB).2.1.data.toList [111, 102, 102]; have a2 := trimP_len (mkB (Lib.trimPrefix (cutD s slB).2.1.data.toList [111, 102, 102])).data.toList [40]; have a3 := trimS_len (mkB (Lib.trimPrefix (mkB (Lib.trimPrefix (cutD s slB).2.1.data.toList [111, 102, 102])).data.toList [40])).data.toList [41]; rw [mkB_data] at a2 a3 ⊢; rw [mkB_data] at a3 ⊢; rw [Lib.size_eq] at z2; omega, bspB (fun h => no fun x hx => ?_) (fun h => fin _ fun x hx => ?_)⟩) (fun ht => fin _ fun x hx => ?_)
      all_goals
        have l2 := (L x hx).2.1
        have p := Pn x hx
        rw [l2] at hp
        have hneg : ¬ 0 ≤ x.2.1 := fun g => by rw [(rest_plus g (by omega)).1] at hp; cases hp
        have ro := (rest_off hneg).2
        have hm1 : x.2.1 = -1 := by omega
        have hh := p.2.2.2.2 hm1
        have hf := hfr x hx
      · rw [l2, ro, mkB_of] at h ht
        by_cases hd : x.2.2.1 = x.1 + 1
        · rcases tail_list x with ⟨-, et⟩ | ⟨hd', -⟩
          · exact ht (bytes_ext et)
          · exact hd' hd
        · rw [(tail_read (by simp only [inK]; omega) hd).2] at h; cases h
      · rw [l2, ro, mkB_of] at ht ⊢
        by_cases hd : x.2.2.1 = x.1 + 1
        · rcases tail_list x with ⟨-, et⟩ | ⟨hd', -⟩
          · exact absurd (bytes_ext et) ht
          · exact absurd hd hd'
        · rw [(tail_read (by simp only [inK]; omega) hd).2]
          exact Prod.ext hf (Prod.ext hm1.symm (Prod.ext rfl hh.symm))
      · rw [l2, ro, mkB_of] at ht
        by_cases hd : x.2.2.1 = x.1 + 1
        · refine Prod.ext hf (Prod.ext hm1.symm (Prod.ext ?_ hh.symm))
          dsimp only
          rw [hf, w1 _ (by simp only [inK]; omega)]; exact hd.symm
        · have := (tail_read (x := x) (by simp only [inK]; omega) hd).1
          exact absurd (congrArg (fun b : ByteArray => b.data.toList) (Decidable.not_not.1 ht)) this
    · refine ⟨by omega, by rw [mkB_size]; have a1 := trimS_len (cutD s slB).2.1.data.toList [42]; rw [Lib.size_eq] at z2; omega, bspB (fun h => no fun x hx => ?_) (fun h => fin _ fun x hx => ?_)⟩
      all_goals
        have l2 := (L x hx).2.1
        have p := Pn x hx
        rw [l2] at hp
        have hpos : 0 ≤ x.2.1 := by
          by_cases g : 0 ≤ x.2.1
          · exact g
          · rw [(rest_off g).1] at hp; cases hp
        obtain ⟨-, r2, r3⟩ := rest_plus hpos (by omega)
        have hf := hfr x hx
      · rw [l2, r2] at h; cases h
      · have hdie : x.2.2.1 = x.1 - x.2.1 := by
          have h1 := hx.ok
          simp only [plainD, Bool.and_eq_true] at h1
          have := h1.2
          rw [if_neg (by omega)] at this
          simp only [Bool.and_eq_true, decide_eq_true_eq] at this; omega
        have e1 : IntKind.i64.wrap (x.2.1 + 1 - 1) = x.2.1 := by rw [w1 _ (by simp only [inK]; omega)]; omega
        rw [l2, r2, r3]
        dsimp only
        rw [e1, hf, w1 _ (by simp only [inK]; omega)]
        exact Prod.ext rfl (Prod.ext rfl (Prod.ext hdie.symm rfl))
  · have hfr : ∀ x, StT v s x → v.1 = x.1 := fun x hx => by
      rcases (L x hx).2.2 with ⟨-, e⟩ | ⟨e, -⟩
      · exact e.symm
      · exact absurd (Decidable.not_not.1 hb) e
    refine ⟨trivial, bspB (fun hp => ?_) (fun hp => ?_)⟩
    · refine bspD (fun ht => ⟨trivial, by rw [mkB_size]; have a1 := trimP_len (cutD s slB).2.1.data.toList [111, 102, 102]; have a2 := trimP_len (mkB (Lib.trimPrefix (cutD s slB).2.1.data.toList [111, 102, 102])).data.toList [40]; rw [mkB_data] at a2 ⊢; rw [Lib.size_eq] at z2; omega, by rw [mkB_size]; have a1 := trimP_len (cutD s slB).2.1.data.toList [111, 102, 102]; have a2 := trimP_len (mkB (Lib.trimPrefix (cutD s slB).2.1.data.toList [111, 102, 102])).data.toList [40]; have a3 := trimS_len (mkB (Lib.trimPrefix (mkB (Lib.trimPrefix (cutD s slB).2.1.data.toList [111, 102, 102])).data.toList [40])).data.toList [41]; rw [mkB_data] at a2 a3 ⊢; rw [mkB_data] at a3 ⊢; rw [Lib.size_eq] at z2; omega, bspB (fun h => no fun x hx => ?_) (fun h => fin _ fun x hx => ?_)⟩) (fun ht => fin _ fun x hx => ?_)
      all_goals
        have l2 := (L x hx).2.1
        have p := Pn x hx
        rw [l2] at hp
        have hneg : ¬ 0 ≤ x.2.1 := fun g => by rw [(rest_plus g (by omega)).1] at hp; cases hp
        have ro := (rest_off hneg).2
        have hm1 : x.2.1 = -1 := by omega
        have hh := p.2.2.2.2 hm1
        have hf := hfr x hx
      · rw [l2, ro, mkB_of] at h ht
        by_cases hd : x.2.2.1 = x.1 + 1
        · rcases tail_list x with ⟨-, et⟩ | ⟨hd', -⟩
          · exact ht (bytes_ext et)
          · exact hd' hd
        · rw [(tail_read (by simp only [inK]; omega) hd).2] at h; cases h
      · rw [l2, ro, mkB_of] at ht ⊢
        by_cases hd : x.2.2.1 = x.1 + 1
        · rcases tail_list x with ⟨-, et⟩ | ⟨hd', -⟩
          · exact absurd (bytes_ext et) ht
          · exact absurd hd hd'
        · rw [(tail_read (by simp only [inK]; omega) hd).2]
          exact Prod.ext hf (Prod.ext hm1.symm (Prod.ext rfl hh.symm))
      · rw [l2, ro, mkB_of] at ht
        by_cases hd : x.2.2.1 = x.1 + 1
        · refine Prod.ext hf (Prod.ext hm1.symm (Prod.ext ?_ hh.symm))
          dsimp only
          rw [hf, w1 _ (by simp only [inK]; omega)]; exact hd.symm
        · have := (tail_read (x := x) (by simp only [inK]; omega) hd).1
          exact absurd (congrArg (fun b : ByteArray => b.data.toList) (Decidable.not_not.1 ht)) this
    · refine ⟨by omega, by rw [mkB_size]; have a1 := trimS_len (cutD s slB).2.1.data.toList [42]; rw [Lib.size_eq] at z2; omega, bspB (fun h => no fun x hx => ?_) (fun h => fin _ fun x hx => ?_)⟩
      all_goals
        have l2 := (L x hx).2.1
        have p := Pn x hx
        rw [l2] at hp
        have hpos : 0 ≤ x.2.1 := by
          by_cases g : 0 ≤ x.2.1
          · exact g
          · rw [(rest_off g).1] at hp; cases hp
        obtain ⟨-, r2, r3⟩ := rest_plus hpos (by omega)
        have hf := hfr x hx
      · rw [l2, r2] at h; cases h
      · have hdie : x.2.2.1 = x.1 - x.2.1 := by
          have h1 := hx.ok
          simp only [plainD, Bool.and_eq_true] at h1
          have := h1.2
          rw [if_neg (by omega)] at this
          simp only [Bool.and_eq_true, decide_eq_true_eq] at this; omega
        have e1 : IntKind.i64.wrap (x.2.1 + 1 - 1) = x.2.1 := by rw [w1 _ (by simp only [inK]; omega)]; omega
        rw [l2, r2, r3]
        dsimp only
        rw [e1, hf, w1 _ (by simp only [inK]; omega)]
        exact Prod.ext rfl (Prod.ext rfl (Prod.ext hdie.symm rfl))
end
end Go.Proofs.YtmklkigppmgigaaGreatDoor
