/-
  Contracts: strings.Join; lists of texts.
-/
import Derived.Test.YtmklkigppmgigaaGreatDoorVText
import Derived.Test.YtmklkigppmgigaaGreatDoorLibJ
namespace Go.Proofs.YtmklkigppmgigaaGreatDoor
open Go.RowKit
set_option linter.unusedSimpArgs false
set_option linter.unusedVariables false
def c_strings_Join : Con where
  ins := [(false, .v (.sl .s)), (false, .v .s)]
  outs := [(false, .v .s)]
  sh := false
  pre := fun x => (joinS x.1 x.2.1).size ≤ 140737488355328 ∧ List.length x.1 ≤ 140737488355328
  out := fun x => (joinS x.1 x.2.1, ())
  upd := fun x => x
theorem k_strings_Join [B : Base] : ConOk Tryz.prog 29 c_strings_Join :=
  conJoin (pre := c_strings_Join.pre) (fun _ _ h => h) ⟨_, _, Tryz.func29, by kernel_rfl, rfl⟩ (fun a c sep w => Any.strings_Join_none Tryz.lays156 Tryz.Builder_Extra_156 a c sep w) (fun bk o c xs sep w h1 h2 h3 h4 h5 => Any.strings_Join Tryz.lays156 Tryz.Builder_Extra_156 bk o c xs sep w h1 h2 h3 h4 h5)
theorem joinS_nil (s : ByteArray) : joinS [] s = nilB := rfl
theorem joinS_snoc (xs : List ByteArray) (x s : ByteArray) : joinS (xs ++ [x]) s = if xs = [] then x else joinS xs s ++ s ++ x := by
  refine bytes_ext ?_
  cases xs with
  | nil => simp [joinS, Lib.join_one]
  | cons a r => simp [joinS, Lib.join_cons, Lib.joinTail, ByteArray.data_append]
theorem joinS_size {k q : Nat} {s : ByteArray} : ∀ {n : Nat} {xs : List ByteArray}, s.size ≤ q → xs.length = n → (∀ x, x ∈ xs → x.size ≤ k) → (joinS xs s).size ≤ (k + q) * n
  | 0, xs, _, hn, _ => by
    have : xs = [] := List.length_eq_zero_iff.1 hn
    subst this; exact Nat.le_of_eq rfl
  | n + 1, xs, hs, hn, hx => by
    obtain ⟨ys, y, rfl⟩ : ∃ ys y, xs = ys ++ [y] := ⟨xs.dropLast, xs.getLast (fun e => by rw [e] at hn; simp at hn), (List.dropLast_concat_getLast _).symm⟩
    have ih := joinS_size (n := n) (xs := ys) hs (by simpa using hn) (fun x h => hx x (by simp [h]))
    have hy := hx y (by simp)
    rw [joinS_snoc, Nat.mul_add, Nat.mul_one]
    split
    · omega
    · simp only [app_size]; omega
/-- a list of strings whose members are given one by one -/
theorem eq_map_str {α : Type} {f : α → ByteArray} {l : List α} {ws : List ByteArray} (d : α) (hl : ws.length = l.length) (h : ∀ j : Nat, j < l.length → ws.getD j ByteArray.empty = f (l.getD j d)) : ws = l.map f := List.ext_getElem? fun j => by
  by_cases hj : j < l.length
  · have := h j hj
    rw [List.getD_eq_getElem?_getD, List.getD_eq_getElem?_getD, List.getElem?_eq_getElem hj, List.getElem?_eq_getElem (by omega)] at this
    rw [List.getElem?_map, List.getElem?_eq_getElem hj, List.getElem?_eq_getElem (by omega)]
    exact congrArg some this
  · rw [List.getElem?_eq_none (by omega), List.getElem?_eq_none (by simp; omega)]
theorem getD_set_str {l : List ByteArray} {i j : Nat} {x : ByteArray} (hi : i < l.length) : (l.set i x).getD j ByteArray.empty = if j = i then x else l.getD j ByteArray.empty := by
  rw [List.getD_eq_getElem?_getD, List.getElem?_set]
  by_cases e : i = j
  · subst e; simp [hi]
  · rw [if_neg e, if_neg (fun h => e h.symm), List.getD_eq_getElem?_getD]
theorem take_all_step {α : Type} (f : α → Bool) {l : List α} {k : Nat} (h : k < l.length) (d : α) : (l.take (k + 1)).all f = ((l.take k).all f && f (l.getD k d)) := by
  rw [List.take_add_one, List.all_append, List.getElem?_eq_getElem h, List.getD_eq_getElem?_getD, List.getElem?_eq_getElem h]; simp
theorem take_map_step {α β : Type} (f : α → β) {l : List α} {k : Nat} (h : k < l.length) (d : α) : (l.take (k + 1)).map f = (l.take k).map f ++ [f (l.getD k d)] := by
  rw [List.take_add_one, List.map_append, List.getElem?_eq_getElem h, List.getD_eq_getElem?_getD, List.getElem?_eq_getElem h]; rfl
end Go.Proofs.YtmklkigppmgigaaGreatDoor
