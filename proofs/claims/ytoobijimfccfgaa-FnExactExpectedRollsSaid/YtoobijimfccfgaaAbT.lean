/-
  The abstract machine, part 18: the types of this program.
-/
import Derived.Test.YtoobijimfccfgaaAbV
namespace Go.Proofs.Ytoobijimfccfgaa
open Go.RowKit

abbrev tI : TC := .i .i64
abbrev tSI : TC := .sl tI
abbrev tVar : TC := .pr tI (.pr tI (.pr tI tI))
abbrev tBoard : TC := .pr tSI tSI
abbrev tRoll : TC := .pr tI tI
abbrev tExact : TC := .pr tI tI
abbrev tStep : TC := .pr tI (.pr tI (.pr tI .b))
abbrev tPlay : TC := .pr (.sl tStep) tBoard
abbrev tGame : TC := .pr tBoard (.pr tI (.pr tRoll (.pr tI (.pr tI (.pr tI tI)))))
abbrev DVar := Int × Int × Int × Int
abbrev DBoard := List Int × List Int
abbrev DRoll := Int × Int
abbrev DExact := Int × Int
abbrev DStep := Int × Int × Int × Bool
abbrev DPlay := List DStep × DBoard
abbrev DGame := DBoard × Int × DRoll × Int × Int × Int × Int

def AllTI (P : Program) : List (Nat × TI) → Prop
  | [] => True
  | x :: l => TIOk P x.1 x.2 ∧ AllTI P l
theorem AllTI.look {P : Program} : ∀ {l : List (Nat × TI)}, AllTI P l → ∀ t ti, Go.Proofs.Ytoobijimfccfgaa.look t l = some ti → TIOk P t ti
  | [], _, t, ti, h => by simp [Go.Proofs.Ytoobijimfccfgaa.look] at h
  | (t', ti') :: l, h, t, ti, hl => by
    by_cases e : t' = t
    · subst e; rw [look_cons_eq] at hl; cases hl; exact h.1
    · rw [look_cons_ne e] at hl; exact AllTI.look h.2 t ti hl

def tys : List (Nat × TI) :=
  (2, ⟨.int .i64, [.int .i64 0], tI⟩) ::
  (4, ⟨.bool, [.bool false], .b⟩) ::
  (3, ⟨.int .i64, [.int .i64 0], tI⟩) ::
  (29, ⟨.st [(0, 1, false), (1, 1, false), (2, 1, false), (3, 1, false)], [.int .i64 0, .int .i64 0, .int .i64 0, .int .i64 0], tVar⟩) ::
  (24, ⟨.sl 2, [.slice none 0 0], tSI⟩) ::
  (9, ⟨.str, [.string ByteArray.empty], .s⟩) ::
  (5, ⟨.int .u8, [.int .u8 0], (.i .u8)⟩) ::
  (54, ⟨.st [(0, 1, false), (1, 1, false)], [.int .i64 0, .int .i64 0], tRoll⟩) ::
  (26, ⟨.st [(0, 1, false), (1, 1, false)], [.int .i64 0, .int .i64 0], tRoll⟩) ::
  (91, ⟨.int .u64, [.int .u64 0], (.i .u64)⟩) ::
  (99, ⟨.int .u64, [.int .u64 0], (.i .u64)⟩) ::
  (21, ⟨.int .i32, [.int .i32 0], (.i .i32)⟩) ::
  (59, ⟨.sl 24, [.slice none 0 0], (.sl tSI)⟩) ::
  (46, ⟨.sl 4, [.slice none 0 0], (.sl .b)⟩) ::
  (62, ⟨.map 2 4, [.map none], .b⟩) ::
  (50, ⟨.sl 54, [.slice none 0 0], (.sl tRoll)⟩) ::
  (47, ⟨.sl 26, [.slice none 0 0], (.sl tRoll)⟩) ::
  (23, ⟨.st [(0, 1, false), (1, 1, false), (2, 1, false), (3, 1, false)], [.int .i64 0, .int .i64 0, .int .i64 0, .int .i64 0], tVar⟩) ::
  (61, ⟨.map 2 26, [.map none], .b⟩) ::
  (64, ⟨.st [(0, 4, true), (4, 1, false), (5, 1, false), (6, 1, false)], [.int .i64 0, .int .i64 0, .int .i64 0, .int .i64 0, .bool false, .map none, .map none], (.pr tVar (.pr .b (.pr .b .b)))⟩) ::
  (41, ⟨.ptr 64, [.pointer none], .b⟩) ::
  (49, ⟨.st [(0, 4, true), (4, 1, false), (5, 1, false), (6, 1, false)], [.int .i64 0, .int .i64 0, .int .i64 0, .int .i64 0, .slice none 0 0, .slice none 0 0, .bool false], (.pr tVar (.pr (.sl .b) (.pr (.sl tRoll) .b)))⟩) ::
  (38, ⟨.ptr 49, [.pointer none], .b⟩) ::
  []
theorem tysOk : AllTI Try.prog tys := ⟨
  (⟨by kernel_rfl, Nat.le_of_ble_eq_true (by kernel_rfl), show _ = _ by kernel_rfl⟩ : TIOk Try.prog 2 ⟨.int .i64, [.int .i64 0], tI⟩),
  (⟨by kernel_rfl, Nat.le_of_ble_eq_true (by kernel_rfl), show _ = _ by kernel_rfl⟩ : TIOk Try.prog 4 ⟨.bool, [.bool false], .b⟩),
  (⟨by kernel_rfl, Nat.le_of_ble_eq_true (by kernel_rfl), show _ = _ by kernel_rfl⟩ : TIOk Try.prog 3 ⟨.int .i64, [.int .i64 0], tI⟩),
  (⟨by kernel_rfl, Nat.le_of_ble_eq_true (by kernel_rfl), show _ = _ by kernel_rfl⟩ : TIOk Try.prog 29 ⟨.st [(0, 1, false), (1, 1, false), (2, 1, false), (3, 1, false)], [.int .i64 0, .int .i64 0, .int .i64 0, .int .i64 0], tVar⟩),
  (⟨by kernel_rfl, Nat.le_of_ble_eq_true (by kernel_rfl), show _ = _ by kernel_rfl⟩ : TIOk Try.prog 24 ⟨.sl 2, [.slice none 0 0], tSI⟩),
  (⟨by kernel_rfl, Nat.le_of_ble_eq_true (by kernel_rfl), show _ = _ by kernel_rfl⟩ : TIOk Try.prog 9 ⟨.str, [.string ByteArray.empty], .s⟩),
  (⟨by kernel_rfl, Nat.le_of_ble_eq_true (by kernel_rfl), show _ = _ by kernel_rfl⟩ : TIOk Try.prog 5 ⟨.int .u8, [.int .u8 0], (.i .u8)⟩),
  (⟨by kernel_rfl, Nat.le_of_ble_eq_true (by kernel_rfl), show _ = _ by kernel_rfl⟩ : TIOk Try.prog 54 ⟨.st [(0, 1, false), (1, 1, false)], [.int .i64 0, .int .i64 0], tRoll⟩),
  (⟨by kernel_rfl, Nat.le_of_ble_eq_true (by kernel_rfl), show _ = _ by kernel_rfl⟩ : TIOk Try.prog 26 ⟨.st [(0, 1, false), (1, 1, false)], [.int .i64 0, .int .i64 0], tRoll⟩),
  (⟨by kernel_rfl, Nat.le_of_ble_eq_true (by kernel_rfl), show _ = _ by kernel_rfl⟩ : TIOk Try.prog 91 ⟨.int .u64, [.int .u64 0], (.i .u64)⟩),
  (⟨by kernel_rfl, Nat.le_of_ble_eq_true (by kernel_rfl), show _ = _ by kernel_rfl⟩ : TIOk Try.prog 99 ⟨.int .u64, [.int .u64 0], (.i .u64)⟩),
  (⟨by kernel_rfl, Nat.le_of_ble_eq_true (by kernel_rfl), show _ = _ by kernel_rfl⟩ : TIOk Try.prog 21 ⟨.int .i32, [.int .i32 0], (.i .i32)⟩),
  (⟨by kernel_rfl, Nat.le_of_ble_eq_true (by kernel_rfl), show _ = _ by kernel_rfl⟩ : TIOk Try.prog 59 ⟨.sl 24, [.slice none 0 0], (.sl tSI)⟩),
  (⟨by kernel_rfl, Nat.le_of_ble_eq_true (by kernel_rfl), show _ = _ by kernel_rfl⟩ : TIOk Try.prog 46 ⟨.sl 4, [.slice none 0 0], (.sl .b)⟩),
  (⟨by kernel_rfl, Nat.le_of_ble_eq_true (by kernel_rfl), show _ = _ by kernel_rfl⟩ : TIOk Try.prog 62 ⟨.map 2 4, [.map none], .b⟩),
  (⟨by kernel_rfl, Nat.le_of_ble_eq_true (by kernel_rfl), show _ = _ by kernel_rfl⟩ : TIOk Try.prog 50 ⟨.sl 54, [.slice none 0 0], (.sl tRoll)⟩),
  (⟨by kernel_rfl, Nat.le_of_ble_eq_true (by kernel_rfl), show _ = _ by kernel_rfl⟩ : TIOk Try.prog 47 ⟨.sl 26, [.slice none 0 0], (.sl tRoll)⟩),
  (⟨by kernel_rfl, Nat.le_of_ble_eq_true (by kernel_rfl), show _ = _ by kernel_rfl⟩ : TIOk Try.prog 23 ⟨.st [(0, 1, false), (1, 1, false), (2, 1, false), (3, 1, false)], [.int .i64 0, .int .i64 0, .int .i64 0, .int .i64 0], tVar⟩),
  (⟨by kernel_rfl, Nat.le_of_ble_eq_true (by kernel_rfl), show _ = _ by kernel_rfl⟩ : TIOk Try.prog 61 ⟨.map 2 26, [.map none], .b⟩),
  (⟨by kernel_rfl, Nat.le_of_ble_eq_true (by kernel_rfl), show _ = _ by kernel_rfl⟩ : TIOk Try.prog 64 ⟨.st [(0, 4, true), (4, 1, false), (5, 1, false), (6, 1, false)], [.int .i64 0, .int .i64 0, .int .i64 0, .int .i64 0, .bool false, .map none, .map none], (.pr tVar (.pr .b (.pr .b .b)))⟩),
  (⟨by kernel_rfl, Nat.le_of_ble_eq_true (by kernel_rfl), show _ = _ by kernel_rfl⟩ : TIOk Try.prog 41 ⟨.ptr 64, [.pointer none], .b⟩),
  (⟨by kernel_rfl, Nat.le_of_ble_eq_true (by kernel_rfl), show _ = _ by kernel_rfl⟩ : TIOk Try.prog 49 ⟨.st [(0, 4, true), (4, 1, false), (5, 1, false), (6, 1, false)], [.int .i64 0, .int .i64 0, .int .i64 0, .int .i64 0, .slice none 0 0, .slice none 0 0, .bool false], (.pr tVar (.pr (.sl .b) (.pr (.sl tRoll) .b)))⟩),
  (⟨by kernel_rfl, Nat.le_of_ble_eq_true (by kernel_rfl), show _ = _ by kernel_rfl⟩ : TIOk Try.prog 38 ⟨.ptr 49, [.pointer none], .b⟩),
  trivial⟩
/-- structs that are compared -/
def eqTs : List (Nat × List TC) :=
  (29, [tI, tI, tI, tI]) ::
  (54, [tI, tI]) ::
  (26, [tI, tI]) ::
  []
theorem eqTsOk : EqsOk Try.prog eqTs := ⟨
  (⟨by kernel_rfl, by kernel_rfl, by kernel_rfl, by kernel_rfl⟩ : EqTOk Try.prog 29 [tI, tI, tI, tI]),
  (⟨by kernel_rfl, by kernel_rfl, by kernel_rfl, by kernel_rfl⟩ : EqTOk Try.prog 54 [tI, tI]),
  (⟨by kernel_rfl, by kernel_rfl, by kernel_rfl, by kernel_rfl⟩ : EqTOk Try.prog 26 [tI, tI]),
  trivial⟩
/-- the context of a function with n slots -/
def cx (P : Program) (n : Nat) (k : Con) : Ctx := ⟨P, tys, n, bif k.eat then [] else pinA true k.ins 0, bif k.eat then [] else pinA false k.ins 0, eqTs, false⟩
/-- numbers that wrap round -/
def cxw (P : Program) (n : Nat) (k : Con) : Ctx := ⟨P, tys, n, bif k.eat then [] else pinA true k.ins 0, bif k.eat then [] else pinA false k.ins 0, eqTs, true⟩
theorem mixed : Try.prog.follows .mixedOrders = true := by kernel_rfl
/-- contracts side by side -/
def AllCs [B : Base] (P : Program) : List (Nat × Con) → Prop
  | [] => True
  | x :: l => ConOk P x.1 x.2 ∧ AllCs P l
theorem AllCs.ok [B : Base] {n : Nat} {k0 : Con} : ∀ {l : List (Nat × Con)}, AllCs Try.prog l → CsOk (cx Try.prog n k0) l
  | [], _, f, k, h => by simp [look] at h
  | (f', k') :: l, h, f, k, hl => by
    by_cases e : f' = f
    · subst e; rw [look_cons_eq] at hl; cases hl; exact h.1
    · rw [look_cons_ne e] at hl; exact AllCs.ok (n := n) (k0 := k0) h.2 f k hl
theorem AllCs.okw [B : Base] {n : Nat} {k0 : Con} {l : List (Nat × Con)} (h : AllCs Try.prog l) : CsOk (cxw Try.prog n k0) l := fun f k hl => AllCs.ok (n := n) (k0 := k0) h f k hl
end Go.Proofs.Ytoobijimfccfgaa
