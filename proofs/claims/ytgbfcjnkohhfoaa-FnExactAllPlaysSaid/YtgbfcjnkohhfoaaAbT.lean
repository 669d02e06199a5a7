/-
  The abstract machine, part 18: the types of this program.
-/
import Derived.Test.YtgbfcjnkohhfoaaAbG
namespace Go.Proofs.Ytgbfcjnkohhfoaa
open Go.RowKit

abbrev tI : TC := .i .i64
abbrev tSI : TC := .sl tI
abbrev tVar : TC := .pr tI (.pr tI (.pr tI tI))
abbrev tBoard : TC := .pr tSI tSI
abbrev tRoll : TC := .pr tI tI
abbrev tExact : TC := .pr tI tI
abbrev tStep : TC := .pr tI (.pr tI (.pr tI .b))
abbrev tPlay : TC := .pr (.sl tStep) tBoard
/-- boards whose slices are twins; plays of such -/
abbrev tBoardB : TC := .tw tSI tSI
abbrev tPlayB : TC := .pr (.sl tStep) tBoardB
abbrev tGame : TC := .pr tBoard (.pr tI (.pr tRoll (.pr tI (.pr tI (.pr tI tI)))))
abbrev DVar := Int × Int × Int × Int
abbrev DBoard := List Int × List Int
abbrev DRoll := Int × Int
abbrev DExact := Int × Int
abbrev DStep := Int × Int × Int × Bool
abbrev DPlay := List DStep × DBoard
abbrev DGame := DBoard × Int × DRoll × Int × Int × Int × Int

def AllTI (P : Program) : List (Nat × TI) → Prop
  | [] => True
  | x :: l => TIOk P x.1 x.2 ∧ AllTI P l
theorem AllTI.look {P : Program} : ∀ {l : List (Nat × TI)}, AllTI P l → ∀ t ti, Go.Proofs.Ytgbfcjnkohhfoaa.look t l = some ti → TIOk P t ti
  | [], _, t, ti, h => by simp [Go.Proofs.Ytgbfcjnkohhfoaa.look] at h
  | (t', ti') :: l, h, t, ti, hl => by
    by_cases e : t' = t
    · subst e; rw [look_cons_eq] at hl; cases hl; exact h.1
    · rw [look_cons_ne e] at hl; exact AllTI.look h.2 t ti hl

def tys : List (Nat × TI) :=
  (2, ⟨.int .i64, [.int .i64 0], tI⟩) ::
  (4, ⟨.bool, [.bool false], .b⟩) ::
  (3, ⟨.int .i64, [.int .i64 0], tI⟩) ::
  (33, ⟨.st [(0, 1, false), (1, 1, false), (2, 1, false), (3, 1, false)], [.int .i64 0, .int .i64 0, .int .i64 0, .int .i64 0], tVar⟩) ::
  (24, ⟨.sl 2, [.slice none 0 0], tSI⟩) ::
  (35, ⟨.st [(0, 1, false), (1, 1, false)], [.slice none 0 0, .slice none 0 0], tBoard⟩) ::
  (9, ⟨.str, [.string ByteArray.empty], .s⟩) ::
  (5, ⟨.int .u8, [.int .u8 0], (.i .u8)⟩) ::
  (37, ⟨.st [(0, 1, false), (1, 1, false)], [.int .i64 0, .int .i64 0], tRoll⟩) ::
  (90, ⟨.st [(0, 1, false), (1, 1, false), (2, 1, false), (3, 1, false)], [.int .i64 0, .int .i64 0, .int .i64 0, .bool false], tStep⟩) ::
  (59, ⟨.st [(0, 1, false), (1, 2, true)], [.slice none 0 0, .slice none 0 0, .slice none 0 0], tPlay⟩) ::
  (45, ⟨.st [(0, 2, true), (2, 1, false), (3, 2, true), (5, 1, false), (6, 1, false), (7, 1, false), (8, 1, false)], [.slice none 0 0, .slice none 0 0, .int .i64 0, .int .i64 0, .int .i64 0, .int .i64 0, .int .i64 0, .int .i64 0, .int .i64 0], tGame⟩) ::
  (21, ⟨.int .i32, [.int .i32 0], (.i .i32)⟩) ::
  (106, ⟨.sl 5, [.slice none 0 0], (.sl (.i .u8))⟩) ::
  (75, ⟨.sl 24, [.slice none 0 0], (.sl tSI)⟩) ::
  (85, ⟨.map 9 4, [.map none], .b⟩) ::
  (57, ⟨.sl 90, [.slice none 0 0], (.sl tStep)⟩) ::
  (30, ⟨.sl 59, [.slice none 0 0], (.sl tPlay)⟩) ::
  (86, ⟨.sl 30, [.slice none 0 0], (.sl (.sl tPlay))⟩) ::
  (80, ⟨.sl 86, [.slice none 0 0], (.sl (.sl (.sl tPlay)))⟩) ::
  (23, ⟨.st [(0, 1, false), (1, 1, false), (2, 1, false), (3, 1, false)], [.int .i64 0, .int .i64 0, .int .i64 0, .int .i64 0], tVar⟩) ::
  (26, ⟨.st [(0, 1, false), (1, 1, false)], [.slice none 0 0, .slice none 0 0], tBoard⟩) ::
  (28, ⟨.st [(0, 1, false), (1, 1, false)], [.int .i64 0, .int .i64 0], tRoll⟩) ::
  []
theorem tysOk : AllTI Try.prog tys := ⟨
  (⟨by kernel_rfl, Nat.le_of_ble_eq_true (by kernel_rfl), show _ = _ by kernel_rfl⟩ : TIOk Try.prog 2 ⟨.int .i64, [.int .i64 0], tI⟩),
  (⟨by kernel_rfl, Nat.le_of_ble_eq_true (by kernel_rfl), show _ = _ by kernel_rfl⟩ : TIOk Try.prog 4 ⟨.bool, [.bool false], .b⟩),
  (⟨by kernel_rfl, Nat.le_of_ble_eq_true (by kernel_rfl), show _ = _ by kernel_rfl⟩ : TIOk Try.prog 3 ⟨.int .i64, [.int .i64 0], tI⟩),
  (⟨by kernel_rfl, Nat.le_of_ble_eq_true (by kernel_rfl), show _ = _ by kernel_rfl⟩ : TIOk Try.prog 33 ⟨.st [(0, 1, false), (1, 1, false), (2, 1, false), (3, 1, false)], [.int .i64 0, .int .i64 0, .int .i64 0, .int .i64 0], tVar⟩),
  (⟨by kernel_rfl, Nat.le_of_ble_eq_true (by kernel_rfl), show _ = _ by kernel_rfl⟩ : TIOk Try.prog 24 ⟨.sl 2, [.slice none 0 0], tSI⟩),
  (⟨by kernel_rfl, Nat.le_of_ble_eq_true (by kernel_rfl), show _ = _ by kernel_rfl⟩ : TIOk Try.prog 35 ⟨.st [(0, 1, false), (1, 1, false)], [.slice none 0 0, .slice none 0 0], tBoard⟩),
  (⟨by kernel_rfl, Nat.le_of_ble_eq_true (by kernel_rfl), show _ = _ by kernel_rfl⟩ : TIOk Try.prog 9 ⟨.str, [.string ByteArray.empty], .s⟩),
  (⟨by kernel_rfl, Nat.le_of_ble_eq_true (by kernel_rfl), show _ = _ by kernel_rfl⟩ : TIOk Try.prog 5 ⟨.int .u8, [.int .u8 0], (.i .u8)⟩),
  (⟨by kernel_rfl, Nat.le_of_ble_eq_true (by kernel_rfl), show _ = _ by kernel_rfl⟩ : TIOk Try.prog 37 ⟨.st [(0, 1, false), (1, 1, false)], [.int .i64 0, .int .i64 0], tRoll⟩),
  (⟨by kernel_rfl, Nat.le_of_ble_eq_true (by kernel_rfl), show _ = _ by kernel_rfl⟩ : TIOk Try.prog 90 ⟨.st [(0, 1, false), (1, 1, false), (2, 1, false), (3, 1, false)], [.int .i64 0, .int .i64 0, .int .i64 0, .bool false], tStep⟩),
  (⟨by kernel_rfl, Nat.le_of_ble_eq_true (by kernel_rfl), show _ = _ by kernel_rfl⟩ : TIOk Try.prog 59 ⟨.st [(0, 1, false), (1, 2, true)], [.slice none 0 0, .slice none 0 0, .slice none 0 0], tPlay⟩),
  (⟨by kernel_rfl, Nat.le_of_ble_eq_true (by kernel_rfl), show _ = _ by kernel_rfl⟩ : TIOk Try.prog 45 ⟨.st [(0, 2, true), (2, 1, false), (3, 2, true), (5, 1, false), (6, 1, false), (7, 1, false), (8, 1, false)], [.slice none 0 0, .slice none 0 0, .int .i64 0, .int .i64 0, .int .i64 0, .int .i64 0, .int .i64 0, .int .i64 0, .int .i64 0], tGame⟩),
  (⟨by kernel_rfl, Nat.le_of_ble_eq_true (by kernel_rfl), show _ = _ by kernel_rfl⟩ : TIOk Try.prog 21 ⟨.int .i32, [.int .i32 0], (.i .i32)⟩),
  (⟨by kernel_rfl, Nat.le_of_ble_eq_true (by kernel_rfl), show _ = _ by kernel_rfl⟩ : TIOk Try.prog 106 ⟨.sl 5, [.slice none 0 0], (.sl (.i .u8))⟩),
  (⟨by kernel_rfl, Nat.le_of_ble_eq_true (by kernel_rfl), show _ = _ by kernel_rfl⟩ : TIOk Try.prog 75 ⟨.sl 24, [.slice none 0 0], (.sl tSI)⟩),
  (⟨by kernel_rfl, Nat.le_of_ble_eq_true (by kernel_rfl), show _ = _ by kernel_rfl⟩ : TIOk Try.prog 85 ⟨.map 9 4, [.map none], .b⟩),
  (⟨by kernel_rfl, Nat.le_of_ble_eq_true (by kernel_rfl), show _ = _ by kernel_rfl⟩ : TIOk Try.prog 57 ⟨.sl 90, [.slice none 0 0], (.sl tStep)⟩),
  (⟨by kernel_rfl, Nat.le_of_ble_eq_true (by kernel_rfl), show _ = _ by kernel_rfl⟩ : TIOk Try.prog 30 ⟨.sl 59, [.slice none 0 0], (.sl tPlay)⟩),
  (⟨by kernel_rfl, Nat.le_of_ble_eq_true (by kernel_rfl), show _ = _ by kernel_rfl⟩ : TIOk Try.prog 86 ⟨.sl 30, [.slice none 0 0], (.sl (.sl tPlay))⟩),
  (⟨by kernel_rfl, Nat.le_of_ble_eq_true (by kernel_rfl), show _ = _ by kernel_rfl⟩ : TIOk Try.prog 80 ⟨.sl 86, [.slice none 0 0], (.sl (.sl (.sl tPlay)))⟩),
  (⟨by kernel_rfl, Nat.le_of_ble_eq_true (by kernel_rfl), show _ = _ by kernel_rfl⟩ : TIOk Try.prog 23 ⟨.st [(0, 1, false), (1, 1, false), (2, 1, false), (3, 1, false)], [.int .i64 0, .int .i64 0, .int .i64 0, .int .i64 0], tVar⟩),
  (⟨by kernel_rfl, Nat.le_of_ble_eq_true (by kernel_rfl), show _ = _ by kernel_rfl⟩ : TIOk Try.prog 26 ⟨.st [(0, 1, false), (1, 1, false)], [.slice none 0 0, .slice none 0 0], tBoard⟩),
  (⟨by kernel_rfl, Nat.le_of_ble_eq_true (by kernel_rfl), show _ = _ by kernel_rfl⟩ : TIOk Try.prog 28 ⟨.st [(0, 1, false), (1, 1, false)], [.int .i64 0, .int .i64 0], tRoll⟩),
  trivial⟩
/-- the same types, the program's boards as twins -/
def tysB : List (Nat × TI) :=
  (2, ⟨.int .i64, [.int .i64 0], tI⟩) ::
  (4, ⟨.bool, [.bool false], .b⟩) ::
  (3, ⟨.int .i64, [.int .i64 0], tI⟩) ::
  (33, ⟨.st [(0, 1, false), (1, 1, false), (2, 1, false), (3, 1, false)], [.int .i64 0, .int .i64 0, .int .i64 0, .int .i64 0], tVar⟩) ::
  (24, ⟨.sl 2, [.slice none 0 0], tSI⟩) ::
  (35, ⟨.st [(0, 1, false), (1, 1, false)], [.slice none 0 0, .slice none 0 0], tBoardB⟩) ::
  (9, ⟨.str, [.string ByteArray.empty], .s⟩) ::
  (5, ⟨.int .u8, [.int .u8 0], (.i .u8)⟩) ::
  (37, ⟨.st [(0, 1, false), (1, 1, false)], [.int .i64 0, .int .i64 0], tRoll⟩) ::
  (90, ⟨.st [(0, 1, false), (1, 1, false), (2, 1, false), (3, 1, false)], [.int .i64 0, .int .i64 0, .int .i64 0, .bool false], tStep⟩) ::
  (59, ⟨.st [(0, 1, false), (1, 2, true)], [.slice none 0 0, .slice none 0 0, .slice none 0 0], tPlayB⟩) ::
  (45, ⟨.st [(0, 2, true), (2, 1, false), (3, 2, true), (5, 1, false), (6, 1, false), (7, 1, false), (8, 1, false)], [.slice none 0 0, .slice none 0 0, .int .i64 0, .int .i64 0, .int .i64 0, .int .i64 0, .int .i64 0, .int .i64 0, .int .i64 0], (.pr tBoardB (.pr tI (.pr tRoll tVar)))⟩) ::
  (21, ⟨.int .i32, [.int .i32 0], (.i .i32)⟩) ::
  (106, ⟨.sl 5, [.slice none 0 0], (.sl (.i .u8))⟩) ::
  (75, ⟨.sl 24, [.slice none 0 0], (.sl tSI)⟩) ::
  (85, ⟨.map 9 4, [.map none], .b⟩) ::
  (57, ⟨.sl 90, [.slice none 0 0], (.sl tStep)⟩) ::
  (30, ⟨.sl 59, [.slice none 0 0], (.sl tPlayB)⟩) ::
  (86, ⟨.sl 30, [.slice none 0 0], (.sl (.sl tPlayB))⟩) ::
  (80, ⟨.sl 86, [.slice none 0 0], (.sl (.sl (.sl tPlayB)))⟩) ::
  (23, ⟨.st [(0, 1, false), (1, 1, false), (2, 1, false), (3, 1, false)], [.int .i64 0, .int .i64 0, .int .i64 0, .int .i64 0], tVar⟩) ::
  (26, ⟨.st [(0, 1, false), (1, 1, false)], [.slice none 0 0, .slice none 0 0], tBoard⟩) ::
  (28, ⟨.st [(0, 1, false), (1, 1, false)], [.int .i64 0, .int .i64 0], tRoll⟩) ::
  []
theorem tysBOk : AllTI Try.prog tysB := ⟨
  (⟨by kernel_rfl, Nat.le_of_ble_eq_true (by kernel_rfl), show _ = _ by kernel_rfl⟩ : TIOk Try.prog 2 ⟨.int .i64, [.int .i64 0], tI⟩),
  (⟨by kernel_rfl, Nat.le_of_ble_eq_true (by kernel_rfl), show _ = _ by kernel_rfl⟩ : TIOk Try.prog 4 ⟨.bool, [.bool false], .b⟩),
  (⟨by kernel_rfl, Nat.le_of_ble_eq_true (by kernel_rfl), show _ = _ by kernel_rfl⟩ : TIOk Try.prog 3 ⟨.int .i64, [.int .i64 0], tI⟩),
  (⟨by kernel_rfl, Nat.le_of_ble_eq_true (by kernel_rfl), show _ = _ by kernel_rfl⟩ : TIOk Try.prog 33 ⟨.st [(0, 1, false), (1, 1, false), (2, 1, false), (3, 1, false)], [.int .i64 0, .int .i64 0, .int .i64 0, .int .i64 0], tVar⟩),
  (⟨by kernel_rfl, Nat.le_of_ble_eq_true (by kernel_rfl), show _ = _ by kernel_rfl⟩ : TIOk Try.prog 24 ⟨.sl 2, [.slice none 0 0], tSI⟩),
  (⟨by kernel_rfl, Nat.le_of_ble_eq_true (by kernel_rfl), show _ = _ by kernel_rfl⟩ : TIOk Try.prog 35 ⟨.st [(0, 1, false), (1, 1, false)], [.slice none 0 0, .slice none 0 0], tBoardB⟩),
  (⟨by kernel_rfl, Nat.le_of_ble_eq_true (by kernel_rfl), show _ = _ by kernel_rfl⟩ : TIOk Try.prog 9 ⟨.str, [.string ByteArray.empty], .s⟩),
  (⟨by kernel_rfl, Nat.le_of_ble_eq_true (by kernel_rfl), show _ = _ by kernel_rfl⟩ : TIOk Try.prog 5 ⟨.int .u8, [.int .u8 0], (.i .u8)⟩),
  (⟨by kernel_rfl, Nat.le_of_ble_eq_true (by kernel_rfl), show _ = _ by kernel_rfl⟩ : TIOk Try.prog 37 ⟨.st [(0, 1, false), (1, 1, false)], [.int .i64 0, .int .i64 0], tRoll⟩),
  (⟨by kernel_rfl, Nat.le_of_ble_eq_true (by kernel_rfl), show _ = _ by kernel_rfl⟩ : TIOk Try.prog 90 ⟨.st [(0, 1, false), (1, 1, false), (2, 1, false), (3, 1, false)], [.int .i64 0, .int .i64 0, .int .i64 0, .bool false], tStep⟩),
  (⟨by kernel_rfl, Nat.le_of_ble_eq_true (by kernel_rfl), show _ = _ by kernel_rfl⟩ : TIOk Try.prog 59 ⟨.st [(0, 1, false), (1, 2, true)], [.slice none 0 0, .slice none 0 0, .slice none 0 0], tPlayB⟩),
  (⟨by kernel_rfl, Nat.le_of_ble_eq_true (by kernel_rfl), show _ = _ by kernel_rfl⟩ : TIOk Try.prog 45 ⟨.st [(0, 2, true), (2, 1, false), (3, 2, true), (5, 1, false), (6, 1, false), (7, 1, false), (8, 1, false)], [.slice none 0 0, .slice none 0 0, .int .i64 0, .int .i64 0, .int .i64 0, .int .i64 0, .int .i64 0, .int .i64 0, .int .i64 0], (.pr tBoardB (.pr tI (.pr tRoll tVar)))⟩),
  (⟨by kernel_rfl, Nat.le_of_ble_eq_true (by kernel_rfl), show _ = _ by kernel_rfl⟩ : TIOk Try.prog 21 ⟨.int .i32, [.int .i32 0], (.i .i32)⟩),
  (⟨by kernel_rfl, Nat.le_of_ble_eq_true (by kernel_rfl), show _ = _ by kernel_rfl⟩ : TIOk Try.prog 106 ⟨.sl 5, [.slice none 0 0], (.sl (.i .u8))⟩),
  (⟨by kernel_rfl, Nat.le_of_ble_eq_true (by kernel_rfl), show _ = _ by kernel_rfl⟩ : TIOk Try.prog 75 ⟨.sl 24, [.slice none 0 0], (.sl tSI)⟩),
  (⟨by kernel_rfl, Nat.le_of_ble_eq_true (by kernel_rfl), show _ = _ by kernel_rfl⟩ : TIOk Try.prog 85 ⟨.map 9 4, [.map none], .b⟩),
  (⟨by kernel_rfl, Nat.le_of_ble_eq_true (by kernel_rfl), show _ = _ by kernel_rfl⟩ : TIOk Try.prog 57 ⟨.sl 90, [.slice none 0 0], (.sl tStep)⟩),
  (⟨by kernel_rfl, Nat.le_of_ble_eq_true (by kernel_rfl), show _ = _ by kernel_rfl⟩ : TIOk Try.prog 30 ⟨.sl 59, [.slice none 0 0], (.sl tPlayB)⟩),
  (⟨by kernel_rfl, Nat.le_of_ble_eq_true (by kernel_rfl), show _ = _ by kernel_rfl⟩ : TIOk Try.prog 86 ⟨.sl 30, [.slice none 0 0], (.sl (.sl tPlayB))⟩),
  (⟨by kernel_rfl, Nat.le_of_ble_eq_true (by kernel_rfl), show _ = _ by kernel_rfl⟩ : TIOk Try.prog 80 ⟨.sl 86, [.slice none 0 0], (.sl (.sl (.sl tPlayB)))⟩),
  (⟨by kernel_rfl, Nat.le_of_ble_eq_true (by kernel_rfl), show _ = _ by kernel_rfl⟩ : TIOk Try.prog 23 ⟨.st [(0, 1, false), (1, 1, false), (2, 1, false), (3, 1, false)], [.int .i64 0, .int .i64 0, .int .i64 0, .int .i64 0], tVar⟩),
  (⟨by kernel_rfl, Nat.le_of_ble_eq_true (by kernel_rfl), show _ = _ by kernel_rfl⟩ : TIOk Try.prog 26 ⟨.st [(0, 1, false), (1, 1, false)], [.slice none 0 0, .slice none 0 0], tBoard⟩),
  (⟨by kernel_rfl, Nat.le_of_ble_eq_true (by kernel_rfl), show _ = _ by kernel_rfl⟩ : TIOk Try.prog 28 ⟨.st [(0, 1, false), (1, 1, false)], [.int .i64 0, .int .i64 0], tRoll⟩),
  trivial⟩
/-- structs that are compared -/
def eqTs : List (Nat × List TC) :=
  (33, [tI, tI, tI, tI]) ::
  (37, [tI, tI]) ::
  (90, [tI, tI, tI, .b]) ::
  []
theorem eqTsOk : EqsOk Try.prog eqTs := ⟨
  (⟨by kernel_rfl, by kernel_rfl, by kernel_rfl, by kernel_rfl⟩ : EqTOk Try.prog 33 [tI, tI, tI, tI]),
  (⟨by kernel_rfl, by kernel_rfl, by kernel_rfl, by kernel_rfl⟩ : EqTOk Try.prog 37 [tI, tI]),
  (⟨by kernel_rfl, by kernel_rfl, by kernel_rfl, by kernel_rfl⟩ : EqTOk Try.prog 90 [tI, tI, tI, .b]),
  trivial⟩
/-- the context of a function with n slots -/
def cx (P : Program) (n : Nat) (k : Con) : Ctx := ⟨P, tys, n, bif k.eat then [] else pinA true k.ins 0, bif k.eat then [] else pinA false k.ins 0, eqTs, false⟩
/-- numbers that wrap round -/
def cxw (P : Program) (n : Nat) (k : Con) : Ctx := ⟨P, tys, n, bif k.eat then [] else pinA true k.ins 0, bif k.eat then [] else pinA false k.ins 0, eqTs, true⟩
/-- with boards as twins -/
def cxb (P : Program) (n : Nat) (k : Con) : Ctx := ⟨P, tysB, n, bif k.eat then [] else pinA true k.ins 0, bif k.eat then [] else pinA false k.ins 0, eqTs, false⟩
theorem mixed : Try.prog.follows .mixedOrders = true := by kernel_rfl
/-- contracts side by side -/
def AllCs [B : Base] (P : Program) : List (Nat × Con) → Prop
  | [] => True
  | x :: l => ConOk P x.1 x.2 ∧ AllCs P l
theorem AllCs.ok [B : Base] {n : Nat} {k0 : Con} : ∀ {l : List (Nat × Con)}, AllCs Try.prog l → CsOk (cx Try.prog n k0) l
  | [], _, f, k, h => by simp [look] at h
  | (f', k') :: l, h, f, k, hl => by
    by_cases e : f' = f
    · subst e; rw [look_cons_eq] at hl; cases hl; exact h.1
    · rw [look_cons_ne e] at hl; exact AllCs.ok (n := n) (k0 := k0) h.2 f k hl
theorem AllCs.okb [B : Base] {n : Nat} {k0 : Con} {l : List (Nat × Con)} (h : AllCs Try.prog l) : CsOk (cxb Try.prog n k0) l := fun f k hl => AllCs.ok (n := n) (k0 := k0) h f k hl
theorem AllCs.okw [B : Base] {n : Nat} {k0 : Con} {l : List (Nat × Con)} (h : AllCs Try.prog l) : CsOk (cxw Try.prog n k0) l := fun f k hl => AllCs.ok (n := n) (k0 := k0) h f k hl
end Go.Proofs.Ytgbfcjnkohhfoaa
