/-
  The abstract machine, part 18: the types of this program.
-/
import Derived.Test.YtokddngcfkimlaaDoorAbG
namespace Go.Proofs.YtokddngcfkimlaaDoor
open Go.RowKit

abbrev tI : TC := .i .i64
abbrev tSI : TC := .sl tI
abbrev tVar : TC := .pr tI (.pr tI (.pr tI tI))
abbrev tBoard : TC := .pr tSI tSI
abbrev tRoll : TC := .pr tI tI
abbrev tExact : TC := .pr tI tI
abbrev tStep : TC := .pr tI (.pr tI (.pr tI .b))
abbrev tPlay : TC := .pr (.sl tStep) tBoard
abbrev tGame : TC := .pr tBoard (.pr tI (.pr tRoll (.pr tI (.pr tI (.pr tI tI)))))
abbrev DVar := Int × Int × Int × Int
abbrev DBoard := List Int × List Int
abbrev DRoll := Int × Int
abbrev DExact := Int × Int
abbrev DStep := Int × Int × Int × Bool
abbrev DPlay := List DStep × DBoard
abbrev DGame := DBoard × Int × DRoll × Int × Int × Int × Int

def AllTI (P : Program) : List (Nat × TI) → Prop
  | [] => True
  | x :: l => TIOk P x.1 x.2 ∧ AllTI P l
theorem AllTI.look {P : Program} : ∀ {l : List (Nat × TI)}, AllTI P l → ∀ t ti, Go.Proofs.YtokddngcfkimlaaDoor.look t l = some ti → TIOk P t ti
  | [], _, t, ti, h => by simp [Go.Proofs.YtokddngcfkimlaaDoor.look] at h
  | (t', ti') :: l, h, t, ti, hl => by
    by_cases e : t' = t
    · subst e; rw [look_cons_eq] at hl; cases hl; exact h.1
    · rw [look_cons_ne e] at hl; exact AllTI.look h.2 t ti hl

def tys : List (Nat × TI) :=
  (2, ⟨.int .i64, [.int .i64 0], tI⟩) ::
  (4, ⟨.bool, [.bool false], .b⟩) ::
  (3, ⟨.int .i64, [.int .i64 0], tI⟩) ::
  (25, ⟨.st [(0, 1, false), (1, 1, false), (2, 1, false), (3, 1, false)], [.int .i64 0, .int .i64 0, .int .i64 0, .int .i64 0], tVar⟩) ::
  (71, ⟨.sl 2, [.slice none 0 0], tSI⟩) ::
  (9, ⟨.str, [.string ByteArray.empty], .s⟩) ::
  (5, ⟨.int .u8, [.int .u8 0], (.i .u8)⟩) ::
  (27, ⟨.st [(0, 1, false), (1, 1, false)], [.int .i64 0, .int .i64 0], tRoll⟩) ::
  (50, ⟨.int .u64, [.int .u64 0], (.i .u64)⟩) ::
  (67, ⟨.int .u64, [.int .u64 0], (.i .u64)⟩) ::
  (21, ⟨.int .i32, [.int .i32 0], (.i .i32)⟩) ::
  (22, ⟨.sl 5, [.slice none 0 0], (.sl (.i .u8))⟩) ::
  (66, ⟨.sl 27, [.slice none 0 0], (.sl tRoll)⟩) ::
  (70, ⟨.st [(0, 1, false), (1, 1, false), (2, 1, false)], [.slice none 0 0, .int .i64 0, .int .i64 0], (.pr (.sl (.i .u8)) tRoll)⟩) ::
  (55, ⟨.ptr 70, [.pointer none], .b⟩) ::
  []
theorem tysOk : AllTI Tryd.prog tys := ⟨
  (⟨by kernel_rfl, Nat.le_of_ble_eq_true (by kernel_rfl), show _ = _ by kernel_rfl⟩ : TIOk Tryd.prog 2 ⟨.int .i64, [.int .i64 0], tI⟩),
  (⟨by kernel_rfl, Nat.le_of_ble_eq_true (by kernel_rfl), show _ = _ by kernel_rfl⟩ : TIOk Tryd.prog 4 ⟨.bool, [.bool false], .b⟩),
  (⟨by kernel_rfl, Nat.le_of_ble_eq_true (by kernel_rfl), show _ = _ by kernel_rfl⟩ : TIOk Tryd.prog 3 ⟨.int .i64, [.int .i64 0], tI⟩),
  (⟨by kernel_rfl, Nat.le_of_ble_eq_true (by kernel_rfl), show _ = _ by kernel_rfl⟩ : TIOk Tryd.prog 25 ⟨.st [(0, 1, false), (1, 1, false), (2, 1, false), (3, 1, false)], [.int .i64 0, .int .i64 0, .int .i64 0, .int .i64 0], tVar⟩),
  (⟨by kernel_rfl, Nat.le_of_ble_eq_true (by kernel_rfl), show _ = _ by kernel_rfl⟩ : TIOk Tryd.prog 71 ⟨.sl 2, [.slice none 0 0], tSI⟩),
  (⟨by kernel_rfl, Nat.le_of_ble_eq_true (by kernel_rfl), show _ = _ by kernel_rfl⟩ : TIOk Tryd.prog 9 ⟨.str, [.string ByteArray.empty], .s⟩),
  (⟨by kernel_rfl, Nat.le_of_ble_eq_true (by kernel_rfl), show _ = _ by kernel_rfl⟩ : TIOk Tryd.prog 5 ⟨.int .u8, [.int .u8 0], (.i .u8)⟩),
  (⟨by kernel_rfl, Nat.le_of_ble_eq_true (by kernel_rfl), show _ = _ by kernel_rfl⟩ : TIOk Tryd.prog 27 ⟨.st [(0, 1, false), (1, 1, false)], [.int .i64 0, .int .i64 0], tRoll⟩),
  (⟨by kernel_rfl, Nat.le_of_ble_eq_true (by kernel_rfl), show _ = _ by kernel_rfl⟩ : TIOk Tryd.prog 50 ⟨.int .u64, [.int .u64 0], (.i .u64)⟩),
  (⟨by kernel_rfl, Nat.le_of_ble_eq_true (by kernel_rfl), show _ = _ by kernel_rfl⟩ : TIOk Tryd.prog 67 ⟨.int .u64, [.int .u64 0], (.i .u64)⟩),
  (⟨by kernel_rfl, Nat.le_of_ble_eq_true (by kernel_rfl), show _ = _ by kernel_rfl⟩ : TIOk Tryd.prog 21 ⟨.int .i32, [.int .i32 0], (.i .i32)⟩),
  (⟨by kernel_rfl, Nat.le_of_ble_eq_true (by kernel_rfl), show _ = _ by kernel_rfl⟩ : TIOk Tryd.prog 22 ⟨.sl 5, [.slice none 0 0], (.sl (.i .u8))⟩),
  (⟨by kernel_rfl, Nat.le_of_ble_eq_true (by kernel_rfl), show _ = _ by kernel_rfl⟩ : TIOk Tryd.prog 66 ⟨.sl 27, [.slice none 0 0], (.sl tRoll)⟩),
  (⟨by kernel_rfl, Nat.le_of_ble_eq_true (by kernel_rfl), show _ = _ by kernel_rfl⟩ : TIOk Tryd.prog 70 ⟨.st [(0, 1, false), (1, 1, false), (2, 1, false)], [.slice none 0 0, .int .i64 0, .int .i64 0], (.pr (.sl (.i .u8)) tRoll)⟩),
  (⟨by kernel_rfl, Nat.le_of_ble_eq_true (by kernel_rfl), show _ = _ by kernel_rfl⟩ : TIOk Tryd.prog 55 ⟨.ptr 70, [.pointer none], .b⟩),
  trivial⟩
/-- structs that are compared -/
def eqTs : List (Nat × List TC) :=
  (25, [tI, tI, tI, tI]) ::
  (27, [tI, tI]) ::
  []
theorem eqTsOk : EqsOk Tryd.prog eqTs := ⟨
  (⟨by kernel_rfl, by kernel_rfl, by kernel_rfl, by kernel_rfl⟩ : EqTOk Tryd.prog 25 [tI, tI, tI, tI]),
  (⟨by kernel_rfl, by kernel_rfl, by kernel_rfl, by kernel_rfl⟩ : EqTOk Tryd.prog 27 [tI, tI]),
  trivial⟩
/-- the context of a function with n slots -/
def cx (P : Program) (n : Nat) (k : Con) : Ctx := ⟨P, tys, n, pinA true k.ins 0, pinA false k.ins 0, eqTs, false⟩
/-- numbers that wrap round -/
def cxw (P : Program) (n : Nat) (k : Con) : Ctx := ⟨P, tys, n, pinA true k.ins 0, pinA false k.ins 0, eqTs, true⟩
theorem mixed : Tryd.prog.follows .mixedOrders = true := by kernel_rfl
/-- contracts side by side -/
def AllCs [B : Base] (P : Program) : List (Nat × Con) → Prop
  | [] => True
  | x :: l => ConOk P x.1 x.2 ∧ AllCs P l
theorem AllCs.ok [B : Base] {n : Nat} {k0 : Con} : ∀ {l : List (Nat × Con)}, AllCs Tryd.prog l → CsOk (cx Tryd.prog n k0) l
  | [], _, f, k, h => by simp [look] at h
  | (f', k') :: l, h, f, k, hl => by
    by_cases e : f' = f
    · subst e; rw [look_cons_eq] at hl; cases hl; exact h.1
    · rw [look_cons_ne e] at hl; exact AllCs.ok (n := n) (k0 := k0) h.2 f k hl
theorem AllCs.okw [B : Base] {n : Nat} {k0 : Con} {l : List (Nat × Con)} (h : AllCs Tryd.prog l) : CsOk (cxw Tryd.prog n k0) l := fun f k hl => AllCs.ok (n := n) (k0 := k0) h f k hl
end Go.Proofs.YtokddngcfkimlaaDoor
