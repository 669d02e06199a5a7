/-
  The abstract machine, part 2: operations that touch no memory.
  The abstract machine, part 3: data opened into abstract cells and closed again; loads.
  The abstract machine, part 4: addresses, loads, stores.
-/
import Derived.Test.YtgbfcjnkohhfoaaAb1
import Derived.IntWalk
import Derived.Laws.CopyRow
namespace Go.Proofs.Ytgbfcjnkohhfoaa
open Go.RowKit

inductive TK | int (k : IntKind) | bool | str | st (fs : List (Nat × Nat × Bool)) | sl (e : Nat) | ptr (e : Nat) | map (k v : Nat)
/-- a type: its kind, the cells of its zero value, its data's code (where it has one) -/
structure TI where
  kind : TK
  z : List Value
  tc : TC
structure Ctx where
  P : Program
  ty : List (Nat × TI)
  n : Nat
  pins : List Nat
  mpins : List Nat
  eqs : List (Nat × List TC)
  wr : Bool

def TI.zv (ti : TI) : Value := match ti.kind with | .st _ => .agg ti.z.toArray | _ => ti.z.headD undef
def aggB : Option TypeDesc → Bool
  | some (.struct _) | some (.array _ _) | none => true
  | _ => false
/-- a field: offset, cells, whether it is a struct -/
def trip (P : Program) (g : Field) : Option (Nat × Nat × Bool) := (P.info? g.type).map fun i => (g.offset, i.size, aggB (P.underlying g.type))
def TK.fits (P : Program) (t : TypeId) : TK → Prop
  | .int k => P.underlying t = some (.int k)
  | .bool => P.underlying t = some .bool
  | .str => P.underlying t = some .string
  | .st fs => ((P.underlying t).bind fun d => match d with | .struct gs => gs.toList.mapM (trip P) | _ => none) = some fs
  | .sl e => P.underlying t = some (.slice e)
  | .ptr e => P.underlying t = some (.pointer e)
  | .map k v => P.underlying t = some (.map k v)
structure TIOk (P : Program) (t : TypeId) (ti : TI) : Prop where
  info : (P.info? t).map (fun i => (i.zero, i.size)) = some (some ti.zv, ti.z.length)
  bytes : ((P.info? t).map (·.bytes)).getD 1000 ≤ 128
  fits : ti.kind.fits P t
def descOf : TC → TypeDesc
  | .i k => .int k
  | _ => .bool
def flatFs : List TC → Nat → List (Bool × Option TypeDesc × Nat)
  | [], _ => []
  | t :: l, i => (true, some (descOf t), i) :: flatFs l (i + 1)
structure EqTOk (P : Program) (t : TypeId) (ks : List TC) : Prop where
  ht : P.underlying t = some (.struct (P.fieldsOf t))
  hp : P.stoodInHeld t = false
  hg : P.eqGuardType P.depth t = false
  hf : (P.fieldsOf t).toList.map (fun f => (f.name != "_", P.underlying f.type, f.offset)) = flatFs ks 0
structure CtxOk [B : Base] (C : Ctx) (c : Cx) : Prop where
  P : c.P = C.P
  n : c.n = C.n
  ty : ∀ t ti, look t C.ty = some ti → TIOk C.P t ti
  eqs : ∀ t ks, look t C.eqs = some ks → EqTOk C.P t ks
  pin : ∀ p v, c.pin p = some v → p ∈ C.pins
  pm : ∀ b, c.M b → (∃ p v, p ∈ C.mpins ∧ c.pin p = some v ∧ blkOf v = some b) ∨ ¬ c.O0 b
  old : OldOk c.w0
  mnew : ∀ b, c.M b → B.W.heap.size ≤ b
theorem CtxOk.oldNow [B : Base] {C : Ctx} {c : Cx} (hC : CtxOk C c) {N O1 : Nat → Prop} {ρ : Env} {S : St} {a : Act} {w : World} (h : Conc c N O1 ρ S a w) : OldOk w :=
  ⟨Nat.le_trans hC.old.size h.eff.size, fun b hb => (h.eff.block b (Nat.lt_of_lt_of_le hb hC.old.size) fun hm => by have := hC.mnew b hm; omega).trans (hC.old.block b hb)⟩
theorem CtxOk.ownNew [B : Base] {C : Ctx} {c : Cx} (hC : CtxOk C c) {N O1 : Nat → Prop} {ρ : Env} {S : St} {a : Act} {w : World} (h : Conc c N O1 ρ S a w) {b : Nat} (hb : O1 b) : B.W.heap.size ≤ b := by
  rcases (h.olt b hb).2 with h1 | h1
  · exact Nat.le_trans hC.old.size h1
  · exact hC.mnew b h1

def OpOk (c : Cx) (S : St) (i0 : Nat) (o : Oper) (δ : Dl) : Prop :=
  (∀ k e, (k, e) ∈ δ.en → (i0 ≤ k ∧ k < i0 + 16) ∨ ∃ e0, look k S.en = some e0 ∧ isOwn e0 = true) ∧
  ∀ N O1 ρ a w, Conc c N O1 ρ S a w → (∀ k, i0 ≤ k → k < i0 + 16 → ρ k = none) → ∀ next Q,
    (∀ O1' ρ' v w', Den ρ' δ.val v → StepTo c i0 δ.en O1 ρ w O1' ρ' w' → next (a.put o.dst v) w') → o.wp c.P a w next Q

theorem StepTo.refl {c : Cx} {N O1 : Nat → Prop} {ρ : Env} {S : St} {a : Act} {w : World} (h : Conc c N O1 ρ S a w) (i0 : Nat) : StepTo c i0 [] O1 ρ w O1 ρ w where
  ext := Ext.refl ρ
  ids := fun _ _ => rfl
  one := h.one
  eff := BelowM.refl _ _
  en := fun k e he => by simp [look] at he
  o1 := fun b hb => .inl hb
  o1' := fun b hb => .inl hb
  ap := fun k e v b he => by simp [look] at he
  ap2 := fun k k' e e' v v' b _ he => by simp [look] at he

/-- an operation that reckons a value -/
theorem ok_pure {c : Cx} {S : St} {i0 : Nat} {o : Oper} {x : AV}
    (h : ∀ N O1 ρ a w, Conc c N O1 ρ S a w → ∃ v, Den ρ x v ∧ (execOp a.eval o).run c.P w = .ok (.value v) w) : OpOk c S i0 o ⟨x, []⟩ := by
  refine ⟨fun k e he => by simp at he, fun N O1 ρ a w hc _ next Q hn => ?_⟩
  obtain ⟨v, hv, hr⟩ := h N O1 ρ a w hc
  unfold Oper.wp
  rw [hr, Oper.upon_value]
  exact hn O1 ρ v w hv (StepTo.refl hc i0)

theorem ok_con {c : Cx} {S : St} {i0 : Nat} {o : Oper} {v : Value}
    (h : ∀ N O1 ρ a w, Conc c N O1 ρ S a w → (execOp a.eval o).run c.P w = .ok (.value v) w) : OpOk c S i0 o ⟨.one (.con v), []⟩ :=
  ok_pure fun N O1 ρ a w hc => ⟨v, rfl, h N O1 ρ a w hc⟩

def conAV : Value → AV
  | .agg cs => .agg (cs.toList.map A1.con)
  | v => .one (.con v)
theorem den_con (ρ : Env) (v : Value) : Den ρ (conAV v) v := by
  cases v
  case agg cs =>
    refine ⟨cs.toList, ?_, by simp⟩
    generalize cs.toList = l
    induction l with
    | nil => rfl
    | cons v l ih => exact ⟨v, l, rfl, rfl, ih⟩
  all_goals rfl
/-- the abstract value of an operand -/
def av (S : St) : Operand → Option AV
  | .tmp t => look t S.tm
  | .const v => some (conAV v)
  | .func f => some (.one (.con (.func (.func f) #[] #[])))
  | .global g => some (.one (.con (.pointer (some ⟨g, 0, none⟩))))
theorem av_ok {c : Cx} {N O1 : Nat → Prop} {ρ : Env} {S : St} {a : Act} {w : World} (h : Conc c N O1 ρ S a w) {x : Operand} {y : AV} (hx : av S x = some y) : Den ρ y (a.eval x) := by
  cases x with
  | tmp t =>
    obtain ⟨v, hv, ht⟩ := h.tm t y hx
    simpa [Act.eval, ht] using hv
  | const v => simp [av] at hx; subst hx; exact den_con ρ v
  | func f => simp [av] at hx; subst hx; rfl
  | global g => simp [av] at hx; subst hx; rfl

/-- the single value of an operand, if it is one -/
def cv (S : St) (x : Operand) : Option Value :=
  match av S x with
  | some (.one (.con v)) => some v
  | _ => none
theorem cv_ok {c : Cx} {N O1 : Nat → Prop} {ρ : Env} {S : St} {a : Act} {w : World} (h : Conc c N O1 ρ S a w) {x : Operand} {v : Value} (hx : cv S x = some v) : a.eval x = v := by
  unfold cv at hx
  split at hx
  · next hy =>
    have := av_ok h hy
    simp [Den, den1] at this
    simp at hx
    rw [← this, hx]
  · simp at hx

def inK (k : IntKind) (n : Int) : Prop :=
  match k with
  | .i8 => -128 ≤ n ∧ n ≤ 127
  | .i16 => -32768 ≤ n ∧ n ≤ 32767
  | .i32 => -2147483648 ≤ n ∧ n ≤ 2147483647
  | .i64 => -9223372036854775808 ≤ n ∧ n ≤ 9223372036854775807
  | .u8 => 0 ≤ n ∧ n ≤ 255
  | .u16 => 0 ≤ n ∧ n ≤ 65535
  | .u32 => 0 ≤ n ∧ n ≤ 4294967295
  | .u64 => 0 ≤ n ∧ n ≤ 18446744073709551615
theorem wrap_in {k : IntKind} {n : Int} (h : inK k n) : k.wrap n = n := by
  cases k <;> simp only [inK] at h <;> (simp [IntKind.wrap, IntKind.bits, IntKind.signed]; try omega)

def kc : IntKind → Nat
  | .i8 => 0 | .i16 => 1 | .i32 => 2 | .i64 => 3 | .u8 => 4 | .u16 => 5 | .u32 => 6 | .u64 => 7
def kb (a b : IntKind) : Bool := nb (kc a) (kc b)
theorem kb_eq {a b : IntKind} (h : kb a b = true) : a = b := by
  have := eq_of_nb h
  cases a <;> cases b <;> simp [kc] at this <;> rfl

/-- one of two ways, by a bool -/
def bsp (b : Bool) (p q : Prop) : Prop := match b with | true => p | false => q
theorem bsp_t (p q : Prop) : bsp true p q = p := rfl
theorem bsp_f (p q : Prop) : bsp false p q = q := rfl
theorem bsp_iff (b : Bool) (p q : Prop) : bsp b p q = ((b = true → p) ∧ (b = false → q)) := by cases b <;> simp [bsp]

def abinI (wr : Bool) (op : BinOp) (k : IntKind) (a b : Int) (K : Value → Prop) : Prop :=
  match op with
  | .add => (bif wr then K (.int k (k.wrap (a + b))) else inK k (a + b) ∧ K (.int k (a + b)))
  | .sub => (bif wr then K (.int k (k.wrap (a - b))) else inK k (a - b) ∧ K (.int k (a - b)))
  | .mul => inK k (a * b) ∧ K (.int k (a * b))
  | .quo => b ≠ 0 ∧ inK k (a.tdiv b) ∧ K (.int k (a.tdiv b))
  | .rem => b ≠ 0 ∧ K (.int k (a.tmod b))
  | .eql => K (.bool (decide (a = b)))
  | .neq => K (.bool (decide (a ≠ b)))
  | .lss => K (.bool (decide (a < b)))
  | .leq => K (.bool (decide (a ≤ b)))
  | .gtr => K (.bool (decide (b < a)))
  | .geq => K (.bool (decide (b ≤ a)))
  | _ => False
def abinS (op : BinOp) (a b : ByteArray) (K : Value → Prop) : Prop :=
  match op with
  | .add => a.size + b.size ≤ 9223372036854775807 ∧ K (.string (a ++ b))
  | .eql => K (.bool (decide (a = b)))
  | .neq => K (.bool (decide (a ≠ b)))
  | _ => False
def abinB (op : BinOp) (a b : Bool) (K : Value → Prop) : Prop :=
  match op with
  | .eql => K (.bool (a == b))
  | .neq => K (.bool (a != b))
  | _ => False
def isBoolK : Option TI → Bool
  | some ⟨.bool, _, _⟩ => true
  | _ => false
def abin (C : Ctx) (op : BinOp) (t : TypeId) (x y : Value) (K : Value → Prop) : Prop :=
  match x, y with
  | .int k a, .int k' b => bif kb k k' then abinI C.wr op k a b K else False
  | .string a, .string b => abinS op a b K
  | .bool a, .bool b => bif isBoolK (look t C.ty) then abinB op a b K else False
  | _, _ => False

theorem eqGuard_run (P : Program) (w : World) (op : BinOp) (t : TypeId) (x y : Operand) (a b : Value) (h : ¬ (a = .nilIface ∧ b = .nilIface)) (h' : ¬ ∃ xs ys, a = .agg xs ∧ b = .agg ys) :
    (eqGuard op t x y a b).run P w = .ok () w := by
  unfold eqGuard
  split <;> first | rfl | (cases a <;> cases b <;> first | rfl | (exact absurd ⟨rfl, rfl⟩ h) | (exact absurd ⟨_, _, rfl, rfl⟩ h'))

theorem ba_eq (a b : ByteArray) : (a.toList == b.toList) = decide (a = b) := by
  rw [Bool.eq_iff_iff]
  simp only [beq_iff_eq, decide_eq_true_eq]
  exact ⟨fun h => by cases a; cases b; simpa [ByteArray.toList_eq] using h, fun h => by rw [h]⟩
theorem equalIn_bool {P : Program} {t : TypeId} (hu : P.underlying t = some .bool) (d : Nat) (a b : Bool) (w : World) : (Op.equalIn (d + 1) t (.bool a) (.bool b)).run P w = .ok (a == b) w := by
  simp [Op.equalIn, run_underlying hu]
theorem equal_bool {P : Program} {t : TypeId} (hu : P.underlying t = some .bool) (a b : Bool) (w : World) : (Op.equal t (.bool a) (.bool b)).run P w = .ok (a == b) w :=
  equalIn_bool hu 9999 a b w

theorem abin_ok [B : Base] {C : Ctx} {c : Cx} (hC : CtxOk C c) {op : BinOp} {t : TypeId} {x y : Value} {K : Value → Prop} (h : abin C op t x y K) :
    ∃ v, (∀ w ox oy, (do eqGuard op t ox oy x y; binOp op t x y : Sem Value).run c.P w = .ok v w) ∧ K v := by
  unfold abin at h
  split at h
  · next k a k' b =>
    cases hk : kb k k' with
    | false => rw [hk] at h; exact h.elim
    | true =>
      rw [hk] at h
      simp only [cond_true] at h
      cases kb_eq hk
      have g : ∀ w ox oy, (do eqGuard op t ox oy (.int k a) (.int k b); binOp op t (.int k a) (.int k b) : Sem Value).run c.P w = (binOp op t (.int k a) (.int k b)).run c.P w := fun w ox oy => by
        simp [eqGuard_run c.P w op t ox oy (.int k a) (.int k b) (by simp) (by simp)]
      unfold abinI at h
      cases op <;> simp only at h
      case add =>
        cases hw : C.wr with
        | true => rw [hw, cond_true] at h; exact ⟨_, fun w ox oy => by rw [g]; simp [binOp, Op.intArith], h⟩
        | false => rw [hw, cond_false] at h; exact ⟨_, fun w ox oy => by rw [g]; simp [binOp, Op.intArith, wrap_in h.1], h.2⟩
      case sub =>
        cases hw : C.wr with
        | true => rw [hw, cond_true] at h; exact ⟨_, fun w ox oy => by rw [g]; simp [binOp, Op.intArith], h⟩
        | false => rw [hw, cond_false] at h; exact ⟨_, fun w ox oy => by rw [g]; simp [binOp, Op.intArith, wrap_in h.1], h.2⟩
      case mul => exact ⟨_, fun w ox oy => by rw [g]; simp [binOp, Op.intArith, wrap_in h.1], h.2⟩
      case quo => exact ⟨_, fun w ox oy => by rw [g]; simp [binOp, Op.intDiv, h.1, wrap_in h.2.1], h.2.2⟩
      case rem => exact ⟨_, fun w ox oy => by rw [g]; simp [binOp, Op.intDiv, h.1], h.2⟩
      case eql => exact ⟨_, fun w ox oy => by rw [g]; simp [binOp, Op.intCmp]; rfl, h⟩
      case neq => exact ⟨_, fun w ox oy => by rw [g]; simp [binOp, Op.intCmp]; rfl, h⟩
      case lss => exact ⟨_, fun w ox oy => by rw [g]; simp [binOp, Op.intCmp], h⟩
      case leq => exact ⟨_, fun w ox oy => by rw [g]; simp [binOp, Op.intCmp], h⟩
      case gtr => exact ⟨_, fun w ox oy => by rw [g]; simp [binOp, Op.intCmp], h⟩
      case geq => exact ⟨_, fun w ox oy => by rw [g]; simp [binOp, Op.intCmp], h⟩
  · next a b =>
    have g : ∀ w ox oy, (do eqGuard op t ox oy (.string a) (.string b); binOp op t (.string a) (.string b) : Sem Value).run c.P w = (binOp op t (.string a) (.string b)).run c.P w := fun w ox oy => by
      simp [eqGuard_run c.P w op t ox oy (.string a) (.string b) (by simp) (by simp)]
    unfold abinS at h
    cases op <;> simp only at h
    case add => exact ⟨_, fun w ox oy => by
      rw [g]
      have : ¬ ((a.size + b.size : Nat) : Int) > IntKind.i64.max := by have := h.1; simp [IntKind.max, IntKind.signed, IntKind.bits]; omega
      simp only [binOp, Op.stringOp, this, if_false]; rfl, h.2⟩
    case eql => exact ⟨_, fun w ox oy => by rw [g]; simp only [binOp, Op.stringOp, ba_eq]; rfl, h⟩
    case neq => exact ⟨_, fun w ox oy => by rw [g]; simp only [binOp, Op.stringOp, ba_eq]; simp, h⟩
  · next a b =>
    cases hk : isBoolK (look t C.ty) with
    | false => rw [hk] at h; exact h.elim
    | true =>
      rw [hk] at h
      simp only [cond_true] at h
      have hu : c.P.underlying t = some .bool := by
        unfold isBoolK at hk
        split at hk
        · next hl => have := (hC.ty t _ hl).fits; rw [hC.P]; exact this
        · simp at hk
      have g : ∀ w ox oy, (do eqGuard op t ox oy (.bool a) (.bool b); binOp op t (.bool a) (.bool b) : Sem Value).run c.P w = (binOp op t (.bool a) (.bool b)).run c.P w := fun w ox oy => by
        simp [eqGuard_run c.P w op t ox oy (.bool a) (.bool b) (by simp) (by simp)]
      unfold abinB at h
      cases op <;> simp only at h
      case eql => exact ⟨_, fun w ox oy => by rw [g]; simp [binOp, equal_bool hu], h⟩
      case neq => exact ⟨_, fun w ox oy => by rw [g]; simp [binOp, equal_bool hu]; cases a <;> cases b <;> rfl, h⟩
  · exact h.elim

/-- moves, choices, arithmetic, conversions, parts -/
def aMove (S : St) (x : Operand) (K : Dl → Prop) : Prop := match av S x with | some y => K ⟨y, []⟩ | none => False
theorem aMove_ok {c : Cx} {S : St} {i0 : Nat} {o : Oper} {x : Operand} {K : Dl → Prop} (ho : o.op = .move x ∨ o.op = .assign x) (h : aMove S x K) : ∃ δ, OpOk c S i0 o δ ∧ K δ := by
  unfold aMove at h
  split at h
  · next y hy =>
    refine ⟨_, ok_pure fun N O1 ρ a w hc => ⟨_, av_ok hc hy, ?_⟩, h⟩
    rcases ho with ho | ho <;> simp [execOp, ho]
  · exact h.elim

def aPick (S : St) (b x y : Operand) (K : Dl → Prop) : Prop :=
  match cv S b with
  | some (.bool b) => bsp b (aMove S x K) (aMove S y K)
  | _ => False
theorem aPick_ok {c : Cx} {S : St} {i0 : Nat} {o : Oper} {b x y : Operand} {K : Dl → Prop} (ho : o.op = .pick b x y) (h : aPick S b x y K) : ∃ δ, OpOk c S i0 o δ ∧ K δ := by
  unfold aPick at h
  split at h
  · next b' hb =>
    cases b' with
    | true =>
      simp only [bsp_t, aMove] at h
      split at h
      · next y hy =>
        refine ⟨_, ok_pure fun N O1 ρ a w hc => ⟨_, av_ok hc hy, ?_⟩, h⟩
        simp [execOp, ho, cv_ok hc hb, asBool]
      · exact h.elim
    | false =>
      simp only [bsp_f, aMove] at h
      split at h
      · next y hy =>
        refine ⟨_, ok_pure fun N O1 ρ a w hc => ⟨_, av_ok hc hy, ?_⟩, h⟩
        simp [execOp, ho, cv_ok hc hb, asBool]
      · exact h.elim
  · exact h.elim

def K1 (K : Dl → Prop) (v : Value) : Prop := K ⟨.one (.con v), []⟩
def aBin (C : Ctx) (S : St) (op : BinOp) (t : TypeId) (x y : Operand) (K : Dl → Prop) : Prop :=
  match cv S x, cv S y with
  | some a, some b => abin C op t a b (K1 K)
  | _, _ => False
theorem aBin_ok [B : Base] {C : Ctx} {c : Cx} (hC : CtxOk C c) {S : St} {i0 : Nat} {o : Oper} {op : BinOp} {t u : TypeId} {x y : Operand} {K : Dl → Prop} (ho : o.op = .binOp op t x y u) (h : aBin C S op t x y K) : ∃ δ, OpOk c S i0 o δ ∧ K δ := by
  unfold aBin at h
  split at h
  · next a b ha hb =>
    obtain ⟨v, hv, hk⟩ := abin_ok hC h
    refine ⟨_, ok_con fun N O1 ρ a w hc => ?_, hk⟩
    have := hv w x y
    simp only [execOp, ho, cv_ok hc ha, cv_ok hc hb, Sem.run_bind, this]
    rfl
  · exact h.elim

def aUn (S : St) (op : UnOp) (x : Operand) (K : Dl → Prop) : Prop :=
  match op, cv S x with
  | .not, some (.bool b) => K1 K (.bool (!b))
  | .neg, some (.int k n) => inK k (0 - n) ∧ K1 K (.int k (0 - n))
  | _, _ => False
theorem aUn_ok {c : Cx} {S : St} {i0 : Nat} {o : Oper} {op : UnOp} {t : TypeId} {x : Operand} {K : Dl → Prop} (ho : o.op = .unOp op t x) (h : aUn S op x K) : ∃ δ, OpOk c S i0 o δ ∧ K δ := by
  unfold aUn at h
  split at h
  · next b hb =>
    exact ⟨_, ok_con (fun N O1 ρ a w hc => by simp [execOp, ho, cv_ok hc hb, Op.unary]), h⟩
  · next k n hb =>
    exact ⟨_, ok_con (fun N O1 ρ a w hc => by simp [execOp, ho, cv_ok hc hb, Op.unary, Op.intArith]; have := wrap_in h.1; simpa using this), h.2⟩
  · exact h.elim

def aConv (C : Ctx) (S : St) (src dst : TypeId) (x : Operand) (K : Dl → Prop) : Prop :=
  match look src C.ty, look dst C.ty, cv S x with
  | some ⟨.int _, _, _⟩, some ⟨.int k, _, _⟩, some (.int _ n) => inK k n ∧ K1 K (.int k n)
  | some ⟨.str, _, _⟩, some ⟨.str, _, _⟩, some (.string s) => K1 K (.string s)
  | _, _, _ => False
theorem aConv_ok [B : Base] {C : Ctx} {c : Cx} (hC : CtxOk C c) {S : St} {i0 : Nat} {o : Oper} {src dst : TypeId} {x : Operand} {K : Dl → Prop} (ho : o.op = .convert src dst x) (h : aConv C S src dst x K) : ∃ δ, OpOk c S i0 o δ ∧ K δ := by
  unfold aConv at h
  split at h
  · next k' _ _ k _ _ k2 n h1 h2 h3 =>
    have f1 := (hC.ty _ _ h1).fits
    have f2 := (hC.ty _ _ h2).fits
    rw [← hC.P] at f1 f2
    simp only [TK.fits] at f1 f2
    exact ⟨_, ok_con (fun N O1 ρ a w hc => by simp [execOp, ho, cv_ok hc h3, convert, run_underlying f1, run_underlying f2, Conv.intToInt, wrap_in h.1]), h.2⟩
  · next s h1 h2 h3 =>
    have f1 := (hC.ty _ _ h1).fits
    have f2 := (hC.ty _ _ h2).fits
    rw [← hC.P] at f1 f2
    simp only [TK.fits] at f1 f2
    exact ⟨_, ok_con (fun N O1 ρ a w hc => by simp [execOp, ho, cv_ok hc h3, convert, run_underlying f1, run_underlying f2]), h⟩
  · exact h.elim

def comp : Bool × List A1 → Option AV
  | (true, l) => some (.agg l)
  | (false, [x]) => some (.one x)
  | _ => none
def aExt (S : St) (x : Operand) (i : Nat) (K : Dl → Prop) : Prop :=
  match av S x with
  | some (.tup l) => (match (l[i]?).bind comp with | some y => K ⟨y, []⟩ | none => False)
  | _ => False
theorem DenT.get {ρ : Env} : ∀ {l : List (Bool × List A1)} {vs : List Value} {i : Nat} {x : Bool × List A1}, DenT ρ l vs → l[i]? = some x → ∃ v, DenC ρ x v ∧ vs[i]? = some v
  | [], _, i, _, _, hx => by simp at hx
  | _ :: _, _, 0, _, h, hx => by obtain ⟨v, us, rfl, h1, h2⟩ := h; simp at hx; subst hx; exact ⟨v, h1, rfl⟩
  | _ :: _, _, i + 1, _, h, hx => by obtain ⟨v, us, rfl, h1, h2⟩ := h; simpa using h2.get (by simpa using hx)
theorem comp_ok {ρ : Env} {x : Bool × List A1} {y : AV} {v : Value} (h : comp x = some y) (hd : DenC ρ x v) : Den ρ y v := by
  unfold comp at h
  obtain ⟨vs, h1, h2⟩ := hd
  split at h
  · cases h
    rcases h2 with h2 | h2
    · exact ⟨vs, h1, h2.2⟩
    · simp at h2
  · cases h
    rcases h2 with h2 | h2
    · simp at h2
    · obtain ⟨u, us, rfl, h3, h4⟩ := h1
      simp at h2
      obtain ⟨rfl, _⟩ := h2
      exact h3
  · cases h
theorem aExt_ok {c : Cx} {S : St} {i0 : Nat} {o : Oper} {x : Operand} {i : Nat} {K : Dl → Prop} (ho : o.op = .extract x i) (h : aExt S x i K) : ∃ δ, OpOk c S i0 o δ ∧ K δ := by
  unfold aExt at h
  split at h
  · next l hx =>
    split at h
    · next y hy =>
      refine ⟨_, ok_pure fun N O1 ρ a w hc => ?_, h⟩
      obtain ⟨vs, hd, he⟩ := av_ok hc hx
      obtain ⟨z, hz, hzy⟩ := Option.bind_eq_some_iff.1 hy
      obtain ⟨v, hv, hg⟩ := hd.get hz
      exact ⟨v, comp_ok hzy hv, by simp [execOp, ho, he, Instr.extract, hg]⟩
    · exact h.elim
  · exact h.elim
end Go.Proofs.Ytgbfcjnkohhfoaa

namespace Go.Proofs.Ytgbfcjnkohhfoaa
open Go.RowKit

def TC.nsl : TC → Nat
  | .sl _ => 1
  | .pr t u => t.nsl + u.nsl
  | .tw t u => t.nsl + u.nsl + 1
  | _ => 0
/-- the cells of data; its slices get the numbers from id on -/
def opn : (t : TC) → t.D → Bool → Nat → List A1 × List (Nat × Ent)
  | .i k, x, _, _ => ([.con (.int k x)], [])
  | .b, x, _, _ => ([.con (.bool x)], [])
  | .s, x, _, _ => ([.con (.string x)], [])
  | .sl t, x, fr, id => ([.ref id], [(id, .imm t x fr)])
  | .pr t u, x, fr, id => ((opn t x.1 fr id).1 ++ (opn u x.2 fr (id + t.nsl)).1, (opn t x.1 fr id).2 ++ (opn u x.2 fr (id + t.nsl)).2)
  | .tw t u, x, fr, id => ((opn t x.1 fr id).1 ++ (opn u x.2 fr (id + t.nsl)).1, (opn t x.1 fr id).2 ++ ((opn u x.2 fr (id + t.nsl)).2 ++ [(id + t.nsl + u.nsl, bif fr then .tw (opn t x.1 fr id).1 (opn u x.2 fr (id + t.nsl)).1 else .gone)]))

theorem EntOk.ext {c : Cx} {O1 : Nat → Prop} {ρ ρ' : Env} {w : World} {k : Nat} {e : Ent} (h : EntOk c O1 ρ w k e) (hE : Ext ρ ρ') : EntOk c O1 ρ' w k e := by
  cases e with
  | box l => obtain ⟨b, e, vs, h1, h2, h3, h4, h5⟩ := h; exact ⟨b, e, vs, hE _ _ h1, h2, h3.ext hE, h4, h5⟩
  | own e t xs fr => obtain ⟨v, cs, h1, h2⟩ := h; exact ⟨v, cs, hE _ _ h1, h2⟩
  | imm t xs fr => obtain ⟨v, h1, h2⟩ := h; exact ⟨v, hE _ _ h1, h2⟩
  | mp g tk tv m => obtain ⟨b, es, cl, h1, h2⟩ := h; exact ⟨b, es, cl, hE _ _ h1, h2⟩
  | gone => trivial
  | tw l m => obtain ⟨us, ws, h1, h2, h3⟩ := h; exact ⟨us, ws, h1.ext hE, h2.ext hE, h3⟩

theorem opn_len : ∀ (t : TC) (x : t.D) (fr : Bool) (id : Nat), (opn t x fr id).1.length = t.n
  | .i _, _, _, _ => rfl
  | .b, _, _, _ => rfl
  | .s, _, _, _ => rfl
  | .sl _, _, _, _ => rfl
  | .pr t u, x, fr, id => by simp [opn, TC.n, opn_len]
  | .tw t u, x, fr, id => by simp [opn, TC.n, opn_len]

theorem opn_ok2 {c : Cx} {O1 : Nat → Prop} {w : World} {fr : Bool} : ∀ (t : TC) (vs : List Value) (x : t.D) (id : Nat) (ρ : Env), Rep (zs c fr) (offs c O1 fr) w t vs x → (∀ k, id ≤ k → k < id + t.nsl → ρ k = none) →
    ∃ ρ', Ext ρ ρ' ∧ (∀ k, (k < id ∨ id + t.nsl ≤ k) → ρ' k = ρ k) ∧ (∀ k v, ρ' k = some v → ρ k = some v ∨ v.oneCell' = true) ∧ DenL ρ' (opn t x fr id).1 vs ∧
      (∀ k e, (k, e) ∈ (opn t x fr id).2 → isOwn e = false ∧ id ≤ k ∧ k < id + t.nsl ∧ EntOk c O1 ρ' w k e) ∧ ∀ k, id ≤ k → k < id + t.nsl → ∃ v, ρ' k = some v
  | .i _, _, _, _, ρ, h, _ => by
    simp only [Rep] at h; subst h
    exact ⟨ρ, Ext.refl _, fun _ _ => rfl, fun _ _ h => .inl h, ⟨_, [], rfl, rfl, rfl⟩, fun k e he => by simp [opn] at he, fun k h1 h2 => by simp only [TC.nsl] at h2; omega⟩
  | .b, _, _, _, ρ, h, _ => by
    simp only [Rep] at h; subst h
    exact ⟨ρ, Ext.refl _, fun _ _ => rfl, fun _ _ h => .inl h, ⟨_, [], rfl, rfl, rfl⟩, fun k e he => by simp [opn] at he, fun k h1 h2 => by simp only [TC.nsl] at h2; omega⟩
  | .s, _, _, _, ρ, h, _ => by
    simp only [Rep] at h; subst h
    exact ⟨ρ, Ext.refl _, fun _ _ => rfl, fun _ _ h => .inl h, ⟨_, [], rfl, rfl, rfl⟩, fun k e he => by simp [opn] at he, fun k h1 h2 => by simp only [TC.nsl] at h2; omega⟩
  | .sl t, vs, x, id, ρ, h, hf => by
    have hn : ρ id = none := hf id (Nat.le_refl _) (by simp [TC.nsl])
    have h0 := h
    simp only [Rep] at h
    obtain ⟨a, cap, rfl, _⟩ := h
    have hE : Ext ρ (fun k => if k = id then some (.slice a x.length cap) else ρ k) := by
      intro k v hk
      have : k ≠ id := by rintro rfl; rw [hn] at hk; cases hk
      simp [this, hk]
    refine ⟨fun k => if k = id then some (.slice a x.length cap) else ρ k, hE, ?_, ?_, ?_, ?_, ?_⟩
    · intro k hk
      have : k ≠ id := by simp [TC.nsl] at hk; omega
      simp [this]
    · intro k v hk
      by_cases e : k = id
      · simp [e] at hk; subst hk; exact .inr rfl
      · simp [e] at hk; exact .inl hk
    · exact ⟨_, [], rfl, by simp [den1], rfl⟩
    · intro k e he
      simp [opn] at he
      obtain ⟨rfl, rfl⟩ := he
      exact ⟨rfl, Nat.le_refl _, by simp [TC.nsl], ⟨_, by simp, h0⟩⟩
    · intro k h1 h2
      have : k = id := by simp only [TC.nsl] at h2; omega
      exact ⟨.slice a x.length cap, by simp [this]⟩
  | .pr t u, vs, x, id, ρ, h, hf => by
    simp only [Rep] at h
    obtain ⟨us, ws, rfl, h1, h2⟩ := h
    obtain ⟨ρ1, e1, i1, o1, d1, n1, p1⟩ := opn_ok2 t us x.1 id ρ h1 (fun k hk hk' => hf k hk (by simp [TC.nsl]; omega))
    obtain ⟨ρ2, e2, i2, o2, d2, n2, p2⟩ := opn_ok2 u ws x.2 (id + t.nsl) ρ1 h2 (fun k hk hk' => by
      rw [i1 k (.inr hk)]; exact hf k (by omega) (by simp [TC.nsl]; omega))
    refine ⟨ρ2, fun k v hk => e2 k v (e1 k v hk), ?_, ?_, ?_, ?_, fun k g1 g2 => ?_⟩
    rotate_left 4
    · simp only [TC.nsl] at g2
      by_cases hk : k < id + t.nsl
      · obtain ⟨v, hv⟩ := p1 k g1 hk; exact ⟨v, e2 k v hv⟩
      · exact p2 k (by omega) (by omega)
    · intro k hk
      simp only [TC.nsl] at hk
      rw [i2 k (by omega), i1 k (by omega)]
    · intro k v hk
      rcases o2 k v hk with hk | hk
      · exact o1 k v hk
      · exact .inr hk
    · exact (d1.ext e2).append d2
    · intro k e he
      simp only [opn, List.mem_append] at he
      simp only [TC.nsl]
      rcases he with he | he
      · obtain ⟨a, b, d, f⟩ := n1 k e he
        exact ⟨a, b, by omega, f.ext e2⟩
      · obtain ⟨a, b, d, f⟩ := n2 k e he
        exact ⟨a, by omega, by omega, f⟩
  | .tw t u, vs, x, id, ρ, h, hf => by
    simp only [Rep] at h
    obtain ⟨us, ws, rfl, h1, h2, h3⟩ := h
    obtain ⟨ρ1, e1, i1, o1, d1, n1, p1⟩ := opn_ok2 t us x.1 id ρ h1 (fun k hk hk' => hf k hk (by simp [TC.nsl]; omega))
    obtain ⟨ρ2, e2, i2, o2, d2, n2, p2⟩ := opn_ok2 u ws x.2 (id + t.nsl) ρ1 h2 (fun k hk hk' => by
      rw [i1 k (.inr hk)]; exact hf k (by omega) (by simp [TC.nsl]; omega))
    have hn : ρ2 (id + t.nsl + u.nsl) = none := by
      rw [i2 _ (by omega), i1 _ (by omega)]; exact hf _ (by omega) (by simp only [TC.nsl]; omega)
    have e3 : Ext ρ2 (fun k => if k = id + t.nsl + u.nsl then some (.bool true) else ρ2 k) := by
      intro k v hk
      have : k ≠ id + t.nsl + u.nsl := by rintro rfl; rw [hn] at hk; cases hk
      simp [this, hk]
    refine ⟨_, fun k v hk => e3 k v (e2 k v (e1 k v hk)), ?_, ?_, ((d1.ext e2).append d2).ext e3, ?_, fun k g1 g2 => ?_⟩
    · intro k hk
      simp only [TC.nsl] at hk
      have : k ≠ id + t.nsl + u.nsl := by omega
      simp only [this, if_false]
      rw [i2 k (by omega), i1 k (by omega)]
    · intro k v hk
      by_cases e0 : k = id + t.nsl + u.nsl
      · simp [e0] at hk; subst hk; exact .inr rfl
      · simp only [e0, if_false] at hk
        rcases o2 k v hk with hk | hk
        · exact o1 k v hk
        · exact .inr hk
    · intro k e he
      simp only [opn, List.mem_append, List.mem_singleton] at he
      simp only [TC.nsl]
      rcases he with he | he | he
      · obtain ⟨a, b, d, f⟩ := n1 k e he
        exact ⟨a, b, by omega, (f.ext e2).ext e3⟩
      · obtain ⟨a, b, d, f⟩ := n2 k e he
        exact ⟨a, by omega, by omega, f.ext e3⟩
      · cases fr with
        | false =>
          simp only [cond_false, Prod.mk.injEq] at he
          obtain ⟨rfl, rfl⟩ := he
          exact ⟨rfl, by omega, by omega, trivial⟩
        | true =>
          simp only [cond_true, Prod.mk.injEq] at he
          obtain ⟨rfl, rfl⟩ := he
          exact ⟨rfl, by omega, by omega, us, ws, (d1.ext e2).ext e3, d2.ext e3, fun hz => h3 ⟨rfl, hz⟩⟩
    · simp only [TC.nsl] at g2
      by_cases e0 : k = id + t.nsl + u.nsl
      · exact ⟨.bool true, by simp [e0]⟩
      · by_cases hk : k < id + t.nsl
        · obtain ⟨v, hv⟩ := p1 k g1 hk; exact ⟨v, e3 k v (e2 k v hv)⟩
        · obtain ⟨v, hv⟩ := p2 k (by omega) (by omega); exact ⟨v, e3 k v hv⟩
theorem opn_ok {c : Cx} {O1 : Nat → Prop} {w : World} {fr : Bool} (t : TC) (vs : List Value) (x : t.D) (id : Nat) (ρ : Env) (h : Rep (zs c fr) (offs c O1 fr) w t vs x) (hf : ∀ k, id ≤ k → k < id + t.nsl → ρ k = none) :
    ∃ ρ', Ext ρ ρ' ∧ (∀ k, (k < id ∨ id + t.nsl ≤ k) → ρ' k = ρ k) ∧ (∀ k v, ρ' k = some v → ρ k = some v ∨ v.oneCell' = true) ∧ DenL ρ' (opn t x fr id).1 vs ∧
      ∀ k e, (k, e) ∈ (opn t x fr id).2 → isOwn e = false ∧ id ≤ k ∧ k < id + t.nsl ∧ EntOk c O1 ρ' w k e := by
  obtain ⟨ρ', a1, a2, a3, a4, a5, _⟩ := opn_ok2 t vs x id ρ h hf
  exact ⟨ρ', a1, a2, a3, a4, a5⟩

theorem Rep.flat {z z' : Prop} {O O' : Nat → Prop} {w w' : World} : ∀ {t : TC} {vs : List Value} {x : t.D}, t.nsl = 0 → Rep z O w t vs x → Rep z' O' w' t vs x
  | .i _, _, _, _, h => h
  | .b, _, _, _, h => h
  | .s, _, _, _, h => h
  | .sl _, _, _, hn, _ => by simp [TC.nsl] at hn
  | .pr t u, _, _, hn, h => by
    simp only [TC.nsl] at hn
    obtain ⟨us, ws, h0, h1, h2⟩ := h
    exact ⟨us, ws, h0, h1.flat (by omega), h2.flat (by omega)⟩
  | .tw t u, _, _, hn, h => by simp [TC.nsl] at hn
/-- equality of codes, with its proof -/
def keq (a b : IntKind) : Option (PLift (a = b)) :=
  match a, b with
  | .i8, .i8 => some ⟨rfl⟩ | .i16, .i16 => some ⟨rfl⟩ | .i32, .i32 => some ⟨rfl⟩ | .i64, .i64 => some ⟨rfl⟩
  | .u8, .u8 => some ⟨rfl⟩ | .u16, .u16 => some ⟨rfl⟩ | .u32, .u32 => some ⟨rfl⟩ | .u64, .u64 => some ⟨rfl⟩
  | _, _ => none
def teq : (t u : TC) → Option (PLift (t = u))
  | .i k, u => match u with
    | .i k' => (match keq k k' with | some ⟨h⟩ => some ⟨by rw [h]⟩ | none => none)
    | _ => none
  | .b, u => match u with | .b => some ⟨rfl⟩ | _ => none
  | .s, u => match u with | .s => some ⟨rfl⟩ | _ => none
  | .sl t, u => match u with
    | .sl t' => (match teq t t' with | some ⟨h⟩ => some ⟨by rw [h]⟩ | none => none)
    | _ => none
  | .pr t1 t2, u => match u with
    | .pr u1 u2 => (match teq t1 u1, teq t2 u2 with | some ⟨h⟩, some ⟨g⟩ => some ⟨by rw [h, g]⟩ | _, _ => none)
    | _ => none
  | .tw t1 t2, u => match u with
    | .tw u1 u2 => (match teq t1 u1, teq t2 u2 with | some ⟨h⟩, some ⟨g⟩ => some ⟨by rw [h, g]⟩ | _, _ => none)
    | _ => none
def castD {t u : TC} (h : t = u) (xs : List t.D) : List u.D := cast (congrArg (fun t => List (TC.D t)) h) xs

/-- cells that lead to no blocks -/
def noB (l : List A1) : Bool := l.all fun a => match a with | .con v => noBlk v | _ => false
theorem noB_ok {ρ : Env} : ∀ {l : List A1} {vs : List Value}, noB l = true → DenL ρ l vs → ∀ v, v ∈ vs → noBlk v = true
  | [], _, _, hd, v, hv => by cases hd; simp at hv
  | a :: l, _, h, hd, v, hv => by
    obtain ⟨u, us, rfl, h1, h2⟩ := hd
    simp only [noB, List.all_cons, Bool.and_eq_true] at h
    rcases List.mem_cons.1 hv with rfl | hv
    · cases a with
      | con x => cases h1; exact h.1
      | ref k => simp at h
      | ptr k i n j => simp at h
    · exact noB_ok (l := l) h.2 h2 v hv
/-- whether an entry says that two cells are twins -/
def twB (en : List (Nat × Ent)) (a b : List A1) : Bool :=
  (noB a && noB b) || (match a, b with
    | [.ref i], [.ref j] => (match look (j + 1) en with | some (.tw [.ref i'] [.ref j']) => nb i i' && nb j j' | _ => false)
    | _, _ => false)
theorem twB_ok {c : Cx} {O1 : Nat → Prop} {ρ : Env} {w : World} {en : List (Nat × Ent)} (hen : ∀ k e, look k en = some e → EntOk c O1 ρ w k e) {a b : List A1} {us ws : List Value} (ha : DenL ρ a us) (hb : DenL ρ b ws) (h : twB en a b = true) (hz : c.z0) : Twin (offs c O1 true) w us ws := by
  unfold twB at h
  simp only [Bool.or_eq_true] at h
  rcases h with h | h
  · simp only [Bool.and_eq_true] at h
    exact .inl ⟨noB_ok h.1 ha, noB_ok h.2 hb⟩
  · split at h
    · next i j =>
      split at h
      · next i' j' hl =>
        simp only [Bool.and_eq_true] at h
        have e1 := eq_of_nb h.1
        have e2 := eq_of_nb h.2
        subst e1; subst e2
        obtain ⟨us', ws', h1, h2, h3⟩ := hen _ _ hl
        have a1 : us' = us := DenL.uniq h1 ha
        have a2 : ws' = ws := DenL.uniq h2 hb
        subst a1; subst a2
        exact h3 hz
      · cases h
    · cases h
/-- abstract cells closed into data (its slices are such as nobody writes); whether the data's memory is new -/
def cls (en : List (Nat × Ent)) : (t : TC) → List A1 → Option (t.D × Bool)
  | .i k, l => match l with | [.con (.int k' x)] => (bif kb k' k then some (x, true) else none) | _ => none
  | .b, l => match l with | [.con (.bool x)] => some (x, true) | _ => none
  | .s, l => match l with | [.con (.string x)] => some (x, true) | _ => none
  | .sl t, l => match l with
    | [.con (.slice none n m)] => (bif nb n 0 && nb m 0 then some ([], true) else none)
    | [.ref k] => (match look k en with
      | some (.imm t' xs fr) => (match teq t' t with | some ⟨h⟩ => some (castD h xs, fr) | none => none)
      | _ => none)
    | _ => none
  | .pr t u, l => match cls en t (l.take t.n), cls en u (l.drop t.n) with
    | some x, some y => some ((x.1, y.1), x.2 && y.2)
    | _, _ => none
  | .tw t u, l => match cls en t (l.take t.n), cls en u (l.drop t.n) with
    | some x, some y => some ((x.1, y.1), (x.2 && y.2) && twB en (l.take t.n) (l.drop t.n))
    | _, _ => none

theorem noB_app {l m : List A1} : noB (l ++ m) = (noB l && noB m) := by simp [noB, List.all_append]
theorem cls_nilB : ∀ (t : TC) (l : List A1) (x : t.D) (fr : Bool), cls [] t l = some (x, fr) → noB l = true
  | .i k, l, x, fr, h => by
    simp only [cls] at h
    split at h
    · rfl
    · cases h
  | .b, l, x, fr, h => by
    simp only [cls] at h
    split at h
    · rfl
    · cases h
  | .s, l, x, fr, h => by
    simp only [cls] at h
    split at h
    · rfl
    · cases h
  | .sl t, l, x, fr, h => by
    simp only [cls] at h
    split at h
    · rfl
    · simp [look] at h
    · cases h
  | .pr t u, l, x, fr, h => by
    simp only [cls] at h
    split at h
    · next x1 x2 h1 h2 =>
      rw [← List.take_append_drop t.n l, noB_app, cls_nilB t _ _ _ h1, cls_nilB u _ _ _ h2]; rfl
    · cases h
  | .tw t u, l, x, fr, h => by
    simp only [cls] at h
    split at h
    · next x1 x2 h1 h2 =>
      rw [← List.take_append_drop t.n l, noB_app, cls_nilB t _ _ _ h1, cls_nilB u _ _ _ h2]; rfl
    · cases h

theorem cls_nil : ∀ (t : TC) (l : List A1) (x : t.D) (fr : Bool), cls [] t l = some (x, fr) → fr = true
  | .i k, l, x, fr, h => by
    simp only [cls] at h
    split at h
    · next k' y =>
      cases hk : kb k' k with
      | false => rw [hk] at h; cases h
      | true => rw [hk] at h; cases h; rfl
    · cases h
  | .b, l, x, fr, h => by simp only [cls] at h; split at h <;> cases h; rfl
  | .s, l, x, fr, h => by simp only [cls] at h; split at h <;> cases h; rfl
  | .sl t, l, x, fr, h => by
    simp only [cls] at h
    split at h
    · next n m =>
      cases hn : nb n 0 && nb m 0 with
      | false => rw [hn] at h; cases h
      | true => rw [hn] at h; cases h; rfl
    · simp [look] at h
    · cases h
  | .pr t u, l, x, fr, h => by
    simp only [cls] at h
    split at h
    · next x1 x2 h1 h2 =>
      cases h
      simp [cls_nil t _ _ _ h1, cls_nil u _ _ _ h2]
    · cases h
  | .tw t u, l, x, fr, h => by
    simp only [cls] at h
    split at h
    · next x1 x2 h1 h2 =>
      cases h
      simp [cls_nil t _ _ _ h1, cls_nil u _ _ _ h2, twB, cls_nilB t _ _ _ h1, cls_nilB u _ _ _ h2]
    · cases h

theorem cls_ok {c : Cx} {O1 : Nat → Prop} {ρ : Env} {w : World} {en : List (Nat × Ent)} (hen : ∀ k e, look k en = some e → EntOk c O1 ρ w k e) :
    ∀ (t : TC) (l : List A1) (vs : List Value) (x : t.D) (fr : Bool), DenL ρ l vs → cls en t l = some (x, fr) → Rep (zs c fr) (offs c O1 fr) w t vs x
  | .i k, l, vs, x, fr, hd, h => by
    simp only [cls] at h
    split at h
    · next k' y =>
      obtain ⟨v, us, rfl, h1, rfl⟩ := hd
      simp [den1] at h1; subst h1
      cases hk : kb k' k with
      | false => rw [hk] at h; cases h
      | true => rw [hk] at h; cases kb_eq hk; cases h; simp [Rep]
    · cases h
  | .b, l, vs, x, fr, hd, h => by
    simp only [cls] at h
    split at h
    · obtain ⟨v, us, rfl, h1, rfl⟩ := hd
      simp [den1] at h1; subst h1
      cases h; simp [Rep]
    · cases h
  | .s, l, vs, x, fr, hd, h => by
    simp only [cls] at h
    split at h
    · obtain ⟨v, us, rfl, h1, rfl⟩ := hd
      simp [den1] at h1; subst h1
      cases h; simp [Rep]
    · cases h
  | .sl t, l, vs, x, fr, hd, h => by
    simp only [cls] at h
    split at h
    · next n cap =>
      obtain ⟨v, us, rfl, h1, rfl⟩ := hd
      simp [den1] at h1; subst h1
      cases hn : nb n 0 && nb cap 0 with
      | false => rw [hn] at h; cases h
      | true =>
        rw [hn] at h; cases h
        simp only [Bool.and_eq_true] at hn
        have := eq_of_nb hn.1
        subst this
        have := eq_of_nb hn.2
        subst this
        exact ⟨none, 0, rfl, Nat.zero_le _, Nat.zero_le _, fun _ => rfl, fun _ _ => .inl rfl, .inl rfl⟩
    · next k =>
      obtain ⟨v, us, rfl, h1, rfl⟩ := hd
      simp only [den1] at h1
      split at h
      · next t' xs fr' hl =>
        split at h
        · next g _ =>
          subst g
          simp only [castD, cast_eq, Option.some.injEq, Prod.mk.injEq] at h
          obtain ⟨rfl, rfl⟩ := h
          obtain ⟨v', hv', hr⟩ := hen k _ hl
          rw [h1] at hv'
          cases hv'
          exact hr
        · cases h
      · cases h
    · cases h
  | .pr t u, l, vs, x, fr, hd, h => by
    simp only [cls] at h
    split at h
    · next x1 x2 h1 h2 =>
      cases h
      have m : ∀ (f : Bool), (f = (x1.2 && x2.2)) → ∀ (g : Bool), (g = x1.2 ∨ g = x2.2) → ∀ b, b < w.heap.size → ¬ offs c O1 g b → ¬ offs c O1 f b ∧ w.heap[b]? = w.heap[b]? := by
        intro f hf g hg b _ hn
        refine ⟨?_, rfl⟩
        simp only [offs, not_or, not_and] at hn ⊢
        refine ⟨hn.1, fun hf' => hn.2 ?_⟩
        rw [hf'] at hf
        have := hf.symm
        simp at this
        rcases hg with rfl | rfl
        · exact this.1
        · exact this.2
      have r1 := cls_ok hen t _ _ x1.1 x1.2 (hd.take t.n) h1
      have r2 := cls_ok hen u _ _ x2.1 x2.2 (hd.drop t.n) h2
      exact ⟨_, _, (List.take_append_drop t.n vs).symm, r1.move zs_l (m _ rfl _ (.inl rfl)), r2.move zs_r (m _ rfl _ (.inr rfl))⟩
    · cases h
  | .tw t u, l, vs, x, fr, hd, h => by
    simp only [cls] at h
    split at h
    · next x1 x2 h1 h2 =>
      cases h
      have m : ∀ (f : Bool), (f = ((x1.2 && x2.2) && twB en (l.take t.n) (l.drop t.n))) → ∀ (g : Bool), (g = x1.2 ∨ g = x2.2) → ∀ b, b < w.heap.size → ¬ offs c O1 g b → ¬ offs c O1 f b ∧ w.heap[b]? = w.heap[b]? := by
        intro f hf g hg b _ hn
        refine ⟨?_, rfl⟩
        simp only [offs, not_or, not_and] at hn ⊢
        refine ⟨hn.1, fun hf' => hn.2 ?_⟩
        rw [hf'] at hf
        have := hf.symm
        simp at this
        rcases hg with rfl | rfl
        · exact this.1.1
        · exact this.1.2
      have r1 := cls_ok hen t _ _ x1.1 x1.2 (hd.take t.n) h1
      have r2 := cls_ok hen u _ _ x2.1 x2.2 (hd.drop t.n) h2
      refine ⟨_, _, (List.take_append_drop t.n vs).symm, r1.move (fun k => zs_l (zs_l k)) (m _ rfl _ (.inl rfl)), r2.move (fun k => zs_r (zs_l k)) (m _ rfl _ (.inr rfl)), fun k => ?_⟩
      obtain ⟨k1, k2⟩ := k
      rw [k1]
      simp only [Bool.and_eq_true] at k1
      exact twB_ok hen (hd.take t.n) (hd.drop t.n) k1.2 k2
    · cases h

theorem padd_box (b o : Nat) : padd (.pointer (some ⟨b, 0, none⟩)) o = some (.pointer (some ⟨b, o, none⟩)) := by simp [padd]
theorem padd_row (b p n cap o : Nat) : padd (.slice (some ⟨b, p, none⟩) n cap) o = some (.pointer (some ⟨b, p + o, none⟩)) := rfl

def isSt (ti : TI) : Bool := match ti.kind with | .st _ => true | _ => false
section
variable {P : Program} {t : TypeId} {ti : TI}
theorem TIOk.parts (h : TIOk P t ti) : ∃ i, P.info? t = some i ∧ i.zero = some ti.zv ∧ i.size = ti.z.length ∧ i.bytes ≤ 128 := by
  have h1 := h.info
  have h2 := h.bytes
  cases hi : P.info? t with
  | none => rw [hi] at h1; simp at h1
  | some i => rw [hi] at h1 h2; simp at h1 h2; exact ⟨i, rfl, h1.1, h1.2, h2⟩
theorem TIOk.size (h : TIOk P t ti) (w : World) : (sizeOf t).run P w = .ok ti.z.length w := by
  obtain ⟨i, hi, _, hs, _⟩ := h.parts
  simp [sizeOf, typeInfo, hi, hs]
theorem TIOk.zero (h : TIOk P t ti) (w : World) : (zeroValue t).run P w = .ok ti.zv w := by
  obtain ⟨i, hi, hz, _⟩ := h.parts
  simp [zeroValue, typeInfo, hi, hz]
theorem TIOk.agg (h : TIOk P t ti) (w : World) : (isAgg t).run P w = .ok (isSt ti) w := by
  have hf := h.fits
  unfold isSt
  cases hk : ti.kind <;> rw [hk] at hf <;> simp only [TK.fits] at hf
  case st fs =>
    obtain ⟨d, hd, hm⟩ := Option.bind_eq_some_iff.1 hf
    cases d <;> simp at hm
    simp [isAgg, run_underlying hd]
  all_goals simp [isAgg, run_underlying hf]

/-- the value of a type's cells -/
def mkv (ti : TI) (l : List A1) : Option AV :=
  bif isSt ti then some (.agg l) else match l with | [x] => some (.one x) | _ => none
theorem run_load (h : TIOk P t ti) {w : World} {b o : Nat} {us : List Value} (hl : us.length = ti.z.length) (hc : ∀ (j : Nat) (v : Value), us[j]? = some v → w.cell? ⟨b, o + j, none⟩ = some v)
    {ρ : Env} {l : List A1} {y : AV} (hd : DenL ρ l us) (hy : mkv ti l = some y) : ∃ v, Den ρ y v ∧ (Instr.loadAt t (.pointer (some ⟨b, o, none⟩))).run P w = .ok v w := by
  have ea : ∀ j, (⟨b, o, none⟩ : Addr).add j = ⟨b, o + j, none⟩ := fun j => by unfold Addr.add; split <;> simp_all
  unfold mkv at hy
  cases hs : isSt ti with
  | true =>
    rw [hs] at hy; cases hy
    refine ⟨_, ⟨us, hd, rfl⟩, ?_⟩
    have := run_loadCells_list (P := P) w ⟨b, o, none⟩ us (fun j v hj => by rw [ea]; exact hc j v hj)
    rw [hl] at this
    simp [Instr.loadAt, Instr.sureAddr, loadVar, h.agg, hs, h.size, this]
  | false =>
    rw [hs] at hy
    simp only [cond_false] at hy
    split at hy
    · next x =>
      cases hy
      obtain ⟨v, us', rfl, h1, rfl⟩ := hd
      have := hc 0 v rfl
      refine ⟨v, h1, ?_⟩
      simp [Instr.loadAt, Instr.sureAddr, loadVar, h.agg, hs, load]
      simp [Sem.run]
      rw [show (⟨b, o, none⟩ : Addr) = ⟨b, o + 0, none⟩ from rfl, this]
    · cases hy
end
end Go.Proofs.Ytgbfcjnkohhfoaa

namespace Go.Proofs.Ytgbfcjnkohhfoaa
open Go.RowKit

/-- a step that brings data's slices -/
theorem step_opn {c : Cx} {N O1 : Nat → Prop} {ρ : Env} {S : St} {a : Act} {w : World} (h : Conc c N O1 ρ S a w) {i0 : Nat} (hf : ∀ k, i0 ≤ k → k < i0 + 16 → ρ k = none)
    {fr : Bool} {t : TC} {vs : List Value} {x : t.D} (hr : Rep (zs c fr) (offs c O1 fr) w t vs x) (hn : t.nsl ≤ 16) : ∃ ρ', DenL ρ' (opn t x fr i0).1 vs ∧ StepTo c i0 (opn t x fr i0).2 O1 ρ w O1 ρ' w := by
  obtain ⟨ρ', e1, i1, o1, d1, n1⟩ := opn_ok t vs x i0 ρ hr (fun k h1 h2 => hf k h1 (by omega))
  refine ⟨ρ', d1, e1, fun k hk => i1 k (by omega), fun k v hk => ?_, BelowM.refl _ _, fun k e he => (n1 k e (look_mem he)).2.2.2, fun b hb => .inl hb, fun b hb => .inl hb, ?_, ?_⟩
  · rcases o1 k v hk with hk | hk
    · exact h.one k v hk
    · exact hk
  · intro k e v b he ho
    have := (n1 k e (look_mem he)).1
    rw [ho] at this; cases this
  · intro k k' e e' v v' b _ he _ ho
    have := (n1 k e (look_mem he)).1
    rw [ho] at this; cases this

def fin (ti : TI) (l : List A1) (en : List (Nat × Ent)) (K : Dl → Prop) : Prop :=
  bif nb l.length ti.z.length then (match mkv ti l with | some y => K ⟨y, en⟩ | none => False) else False
theorem fin_ok {ti : TI} {l : List A1} {en : List (Nat × Ent)} {K : Dl → Prop} (h : fin ti l en K) : l.length = ti.z.length ∧ ∃ y, mkv ti l = some y ∧ K ⟨y, en⟩ := by
  unfold fin at h
  cases hb : nb l.length ti.z.length with
  | false => rw [hb] at h; exact h.elim
  | true =>
    rw [hb] at h
    simp only [cond_true] at h
    refine ⟨eq_of_nb hb, ?_⟩
    split at h
    · next y hy => exact ⟨y, hy, h⟩
    · exact h.elim

/-- the cells of element i of an entry's data in memory -/
theorem row_own {c : Cx} {O1 : Nat → Prop} {ρ : Env} {w : World} {k e : Nat} {t : TC} {xs : List t.D} {fr : Bool} (h : EntOk c O1 ρ w k (.own e t xs fr)) {i : Nat} (hi : i < xs.length) :
    ∃ g p n cap us, ρ k = some (.slice (some ⟨g, p, none⟩) n cap) ∧ us.length = t.n ∧ (∀ (j : Nat) (v : Value), us[j]? = some v → w.cell? ⟨g, p + i * t.n + j, none⟩ = some v) ∧ Rep (zs c fr) (offs c O1 fr) w t us (xs.getD i t.z) := by
  obtain ⟨v, cs, h1, h2, h3, h4, h5⟩ := h
  have h2' := h2
  rcases h2.2 with ⟨_, h0⟩ | ⟨g, cap, cur, rfl, hb, hg, r⟩
  · omega
  · have hx : xs[i]? = some (xs.getD i t.z) := by simp [List.getD, hi]
    have hr := h5 i _ hx
    refine ⟨g, 0, xs.length, cap, _, h1, hr.len, fun j v hj => ?_, hr⟩
    simp only [List.getElem?_take, List.getElem?_drop] at hj
    split at hj
    · next hjn =>
      rw [show 0 + i * t.n + j = i * t.n + j by omega, h2'.cellAt (i * t.n + j) ?_]
      · exact hj
      · have := Nat.mul_le_mul_right t.n (show i + 1 ≤ xs.length by omega)
        rw [Nat.add_mul] at this
        omega
    · cases hj
theorem row_imm {c : Cx} {O1 : Nat → Prop} {ρ : Env} {w : World} {k : Nat} {t : TC} {xs : List t.D} {fr : Bool} (h : EntOk c O1 ρ w k (.imm t xs fr)) {i : Nat} (hi : i < xs.length) :
    ∃ g p n cap us, ρ k = some (.slice (some ⟨g, p, none⟩) n cap) ∧ us.length = t.n ∧ (∀ (j : Nat) (v : Value), us[j]? = some v → w.cell? ⟨g, p + i * t.n + j, none⟩ = some v) ∧ Rep (zs c fr) (offs c O1 fr) w t us (xs.getD i t.z) := by
  obtain ⟨v, h1, a, cap, hv, h2, h3, _, _, h4⟩ := h
  simp only [List.cons.injEq, and_true] at hv
  subst hv
  obtain ⟨b, off, rfl, hb, hc⟩ := h4.resolve_left (by rintro rfl; simp at hi)
  have hx : xs[i]? = some (xs.getD i t.z) := by simp [List.getD, hi]
  obtain ⟨us, hl, hcell, hr⟩ := hc i _ hx
  exact ⟨b, off, _, cap, us, h1, hl, hcell, hr⟩

def loadRow (ti : TI) (t : TC) (xs : List t.D) (fr : Bool) (i0 i n j : Nat) (K : Dl → Prop) : Prop :=
  bif nb n t.n && nle t.nsl 16 then i < xs.length ∧ fin ti (((opn t (xs.getD i t.z) fr i0).1.drop j).take ti.z.length) (opn t (xs.getD i t.z) fr i0).2 K else False
def loadAtom (S : St) (i0 : Nat) (ti : TI) (k i n j : Nat) (K : Dl → Prop) : Prop :=
  match look k S.en with
  | some (.box l) => (bif nb i 0 then fin ti ((l.drop j).take ti.z.length) [] K else False)
  | some (.own _ t xs fr) => loadRow ti t xs fr i0 i n j K
  | some (.imm t xs fr) => loadRow ti t xs fr i0 i n j K
  | _ => False
def aLoad (C : Ctx) (S : St) (i0 : Nat) (t : TypeId) (x : Operand) (K : Dl → Prop) : Prop :=
  match look t C.ty, av S x with
  | some ti, some (.one (.ref k)) => (match look k S.en with | some (.box l) => fin ti (l.take ti.z.length) [] K | _ => False)
  | some ti, some (.one (.ptr k i n j)) => loadAtom S i0 ti k i n j K
  | _, _ => False

theorem loadRow_ok [B : Base] {C : Ctx} {c : Cx} (hC : CtxOk C c) {S : St} {i0 : Nat} {o : Oper} {t : TypeId} {x : Operand} {K : Dl → Prop} (ho : o.op = .load t x) {ti : TI} (hti : look t C.ty = some ti)
    {k i n j : Nat} (hx : av S x = some (.one (.ptr k i n j))) {tt : TC} {xs : List tt.D} {fr : Bool}
    (hrow : ∀ {O1 : Nat → Prop} {ρ : Env} {w : World}, (∀ e, look k S.en = some e → EntOk c O1 ρ w k e) → i < xs.length → ∃ g p n cap us, ρ k = some (.slice (some ⟨g, p, none⟩) n cap) ∧ us.length = tt.n ∧ (∀ (j : Nat) (v : Value), us[j]? = some v → w.cell? ⟨g, p + i * tt.n + j, none⟩ = some v) ∧ Rep (zs c fr) (offs c O1 fr) w tt us (xs.getD i tt.z))
    (h : loadRow ti tt xs fr i0 i n j K) : ∃ δ, OpOk c S i0 o δ ∧ K δ := by
  unfold loadRow at h
  cases hb : nb n tt.n && nle tt.nsl 16 with
  | false => rw [hb] at h; exact h.elim
  | true =>
    rw [hb] at h
    simp only [cond_true] at h
    simp only [Bool.and_eq_true] at hb
    have hn := eq_of_nb hb.1
    have h16 := le_of_nle hb.2
    subst hn
    obtain ⟨hi, h⟩ := h
    obtain ⟨hl, y, hy, hk⟩ := fin_ok h
    refine ⟨_, ⟨fun k e he => .inl ?_, fun N O1 ρ a w hc hf next Q hn => ?_⟩, hk⟩
    · simp only at he
      have aux : ∀ (t : TC) (x : t.D) (id : Nat) (k : Nat) (e : Ent), (k, e) ∈ (opn t x fr id).2 → id ≤ k ∧ k < id + t.nsl := by
        intro t
        induction t with
        | i k => intro x id k e he; simp [opn] at he
        | b => intro x id k e he; simp [opn] at he
        | s => intro x id k e he; simp [opn] at he
        | sl t _ => intro x id k e he; simp [opn] at he; simp [TC.nsl]; omega
        | pr t u iht ihu =>
          intro x id k e he
          simp only [opn, List.mem_append] at he
          simp only [TC.nsl]
          rcases he with he | he
          · have := iht _ _ _ _ he; omega
          · have := ihu _ _ _ _ he; omega
        | tw t u iht ihu =>
          intro x id k e he
          simp only [opn, List.mem_append, List.mem_singleton, Prod.mk.injEq] at he
          simp only [TC.nsl]
          rcases he with he | he | he
          · have := iht _ _ _ _ he; omega
          · have := ihu _ _ _ _ he; omega
          · omega
      have := aux _ _ _ _ _ he
      omega
    · obtain ⟨g, p, n, cap, us, hv, hlen, hcell, hr⟩ := hrow (fun e he => hc.en k e he) hi
      obtain ⟨ρ', hd, hst⟩ := step_opn hc hf hr h16
      have hP := hC.ty t ti hti
      rw [← hC.P] at hP
      have hd' := (hd.drop j).take ti.z.length
      have hlen' := hd'.len
      have ht := av_ok hc hx
      simp only [Den, den1, hv, Option.bind_some, padd_row, Option.some.injEq] at ht
      obtain ⟨v, hv1, hv2⟩ := run_load hP (w := w) (b := g) (o := p + (i * tt.n + j)) (us := (us.drop j).take ti.z.length) (by rw [hlen', hl]) (fun q v hq => by
        simp only [List.getElem?_take, List.getElem?_drop] at hq
        split at hq
        · have := hcell (j + q) v hq
          rw [show p + (i * tt.n + j) + q = p + i * tt.n + (j + q) by omega]
          exact this
        · cases hq) hd' hy
      unfold Oper.wp
      have : (execOp a.eval o).run c.P w = .ok (.value v) w := by simp [execOp, ho, ← ht, hv2]
      rw [this, Oper.upon_value]
      exact hn O1 ρ' v w hv1 hst

theorem loadBox_ok [B : Base] {C : Ctx} {c : Cx} (hC : CtxOk C c) {S : St} {i0 : Nat} {o : Oper} {t : TypeId} {x : Operand} {K : Dl → Prop} (ho : o.op = .load t x) {ti : TI} (hti : look t C.ty = some ti)
    {k j : Nat} {l : List A1} (hl : look k S.en = some (.box l)) (hx : ∀ {N O1 : Nat → Prop} {ρ : Env} {a : Act} {w : World} {b : Nat}, Conc c N O1 ρ S a w → ρ k = some (.pointer (some ⟨b, 0, none⟩)) → a.eval x = .pointer (some ⟨b, j, none⟩))
    (h : fin ti ((l.drop j).take ti.z.length) [] K) : ∃ δ, OpOk c S i0 o δ ∧ K δ := by
  obtain ⟨hlen, y, hy, hk⟩ := fin_ok h
  refine ⟨_, ok_pure fun N O1 ρ a w hc => ?_, hk⟩
  obtain ⟨b, e, vs, h1, h2, h3, h4, h5⟩ := hc.en k _ hl
  have hP := hC.ty t ti hti
  rw [← hC.P] at hP
  have hd := (h3.drop j).take ti.z.length
  obtain ⟨v, hv1, hv2⟩ := run_load hP (w := w) (b := b) (o := j) (by rw [hd.len, hlen]) (fun q v hq => by
    simp only [List.getElem?_take, List.getElem?_drop] at hq
    split at hq
    · rw [cell_of_row w b (j + q) vs.toArray e (0, 0) h5]; simpa using hq
    · cases hq) hd hy
  exact ⟨v, hv1, by simp [execOp, ho, hx hc h1, hv2]⟩

theorem aLoad_ok [B : Base] {C : Ctx} {c : Cx} (hC : CtxOk C c) {S : St} {i0 : Nat} {o : Oper} {t : TypeId} {x : Operand} {K : Dl → Prop} (ho : o.op = .load t x) (h : aLoad C S i0 t x K) : ∃ δ, OpOk c S i0 o δ ∧ K δ := by
  unfold aLoad at h
  split at h
  · next ti k hti hx =>
    split at h
    · next l hl =>
      refine loadBox_ok hC ho hti (j := 0) hl (fun hc hb => ?_) (by simpa using h)
      have := av_ok hc hx
      simp only [Den, den1, hb, Option.some.injEq] at this
      exact this.symm
    · exact h.elim
  · next ti k i n j hti hx =>
    unfold loadAtom at h
    split at h
    · next l hl =>
      cases hi : nb i 0 with
      | false => rw [hi] at h; exact h.elim
      | true =>
        rw [hi] at h
        have := eq_of_nb hi
        subst this
        refine loadBox_ok hC ho hti (j := j) hl (fun hc hb => ?_) h
        have := av_ok hc hx
        simp only [Den, den1, hb, Option.bind_some, padd_box, Option.some.injEq] at this
        rw [← this]; simp
    · next e tt xs fr hl =>
      exact loadRow_ok hC ho hti hx (fun hen hi => row_own (hen _ hl) hi) h
    · next tt xs fr hl =>
      exact loadRow_ok hC ho hti hx (fun hen hi => row_imm (hen _ hl) hi) h
    · exact h.elim
  · exact h.elim
end Go.Proofs.Ytgbfcjnkohhfoaa
