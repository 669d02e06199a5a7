/-
  The abstract machine, part 2: operations that touch no memory.
-/
import Derived.Test.YtghfpidpefdndaaAb1
import Derived.IntWalk
namespace Go.Proofs.Ytghfpidpefdndaa
open Go.RowKit

inductive TK | int (k : IntKind) | bool | str | st (fs : List (Nat × Nat × Bool)) | sl (e : Nat) | ptr (e : Nat) | map (k v : Nat)
/-- a type: its kind, the cells of its zero value, its data's code (where it has one) -/
structure TI where
  kind : TK
  z : List Value
  tc : TC
structure Ctx where
  P : Program
  ty : List (Nat × TI)
  n : Nat
  pins : List Nat
  mpins : List Nat
  eqs : List (Nat × List TC)

def TI.zv (ti : TI) : Value := match ti.kind with | .st _ => .agg ti.z.toArray | _ => ti.z.headD undef
def aggB : Option TypeDesc → Bool
  | some (.struct _) | some (.array _ _) | none => true
  | _ => false
/-- a field: offset, cells, whether it is a struct -/
def trip (P : Program) (g : Field) : Option (Nat × Nat × Bool) := (P.info? g.type).map fun i => (g.offset, i.size, aggB (P.underlying g.type))
def TK.fits (P : Program) (t : TypeId) : TK → Prop
  | .int k => P.underlying t = some (.int k)
  | .bool => P.underlying t = some .bool
  | .str => P.underlying t = some .string
  | .st fs => ((P.underlying t).bind fun d => match d with | .struct gs => gs.toList.mapM (trip P) | _ => none) = some fs
  | .sl e => P.underlying t = some (.slice e)
  | .ptr e => P.underlying t = some (.pointer e)
  | .map k v => P.underlying t = some (.map k v)
structure TIOk (P : Program) (t : TypeId) (ti : TI) : Prop where
  info : (P.info? t).map (fun i => (i.zero, i.size)) = some (some ti.zv, ti.z.length)
  bytes : ((P.info? t).map (·.bytes)).getD 1000 ≤ 128
  fits : ti.kind.fits P t
def descOf : TC → TypeDesc
  | .i k => .int k
  | _ => .bool
def flatFs : List TC → Nat → List (Bool × Option TypeDesc × Nat)
  | [], _ => []
  | t :: l, i => (true, some (descOf t), i) :: flatFs l (i + 1)
structure EqTOk (P : Program) (t : TypeId) (ks : List TC) : Prop where
  ht : P.underlying t = some (.struct (P.fieldsOf t))
  hp : P.stoodInHeld t = false
  hg : P.eqGuardType P.depth t = false
  hf : (P.fieldsOf t).toList.map (fun f => (f.name != "_", P.underlying f.type, f.offset)) = flatFs ks 0
structure CtxOk (C : Ctx) (c : Cx) : Prop where
  P : c.P = C.P
  n : c.n = C.n
  ty : ∀ t ti, look t C.ty = some ti → TIOk C.P t ti
  eqs : ∀ t ks, look t C.eqs = some ks → EqTOk C.P t ks
  pin : ∀ p v, c.pin p = some v → p ∈ C.pins
  pm : ∀ b, c.M b → ∃ p v, p ∈ C.mpins ∧ c.pin p = some v ∧ blkOf v = some b

def OpOk (c : Cx) (S : St) (i0 : Nat) (o : Oper) (δ : Dl) : Prop :=
  (∀ k e, (k, e) ∈ δ.en → (i0 ≤ k ∧ k < i0 + 16) ∨ ∃ e0, look k S.en = some e0 ∧ isOwn e0 = true) ∧
  ∀ N O1 ρ a w, Conc c N O1 ρ S a w → (∀ k, i0 ≤ k → k < i0 + 16 → ρ k = none) → ∀ next Q,
    (∀ O1' ρ' v w', Den ρ' δ.val v → StepTo c i0 δ.en O1 ρ w O1' ρ' w' → next (a.put o.dst v) w') → o.wp c.P a w next Q

theorem StepTo.refl {c : Cx} {N O1 : Nat → Prop} {ρ : Env} {S : St} {a : Act} {w : World} (h : Conc c N O1 ρ S a w) (i0 : Nat) : StepTo c i0 [] O1 ρ w O1 ρ w where
  ext := Ext.refl ρ
  ids := fun _ _ => rfl
  one := h.one
  eff := BelowM.refl _ _
  en := fun k e he => by simp [look] at he
  o1 := fun b hb => .inl hb
  o1' := fun b hb => .inl hb
  ap := fun k e v b he => by simp [look] at he
  ap2 := fun k k' e e' v v' b _ he => by simp [look] at he

/-- an operation that reckons a value -/
theorem ok_pure {c : Cx} {S : St} {i0 : Nat} {o : Oper} {x : AV}
    (h : ∀ N O1 ρ a w, Conc c N O1 ρ S a w → ∃ v, Den ρ x v ∧ (execOp a.eval o).run c.P w = .ok (.value v) w) : OpOk c S i0 o ⟨x, []⟩ := by
  refine ⟨fun k e he => by simp at he, fun N O1 ρ a w hc _ next Q hn => ?_⟩
  obtain ⟨v, hv, hr⟩ := h N O1 ρ a w hc
  unfold Oper.wp
  rw [hr, Oper.upon_value]
  exact hn O1 ρ v w hv (StepTo.refl hc i0)

theorem ok_con {c : Cx} {S : St} {i0 : Nat} {o : Oper} {v : Value}
    (h : ∀ N O1 ρ a w, Conc c N O1 ρ S a w → (execOp a.eval o).run c.P w = .ok (.value v) w) : OpOk c S i0 o ⟨.one (.con v), []⟩ :=
  ok_pure fun N O1 ρ a w hc => ⟨v, rfl, h N O1 ρ a w hc⟩

def conAV : Value → AV
  | .agg cs => .agg (cs.toList.map A1.con)
  | v => .one (.con v)
theorem den_con (ρ : Env) (v : Value) : Den ρ (conAV v) v := by
  cases v
  case agg cs =>
    refine ⟨cs.toList, ?_, by simp⟩
    generalize cs.toList = l
    induction l with
    | nil => rfl
    | cons v l ih => exact ⟨v, l, rfl, rfl, ih⟩
  all_goals rfl
/-- the abstract value of an operand -/
def av (S : St) : Operand → Option AV
  | .tmp t => look t S.tm
  | .const v => some (conAV v)
  | .func f => some (.one (.con (.func (.func f) #[] #[])))
  | .global g => some (.one (.con (.pointer (some ⟨g, 0, none⟩))))
theorem av_ok {c : Cx} {N O1 : Nat → Prop} {ρ : Env} {S : St} {a : Act} {w : World} (h : Conc c N O1 ρ S a w) {x : Operand} {y : AV} (hx : av S x = some y) : Den ρ y (a.eval x) := by
  cases x with
  | tmp t =>
    obtain ⟨v, hv, ht⟩ := h.tm t y hx
    simpa [Act.eval, ht] using hv
  | const v => simp [av] at hx; subst hx; exact den_con ρ v
  | func f => simp [av] at hx; subst hx; rfl
  | global g => simp [av] at hx; subst hx; rfl

/-- the single value of an operand, if it is one -/
def cv (S : St) (x : Operand) : Option Value :=
  match av S x with
  | some (.one (.con v)) => some v
  | _ => none
theorem cv_ok {c : Cx} {N O1 : Nat → Prop} {ρ : Env} {S : St} {a : Act} {w : World} (h : Conc c N O1 ρ S a w) {x : Operand} {v : Value} (hx : cv S x = some v) : a.eval x = v := by
  unfold cv at hx
  split at hx
  · next hy =>
    have := av_ok h hy
    simp [Den, den1] at this
    simp at hx
    rw [← this, hx]
  · simp at hx

def inK (k : IntKind) (n : Int) : Prop :=
  match k with
  | .i8 => -128 ≤ n ∧ n ≤ 127
  | .i16 => -32768 ≤ n ∧ n ≤ 32767
  | .i32 => -2147483648 ≤ n ∧ n ≤ 2147483647
  | .i64 => -9223372036854775808 ≤ n ∧ n ≤ 9223372036854775807
  | .u8 => 0 ≤ n ∧ n ≤ 255
  | .u16 => 0 ≤ n ∧ n ≤ 65535
  | .u32 => 0 ≤ n ∧ n ≤ 4294967295
  | .u64 => 0 ≤ n ∧ n ≤ 18446744073709551615
theorem wrap_in {k : IntKind} {n : Int} (h : inK k n) : k.wrap n = n := by
  cases k <;> simp only [inK] at h <;> (simp [IntKind.wrap, IntKind.bits, IntKind.signed]; try omega)

def kc : IntKind → Nat
  | .i8 => 0 | .i16 => 1 | .i32 => 2 | .i64 => 3 | .u8 => 4 | .u16 => 5 | .u32 => 6 | .u64 => 7
def kb (a b : IntKind) : Bool := nb (kc a) (kc b)
theorem kb_eq {a b : IntKind} (h : kb a b = true) : a = b := by
  have := eq_of_nb h
  cases a <;> cases b <;> simp [kc] at this <;> rfl

/-- one of two ways, by a bool -/
def bsp (b : Bool) (p q : Prop) : Prop := match b with | true => p | false => q
theorem bsp_t (p q : Prop) : bsp true p q = p := rfl
theorem bsp_f (p q : Prop) : bsp false p q = q := rfl
theorem bsp_iff (b : Bool) (p q : Prop) : bsp b p q = ((b = true → p) ∧ (b = false → q)) := by cases b <;> simp [bsp]

def abinI (op : BinOp) (k : IntKind) (a b : Int) (K : Value → Prop) : Prop :=
  match op with
  | .add => inK k (a + b) ∧ K (.int k (a + b))
  | .sub => inK k (a - b) ∧ K (.int k (a - b))
  | .mul => inK k (a * b) ∧ K (.int k (a * b))
  | .quo => b ≠ 0 ∧ inK k (a.tdiv b) ∧ K (.int k (a.tdiv b))
  | .rem => b ≠ 0 ∧ K (.int k (a.tmod b))
  | .eql => K (.bool (decide (a = b)))
  | .neq => K (.bool (decide (a ≠ b)))
  | .lss => K (.bool (decide (a < b)))
  | .leq => K (.bool (decide (a ≤ b)))
  | .gtr => K (.bool (decide (b < a)))
  | .geq => K (.bool (decide (b ≤ a)))
  | _ => False
def abinS (op : BinOp) (a b : ByteArray) (K : Value → Prop) : Prop :=
  match op with
  | .add => a.size + b.size ≤ 9223372036854775807 ∧ K (.string (a ++ b))
  | .eql => K (.bool (decide (a = b)))
  | .neq => K (.bool (decide (a ≠ b)))
  | _ => False
def abinB (op : BinOp) (a b : Bool) (K : Value → Prop) : Prop :=
  match op with
  | .eql => K (.bool (a == b))
  | .neq => K (.bool (a != b))
  | _ => False
def isBoolK : Option TI → Bool
  | some ⟨.bool, _, _⟩ => true
  | _ => false
def abin (C : Ctx) (op : BinOp) (t : TypeId) (x y : Value) (K : Value → Prop) : Prop :=
  match x, y with
  | .int k a, .int k' b => bif kb k k' then abinI op k a b K else False
  | .string a, .string b => abinS op a b K
  | .bool a, .bool b => bif isBoolK (look t C.ty) then abinB op a b K else False
  | _, _ => False

theorem eqGuard_run (P : Program) (w : World) (op : BinOp) (t : TypeId) (x y : Operand) (a b : Value) (h : ¬ (a = .nilIface ∧ b = .nilIface)) (h' : ¬ ∃ xs ys, a = .agg xs ∧ b = .agg ys) :
    (eqGuard op t x y a b).run P w = .ok () w := by
  unfold eqGuard
  split <;> first | rfl | (cases a <;> cases b <;> first | rfl | (exact absurd ⟨rfl, rfl⟩ h) | (exact absurd ⟨_, _, rfl, rfl⟩ h'))

theorem ba_eq (a b : ByteArray) : (a.toList == b.toList) = decide (a = b) := by
  rw [Bool.eq_iff_iff]
  simp only [beq_iff_eq, decide_eq_true_eq]
  exact ⟨fun h => by cases a; cases b; simpa [ByteArray.toList_eq] using h, fun h => by rw [h]⟩
theorem equalIn_bool {P : Program} {t : TypeId} (hu : P.underlying t = some .bool) (d : Nat) (a b : Bool) (w : World) : (Op.equalIn (d + 1) t (.bool a) (.bool b)).run P w = .ok (a == b) w := by
  simp [Op.equalIn, run_underlying hu]
theorem equal_bool {P : Program} {t : TypeId} (hu : P.underlying t = some .bool) (a b : Bool) (w : World) : (Op.equal t (.bool a) (.bool b)).run P w = .ok (a == b) w :=
  equalIn_bool hu 9999 a b w

theorem abin_ok {C : Ctx} {c : Cx} (hC : CtxOk C c) {op : BinOp} {t : TypeId} {x y : Value} {K : Value → Prop} (h : abin C op t x y K) :
    ∃ v, (∀ w ox oy, (do eqGuard op t ox oy x y; binOp op t x y : Sem Value).run c.P w = .ok v w) ∧ K v := by
  unfold abin at h
  split at h
  · next k a k' b =>
    cases hk : kb k k' with
    | false => rw [hk] at h; exact h.elim
    | true =>
      rw [hk] at h
      simp only [cond_true] at h
      cases kb_eq hk
      have g : ∀ w ox oy, (do eqGuard op t ox oy (.int k a) (.int k b); binOp op t (.int k a) (.int k b) : Sem Value).run c.P w = (binOp op t (.int k a) (.int k b)).run c.P w := fun w ox oy => by
        simp [eqGuard_run c.P w op t ox oy (.int k a) (.int k b) (by simp) (by simp)]
      unfold abinI at h
      cases op <;> simp only at h
      case add => exact ⟨_, fun w ox oy => by rw [g]; simp [binOp, Op.intArith, wrap_in h.1], h.2⟩
      case sub => exact ⟨_, fun w ox oy => by rw [g]; simp [binOp, Op.intArith, wrap_in h.1], h.2⟩
      case mul => exact ⟨_, fun w ox oy => by rw [g]; simp [binOp, Op.intArith, wrap_in h.1], h.2⟩
      case quo => exact ⟨_, fun w ox oy => by rw [g]; simp [binOp, Op.intDiv, h.1, wrap_in h.2.1], h.2.2⟩
      case rem => exact ⟨_, fun w ox oy => by rw [g]; simp [binOp, Op.intDiv, h.1], h.2⟩
      case eql => exact ⟨_, fun w ox oy => by rw [g]; simp [binOp, Op.intCmp]; rfl, h⟩
      case neq => exact ⟨_, fun w ox oy => by rw [g]; simp [binOp, Op.intCmp]; rfl, h⟩
      case lss => exact ⟨_, fun w ox oy => by rw [g]; simp [binOp, Op.intCmp], h⟩
      case leq => exact ⟨_, fun w ox oy => by rw [g]; simp [binOp, Op.intCmp], h⟩
      case gtr => exact ⟨_, fun w ox oy => by rw [g]; simp [binOp, Op.intCmp], h⟩
      case geq => exact ⟨_, fun w ox oy => by rw [g]; simp [binOp, Op.intCmp], h⟩
  · next a b =>
    have g : ∀ w ox oy, (do eqGuard op t ox oy (.string a) (.string b); binOp op t (.string a) (.string b) : Sem Value).run c.P w = (binOp op t (.string a) (.string b)).run c.P w := fun w ox oy => by
      simp [eqGuard_run c.P w op t ox oy (.string a) (.string b) (by simp) (by simp)]
    unfold abinS at h
    cases op <;> simp only at h
    case add => exact ⟨_, fun w ox oy => by
      rw [g]
      have : ¬ ((a.size + b.size : Nat) : Int) > IntKind.i64.max := by have := h.1; simp [IntKind.max, IntKind.signed, IntKind.bits]; omega
      simp only [binOp, Op.stringOp, this, if_false]; rfl, h.2⟩
    case eql => exact ⟨_, fun w ox oy => by rw [g]; simp only [binOp, Op.stringOp, ba_eq]; rfl, h⟩
    case neq => exact ⟨_, fun w ox oy => by rw [g]; simp only [binOp, Op.stringOp, ba_eq]; simp, h⟩
  · next a b =>
    cases hk : isBoolK (look t C.ty) with
    | false => rw [hk] at h; exact h.elim
    | true =>
      rw [hk] at h
      simp only [cond_true] at h
      have hu : c.P.underlying t = some .bool := by
        unfold isBoolK at hk
        split at hk
        · next hl => have := (hC.ty t _ hl).fits; rw [hC.P]; exact this
        · simp at hk
      have g : ∀ w ox oy, (do eqGuard op t ox oy (.bool a) (.bool b); binOp op t (.bool a) (.bool b) : Sem Value).run c.P w = (binOp op t (.bool a) (.bool b)).run c.P w := fun w ox oy => by
        simp [eqGuard_run c.P w op t ox oy (.bool a) (.bool b) (by simp) (by simp)]
      unfold abinB at h
      cases op <;> simp only at h
      case eql => exact ⟨_, fun w ox oy => by rw [g]; simp [binOp, equal_bool hu], h⟩
      case neq => exact ⟨_, fun w ox oy => by rw [g]; simp [binOp, equal_bool hu]; cases a <;> cases b <;> rfl, h⟩
  · exact h.elim

/-- moves, choices, arithmetic, conversions, parts -/
def aMove (S : St) (x : Operand) (K : Dl → Prop) : Prop := match av S x with | some y => K ⟨y, []⟩ | none => False
theorem aMove_ok {c : Cx} {S : St} {i0 : Nat} {o : Oper} {x : Operand} {K : Dl → Prop} (ho : o.op = .move x ∨ o.op = .assign x) (h : aMove S x K) : ∃ δ, OpOk c S i0 o δ ∧ K δ := by
  unfold aMove at h
  split at h
  · next y hy =>
    refine ⟨_, ok_pure fun N O1 ρ a w hc => ⟨_, av_ok hc hy, ?_⟩, h⟩
    rcases ho with ho | ho <;> simp [execOp, ho]
  · exact h.elim

def aPick (S : St) (b x y : Operand) (K : Dl → Prop) : Prop :=
  match cv S b with
  | some (.bool b) => bsp b (aMove S x K) (aMove S y K)
  | _ => False
theorem aPick_ok {c : Cx} {S : St} {i0 : Nat} {o : Oper} {b x y : Operand} {K : Dl → Prop} (ho : o.op = .pick b x y) (h : aPick S b x y K) : ∃ δ, OpOk c S i0 o δ ∧ K δ := by
  unfold aPick at h
  split at h
  · next b' hb =>
    cases b' with
    | true =>
      simp only [bsp_t, aMove] at h
      split at h
      · next y hy =>
        refine ⟨_, ok_pure fun N O1 ρ a w hc => ⟨_, av_ok hc hy, ?_⟩, h⟩
        simp [execOp, ho, cv_ok hc hb, asBool]
      · exact h.elim
    | false =>
      simp only [bsp_f, aMove] at h
      split at h
      · next y hy =>
        refine ⟨_, ok_pure fun N O1 ρ a w hc => ⟨_, av_ok hc hy, ?_⟩, h⟩
        simp [execOp, ho, cv_ok hc hb, asBool]
      · exact h.elim
  · exact h.elim

def K1 (K : Dl → Prop) (v : Value) : Prop := K ⟨.one (.con v), []⟩
def aBin (C : Ctx) (S : St) (op : BinOp) (t : TypeId) (x y : Operand) (K : Dl → Prop) : Prop :=
  match cv S x, cv S y with
  | some a, some b => abin C op t a b (K1 K)
  | _, _ => False
theorem aBin_ok {C : Ctx} {c : Cx} (hC : CtxOk C c) {S : St} {i0 : Nat} {o : Oper} {op : BinOp} {t u : TypeId} {x y : Operand} {K : Dl → Prop} (ho : o.op = .binOp op t x y u) (h : aBin C S op t x y K) : ∃ δ, OpOk c S i0 o δ ∧ K δ := by
  unfold aBin at h
  split at h
  · next a b ha hb =>
    obtain ⟨v, hv, hk⟩ := abin_ok hC h
    refine ⟨_, ok_con fun N O1 ρ a w hc => ?_, hk⟩
    have := hv w x y
    simp only [execOp, ho, cv_ok hc ha, cv_ok hc hb, Sem.run_bind, this]
    rfl
  · exact h.elim

def aUn (S : St) (op : UnOp) (x : Operand) (K : Dl → Prop) : Prop :=
  match op, cv S x with
  | .not, some (.bool b) => K1 K (.bool (!b))
  | .neg, some (.int k n) => inK k (0 - n) ∧ K1 K (.int k (0 - n))
  | _, _ => False
theorem aUn_ok {c : Cx} {S : St} {i0 : Nat} {o : Oper} {op : UnOp} {t : TypeId} {x : Operand} {K : Dl → Prop} (ho : o.op = .unOp op t x) (h : aUn S op x K) : ∃ δ, OpOk c S i0 o δ ∧ K δ := by
  unfold aUn at h
  split at h
  · next b hb =>
    exact ⟨_, ok_con (fun N O1 ρ a w hc => by simp [execOp, ho, cv_ok hc hb, Op.unary]), h⟩
  · next k n hb =>
    exact ⟨_, ok_con (fun N O1 ρ a w hc => by simp [execOp, ho, cv_ok hc hb, Op.unary, Op.intArith]; have := wrap_in h.1; simpa using this), h.2⟩
  · exact h.elim

def aConv (C : Ctx) (S : St) (src dst : TypeId) (x : Operand) (K : Dl → Prop) : Prop :=
  match look src C.ty, look dst C.ty, cv S x with
  | some ⟨.int _, _, _⟩, some ⟨.int k, _, _⟩, some (.int _ n) => inK k n ∧ K1 K (.int k n)
  | some ⟨.str, _, _⟩, some ⟨.str, _, _⟩, some (.string s) => K1 K (.string s)
  | _, _, _ => False
theorem aConv_ok {C : Ctx} {c : Cx} (hC : CtxOk C c) {S : St} {i0 : Nat} {o : Oper} {src dst : TypeId} {x : Operand} {K : Dl → Prop} (ho : o.op = .convert src dst x) (h : aConv C S src dst x K) : ∃ δ, OpOk c S i0 o δ ∧ K δ := by
  unfold aConv at h
  split at h
  · next k' _ _ k _ _ k2 n h1 h2 h3 =>
    have f1 := (hC.ty _ _ h1).fits
    have f2 := (hC.ty _ _ h2).fits
    rw [← hC.P] at f1 f2
    simp only [TK.fits] at f1 f2
    exact ⟨_, ok_con (fun N O1 ρ a w hc => by simp [execOp, ho, cv_ok hc h3, convert, run_underlying f1, run_underlying f2, Conv.intToInt, wrap_in h.1]), h.2⟩
  · next s h1 h2 h3 =>
    have f1 := (hC.ty _ _ h1).fits
    have f2 := (hC.ty _ _ h2).fits
    rw [← hC.P] at f1 f2
    simp only [TK.fits] at f1 f2
    exact ⟨_, ok_con (fun N O1 ρ a w hc => by simp [execOp, ho, cv_ok hc h3, convert, run_underlying f1, run_underlying f2]), h⟩
  · exact h.elim

def comp : Bool × List A1 → Option AV
  | (true, l) => some (.agg l)
  | (false, [x]) => some (.one x)
  | _ => none
def aExt (S : St) (x : Operand) (i : Nat) (K : Dl → Prop) : Prop :=
  match av S x with
  | some (.tup l) => (match (l[i]?).bind comp with | some y => K ⟨y, []⟩ | none => False)
  | _ => False
theorem DenT.get {ρ : Env} : ∀ {l : List (Bool × List A1)} {vs : List Value} {i : Nat} {x : Bool × List A1}, DenT ρ l vs → l[i]? = some x → ∃ v, DenC ρ x v ∧ vs[i]? = some v
  | [], _, i, _, _, hx => by simp at hx
  | _ :: _, _, 0, _, h, hx => by obtain ⟨v, us, rfl, h1, h2⟩ := h; simp at hx; subst hx; exact ⟨v, h1, rfl⟩
  | _ :: _, _, i + 1, _, h, hx => by obtain ⟨v, us, rfl, h1, h2⟩ := h; simpa using h2.get (by simpa using hx)
theorem comp_ok {ρ : Env} {x : Bool × List A1} {y : AV} {v : Value} (h : comp x = some y) (hd : DenC ρ x v) : Den ρ y v := by
  unfold comp at h
  obtain ⟨vs, h1, h2⟩ := hd
  split at h
  · cases h
    rcases h2 with h2 | h2
    · exact ⟨vs, h1, h2.2⟩
    · simp at h2
  · cases h
    rcases h2 with h2 | h2
    · simp at h2
    · obtain ⟨u, us, rfl, h3, h4⟩ := h1
      simp at h2
      obtain ⟨rfl, _⟩ := h2
      exact h3
  · cases h
theorem aExt_ok {c : Cx} {S : St} {i0 : Nat} {o : Oper} {x : Operand} {i : Nat} {K : Dl → Prop} (ho : o.op = .extract x i) (h : aExt S x i K) : ∃ δ, OpOk c S i0 o δ ∧ K δ := by
  unfold aExt at h
  split at h
  · next l hx =>
    split at h
    · next y hy =>
      refine ⟨_, ok_pure fun N O1 ρ a w hc => ?_, h⟩
      obtain ⟨vs, hd, he⟩ := av_ok hc hx
      obtain ⟨z, hz, hzy⟩ := Option.bind_eq_some_iff.1 hy
      obtain ⟨v, hv, hg⟩ := hd.get hz
      exact ⟨v, comp_ok hzy hv, by simp [execOp, ho, he, Instr.extract, hg]⟩
    · exact h.elim
  · exact h.elim
end Go.Proofs.Ytghfpidpefdndaa
