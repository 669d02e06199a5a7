/-
  The abstract machine: maps of one's own whose keys are strings or integers.
  The abstract machine: the text of a slice of bytes.
-/
import Derived.Test.YtgbfcjnkohhfoaaAb12
import Derived.MapKept
import Derived.Laws.BytesArg
namespace Go.Proofs.Ytgbfcjnkohhfoaa
open Go.RowKit

def isKeyT : TC → Bool
  | .s => true
  | .i _ => true
  | _ => false
def keyEq : (t : TC) → t.D → t.D → Bool
  | .s, a, b => decide ((a : ByteArray) = b)
  | .i _, a, b => decide ((a : Int) = b)
  | _, _, _ => false
def mget {V : Type} (t : TC) (k : t.D) : List (t.D × V) → Option V
  | [] => none
  | p :: m => match keyEq t k p.1 with | true => some p.2 | false => mget t k m
def mset {V : Type} (t : TC) (k : t.D) (v : V) : List (t.D × V) → List (t.D × V)
  | [] => [(k, v)]
  | p :: m => match keyEq t k p.1 with | true => (k, v) :: m | false => p :: mset t k v m

theorem bb_eq (a b : ByteArray) : (a == b) = decide (a = b) := by rw [Bool.eq_iff_iff, MapKept.bytes_beq]; simp
/-- what a key's type is -/
def keyFits (P : Program) (kt : TypeId) : TC → Prop
  | .s => P.underlying kt = some .string
  | .i k => P.underlying kt = some (.int k)
  | _ => False
theorem sameNow_ok {P : Program} {kt : TypeId} {tk : TC} (hf : keyFits P kt tk) {O : Nat → Prop} {w : World} {a b : Value} {x y : tk.D} (ha : Rep False O w tk [a] x) (hb : Rep False O w tk [b] y) :
    ∃ d, P.underlying kt = some d ∧ Instr.sameNow d a b = some (keyEq tk x y) := by
  cases tk <;> simp only [keyFits] at hf
  case s =>
    simp only [Rep, List.cons.injEq, and_true] at ha hb
    subst ha; subst hb
    exact ⟨_, hf, by simp only [Instr.sameNow, keyEq]; rw [bb_eq]⟩
  case i k =>
    simp only [Rep, List.cons.injEq, and_true] at ha hb
    subst ha; subst hb
    exact ⟨_, hf, by simp only [Instr.sameNow, keyEq, if_true]; rfl⟩
theorem keyEq_val {P : Program} {kt : TypeId} {tk : TC} (hf : keyFits P kt tk) {O : Nat → Prop} {w : World} {a b : Value} {x y : tk.D} (ha : Rep False O w tk [a] x) (hb : Rep False O w tk [b] y) (h : keyEq tk x y = true) : b = a ∧ Instr.sameBits 10000 b a = true := by
  cases tk <;> simp only [keyFits] at hf
  case s =>
    simp only [Rep, List.cons.injEq, and_true] at ha hb
    subst ha; subst hb
    simp only [keyEq, decide_eq_true_eq] at h
    subst h
    exact ⟨rfl, by simp only [Instr.sameBits]; rw [bb_eq]; simp⟩
  case i k =>
    simp only [Rep, List.cons.injEq, and_true] at ha hb
    subst ha; subst hb
    simp only [keyEq, decide_eq_true_eq] at h
    subst h
    exact ⟨rfl, by simp [Instr.sameBits]⟩

theorem findNow_ok {P : Program} {kt : TypeId} {d : TypeDesc} {tk tv : TC} (hf : keyFits P kt tk) (hd : P.underlying kt = some d) {O : Nat → Prop} {w : World} {g : Bool} {kv : Value} {k : tk.D} (hk : Rep False O w tk [kv] k) :
    ∀ (es : List MapEntry) (m : List (tk.D × tv.D)) (i : Nat), MapOk O w g tk tv es m →
      (Instr.findNow d kv es i = some none ∧ mget tk k m = none ∧ ∀ v' us y c, ValC g us v' → Rep False O w tv us y → MapOk O w g tk tv (es ++ [{ key := kv, val := v', born := c }]) (mset tk k y m)) ∨
      ∃ j e x, Instr.findNow d kv es i = some (some (i + j, e.val)) ∧ es[j]? = some e ∧ e.key = kv ∧ Instr.sameBits 10000 e.key kv = true ∧ mget tk k m = some x ∧ (∃ us, ValC g us e.val ∧ Rep False O w tv us x) ∧
        ∀ v' us y, ValC g us v' → Rep False O w tv us y → MapOk O w g tk tv (es.modify j fun e => { e with key := kv, val := v' }) (mset tk k y m)
  | [], m, i, h => by
    cases h
    exact .inl ⟨rfl, rfl, fun v' us y c hv hr => ⟨(k, y), [], rfl, hk, ⟨us, hv, hr⟩, rfl⟩⟩
  | e :: es, m, i, h => by
    obtain ⟨p, m', rfl, h1, ⟨us, h2, h3⟩, h4⟩ := h
    obtain ⟨d', hd', hs⟩ := sameNow_ok hf hk h1
    rw [hd] at hd'; cases hd'
    cases hb : keyEq tk k p.1 with
    | true =>
      rw [hb] at hs
      obtain ⟨e1, e2⟩ := keyEq_val hf hk h1 hb
      refine .inr ⟨0, e, p.2, by simp [Instr.findNow, hs], rfl, e1, e2, by simp [mget, hb], ⟨us, h2, h3⟩, fun v' us' y hv hr => ?_⟩
      simp only [List.modify_zero_cons, mset, hb]
      exact ⟨(k, y), m', rfl, hk, ⟨us', hv, hr⟩, h4⟩
    | false =>
      rw [hb] at hs
      rcases findNow_ok hf hd hk es m' (i + 1) h4 with ⟨a1, a2, a3⟩ | ⟨j, e', x, a1, a2, a3, a3', a4, a5, a6⟩
      · refine .inl ⟨by simp [Instr.findNow, hs, a1], by simp [mget, hb, a2], fun v' us' y c hv hr => ?_⟩
        simp only [List.cons_append, mset, hb]
        exact ⟨p, _, rfl, h1, ⟨us, h2, h3⟩, a3 v' us' y c hv hr⟩
      · refine .inr ⟨j + 1, e', x, by simp [Instr.findNow, hs, a1]; omega, by simpa using a2, a3, a3', by simp [mget, hb, a4], a5, fun v' us' y hv hr => ?_⟩
        simp only [List.modify_succ_cons, mset, hb]
        exact ⟨p, _, rfl, h1, ⟨us, h2, h3⟩, a6 v' us' y hv hr⟩

theorem checkKey_suc {P : Program} {kt : TypeId} {tk : TC} (hf : keyFits P kt tk) (em : Bool) (n : Nat) (v : Value) (w : World) : (Instr.checkKey em (n + 1) kt v).run P w = .ok () w := by
  cases tk <;> simp only [keyFits] at hf <;> simp [Instr.checkKey, run_underlying hf]
theorem checkKey_ok {P : Program} {kt : TypeId} {tk : TC} (hf : keyFits P kt tk) (em : Bool) (v : Value) (w : World) : (Instr.checkKey em 10000 kt v).run P w = .ok () w :=
  checkKey_suc hf em 9999 v w
theorem findKey_ok {P : Program} {kt : TypeId} {d : TypeDesc} (hd : P.underlying kt = some d) {kv : Value} {es : List MapEntry} {r : Option (Nat × Value)} (h : Instr.findNow d kv es 0 = some r) (w : World) : (Instr.findKey kt kv es).run P w = .ok r w := by
  simp [Instr.findKey, run_underlying hd, h]
theorem keyFits_und {P : Program} {kt : TypeId} {tk : TC} (hf : keyFits P kt tk) : ∃ d, P.underlying kt = some d := by
  cases tk <;> simp only [keyFits] at hf <;> exact ⟨_, hf⟩

/-- a type's kind and its data's code agree -/
def kindTC : TK → TC → Bool
  | .int k, .i k' => kb k k'
  | .str, .s => true
  | _, _ => false
theorem kindTC_ok {P : Program} {kt : TypeId} {k : TK} {tk : TC} (h : kindTC k tk = true) (hf : k.fits P kt) : keyFits P kt tk := by
  unfold kindTC at h
  split at h
  · cases kb_eq h; exact hf
  · exact hf
  · cases h
/-- a map's type: the zero value's data -/
def mapTy (C : Ctx) (t : TypeId) (g : Bool) (tk tv : TC) : Option tv.D :=
  match look t C.ty with
  | some ⟨.map kt vt, _, _⟩ => (match look kt C.ty, look vt C.ty with
    | some tik, some ti => (bif kindTC tik.kind tk && (nb tv.nsl 0 && (eqb g (isSt ti) && (ti.okz && nb ti.z.length tv.n))) then
        (match cls [] tv (ti.z.map A1.con) with | some y => some y.1 | none => none) else none)
    | _, _ => none)
  | _ => none
theorem mapTy_ok [B : Base] {C : Ctx} {c : Cx} (hC : CtxOk C c) {t : TypeId} {g : Bool} {tk tv : TC} {z : tv.D} (h : mapTy C t g tk tv = some z) :
    ∃ kt vt zv us, c.P.underlying t = some (.map kt vt) ∧ keyFits c.P kt tk ∧ tv.nsl = 0 ∧ (∀ w, (zeroValue vt).run c.P w = .ok zv w) ∧ ValC g us zv ∧ ∀ O w, Rep False O w tv us z := by
  unfold mapTy at h
  split at h
  · next kt vt z' tc' ht =>
    split at h
    · next tik ti hk hv =>
      cases hb : kindTC tik.kind tk && (nb tv.nsl 0 && (eqb g (isSt ti) && (ti.okz && nb ti.z.length tv.n))) with
      | false => rw [hb] at h; cases h
      | true =>
        rw [hb] at h
        simp only [Bool.and_eq_true] at hb
        simp only [cond_true] at h
        obtain ⟨b1, b2, b3, b4, b5⟩ := hb
        split at h
        · next y hy =>
          simp only [Option.some.injEq] at h
          subst h
          have hP := (hC.ty t _ ht).fits
          have hKt := (hC.ty kt _ hk).fits
          have hV := hC.ty vt _ hv
          rw [← hC.P] at hP hKt hV
          simp only [TK.fits] at hP
          have hns := eq_of_nb b2
          refine ⟨kt, vt, ti.zv, ti.z, hP, kindTC_ok b1 hKt, hns, fun w => hV.zero w, ?_, fun O w => ?_⟩
          · have hg := eqb_eq b3
            unfold TI.zv
            unfold isSt at hg
            unfold TI.okz isSt at b4
            cases hkk : ti.kind <;> rw [hkk] at hg b4 <;> simp only at hg
            case st fs => exact .inl ⟨hg, rfl⟩
            all_goals
              refine .inr ⟨hg, ?_⟩
              simp only [Bool.and_eq_true, Bool.or_eq_true, Bool.false_eq_true, false_or] at b4
              have h1 := eq_of_nb b4.2
              match hz : ti.z, h1 with
              | [x], _ => rfl
          · have hx0r := cls_ok (c := c) (O1 := fun _ => False) (ρ := fun _ => none) (w := w) (en := []) (fun k e he => by simp [look] at he) tv _ ti.z y.1 y.2 (conl_den _ _) hy
            exact hx0r.flat hns
        · cases h
    · cases h
  · cases h

def aMakeMap (C : Ctx) (i0 : Nat) (t : TypeId) (K : Dl → Prop) : Prop :=
  match look t C.ty with
  | some ⟨.map kt vt, _, _⟩ => (match look kt C.ty, look vt C.ty with
    | some tik, some ti => (match mapTy C t (isSt ti) tik.tc ti.tc with
      | some _ => K ⟨.one (.ref i0), [(i0, .mp (isSt ti) tik.tc ti.tc [])]⟩
      | none => False)
    | _, _ => False)
  | _ => False
theorem aMakeMap_ok [_B : Base] {C : Ctx} {c : Cx} (_ : CtxOk C c) {S : St} {i0 : Nat} {o : Oper} {t : TypeId} {K : Dl → Prop} (ho : o.op = .makeMap t none) (h : aMakeMap C i0 t K) : ∃ δ, OpOk c S i0 o δ ∧ K δ := by
  unfold aMakeMap at h
  split at h
  · split at h
    · next tik ti hk hv =>
      split at h
      · refine ⟨_, ok_alloc fun N O1 ρ a w hc hf => ?_, h⟩
        refine ⟨.map (some w.heap.size), .map #[] 0, rfl, by simp [blkOf], ?_, w.heap.size, #[], 0, by simp, .inr rfl, heap_alloc_new w _, rfl⟩
        simp [execOp, ho, Instr.makeMap]
      · exact h.elim
    · exact h.elim
  · exact h.elim

def aLook (C : Ctx) (S : St) (t : TypeId) (x y : Operand) (ok : Bool) (K : Dl → Prop) : Prop :=
  match av S x, (av S y).bind (argC false) with
  | some (.one (.ref k)), some l => (match look k S.en with
    | some (.mp g tk tv m) => (match mapTy C t g tk tv, cls S.en tk l with
      | some z, some kd => (match ok with
        | true => K ⟨.tup [(g, (opn tv ((mget tk kd.1 m).getD z) true 0).1), (false, [.con (.bool (mget tk kd.1 m).isSome)])], []⟩
        | false => (match comp (g, (opn tv ((mget tk kd.1 m).getD z) true 0).1) with | some v => K ⟨v, []⟩ | none => False))
      | _, _ => False)
    | _ => False)
  | _, _ => False
def aMapSet (C : Ctx) (S : St) (t : TypeId) (x y v : Operand) (K : Dl → Prop) : Prop :=
  match av S x, (av S y).bind (argC false) with
  | some (.one (.ref k)), some l => (match look k S.en with
    | some (.mp g tk tv m) => (match mapTy C t g tk tv, cls S.en tk l, ((av S v).bind (argC g)).bind (cls S.en tv) with
      | some _, some kd, some vd => K ⟨.one (.con undef), [(k, .mp g tk tv (mset tk kd.1 vd.1 m))]⟩
      | _, _, _ => False)
    | _ => False)
  | _, _ => False

theorem flat_den {fr : Bool} : ∀ {t : TC} {O : Nat → Prop} {w : World} {us : List Value} {x : t.D} {ρ : Env}, t.nsl = 0 → Rep False O w t us x → DenL ρ (opn t x fr 0).1 us := by
  have : ∀ {t : TC} {O : Nat → Prop} {w : World} {us : List Value} {x : t.D} {ρ : Env} (id : Nat), t.nsl = 0 → Rep False O w t us x → DenL ρ (opn t x fr id).1 us := by
    intro t
    induction t with
    | i k => intro O w us x ρ id _ h; cases h; exact ⟨_, [], rfl, rfl, rfl⟩
    | b => intro O w us x ρ id _ h; cases h; exact ⟨_, [], rfl, rfl, rfl⟩
    | s => intro O w us x ρ id _ h; cases h; exact ⟨_, [], rfl, rfl, rfl⟩
    | sl t _ => intro O w us x ρ id hn; simp [TC.nsl] at hn
    | pr t u iht ihu =>
      intro O w us x ρ id hn h
      simp only [TC.nsl] at hn
      obtain ⟨a, b, rfl, h1, h2⟩ := h
      exact (iht _ (by omega) h1).append (ihu _ (by omega) h2)
    | tw t u iht ihu => intro O w us x ρ id hn; simp [TC.nsl] at hn
  intro t O w us x ρ; exact this 0
theorem key_rep {c : Cx} {N O1 : Nat → Prop} {ρ : Env} {S : St} {a : Act} {w : World} (h : Conc c N O1 ρ S a w) {y : Operand} {l : List A1} {tk : TC} {kd : tk.D × Bool} (hy : (av S y).bind (argC false) = some l) (hk : cls S.en tk l = some kd) : Rep (zs c kd.2) (offs c O1 kd.2) w tk [a.eval y] kd.1 := by
  obtain ⟨z, hz, hg⟩ := Option.bind_eq_some_iff.1 hy
  obtain ⟨us, hd, hv⟩ := argC_ok hg (av_ok h hz)
  rcases hv with ⟨g, _⟩ | ⟨_, rfl⟩
  · cases g
  · exact cls_ok (fun k e he => h.en k e he) _ _ _ kd.1 kd.2 hd hk
theorem keyFits_flat {P : Program} {kt : TypeId} {tk : TC} (hf : keyFits P kt tk) : tk.nsl = 0 := by
  cases tk <;> simp only [keyFits] at hf <;> rfl

theorem look_run {P : Program} {t kt vt : TypeId} {tk tv : TC} (ht : P.underlying t = some (.map kt vt)) (hf : keyFits P kt tk) {w : World} {O : Nat → Prop} {g : Bool} {b : Nat} {es : Array MapEntry} {clock : Nat} (hb : w.heap[b]? = some (.map es clock))
    {m : List (tk.D × tv.D)} (hm : MapOk O w g tk tv es.toList m) {kv zv : Value} {k : tk.D} (hk : Rep False O w tk [kv] k) {z : tv.D} {uz : List Value} (hz : (zeroValue vt).run P w = .ok zv w) (hv : ValC g uz zv) (hr : Rep False O w tv uz z) (ok : Bool) :
    ∃ v us, (Instr.lookup t (.map (some b)) kv ok).run P w = .ok (if ok then .tuple #[v, .bool (mget tk k m).isSome] else v) w ∧ ValC g us v ∧ Rep False O w tv us ((mget tk k m).getD z) := by
  obtain ⟨d, hd⟩ := keyFits_und hf
  rcases findNow_ok hf hd hk es.toList m 0 hm with ⟨a1, a2, _⟩ | ⟨j, e, x, a1, _, _, _, a4, ⟨us, a5, a6⟩, _⟩
  · refine ⟨zv, uz, ?_, hv, by rw [a2]; exact hr⟩
    rw [a2]
    simp [Instr.lookup, run_underlying ht, MapKept.run_getObj_map hb, checkKey_ok hf, findKey_ok hd a1, hz]
  · refine ⟨e.val, us, ?_, a5, by rw [a4]; exact a6⟩
    rw [a4]
    simp [Instr.lookup, run_underlying ht, MapKept.run_getObj_map hb, checkKey_ok hf, findKey_ok hd a1]

theorem aLook_ok [B : Base] {C : Ctx} {c : Cx} (hC : CtxOk C c) {S : St} {i0 : Nat} {o : Oper} {t : TypeId} {x y : Operand} {ok : Bool} {K : Dl → Prop} (ho : o.op = .lookup t x y ok) (h : aLook C S t x y ok K) : ∃ δ, OpOk c S i0 o δ ∧ K δ := by
  unfold aLook at h
  split at h
  · next k l hx hy =>
    split at h
    · next g tk tv m hl =>
      split at h
      · next z kd hz hk =>
        obtain ⟨kt, vt, zv, uz, e1, e2, e3, e4, e5, e6⟩ := mapTy_ok hC hz
        have key : ∀ N O1 ρ a w, Conc c N O1 ρ S a w → ∃ v us, (execOp a.eval o).run c.P w = .ok (.value (if ok then .tuple #[v, .bool (mget tk kd.1 m).isSome] else v)) w ∧ ValC g us v ∧ DenL ρ (opn tv ((mget tk kd.1 m).getD z) true 0).1 us := by
          intro N O1 ρ a w hc
          obtain ⟨b, es, cl, h1, h2, h3, h4⟩ := hc.en k _ hl
          have hxv := av_ok hc hx
          simp only [Den, den1, h1, Option.some.injEq] at hxv
          have hkr : Rep False (offs c O1 false) w tk [a.eval y] kd.1 := (key_rep hc hy hk).flat (keyFits_flat e2)
          obtain ⟨v, us, r1, r2, r3⟩ := look_run e1 e2 h3 h4 hkr (e4 w) e5 (e6 _ w) ok
          exact ⟨v, us, by simp [execOp, ho, ← hxv, r1], r2, flat_den e3 r3⟩
        split at h
        · refine ⟨_, ok_pure fun N O1 ρ a w hc => ?_, h⟩
          obtain ⟨v, us, r1, r2, r3⟩ := key N O1 ρ a w hc
          exact ⟨_, ⟨[v, .bool _], ⟨v, _, rfl, ⟨us, r3, r2⟩, _, [], rfl, ⟨[.bool _], ⟨_, [], rfl, rfl, rfl⟩, .inr ⟨rfl, rfl⟩⟩, rfl⟩, rfl⟩, by simpa using r1⟩
        · split at h
          · next y' hy' =>
            refine ⟨_, ok_pure fun N O1 ρ a w hc => ?_, h⟩
            obtain ⟨v, us, r1, r2, r3⟩ := key N O1 ρ a w hc
            exact ⟨v, comp_ok hy' ⟨us, r3, r2⟩, by simpa using r1⟩
          · exact h.elim
      · exact h.elim
    · exact h.elim
  · exact h.elim

theorem put_other (w : World) (g : Nat) (o : Obj) (b : Nat) (h : b ≠ g) : ({ w with heap := w.heap.setIfInBounds g o } : World).heap[b]? = w.heap[b]? := by
  simp [Array.getElem?_setIfInBounds_ne (fun e => h e.symm)]
theorem set_run {P : Program} {t kt vt : TypeId} {tk tv : TC} (ht : P.underlying t = some (.map kt vt)) (hf : keyFits P kt tk) {w : World} {O : Nat → Prop} {g : Bool} {b : Nat} {es : Array MapEntry} {clock : Nat} (hb : w.heap[b]? = some (.map es clock))
    {m : List (tk.D × tv.D)} (hm : MapOk O w g tk tv es.toList m) {kv v : Value} {k : tk.D} (hk : Rep False O w tk [kv] k) {x : tv.D} {us : List Value} (hv : ValC g us v) (hr : Rep False O w tv us x) :
    ∃ es' clock', (Instr.mapUpdate t (.map (some b)) kv v).run P w = .ok () { w with heap := w.heap.setIfInBounds b (.map es' clock') } ∧ MapOk O w g tk tv es'.toList (mset tk k x m) := by
  obtain ⟨d, hd⟩ := keyFits_und hf
  rcases findNow_ok hf hd hk es.toList m 0 hm with ⟨a1, _, a3⟩ | ⟨j, e, y, a1, a2, a3, a3', _, _, a6⟩
  · refine ⟨es.push { key := kv, val := v, born := clock }, clock + 1, ?_, by simpa using a3 v us x clock hv hr⟩
    simp [Instr.mapUpdate, run_underlying ht, MapKept.run_getObj_map hb, checkKey_ok hf, findKey_ok hd a1, MapKept.run_setObj_map _ hb]
  · refine ⟨es.modify j fun e => { e with key := kv, val := v }, clock, ?_, by simpa using a6 v us x hv hr⟩
    have hj : es[j]? = some e := by simpa using a2
    have hkey : (Instr.keyThatStays (((es[j]?).map (·.key)).getD kv) kv).run P w = .ok kv w := by
      rw [hj]
      simp only [Option.map_some, Option.getD_some]
      unfold Instr.keyThatStays
      rw [if_pos a3']; rfl
    simp only [Nat.zero_add] at a1
    simp [Instr.mapUpdate, run_underlying ht, MapKept.run_getObj_map hb, checkKey_ok hf, findKey_ok hd a1, hkey, MapKept.run_setObj_map _ hb]

theorem aMapSet_ok [B : Base] {C : Ctx} {c : Cx} (hC : CtxOk C c) {S : St} {i0 : Nat} {o : Oper} {t : TypeId} {x y v : Operand} {K : Dl → Prop} (ho : o.op = .mapUpdate t x y v) (h : aMapSet C S t x y v K) : ∃ δ, OpOk c S i0 o δ ∧ K δ := by
  unfold aMapSet at h
  split at h
  · next k l hx hy =>
    split at h
    · next g tk tv m hl =>
      split at h
      · next z kd vd hz hk hvd =>
        obtain ⟨kt, vt, zv, uz, e1, e2, e3, e4, e5, e6⟩ := mapTy_ok hC hz
        refine ⟨_, ⟨fun k' e' he => ?_, fun N O1 ρ a w hc hf next Q hn => ?_⟩, h⟩
        · simp at he
          obtain ⟨rfl, rfl⟩ := he
          exact .inr ⟨_, hl, rfl⟩
        · obtain ⟨b, es, cl, h1, h2, h3, h4⟩ := hc.en k _ hl
          have hxv := av_ok hc hx
          simp only [Den, den1, h1, Option.some.injEq] at hxv
          have hkr : Rep False (offs c O1 false) w tk [a.eval y] kd.1 := (key_rep hc hy hk).flat (keyFits_flat e2)
          obtain ⟨l', hl', hcl⟩ := Option.bind_eq_some_iff.1 hvd
          obtain ⟨q, hq, hqg⟩ := Option.bind_eq_some_iff.1 hl'
          obtain ⟨us, hd, hvc⟩ := argC_ok hqg (av_ok hc hq)
          have hvr : Rep False (offs c O1 false) w tv us vd.1 := (cls_ok (fun k e he => hc.en k e he) _ _ _ vd.1 vd.2 hd hcl).flat e3
          obtain ⟨es', cl', r1, r2⟩ := set_run e1 e2 h3 h4 hkr hvc hvr
          unfold Oper.wp
          have : (execOp a.eval o).run c.P w = .ok .skip { w with heap := w.heap.setIfInBounds b (.map es' cl') } := by simp [execOp, ho, ← hxv, r1]
          rw [this, Oper.upon_skip]
          have hlt : b < w.heap.size := (Array.getElem?_eq_some_iff.1 h3).1
          have hnew : ({ w with heap := w.heap.setIfInBounds b (.map es' cl') } : World).heap[b]? = some (.map es' cl') := by simp [hlt]
          have oth : ∀ b', b' < w.heap.size → ¬ offs c O1 false b' → ¬ offs c O1 false b' ∧ ({ w with heap := w.heap.setIfInBounds b (.map es' cl') } : World).heap[b']? = w.heap[b']? := fun b' _ hb' => ⟨hb', put_other _ _ _ _ fun e => hb' (.inl (e ▸ h2))⟩
          refine hn O1 ρ undef _ rfl ⟨Ext.refl _, fun _ _ => rfl, hc.one, ⟨rfl, rfl, rfl, by simp, fun b' hb' hno => put_other _ _ _ _ fun e => hno ⟨e ▸ h2, k, _, _, List.mem_singleton.2 rfl, h1, by simp [blkOf, e]⟩⟩, ?_, fun b hb => .inl hb, fun b hb => .inl hb, ?_, ?_⟩
          · intro k' e' he
            have := look_mem he
            simp at this
            obtain ⟨rfl, rfl⟩ := this
            exact ⟨b, es', cl', h1, h2, hnew, r2.move oth⟩
          · intro k' e' v' b' he _ hv' hb'
            have := look_mem he
            simp at this
            obtain ⟨rfl, rfl⟩ := this
            exact .inr ⟨k', _, v', List.mem_singleton.2 rfl, hv', hb'⟩
          · intro k1 k2 e1 e2 v1 v2 b hne he1 he2
            have h1 := look_mem he1
            have h2 := look_mem he2
            simp at h1 h2
            exact absurd (h1.1.trans h2.1.symm) hne
      · exact h.elim
    · exact h.elim
  · exact h.elim
end Go.Proofs.Ytgbfcjnkohhfoaa

namespace Go.Proofs.Ytgbfcjnkohhfoaa
open Go.RowKit

def aStr (C : Ctx) (S : St) (e : TypeId) (dst : TypeId) (x : Operand) (K : Dl → Prop) : Prop :=
  match look e C.ty, look dst C.ty, (av S x).bind (dataOf S (.i .u8)) with
  | some ⟨.int .u8, _, _⟩, some ⟨.str, _, _⟩, some (xs, _) => K1 K (.string (strOfNums xs))
  | _, _, _ => False
def aConv2 (C : Ctx) (S : St) (src dst : TypeId) (x : Operand) (K : Dl → Prop) : Prop :=
  match look src C.ty with
  | some ⟨.sl e, _, _⟩ => aStr C S e dst x K
  | _ => aConv C S src dst x K

theorem dataOf_row {c : Cx} {N O1 : Nat → Prop} {ρ : Env} {S : St} {a : Act} {w : World} (h : Conc c N O1 ρ S a w) {t : TC} {y : AV} {xs : List t.D} {fr : Bool} (hy : dataOf S t y = some (xs, fr)) {v : Value} (hv : Den ρ y v) :
    ∃ ad cap, v = .slice ad xs.length cap ∧ (xs = [] ∨ ∃ b p, ad = some ⟨b, p, none⟩ ∧ ∀ (i : Nat) (x : t.D), xs[i]? = some x → ∃ us : List Value, us.length = t.n ∧ (∀ (j : Nat) (u : Value), us[j]? = some u → w.cell? ⟨b, p + i * t.n + j, none⟩ = some u) ∧ Rep False (fun _ => False) w t us x) := by
  have weak : ∀ {z : Prop} {O : Nat → Prop} {us : List Value} {x : t.D}, Rep z O w t us x → Rep False (fun _ => False) w t us x := fun h => h.move (fun h => h.elim) fun b _ _ => ⟨fun h => h, rfl⟩
  unfold dataOf at hy
  split at hy
  · next n m =>
    cases hn : nb n 0 && nb m 0 with
    | false => rw [hn] at hy; cases hy
    | true =>
      rw [hn] at hy
      simp only [cond_true, Option.some.injEq, Prod.mk.injEq] at hy
      obtain ⟨rfl, _⟩ := hy
      simp only [Bool.and_eq_true] at hn
      have e1 := eq_of_nb hn.1
      have e2 := eq_of_nb hn.2
      subst e1; subst e2
      simp only [Den, den1, Option.some.injEq] at hv
      subst hv
      exact ⟨none, 0, rfl, .inl rfl⟩
  · next k =>
    simp only [Den, den1] at hv
    split at hy
    · next e t' xs' fr' hl =>
      split at hy
      · next g _ =>
        subst g
        simp only [castD, cast_eq, Option.some.injEq, Prod.mk.injEq] at hy
        obtain ⟨rfl, _⟩ := hy
        have hr := own_rep (h.en k _ hl) hv
        obtain ⟨ad, cap, h1, _, _, h2, _, h3⟩ := hr
        simp only [List.cons.injEq, and_true] at h1
        subst h1
        by_cases hx : xs' = []
        · exact ⟨ad, cap, rfl, .inl hx⟩
        · obtain ⟨b, off, rfl, _, hc⟩ := h3.resolve_left hx
          exact ⟨_, cap, rfl, .inr ⟨b, off, rfl, hc⟩⟩
      · cases hy
    · next t' xs' fr' hl =>
      split at hy
      · next g _ =>
        subst g
        simp only [castD, cast_eq, Option.some.injEq, Prod.mk.injEq] at hy
        obtain ⟨rfl, _⟩ := hy
        obtain ⟨v', g1, ad, cap, h1, _, _, h2, _, h3⟩ := h.en k _ hl
        rw [hv] at g1; cases g1
        simp only [List.cons.injEq, and_true] at h1
        subst h1
        by_cases hx : xs' = []
        · exact ⟨ad, cap, rfl, .inl hx⟩
        · obtain ⟨b, off, rfl, _, hc⟩ := h3.resolve_left hx
          exact ⟨_, cap, rfl, .inr ⟨b, off, rfl, fun i x hx => by obtain ⟨us, a1, a2, a3⟩ := hc i x hx; exact ⟨us, a1, a2, weak a3⟩⟩⟩
      · cases hy
    · cases hy
  · cases hy
theorem aStr_ok [B : Base] {C : Ctx} {c : Cx} (hC : CtxOk C c) {S : St} {i0 : Nat} {o : Oper} {src dst e : TypeId} {z : List Value} {tc : TC} (hs : look src C.ty = some ⟨.sl e, z, tc⟩) {x : Operand} {K : Dl → Prop} (ho : o.op = .convert src dst x) (h : aStr C S e dst x K) : ∃ δ, OpOk c S i0 o δ ∧ K δ := by
  unfold aStr at h
  split at h
  · next xs fr h1 h2 h3 =>
    have f0 := (hC.ty _ _ hs).fits
    have f1 := (hC.ty _ _ h1).fits
    have f2 := (hC.ty _ _ h2).fits
    rw [← hC.P] at f0 f1 f2
    simp only [TK.fits] at f0 f1 f2
    obtain ⟨y, hy, hd⟩ := Option.bind_eq_some_iff.1 h3
    refine ⟨_, ok_con (fun N O1 ρ a w hc => ?_), h⟩
    obtain ⟨ad, cap, hv, hr⟩ := dataOf_row hc hd (av_ok hc hy)
    have : (convert src dst (a.eval x)).run c.P w = .ok (.string (strOfNums xs)) w := by
      rw [hv]
      rcases hr with rfl | ⟨b, p, rfl, hr⟩
      · cases ad with
        | none => exact run_convert_bytes_nil w src e f0 f1 _ _ dst f2
        | some ad =>
          rw [run_convert_bytes_string w src dst e _ _ cap f0 f1 f2, run_bytesToString w ad _ cap [] (by simpa using run_loadCells_list (P := c.P) w ad [] (fun j v h => by simp at h))]
          rfl
      · refine run_convert_bytes_arg w src e f0 f1 b p xs.length cap xs rfl (fun i hi => ?_) dst f2
        obtain ⟨us, l1, l2, l3⟩ := hr i _ (List.getElem?_eq_getElem hi)
        simp only [Rep] at l3
        subst l3
        have := l2 0 _ rfl
        simp only [TC.n, Nat.mul_one, Nat.add_zero] at this
        rw [this]
        simp [List.getD, List.getElem?_eq_getElem hi]
    simp [execOp, ho, this]
  · exact h.elim
theorem aConv2_ok [B : Base] {C : Ctx} {c : Cx} (hC : CtxOk C c) {S : St} {i0 : Nat} {o : Oper} {src dst : TypeId} {x : Operand} {K : Dl → Prop} (ho : o.op = .convert src dst x) (h : aConv2 C S src dst x K) : ∃ δ, OpOk c S i0 o δ ∧ K δ := by
  unfold aConv2 at h
  split at h
  · next hs => exact aStr_ok hC hs ho h
  · exact aConv_ok hC ho h
end Go.Proofs.Ytgbfcjnkohhfoaa
