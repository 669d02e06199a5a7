/-
  The rule for a function, its parameters' data taken whole.
-/
import Derived.Test.YtgbfcjnkohhfoaaAbG
namespace Go.Proofs.Ytgbfcjnkohhfoaa
open Go.RowKit

def allW : (t : IT) → (t.D → Prop) → Prop
  | .v t, P => ∀ x : t.D, P x
  | .own _ t, P => ∀ x : List t.D, P x
  | .bx t, P => ∀ x : t.D, P x
  | .mp _ tk tv, P => ∀ x : List (tk.D × tv.D), P x
  | .bo t, P => ∀ x : t.D, P x
  | .k _, P => P ()
  | .pr t u, P => ∀ x : t.D × u.D, P x
theorem allW_ok : ∀ {t : IT} {P : t.D → Prop}, allW t P → ∀ d, P d
  | .v _, _, h => h
  | .own _ _, _, h => h
  | .bx _, _, h => h
  | .mp _ _ _, _, h => h
  | .bo _, _, h => h
  | .k _, _, h => fun _ => h
  | .pr _ _, _, h => h
def allHW : (l : List (Bool × IT)) → (HI l → Prop) → Prop
  | [], P => P ()
  | t :: l, P => allW t.2 fun x => allHW l fun y => P (x, y)
theorem allHW_ok : ∀ {l : List (Bool × IT)} {P : HI l → Prop}, allHW l P → ∀ d, P d
  | [], _, h => fun _ => h
  | _ :: _, _, h => fun d => allHW_ok (allW_ok h d.1) d.2
theorem allT_of : ∀ {t : TC} {P : t.D → Prop}, (∀ d, P d) → allT t P
  | .i _, _, h => h
  | .b, _, h => h
  | .s, _, h => h
  | .sl _, _, h => h
  | .pr t u, _, h => allT_of (t := t) fun x => allT_of (t := u) fun y => h (x, y)
  | .tw t u, _, h => allT_of (t := t) fun x => allT_of (t := u) fun y => h (x, y)
theorem allI_of : ∀ {t : IT} {P : t.D → Prop}, (∀ d, P d) → allI t P
  | .v t, _, h => allT_of (t := t) h
  | .own _ _, _, h => h
  | .bx t, _, h => allT_of (t := t) h
  | .mp _ _ _, _, h => h
  | .bo t, _, h => allI_of (t := t) h
  | .k _, _, h => h ()
  | .pr t u, _, h => allI_of (t := t) fun x => allI_of (t := u) fun y => h (x, y)
theorem allHI_of : ∀ {l : List (Bool × IT)} {P : HI l → Prop}, (∀ d, P d) → allHI l P
  | [], _, h => h ()
  | _ :: _, _, h => allI_of fun x => allHI_of fun y => h (x, y)
theorem fn_okW [B : Base] {C : Ctx} {cs : List (Nat × Con)} {f : Nat} {fn : Func} {code : Code} {res : List ResultVar} {k : Con} (A : HI k.ins → Ann) (hf : C.P.funcs[f]? = some fn) (hname : (fn.name == "runtime.NumGoroutine") = false) (hb : fn.body = some code)
    (hn : fn.ntmps = C.n) (hres : fn.results.toList = res) (hty : ∀ t ti, look t C.ty = some ti → TIOk C.P t ti) (heq : ∀ t ks, look t C.eqs = some ks → EqTOk C.P t ks) (hcs : CsOk C cs) (hm : C.P.follows .mixedOrders = true) (hlen : nle k.ins.length C.n = true) (hpin : C.pins = pinA true k.ins 0) (hmpin : C.mpins = pinA false k.ins 0) (hne : k.eat = false)
    (h : allHW k.ins fun x => k.pre x → vcFn C cs (A x) res k code x) : ConOk C.P f k :=
  fn_ok A hf hname hb hn hres hty heq hcs hm hlen hpin hmpin hne (allHI_of (allHW_ok h))
theorem fn_okWE [B : Base] {C : Ctx} {cs : List (Nat × Con)} {f : Nat} {fn : Func} {code : Code} {res : List ResultVar} {k : Con} (A : HI k.ins → Ann) (hf : C.P.funcs[f]? = some fn) (hname : (fn.name == "runtime.NumGoroutine") = false) (hb : fn.body = some code)
    (hn : fn.ntmps = C.n) (hres : fn.results.toList = res) (hty : ∀ t ti, look t C.ty = some ti → TIOk C.P t ti) (heq : ∀ t ks, look t C.eqs = some ks → EqTOk C.P t ks) (hcs : CsOk C cs) (hm : C.P.follows .mixedOrders = true) (hlen : nle k.ins.length C.n = true) (hmpin : C.mpins = []) (hne : k.eat = true)
    (h : allHW k.ins fun x => k.pre x → vcFn C cs (A x) res k code x) : ConOk C.P f k :=
  fn_okE A hf hname hb hn hres hty heq hcs hm hlen hmpin hne (allHI_of (allHW_ok h))
end Go.Proofs.Ytgbfcjnkohhfoaa
