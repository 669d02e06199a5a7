/-
  The abstract machine: the rule for a function.
-/
import Derived.Test.YtgbfcjnkohhfoaaAbE
namespace Go.Proofs.Ytgbfcjnkohhfoaa
open Go.RowKit

def lensP : (t : IT) → t.D → Prop
  | .v t, x => lens t x
  | .own _ t, x => lens (.sl t) x
  | .bx t, x => lens t x
  | .mp _ _ _, _ => True
  | .bo t, x => lensP t x
  | .k _, _ => True
  | .pr t u, x => lensP t x.1 ∧ lensP u x.2
def lensI : (l : List (Bool × IT)) → HI l → Prop
  | [], _ => True
  | t :: l, x => lensP t.2 x.1 ∧ lensI l x.2
theorem RepI.lens {z : Prop} {O : Nat → Prop} {w : World} : ∀ {t : IT} {vs : List Value} {x : t.D} {bs : List Nat}, RepI z O w t vs x bs → lensP t x
  | .v _, _, _, _, h => h.2.lens
  | .own e t, vs, xs, bs, h => by
    obtain ⟨v, cs, rfl, h2, h3, _, _, h6⟩ := h
    refine ⟨h3, fun x hx => ?_⟩
    obtain ⟨i, hi⟩ := List.getElem?_of_mem hx
    exact (h6 i x hi).lens
  | .bx _, _, _, _, h => by obtain ⟨b, e, us, _, _, _, _, h6⟩ := h; exact h6.lens
  | .mp _ _ _, _, _, _, _ => trivial
  | .bo _, _, _, _, h => by obtain ⟨b, e, us, bs', _, _, _, _, _, h6⟩ := h; exact h6.lens
  | .k _, _, _, _, _ => trivial
  | .pr _ _, _, _, _, h => by obtain ⟨us, ws, b1, b2, _, _, _, h1, h2⟩ := h; exact ⟨h1.lens, h2.lens⟩
theorem RepA.lens {z : Prop} {O : Nat → Prop} {w : World} : ∀ {l : List (Bool × IT)} {vs : List Value} {x : HI l} {bs : List Nat}, RepA z O w l vs x bs → lensI l x
  | [], _, _, _, _ => trivial
  | _ :: _, _, _, _, h => by
    obtain ⟨v, vs', b1, b2, _, _, _, ⟨us, _, h1⟩, h2⟩ := h
    exact ⟨h1.lens, h2.lens⟩

def vret3 (C : Ctx) (k : Con) (x : HI k.ins) (en : List (Nat × Ent)) (y : HO k.outs) : Prop :=
  match C.mpins with
  | [] => y = k.out x
  | _ :: _ => (match fnUA en k.sh k.ins x 0 with | some u => y = k.out x ∧ u = k.upd x | none => False)
def vret2 (C : Ctx) (k : Con) (x : HI k.ins) (en : List (Nat × Ent)) (fks : List Nat) (ls : List (List A1)) : Prop :=
  match clsR (frzE en fks ++ en) k.outs ls with
  | some d => (bif pinsOk C.mpins en fks && (nodB d.2 && pinsOk C.mpins (frzE en fks ++ en) d.2) then vret3 C k x en d.1 else False)
  | none => False
def vret (C : Ctx) (k : Con) (res : List ResultVar) (x : HI k.ins) (e : Exit) (S : St) (_ : Nat) : Prop :=
  match e with
  | .normal => (match retCells C S res k.outs with | some ls => vret2 C k x S.en (frzAll S.en k.outs ls) ls | none => False)
  | .ret => (match retCells C S res k.outs with | some ls => vret2 C k x S.en (frzAll S.en k.outs ls) ls | none => False)
  | _ => False
def vcFn (C : Ctx) (cs : List (Nat × Con)) (A : Ann) (res : List ResultVar) (k : Con) (code : Code) (x : HI k.ins) : Prop :=
  match opnI k.sh k.ins x 0 0 with
  | some r => lensI k.ins x → vc C cs A code 0 [] ⟨r.1, r.2⟩ (nslI k.ins) (vret C k res x)
  | none => False

theorem repV_triv {zA : Prop} {A : Nat → Prop} {w0 w w' : World} {sh : Bool} {ρ : Env} : ∀ (l : List (Bool × IT)) (vs : List Value) (x y : HI l) (id : Nat), pinA false l id = [] → InitA sh w0 ρ l vs x id → RepV zA A w w' l vs y
  | [], _, _, _, _, _, _ => trivial
  | t :: l, vs, x, y, id, hp, hi => by
    simp only [pinA, List.append_eq_nil_iff] at hp
    obtain ⟨v, vs', rfl, ⟨us, h1, h2, h3⟩, h4⟩ := hi
    have : ∀ (t : IT) (us : List Value) (x y : t.D) (id : Nat), pinP false t id = [] → us.length = t.n → InitP sh w0 ρ t us x id → RepU zA A w w' t us y := by
      intro t
      induction t with
      | v t => intro us x y id _ _ _; trivial
      | k f => intro us x y id _ _ _; trivial
      | own e t => intro us x y id h; simp [pinP] at h
      | bx t => intro us x y id h; simp [pinP] at h
      | mp g tk tv => intro us x y id h; simp [pinP] at h
      | bo t _ => intro us x y id h; simp [pinP] at h
      | pr t u iht ihu =>
        intro us x y id h _ hi
        simp only [pinP, List.append_eq_nil_iff] at h
        obtain ⟨as1, bs1, rfl, g1, g2, g3⟩ := hi
        refine ⟨as1, bs1, rfl, g1, iht as1 x.1 y.1 id h.1 g1 g2, ihu bs1 x.2 y.2 _ h.2 ?_ g3⟩
        rename_i hl
        simp [IT.n] at hl; omega
    exact ⟨v, vs', rfl, ⟨us, h1, h2, this t.2 us x.1 y.1 id hp.1 h2 h3⟩, repV_triv l vs' x.2 y.2 _ hp.2 h4⟩

/-- a function keeps its contract if the walk's conditions hold -/
theorem fn_ok [B : Base] {C : Ctx} {cs : List (Nat × Con)} {f : Nat} {fn : Func} {code : Code} {res : List ResultVar} {k : Con} (A : HI k.ins → Ann) (hf : C.P.funcs[f]? = some fn) (hname : (fn.name == "runtime.NumGoroutine") = false) (hb : fn.body = some code)
    (hn : fn.ntmps = C.n) (hres : fn.results.toList = res) (hty : ∀ t ti, look t C.ty = some ti → TIOk C.P t ti) (heq : ∀ t ks, look t C.eqs = some ks → EqTOk C.P t ks) (hcs : CsOk C cs) (hm : C.P.follows .mixedOrders = true) (hlen : nle k.ins.length C.n = true) (hpin : C.pins = pinA true k.ins 0) (hmpin : C.mpins = pinA false k.ins 0) (hne : k.eat = false)
    (h : allHI k.ins fun x => k.pre x → vcFn C cs (A x) res k code x) : ConOk C.P f k := by
  refine ⟨⟨fn, code, hf, hname, hb⟩, fun z O w args x bs hold hnew hO hO2 hbs hA hpre => ?_⟩
  have hlen := le_of_nle hlen
  have hv := allHI_ok h x hpre
  suffices hP : Calls C.P f args.toArray w (PostC k z O w args x bs) from hP.mono fun e w' h => by rw [hne]; exact h
  unfold vcFn at hv
  split at hv
  · next r hr =>
    have hv := hv hA.lens
    let c0 : Cx := ⟨C.P, C.n, w, fun _ => False, O, fun _ => none, z⟩
    obtain ⟨ρ, hop, l1, t1, hinit, hpv, hpb⟩ := opnI_ok (c := c0) (O1 := fun b => b ∈ bs) (sh := k.sh) (A := if k.sh then O else fun b => b ∈ bs) (zA := k.sh = true ∧ z) (fun h => h) (fun b hb hn => by
      simp only [offs, not_or, not_and, c0]
      cases hs : k.sh with
      | true => rw [hs] at hn; simp only [if_true] at hn; exact ⟨fun h => hn (hbs b h), fun _ => hn⟩
      | false => rw [hs] at hn; simp only [Bool.false_eq_true, if_false] at hn; exact ⟨hn, fun h => by cases h⟩) k.ins args x bs 0 0 (fun _ => none) r hA (fun b hb => hb) (fun _ _ => rfl) hr
    let c : Cx := ⟨C.P, C.n, w, fun b => b ∈ bs, O, fun p => if p ∈ C.pins then ρ p else none, z⟩
    have hsub : ∀ p, p ∈ pinA false k.ins 0 → p ∈ pinA true k.ins 0 := by
      have hP : ∀ (t : IT) (id : Nat) p, p ∈ pinP false t id → p ∈ pinP true t id := by
        intro t
        induction t with
        | v t => intro id p h; exact h
        | k f => intro id p h; exact h
        | own e t => intro id p h; exact h
        | bx t => intro id p h; simp [pinP] at h; subst h; simp [pinP, upTo_mem]; omega
        | mp g tk tv => intro id p h; exact h
        | bo t ih => intro id p h; simp only [pinP, List.mem_cons] at h ⊢; exact h.imp (fun e => e) (ih _ _)
        | pr t u iht ihu => intro id p h; simp only [pinP, List.mem_append] at h ⊢; exact h.imp (iht _ _) (ihu _ _)
      have : ∀ (l : List (Bool × IT)) (id : Nat) p, p ∈ pinA false l id → p ∈ pinA true l id := by
        intro l
        induction l with
        | nil => intro id p h; exact h
        | cons t l ih => intro id p h; simp only [pinA, List.mem_append] at h ⊢; exact h.imp (hP _ _ _) (ih _ _)
      exact this _ _
    have hpm : ∀ b, c.M b → ∃ p v, p ∈ C.mpins ∧ c.pin p = some v ∧ blkOf v = some b := fun b hb => by
      obtain ⟨p, v, h1, h2, h3⟩ := hpb b hb
      have hm : p ∈ C.pins := by rw [hpin]; exact hsub p h1
      exact ⟨p, v, by rw [hmpin]; exact h1, by simp only [c, if_pos hm]; exact h2, h3⟩
    have hC : CtxOk C c := by
      refine ⟨rfl, rfl, hty, heq, fun p v hp => ?_, fun b hb => .inl (hpm b hb), hold, hnew⟩
      simp only [c] at hp
      split at hp
      · assumption
      · cases hp
    have hsz : (args.toArray ++ Array.replicate (fn.ntmps - args.toArray.size) undef).size = C.n := by
      simp [hn]; omega
    have hent : ∀ k' e, EntOk c0 (fun b => b ∈ bs) ρ w k' e → EntOk c (fun b => b ∈ bs) ρ w k' e := by
      intro k' e he
      cases e <;> exact he
    have hc : Conc c (nslI k.ins ≤ ·) (fun b => b ∈ bs) ρ ⟨r.1, r.2⟩ { tmps := args.toArray ++ Array.replicate (fn.ntmps - args.toArray.size) undef, defers := [] } w := by
      refine ⟨hsz, rfl, fun t y hy => ?_, fun k' e he => hent k' e (hop.ent k' e (look_mem he)).2.2, ?_, fun k' hk => by rw [hop.ids k' (.inr (by omega))], fun k' v hv => ?_, fun b hb => ⟨hO b (hbs b hb), .inr hb⟩, hO, BelowM.refl _ _, fun p v hp => ?_⟩
      · obtain ⟨_, v, hv, hg⟩ := t1 t y hy
        refine ⟨v, hv, ?_⟩
        simp only [Nat.sub_zero] at hg
        have hlt : t < args.length := (List.getElem?_eq_some_iff.1 hg).1
        rw [Array.getElem?_append_left (by simpa using hlt)]
        simpa using hg
      · intro k1 k2 e1' e2 v1 v2 b hne he1 he2
        exact hop.ap k1 k2 e1' e2 v1 v2 b hne (look_mem he1) (look_mem he2)
      · rcases hop.one k' v hv with h | h
        · cases h
        · exact h
      · simp only [c] at hp
        split at hp
        · exact hp
        · cases hp
    refine calls_of_wp hf hb (vc_ok hC hcs hm code 0 _ _ _ _ _ _ ρ _ w ?_ hv hc)
    intro e S' nx' O1' ρ' a' w' hc' hK
    have key : (match retCells C S' res k.outs with | some ls => vret2 C k x S'.en (frzAll S'.en k.outs ls) ls | none => False) →
        a'.defers = [] ∧ ∃ v, (results fn a'.tmps).run C.P w' = .ok v w' ∧ ∃ vs bs', Ending.returned v = .returned (retV vs) ∧ RepR z (fun b => O b ∨ b ∈ bs') w.heap.size w' k.outs vs (k.out x) bs' ∧
          RepV (k.sh = true ∧ z) (fun b => (if k.sh then O b else b ∈ bs) ∨ b ∈ bs') w w' k.ins args (k.upd x) ∧ BelowM (fun b => b ∈ bs) w w' := by
      intro hK
      refine ⟨hc'.nodef, ?_⟩
      split at hK
      · next ls hls =>
        unfold vret2 at hK
        split at hK
        · next d hd =>
          cases hnd : pinsOk C.mpins S'.en (frzAll S'.en k.outs ls) && (nodB d.2 && pinsOk C.mpins (frzE S'.en (frzAll S'.en k.outs ls) ++ S'.en) d.2) with
          | false => rw [hnd] at hK; exact hK.elim
          | true =>
            rw [hnd] at hK
            simp only [cond_true] at hK
            simp only [Bool.and_eq_true] at hnd
            obtain ⟨hp1, hn1, hp2⟩ := hnd
            obtain ⟨vs, hvs, hvr⟩ := retCells_ok hC hc' res k.outs ls hls
            obtain ⟨O2, hc2, s1, s2⟩ := frz_ok hC hc' hp1
            obtain ⟨hR, hks⟩ := clsR_ok (.inr ⟨rfl, hpm⟩ : BaseOk C c c.w0.heap.size) hc2 hp2 k.outs ls vs d.1 d.2 hvr hd hn1 (fun _ h => h)
            have hbres : ∀ b, b ∈ bsOf ρ' d.2 → O2 b := fun b hm => by
              obtain ⟨k', hk', v, hv', hb'⟩ := bsOf_mem hm
              obtain ⟨e, he, ho⟩ := hks k' hk'
              obtain ⟨u, hu, hub⟩ := (hc2.en k' e he).val ho
              rw [hv'] at hu; cases hu
              exact (hub b hb').1
            have hpinv : ∀ p v, p ∈ pinA true k.ins 0 → ρ p = some v → ρ' p = some v := fun p v hp hv => hc'.pin p v (by
              have hm : p ∈ C.pins := by rw [hpin]; exact hp
              simp only [c, if_pos hm]; exact hv)
            have hbs1 : ∀ b, b ∈ bs → O1' b := fun b hb => by
              obtain ⟨p, v, h1, h2, h3⟩ := hpb b hb
              simp only [pinsOk, List.all_eq_true, Bool.and_eq_true] at hp1
              have := (hp1 p (by rw [hmpin]; exact h1)).2
              split at this
              · next e he =>
                obtain ⟨u, hu, hub⟩ := (hc'.en p e he).val this
                rw [hpinv p v (hsub p h1) h2] at hu; cases hu
                exact (hub b h3).1
              · cases this
            have hAv : ∀ b fr, (k.sh = true → fr = true) → ¬ offs c O1' fr b → ¬ ((if k.sh then O b else b ∈ bs) ∨ b ∈ bsOf ρ' d.2) := by
              intro b fr hfr hn hx
              simp only [offs, not_or, not_and, c] at hn
              rcases hx with hx | hx
              · cases hs : k.sh with
                | true => rw [hs] at hx; simp only [if_true] at hx; exact hn.2 (hfr hs) hx
                | false => rw [hs] at hx; simp only [Bool.false_eq_true, if_false] at hx; exact hn.1 (hbs1 b hx)
              · exact hn.1 (s1 b (hbres b hx))
            have hfin : d.1 = k.out x ∧ RepV (k.sh = true ∧ z) (fun b => (if k.sh then O b else b ∈ bs) ∨ b ∈ bsOf ρ' d.2) w w' k.ins args (k.upd x) := by
              unfold vret3 at hK
              split at hK
              · next hmp =>
                exact ⟨hK, repV_triv k.ins args x (k.upd x) 0 (by rw [← hmpin]; exact hmp) hinit⟩
              · split at hK
                · next u hu =>
                  obtain ⟨h1, h2⟩ := hK
                  refine ⟨h1, ?_⟩
                  rw [← h2]
                  exact fnUA_ok (A := fun b => (if k.sh then O b else b ∈ bs) ∨ b ∈ bsOf ρ' d.2) (zA := k.sh = true ∧ z) (fun h => h) hc' hAv k.ins args x u 0 hpinv hinit hu
                · exact hK.elim
            refine ⟨retV vs, ?_, vs, bsOf ρ' d.2, rfl, ?_, hfin.2, hc'.eff⟩
            · have hmm : (fn.results.mapM (resM a'.tmps)).run C.P w' = .ok vs.toArray w' := by
                rw [Array.mapM_eq_mapM_toList, hres, map_eq_pure_bind, Sem.run_bind, hvs]
                rfl
              have e : results fn a'.tmps = (do let vs ← fn.results.mapM (resM a'.tmps); pure (if h : vs.size = 1 then vs[0] else .tuple vs)) := by
                unfold results
                congr 1
              rw [e, Sem.run_bind, hmm]
              match vs with
              | [] => rfl
              | [v] => rfl
              | _ :: _ :: _ => rfl
            · rw [← hfin.1]
              refine hR.weak (fun h => ⟨rfl, h⟩) fun b hb hn => ?_
              simp only [offs, not_or, not_and, c] at hn ⊢
              exact ⟨hn.2 trivial, fun hm => hn.1 (hbres b hm)⟩
        · exact hK.elim
      · exact hK.elim
    cases e with
    | normal => exact key hK
    | ret => exact key hK
    | exit id => exact hK.elim
    | goto l => exact hK.elim
    | panic ch => exact hK.elim
    | outgrown => exact hK.elim
  · exact hv.elim

/-- the same of a function that takes its parameters over -/
theorem fn_okE [B : Base] {C : Ctx} {cs : List (Nat × Con)} {f : Nat} {fn : Func} {code : Code} {res : List ResultVar} {k : Con} (A : HI k.ins → Ann) (hf : C.P.funcs[f]? = some fn) (hname : (fn.name == "runtime.NumGoroutine") = false) (hb : fn.body = some code)
    (hn : fn.ntmps = C.n) (hres : fn.results.toList = res) (hty : ∀ t ti, look t C.ty = some ti → TIOk C.P t ti) (heq : ∀ t ks, look t C.eqs = some ks → EqTOk C.P t ks) (hcs : CsOk C cs) (hm : C.P.follows .mixedOrders = true) (hlen : nle k.ins.length C.n = true) (hmpin : C.mpins = []) (hne : k.eat = true)
    (h : allHI k.ins fun x => k.pre x → vcFn C cs (A x) res k code x) : ConOk C.P f k := by
  refine ⟨⟨fn, code, hf, hname, hb⟩, fun z O w args x bs hold hnew hO hO2 hbs hA hpre => ?_⟩
  have hlen := le_of_nle hlen
  have hv := allHI_ok h x hpre
  suffices hP : Calls C.P f args.toArray w (PostE k z O w x bs) from hP.mono fun e w' h => by rw [hne]; exact h
  unfold vcFn at hv
  split at hv
  · next r hr =>
    have hv := hv hA.lens
    let c0 : Cx := ⟨C.P, C.n, w, fun _ => False, fun b => O b ∧ b ∉ bs, fun _ => none, z⟩
    obtain ⟨ρ, hop, l1, t1, hinit, hpv, hpb⟩ := opnI_ok (c := c0) (O1 := fun b => b ∈ bs) (sh := k.sh) (A := if k.sh then O else fun b => b ∈ bs) (zA := k.sh = true ∧ z) (fun h => h) (fun b hb hn => by
      simp only [offs, not_or, not_and, c0]
      cases hs : k.sh with
      | true => rw [hs] at hn; simp only [if_true] at hn; exact ⟨fun h => hn (hbs b h), fun _ h => absurd h hn⟩
      | false => rw [hs] at hn; simp only [Bool.false_eq_true, if_false] at hn; exact ⟨hn, fun h => by cases h⟩) k.ins args x bs 0 0 (fun _ => none) r hA (fun b hb => hb) (fun _ _ => rfl) hr
    let c : Cx := ⟨C.P, C.n, w, fun b => b ∈ bs, fun b => O b ∧ b ∉ bs, fun _ => none, z⟩
    have hC : CtxOk C c := ⟨rfl, rfl, hty, heq, fun p v hp => (nomatch hp), fun b hb => .inr fun h => h.2 hb, hold, hnew⟩
    have hsz : (args.toArray ++ Array.replicate (fn.ntmps - args.toArray.size) undef).size = C.n := by
      simp [hn]; omega
    have hent : ∀ k' e, EntOk c0 (fun b => b ∈ bs) ρ w k' e → EntOk c (fun b => b ∈ bs) ρ w k' e := by
      intro k' e he
      cases e <;> exact he
    have hc : Conc c (nslI k.ins ≤ ·) (fun b => b ∈ bs) ρ ⟨r.1, r.2⟩ { tmps := args.toArray ++ Array.replicate (fn.ntmps - args.toArray.size) undef, defers := [] } w := by
      refine ⟨hsz, rfl, fun t y hy => ?_, fun k' e he => hent k' e (hop.ent k' e (look_mem he)).2.2, ?_, fun k' hk => by rw [hop.ids k' (.inr (by omega))], fun k' v hv => ?_, fun b hb => ⟨hO b (hbs b hb), .inr hb⟩, fun b hb => hO b hb.1, BelowM.refl _ _, fun p v hp => (nomatch hp)⟩
      · obtain ⟨_, v, hv, hg⟩ := t1 t y hy
        refine ⟨v, hv, ?_⟩
        simp only [Nat.sub_zero] at hg
        have hlt : t < args.length := (List.getElem?_eq_some_iff.1 hg).1
        rw [Array.getElem?_append_left (by simpa using hlt)]
        simpa using hg
      · intro k1 k2 e1' e2 v1 v2 b hne he1 he2
        exact hop.ap k1 k2 e1' e2 v1 v2 b hne (look_mem he1) (look_mem he2)
      · rcases hop.one k' v hv with h | h
        · cases h
        · exact h
    refine calls_of_wp hf hb (vc_ok hC hcs hm code 0 _ _ _ _ _ _ ρ _ w ?_ hv hc)
    intro e S' nx' O1' ρ' a' w' hc' hK
    have key : (match retCells C S' res k.outs with | some ls => vret2 C k x S'.en (frzAll S'.en k.outs ls) ls | none => False) →
        a'.defers = [] ∧ ∃ v, (results fn a'.tmps).run C.P w' = .ok v w' ∧ ∃ vs bs', Ending.returned v = .returned (retV vs) ∧ RepR z (fun b => (O b ∧ b ∉ bs) ∨ b ∈ bs') 0 w' k.outs vs (k.out x) bs' ∧
          (∀ b, b ∈ bs' → w.heap.size ≤ b ∨ b ∈ bs) ∧ BelowM (fun b => b ∈ bs) w w' := by
      intro hK
      refine ⟨hc'.nodef, ?_⟩
      split at hK
      · next ls hls =>
        unfold vret2 at hK
        split at hK
        · next d hd =>
          cases hnd : pinsOk C.mpins S'.en (frzAll S'.en k.outs ls) && (nodB d.2 && pinsOk C.mpins (frzE S'.en (frzAll S'.en k.outs ls) ++ S'.en) d.2) with
          | false => rw [hnd] at hK; exact hK.elim
          | true =>
            rw [hnd] at hK
            simp only [cond_true] at hK
            simp only [Bool.and_eq_true] at hnd
            obtain ⟨hp1, hn1, hp2⟩ := hnd
            obtain ⟨vs, hvs, hvr⟩ := retCells_ok hC hc' res k.outs ls hls
            obtain ⟨O2, hc2, s1, s2⟩ := frz_ok hC hc' hp1
            obtain ⟨hR, hks⟩ := clsR_ok (.inl rfl : BaseOk C c 0) hc2 hp2 k.outs ls vs d.1 d.2 hvr hd hn1 (fun _ h => h)
            have hbres : ∀ b, b ∈ bsOf ρ' d.2 → O2 b := fun b hm => by
              obtain ⟨k', hk', v, hv', hb'⟩ := bsOf_mem hm
              obtain ⟨e, he, ho⟩ := hks k' hk'
              obtain ⟨u, hu, hub⟩ := (hc2.en k' e he).val ho
              rw [hv'] at hu; cases hu
              exact (hub b hb').1
            have hfin : d.1 = k.out x := by
              unfold vret3 at hK
              rw [hmpin] at hK
              exact hK
            refine ⟨retV vs, ?_, vs, bsOf ρ' d.2, rfl, ?_, fun b hb => (hc2.olt b (hbres b hb)).2, hc'.eff⟩
            · have hmm : (fn.results.mapM (resM a'.tmps)).run C.P w' = .ok vs.toArray w' := by
                rw [Array.mapM_eq_mapM_toList, hres, map_eq_pure_bind, Sem.run_bind, hvs]
                rfl
              have e : results fn a'.tmps = (do let vs ← fn.results.mapM (resM a'.tmps); pure (if h : vs.size = 1 then vs[0] else .tuple vs)) := by
                unfold results
                congr 1
              rw [e, Sem.run_bind, hmm]
              match vs with
              | [] => rfl
              | [v] => rfl
              | _ :: _ :: _ => rfl
            · rw [← hfin]
              refine hR.weak (fun h => ⟨rfl, h⟩) fun b hb hn => ?_
              simp only [offs, not_or, not_and, c] at hn ⊢
              exact ⟨hn.2 trivial, fun hm => hn.1 (hbres b hm)⟩
        · exact hK.elim
      · exact hK.elim
    cases e with
    | normal => exact key hK
    | ret => exact key hK
    | exit id => exact hK.elim
    | goto l => exact hK.elim
    | panic ch => exact hK.elim
    | outgrown => exact hK.elim
  · exact hv.elim

theorem of_nf {P Q : Prop} (h : P = Q) (p : P) : Q := h ▸ p
end Go.Proofs.Ytgbfcjnkohhfoaa
