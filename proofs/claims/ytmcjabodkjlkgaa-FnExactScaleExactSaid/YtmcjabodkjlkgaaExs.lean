/-
  Slices of exact numbers in memory, and the contract of impl.checkExacts over them.
-/
import Derived.Test.YtmcjabodkjlkgaaIsEx
namespace Go.Proofs.Ytmcjabodkjlkgaa
open Go.RowKit

/-- the slice value v has the exact numbers xs in the world w -/
def ExsAt (w : World) (v : Value) (xs : List (Int × Int)) : Prop :=
  ∃ a cap, v = .slice a xs.length cap ∧ xs.length ≤ 1048576 ∧ (xs = [] ∨ ∃ b off, a = some ⟨b, off, none⟩ ∧ ∀ i, i < xs.length →
    w.cell? ⟨b, off + i * 2, none⟩ = some (.int .i64 (xs.getD i (0, 0)).1) ∧ w.cell? ⟨b, off + i * 2 + 1, none⟩ = some (.int .i64 (xs.getD i (0, 0)).2))

theorem ExsAt.mono {w w1 : World} {v : Value} {xs : List (Int × Int)} (h : ExsAt w v xs) (hb : Below w.heap.size w w1) : ExsAt w1 v xs := by
  obtain ⟨a, cap, rfl, hm, hz⟩ := h
  refine ⟨a, cap, rfl, hm, hz.imp id ?_⟩
  rintro ⟨b, off, rfl, hc⟩
  exact ⟨b, off, rfl, fun i hi => ⟨xcell hb (hc i hi).1, xcell hb (hc i hi).2⟩⟩

def exI (x : Int × Int) : Prop := I64 x.1 ∧ I64 x.2
/-- the code of a variant and exact numbers -/
def exsCode (p c h s : Int) (xs : List (Int × Int)) : Int := if varB p c h s then (if xs.all (fun x => exB (s * s).toNat x.1 x.2) then 0 else 2) else 1

theorem all_drop {f : Int × Int → Bool} {xs : List (Int × Int)} {k : Nat} (h : k < xs.length) : (xs.drop k).all f = (f (xs.getD k (0, 0)) && (xs.drop (k + 1)).all f) := by
  rw [List.drop_eq_getElem_cons h, List.all_cons]
  simp [h]

set_option maxHeartbeats 800000 in
theorem checkExs_any (p c h s : Int) (v : Value) (xs : List (Int × Int)) (w : World) (hI : ExsAt w v xs) (hx : ∀ i, exI (xs.getD i (0, 0))) :
    Calls Try.prog 82 #[.agg #[.int .i64 p, .int .i64 c, .int .i64 h, .int .i64 s], v] w fun e w' => e = .returned (.int .i64 (exsCode p c h s xs)) ∧ Below w.heap.size w w' := by
  have HX := hid hx
  clear hx
  cases hv : varB p c h s
  · go_enter Try.func82, Try.ntmps82
    go_wp2_with (go_at_call 74; refine (isVariant_any _ _ _ _ _).mono ?_; rintro e w1 ⟨rfl, hb⟩; obtain ⟨hc, hf⟩ := bcell hb; have hsz := hb.size; (try simp at hsz); (try have hy0 : w.heap.size < w1.heap.size := by omega); (try have hy1 : w.heap.size + 1 < w1.heap.size := by omega); (try have hy2 : w.heap.size + 2 < w1.heap.size := by omega); (try have hyS : ws.heap.size < w1.heap.size := by omega); (try have hyG : wg.heap.size < w1.heap.size := by omega))
    go_ret
    exact ⟨by simp [exsCode, hv], by (repeat' (first | exact Below.refl _ _ | (with_reducible assumption) | (with_reducible refine xAlloc ?_ _) | (with_reducible refine Below.drew ?_) | (with_reducible refine xDrewN ?_ _) | (with_reducible refine xThen ?_ (by with_reducible assumption)) | (with_reducible refine Below.setCell ?_ (by first | omega | (simp; omega) | simp) _)))⟩
  · have hr := varB_true hv
    obtain ⟨b, hB⟩ := base_of (s := s) (by omega)
    have HB := hid hB
    have HBS := hid (base_toNat hB)
    clear hB
    obtain ⟨a, cap, rfl, hm, hz⟩ := hI
    go_enter Try.func82, Try.ntmps82
    go_wp2_with (go_at_call 74; refine (isVariant_any _ _ _ _ _).mono ?_; rintro e ws ⟨rfl, hb⟩; obtain ⟨hc, hf⟩ := bcell hb; have hsz := hb.size; (try simp at hsz); (try have hy0 : w.heap.size < ws.heap.size := by omega); (try have hy1 : w.heap.size + 1 < ws.heap.size := by omega); (try have hy2 : w.heap.size + 2 < ws.heap.size := by omega); (try have hyS : ws.heap.size < ws.heap.size := by omega); (try have hyG : wg.heap.size < ws.heap.size := by omega))
    go_loopw [6, 12] (fun _ i wr => ∃ k : Nat, i = .int .i64 k ∧ k ≤ xs.length ∧ xs.all (fun x => exB b x.1 x.2) = (xs.drop k).all (fun x => exB b x.1 x.2) ∧ Below ws.heap.size ws wr) (fun _ i _ => xs.length - (intOf i).toNat)
    case atStart => exact ⟨0, rfl, by omega, rfl, Below.refl _ _⟩
    case round =>
      obtain ⟨k, rfl, hk, hall, hbr⟩ := hrel
      have HALL := hid hall
      clear hall
      obtain ⟨hcr, hfr⟩ := bcell hbr
      have hyr := hbr.size
      have hyr0 : w.heap.size < wr.heap.size := by omega
      by_cases hlt : k < xs.length
      · obtain ⟨b', off, rfl, hcell⟩ := hz.resolve_left (by rintro rfl; simp at hlt)
        have hc0 := (hcell k hlt).1
        have hc1 := (hcell k hlt).2
        have HD := hid (all_drop (f := fun x => exB b x.1 x.2) hlt)
        have hbb := cell_block hc0
        have hbb2 : b' < ws.heap.size := by omega
        have HXk := hid (HX.out k)
        obtain ⟨x, hxe⟩ : ∃ x, x = xs.getD k (0, 0) := ⟨_, rfl⟩
        rw [← hxe] at hc0 hc1 HD HXk
        obtain ⟨x, d⟩ := x
        have HI1 : Hid (I64 x) := hid HXk.out.1
        have HI2 : Hid (I64 d) := hid HXk.out.2
        clear hxe hcell hz
        dsimp only at hc0 hc1
        cases hex : exB b x d
        · go_wp2_with (go_at_call 91; refine (isExact_any _ _ _ _ _ _ b HB.out HI2.out HI1.out _).mono ?_; rintro e w1 ⟨rfl, hb⟩; obtain ⟨hc, hf⟩ := bcell hb; have hsz := hb.size; (try simp at hsz); (try have hy0 : w.heap.size < w1.heap.size := by omega); (try have hy1 : w.heap.size + 1 < w1.heap.size := by omega); (try have hy2 : w.heap.size + 2 < w1.heap.size := by omega); (try have hyS : ws.heap.size < w1.heap.size := by omega); (try have hyG : wg.heap.size < w1.heap.size := by omega))
          go_ret
          have hfin : exsCode p c h s xs = 2 := by simp only [exsCode, hv, HBS.out, HALL.out, HD.out, hex]; rfl
          exact ⟨ret_int hfin.symm, by (repeat' (first | exact Below.refl _ _ | (with_reducible assumption) | (with_reducible refine xAlloc ?_ _) | (with_reducible refine Below.drew ?_) | (with_reducible refine xDrewN ?_ _) | (with_reducible refine xThen ?_ (by with_reducible assumption)) | (with_reducible refine Below.setCell ?_ (by first | omega | (simp; omega) | simp) _)))⟩
        · go_wp2_with (go_at_call 91; refine (isExact_any _ _ _ _ _ _ b HB.out HI2.out HI1.out _).mono ?_; rintro e w1 ⟨rfl, hb⟩; obtain ⟨hc, hf⟩ := bcell hb; have hsz := hb.size; (try simp at hsz); (try have hy0 : w.heap.size < w1.heap.size := by omega); (try have hy1 : w.heap.size + 1 < w1.heap.size := by omega); (try have hy2 : w.heap.size + 2 < w1.heap.size := by omega); (try have hyS : ws.heap.size < w1.heap.size := by omega); (try have hyG : wg.heap.size < w1.heap.size := by omega))
          go_roundw
          case rel => exact ⟨k + 1, by go_num, by omega, by rw [HALL.out, HD.out, hex, Bool.true_and], by (repeat' (first | exact Below.refl _ _ | (with_reducible assumption) | (with_reducible refine xAlloc ?_ _) | (with_reducible refine Below.drew ?_) | (with_reducible refine xDrewN ?_ _) | (with_reducible refine xThen ?_ (by with_reducible assumption)) | (with_reducible refine Below.setCell ?_ (by first | omega | (simp; omega) | simp) _)))⟩
          case measure => simp [intOf]; omega
      · go_wp2
        go_ret
        have : k = xs.length := by omega
        have hfin : exsCode p c h s xs = 0 := by simp only [exsCode, hv, HBS.out, HALL.out, this, List.drop_length]; rfl
        exact ⟨ret_int hfin.symm, by (repeat' (first | exact Below.refl _ _ | (with_reducible assumption) | (with_reducible refine xAlloc ?_ _) | (with_reducible refine Below.drew ?_) | (with_reducible refine xDrewN ?_ _) | (with_reducible refine xThen ?_ (by with_reducible assumption)) | (with_reducible refine Below.setCell ?_ (by first | omega | (simp; omega) | simp) _)))⟩

/-- two exact numbers in a new block -/
theorem ExsAt.two (w : World) (x d y f : Int) (t : TypeId) (cap : Nat) : ExsAt (w.alloc (.cells #[.int .i64 x, .int .i64 d, .int .i64 y, .int .i64 f] t)) (.slice (some ⟨w.heap.size, 0, none⟩) 2 cap) [(x, d), (y, f)] := by
  refine ⟨_, cap, rfl, by simp, .inr ⟨_, 0, rfl, fun i hi => ?_⟩⟩
  have : i = 0 ∨ i = 1 := by simp at hi; omega
  rcases this with rfl | rfl <;> exact ⟨by rw [cell_new]; rfl, by rw [cell_new]; rfl⟩
theorem ExsAt.one (w : World) (x d : Int) (t : TypeId) (cap : Nat) : ExsAt (w.alloc (.cells #[.int .i64 x, .int .i64 d] t)) (.slice (some ⟨w.heap.size, 0, none⟩) 1 cap) [(x, d)] := by
  refine ⟨_, cap, rfl, by simp, .inr ⟨_, 0, rfl, fun i hi => ?_⟩⟩
  have : i = 0 := by simp at hi; omega
  subst this
  exact ⟨by rw [cell_new]; rfl, by rw [cell_new]; rfl⟩
theorem exI_two {x d y f : Int} (h1 : I64 x) (h2 : I64 d) (h3 : I64 y) (h4 : I64 f) : ∀ i, exI ([(x, d), (y, f)].getD i (0, 0))
  | 0 => ⟨h1, h2⟩
  | 1 => ⟨h3, h4⟩
  | _ + 2 => ⟨by simp [I64], by simp [I64]⟩
theorem exI_one {x d : Int} (h1 : I64 x) (h2 : I64 d) : ∀ i, exI ([(x, d)].getD i (0, 0))
  | 0 => ⟨h1, h2⟩
  | _ + 1 => ⟨by simp [I64], by simp [I64]⟩

def code2 (p c h s x d y f : Int) : Int := if varB p c h s then (if exB (s * s).toNat x d && exB (s * s).toNat y f then 0 else 2) else 1
theorem code2_eq (p c h s x d y f : Int) : exsCode p c h s [(x, d), (y, f)] = code2 p c h s x d y f := by simp [exsCode, code2]

set_option maxHeartbeats 400000 in
theorem l09Code_any (p c h s x d y f : Int) (hx : I64 x) (hd : I64 d) (hy : I64 y) (hf : I64 f) (w : World) :
    Calls Try.prog 79 #[.agg #[.int .i64 p, .int .i64 c, .int .i64 h, .int .i64 s], .agg #[.int .i64 x, .int .i64 d], .agg #[.int .i64 y, .int .i64 f]] w fun e w' => e = .returned (.int .i64 (code2 p c h s x d y f)) ∧ Below w.heap.size w w' := by
  have HX := hid hx
  have HD := hid hd
  have HY := hid hy
  have HF := hid hf
  clear hx hd hy hf
  cases hv : varB p c h s
  · go_enter Try.func79, Try.ntmps79
    go_wp2_with (go_at_call 67; refine (specIsVariant_any _ _ _ _ _).mono ?_; rintro e w1 ⟨rfl, hb⟩; obtain ⟨hc, hf⟩ := bcell hb; have hsz := hb.size; (try simp at hsz); (try have hy0 : w.heap.size < w1.heap.size := by omega); (try have hy1 : w.heap.size + 1 < w1.heap.size := by omega); (try have hy2 : w.heap.size + 2 < w1.heap.size := by omega); (try have hyS : ws.heap.size < w1.heap.size := by omega); (try have hyG : wg.heap.size < w1.heap.size := by omega))
    go_ret
    exact ⟨by simp [code2, hv], by (repeat' (first | exact Below.refl _ _ | (with_reducible assumption) | (with_reducible refine xAlloc ?_ _) | (with_reducible refine Below.drew ?_) | (with_reducible refine xDrewN ?_ _) | (with_reducible refine xThen ?_ (by with_reducible assumption)) | (with_reducible refine Below.setCell ?_ (by first | omega | (simp; omega) | simp) _)))⟩
  · have hr := varB_true hv
    obtain ⟨b, hB⟩ := base_of (s := s) (by omega)
    have HB := hid hB
    have HBS := hid (base_toNat hB)
    clear hB
    cases h1 : exB b x d
    all_goals cases h2 : exB b y f
    all_goals
      go_enter Try.func79, Try.ntmps79
      go_wp2_with (first | (go_at_call 67; refine (specIsVariant_any _ _ _ _ _).mono ?_; rintro e w1 ⟨rfl, hb⟩; obtain ⟨hc, hf⟩ := bcell hb; have hsz := hb.size; (try simp at hsz); (try have hy0 : w.heap.size < w1.heap.size := by omega); (try have hy1 : w.heap.size + 1 < w1.heap.size := by omega); (try have hy2 : w.heap.size + 2 < w1.heap.size := by omega); (try have hyS : ws.heap.size < w1.heap.size := by omega); (try have hyG : wg.heap.size < w1.heap.size := by omega)) | (go_at_call 88; (first | (with_reducible refine (l09Valid_any p c h s x d b HB.out HD.out HX.out _).mono ?_) | (with_reducible refine (l09Valid_any p c h s y f b HB.out HF.out HY.out _).mono ?_)); rintro e w1 ⟨rfl, hb⟩; obtain ⟨hc, hf⟩ := bcell hb; have hsz := hb.size; (try simp at hsz); (try have hy0 : w.heap.size < w1.heap.size := by omega); (try have hy1 : w.heap.size + 1 < w1.heap.size := by omega); (try have hy2 : w.heap.size + 2 < w1.heap.size := by omega); (try have hyS : ws.heap.size < w1.heap.size := by omega); (try have hyG : wg.heap.size < w1.heap.size := by omega)))
      go_ret
      exact ⟨by simp [code2, hv, HBS.out, h1, h2], by (repeat' (first | exact Below.refl _ _ | (with_reducible assumption) | (with_reducible refine xAlloc ?_ _) | (with_reducible refine Below.drew ?_) | (with_reducible refine xDrewN ?_ _) | (with_reducible refine xThen ?_ (by with_reducible assumption)) | (with_reducible refine Below.setCell ?_ (by first | omega | (simp; omega) | simp) _)))⟩
end Go.Proofs.Ytmcjabodkjlkgaa
