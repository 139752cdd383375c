/- Contracts: lengths of belts and the like, as formulas over canonical values. -/
import Derived.Test.YtljigmplmlhdnaaCtC
import Derived.Deep.RegionHeld3
import Derived.RegionTactic
import Derived.BigRegion
import Derived.Lib.Hide
namespace Go.Proofs.Ytljigmplmlhdnaa
open Go.RowKit

def reachC (a b : Nat) (x : Bool) : Nat := if x then cop .add a b else if flt .f32 a b then cop .sub b a else cop .sub a b

def lengthC (a b c : Nat) (x : Bool) : Nat :=
  cop .add (cop .add (cop .mul 1073741824 c) (cop .mul 1078525952 (cop .add a b))) (cop .quo (cop .mul (reachC a b x) (reachC a b x)) c)
def turnC (a b c : Nat) (x : Bool) : Nat := cop .quo (cop .mul 1073741824 (reachC a b x)) c
def wrapC (a b c : Nat) (x : Bool) : Nat := if x then cop .add 1078525952 (turnC a b c x) else cop .sub 1078525952 (turnC a b c x)
def sqC (z : Nat) : Nat := cop .mul z z
def sqN : Nat → Nat → Nat
  | 0, z => z
  | k + 1, z => sqC (sqN k z)
def gripZ (a b c d : Nat) (x : Bool) : Nat := cop .add 1065353216 (cop .quo (cop .mul d (wrapC a b c x)) 1098907648)
def gripC (a b c d : Nat) (x : Bool) : Nat := sqN 4 (gripZ a b c d x)
def pullC (a b c d : Nat) (x : Bool) (t : Nat) : Nat := cop .sub t (cop .quo t (gripC a b c d x))

theorem op_lt {op : BinOp} {x y : Nat} (w : World) : fval op .f32 x y w < 2 ^ 32 := by
  unfold fval
  cases h : floatBits op .f32 x y with
  | some r => have := floatBits_wf h; simpa [Lit.wf] using this
  | none =>
    show (w.tape w.drawn (Question.nanBits .f32 x y)) % 2 * 2 ^ 31 + 0x7f800000 + 1 + (w.tape w.drawn (Question.nanBits .f32 x y)) / 2 % (2 ^ 23 - 1) < 2 ^ 32
    omega

set_option maxHeartbeats 400000 in
theorem reach_open (p o a b c d : Nat) (w : World) (h : BeltAt w p o a b c d false) :
    Calls Try.prog 86 #[.pointer (some ⟨p, o, none⟩)] w fun e w' => ∃ r n, e = .returned (.float .f32 r) ∧ cn r = reachC a b false ∧ r < 2 ^ 32 ∧ w.drewN n = w' := by
  obtain ⟨c0, c1, c2, c3, c4⟩ := h
  cases hlt : flt .f32 a b
  · go_enter Try.func86, Try.ntmps86
    go_wp2
    go_region
    all_goals go_wp2
    all_goals go_region
    all_goals go_wp2
    all_goals (go_ret; exact ⟨_, _, rfl, by simp [reachC, hlt], op_lt _, rfl⟩)
  · go_enter Try.func86, Try.ntmps86
    go_wp2
    go_region
    all_goals go_wp2
    all_goals go_region
    all_goals go_wp2
    all_goals (go_ret; exact ⟨_, _, rfl, by simp [reachC, hlt], op_lt _, rfl⟩)

set_option maxHeartbeats 400000 in
theorem reach_crossed (p o a b c d : Nat) (w : World) (h : BeltAt w p o a b c d true) :
    Calls Try.prog 86 #[.pointer (some ⟨p, o, none⟩)] w fun e w' => ∃ r n, e = .returned (.float .f32 r) ∧ cn r = reachC a b true ∧ r < 2 ^ 32 ∧ w.drewN n = w' := by
  obtain ⟨c0, c1, c2, c3, c4⟩ := h
  go_enter Try.func86, Try.ntmps86
  go_wp2
  go_region
  all_goals go_wp2
  all_goals (go_ret; exact ⟨_, _, rfl, by simp [reachC], op_lt _, rfl⟩)

theorem reach_any (p o a b c d : Nat) (x : Bool) (w : World) (h : BeltAt w p o a b c d x) :
    Calls Try.prog 86 #[.pointer (some ⟨p, o, none⟩)] w fun e w' => ∃ r n, e = .returned (.float .f32 r) ∧ cn r = reachC a b x ∧ r < 2 ^ 32 ∧ w.drewN n = w' := by
  cases x
  · exact reach_open p o a b c d w h
  · exact reach_crossed p o a b c d w h

theorem BeltAt.drewN {w : World} {p o a b c d : Nat} {x : Bool} (h : BeltAt w p o a b c d x) (n : Nat) : BeltAt (w.drewN n) p o a b c d x := h
theorem BeltAt.drew {w : World} {p o a b c d : Nat} {x : Bool} (h : BeltAt w p o a b c d x) : BeltAt w.drew p o a b c d x := h

set_option maxHeartbeats 1000000 in
theorem length_any (p o a b c d : Nat) (x : Bool) (w : World) (h : BeltAt w p o a b c d x) :
    Calls Try.prog 54 #[.pointer (some ⟨p, o, none⟩)] w fun e w' => ∃ r n, e = .returned (.float .f32 r) ∧ cn r = lengthC a b c x ∧ r < 2 ^ 32 ∧ w.drewN n = w' := by
  have H := Lib.hid h
  obtain ⟨c0, c1, c2, c3, c4⟩ := h
  go_enter Try.func54, Try.ntmps54
  go_wp2
  go_region
  all_goals
    go_wp2_with fail
    refine (reach_any p o a b c d x _ (H.out.drewN _)).mono ?_
    rintro e w' ⟨r, n, rfl, hr, hl, rfl⟩
    have HR := Lib.hid hr
    clear hr
    go_wp2
    go_ret
    exact ⟨_, _, rfl, by simp only [cn_fval, cop_fval_l, cop_fval_r, lengthC]; rw [← cop_cn .mul r r, HR.out], op_lt _, rfl⟩

end Go.Proofs.Ytljigmplmlhdnaa
