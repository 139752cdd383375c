/- Contracts: lengths of belts and the like, as formulas over canonical values. -/
import Derived.Test.YtmoilahabbfjeaaCtC
import Derived.Deep.RegionHeld3
import Derived.RegionTactic
import Derived.BigRegion
import Derived.Lib.Hide
namespace Go.Proofs.Ytmoilahabbfjeaa
open Go.RowKit

def reachC (a b : Nat) (x : Bool) : Nat := if x then cop .add a b else if flt .f32 a b then cop .sub b a else cop .sub a b

def lengthC (a b c : Nat) (x : Bool) : Nat :=
  cop .add (cop .add (cop .mul 1073741824 c) (cop .mul 1078525952 (cop .add a b))) (cop .quo (cop .mul (reachC a b x) (reachC a b x)) c)
def turnC (a b c : Nat) (x : Bool) : Nat := cop .quo (cop .mul 1073741824 (reachC a b x)) c
def wrapC (a b c : Nat) (x : Bool) : Nat := if x then cop .add 1078525952 (turnC a b c x) else cop .sub 1078525952 (turnC a b c x)
def sqC (z : Nat) : Nat := cop .mul z z
def sqN : Nat → Nat → Nat
  | 0, z => z
  | k + 1, z => sqC (sqN k z)
def gripZ (a b c d : Nat) (x : Bool) : Nat := cop .add 1065353216 (cop .quo (cop .mul d (wrapC a b c x)) 1098907648)
def gripC (a b c d : Nat) (x : Bool) : Nat := sqN 4 (gripZ a b c d x)
def pullC (a b c d : Nat) (x : Bool) (t : Nat) : Nat := cop .sub t (cop .quo t (gripC a b c d x))

theorem op_lt {op : BinOp} {x y : Nat} (w : World) : fval op .f32 x y w < 2 ^ 32 := by
  unfold fval
  cases h : floatBits op .f32 x y with
  | some r => have := floatBits_wf h; simpa [Lit.wf] using this
  | none =>
    show (w.tape w.drawn (Question.nanBits .f32 x y)) % 2 * 2 ^ 31 + 0x7f800000 + 1 + (w.tape w.drawn (Question.nanBits .f32 x y)) / 2 % (2 ^ 23 - 1) < 2 ^ 32
    omega

set_option maxHeartbeats 400000 in
theorem reach_open (p o a b c d : Nat) (w : World) (h : BeltAt w p o a b c d false) :
    Calls Try.prog 87 #[.pointer (some ⟨p, o, none⟩)] w fun e w' => ∃ r n, e = .returned (.float .f32 r) ∧ cn r = reachC a b false ∧ r < 2 ^ 32 ∧ w.drewN n = w' := by
  obtain ⟨c0, c1, c2, c3, c4⟩ := h
  cases hlt : flt .f32 a b
  · go_enter Try.func87, Try.ntmps87
    go_wp2
    go_region
    all_goals go_wp2
    all_goals go_region
    all_goals go_wp2
    all_goals (go_ret; exact ⟨_, _, rfl, by simp [reachC, hlt], op_lt _, rfl⟩)
  · go_enter Try.func87, Try.ntmps87
    go_wp2
    go_region
    all_goals go_wp2
    all_goals go_region
    all_goals go_wp2
    all_goals (go_ret; exact ⟨_, _, rfl, by simp [reachC, hlt], op_lt _, rfl⟩)

set_option maxHeartbeats 400000 in
theorem reach_crossed (p o a b c d : Nat) (w : World) (h : BeltAt w p o a b c d true) :
    Calls Try.prog 87 #[.pointer (some ⟨p, o, none⟩)] w fun e w' => ∃ r n, e = .returned (.float .f32 r) ∧ cn r = reachC a b true ∧ r < 2 ^ 32 ∧ w.drewN n = w' := by
  obtain ⟨c0, c1, c2, c3, c4⟩ := h
  go_enter Try.func87, Try.ntmps87
  go_wp2
  go_region
  all_goals go_wp2
  all_goals (go_ret; exact ⟨_, _, rfl, by simp [reachC], op_lt _, rfl⟩)

theorem reach_any (p o a b c d : Nat) (x : Bool) (w : World) (h : BeltAt w p o a b c d x) :
    Calls Try.prog 87 #[.pointer (some ⟨p, o, none⟩)] w fun e w' => ∃ r n, e = .returned (.float .f32 r) ∧ cn r = reachC a b x ∧ r < 2 ^ 32 ∧ w.drewN n = w' := by
  cases x
  · exact reach_open p o a b c d w h
  · exact reach_crossed p o a b c d w h

theorem BeltAt.drewN {w : World} {p o a b c d : Nat} {x : Bool} (h : BeltAt w p o a b c d x) (n : Nat) : BeltAt (w.drewN n) p o a b c d x := h
theorem BeltAt.drew {w : World} {p o a b c d : Nat} {x : Bool} (h : BeltAt w p o a b c d x) : BeltAt w.drew p o a b c d x := h

set_option maxHeartbeats 1000000 in
theorem length_any (p o a b c d : Nat) (x : Bool) (w : World) (h : BeltAt w p o a b c d x) :
    Calls Try.prog 62 #[.pointer (some ⟨p, o, none⟩)] w fun e w' => ∃ r n, e = .returned (.float .f32 r) ∧ cn r = lengthC a b c x ∧ r < 2 ^ 32 ∧ w.drewN n = w' := by
  have H := Lib.hid h
  obtain ⟨c0, c1, c2, c3, c4⟩ := h
  go_enter Try.func62, Try.ntmps62
  go_wp2
  go_region
  all_goals
    go_wp2_with fail
    refine (reach_any p o a b c d x _ (H.out.drewN _)).mono ?_
    rintro e w' ⟨r, n, rfl, hr, hl, rfl⟩
    have HR := Lib.hid hr
    clear hr
    go_wp2
    go_ret
    exact ⟨_, _, rfl, by simp only [cn_fval, cop_fval_l, cop_fval_r, lengthC]; rw [← cop_cn .mul r r, HR.out], op_lt _, rfl⟩

set_option maxHeartbeats 1000000 in
theorem wrap_any (p o a b c d : Nat) (x : Bool) (w : World) (h : BeltAt w p o a b c d x) :
    Calls Try.prog 65 #[.pointer (some ⟨p, o, none⟩)] w fun e w' => ∃ r n, e = .returned (.float .f32 r) ∧ cn r = wrapC a b c x ∧ r < 2 ^ 32 ∧ w.drewN n = w' := by
  have H := Lib.hid h
  obtain ⟨c0, c1, c2, c3, c4⟩ := h
  go_enter Try.func65, Try.ntmps65
  go_wp2
  go_region_with (go_at_call 87; refine (reach_any p o a b c d x _ (by exact H.out)).mono ?_; rintro e w' ⟨r, n, rfl, hr, hl, rfl⟩; have HR := Lib.hid hr; clear hr)
  all_goals go_wp2
  all_goals (subst_vars; go_ret; exact ⟨_, _, rfl, by rw [wrapC, turnC, ← HR.out]; simp, op_lt _, rfl⟩)

set_option maxHeartbeats 1000000 in
theorem grip_any (p o a b c d : Nat) (x : Bool) (w : World) (h : BeltAt w p o a b c d x) :
    Calls Try.prog 75 #[.pointer (some ⟨p, o, none⟩)] w fun e w' => ∃ r n, e = .returned (.float .f32 r) ∧ cn r = gripC a b c d x ∧ r < 2 ^ 32 ∧ w.drewN n = w' := by
  have H := Lib.hid h
  obtain ⟨c0, c1, c2, c3, c4⟩ := h
  go_enter Try.func75, Try.ntmps75
  go_wp2
  go_region_with (go_at_call 65; refine (wrap_any p o a b c d x _ (by exact H.out)).mono ?_; rintro e w' ⟨r, n, rfl, hr, hl, rfl⟩; have HR := Lib.hid hr; clear hr)
  all_goals
    go_wp2
    have Hz := Lib.hid (show cop .add 1065353216 (cop .quo (cop .mul d r) 1098907648) = gripZ a b c d x by rw [gripZ, ← HR.out]; simp)
    go_loopw [3, 13] (fun z i wr => ∃ k q m : Nat, k ≤ 4 ∧ i = .int .i64 (k : Int) ∧ z = .float .f32 q ∧ Hid (cn q = sqN k (gripZ a b c d x)) ∧ q < 2 ^ 32 ∧ w.drewN m = wr)
      (fun _ i _ => (4 - intOf i).toNat)
    case atStart => exact ⟨0, _, _, by omega, rfl, rfl, Lib.hid (by rw [sqN, ← Hz.out]; simp), op_lt _, rfl⟩
    case round =>
      obtain ⟨k, q, m, hk, rfl, rfl, Hq, hq, rfl⟩ := hrel
      by_cases hlt : k < 4
      · go_wp2
        go_roundw
        case rel => exact ⟨k + 1, _, _, by omega, by go_num, rfl, Lib.hid (by rw [sqN, ← Hq.out, sqC]; simp), op_lt _, rfl⟩
        case measure => simp [intOf]; omega
      · obtain rfl : k = 4 := by omega
        go_wp2
        go_ret
        exact ⟨_, _, rfl, Hq.out, hq, rfl⟩

set_option maxHeartbeats 400000 in
theorem pull_any (p o a b c d : Nat) (x : Bool) (t : Nat) (w : World) (h : BeltAt w p o a b c d x) :
    Calls Try.prog 78 #[.pointer (some ⟨p, o, none⟩), .float .f32 t] w fun e w' => ∃ r n, e = .returned (.float .f32 r) ∧ cn r = pullC a b c d x t ∧ r < 2 ^ 32 ∧ w.drewN n = w' := by
  go_enter Try.func78, Try.ntmps78
  go_wp2_with fail
  refine (grip_any p o a b c d x _ h).mono ?_
  rintro e w' ⟨r, n, rfl, hr, hl, rfl⟩
  have HR := Lib.hid hr
  clear hr
  go_wp2
  go_ret
  exact ⟨_, _, rfl, by rw [pullC, ← HR.out]; simp, op_lt _, rfl⟩

end Go.Proofs.Ytmoilahabbfjeaa
