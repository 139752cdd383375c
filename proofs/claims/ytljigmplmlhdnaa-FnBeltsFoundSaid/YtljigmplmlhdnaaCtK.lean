/- Contracts: the speed behind a belt (a sign may be turned). -/
import Derived.Test.YtljigmplmlhdnaaCtH
import Derived.Test.YtljigmplmlhdnaaNeg
namespace Go.Proofs.Ytljigmplmlhdnaa
open Go.RowKit

def outC (a b : Nat) (x : Bool) (speed slip : Nat) : Nat :=
  if x then cn (fneg (cop .mul (cop .mul speed (cop .quo a b)) (cop .sub 1065353216 slip))) else cop .mul (cop .mul speed (cop .quo a b)) (cop .sub 1065353216 slip)

set_option maxHeartbeats 1000000 in
theorem out_any (p o a b c d : Nat) (x : Bool) (speed slip : Nat) (w : World) (h : BeltAt w p o a b c d x) :
    Calls Try.prog 59 #[.pointer (some ⟨p, o, none⟩), .float .f32 speed, .float .f32 slip] w fun e w' => ∃ r n, e = .returned (.float .f32 r) ∧ cn r = outC a b x speed slip ∧ r < 2 ^ 32 ∧ w.drewN n = w' := by
  obtain ⟨c0, c1, c2, c3, c4⟩ := h
  go_enter Try.func59, Try.ntmps59
  go_wp2
  go_region
  all_goals
    go_wp2
    all_goals first | (subst_vars; go_ret; exact ⟨_, _, rfl, by simp [outC, cn_fneg (op_lt _)], fneg_lt (op_lt _), rfl⟩) | (subst_vars; go_ret; exact ⟨_, _, rfl, by simp [outC], op_lt _, rfl⟩)

set_option maxHeartbeats 1000000 in
theorem l02Out_any (p o a b c d : Nat) (x : Bool) (speed slip : Nat) (w : World) (h : BeltAt w p o a b c d x) :
    Calls Try.prog 57 #[.pointer (some ⟨p, o, none⟩), .float .f32 speed, .float .f32 slip] w fun e w' => ∃ r n, e = .returned (.float .f32 r) ∧ cn r = outC a b x speed slip ∧ r < 2 ^ 32 ∧ w.drewN n = w' := by
  obtain ⟨c0, c1, c2, c3, c4⟩ := h
  go_enter Try.func57, Try.ntmps57
  go_wp2
  go_region
  all_goals
    go_wp2
    all_goals first | (subst_vars; go_ret; exact ⟨_, _, rfl, by simp [outC, cn_fneg (op_lt _)], fneg_lt (op_lt _), rfl⟩) | (subst_vars; go_ret; exact ⟨_, _, rfl, by simp [outC], op_lt _, rfl⟩)

end Go.Proofs.Ytljigmplmlhdnaa
