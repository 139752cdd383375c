/- Contracts: the small predicates on numbers. -/
import Derived.Test.YtljigmplmlhdnaaDoorBase
namespace Go.Proofs.YtljigmplmlhdnaaDoor
open Go.RowKit

set_option maxHeartbeats 400000 in
theorem between_any (a lo hi : Nat) (w : World) :
    Calls Tryd.prog 28 #[.float .f32 a, .float .f32 lo, .float .f32 hi] w fun e w' => e = .returned (.bool (betB a lo hi)) ∧ w = w' := by
  go_enter Tryd.func28, Tryd.ntmps28
  go_wp2
  all_goals (go_ret; exact ⟨by simp_all [betB], rfl⟩)

set_option maxHeartbeats 400000 in
theorem l02Radius_any (a : Nat) (w : World) :
    Calls Tryd.prog 16 #[.float .f32 a] w fun e w' => e = .returned (.bool (lengthB a)) ∧ w = w' := by
  go_enter Tryd.func16, Tryd.ntmps16
  go_wp2
  all_goals (go_ret; exact ⟨by simp_all [lengthB, betB], rfl⟩)

set_option maxHeartbeats 400000 in
theorem impl_isRadius_any (a : Nat) (w : World) :
    Calls Tryd.prog 27 #[.float .f32 a] w fun e w' => e = .returned (.bool (lengthB a)) ∧ w = w' := by
  go_enter Tryd.func27, Tryd.ntmps27
  go_wp2_with (go_at_call 28; refine (between_any _ _ _ _).mono ?_; rintro e w' ⟨rfl, rfl⟩)
  all_goals (go_ret; exact ⟨rfl, rfl⟩)

end Go.Proofs.YtljigmplmlhdnaaDoor
