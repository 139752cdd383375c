/- For every input the law FnExactSameNumber returns true and leaves its arguments as they were; no condition. -/
import Derived.Test.YtpfehomoikpbbaaBase
import Derived.Below
import Derived.Test.YtpfehomoikpbbaaCtA
namespace Go.Proofs.Ytpfehomoikpbbaa.xSameNumber
open Go.RowKit
set_option linter.unusedVariables false

set_option maxHeartbeats 400000 in
theorem walk (a : Nat) (_ha : a < 2 ^ 32) (b : Nat) (_hb : b < 2 ^ 32) (w : World) :
    Calls Try.prog 7 #[.float .f32 a, .float .f32 b] w fun e w' => e = .returned (.bool true) ∧ Below w.heap.size w w' := by
  go_enter Try.func7, Try.ntmps7
  go_wp2_with fail
  refine (specSame_any _ _ _).mono ?_
  rintro e w' ⟨rfl, rfl⟩
  go_wp2_with fail
  refine (implSame_any _ _ _).mono ?_
  rintro e w' ⟨rfl, rfl⟩
  go_wp2
  all_goals (go_ret; exact ⟨rfl, Below.refl _ _⟩)

end Go.Proofs.Ytpfehomoikpbbaa.xSameNumber
