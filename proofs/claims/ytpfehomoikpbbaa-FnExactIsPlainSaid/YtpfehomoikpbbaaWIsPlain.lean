/- For every input the law FnExactIsPlain returns true and leaves its arguments as they were; no condition. -/
import Derived.Test.YtpfehomoikpbbaaBase
import Derived.Below
import Derived.Test.YtpfehomoikpbbaaCtA
namespace Go.Proofs.Ytpfehomoikpbbaa.xIsPlain
open Go.RowKit
set_option linter.unusedVariables false

set_option maxHeartbeats 400000 in
theorem walk (a : Nat) (_ha : a < 2 ^ 32) (w : World) :
    Calls Try.prog 6 #[.float .f32 a] w fun e w' => e = .returned (.bool true) ∧ Below w.heap.size w w' := by
  go_enter Try.func6, Try.ntmps6
  go_wp2_with fail
  refine (spec_IsPlain_any _ _).mono ?_
  rintro e w' ⟨rfl, rfl⟩
  go_wp2_with fail
  refine (impl_IsPlain_any _ _).mono ?_
  rintro e w' ⟨rfl, rfl⟩
  go_wp2
  all_goals (go_ret; exact ⟨rfl, Below.refl _ _⟩)

end Go.Proofs.Ytpfehomoikpbbaa.xIsPlain
