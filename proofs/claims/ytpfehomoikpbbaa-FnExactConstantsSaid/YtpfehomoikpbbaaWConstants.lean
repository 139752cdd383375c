/- For every input the law FnExactConstants returns true and leaves its arguments as they were; no condition. -/
import Derived.Test.YtpfehomoikpbbaaBase
import Derived.Below
namespace Go.Proofs.Ytpfehomoikpbbaa.xConstants
open Go.RowKit
set_option linter.unusedVariables false

set_option maxHeartbeats 400000 in
theorem walk  (w : World) :
    Calls Try.prog 3 #[] w fun e w' => e = .returned (.bool true) ∧ Below w.heap.size w w' := by
  go_enter Try.func3, Try.ntmps3
  go_wp2
  all_goals (go_ret; exact ⟨rfl, Below.refl _ _⟩)

end Go.Proofs.Ytpfehomoikpbbaa.xConstants
