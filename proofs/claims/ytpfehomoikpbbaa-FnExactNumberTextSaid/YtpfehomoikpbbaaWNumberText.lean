/- For every input the law FnExactNumberText returns true and leaves its arguments as they were; no condition. -/
import Derived.Test.YtpfehomoikpbbaaBase
import Derived.Below
import Derived.Test.YtpfehomoikpbbaaCtE
namespace Go.Proofs.Ytpfehomoikpbbaa.xNumberText
open Go.RowKit
set_option linter.unusedVariables false

set_option maxHeartbeats 400000 in
theorem walk (a : Nat) (ha : a < 2 ^ 32) (w : World) :
    Calls Try.prog 14 #[.float .f32 a] w fun e w' => e = .returned (.bool true) ∧ Below w.heap.size w w' := by
  go_enter Try.func14, Try.ntmps14
  go_wp2_with fail
  refine (specNumberText_any _ ha _).mono ?_
  rintro e w1 ⟨rfl, h1⟩
  go_wp2_with fail
  refine (implNumberText_any _ ha _).mono ?_
  rintro e w2 ⟨rfl, h2⟩
  go_wp2
  all_goals (go_ret; exact ⟨rfl, below_then (below_then (by (repeat' (first | (with_reducible exact Below.refl _ _) | (with_reducible assumption) | (with_reducible refine Below.alloc ?_ ?_ _) | (with_reducible refine below_drewN ?_ _) | (with_reducible refine Below.drew ?_) | (with_reducible refine Below.setCell ?_ ?_ _) | (with_reducible exact Nat.le_refl _) | omega | (simp only [World.size_alloc, World.size_setCell, World.size_drew, World.heap_drewN]; omega) | (simp; omega)))) h1) h2⟩)

end Go.Proofs.Ytpfehomoikpbbaa.xNumberText
