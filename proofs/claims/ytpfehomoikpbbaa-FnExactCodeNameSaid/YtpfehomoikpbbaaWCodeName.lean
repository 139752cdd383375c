/- For every input the law FnExactCodeName returns true and leaves its arguments as they were; no condition. -/
import Derived.Test.YtpfehomoikpbbaaBase
import Derived.Below
import Derived.Test.YtpfehomoikpbbaaCtD
namespace Go.Proofs.Ytpfehomoikpbbaa.xCodeName
open Go.RowKit
set_option linter.unusedVariables false

set_option maxHeartbeats 400000 in
theorem walk (n : Int) (_hn : (Lit.int .i64 n).wf = true) (w : World) :
    Calls Try.prog 8 #[.int .i64 n] w fun e w' => e = .returned (.bool true) ∧ Below w.heap.size w w' := by
  go_enter Try.func8, Try.ntmps8
  go_wp2_with fail
  refine (specCodeName_any _ _).mono ?_
  rintro e w1 ⟨rfl, h1⟩
  go_wp2_with fail
  refine (implCodeName_any _ _).mono ?_
  rintro e w2 ⟨rfl, h2⟩
  go_wp2
  all_goals (go_ret; exact ⟨rfl, below_then (below_then (by (repeat' (first | (with_reducible exact Below.refl _ _) | (with_reducible assumption) | (with_reducible refine Below.alloc ?_ ?_ _) | (with_reducible refine below_drewN ?_ _) | (with_reducible refine Below.drew ?_) | (with_reducible refine Below.setCell ?_ ?_ _) | (with_reducible exact Nat.le_refl _) | omega | (simp only [World.size_alloc, World.size_setCell, World.size_drew, World.heap_drewN]; omega) | (simp; omega)))) h1) h2⟩)

end Go.Proofs.Ytpfehomoikpbbaa.xCodeName
