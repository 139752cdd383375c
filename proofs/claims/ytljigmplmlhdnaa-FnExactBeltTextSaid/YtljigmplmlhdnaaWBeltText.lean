/- For every input the law FnExactBeltText returns true and leaves its arguments as they were; no condition. -/
import Derived.Test.YtljigmplmlhdnaaBase
import Derived.Below
import Derived.Test.YtljigmplmlhdnaaCtBt
import Derived.Test.YtljigmplmlhdnaaCtM
import Derived.Test.YtljigmplmlhdnaaLoB
namespace Go.Proofs.Ytljigmplmlhdnaa.xBeltText
open Go.RowKit
set_option linter.unusedVariables false

set_option maxHeartbeats 1000000 in
theorem walk {w : World} (a : Nat) (ha : a < 2 ^ 32) (b : Nat) (hb : b < 2 ^ 32) (c : Nat) (hc : c < 2 ^ 32) (d : Nat) (hd : d < 2 ^ 32) (x : Bool) :
    Calls Try.prog 4 #[.agg #[.float .f32 a, .float .f32 b, .float .f32 c, .float .f32 d, .bool x]] w fun e w' => e = .returned (.bool true) ∧ Below w.heap.size w w' := by
  obtain ⟨W, hW, hWs, hbW, HBX⟩ := boxed_belt w 29 a b c d x
  have HBX := Lib.hid HBX
  have HWW := Lib.hid hW
  clear hW
  have hB := Below.refl W.heap.size W
  go_enter Try.func4, Try.ntmps4
  go_wp2_with fail
  rw [HWW.out]
  refine (toBelt_any _ _ _ _ _ _).mono ?_
  rintro e w1 ⟨rfl, hb1⟩
  have hB := below_then hB hb1
  go_wp2_with fail
  refine (specBeltText_any _ _ _ _ _ ha hb hc hd _).mono ?_
  rintro e w2 ⟨rfl, hb2⟩
  have hB := below_then hB hb2
  obtain ⟨z0, z1, z2, z3, z4⟩ := HBX.out _ hB
  go_wp2_with fail
  refine (toBelt_any _ _ _ _ _ _).mono ?_
  rintro e w3 ⟨rfl, hb3⟩
  have hB := below_then hB hb3
  clear z0 z1 z2 z3 z4
  go_wp2_with fail
  refine (implBeltText_any _ _ _ _ _ ha hb hc hd _).mono ?_
  rintro e w4 ⟨rfl, hb4⟩
  have hB := below_then hB hb4
  go_wp2
  all_goals (go_ret; exact ⟨rfl, hbW.trans (hB.mono (Nat.le_of_lt hWs))⟩)

end Go.Proofs.Ytljigmplmlhdnaa.xBeltText
