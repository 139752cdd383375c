/- A boxed belt, for Loose. -/
import Derived.Test.YtljigmplmlhdnaaCtK
import Derived.Test.YtljigmplmlhdnaaLoose2
namespace Go.Proofs.Ytljigmplmlhdnaa
open Go.RowKit

theorem boxed_belt (w : World) (t : TypeId) (a b c d : Nat) (x : Bool) : ∃ W, w.alloc (.cells #[.float .f32 a, .float .f32 b, .float .f32 c, .float .f32 d, .bool x] t) = W ∧ w.heap.size < W.heap.size ∧ Below w.heap.size w W ∧
    ∀ w1, BelowC W w1 → BeltAt w1 w.heap.size 0 a b c d x := by
  have hB := beltAt_box w t a b c d x
  refine ⟨_, rfl, by simp, Below.alloc (Below.refl _ _) (Nat.le_refl _) _, fun w1 h => ?_⟩
  have hsz : w.heap.size < (w.alloc (.cells #[.float .f32 a, .float .f32 b, .float .f32 c, .float .f32 d, .bool x] t)).heap.size := by simp
  exact ⟨BelowC.cell hB.1 hsz w1 h, BelowC.cell hB.2.1 hsz w1 h, BelowC.cell hB.2.2.1 hsz w1 h, BelowC.cell hB.2.2.2.1 hsz w1 h, BelowC.cell hB.2.2.2.2 hsz w1 h⟩

theorem as_bool {P : Program} {f : FuncId} {args : Array Value} {w : World} {b c : Bool} (hb : b = c) (h : Calls P f args w fun e w' => e = .returned (.bool b) ∧ w = w') :
    Calls P f args w fun e w' => e = .returned (.bool c) ∧ w = w' := by rw [← hb]; exact h

end Go.Proofs.Ytljigmplmlhdnaa
