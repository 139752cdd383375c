/- Contracts: what is told of a belt, with a code. -/
import Derived.Test.YtljigmplmlhdnaaDoorCtG
namespace Go.Proofs.YtljigmplmlhdnaaDoor
open Go.RowKit

theorem beltAt_box (w : World) (t : TypeId) (a b c d : Nat) (x : Bool) : BeltAt (w.alloc (.cells #[.float .f32 a, .float .f32 b, .float .f32 c, .float .f32 d, .bool x] t)) w.heap.size 0 a b c d x := by
  refine ⟨?_, ?_, ?_, ?_, ?_⟩ <;> simp [World.cell?_alloc_at]

/-- The code of a belt and of numbers that are as told. -/
def beltK (a b c d : Nat) (fine : Bool) : Int := if beltB a b c d then (if fine then 0 else 2) else 1
/-- A result, where the code is OK. -/
def okV (k : Int) (r : Nat) : Nat := if k = 0 then r else 0
theorem cn_zero : cn 0 = 0 := cn_of_num (by decide +kernel)
theorem okV_cn {k : Int} {r v : Nat} (h : cn r = v) : cn (okV k r) = okV k v := by
  unfold okV
  split
  · exact h
  · exact cn_zero
theorem okV_lt {k : Int} {r : Nat} (h : r < 2 ^ 32) : okV k r < 2 ^ 32 := by
  unfold okV
  split <;> omega

end Go.Proofs.YtljigmplmlhdnaaDoor
