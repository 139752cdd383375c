/- For every input the law FnBeltsFound returns true and leaves its arguments as they were; no condition. -/
import Derived.Test.YtljigmplmlhdnaaBase
import Derived.Below
import Derived.Test.YtljigmplmlhdnaaBkW
import Derived.Test.YtljigmplmlhdnaaByIn
namespace Go.Proofs.Ytljigmplmlhdnaa.yBeltsFound
open Go.RowKit
set_option linter.unusedVariables false

theorem walk (v0 : Value) (n0 : Nat) (es0 : Nat → List Value) (w : World) (h0 : SliceIn (CellsOk [.i .u8]) 1 w v0 n0 es0) (v1 : Value) (n1 : Nat) (es1 : Nat → List Value) (h1 : SliceIn (CellsOk [.i .u8]) 1 w v1 n1 es1) :
    Calls Try.prog 10 #[v0, v1] w fun e w' => e = .returned (.bool true) ∧ Below w.heap.size w w' := by
  obtain ⟨a0, c0, rfl, b0⟩ := bytes_of_in h0
  obtain ⟨a1, c1, rfl, b1⟩ := bytes_of_in h1
  exact walk0 a0 a1 n0 c0 n1 c1 w b0 b1

end Go.Proofs.Ytljigmplmlhdnaa.yBeltsFound
