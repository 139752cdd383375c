/- Contracts: the speed behind a belt (a sign may be turned). -/
import Derived.Test.YtljigmplmlhdnaaDoorCtH
import Derived.Test.YtljigmplmlhdnaaDoorNeg
namespace Go.Proofs.YtljigmplmlhdnaaDoor
open Go.RowKit

def outC (a b : Nat) (x : Bool) (speed slip : Nat) : Nat :=
  if x then cn (fneg (cop .mul (cop .mul speed (cop .quo a b)) (cop .sub 1065353216 slip))) else cop .mul (cop .mul speed (cop .quo a b)) (cop .sub 1065353216 slip)

end Go.Proofs.YtljigmplmlhdnaaDoor
