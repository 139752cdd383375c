/- Contracts of the reference: lengths of belts and the like. -/
import Derived.Test.YtljigmplmlhdnaaDoorCtF
namespace Go.Proofs.YtljigmplmlhdnaaDoor
open Go.RowKit

end Go.Proofs.YtljigmplmlhdnaaDoor
