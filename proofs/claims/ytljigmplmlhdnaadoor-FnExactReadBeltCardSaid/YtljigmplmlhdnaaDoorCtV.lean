/- Trains: whether one is valid (the program). -/
import Derived.Test.YtljigmplmlhdnaaDoorCtU
namespace Go.Proofs.YtljigmplmlhdnaaDoor
open Go.RowKit

end Go.Proofs.YtljigmplmlhdnaaDoor
