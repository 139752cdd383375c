/- Trains: whether one is valid (the program). -/
import Derived.Test.YtljigmplmlhdnaaCtU
namespace Go.Proofs.Ytljigmplmlhdnaa
open Go.RowKit

end Go.Proofs.Ytljigmplmlhdnaa
