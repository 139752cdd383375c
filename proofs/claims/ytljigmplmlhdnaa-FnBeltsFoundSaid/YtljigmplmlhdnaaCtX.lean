/- Trains: a world that has grown. -/
import Derived.Test.YtljigmplmlhdnaaCtV
namespace Go.Proofs.Ytljigmplmlhdnaa
open Go.RowKit

theorem below_of_drewN {w w' : World} {n : Nat} (h : w.drewN n = w') : Below w.heap.size w w' := by
  rw [← h]
  exact below_drewN (Below.refl _ _) _

end Go.Proofs.Ytljigmplmlhdnaa
