/- Trains: the train that is driven from its last axle. -/
import Derived.Test.YtkgfepakedieaaaCtX
import Derived.RegionTactic
import Derived.BigRegion
import Derived.Deep.RegionLaw
import Derived.Deep.AppendLies
namespace Go.Proofs.Ytkgfepakedieaaa
open Go.RowKit

def backP (p : T3) : T3 := (p.2.1, p.1, p.2.2)
def backT (ps : List T3) : List T3 := ps.reverse.map backP
def okT (b : Bool) : Int := if b then 0 else 1
theorem back_at (ps : List T3) (j : Nat) (h : j < ps.length) : (backT ps)[j]? = some (backP ps[ps.length - 1 - j]) := by
  unfold backT
  rw [List.getElem?_map, List.getElem?_reverse h, List.getElem?_eq_getElem (by omega)]
  rfl

theorem cellsT_app (a b : List T3) : cellsT (a ++ b) = cellsT a ++ cellsT b := by simp [cellsT]
theorem back_len (ps : List T3) : (backT ps).length = ps.length := by simp [backT]

end Go.Proofs.Ytkgfepakedieaaa
