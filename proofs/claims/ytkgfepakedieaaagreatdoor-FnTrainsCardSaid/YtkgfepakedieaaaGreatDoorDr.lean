/- Draws stand outermost. -/
import Derived.Test.YtkgfepakedieaaaGreatDoorBase
namespace Go.Proofs.YtkgfepakedieaaaGreatDoor

@[go_sem] theorem setCell_drewN (w : World) (n : Nat) (a : Addr) (v : Value) : (w.drewN n).setCell a v = (w.setCell a v).drewN n := rfl
@[go_sem] theorem alloc_drewN (w : World) (n : Nat) (o : Obj) : (w.drewN n).alloc o = (w.alloc o).drewN n := rfl

end Go.Proofs.YtkgfepakedieaaaGreatDoor
