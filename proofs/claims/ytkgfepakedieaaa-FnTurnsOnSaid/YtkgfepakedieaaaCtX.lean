/- Trains: a world that has grown. -/
import Derived.Test.YtkgfepakedieaaaCtV
namespace Go.Proofs.Ytkgfepakedieaaa
open Go.RowKit

/-- 'toTrain' as a walk takes it. -/
theorem toTrain_tr (ps : List T3) (v : Value) (w : World) (h : Tr w v ps) (hlen : ps.length ≤ 1048576) :
    Calls Try.prog 10 #[v] w fun e w' => ∃ u, e = .returned u ∧ Tr w' u ps ∧ Below w.heap.size w w' := by
  refine (toTrain_any ps v w h hlen).mono ?_
  rintro e w' ⟨g, hg, rfl, ho, hb⟩
  obtain ⟨a, cap, _, _, hk, _⟩ := h
  exact ⟨_, rfl, tr_of_own ho hk, hb⟩

theorem below_of_drewN {w w' : World} {n : Nat} (h : w.drewN n = w') : Below w.heap.size w w' := by
  rw [← h]
  exact below_drewN (Below.refl _ _) _

end Go.Proofs.Ytkgfepakedieaaa
