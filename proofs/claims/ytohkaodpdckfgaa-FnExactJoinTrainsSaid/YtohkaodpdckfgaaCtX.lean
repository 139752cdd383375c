/- Trains: a world that has grown. -/
import Derived.Test.YtohkaodpdckfgaaCtV
namespace Go.Proofs.Ytohkaodpdckfgaa
open Go.RowKit

set_option maxHeartbeats 400000 in
theorem specValidTrain_any (ps : List T3) (v : Value) (w : World) (hv : Tr w v ps) :
    Calls Try.prog 16 #[v] w fun e w' => e = .returned (.bool (trainB ps)) ∧ w = w' := by
  go_enter Try.func16, Try.ntmps16
  go_wp2_with (go_at_call 48; refine (l01Ok_any ps _ _ hv).mono ?_; rintro e w' ⟨rfl, rfl⟩)
  all_goals (go_ret; exact ⟨rfl, rfl⟩)

/-- 'toTrain' as a walk takes it. -/
theorem toTrain_tr (ps : List T3) (v : Value) (w : World) (h : Tr w v ps) (hlen : ps.length ≤ 1048576) :
    Calls Try.prog 17 #[v] w fun e w' => ∃ u, e = .returned u ∧ Tr w' u ps ∧ Below w.heap.size w w' := by
  refine (toTrain_any ps v w h hlen).mono ?_
  rintro e w' ⟨g, hg, rfl, ho, hb⟩
  obtain ⟨a, cap, _, _, hk, _⟩ := h
  exact ⟨_, rfl, tr_of_own ho hk, hb⟩

theorem below_of_drewN {w w' : World} {n : Nat} (h : w.drewN n = w') : Below w.heap.size w w' := by
  rw [← h]
  exact below_drewN (Below.refl _ _) _

end Go.Proofs.Ytohkaodpdckfgaa
