/- Trains: whether two are the same; whether one is valid (the reference model). -/
import Derived.Test.YtljigmplmlhdnaaCtT
import Derived.Test.YtljigmplmlhdnaaDr
import Derived.Test.YtljigmplmlhdnaaLoose2
namespace Go.Proofs.Ytljigmplmlhdnaa
open Go.RowKit

theorem teq_refl (a : Nat) : sameB a a = true := by simp [sameB]
theorem teq_cn {x y : Nat} (h : cn x = cn y) : sameB x y = true := by
  have hn : isNan x = isNan y := by rw [← isNan_cn x, h, isNan_cn]
  cases hx : isNan x
  · rw [cn_of_num hx, cn_of_num (by rw [← hn]; exact hx)] at h
    simp [sameB, h]
  · simp [sameB, hx, ← hn]

/-- Two trains of the same numbers. -/
def SameT (ps qs : List T3) : Prop := ps.length = qs.length ∧ ∀ (i : Nat) (p q : T3), ps[i]? = some p → qs[i]? = some q → p.1 = q.1 ∧ p.2.1 = q.2.1 ∧ sameB p.2.2 q.2.2 = true
theorem SameT.refl (ps : List T3) : SameT ps ps := ⟨rfl, fun i p q h1 h2 => by
  rw [h1] at h2
  cases h2
  exact ⟨rfl, rfl, teq_refl _⟩⟩

theorem tr_of_own {w : World} {base : Nat} {e : TypeId} {g cap : Nat} {ps : List T3} (h : w.ownsRow base e 3 (.slice (some ⟨g, 0, none⟩) ps.length cap) ps.length (cellsT ps)) (hk : ∀ p ∈ ps, TOk p) : Tr w (.slice (some ⟨g, 0, none⟩) ps.length cap) ps := by
  have hv := own_val h
  rcases hv with ⟨h1, _⟩ | ⟨g', cap', h1, _, h2, h3, h4⟩
  · cases h1
  · injection h1 with h5 _ h6
    injection h5 with h5
    injection h5 with h5
    subst h5 h6
    refine ⟨_, _, rfl, by omega, hk, fun _ => ⟨g, 0, rfl, h2, fun i p hp => ?_⟩⟩
    obtain ⟨g0, g1, g2⟩ := cellsT_get ps i p hp
    have a0 := own_cell h g0
    have a1 := own_cell h g1
    have a2 := own_cell h g2
    simpa using ⟨a0, a1, a2⟩

/-- Whether a pair is one. -/
def pairB (p : T3) : Bool := withinB p.1 6 200 && withinB p.2.1 6 200 && partB p.2.2
def trainB (ps : List T3) : Bool := withinB ps.length 1 8 && ps.all pairB

end Go.Proofs.Ytljigmplmlhdnaa
