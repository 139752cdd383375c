/- Contracts: a belt with both pulleys exchanged; when two belts are the same. -/
import Derived.Test.YtljigmplmlhdnaaCtH
import Derived.Test.YtljigmplmlhdnaaSm
import Derived.Test.YtljigmplmlhdnaaDr
namespace Go.Proofs.Ytljigmplmlhdnaa
open Go.RowKit

theorem BeltAt.alloc {w : World} {p o a b c d : Nat} {x : Bool} (h : BeltAt w p o a b c d x) (hp : p < w.heap.size) (ob : Obj) : BeltAt (w.alloc ob) p o a b c d x := by
  obtain ⟨h0, h1, h2, h3, h4⟩ := h
  refine ⟨?_, ?_, ?_, ?_, ?_⟩ <;> rw [World.cell?_alloc_past] <;> assumption

set_option maxHeartbeats 400000 in
theorem implValidBelt_ex (a b c d : Nat) (x : Bool) (w : World) :
    Calls Try.prog 49 #[.agg #[.float .f32 a, .float .f32 b, .float .f32 c, .float .f32 d, .bool x]] w fun e w' => e = .returned (.bool (beltB a b c d)) ∧ ∃ n, (w.alloc (.cells #[.float .f32 a, .float .f32 b, .float .f32 c, .float .f32 d, .bool x] 31)).drewN n = w' := by
  go_enter Try.func49, Try.ntmps49
  go_wp2_with (first | (go_at_call 68; refine (impl_isRadius_any _ _).mono ?_; rintro e w' ⟨rfl, rfl⟩) | (go_at_call 82; refine (between_any _ _ _ _).mono ?_; rintro e w' ⟨rfl, rfl⟩))
  all_goals first | (go_ret; exact ⟨by simp_all [beltB, betB], _, rfl⟩) | (go_ret; exact ⟨by simp_all [beltB, betB], 0, rfl⟩)

end Go.Proofs.Ytljigmplmlhdnaa
