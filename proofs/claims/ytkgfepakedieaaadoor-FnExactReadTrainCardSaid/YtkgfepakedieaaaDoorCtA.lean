/- Contracts: the small predicates on numbers. -/
import Derived.Test.YtkgfepakedieaaaDoorBase
namespace Go.Proofs.YtkgfepakedieaaaDoor
open Go.RowKit

set_option maxHeartbeats 400000 in
theorem between_any (a lo hi : Nat) (w : World) :
    Calls Tryd.prog 52 #[.float .f32 a, .float .f32 lo, .float .f32 hi] w fun e w' => e = .returned (.bool (betB a lo hi)) ∧ w = w' := by
  go_enter Tryd.func52, Tryd.ntmps52
  go_wp2
  all_goals (go_ret; exact ⟨by simp_all [betB], rfl⟩)

set_option maxHeartbeats 400000 in
theorem within_any (a lo hi : Int) (w : World) :
    Calls Tryd.prog 34 #[.int .i64 a, .int .i64 lo, .int .i64 hi] w fun e w' => e = .returned (.bool (withinB a lo hi)) ∧ w = w' := by
  go_enter Tryd.func34, Tryd.ntmps34
  go_wp2
  all_goals (go_ret; exact ⟨by simp_all [withinB] <;> omega, rfl⟩)

set_option maxHeartbeats 400000 in
theorem l00In_any (a lo hi : Int) (w : World) :
    Calls Tryd.prog 30 #[.int .i64 a, .int .i64 lo, .int .i64 hi] w fun e w' => e = .returned (.bool (withinB a lo hi)) ∧ w = w' := by
  go_enter Tryd.func30, Tryd.ntmps30
  go_wp2
  all_goals (go_ret; exact ⟨by simp_all [withinB] <;> omega, rfl⟩)

set_option maxHeartbeats 400000 in
theorem l01Part_any (a : Nat) (w : World) :
    Calls Tryd.prog 31 #[.float .f32 a] w fun e w' => e = .returned (.bool (partB a)) ∧ w = w' := by
  go_enter Tryd.func31, Tryd.ntmps31
  go_wp2
  all_goals (go_ret; exact ⟨by simp_all [partB, betB], rfl⟩)

set_option maxHeartbeats 400000 in
theorem impl_IsPart_any (a : Nat) (w : World) :
    Calls Tryd.prog 38 #[.float .f32 a] w fun e w' => e = .returned (.bool (partB a)) ∧ w = w' := by
  go_enter Tryd.func38, Tryd.ntmps38
  go_wp2_with (go_at_call 52; refine (between_any _ _ _ _).mono ?_; rintro e w' ⟨rfl, rfl⟩)
  all_goals (go_ret; exact ⟨rfl, rfl⟩)

end Go.Proofs.YtkgfepakedieaaaDoor
