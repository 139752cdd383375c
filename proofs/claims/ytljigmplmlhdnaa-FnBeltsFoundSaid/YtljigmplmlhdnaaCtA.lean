/- Contracts: the small predicates on numbers. -/
import Derived.Test.YtljigmplmlhdnaaBase
namespace Go.Proofs.Ytljigmplmlhdnaa
open Go.RowKit

set_option maxHeartbeats 400000 in
theorem between_any (a lo hi : Nat) (w : World) :
    Calls Try.prog 82 #[.float .f32 a, .float .f32 lo, .float .f32 hi] w fun e w' => e = .returned (.bool (betB a lo hi)) ∧ w = w' := by
  go_enter Try.func82, Try.ntmps82
  go_wp2
  all_goals (go_ret; exact ⟨by simp_all [betB], rfl⟩)

set_option maxHeartbeats 400000 in
theorem l01Same_any (a b : Nat) (w : World) :
    Calls Try.prog 72 #[.float .f32 a, .float .f32 b] w fun e w' => e = .returned (.bool (sameB a b)) ∧ w = w' := by
  rw [← same_spec]
  go_enter Try.func72, Try.ntmps72
  go_wp2
  all_goals (go_ret; exact ⟨by simp_all [natCast_beq], rfl⟩)

set_option maxHeartbeats 400000 in
theorem specSame_any (a b : Nat) (w : World) :
    Calls Try.prog 38 #[.float .f32 a, .float .f32 b] w fun e w' => e = .returned (.bool (sameB a b)) ∧ w = w' := by
  go_enter Try.func38, Try.ntmps38
  go_wp2_with (go_at_call 72; refine (l01Same_any _ _ _).mono ?_; rintro e w' ⟨rfl, rfl⟩)
  all_goals (go_ret; exact ⟨rfl, rfl⟩)

set_option maxHeartbeats 400000 in
theorem l02Radius_any (a : Nat) (w : World) :
    Calls Try.prog 80 #[.float .f32 a] w fun e w' => e = .returned (.bool (lengthB a)) ∧ w = w' := by
  go_enter Try.func80, Try.ntmps80
  go_wp2
  all_goals (go_ret; exact ⟨by simp_all [lengthB, betB], rfl⟩)

set_option maxHeartbeats 400000 in
theorem l01Plain_any (a : Nat) (w : World) :
    Calls Try.prog 56 #[.float .f32 a] w fun e w' => e = .returned (.bool (plainB a)) ∧ w = w' := by
  go_enter Try.func56, Try.ntmps56
  go_wp2
  all_goals (go_ret; exact ⟨by simp_all [plainB, betB], rfl⟩)

set_option maxHeartbeats 400000 in
theorem impl_isRadius_any (a : Nat) (w : World) :
    Calls Try.prog 68 #[.float .f32 a] w fun e w' => e = .returned (.bool (lengthB a)) ∧ w = w' := by
  go_enter Try.func68, Try.ntmps68
  go_wp2_with (go_at_call 82; refine (between_any _ _ _ _).mono ?_; rintro e w' ⟨rfl, rfl⟩)
  all_goals (go_ret; exact ⟨rfl, rfl⟩)

set_option maxHeartbeats 400000 in
theorem impl_IsPart_any (a : Nat) (w : World) :
    Calls Try.prog 76 #[.float .f32 a] w fun e w' => e = .returned (.bool (partB a)) ∧ w = w' := by
  go_enter Try.func76, Try.ntmps76
  go_wp2_with (go_at_call 82; refine (between_any _ _ _ _).mono ?_; rintro e w' ⟨rfl, rfl⟩)
  all_goals (go_ret; exact ⟨rfl, rfl⟩)

set_option maxHeartbeats 400000 in
theorem impl_IsPlain_any (a : Nat) (w : World) :
    Calls Try.prog 58 #[.float .f32 a] w fun e w' => e = .returned (.bool (plainB a)) ∧ w = w' := by
  go_enter Try.func58, Try.ntmps58
  go_wp2_with (go_at_call 82; refine (between_any _ _ _ _).mono ?_; rintro e w' ⟨rfl, rfl⟩)
  all_goals (go_ret; exact ⟨rfl, rfl⟩)

set_option maxHeartbeats 400000 in
theorem impl_isAmount_any (a : Nat) (w : World) :
    Calls Try.prog 63 #[.float .f32 a] w fun e w' => e = .returned (.bool (amountB a)) ∧ w = w' := by
  go_enter Try.func63, Try.ntmps63
  go_wp2_with (go_at_call 82; refine (between_any _ _ _ _).mono ?_; rintro e w' ⟨rfl, rfl⟩)
  all_goals (go_ret; exact ⟨rfl, rfl⟩)

end Go.Proofs.Ytljigmplmlhdnaa
