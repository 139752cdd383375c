/- Contracts: the small predicates on numbers. -/
import Derived.Test.YtmoilahabbfjeaaBase
namespace Go.Proofs.Ytmoilahabbfjeaa
open Go.RowKit

set_option maxHeartbeats 400000 in
theorem between_any (a lo hi : Nat) (w : World) :
    Calls Try.prog 76 #[.float .f32 a, .float .f32 lo, .float .f32 hi] w fun e w' => e = .returned (.bool (betB a lo hi)) ∧ w = w' := by
  go_enter Try.func76, Try.ntmps76
  go_wp2
  all_goals (go_ret; exact ⟨by simp_all [betB], rfl⟩)

set_option maxHeartbeats 400000 in
theorem within_any (a lo hi : Int) (w : World) :
    Calls Try.prog 82 #[.int .i64 a, .int .i64 lo, .int .i64 hi] w fun e w' => e = .returned (.bool (withinB a lo hi)) ∧ w = w' := by
  go_enter Try.func82, Try.ntmps82
  go_wp2
  all_goals (go_ret; exact ⟨by simp_all [withinB] <;> omega, rfl⟩)

set_option maxHeartbeats 400000 in
theorem l00In_any (a lo hi : Int) (w : World) :
    Calls Try.prog 81 #[.int .i64 a, .int .i64 lo, .int .i64 hi] w fun e w' => e = .returned (.bool (withinB a lo hi)) ∧ w = w' := by
  go_enter Try.func81, Try.ntmps81
  go_wp2
  all_goals (go_ret; exact ⟨by simp_all [withinB] <;> omega, rfl⟩)

set_option maxHeartbeats 400000 in
theorem l03Length_any (a : Nat) (w : World) :
    Calls Try.prog 45 #[.float .f32 a] w fun e w' => e = .returned (.bool (lengthB a)) ∧ w = w' := by
  go_enter Try.func45, Try.ntmps45
  go_wp2
  all_goals (go_ret; exact ⟨by simp_all [lengthB, betB], rfl⟩)

set_option maxHeartbeats 400000 in
theorem l02Radius_any (a : Nat) (w : World) :
    Calls Try.prog 84 #[.float .f32 a] w fun e w' => e = .returned (.bool (lengthB a)) ∧ w = w' := by
  go_enter Try.func84, Try.ntmps84
  go_wp2
  all_goals (go_ret; exact ⟨by simp_all [lengthB, betB], rfl⟩)

set_option maxHeartbeats 400000 in
theorem l01Part_any (a : Nat) (w : World) :
    Calls Try.prog 46 #[.float .f32 a] w fun e w' => e = .returned (.bool (partB a)) ∧ w = w' := by
  go_enter Try.func46, Try.ntmps46
  go_wp2
  all_goals (go_ret; exact ⟨by simp_all [partB, betB], rfl⟩)

set_option maxHeartbeats 400000 in
theorem l01Plain_any (a : Nat) (w : World) :
    Calls Try.prog 89 #[.float .f32 a] w fun e w' => e = .returned (.bool (plainB a)) ∧ w = w' := by
  go_enter Try.func89, Try.ntmps89
  go_wp2
  all_goals (go_ret; exact ⟨by simp_all [plainB, betB], rfl⟩)

set_option maxHeartbeats 400000 in
theorem l03Speed_any (a : Nat) (w : World) :
    Calls Try.prog 90 #[.float .f32 a] w fun e w' => e = .returned (.bool (speedB a)) ∧ w = w' := by
  go_enter Try.func90, Try.ntmps90
  go_wp2
  all_goals (go_ret; exact ⟨by simp_all [speedB, betB], rfl⟩)

set_option maxHeartbeats 400000 in
theorem impl_IsLength_any (a : Nat) (w : World) :
    Calls Try.prog 48 #[.float .f32 a] w fun e w' => e = .returned (.bool (lengthB a)) ∧ w = w' := by
  go_enter Try.func48, Try.ntmps48
  go_wp2_with (go_at_call 76; refine (between_any _ _ _ _).mono ?_; rintro e w' ⟨rfl, rfl⟩)
  all_goals (go_ret; exact ⟨rfl, rfl⟩)

set_option maxHeartbeats 400000 in
theorem impl_isRadius_any (a : Nat) (w : World) :
    Calls Try.prog 85 #[.float .f32 a] w fun e w' => e = .returned (.bool (lengthB a)) ∧ w = w' := by
  go_enter Try.func85, Try.ntmps85
  go_wp2_with (go_at_call 76; refine (between_any _ _ _ _).mono ?_; rintro e w' ⟨rfl, rfl⟩)
  all_goals (go_ret; exact ⟨rfl, rfl⟩)

set_option maxHeartbeats 400000 in
theorem impl_IsPart_any (a : Nat) (w : World) :
    Calls Try.prog 49 #[.float .f32 a] w fun e w' => e = .returned (.bool (partB a)) ∧ w = w' := by
  go_enter Try.func49, Try.ntmps49
  go_wp2_with (go_at_call 76; refine (between_any _ _ _ _).mono ?_; rintro e w' ⟨rfl, rfl⟩)
  all_goals (go_ret; exact ⟨rfl, rfl⟩)

set_option maxHeartbeats 400000 in
theorem impl_IsPlain_any (a : Nat) (w : World) :
    Calls Try.prog 69 #[.float .f32 a] w fun e w' => e = .returned (.bool (plainB a)) ∧ w = w' := by
  go_enter Try.func69, Try.ntmps69
  go_wp2_with (go_at_call 76; refine (between_any _ _ _ _).mono ?_; rintro e w' ⟨rfl, rfl⟩)
  all_goals (go_ret; exact ⟨rfl, rfl⟩)

set_option maxHeartbeats 400000 in
theorem impl_isSpeed_any (a : Nat) (w : World) :
    Calls Try.prog 91 #[.float .f32 a] w fun e w' => e = .returned (.bool (speedB a)) ∧ w = w' := by
  go_enter Try.func91, Try.ntmps91
  go_wp2_with (go_at_call 76; refine (between_any _ _ _ _).mono ?_; rintro e w' ⟨rfl, rfl⟩)
  all_goals (go_ret; exact ⟨rfl, rfl⟩)

set_option maxHeartbeats 400000 in
theorem l02Tight_any (a : Nat) (w : World) :
    Calls Try.prog 88 #[.float .f32 a] w fun e w' => e = .returned (.bool (amountB a)) ∧ w = w' := by
  go_enter Try.func88, Try.ntmps88
  go_wp2
  all_goals (go_ret; exact ⟨by simp_all [amountB, betB], rfl⟩)

set_option maxHeartbeats 400000 in
theorem l03Amount_any (a : Nat) (w : World) :
    Calls Try.prog 44 #[.float .f32 a] w fun e w' => e = .returned (.bool (amountB a)) ∧ w = w' := by
  go_enter Try.func44, Try.ntmps44
  go_wp2
  all_goals (go_ret; exact ⟨by simp_all [amountB, betB], rfl⟩)

set_option maxHeartbeats 400000 in
theorem impl_isAmount_any (a : Nat) (w : World) :
    Calls Try.prog 47 #[.float .f32 a] w fun e w' => e = .returned (.bool (amountB a)) ∧ w = w' := by
  go_enter Try.func47, Try.ntmps47
  go_wp2_with (go_at_call 76; refine (between_any _ _ _ _).mono ?_; rintro e w' ⟨rfl, rfl⟩)
  all_goals (go_ret; exact ⟨rfl, rfl⟩)

end Go.Proofs.Ytmoilahabbfjeaa
