/- Contracts: the small predicates on numbers. -/
import Derived.Test.YtpfehomoikpbbaaBase
namespace Go.Proofs.Ytpfehomoikpbbaa
open Go.RowKit

set_option maxHeartbeats 400000 in
theorem between_any (a lo hi : Nat) (w : World) :
    Calls Try.prog 41 #[.float .f32 a, .float .f32 lo, .float .f32 hi] w fun e w' => e = .returned (.bool (betB a lo hi)) ∧ w = w' := by
  go_enter Try.func41, Try.ntmps41
  go_wp2
  all_goals (go_ret; exact ⟨by simp_all [betB], rfl⟩)

set_option maxHeartbeats 400000 in
theorem within_any (a lo hi : Int) (w : World) :
    Calls Try.prog 47 #[.int .i64 a, .int .i64 lo, .int .i64 hi] w fun e w' => e = .returned (.bool (withinB a lo hi)) ∧ w = w' := by
  go_enter Try.func47, Try.ntmps47
  go_wp2
  all_goals (go_ret; exact ⟨by simp_all [withinB] <;> omega, rfl⟩)

set_option maxHeartbeats 400000 in
theorem l00In_any (a lo hi : Int) (w : World) :
    Calls Try.prog 46 #[.int .i64 a, .int .i64 lo, .int .i64 hi] w fun e w' => e = .returned (.bool (withinB a lo hi)) ∧ w = w' := by
  go_enter Try.func46, Try.ntmps46
  go_wp2
  all_goals (go_ret; exact ⟨by simp_all [withinB] <;> omega, rfl⟩)

set_option maxHeartbeats 400000 in
theorem l01Same_any (a b : Nat) (w : World) :
    Calls Try.prog 44 #[.float .f32 a, .float .f32 b] w fun e w' => e = .returned (.bool (sameB a b)) ∧ w = w' := by
  rw [← same_spec]
  go_enter Try.func44, Try.ntmps44
  go_wp2
  all_goals (go_ret; exact ⟨by simp_all [natCast_beq], rfl⟩)

set_option maxHeartbeats 400000 in
theorem implSame_any (a b : Nat) (w : World) :
    Calls Try.prog 22 #[.float .f32 a, .float .f32 b] w fun e w' => e = .returned (.bool (sameB a b)) ∧ w = w' := by
  go_enter Try.func22, Try.ntmps22
  go_wp2
  all_goals (go_ret; exact ⟨by simp_all [natCast_beq, sameB], rfl⟩)

set_option maxHeartbeats 400000 in
theorem specSame_any (a b : Nat) (w : World) :
    Calls Try.prog 21 #[.float .f32 a, .float .f32 b] w fun e w' => e = .returned (.bool (sameB a b)) ∧ w = w' := by
  go_enter Try.func21, Try.ntmps21
  go_wp2_with (go_at_call 44; refine (l01Same_any _ _ _).mono ?_; rintro e w' ⟨rfl, rfl⟩)
  all_goals (go_ret; exact ⟨rfl, rfl⟩)

set_option maxHeartbeats 400000 in
theorem l03Length_any (a : Nat) (w : World) :
    Calls Try.prog 40 #[.float .f32 a] w fun e w' => e = .returned (.bool (lengthB a)) ∧ w = w' := by
  go_enter Try.func40, Try.ntmps40
  go_wp2
  all_goals (go_ret; exact ⟨by simp_all [lengthB, betB], rfl⟩)

set_option maxHeartbeats 400000 in
theorem l02Radius_any (a : Nat) (w : World) :
    Calls Try.prog 55 #[.float .f32 a] w fun e w' => e = .returned (.bool (lengthB a)) ∧ w = w' := by
  go_enter Try.func55, Try.ntmps55
  go_wp2
  all_goals (go_ret; exact ⟨by simp_all [lengthB, betB], rfl⟩)

set_option maxHeartbeats 400000 in
theorem l01Part_any (a : Nat) (w : World) :
    Calls Try.prog 42 #[.float .f32 a] w fun e w' => e = .returned (.bool (partB a)) ∧ w = w' := by
  go_enter Try.func42, Try.ntmps42
  go_wp2
  all_goals (go_ret; exact ⟨by simp_all [partB, betB], rfl⟩)

set_option maxHeartbeats 400000 in
theorem l01Plain_any (a : Nat) (w : World) :
    Calls Try.prog 43 #[.float .f32 a] w fun e w' => e = .returned (.bool (plainB a)) ∧ w = w' := by
  go_enter Try.func43, Try.ntmps43
  go_wp2
  all_goals (go_ret; exact ⟨by simp_all [plainB, betB], rfl⟩)

set_option maxHeartbeats 400000 in
theorem l03Speed_any (a : Nat) (w : World) :
    Calls Try.prog 54 #[.float .f32 a] w fun e w' => e = .returned (.bool (speedB a)) ∧ w = w' := by
  go_enter Try.func54, Try.ntmps54
  go_wp2
  all_goals (go_ret; exact ⟨by simp_all [speedB, betB], rfl⟩)

set_option maxHeartbeats 400000 in
theorem spec_IsLength_any (a : Nat) (w : World) :
    Calls Try.prog 15 #[.float .f32 a] w fun e w' => e = .returned (.bool (lengthB a)) ∧ w = w' := by
  go_enter Try.func15, Try.ntmps15
  go_wp2_with (go_at_call 40; refine (l03Length_any _ _).mono ?_; rintro e w' ⟨rfl, rfl⟩)
  all_goals (go_ret; exact ⟨rfl, rfl⟩)

set_option maxHeartbeats 400000 in
theorem impl_IsLength_any (a : Nat) (w : World) :
    Calls Try.prog 16 #[.float .f32 a] w fun e w' => e = .returned (.bool (lengthB a)) ∧ w = w' := by
  go_enter Try.func16, Try.ntmps16
  go_wp2_with (go_at_call 41; refine (between_any _ _ _ _).mono ?_; rintro e w' ⟨rfl, rfl⟩)
  all_goals (go_ret; exact ⟨rfl, rfl⟩)

set_option maxHeartbeats 400000 in
theorem impl_isRadius_any (a : Nat) (w : World) :
    Calls Try.prog 51 #[.float .f32 a] w fun e w' => e = .returned (.bool (lengthB a)) ∧ w = w' := by
  go_enter Try.func51, Try.ntmps51
  go_wp2_with (go_at_call 41; refine (between_any _ _ _ _).mono ?_; rintro e w' ⟨rfl, rfl⟩)
  all_goals (go_ret; exact ⟨rfl, rfl⟩)

set_option maxHeartbeats 400000 in
theorem spec_IsPart_any (a : Nat) (w : World) :
    Calls Try.prog 17 #[.float .f32 a] w fun e w' => e = .returned (.bool (partB a)) ∧ w = w' := by
  go_enter Try.func17, Try.ntmps17
  go_wp2_with (go_at_call 42; refine (l01Part_any _ _).mono ?_; rintro e w' ⟨rfl, rfl⟩)
  all_goals (go_ret; exact ⟨rfl, rfl⟩)

set_option maxHeartbeats 400000 in
theorem impl_IsPart_any (a : Nat) (w : World) :
    Calls Try.prog 18 #[.float .f32 a] w fun e w' => e = .returned (.bool (partB a)) ∧ w = w' := by
  go_enter Try.func18, Try.ntmps18
  go_wp2_with (go_at_call 41; refine (between_any _ _ _ _).mono ?_; rintro e w' ⟨rfl, rfl⟩)
  all_goals (go_ret; exact ⟨rfl, rfl⟩)

set_option maxHeartbeats 400000 in
theorem spec_IsPlain_any (a : Nat) (w : World) :
    Calls Try.prog 19 #[.float .f32 a] w fun e w' => e = .returned (.bool (plainB a)) ∧ w = w' := by
  go_enter Try.func19, Try.ntmps19
  go_wp2_with (go_at_call 43; refine (l01Plain_any _ _).mono ?_; rintro e w' ⟨rfl, rfl⟩)
  all_goals (go_ret; exact ⟨rfl, rfl⟩)

set_option maxHeartbeats 400000 in
theorem impl_IsPlain_any (a : Nat) (w : World) :
    Calls Try.prog 20 #[.float .f32 a] w fun e w' => e = .returned (.bool (plainB a)) ∧ w = w' := by
  go_enter Try.func20, Try.ntmps20
  go_wp2_with (go_at_call 41; refine (between_any _ _ _ _).mono ?_; rintro e w' ⟨rfl, rfl⟩)
  all_goals (go_ret; exact ⟨rfl, rfl⟩)

set_option maxHeartbeats 400000 in
theorem impl_isSpeed_any (a : Nat) (w : World) :
    Calls Try.prog 49 #[.float .f32 a] w fun e w' => e = .returned (.bool (speedB a)) ∧ w = w' := by
  go_enter Try.func49, Try.ntmps49
  go_wp2_with (go_at_call 41; refine (between_any _ _ _ _).mono ?_; rintro e w' ⟨rfl, rfl⟩)
  all_goals (go_ret; exact ⟨rfl, rfl⟩)

end Go.Proofs.Ytpfehomoikpbbaa
