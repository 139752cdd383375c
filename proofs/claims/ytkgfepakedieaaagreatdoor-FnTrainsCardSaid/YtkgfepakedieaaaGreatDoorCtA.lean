/- Contracts: the small predicates on numbers. -/
import Derived.Test.YtkgfepakedieaaaGreatDoorBase
namespace Go.Proofs.YtkgfepakedieaaaGreatDoor
open Go.RowKit

set_option maxHeartbeats 400000 in
theorem between_any (a lo hi : Nat) (w : World) :
    Calls Tryz.prog 48 #[.float .f32 a, .float .f32 lo, .float .f32 hi] w fun e w' => e = .returned (.bool (betB a lo hi)) ∧ w = w' := by
  go_enter Tryz.func48, Tryz.ntmps48
  go_wp2
  all_goals (go_ret; exact ⟨by simp_all [betB], rfl⟩)

set_option maxHeartbeats 400000 in
theorem within_any (a lo hi : Int) (w : World) :
    Calls Tryz.prog 44 #[.int .i64 a, .int .i64 lo, .int .i64 hi] w fun e w' => e = .returned (.bool (withinB a lo hi)) ∧ w = w' := by
  go_enter Tryz.func44, Tryz.ntmps44
  go_wp2
  all_goals (go_ret; exact ⟨by simp_all [withinB] <;> omega, rfl⟩)

set_option maxHeartbeats 400000 in
theorem l00In_any (a lo hi : Int) (w : World) :
    Calls Tryz.prog 72 #[.int .i64 a, .int .i64 lo, .int .i64 hi] w fun e w' => e = .returned (.bool (withinB a lo hi)) ∧ w = w' := by
  go_enter Tryz.func72, Tryz.ntmps72
  go_wp2
  all_goals (go_ret; exact ⟨by simp_all [withinB] <;> omega, rfl⟩)

set_option maxHeartbeats 400000 in
theorem l01Same_any (a b : Nat) (w : World) :
    Calls Tryz.prog 40 #[.float .f32 a, .float .f32 b] w fun e w' => e = .returned (.bool (sameB a b)) ∧ w = w' := by
  rw [← same_spec]
  go_enter Tryz.func40, Tryz.ntmps40
  go_wp2
  all_goals (go_ret; exact ⟨by simp_all [natCast_beq], rfl⟩)

set_option maxHeartbeats 400000 in
theorem implSame_any (a b : Nat) (w : World) :
    Calls Tryz.prog 14 #[.float .f32 a, .float .f32 b] w fun e w' => e = .returned (.bool (sameB a b)) ∧ w = w' := by
  go_enter Tryz.func14, Tryz.ntmps14
  go_wp2
  all_goals (go_ret; exact ⟨by simp_all [natCast_beq, sameB], rfl⟩)

set_option maxHeartbeats 400000 in
theorem specSame_any (a b : Nat) (w : World) :
    Calls Tryz.prog 13 #[.float .f32 a, .float .f32 b] w fun e w' => e = .returned (.bool (sameB a b)) ∧ w = w' := by
  go_enter Tryz.func13, Tryz.ntmps13
  go_wp2_with (go_at_call 40; refine (l01Same_any _ _ _).mono ?_; rintro e w' ⟨rfl, rfl⟩)
  all_goals (go_ret; exact ⟨rfl, rfl⟩)

set_option maxHeartbeats 400000 in
theorem l01Part_any (a : Nat) (w : World) :
    Calls Tryz.prog 49 #[.float .f32 a] w fun e w' => e = .returned (.bool (partB a)) ∧ w = w' := by
  go_enter Tryz.func49, Tryz.ntmps49
  go_wp2
  all_goals (go_ret; exact ⟨by simp_all [partB, betB], rfl⟩)

set_option maxHeartbeats 400000 in
theorem l01Plain_any (a : Nat) (w : World) :
    Calls Tryz.prog 50 #[.float .f32 a] w fun e w' => e = .returned (.bool (plainB a)) ∧ w = w' := by
  go_enter Tryz.func50, Tryz.ntmps50
  go_wp2
  all_goals (go_ret; exact ⟨by simp_all [plainB, betB], rfl⟩)

set_option maxHeartbeats 400000 in
theorem spec_IsPart_any (a : Nat) (w : World) :
    Calls Tryz.prog 19 #[.float .f32 a] w fun e w' => e = .returned (.bool (partB a)) ∧ w = w' := by
  go_enter Tryz.func19, Tryz.ntmps19
  go_wp2_with (go_at_call 49; refine (l01Part_any _ _).mono ?_; rintro e w' ⟨rfl, rfl⟩)
  all_goals (go_ret; exact ⟨rfl, rfl⟩)

set_option maxHeartbeats 400000 in
theorem impl_IsPart_any (a : Nat) (w : World) :
    Calls Tryz.prog 18 #[.float .f32 a] w fun e w' => e = .returned (.bool (partB a)) ∧ w = w' := by
  go_enter Tryz.func18, Tryz.ntmps18
  go_wp2_with (go_at_call 48; refine (between_any _ _ _ _).mono ?_; rintro e w' ⟨rfl, rfl⟩)
  all_goals (go_ret; exact ⟨rfl, rfl⟩)

set_option maxHeartbeats 400000 in
theorem spec_IsPlain_any (a : Nat) (w : World) :
    Calls Tryz.prog 21 #[.float .f32 a] w fun e w' => e = .returned (.bool (plainB a)) ∧ w = w' := by
  go_enter Tryz.func21, Tryz.ntmps21
  go_wp2_with (go_at_call 50; refine (l01Plain_any _ _).mono ?_; rintro e w' ⟨rfl, rfl⟩)
  all_goals (go_ret; exact ⟨rfl, rfl⟩)

set_option maxHeartbeats 400000 in
theorem impl_IsPlain_any (a : Nat) (w : World) :
    Calls Tryz.prog 20 #[.float .f32 a] w fun e w' => e = .returned (.bool (plainB a)) ∧ w = w' := by
  go_enter Tryz.func20, Tryz.ntmps20
  go_wp2_with (go_at_call 48; refine (between_any _ _ _ _).mono ?_; rintro e w' ⟨rfl, rfl⟩)
  all_goals (go_ret; exact ⟨rfl, rfl⟩)

end Go.Proofs.YtkgfepakedieaaaGreatDoor
