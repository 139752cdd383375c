/- Contracts: the power of water; the radius of a wheel. -/
import Derived.Test.YtmoilahabbfjeaaCtA
import Derived.Test.YtmoilahabbfjeaaLoose2
import Derived.Laws.Cover2
import Derived.Lib.Hide
namespace Go.Proofs.Ytmoilahabbfjeaa
open Go.RowKit

def powerC (f h p : Nat) : Nat := cop .mul (cop .mul (cop .mul f h) 1092419584) p
def waterB (f h p : Nat) : Bool := amountB f && lengthB h && partB p
def waterK (f h p : Nat) : Int := if waterB f h p then 0 else 2
def waterV (f h p : Nat) : Nat := if waterB f h p then powerC f h p else 0
theorem cnR_zero : cn 0 = 0 := by decide +kernel

set_option maxHeartbeats 1000000 in
theorem implWaterPower_any (f h p : Nat) (w : World) :
    Calls Try.prog 16 #[.float .f32 f, .float .f32 h, .float .f32 p] w fun e w' => ∃ r n, e = .returned (.tuple #[.float .f32 r, .int .i64 (waterK f h p)]) ∧ cn r = waterV f h p ∧ r < 2 ^ 32 ∧ w.drewN n = w' := by
  go_enter Try.func16, Try.ntmps16
  cases h1 : amountB f
  · go_wp2_with (first | (go_at_call 47; refine (impl_isAmount_any _ _).mono ?_; rintro e w' ⟨rfl, rfl⟩) | (go_at_call 48; refine (impl_IsLength_any _ _).mono ?_; rintro e w' ⟨rfl, rfl⟩) | (go_at_call 49; refine (impl_IsPart_any _ _).mono ?_; rintro e w' ⟨rfl, rfl⟩))
    all_goals (go_ret2; exact ⟨0, 0, by simp [waterK, waterV, waterB, h1], by simp [waterK, waterV, waterB, h1, cnR_zero], by omega, rfl⟩)
  · cases h2 : lengthB h
    · go_wp2_with (first | (go_at_call 47; refine (impl_isAmount_any _ _).mono ?_; rintro e w' ⟨rfl, rfl⟩) | (go_at_call 48; refine (impl_IsLength_any _ _).mono ?_; rintro e w' ⟨rfl, rfl⟩) | (go_at_call 49; refine (impl_IsPart_any _ _).mono ?_; rintro e w' ⟨rfl, rfl⟩))
      all_goals (go_ret2; exact ⟨0, 0, by simp [waterK, waterV, waterB, h2], by simp [waterK, waterV, waterB, h2, cnR_zero], by omega, rfl⟩)
    · cases h3 : partB p
      · go_wp2_with (first | (go_at_call 47; refine (impl_isAmount_any _ _).mono ?_; rintro e w' ⟨rfl, rfl⟩) | (go_at_call 48; refine (impl_IsLength_any _ _).mono ?_; rintro e w' ⟨rfl, rfl⟩) | (go_at_call 49; refine (impl_IsPart_any _ _).mono ?_; rintro e w' ⟨rfl, rfl⟩))
        all_goals (go_ret2; exact ⟨0, 0, by simp [waterK, waterV, waterB, h3], by simp [waterK, waterV, waterB, h3, cnR_zero], by omega, rfl⟩)
      · go_wp2_with (first | (go_at_call 47; refine (impl_isAmount_any _ _).mono ?_; rintro e w' ⟨rfl, rfl⟩) | (go_at_call 48; refine (impl_IsLength_any _ _).mono ?_; rintro e w' ⟨rfl, rfl⟩) | (go_at_call 49; refine (impl_IsPart_any _ _).mono ?_; rintro e w' ⟨rfl, rfl⟩))
        all_goals (go_ret2; exact ⟨_, _, by simp [waterK, waterV, waterB, h1, h2, h3]; rfl, by simp [waterK, waterV, waterB, h1, h2, h3, powerC], Loose.op_lt' _, rfl⟩)

set_option maxHeartbeats 1000000 in
theorem specWaterPower_any (f h p : Nat) (w : World) :
    Calls Try.prog 15 #[.float .f32 f, .float .f32 h, .float .f32 p] w fun e w' => ∃ r n, e = .returned (.tuple #[.float .f32 r, .int .i64 (waterK f h p)]) ∧ cn r = waterV f h p ∧ r < 2 ^ 32 ∧ w.drewN n = w' := by
  go_enter Try.func15, Try.ntmps15
  cases h1 : amountB f
  · go_wp2_with (first | (go_at_call 44; refine (l03Amount_any _ _).mono ?_; rintro e w' ⟨rfl, rfl⟩) | (go_at_call 45; refine (l03Length_any _ _).mono ?_; rintro e w' ⟨rfl, rfl⟩) | (go_at_call 46; refine (l01Part_any _ _).mono ?_; rintro e w' ⟨rfl, rfl⟩))
    all_goals (go_ret2; exact ⟨0, 0, by simp [waterK, waterV, waterB, h1], by simp [waterK, waterV, waterB, h1, cnR_zero], by omega, rfl⟩)
  · cases h2 : lengthB h
    · go_wp2_with (first | (go_at_call 44; refine (l03Amount_any _ _).mono ?_; rintro e w' ⟨rfl, rfl⟩) | (go_at_call 45; refine (l03Length_any _ _).mono ?_; rintro e w' ⟨rfl, rfl⟩) | (go_at_call 46; refine (l01Part_any _ _).mono ?_; rintro e w' ⟨rfl, rfl⟩))
      all_goals (go_ret2; exact ⟨0, 0, by simp [waterK, waterV, waterB, h2], by simp [waterK, waterV, waterB, h2, cnR_zero], by omega, rfl⟩)
    · cases h3 : partB p
      · go_wp2_with (first | (go_at_call 44; refine (l03Amount_any _ _).mono ?_; rintro e w' ⟨rfl, rfl⟩) | (go_at_call 45; refine (l03Length_any _ _).mono ?_; rintro e w' ⟨rfl, rfl⟩) | (go_at_call 46; refine (l01Part_any _ _).mono ?_; rintro e w' ⟨rfl, rfl⟩))
        all_goals (go_ret2; exact ⟨0, 0, by simp [waterK, waterV, waterB, h3], by simp [waterK, waterV, waterB, h3, cnR_zero], by omega, rfl⟩)
      · go_wp2_with (first | (go_at_call 44; refine (l03Amount_any _ _).mono ?_; rintro e w' ⟨rfl, rfl⟩) | (go_at_call 45; refine (l03Length_any _ _).mono ?_; rintro e w' ⟨rfl, rfl⟩) | (go_at_call 46; refine (l01Part_any _ _).mono ?_; rintro e w' ⟨rfl, rfl⟩))
        all_goals (go_ret2; exact ⟨_, _, by simp [waterK, waterV, waterB, h1, h2, h3]; rfl, by simp [waterK, waterV, waterB, h1, h2, h3, powerC], Loose.op_lt' _, rfl⟩)

def moduleB (a : Nat) : Bool := betB a 1031798784 1115684864
def radC (n : Int) (m : Nat) : Nat := cop .quo (cop .mul (floatOfInt .f32 n) m) 1073741824
def radB (n : Int) (m : Nat) : Bool := withinB n 6 200 && moduleB m
def radK (n : Int) (m : Nat) : Int := if radB n m then 0 else 2
def radV (n : Int) (m : Nat) : Nat := if radB n m then radC n m else 0

set_option maxHeartbeats 400000 in
theorem areTeethR_any (n : Int) (w : World) :
    Calls Try.prog 53 #[.int .i64 n] w fun e w' => e = .returned (.bool (withinB n 6 200)) ∧ w = w' := by
  go_enter Try.func53, Try.ntmps53
  go_wp2_with (go_at_call 82; refine (within_any _ _ _ _).mono ?_; rintro e w' ⟨rfl, rfl⟩)
  all_goals (go_ret; exact ⟨rfl, rfl⟩)

set_option maxHeartbeats 400000 in
theorem l01TeethR_any (n : Int) (w : World) :
    Calls Try.prog 50 #[.int .i64 n] w fun e w' => e = .returned (.bool (withinB n 6 200)) ∧ w = w' := by
  go_enter Try.func50, Try.ntmps50
  go_wp2_with (go_at_call 81; refine (l00In_any _ _ _ _).mono ?_; rintro e w' ⟨rfl, rfl⟩)
  all_goals (go_ret; exact ⟨rfl, rfl⟩)

set_option maxHeartbeats 400000 in
theorem isModule_any (a : Nat) (w : World) :
    Calls Try.prog 54 #[.float .f32 a] w fun e w' => e = .returned (.bool (moduleB a)) ∧ w = w' := by
  go_enter Try.func54, Try.ntmps54
  go_wp2_with (go_at_call 76; refine (between_any _ _ _ _).mono ?_; rintro e w' ⟨rfl, rfl⟩)
  all_goals (go_ret; exact ⟨rfl, rfl⟩)

set_option maxHeartbeats 400000 in
theorem l01Module_any (a : Nat) (w : World) :
    Calls Try.prog 51 #[.float .f32 a] w fun e w' => e = .returned (.bool (moduleB a)) ∧ w = w' := by
  go_enter Try.func51, Try.ntmps51
  go_wp2
  all_goals (go_ret; exact ⟨by simp_all [moduleB, betB], rfl⟩)

set_option maxHeartbeats 400000 in
theorem radius_any (n : Int) (m : Nat) (w : World) :
    Calls Try.prog 55 #[.int .i64 n, .float .f32 m] w fun e w' => ∃ r k, e = .returned (.float .f32 r) ∧ cn r = radC n m ∧ r < 2 ^ 32 ∧ w.drewN k = w' := by
  go_enter Try.func55, Try.ntmps55
  go_wp2
  all_goals (go_ret; exact ⟨_, _, rfl, by simp [radC], Loose.op_lt' _, rfl⟩)

set_option maxHeartbeats 400000 in
theorem l01Radius_any (n : Int) (m : Nat) (w : World) :
    Calls Try.prog 52 #[.int .i64 n, .float .f32 m] w fun e w' => ∃ r k, e = .returned (.float .f32 r) ∧ cn r = radC n m ∧ r < 2 ^ 32 ∧ w.drewN k = w' := by
  go_enter Try.func52, Try.ntmps52
  go_wp2
  all_goals (go_ret; exact ⟨_, _, rfl, by simp [radC], Loose.op_lt' _, rfl⟩)

set_option maxHeartbeats 400000 in
theorem implRadiusOf_any (n : Int) (m : Nat) (w : World) :
    Calls Try.prog 19 #[.int .i64 n, .float .f32 m] w fun e w' => ∃ r k, e = .returned (.tuple #[.float .f32 r, .int .i64 (radK n m)]) ∧ cn r = radV n m ∧ r < 2 ^ 32 ∧ w.drewN k = w' := by
  go_enter Try.func19, Try.ntmps19
  cases h1 : withinB n 6 200
  · go_wp2_with (first | (go_at_call 53; refine (areTeethR_any _ _).mono ?_; rintro e w' ⟨rfl, rfl⟩) | (go_at_call 54; refine (isModule_any _ _).mono ?_; rintro e w' ⟨rfl, rfl⟩))
    all_goals (go_ret2; exact ⟨0, 0, by simp [radK, radV, radB, h1], by simp [radK, radV, radB, h1, cnR_zero], by omega, rfl⟩)
  · cases h2 : moduleB m
    · go_wp2_with (first | (go_at_call 53; refine (areTeethR_any _ _).mono ?_; rintro e w' ⟨rfl, rfl⟩) | (go_at_call 54; refine (isModule_any _ _).mono ?_; rintro e w' ⟨rfl, rfl⟩))
      all_goals (go_ret2; exact ⟨0, 0, by simp [radK, radV, radB, h2], by simp [radK, radV, radB, h2, cnR_zero], by omega, rfl⟩)
    · go_wp2_with (first | (go_at_call 53; refine (areTeethR_any _ _).mono ?_; rintro e w' ⟨rfl, rfl⟩) | (go_at_call 54; refine (isModule_any _ _).mono ?_; rintro e w' ⟨rfl, rfl⟩) | (go_at_call 55; refine (radius_any _ _ _).mono ?_; (rintro e w2 ⟨r, k, rfl, hr, hl, rfl⟩; have HR := Lib.hid hr; clear hr)))
      all_goals (go_ret2; exact ⟨_, _, by simp [radK, radV, radB, h1, h2], by simp [radK, radV, radB, h1, h2, HR.out], hl, rfl⟩)

set_option maxHeartbeats 400000 in
theorem specRadiusOf_any (n : Int) (m : Nat) (w : World) :
    Calls Try.prog 18 #[.int .i64 n, .float .f32 m] w fun e w' => ∃ r k, e = .returned (.tuple #[.float .f32 r, .int .i64 (radK n m)]) ∧ cn r = radV n m ∧ r < 2 ^ 32 ∧ w.drewN k = w' := by
  go_enter Try.func18, Try.ntmps18
  cases h1 : withinB n 6 200
  · go_wp2_with (first | (go_at_call 50; refine (l01TeethR_any _ _).mono ?_; rintro e w' ⟨rfl, rfl⟩) | (go_at_call 51; refine (l01Module_any _ _).mono ?_; rintro e w' ⟨rfl, rfl⟩))
    all_goals (go_ret2; exact ⟨0, 0, by simp [radK, radV, radB, h1], by simp [radK, radV, radB, h1, cnR_zero], by omega, rfl⟩)
  · cases h2 : moduleB m
    · go_wp2_with (first | (go_at_call 50; refine (l01TeethR_any _ _).mono ?_; rintro e w' ⟨rfl, rfl⟩) | (go_at_call 51; refine (l01Module_any _ _).mono ?_; rintro e w' ⟨rfl, rfl⟩))
      all_goals (go_ret2; exact ⟨0, 0, by simp [radK, radV, radB, h2], by simp [radK, radV, radB, h2, cnR_zero], by omega, rfl⟩)
    · go_wp2_with (first | (go_at_call 50; refine (l01TeethR_any _ _).mono ?_; rintro e w' ⟨rfl, rfl⟩) | (go_at_call 51; refine (l01Module_any _ _).mono ?_; rintro e w' ⟨rfl, rfl⟩) | (go_at_call 52; refine (l01Radius_any _ _ _).mono ?_; (rintro e w2 ⟨r, k, rfl, hr, hl, rfl⟩; have HR := Lib.hid hr; clear hr)))
      all_goals (go_ret2; exact ⟨_, _, by simp [radK, radV, radB, h1, h2], by simp [radK, radV, radB, h1, h2, HR.out], hl, rfl⟩)

end Go.Proofs.Ytmoilahabbfjeaa
