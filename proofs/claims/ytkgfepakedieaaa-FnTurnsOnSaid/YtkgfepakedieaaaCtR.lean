/- Contracts: the power of water; the radius of a wheel. -/
import Derived.Test.YtkgfepakedieaaaCtA
import Derived.Test.YtkgfepakedieaaaLoose2
import Derived.Laws.Cover2
import Derived.Lib.Hide
namespace Go.Proofs.Ytkgfepakedieaaa
open Go.RowKit

def powerC (f h p : Nat) : Nat := cop .mul (cop .mul (cop .mul f h) 1092419584) p
def waterB (f h p : Nat) : Bool := amountB f && lengthB h && partB p
def waterK (f h p : Nat) : Int := if waterB f h p then 0 else 2
def waterV (f h p : Nat) : Nat := if waterB f h p then powerC f h p else 0
theorem cnR_zero : cn 0 = 0 := by decide +kernel

def moduleB (a : Nat) : Bool := betB a 1031798784 1115684864
def radC (n : Int) (m : Nat) : Nat := cop .quo (cop .mul (floatOfInt .f32 n) m) 1073741824
def radB (n : Int) (m : Nat) : Bool := withinB n 6 200 && moduleB m
def radK (n : Int) (m : Nat) : Int := if radB n m then 0 else 2
def radV (n : Int) (m : Nat) : Nat := if radB n m then radC n m else 0

set_option maxHeartbeats 400000 in
theorem areTeethR_any (n : Int) (w : World) :
    Calls Try.prog 61 #[.int .i64 n] w fun e w' => e = .returned (.bool (withinB n 6 200)) ∧ w = w' := by
  go_enter Try.func61, Try.ntmps61
  go_wp2_with (go_at_call 74; refine (within_any _ _ _ _).mono ?_; rintro e w' ⟨rfl, rfl⟩)
  all_goals (go_ret; exact ⟨rfl, rfl⟩)

set_option maxHeartbeats 400000 in
theorem l01TeethR_any (n : Int) (w : World) :
    Calls Try.prog 78 #[.int .i64 n] w fun e w' => e = .returned (.bool (withinB n 6 200)) ∧ w = w' := by
  go_enter Try.func78, Try.ntmps78
  go_wp2_with (go_at_call 77; refine (l00In_any _ _ _ _).mono ?_; rintro e w' ⟨rfl, rfl⟩)
  all_goals (go_ret; exact ⟨rfl, rfl⟩)

set_option maxHeartbeats 400000 in
theorem isModule_any (a : Nat) (w : World) :
    Calls Try.prog 59 #[.float .f32 a] w fun e w' => e = .returned (.bool (moduleB a)) ∧ w = w' := by
  go_enter Try.func59, Try.ntmps59
  go_wp2_with (go_at_call 81; refine (between_any _ _ _ _).mono ?_; rintro e w' ⟨rfl, rfl⟩)
  all_goals (go_ret; exact ⟨rfl, rfl⟩)

set_option maxHeartbeats 400000 in
theorem radius_any (n : Int) (m : Nat) (w : World) :
    Calls Try.prog 60 #[.int .i64 n, .float .f32 m] w fun e w' => ∃ r k, e = .returned (.float .f32 r) ∧ cn r = radC n m ∧ r < 2 ^ 32 ∧ w.drewN k = w' := by
  go_enter Try.func60, Try.ntmps60
  go_wp2
  all_goals (go_ret; exact ⟨_, _, rfl, by simp [radC], Loose.op_lt' _, rfl⟩)

set_option maxHeartbeats 400000 in
theorem implRadiusOf_any (n : Int) (m : Nat) (w : World) :
    Calls Try.prog 37 #[.int .i64 n, .float .f32 m] w fun e w' => ∃ r k, e = .returned (.tuple #[.float .f32 r, .int .i64 (radK n m)]) ∧ cn r = radV n m ∧ r < 2 ^ 32 ∧ w.drewN k = w' := by
  go_enter Try.func37, Try.ntmps37
  cases h1 : withinB n 6 200
  · go_wp2_with (first | (go_at_call 61; refine (areTeethR_any _ _).mono ?_; rintro e w' ⟨rfl, rfl⟩) | (go_at_call 59; refine (isModule_any _ _).mono ?_; rintro e w' ⟨rfl, rfl⟩))
    all_goals (go_ret2; exact ⟨0, 0, by simp [radK, radV, radB, h1], by simp [radK, radV, radB, h1, cnR_zero], by omega, rfl⟩)
  · cases h2 : moduleB m
    · go_wp2_with (first | (go_at_call 61; refine (areTeethR_any _ _).mono ?_; rintro e w' ⟨rfl, rfl⟩) | (go_at_call 59; refine (isModule_any _ _).mono ?_; rintro e w' ⟨rfl, rfl⟩))
      all_goals (go_ret2; exact ⟨0, 0, by simp [radK, radV, radB, h2], by simp [radK, radV, radB, h2, cnR_zero], by omega, rfl⟩)
    · go_wp2_with (first | (go_at_call 61; refine (areTeethR_any _ _).mono ?_; rintro e w' ⟨rfl, rfl⟩) | (go_at_call 59; refine (isModule_any _ _).mono ?_; rintro e w' ⟨rfl, rfl⟩) | (go_at_call 60; refine (radius_any _ _ _).mono ?_; (rintro e w2 ⟨r, k, rfl, hr, hl, rfl⟩; have HR := Lib.hid hr; clear hr)))
      all_goals (go_ret2; exact ⟨_, _, by simp [radK, radV, radB, h1, h2], by simp [radK, radV, radB, h1, h2, HR.out], hl, rfl⟩)

end Go.Proofs.Ytkgfepakedieaaa
