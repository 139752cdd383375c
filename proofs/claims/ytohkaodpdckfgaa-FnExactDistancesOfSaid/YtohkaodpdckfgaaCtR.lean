/- Contracts: the power of water; the radius of a wheel. -/
import Derived.Test.YtohkaodpdckfgaaCtA
import Derived.Test.YtohkaodpdckfgaaLoose2
import Derived.Laws.Cover2
import Derived.Lib.Hide
namespace Go.Proofs.Ytohkaodpdckfgaa
open Go.RowKit

def powerC (f h p : Nat) : Nat := cop .mul (cop .mul (cop .mul f h) 1092419584) p
def waterB (f h p : Nat) : Bool := amountB f && lengthB h && partB p
def waterK (f h p : Nat) : Int := if waterB f h p then 0 else 2
def waterV (f h p : Nat) : Nat := if waterB f h p then powerC f h p else 0
theorem cnR_zero : cn 0 = 0 := by decide +kernel

def moduleB (a : Nat) : Bool := betB a 1031798784 1115684864
def radC (n : Int) (m : Nat) : Nat := cop .quo (cop .mul (floatOfInt .f32 n) m) 1073741824
def radB (n : Int) (m : Nat) : Bool := withinB n 6 200 && moduleB m
def radK (n : Int) (m : Nat) : Int := if radB n m then 0 else 2
def radV (n : Int) (m : Nat) : Nat := if radB n m then radC n m else 0

set_option maxHeartbeats 400000 in
theorem areTeethR_any (n : Int) (w : World) :
    Calls Try.prog 53 #[.int .i64 n] w fun e w' => e = .returned (.bool (withinB n 6 200)) ∧ w = w' := by
  go_enter Try.func53, Try.ntmps53
  go_wp2_with (go_at_call 50; refine (within_any _ _ _ _).mono ?_; rintro e w' ⟨rfl, rfl⟩)
  all_goals (go_ret; exact ⟨rfl, rfl⟩)

set_option maxHeartbeats 400000 in
theorem l01TeethR_any (n : Int) (w : World) :
    Calls Try.prog 74 #[.int .i64 n] w fun e w' => e = .returned (.bool (withinB n 6 200)) ∧ w = w' := by
  go_enter Try.func74, Try.ntmps74
  go_wp2_with (go_at_call 73; refine (l00In_any _ _ _ _).mono ?_; rintro e w' ⟨rfl, rfl⟩)
  all_goals (go_ret; exact ⟨rfl, rfl⟩)

set_option maxHeartbeats 400000 in
theorem isModule_any (a : Nat) (w : World) :
    Calls Try.prog 68 #[.float .f32 a] w fun e w' => e = .returned (.bool (moduleB a)) ∧ w = w' := by
  go_enter Try.func68, Try.ntmps68
  go_wp2_with (go_at_call 76; refine (between_any _ _ _ _).mono ?_; rintro e w' ⟨rfl, rfl⟩)
  all_goals (go_ret; exact ⟨rfl, rfl⟩)

set_option maxHeartbeats 400000 in
theorem l01Module_any (a : Nat) (w : World) :
    Calls Try.prog 66 #[.float .f32 a] w fun e w' => e = .returned (.bool (moduleB a)) ∧ w = w' := by
  go_enter Try.func66, Try.ntmps66
  go_wp2
  all_goals (go_ret; exact ⟨by simp_all [moduleB, betB], rfl⟩)

set_option maxHeartbeats 400000 in
theorem radius_any (n : Int) (m : Nat) (w : World) :
    Calls Try.prog 69 #[.int .i64 n, .float .f32 m] w fun e w' => ∃ r k, e = .returned (.float .f32 r) ∧ cn r = radC n m ∧ r < 2 ^ 32 ∧ w.drewN k = w' := by
  go_enter Try.func69, Try.ntmps69
  go_wp2
  all_goals (go_ret; exact ⟨_, _, rfl, by simp [radC], Loose.op_lt' _, rfl⟩)

set_option maxHeartbeats 400000 in
theorem l01Radius_any (n : Int) (m : Nat) (w : World) :
    Calls Try.prog 67 #[.int .i64 n, .float .f32 m] w fun e w' => ∃ r k, e = .returned (.float .f32 r) ∧ cn r = radC n m ∧ r < 2 ^ 32 ∧ w.drewN k = w' := by
  go_enter Try.func67, Try.ntmps67
  go_wp2
  all_goals (go_ret; exact ⟨_, _, rfl, by simp [radC], Loose.op_lt' _, rfl⟩)

end Go.Proofs.Ytohkaodpdckfgaa
