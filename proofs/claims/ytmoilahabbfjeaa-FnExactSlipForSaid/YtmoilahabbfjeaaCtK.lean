/- Contracts: the speed behind a belt (a sign may be turned). -/
import Derived.Test.YtmoilahabbfjeaaCtH
namespace Go.Proofs.Ytmoilahabbfjeaa
open Go.RowKit

/-- The sign turned. -/
def fneg (b : Nat) : Nat := b ^^^ 2147483648
@[go_sem] theorem unary_negf (b : Nat) : Op.unary .neg (.float .f32 b) = pure (.float .f32 (fneg b)) := rfl

theorem xor_small {b : Nat} (h : b < 2 ^ 31) : b ^^^ 2 ^ 31 = 2 ^ 31 + b := by
  apply Nat.eq_of_testBit_eq
  intro j
  rw [Nat.testBit_xor, Nat.testBit_two_pow]
  rcases Nat.lt_trichotomy j 31 with hj | rfl | hj
  · rw [Nat.testBit_two_pow_add_gt hj]
    have : ¬ 31 = j := by omega
    simp [this]
  · rw [Nat.testBit_two_pow_add_eq, Nat.testBit_lt_two_pow h]
    simp
  · have h1 : (2 ^ 31 + b) < 2 ^ j := Nat.lt_of_lt_of_le (show 2 ^ 31 + b < 2 ^ 32 by omega) (Nat.pow_le_pow_right (by omega) (by omega))
    have h2 : b < 2 ^ j := Nat.lt_of_le_of_lt (Nat.le_add_left b (2 ^ 31)) h1
    rw [Nat.testBit_lt_two_pow h1, Nat.testBit_lt_two_pow h2]
    have : ¬ 31 = j := by omega
    simp [this]
theorem fneg_small {b : Nat} (h : b < 2147483648) : fneg b = 2147483648 + b := xor_small (by simpa using h)
theorem fneg_big {b : Nat} (h : b < 2147483648) : fneg (2147483648 + b) = b := by
  have h1 := fneg_small h
  rw [← h1]
  unfold fneg
  rw [Nat.xor_assoc, Nat.xor_self, Nat.xor_zero]
theorem fneg_lt {b : Nat} (h : b < 2 ^ 32) : fneg b < 2 ^ 32 := by
  by_cases hb : b < 2147483648
  · rw [fneg_small hb]; omega
  · obtain ⟨c, rfl⟩ : ∃ c, b = 2147483648 + c := ⟨b - 2147483648, by omega⟩
    rw [fneg_big (by omega)]; omega
theorem single_sign' : Ieee.single.signWeight = 2147483648 := by decide +kernel
theorem isNan_mod {x y : Nat} (h : x % 2147483648 = y % 2147483648) : isNan x = isNan y := by
  rw [isNan_iff, isNan_iff]
  show (Ieee.single.read x).isNaN = (Ieee.single.read y).isNaN
  unfold Ieee.Format.read
  simp only [single_sign', h]
  repeat' split
  all_goals rfl
theorem isNan_fneg {b : Nat} (h : b < 2 ^ 32) : isNan (fneg b) = isNan b := by
  apply isNan_mod
  by_cases hb : b < 2147483648
  · rw [fneg_small hb]; omega
  · obtain ⟨c, rfl⟩ : ∃ c, b = 2147483648 + c := ⟨b - 2147483648, by omega⟩
    rw [fneg_big (by omega)]; omega
theorem nan0_lt : nan0 < 2 ^ 32 := by decide
theorem cn_fneg {r : Nat} (h : r < 2 ^ 32) : cn (fneg r) = cn (fneg (cn r)) := by
  cases hn : isNan r
  · rw [cn_of_num hn]
  · rw [cn_of_nan (by rw [isNan_fneg h]; exact hn), cn_of_nan hn, cn_of_nan (by rw [isNan_fneg nan0_lt]; exact nan0_isNan)]

def outC (a b : Nat) (x : Bool) (speed slip : Nat) : Nat :=
  if x then cn (fneg (cop .mul (cop .mul speed (cop .quo a b)) (cop .sub 1065353216 slip))) else cop .mul (cop .mul speed (cop .quo a b)) (cop .sub 1065353216 slip)

set_option maxHeartbeats 1000000 in
theorem out_any (p o a b c d : Nat) (x : Bool) (speed slip : Nat) (w : World) (h : BeltAt w p o a b c d x) :
    Calls Try.prog 68 #[.pointer (some ⟨p, o, none⟩), .float .f32 speed, .float .f32 slip] w fun e w' => ∃ r n, e = .returned (.float .f32 r) ∧ cn r = outC a b x speed slip ∧ r < 2 ^ 32 ∧ w.drewN n = w' := by
  obtain ⟨c0, c1, c2, c3, c4⟩ := h
  go_enter Try.func68, Try.ntmps68
  go_wp2
  go_region
  all_goals
    go_wp2
    all_goals first | (subst_vars; go_ret; exact ⟨_, _, rfl, by simp [outC, cn_fneg (op_lt _)], fneg_lt (op_lt _), rfl⟩) | (subst_vars; go_ret; exact ⟨_, _, rfl, by simp [outC], op_lt _, rfl⟩)

set_option maxHeartbeats 1000000 in
theorem l02Out_any (p o a b c d : Nat) (x : Bool) (speed slip : Nat) (w : World) (h : BeltAt w p o a b c d x) :
    Calls Try.prog 67 #[.pointer (some ⟨p, o, none⟩), .float .f32 speed, .float .f32 slip] w fun e w' => ∃ r n, e = .returned (.float .f32 r) ∧ cn r = outC a b x speed slip ∧ r < 2 ^ 32 ∧ w.drewN n = w' := by
  obtain ⟨c0, c1, c2, c3, c4⟩ := h
  go_enter Try.func67, Try.ntmps67
  go_wp2
  go_region
  all_goals
    go_wp2
    all_goals first | (subst_vars; go_ret; exact ⟨_, _, rfl, by simp [outC, cn_fneg (op_lt _)], fneg_lt (op_lt _), rfl⟩) | (subst_vars; go_ret; exact ⟨_, _, rfl, by simp [outC], op_lt _, rfl⟩)

end Go.Proofs.Ytmoilahabbfjeaa
