/- The sign of a number turned. -/
import Derived.Test.YtkgfepakedieaaaGreatDoorBase
namespace Go.Proofs.YtkgfepakedieaaaGreatDoor
open Go.RowKit

/-- The sign turned. -/
def fneg (b : Nat) : Nat := b ^^^ 2147483648
@[go_sem] theorem unary_negf (b : Nat) : Op.unary .neg (.float .f32 b) = pure (.float .f32 (fneg b)) := rfl

theorem xor_small {b : Nat} (h : b < 2 ^ 31) : b ^^^ 2 ^ 31 = 2 ^ 31 + b := by
  apply Nat.eq_of_testBit_eq
  intro j
  rw [Nat.testBit_xor, Nat.testBit_two_pow]
  rcases Nat.lt_trichotomy j 31 with hj | rfl | hj
  · rw [Nat.testBit_two_pow_add_gt hj]
    have : ¬ 31 = j := by omega
    simp [this]
  · rw [Nat.testBit_two_pow_add_eq, Nat.testBit_lt_two_pow h]
    simp
  · have h1 : (2 ^ 31 + b) < 2 ^ j := Nat.lt_of_lt_of_le (show 2 ^ 31 + b < 2 ^ 32 by omega) (Nat.pow_le_pow_right (by omega) (by omega))
    have h2 : b < 2 ^ j := Nat.lt_of_le_of_lt (Nat.le_add_left b (2 ^ 31)) h1
    rw [Nat.testBit_lt_two_pow h1, Nat.testBit_lt_two_pow h2]
    have : ¬ 31 = j := by omega
    simp [this]
theorem fneg_small {b : Nat} (h : b < 2147483648) : fneg b = 2147483648 + b := xor_small (by simpa using h)
theorem fneg_big {b : Nat} (h : b < 2147483648) : fneg (2147483648 + b) = b := by
  have h1 := fneg_small h
  rw [← h1]
  unfold fneg
  rw [Nat.xor_assoc, Nat.xor_self, Nat.xor_zero]
theorem fneg_lt {b : Nat} (h : b < 2 ^ 32) : fneg b < 2 ^ 32 := by
  by_cases hb : b < 2147483648
  · rw [fneg_small hb]; omega
  · obtain ⟨c, rfl⟩ : ∃ c, b = 2147483648 + c := ⟨b - 2147483648, by omega⟩
    rw [fneg_big (by omega)]; omega
theorem single_sign' : Ieee.single.signWeight = 2147483648 := by decide +kernel
theorem isNan_mod {x y : Nat} (h : x % 2147483648 = y % 2147483648) : isNan x = isNan y := by
  rw [isNan_iff, isNan_iff]
  show (Ieee.single.read x).isNaN = (Ieee.single.read y).isNaN
  unfold Ieee.Format.read
  simp only [single_sign', h]
  repeat' split
  all_goals rfl
theorem isNan_fneg {b : Nat} (h : b < 2 ^ 32) : isNan (fneg b) = isNan b := by
  apply isNan_mod
  by_cases hb : b < 2147483648
  · rw [fneg_small hb]; omega
  · obtain ⟨c, rfl⟩ : ∃ c, b = 2147483648 + c := ⟨b - 2147483648, by omega⟩
    rw [fneg_big (by omega)]; omega
theorem nan0_lt : nan0 < 2 ^ 32 := by decide
theorem cn_fneg {r : Nat} (h : r < 2 ^ 32) : cn (fneg r) = cn (fneg (cn r)) := by
  cases hn : isNan r
  · rw [cn_of_num hn]
  · rw [cn_of_nan (by rw [isNan_fneg h]; exact hn), cn_of_nan hn, cn_of_nan (by rw [isNan_fneg nan0_lt]; exact nan0_isNan)]


end Go.Proofs.YtkgfepakedieaaaGreatDoor
