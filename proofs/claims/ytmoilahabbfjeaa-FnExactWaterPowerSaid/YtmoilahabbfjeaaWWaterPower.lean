/- For every input the law FnExactWaterPower returns true and leaves its arguments as they were; no condition. -/
import Derived.Test.YtmoilahabbfjeaaBase
import Derived.Below
import Derived.Test.YtmoilahabbfjeaaCtR
import Derived.Test.YtmoilahabbfjeaaSm
namespace Go.Proofs.Ytmoilahabbfjeaa.xWaterPower
open Go.RowKit
set_option linter.unusedVariables false

set_option maxHeartbeats 1000000 in
theorem sameR {x y : Nat} (h : cn x = cn y) : sameB x y = true := by
  have hn : isNan x = isNan y := by rw [← isNan_cn x, h, isNan_cn]
  cases hx : isNan x
  · rw [cn_of_num hx, cn_of_num (by rw [← hn]; exact hx)] at h
    simp [sameB, h]
  · simp [sameB, hx, ← hn]
set_option maxHeartbeats 1000000 in
theorem walk (f : Nat) (hf : f < 2 ^ 32) (h : Nat) (hh : h < 2 ^ 32) (p : Nat) (hp : p < 2 ^ 32) (w : World) :
    Calls Try.prog 3 #[.float .f32 f, .float .f32 h, .float .f32 p] w fun e w' => e = .returned (.bool true) ∧ Below w.heap.size w w' := by
  go_enter Try.func3, Try.ntmps3
  go_wp2_with (first | (go_at_call 15; refine (specWaterPower_any _ _ _ _).mono ?_; (rintro e w2 ⟨r1, n, rfl, hr1, hl1, rfl⟩; have HR1 := Lib.hid hr1; clear hr1)) | (go_at_call 16; refine (implWaterPower_any _ _ _ _).mono ?_; (rintro e w2 ⟨r2, n, rfl, hr2, hl2, rfl⟩; have hse : sameB r2 r1 = true := sameR (hr2.trans HR1.out.symm); clear hr2)) | (go_at_call 17; refine (sameFloat_any _ _ _ _ ?_ ?_ (img_c64 _ _) (img_c64 _ _) _).mono ?_; (iterate 2 (first | assumption | skip)); rintro e w2 ⟨rfl, rfl⟩))
  all_goals (go_ret; exact ⟨rfl, by (repeat' (first | (with_reducible exact Below.refl _ _) | (with_reducible assumption) | (with_reducible refine Below.alloc ?_ ?_ _) | (with_reducible refine below_drewN ?_ _) | (with_reducible refine Below.drew ?_) | (with_reducible refine Below.setCell ?_ ?_ _) | (with_reducible exact Nat.le_refl _) | omega | (simp only [World.size_alloc, World.size_setCell, World.size_drew, World.heap_drewN]; omega) | (simp; omega)))⟩)

end Go.Proofs.Ytmoilahabbfjeaa.xWaterPower
