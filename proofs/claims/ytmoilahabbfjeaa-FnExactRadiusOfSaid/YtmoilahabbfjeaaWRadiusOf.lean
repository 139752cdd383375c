/- For every input the law FnExactRadiusOf returns true and leaves its arguments as they were; no condition. -/
import Derived.Test.YtmoilahabbfjeaaBase
import Derived.Below
import Derived.Test.YtmoilahabbfjeaaCtR
import Derived.Test.YtmoilahabbfjeaaSm
namespace Go.Proofs.Ytmoilahabbfjeaa.xRadiusOf
open Go.RowKit
set_option linter.unusedVariables false

set_option maxHeartbeats 1000000 in
theorem sameR {x y : Nat} (h : cn x = cn y) : sameB x y = true := by
  have hn : isNan x = isNan y := by rw [← isNan_cn x, h, isNan_cn]
  cases hx : isNan x
  · rw [cn_of_num hx, cn_of_num (by rw [← hn]; exact hx)] at h
    simp [sameB, h]
  · simp [sameB, hx, ← hn]
set_option maxHeartbeats 1000000 in
theorem walk (n : Int) (_hn : (Lit.int .i64 n).wf = true) (m : Nat) (hm : m < 2 ^ 32) (w : World) :
    Calls Try.prog 4 #[.int .i64 n, .float .f32 m] w fun e w' => e = .returned (.bool true) ∧ Below w.heap.size w w' := by
  go_enter Try.func4, Try.ntmps4
  go_wp2_with (first | (go_at_call 18; refine (specRadiusOf_any _ _ _).mono ?_; (rintro e w2 ⟨r1, n, rfl, hr1, hl1, rfl⟩; have HR1 := Lib.hid hr1; clear hr1)) | (go_at_call 19; refine (implRadiusOf_any _ _ _).mono ?_; (rintro e w2 ⟨r2, n, rfl, hr2, hl2, rfl⟩; have hse : sameB r2 r1 = true := sameR (hr2.trans HR1.out.symm); clear hr2)) | (go_at_call 17; refine (sameFloat_any _ _ _ _ ?_ ?_ (img_c64 _ _) (img_c64 _ _) _).mono ?_; (iterate 2 (first | assumption | skip)); rintro e w2 ⟨rfl, rfl⟩))
  all_goals (go_ret; exact ⟨rfl, by (repeat' (first | (with_reducible exact Below.refl _ _) | (with_reducible assumption) | (with_reducible refine Below.alloc ?_ ?_ _) | (with_reducible refine below_drewN ?_ _) | (with_reducible refine Below.drew ?_) | (with_reducible refine Below.setCell ?_ ?_ _) | (with_reducible exact Nat.le_refl _) | omega | (simp only [World.size_alloc, World.size_setCell, World.size_drew, World.heap_drewN]; omega) | (simp; omega)))⟩)

end Go.Proofs.Ytmoilahabbfjeaa.xRadiusOf
