/- When two belts are the same, by the law's own words; results that agree. -/
import Derived.Test.YtljigmplmlhdnaaCtB
import Derived.Test.YtljigmplmlhdnaaSm
import Derived.Test.YtljigmplmlhdnaaDr
namespace Go.Proofs.Ytljigmplmlhdnaa
open Go.RowKit

theorem sameB_refl (a : Nat) : sameB a a = true := by simp [sameB]
theorem sameB_of_cn {x y : Nat} (h : cn x = cn y) : sameB x y = true := by
  have hn : isNan x = isNan y := by rw [← isNan_cn x, h, isNan_cn]
  cases hx : isNan x
  · rw [cn_of_num hx, cn_of_num (by rw [← hn]; exact hx)] at h
    simp [sameB, h]
  · simp [sameB, hx, ← hn]

set_option maxHeartbeats 1000000 in
theorem eqBelt_any (a b c d : Nat) (x : Bool) (a' b' c' d' : Nat) (x' : Bool) (ha : a < 2 ^ 32) (hb : b < 2 ^ 32) (hc : c < 2 ^ 32) (hd : d < 2 ^ 32) (ha' : a' < 2 ^ 32) (hb' : b' < 2 ^ 32) (hc' : c' < 2 ^ 32) (hd' : d' < 2 ^ 32) (w : World) :
    Calls Try.prog 55 #[.agg #[.float .f32 a, .float .f32 b, .float .f32 c, .float .f32 d, .bool x], .agg #[.float .f32 a', .float .f32 b', .float .f32 c', .float .f32 d', .bool x']] w fun e w' => e = .returned (.bool (sameBeltB a b c d x a' b' c' d' x')) ∧ Below w.heap.size w w' := by
  go_enter Try.func55, Try.ntmps55
  go_wp2_with (go_at_call 13; refine (sameFloat_any _ _ _ _ ?_ ?_ (img_c64 _ _) (img_c64 _ _) _).mono ?_; (iterate 2 (first | assumption | skip)); rintro e w1 ⟨rfl, rfl⟩)
  all_goals (go_ret; exact ⟨by simp_all [sameBeltB], by (repeat' (first | (with_reducible exact Below.refl _ _) | (with_reducible assumption) | (with_reducible refine Below.alloc ?_ ?_ _) | (with_reducible refine below_drewN ?_ _) | (with_reducible refine Below.drew ?_) | (with_reducible refine Below.setCell ?_ ?_ _) | (with_reducible exact Nat.le_refl _) | omega | (simp only [World.size_alloc, World.size_setCell, World.size_drew, World.heap_drewN]; omega) | (simp; omega)))⟩)

end Go.Proofs.Ytljigmplmlhdnaa
