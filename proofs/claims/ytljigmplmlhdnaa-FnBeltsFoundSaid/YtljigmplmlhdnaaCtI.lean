/- Contracts: what is told of a belt, with a code (2). -/
import Derived.Test.YtljigmplmlhdnaaCtH
namespace Go.Proofs.Ytljigmplmlhdnaa
open Go.RowKit

set_option maxHeartbeats 1000000 in
theorem specLengthOf_any (a b c d : Nat) (x : Bool) (w : World) :
    Calls Try.prog 37 #[.agg #[.float .f32 a, .float .f32 b, .float .f32 c, .float .f32 d, .bool x]] w fun e w' => ∃ r, e = .returned (.tuple #[.float .f32 r, .int .i64 (beltK a b c d true)]) ∧ cn r = okV (beltK a b c d true) (lengthC a b c x) ∧ r < 2 ^ 32 ∧ Below w.heap.size w w' := by
  have HB := Lib.hid (beltAt_box w 31 a b c d x)
  cases hB : beltB a b c d
  · go_enter Try.func37, Try.ntmps37
    go_wp2_with (go_at_call 47; refine (l02Ok_any _ 0 a b c d x _ (by exact HB.out)).mono ?_; rintro e w1 ⟨rfl, n, rfl⟩)
    all_goals (go_ret2; exact ⟨0, by simp [beltK, hB], by simp [okV, beltK, hB, cn_zero], by omega, by (repeat' (first | (with_reducible exact Below.refl _ _) | (with_reducible assumption) | (with_reducible refine Below.alloc ?_ ?_ _) | (with_reducible refine below_drewN ?_ _) | (with_reducible refine Below.drew ?_) | (with_reducible refine Below.setCell ?_ ?_ _) | (with_reducible exact Nat.le_refl _) | omega | (simp only [World.size_alloc, World.size_setCell, World.size_drew, World.heap_drewN]; omega) | (simp; omega)))⟩)
  · go_enter Try.func37, Try.ntmps37
    go_wp2_with (first | (go_at_call 47; refine (l02Ok_any _ 0 a b c d x _ (by exact HB.out)).mono ?_; rintro e w1 ⟨rfl, n, rfl⟩) | (go_at_call 51; refine (l02Length_any _ 0 a b c d x _ (by exact HB.out)).mono ?_; rintro e w1 ⟨r, n, rfl, hr, hl, rfl⟩; have HR := Lib.hid hr; clear hr))
    all_goals (go_ret2; exact ⟨_, by simp [beltK, hB], by simp [okV, beltK, hB, HR.out], hl, by (repeat' (first | (with_reducible exact Below.refl _ _) | (with_reducible assumption) | (with_reducible refine Below.alloc ?_ ?_ _) | (with_reducible refine below_drewN ?_ _) | (with_reducible refine Below.drew ?_) | (with_reducible refine Below.setCell ?_ ?_ _) | (with_reducible exact Nat.le_refl _) | omega | (simp only [World.size_alloc, World.size_setCell, World.size_drew, World.heap_drewN]; omega) | (simp; omega)))⟩)

end Go.Proofs.Ytljigmplmlhdnaa
