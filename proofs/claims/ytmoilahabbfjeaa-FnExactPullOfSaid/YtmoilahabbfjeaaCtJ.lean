/- Contracts: what is told of a belt and a tension, with a code. -/
import Derived.Test.YtmoilahabbfjeaaCtH
namespace Go.Proofs.Ytmoilahabbfjeaa
open Go.RowKit

set_option maxHeartbeats 1000000 in
theorem implPullOf_any (a b c d : Nat) (x : Bool) (t : Nat) (w : World) :
    Calls Try.prog 41 #[.agg #[.float .f32 a, .float .f32 b, .float .f32 c, .float .f32 d, .bool x], .float .f32 t] w fun e w' => ∃ r, e = .returned (.tuple #[.float .f32 r, .int .i64 (beltK a b c d (amountB t))]) ∧ cn r = okV (beltK a b c d (amountB t)) (pullC a b c d x t) ∧ r < 2 ^ 32 ∧ Below w.heap.size w w' := by
  have HB := Lib.hid (beltAt_box w 43 a b c d x)
  go_enter Try.func41, Try.ntmps41
  go_wp2
  go_region_with (first | (go_at_call 78; refine (pull_any _ 0 a b c d x _ _ (by exact HB.out)).mono ?_; rintro e w1 ⟨r, n, rfl, hr, hl, rfl⟩; have HR := Lib.hid hr; clear hr) | (go_at_call 47; refine (impl_isAmount_any _ _).mono ?_; rintro e w1 ⟨rfl, rfl⟩) | (go_at_call 63; refine (beltCode_any a b c d x _ _).mono ?_; rintro e w1 ⟨rfl, hb⟩) | (go_at_call 61; refine (orZero_any _ _ _).mono ?_; rintro e w1 ⟨rfl, rfl⟩))
  all_goals
    go_wp2
    go_ret2
    exact ⟨_, rfl, okV_cn HR.out, okV_lt hl, below_then (by (repeat' (first | (with_reducible exact Below.refl _ _) | (with_reducible assumption) | (with_reducible refine Below.alloc ?_ ?_ _) | (with_reducible refine below_drewN ?_ _) | (with_reducible refine Below.drew ?_) | (with_reducible refine Below.setCell ?_ ?_ _) | (with_reducible exact Nat.le_refl _) | omega | (simp only [World.size_alloc, World.size_setCell, World.size_drew, World.heap_drewN]; omega) | (simp; omega)))) hb⟩

theorem plain_zero : plainB 0 = true := by decide +kernel

set_option maxHeartbeats 1000000 in
theorem specPullOf_any (a b c d : Nat) (x : Bool) (t : Nat) (w : World) :
    Calls Try.prog 40 #[.agg #[.float .f32 a, .float .f32 b, .float .f32 c, .float .f32 d, .bool x], .float .f32 t] w fun e w' => ∃ r, e = .returned (.tuple #[.float .f32 r, .int .i64 (beltK a b c d (amountB t))]) ∧ cn r = okV (beltK a b c d (amountB t)) (pullC a b c d x t) ∧ r < 2 ^ 32 ∧ Below w.heap.size w w' := by
  have HB := Lib.hid (beltAt_box w 43 a b c d x)
  by_cases hk : beltK a b c d (amountB t && plainB 0) = 0
  · have hk1 : (beltK a b c d (amountB t && plainB 0) != 0) = false := by simp [hk]
    have hk2 : beltK a b c d (amountB t) = 0 := by simpa [plain_zero] using hk
    rw [hk2]
    have HK := Lib.hid hk
    clear hk hk2
    go_enter Try.func40, Try.ntmps40
    go_wp2_with (first | (go_at_call 66; refine (l02Asked_any _ 0 a b c d x _ _ _ (by exact HB.out)).mono ?_; rintro e w1 ⟨rfl, n, rfl⟩) | (go_at_call 77; refine (l02Pull_any _ 0 a b c d x _ _ (by exact HB.out)).mono ?_; rintro e w1 ⟨r, n, rfl, hr, hl, rfl⟩; have HR := Lib.hid hr; clear hr))
    all_goals (go_ret2; exact ⟨_, rfl, by simp [okV, HR.out], hl, by (repeat' (first | (with_reducible exact Below.refl _ _) | (with_reducible assumption) | (with_reducible refine Below.alloc ?_ ?_ _) | (with_reducible refine below_drewN ?_ _) | (with_reducible refine Below.drew ?_) | (with_reducible refine Below.setCell ?_ ?_ _) | (with_reducible exact Nat.le_refl _) | omega | (simp only [World.size_alloc, World.size_setCell, World.size_drew, World.heap_drewN]; omega) | (simp; omega)))⟩)
  · have hk1 : (beltK a b c d (amountB t && plainB 0) != 0) = true := by simp [hk]
    have hk2 : beltK a b c d (amountB t && plainB 0) = beltK a b c d (amountB t) := by simp [plain_zero]
    have HK := Lib.hid hk
    have HK2 := Lib.hid hk2
    clear hk hk2
    go_enter Try.func40, Try.ntmps40
    go_wp2_with (first | (go_at_call 66; refine (l02Asked_any _ 0 a b c d x _ _ _ (by exact HB.out)).mono ?_; rintro e w1 ⟨rfl, n, rfl⟩))
    all_goals (go_ret2; exact ⟨0, by rw [← HK2.out]; rfl, by rw [← HK2.out, okV, if_neg HK.out]; exact cn_zero, by omega, by (repeat' (first | (with_reducible exact Below.refl _ _) | (with_reducible assumption) | (with_reducible refine Below.alloc ?_ ?_ _) | (with_reducible refine below_drewN ?_ _) | (with_reducible refine Below.drew ?_) | (with_reducible refine Below.setCell ?_ ?_ _) | (with_reducible exact Nat.le_refl _) | omega | (simp only [World.size_alloc, World.size_setCell, World.size_drew, World.heap_drewN]; omega) | (simp; omega)))⟩)

end Go.Proofs.Ytmoilahabbfjeaa
