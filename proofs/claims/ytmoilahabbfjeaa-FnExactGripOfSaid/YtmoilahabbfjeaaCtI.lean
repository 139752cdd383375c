/- Contracts: what is told of a belt, with a code (2). -/
import Derived.Test.YtmoilahabbfjeaaCtH
namespace Go.Proofs.Ytmoilahabbfjeaa
open Go.RowKit

set_option maxHeartbeats 1000000 in
theorem specLengthOf_any (a b c d : Nat) (x : Bool) (w : World) :
    Calls Try.prog 27 #[.agg #[.float .f32 a, .float .f32 b, .float .f32 c, .float .f32 d, .bool x]] w fun e w' => ∃ r, e = .returned (.tuple #[.float .f32 r, .int .i64 (beltK a b c d true)]) ∧ cn r = okV (beltK a b c d true) (lengthC a b c x) ∧ r < 2 ^ 32 ∧ Below w.heap.size w w' := by
  have HB := Lib.hid (beltAt_box w 43 a b c d x)
  cases hB : beltB a b c d
  · go_enter Try.func27, Try.ntmps27
    go_wp2_with (go_at_call 58; refine (l02Ok_any _ 0 a b c d x _ (by exact HB.out)).mono ?_; rintro e w1 ⟨rfl, n, rfl⟩)
    all_goals (go_ret2; exact ⟨0, by simp [beltK, hB], by simp [okV, beltK, hB, cn_zero], by omega, by (repeat' (first | (with_reducible exact Below.refl _ _) | (with_reducible assumption) | (with_reducible refine Below.alloc ?_ ?_ _) | (with_reducible refine below_drewN ?_ _) | (with_reducible refine Below.drew ?_) | (with_reducible refine Below.setCell ?_ ?_ _) | (with_reducible exact Nat.le_refl _) | omega | (simp only [World.size_alloc, World.size_setCell, World.size_drew, World.heap_drewN]; omega) | (simp; omega)))⟩)
  · go_enter Try.func27, Try.ntmps27
    go_wp2_with (first | (go_at_call 58; refine (l02Ok_any _ 0 a b c d x _ (by exact HB.out)).mono ?_; rintro e w1 ⟨rfl, n, rfl⟩) | (go_at_call 60; refine (l02Length_any _ 0 a b c d x _ (by exact HB.out)).mono ?_; rintro e w1 ⟨r, n, rfl, hr, hl, rfl⟩; have HR := Lib.hid hr; clear hr))
    all_goals (go_ret2; exact ⟨_, by simp [beltK, hB], by simp [okV, beltK, hB, HR.out], hl, by (repeat' (first | (with_reducible exact Below.refl _ _) | (with_reducible assumption) | (with_reducible refine Below.alloc ?_ ?_ _) | (with_reducible refine below_drewN ?_ _) | (with_reducible refine Below.drew ?_) | (with_reducible refine Below.setCell ?_ ?_ _) | (with_reducible exact Nat.le_refl _) | omega | (simp only [World.size_alloc, World.size_setCell, World.size_drew, World.heap_drewN]; omega) | (simp; omega)))⟩)

set_option maxHeartbeats 1000000 in
theorem specWrapOf_any (a b c d : Nat) (x : Bool) (w : World) :
    Calls Try.prog 29 #[.agg #[.float .f32 a, .float .f32 b, .float .f32 c, .float .f32 d, .bool x]] w fun e w' => ∃ r, e = .returned (.tuple #[.float .f32 r, .int .i64 (beltK a b c d true)]) ∧ cn r = okV (beltK a b c d true) (wrapC a b c x) ∧ r < 2 ^ 32 ∧ Below w.heap.size w w' := by
  have HB := Lib.hid (beltAt_box w 43 a b c d x)
  cases hB : beltB a b c d
  · go_enter Try.func29, Try.ntmps29
    go_wp2_with (go_at_call 58; refine (l02Ok_any _ 0 a b c d x _ (by exact HB.out)).mono ?_; rintro e w1 ⟨rfl, n, rfl⟩)
    all_goals (go_ret2; exact ⟨0, by simp [beltK, hB], by simp [okV, beltK, hB, cn_zero], by omega, by (repeat' (first | (with_reducible exact Below.refl _ _) | (with_reducible assumption) | (with_reducible refine Below.alloc ?_ ?_ _) | (with_reducible refine below_drewN ?_ _) | (with_reducible refine Below.drew ?_) | (with_reducible refine Below.setCell ?_ ?_ _) | (with_reducible exact Nat.le_refl _) | omega | (simp only [World.size_alloc, World.size_setCell, World.size_drew, World.heap_drewN]; omega) | (simp; omega)))⟩)
  · go_enter Try.func29, Try.ntmps29
    go_wp2_with (first | (go_at_call 58; refine (l02Ok_any _ 0 a b c d x _ (by exact HB.out)).mono ?_; rintro e w1 ⟨rfl, n, rfl⟩) | (go_at_call 64; refine (l02Wrap_any _ 0 a b c d x _ (by exact HB.out)).mono ?_; rintro e w1 ⟨r, n, rfl, hr, hl, rfl⟩; have HR := Lib.hid hr; clear hr))
    all_goals (go_ret2; exact ⟨_, by simp [beltK, hB], by simp [okV, beltK, hB, HR.out], hl, by (repeat' (first | (with_reducible exact Below.refl _ _) | (with_reducible assumption) | (with_reducible refine Below.alloc ?_ ?_ _) | (with_reducible refine below_drewN ?_ _) | (with_reducible refine Below.drew ?_) | (with_reducible refine Below.setCell ?_ ?_ _) | (with_reducible exact Nat.le_refl _) | omega | (simp only [World.size_alloc, World.size_setCell, World.size_drew, World.heap_drewN]; omega) | (simp; omega)))⟩)

set_option maxHeartbeats 1000000 in
theorem implWrapOf_any (a b c d : Nat) (x : Bool) (w : World) :
    Calls Try.prog 30 #[.agg #[.float .f32 a, .float .f32 b, .float .f32 c, .float .f32 d, .bool x]] w fun e w' => ∃ r, e = .returned (.tuple #[.float .f32 r, .int .i64 (beltK a b c d true)]) ∧ cn r = okV (beltK a b c d true) (wrapC a b c x) ∧ r < 2 ^ 32 ∧ Below w.heap.size w w' := by
  have HB := Lib.hid (beltAt_box w 43 a b c d x)
  go_enter Try.func30, Try.ntmps30
  go_wp2
  go_region_with (first | (go_at_call 65; refine (wrap_any _ 0 a b c d x _ (by exact HB.out)).mono ?_; rintro e w1 ⟨r, n, rfl, hr, hl, rfl⟩; have HR := Lib.hid hr; clear hr) | (go_at_call 63; refine (beltCode_any a b c d x true _).mono ?_; rintro e w1 ⟨rfl, hb⟩) | (go_at_call 61; refine (orZero_any _ _ _).mono ?_; rintro e w1 ⟨rfl, rfl⟩))
  all_goals
    go_wp2
    go_ret2
    exact ⟨_, rfl, okV_cn HR.out, okV_lt hl, below_then (by (repeat' (first | (with_reducible exact Below.refl _ _) | (with_reducible assumption) | (with_reducible refine Below.alloc ?_ ?_ _) | (with_reducible refine below_drewN ?_ _) | (with_reducible refine Below.drew ?_) | (with_reducible refine Below.setCell ?_ ?_ _) | (with_reducible exact Nat.le_refl _) | omega | (simp only [World.size_alloc, World.size_setCell, World.size_drew, World.heap_drewN]; omega) | (simp; omega)))) hb⟩

set_option maxHeartbeats 1000000 in
theorem specGripOf_any (a b c d : Nat) (x : Bool) (w : World) :
    Calls Try.prog 36 #[.agg #[.float .f32 a, .float .f32 b, .float .f32 c, .float .f32 d, .bool x]] w fun e w' => ∃ r, e = .returned (.tuple #[.float .f32 r, .int .i64 (beltK a b c d true)]) ∧ cn r = okV (beltK a b c d true) (gripC a b c d x) ∧ r < 2 ^ 32 ∧ Below w.heap.size w w' := by
  have HB := Lib.hid (beltAt_box w 43 a b c d x)
  cases hB : beltB a b c d
  · go_enter Try.func36, Try.ntmps36
    go_wp2_with (go_at_call 58; refine (l02Ok_any _ 0 a b c d x _ (by exact HB.out)).mono ?_; rintro e w1 ⟨rfl, n, rfl⟩)
    all_goals (go_ret2; exact ⟨0, by simp [beltK, hB], by simp [okV, beltK, hB, cn_zero], by omega, by (repeat' (first | (with_reducible exact Below.refl _ _) | (with_reducible assumption) | (with_reducible refine Below.alloc ?_ ?_ _) | (with_reducible refine below_drewN ?_ _) | (with_reducible refine Below.drew ?_) | (with_reducible refine Below.setCell ?_ ?_ _) | (with_reducible exact Nat.le_refl _) | omega | (simp only [World.size_alloc, World.size_setCell, World.size_drew, World.heap_drewN]; omega) | (simp; omega)))⟩)
  · go_enter Try.func36, Try.ntmps36
    go_wp2_with (first | (go_at_call 58; refine (l02Ok_any _ 0 a b c d x _ (by exact HB.out)).mono ?_; rintro e w1 ⟨rfl, n, rfl⟩) | (go_at_call 74; refine (l02Grip_any _ 0 a b c d x _ (by exact HB.out)).mono ?_; rintro e w1 ⟨r, n, rfl, hr, hl, rfl⟩; have HR := Lib.hid hr; clear hr))
    all_goals (go_ret2; exact ⟨_, by simp [beltK, hB], by simp [okV, beltK, hB, HR.out], hl, by (repeat' (first | (with_reducible exact Below.refl _ _) | (with_reducible assumption) | (with_reducible refine Below.alloc ?_ ?_ _) | (with_reducible refine below_drewN ?_ _) | (with_reducible refine Below.drew ?_) | (with_reducible refine Below.setCell ?_ ?_ _) | (with_reducible exact Nat.le_refl _) | omega | (simp only [World.size_alloc, World.size_setCell, World.size_drew, World.heap_drewN]; omega) | (simp; omega)))⟩)

set_option maxHeartbeats 1000000 in
theorem implGripOf_any (a b c d : Nat) (x : Bool) (w : World) :
    Calls Try.prog 37 #[.agg #[.float .f32 a, .float .f32 b, .float .f32 c, .float .f32 d, .bool x]] w fun e w' => ∃ r, e = .returned (.tuple #[.float .f32 r, .int .i64 (beltK a b c d true)]) ∧ cn r = okV (beltK a b c d true) (gripC a b c d x) ∧ r < 2 ^ 32 ∧ Below w.heap.size w w' := by
  have HB := Lib.hid (beltAt_box w 43 a b c d x)
  go_enter Try.func37, Try.ntmps37
  go_wp2
  go_region_with (first | (go_at_call 75; refine (grip_any _ 0 a b c d x _ (by exact HB.out)).mono ?_; rintro e w1 ⟨r, n, rfl, hr, hl, rfl⟩; have HR := Lib.hid hr; clear hr) | (go_at_call 63; refine (beltCode_any a b c d x true _).mono ?_; rintro e w1 ⟨rfl, hb⟩) | (go_at_call 61; refine (orZero_any _ _ _).mono ?_; rintro e w1 ⟨rfl, rfl⟩))
  all_goals
    go_wp2
    go_ret2
    exact ⟨_, rfl, okV_cn HR.out, okV_lt hl, below_then (by (repeat' (first | (with_reducible exact Below.refl _ _) | (with_reducible assumption) | (with_reducible refine Below.alloc ?_ ?_ _) | (with_reducible refine below_drewN ?_ _) | (with_reducible refine Below.drew ?_) | (with_reducible refine Below.setCell ?_ ?_ _) | (with_reducible exact Nat.le_refl _) | omega | (simp only [World.size_alloc, World.size_setCell, World.size_drew, World.heap_drewN]; omega) | (simp; omega)))) hb⟩

end Go.Proofs.Ytmoilahabbfjeaa
