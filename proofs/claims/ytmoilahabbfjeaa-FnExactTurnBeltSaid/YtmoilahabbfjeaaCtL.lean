/- Contracts: a belt with both pulleys exchanged; when two belts are the same. -/
import Derived.Test.YtmoilahabbfjeaaCtH
import Derived.Test.YtmoilahabbfjeaaSm
import Derived.Test.YtmoilahabbfjeaaDr
namespace Go.Proofs.Ytmoilahabbfjeaa
open Go.RowKit

theorem BeltAt.alloc {w : World} {p o a b c d : Nat} {x : Bool} (h : BeltAt w p o a b c d x) (hp : p < w.heap.size) (ob : Obj) : BeltAt (w.alloc ob) p o a b c d x := by
  obtain ⟨h0, h1, h2, h3, h4⟩ := h
  refine ⟨?_, ?_, ?_, ?_, ?_⟩ <;> rw [World.cell?_alloc_past] <;> assumption

set_option maxHeartbeats 400000 in
theorem implValidBelt_ex (a b c d : Nat) (x : Bool) (w : World) :
    Calls Try.prog 59 #[.agg #[.float .f32 a, .float .f32 b, .float .f32 c, .float .f32 d, .bool x]] w fun e w' => e = .returned (.bool (beltB a b c d)) ∧ ∃ n, (w.alloc (.cells #[.float .f32 a, .float .f32 b, .float .f32 c, .float .f32 d, .bool x] 43)).drewN n = w' := by
  go_enter Try.func59, Try.ntmps59
  go_wp2_with (first | (go_at_call 85; refine (impl_isRadius_any _ _).mono ?_; rintro e w' ⟨rfl, rfl⟩) | (go_at_call 76; refine (between_any _ _ _ _).mono ?_; rintro e w' ⟨rfl, rfl⟩))
  all_goals first | (go_ret; exact ⟨by simp_all [beltB, betB], _, rfl⟩) | (go_ret; exact ⟨by simp_all [beltB, betB], 0, rfl⟩)

set_option maxHeartbeats 1000000 in
theorem implTurnBelt_no (a b c d : Nat) (x : Bool) (w : World) (hB : beltB a b c d = false) :
    Calls Try.prog 25 #[.agg #[.float .f32 a, .float .f32 b, .float .f32 c, .float .f32 d, .bool x]] w fun e w' => e = .returned (.tuple #[.agg #[.float .f32 0, .float .f32 0, .float .f32 0, .float .f32 0, .bool false], .int .i64 1]) ∧ Below w.heap.size w w' := by
  have HB := Lib.hid (beltAt_box w 43 a b c d x)
  go_enter Try.func25, Try.ntmps25
  go_wp2_with fail
  refine (implValidBelt_ex _ _ _ _ _ _).mono ?_
  rintro e w1 ⟨rfl, n, rfl⟩
  go_wp2
  exact bodyPost_ret (v := .tuple #[.agg #[.float .f32 0, .float .f32 0, .float .f32 0, .float .f32 0, .bool false], .int .i64 1]) (by simp [results, Try.results25, go_sem]) rfl ⟨rfl, by (repeat' (first | (with_reducible exact Below.refl _ _) | (with_reducible assumption) | (with_reducible refine Below.alloc ?_ ?_ _) | (with_reducible refine below_drewN ?_ _) | (with_reducible refine Below.drew ?_) | (with_reducible refine Below.setCell ?_ ?_ _) | (with_reducible exact Nat.le_refl _) | omega | (simp only [World.size_alloc, World.size_setCell, World.size_drew, World.heap_drewN]; omega) | (simp; omega)))⟩

set_option maxHeartbeats 1000000 in
theorem implTurnBelt_yes (a b c d : Nat) (x : Bool) (w : World) (hB : beltB a b c d = true) :
    Calls Try.prog 25 #[.agg #[.float .f32 a, .float .f32 b, .float .f32 c, .float .f32 d, .bool x]] w fun e w' => e = .returned (.tuple #[.agg #[.float .f32 b, .float .f32 a, .float .f32 c, .float .f32 d, .bool x], .int .i64 0]) ∧ Below w.heap.size w w' := by
  have HB := Lib.hid (beltAt_box w 43 a b c d x)
  go_enter Try.func25, Try.ntmps25
  go_wp2_with fail
  refine (implValidBelt_ex _ _ _ _ _ _).mono ?_
  rintro e w1 ⟨rfl, n, rfl⟩
  go_wp2
  exact bodyPost_ret (v := .tuple #[.agg #[.float .f32 b, .float .f32 a, .float .f32 c, .float .f32 d, .bool x], .int .i64 0]) (by simp [results, Try.results25, go_sem]) rfl ⟨rfl, by (repeat' (first | (with_reducible exact Below.refl _ _) | (with_reducible assumption) | (with_reducible refine Below.alloc ?_ ?_ _) | (with_reducible refine below_drewN ?_ _) | (with_reducible refine Below.drew ?_) | (with_reducible refine Below.setCell ?_ ?_ _) | (with_reducible exact Nat.le_refl _) | omega | (simp only [World.size_alloc, World.size_setCell, World.size_drew, World.heap_drewN]; omega) | (simp; omega)))⟩

set_option maxHeartbeats 1000000 in
theorem specTurnBelt_no (a b c d : Nat) (x : Bool) (w : World) (hB : beltB a b c d = false) :
    Calls Try.prog 23 #[.agg #[.float .f32 a, .float .f32 b, .float .f32 c, .float .f32 d, .bool x]] w fun e w' => e = .returned (.tuple #[.agg #[.float .f32 0, .float .f32 0, .float .f32 0, .float .f32 0, .bool false], .int .i64 1]) ∧ Below w.heap.size w w' := by
  have HB := Lib.hid (beltAt_box w 43 a b c d x)
  have HB2 := Lib.hid (HB.out.alloc (by simp) (.cells #[.float .f32 0, .float .f32 0, .float .f32 0, .float .f32 0, .bool false] 43))
  go_enter Try.func23, Try.ntmps23
  go_wp2_with fail
  refine (l02Ok_any _ 0 a b c d x _ (by exact HB2.out)).mono ?_
  rintro e w1 ⟨rfl, n, rfl⟩
  go_wp2
  exact bodyPost_ret (v := .tuple #[.agg #[.float .f32 0, .float .f32 0, .float .f32 0, .float .f32 0, .bool false], .int .i64 1]) (by simp [results, Try.results23, go_sem]) rfl ⟨rfl, by (repeat' (first | (with_reducible exact Below.refl _ _) | (with_reducible assumption) | (with_reducible refine Below.alloc ?_ ?_ _) | (with_reducible refine below_drewN ?_ _) | (with_reducible refine Below.drew ?_) | (with_reducible refine Below.setCell ?_ ?_ _) | (with_reducible exact Nat.le_refl _) | omega | (simp only [World.size_alloc, World.size_setCell, World.size_drew, World.heap_drewN]; omega) | (simp; omega)))⟩

set_option maxHeartbeats 1000000 in
theorem specTurnBelt_yes (a b c d : Nat) (x : Bool) (w : World) (hB : beltB a b c d = true) :
    Calls Try.prog 23 #[.agg #[.float .f32 a, .float .f32 b, .float .f32 c, .float .f32 d, .bool x]] w fun e w' => e = .returned (.tuple #[.agg #[.float .f32 b, .float .f32 a, .float .f32 c, .float .f32 d, .bool x], .int .i64 0]) ∧ Below w.heap.size w w' := by
  have HB := Lib.hid (beltAt_box w 43 a b c d x)
  have HB2 := Lib.hid (HB.out.alloc (by simp) (.cells #[.float .f32 0, .float .f32 0, .float .f32 0, .float .f32 0, .bool false] 43))
  go_enter Try.func23, Try.ntmps23
  go_wp2_with fail
  refine (l02Ok_any _ 0 a b c d x _ (by exact HB2.out)).mono ?_
  rintro e w1 ⟨rfl, n, rfl⟩
  go_wp2
  exact bodyPost_ret (v := .tuple #[.agg #[.float .f32 b, .float .f32 a, .float .f32 c, .float .f32 d, .bool x], .int .i64 0]) (by simp [results, Try.results23, go_sem]) rfl ⟨rfl, by (repeat' (first | (with_reducible exact Below.refl _ _) | (with_reducible assumption) | (with_reducible refine Below.alloc ?_ ?_ _) | (with_reducible refine below_drewN ?_ _) | (with_reducible refine Below.drew ?_) | (with_reducible refine Below.setCell ?_ ?_ _) | (with_reducible exact Nat.le_refl _) | omega | (simp only [World.size_alloc, World.size_setCell, World.size_drew, World.heap_drewN]; omega) | (simp; omega)))⟩

end Go.Proofs.Ytmoilahabbfjeaa
