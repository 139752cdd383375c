/- Contracts: what is told of a belt, with a code. -/
import Derived.Test.YtljigmplmlhdnaaCtG
namespace Go.Proofs.Ytljigmplmlhdnaa
open Go.RowKit

theorem beltAt_box (w : World) (t : TypeId) (a b c d : Nat) (x : Bool) : BeltAt (w.alloc (.cells #[.float .f32 a, .float .f32 b, .float .f32 c, .float .f32 d, .bool x] t)) w.heap.size 0 a b c d x := by
  refine ⟨?_, ?_, ?_, ?_, ?_⟩ <;> simp [World.cell?_alloc_at]

/-- The code of a belt and of numbers that are as told. -/
def beltK (a b c d : Nat) (fine : Bool) : Int := if beltB a b c d then (if fine then 0 else 2) else 1
/-- A result, where the code is OK. -/
def okV (k : Int) (r : Nat) : Nat := if k = 0 then r else 0
theorem cn_zero : cn 0 = 0 := cn_of_num (by decide +kernel)
theorem okV_cn {k : Int} {r v : Nat} (h : cn r = v) : cn (okV k r) = okV k v := by
  unfold okV
  split
  · exact h
  · exact cn_zero
theorem okV_lt {k : Int} {r : Nat} (h : r < 2 ^ 32) : okV k r < 2 ^ 32 := by
  unfold okV
  split <;> omega

set_option maxHeartbeats 400000 in
theorem beltCode_any (a b c d : Nat) (x fine : Bool) (w : World) :
    Calls Try.prog 74 #[.agg #[.float .f32 a, .float .f32 b, .float .f32 c, .float .f32 d, .bool x], .bool fine] w fun e w' => e = .returned (.int .i64 (beltK a b c d fine)) ∧ Below w.heap.size w w' := by
  go_enter Try.func74, Try.ntmps74
  go_wp2_with (go_at_call 49; refine (implValidBelt_any _ _ _ _ _ _).mono ?_; rintro e w1 ⟨rfl, hb⟩)
  all_goals (go_ret; exact ⟨by simp_all [beltK], below_then (by (repeat' (first | (with_reducible exact Below.refl _ _) | (with_reducible assumption) | (with_reducible refine Below.alloc ?_ ?_ _) | (with_reducible refine below_drewN ?_ _) | (with_reducible refine Below.drew ?_) | (with_reducible refine Below.setCell ?_ ?_ _) | (with_reducible exact Nat.le_refl _) | omega | (simp only [World.size_alloc, World.size_setCell, World.size_drew, World.heap_drewN]; omega) | (simp; omega)))) hb⟩)

set_option maxHeartbeats 400000 in
theorem orZero_any (r : Nat) (k : Int) (w : World) :
    Calls Try.prog 73 #[.float .f32 r, .int .i64 k] w fun e w' => e = .returned (.tuple #[.float .f32 (okV k r), .int .i64 k]) ∧ w = w' := by
  go_enter Try.func73, Try.ntmps73
  go_wp2
  all_goals (go_ret2; exact ⟨by simp_all [okV], rfl⟩)

set_option maxHeartbeats 1000000 in
theorem implLengthOf_any (a b c d : Nat) (x : Bool) (w : World) :
    Calls Try.prog 39 #[.agg #[.float .f32 a, .float .f32 b, .float .f32 c, .float .f32 d, .bool x]] w fun e w' => ∃ r, e = .returned (.tuple #[.float .f32 r, .int .i64 (beltK a b c d true)]) ∧ cn r = okV (beltK a b c d true) (lengthC a b c x) ∧ r < 2 ^ 32 ∧ Below w.heap.size w w' := by
  have HB := Lib.hid (beltAt_box w 31 a b c d x)
  go_enter Try.func39, Try.ntmps39
  go_wp2
  go_region_with (first | (go_at_call 54; refine (length_any _ 0 a b c d x _ (by exact HB.out)).mono ?_; rintro e w1 ⟨r, n, rfl, hr, hl, rfl⟩; have HR := Lib.hid hr; clear hr) | (go_at_call 74; refine (beltCode_any a b c d x true _).mono ?_; rintro e w1 ⟨rfl, hb⟩) | (go_at_call 73; refine (orZero_any _ _ _).mono ?_; rintro e w1 ⟨rfl, rfl⟩))
  all_goals
    go_wp2
    go_ret2
    exact ⟨_, rfl, okV_cn HR.out, okV_lt hl, below_then (by (repeat' (first | (with_reducible exact Below.refl _ _) | (with_reducible assumption) | (with_reducible refine Below.alloc ?_ ?_ _) | (with_reducible refine below_drewN ?_ _) | (with_reducible refine Below.drew ?_) | (with_reducible refine Below.setCell ?_ ?_ _) | (with_reducible exact Nat.le_refl _) | omega | (simp only [World.size_alloc, World.size_setCell, World.size_drew, World.heap_drewN]; omega) | (simp; omega)))) hb⟩

end Go.Proofs.Ytljigmplmlhdnaa
