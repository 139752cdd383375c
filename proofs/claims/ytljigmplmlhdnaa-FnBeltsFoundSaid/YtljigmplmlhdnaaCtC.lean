/- Contracts: when a belt is valid (its distance is held against a sum that may be rounded). -/
import Derived.Test.YtljigmplmlhdnaaCtB
import Derived.Deep.QuietTactic
import Derived.BigQuiet
import Derived.Deep.RegionWith
namespace Go.Proofs.Ytljigmplmlhdnaa
open Go.RowKit

def beltB (a b c d : Nat) : Bool := lengthB a && lengthB b && betB c (cop .add a b) 1199570944 && betB d 0 1073741824

set_option maxHeartbeats 400000 in
theorem implValidBelt_any (a b c d : Nat) (x : Bool) (w : World) :
    Calls Try.prog 49 #[.agg #[.float .f32 a, .float .f32 b, .float .f32 c, .float .f32 d, .bool x]] w fun e w' => e = .returned (.bool (beltB a b c d)) ∧ Below w.heap.size w w' := by
  go_enter Try.func49, Try.ntmps49
  go_wp2_with (first | (go_at_call 68; refine (impl_isRadius_any _ _).mono ?_; rintro e w' ⟨rfl, rfl⟩) | (go_at_call 82; refine (between_any _ _ _ _).mono ?_; rintro e w' ⟨rfl, rfl⟩))
  all_goals (go_ret; exact ⟨by simp_all [beltB, betB], by (repeat' (first | (with_reducible exact Below.refl _ _) | (with_reducible assumption) | (with_reducible refine Below.alloc ?_ ?_ _) | (with_reducible refine below_drewN ?_ _) | (with_reducible refine Below.drew ?_) | (with_reducible refine Below.setCell ?_ ?_ _) | (with_reducible exact Nat.le_refl _) | omega | (simp only [World.size_alloc, World.size_setCell, World.size_drew, World.heap_drewN]; omega) | (simp; omega)))⟩)

/-- What lies where a pointer to a belt leads. -/
def BeltAt (w : World) (p o a b c d : Nat) (x : Bool) : Prop :=
  w.cell? ⟨p, o, none⟩ = some (.float .f32 a) ∧ w.cell? ⟨p, o + 1, none⟩ = some (.float .f32 b) ∧ w.cell? ⟨p, o + 2, none⟩ = some (.float .f32 c) ∧ w.cell? ⟨p, o + 3, none⟩ = some (.float .f32 d) ∧ w.cell? ⟨p, o + 4, none⟩ = some (.bool x)

set_option maxHeartbeats 800000 in
theorem l02Ok_0 (p o a b c d : Nat) (x : Bool) (w : World) (h : BeltAt w p o a b c d x) (h1 : lengthB a = false) :
    Calls Try.prog 47 #[.pointer (some ⟨p, o, none⟩)] w fun e w' => e = .returned (.bool false) ∧ ∃ n, w.drewN n = w' := by
  obtain ⟨c0, c1, c2, c3, c4⟩ := h
  go_enter Try.func47, Try.ntmps47
  go_wp2_with fail
  go_quiet (first | (go_at_call_of 80 (Value.float .f32 a); exact quiet_bool h1 (l02Radius_any _ _)))
  go_wp2
  go_ret
  exact ⟨rfl, _, rfl⟩

set_option maxHeartbeats 800000 in
theorem l02Ok_1 (p o a b c d : Nat) (x : Bool) (w : World) (h : BeltAt w p o a b c d x) (h1 : lengthB a = true) (h2 : lengthB b = false) :
    Calls Try.prog 47 #[.pointer (some ⟨p, o, none⟩)] w fun e w' => e = .returned (.bool false) ∧ ∃ n, w.drewN n = w' := by
  obtain ⟨c0, c1, c2, c3, c4⟩ := h
  go_enter Try.func47, Try.ntmps47
  go_wp2_with fail
  go_quiet (first | (go_at_call_of 80 (Value.float .f32 a); exact quiet_bool h1 (l02Radius_any _ _)) | (go_at_call_of 80 (Value.float .f32 b); exact quiet_bool h2 (l02Radius_any _ _)))
  go_wp2
  go_ret
  exact ⟨rfl, _, rfl⟩

set_option maxHeartbeats 800000 in
theorem l02Ok_2 (p o a b c d : Nat) (x : Bool) (w : World) (h : BeltAt w p o a b c d x) (h1 : lengthB a = true) (h2 : lengthB b = true) (h3 : fle .f32 (cop .add a b) c = false) :
    Calls Try.prog 47 #[.pointer (some ⟨p, o, none⟩)] w fun e w' => e = .returned (.bool false) ∧ ∃ n, w.drewN n = w' := by
  obtain ⟨c0, c1, c2, c3, c4⟩ := h
  obtain ⟨r, hr0⟩ := add_fin (fin_of_length h1) (fin_of_length h2)
  have hv := fval_some hr0
  have hd := fdn_some hr0
  clear hr0
  go_enter Try.func47, Try.ntmps47
  go_wp2_with fail
  go_quiet (first | (go_at_call_of 80 (Value.float .f32 a); exact quiet_bool h1 (l02Radius_any _ _)) | (go_at_call_of 80 (Value.float .f32 b); exact quiet_bool h2 (l02Radius_any _ _)))
  go_wp2
  go_ret
  exact ⟨rfl, _, rfl⟩

set_option maxHeartbeats 800000 in
theorem l02Ok_3 (p o a b c d : Nat) (x : Bool) (w : World) (h : BeltAt w p o a b c d x) (h1 : lengthB a = true) (h2 : lengthB b = true) (h3 : fle .f32 (cop .add a b) c = true) (h4 : fle .f32 c 1199570944 = false) :
    Calls Try.prog 47 #[.pointer (some ⟨p, o, none⟩)] w fun e w' => e = .returned (.bool false) ∧ ∃ n, w.drewN n = w' := by
  obtain ⟨c0, c1, c2, c3, c4⟩ := h
  obtain ⟨r, hr0⟩ := add_fin (fin_of_length h1) (fin_of_length h2)
  have hv := fval_some hr0
  have hd := fdn_some hr0
  clear hr0
  go_enter Try.func47, Try.ntmps47
  go_wp2_with fail
  go_quiet (first | (go_at_call_of 80 (Value.float .f32 a); exact quiet_bool h1 (l02Radius_any _ _)) | (go_at_call_of 80 (Value.float .f32 b); exact quiet_bool h2 (l02Radius_any _ _)))
  go_wp2
  go_ret
  exact ⟨rfl, _, rfl⟩

set_option maxHeartbeats 800000 in
theorem l02Ok_4 (p o a b c d : Nat) (x : Bool) (w : World) (h : BeltAt w p o a b c d x) (h1 : lengthB a = true) (h2 : lengthB b = true) (h3 : fle .f32 (cop .add a b) c = true) (h4 : fle .f32 c 1199570944 = true) (h5 : fle .f32 0 d = false) :
    Calls Try.prog 47 #[.pointer (some ⟨p, o, none⟩)] w fun e w' => e = .returned (.bool false) ∧ ∃ n, w.drewN n = w' := by
  obtain ⟨c0, c1, c2, c3, c4⟩ := h
  obtain ⟨r, hr0⟩ := add_fin (fin_of_length h1) (fin_of_length h2)
  have hv := fval_some hr0
  have hd := fdn_some hr0
  clear hr0
  go_enter Try.func47, Try.ntmps47
  go_wp2_with fail
  go_quiet (first | (go_at_call_of 80 (Value.float .f32 a); exact quiet_bool h1 (l02Radius_any _ _)) | (go_at_call_of 80 (Value.float .f32 b); exact quiet_bool h2 (l02Radius_any _ _)))
  go_wp2
  go_ret
  exact ⟨rfl, _, rfl⟩

set_option maxHeartbeats 800000 in
theorem l02Ok_5 (p o a b c d : Nat) (x : Bool) (w : World) (h : BeltAt w p o a b c d x) (h1 : lengthB a = true) (h2 : lengthB b = true) (h3 : fle .f32 (cop .add a b) c = true) (h4 : fle .f32 c 1199570944 = true) (h5 : fle .f32 0 d = true) (h6 : fle .f32 d 1073741824 = false) :
    Calls Try.prog 47 #[.pointer (some ⟨p, o, none⟩)] w fun e w' => e = .returned (.bool false) ∧ ∃ n, w.drewN n = w' := by
  obtain ⟨c0, c1, c2, c3, c4⟩ := h
  obtain ⟨r, hr0⟩ := add_fin (fin_of_length h1) (fin_of_length h2)
  have hv := fval_some hr0
  have hd := fdn_some hr0
  clear hr0
  go_enter Try.func47, Try.ntmps47
  go_wp2_with fail
  go_quiet (first | (go_at_call_of 80 (Value.float .f32 a); exact quiet_bool h1 (l02Radius_any _ _)) | (go_at_call_of 80 (Value.float .f32 b); exact quiet_bool h2 (l02Radius_any _ _)))
  go_wp2
  go_ret
  exact ⟨rfl, _, rfl⟩

set_option maxHeartbeats 800000 in
theorem l02Ok_6 (p o a b c d : Nat) (x : Bool) (w : World) (h : BeltAt w p o a b c d x) (h1 : lengthB a = true) (h2 : lengthB b = true) (h3 : fle .f32 (cop .add a b) c = true) (h4 : fle .f32 c 1199570944 = true) (h5 : fle .f32 0 d = true) (h6 : fle .f32 d 1073741824 = true) :
    Calls Try.prog 47 #[.pointer (some ⟨p, o, none⟩)] w fun e w' => e = .returned (.bool true) ∧ ∃ n, w.drewN n = w' := by
  obtain ⟨c0, c1, c2, c3, c4⟩ := h
  obtain ⟨r, hr0⟩ := add_fin (fin_of_length h1) (fin_of_length h2)
  have hv := fval_some hr0
  have hd := fdn_some hr0
  clear hr0
  go_enter Try.func47, Try.ntmps47
  go_wp2_with fail
  go_quiet (first | (go_at_call_of 80 (Value.float .f32 a); exact quiet_bool h1 (l02Radius_any _ _)) | (go_at_call_of 80 (Value.float .f32 b); exact quiet_bool h2 (l02Radius_any _ _)))
  go_wp2
  go_ret
  exact ⟨rfl, _, rfl⟩

theorem l02Ok_any (p o a b c d : Nat) (x : Bool) (w : World) (h : BeltAt w p o a b c d x) :
    Calls Try.prog 47 #[.pointer (some ⟨p, o, none⟩)] w fun e w' => e = .returned (.bool (beltB a b c d)) ∧ ∃ n, w.drewN n = w' := by
  cases h1 : lengthB a
  · rw [show beltB a b c d = false by simp [beltB, betB, h1]]; exact l02Ok_0 p o a b c d x w h h1
  cases h2 : lengthB b
  · rw [show beltB a b c d = false by simp [beltB, betB, h1, h2]]; exact l02Ok_1 p o a b c d x w h h1 h2
  cases h3 : fle .f32 (cop .add a b) c
  · rw [show beltB a b c d = false by simp [beltB, betB, h1, h2, h3]]; exact l02Ok_2 p o a b c d x w h h1 h2 h3
  cases h4 : fle .f32 c 1199570944
  · rw [show beltB a b c d = false by simp [beltB, betB, h1, h2, h3, h4]]; exact l02Ok_3 p o a b c d x w h h1 h2 h3 h4
  cases h5 : fle .f32 0 d
  · rw [show beltB a b c d = false by simp [beltB, betB, h1, h2, h3, h4, h5]]; exact l02Ok_4 p o a b c d x w h h1 h2 h3 h4 h5
  cases h6 : fle .f32 d 1073741824
  · rw [show beltB a b c d = false by simp [beltB, betB, h1, h2, h3, h4, h5, h6]]; exact l02Ok_5 p o a b c d x w h h1 h2 h3 h4 h5 h6
  rw [show beltB a b c d = true by simp [beltB, betB, h1, h2, h3, h4, h5, h6]]; exact l02Ok_6 p o a b c d x w h h1 h2 h3 h4 h5 h6

end Go.Proofs.Ytljigmplmlhdnaa
