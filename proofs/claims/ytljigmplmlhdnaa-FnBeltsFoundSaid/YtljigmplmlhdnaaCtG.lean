/- Contracts of the reference: lengths of belts and the like. -/
import Derived.Test.YtljigmplmlhdnaaCtF
namespace Go.Proofs.Ytljigmplmlhdnaa
open Go.RowKit

set_option maxHeartbeats 400000 in
theorem l02Reach_open (p o a b c d : Nat) (w : World) (h : BeltAt w p o a b c d false) :
    Calls Try.prog 84 #[.pointer (some ⟨p, o, none⟩)] w fun e w' => ∃ r n, e = .returned (.float .f32 r) ∧ cn r = reachC a b false ∧ r < 2 ^ 32 ∧ w.drewN n = w' := by
  obtain ⟨c0, c1, c2, c3, c4⟩ := h
  cases hlt : flt .f32 a b
  · go_enter Try.func84, Try.ntmps84
    go_wp2
    go_region
    all_goals go_wp2
    all_goals go_region
    all_goals go_wp2
    all_goals (go_ret; exact ⟨_, _, rfl, by simp [reachC, hlt], op_lt _, rfl⟩)
  · go_enter Try.func84, Try.ntmps84
    go_wp2
    go_region
    all_goals go_wp2
    all_goals go_region
    all_goals go_wp2
    all_goals (go_ret; exact ⟨_, _, rfl, by simp [reachC, hlt], op_lt _, rfl⟩)

set_option maxHeartbeats 400000 in
theorem l02Reach_crossed (p o a b c d : Nat) (w : World) (h : BeltAt w p o a b c d true) :
    Calls Try.prog 84 #[.pointer (some ⟨p, o, none⟩)] w fun e w' => ∃ r n, e = .returned (.float .f32 r) ∧ cn r = reachC a b true ∧ r < 2 ^ 32 ∧ w.drewN n = w' := by
  obtain ⟨c0, c1, c2, c3, c4⟩ := h
  go_enter Try.func84, Try.ntmps84
  go_wp2
  go_region
  all_goals go_wp2
  all_goals (go_ret; exact ⟨_, _, rfl, by simp [reachC], op_lt _, rfl⟩)

theorem l02Reach_any (p o a b c d : Nat) (x : Bool) (w : World) (h : BeltAt w p o a b c d x) :
    Calls Try.prog 84 #[.pointer (some ⟨p, o, none⟩)] w fun e w' => ∃ r n, e = .returned (.float .f32 r) ∧ cn r = reachC a b x ∧ r < 2 ^ 32 ∧ w.drewN n = w' := by
  cases x
  · exact l02Reach_open p o a b c d w h
  · exact l02Reach_crossed p o a b c d w h

set_option maxHeartbeats 1000000 in
theorem l02Length_any (p o a b c d : Nat) (x : Bool) (w : World) (h : BeltAt w p o a b c d x) :
    Calls Try.prog 51 #[.pointer (some ⟨p, o, none⟩)] w fun e w' => ∃ r n, e = .returned (.float .f32 r) ∧ cn r = lengthC a b c x ∧ r < 2 ^ 32 ∧ w.drewN n = w' := by
  have H := Lib.hid h
  obtain ⟨c0, c1, c2, c3, c4⟩ := h
  go_enter Try.func51, Try.ntmps51
  go_wp2_with fail
  refine (l02Reach_any p o a b c d x _ (by exact H.out)).mono ?_
  rintro e w' ⟨r, n, rfl, hr, hl, rfl⟩
  have HR := Lib.hid hr
  clear hr
  go_wp2
  go_region
  all_goals
    go_wp2
    go_ret
    exact ⟨_, _, rfl, by rw [lengthC, ← HR.out]; simp, op_lt _, rfl⟩

end Go.Proofs.Ytljigmplmlhdnaa
