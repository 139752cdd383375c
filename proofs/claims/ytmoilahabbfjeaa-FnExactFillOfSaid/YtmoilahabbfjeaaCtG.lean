/- Contracts of the reference: lengths of belts and the like. -/
import Derived.Test.YtmoilahabbfjeaaCtF
namespace Go.Proofs.Ytmoilahabbfjeaa
open Go.RowKit

set_option maxHeartbeats 400000 in
theorem l02Reach_open (p o a b c d : Nat) (w : World) (h : BeltAt w p o a b c d false) :
    Calls Try.prog 86 #[.pointer (some ⟨p, o, none⟩)] w fun e w' => ∃ r n, e = .returned (.float .f32 r) ∧ cn r = reachC a b false ∧ r < 2 ^ 32 ∧ w.drewN n = w' := by
  obtain ⟨c0, c1, c2, c3, c4⟩ := h
  cases hlt : flt .f32 a b
  · go_enter Try.func86, Try.ntmps86
    go_wp2
    go_region
    all_goals go_wp2
    all_goals go_region
    all_goals go_wp2
    all_goals (go_ret; exact ⟨_, _, rfl, by simp [reachC, hlt], op_lt _, rfl⟩)
  · go_enter Try.func86, Try.ntmps86
    go_wp2
    go_region
    all_goals go_wp2
    all_goals go_region
    all_goals go_wp2
    all_goals (go_ret; exact ⟨_, _, rfl, by simp [reachC, hlt], op_lt _, rfl⟩)

set_option maxHeartbeats 400000 in
theorem l02Reach_crossed (p o a b c d : Nat) (w : World) (h : BeltAt w p o a b c d true) :
    Calls Try.prog 86 #[.pointer (some ⟨p, o, none⟩)] w fun e w' => ∃ r n, e = .returned (.float .f32 r) ∧ cn r = reachC a b true ∧ r < 2 ^ 32 ∧ w.drewN n = w' := by
  obtain ⟨c0, c1, c2, c3, c4⟩ := h
  go_enter Try.func86, Try.ntmps86
  go_wp2
  go_region
  all_goals go_wp2
  all_goals (go_ret; exact ⟨_, _, rfl, by simp [reachC], op_lt _, rfl⟩)

theorem l02Reach_any (p o a b c d : Nat) (x : Bool) (w : World) (h : BeltAt w p o a b c d x) :
    Calls Try.prog 86 #[.pointer (some ⟨p, o, none⟩)] w fun e w' => ∃ r n, e = .returned (.float .f32 r) ∧ cn r = reachC a b x ∧ r < 2 ^ 32 ∧ w.drewN n = w' := by
  cases x
  · exact l02Reach_open p o a b c d w h
  · exact l02Reach_crossed p o a b c d w h

set_option maxHeartbeats 1000000 in
theorem l02Length_any (p o a b c d : Nat) (x : Bool) (w : World) (h : BeltAt w p o a b c d x) :
    Calls Try.prog 60 #[.pointer (some ⟨p, o, none⟩)] w fun e w' => ∃ r n, e = .returned (.float .f32 r) ∧ cn r = lengthC a b c x ∧ r < 2 ^ 32 ∧ w.drewN n = w' := by
  have H := Lib.hid h
  obtain ⟨c0, c1, c2, c3, c4⟩ := h
  go_enter Try.func60, Try.ntmps60
  go_wp2_with fail
  refine (l02Reach_any p o a b c d x _ (by exact H.out)).mono ?_
  rintro e w' ⟨r, n, rfl, hr, hl, rfl⟩
  have HR := Lib.hid hr
  clear hr
  go_wp2
  go_region
  all_goals
    go_wp2
    go_ret
    exact ⟨_, _, rfl, by rw [lengthC, ← HR.out]; simp, op_lt _, rfl⟩

set_option maxHeartbeats 1000000 in
theorem l02Wrap_any (p o a b c d : Nat) (x : Bool) (w : World) (h : BeltAt w p o a b c d x) :
    Calls Try.prog 64 #[.pointer (some ⟨p, o, none⟩)] w fun e w' => ∃ r n, e = .returned (.float .f32 r) ∧ cn r = wrapC a b c x ∧ r < 2 ^ 32 ∧ w.drewN n = w' := by
  have H := Lib.hid h
  obtain ⟨c0, c1, c2, c3, c4⟩ := h
  go_enter Try.func64, Try.ntmps64
  go_wp2_with fail
  refine (l02Reach_any p o a b c d x _ (by exact H.out)).mono ?_
  rintro e w' ⟨r, n, rfl, hr, hl, rfl⟩
  have HR := Lib.hid hr
  clear hr
  go_wp2
  all_goals (subst_vars; go_ret; exact ⟨_, _, rfl, by rw [wrapC, turnC, ← HR.out]; simp, op_lt _, rfl⟩)

set_option maxHeartbeats 1000000 in
theorem l02Grip_any (p o a b c d : Nat) (x : Bool) (w : World) (h : BeltAt w p o a b c d x) :
    Calls Try.prog 74 #[.pointer (some ⟨p, o, none⟩)] w fun e w' => ∃ r n, e = .returned (.float .f32 r) ∧ cn r = gripC a b c d x ∧ r < 2 ^ 32 ∧ w.drewN n = w' := by
  have H := Lib.hid h
  obtain ⟨c0, c1, c2, c3, c4⟩ := h
  go_enter Try.func74, Try.ntmps74
  go_wp2
  go_region_with (go_at_call 64; refine (l02Wrap_any p o a b c d x _ (by exact H.out)).mono ?_; rintro e w' ⟨r, n, rfl, hr, hl, rfl⟩; have HR := Lib.hid hr; clear hr)
  all_goals
    go_wp2
    have Hz := Lib.hid (show cop .add 1065353216 (cop .quo (cop .mul d r) 1098907648) = gripZ a b c d x by rw [gripZ, ← HR.out]; simp)
    go_loopw [4, 5] (fun z i wr => ∃ k q m : Nat, k ≤ 4 ∧ i = .int .i64 (k : Int) ∧ z = .float .f32 q ∧ Hid (cn q = sqN k (gripZ a b c d x)) ∧ q < 2 ^ 32 ∧ w.drewN m = wr)
      (fun _ i _ => (4 - intOf i).toNat)
    case atStart => exact ⟨0, _, _, by omega, rfl, rfl, Lib.hid (by rw [sqN, ← Hz.out]; simp), op_lt _, rfl⟩
    case round =>
      obtain ⟨k, q, m, hk, rfl, rfl, Hq, hq, rfl⟩ := hrel
      by_cases hlt : k < 4
      · go_wp2
        go_roundw
        case rel => exact ⟨k + 1, _, _, by omega, by go_num, rfl, Lib.hid (by rw [sqN, ← Hq.out, sqC]; simp), op_lt _, rfl⟩
        case measure => simp [intOf]; omega
      · obtain rfl : k = 4 := by omega
        go_wp2
        go_ret
        exact ⟨_, _, rfl, Hq.out, hq, rfl⟩

set_option maxHeartbeats 400000 in
theorem l02Pull_any (p o a b c d : Nat) (x : Bool) (t : Nat) (w : World) (h : BeltAt w p o a b c d x) :
    Calls Try.prog 77 #[.pointer (some ⟨p, o, none⟩), .float .f32 t] w fun e w' => ∃ r n, e = .returned (.float .f32 r) ∧ cn r = pullC a b c d x t ∧ r < 2 ^ 32 ∧ w.drewN n = w' := by
  go_enter Try.func77, Try.ntmps77
  go_wp2_with fail
  refine (l02Grip_any p o a b c d x _ h).mono ?_
  rintro e w' ⟨r, n, rfl, hr, hl, rfl⟩
  have HR := Lib.hid hr
  clear hr
  go_wp2
  go_ret
  exact ⟨_, _, rfl, by rw [pullC, ← HR.out]; simp, op_lt _, rfl⟩

end Go.Proofs.Ytmoilahabbfjeaa
