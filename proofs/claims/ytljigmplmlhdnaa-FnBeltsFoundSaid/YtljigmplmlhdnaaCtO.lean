/- Contracts: the speed of the second pulley, and the part that is lost by slipping, with a code. -/
import Derived.Test.YtljigmplmlhdnaaLoB
namespace Go.Proofs.Ytljigmplmlhdnaa
open Go.RowKit

set_option maxHeartbeats 1000000 in
theorem implSpeedOut_no (a b c d : Nat) (x : Bool) (s q : Nat) (w : World) (hp : plainB s = false) :
    Calls Try.prog 42 #[.agg #[.float .f32 a, .float .f32 b, .float .f32 c, .float .f32 d, .bool x], .float .f32 s, .float .f32 q] w fun e w' => ∃ r, e = .returned (.tuple #[.float .f32 r, .int .i64 (beltK a b c d false)]) ∧ cn r = okV (beltK a b c d false) (outC a b x s q) ∧ r < 2 ^ 32 ∧ Below w.heap.size w w' := by
  go_enter Try.func42, Try.ntmps42
  go_wp2
  obtain ⟨W, hW, hsz, hbW, HB⟩ := boxed_belt w 31 a b c d x
  rw [hW]
  clear hW
  have q0 : ∀ w1, BelowC W w1 → _ := fun w1 h => (HB w1 h).1
  have q1 : ∀ w1, BelowC W w1 → _ := fun w1 h => (HB w1 h).2.1
  have q2 : ∀ w1, BelowC W w1 → _ := fun w1 h => (HB w1 h).2.2.1
  have q3 : ∀ w1, BelowC W w1 → _ := fun w1 h => (HB w1 h).2.2.2.1
  have q4 : ∀ w1, BelowC W w1 → _ := fun w1 h => (HB w1 h).2.2.2.2
  have HBW := Lib.hid HB
  clear HB
  have hdn := @BelowC.drewN W
  refine Loose.wp_region (BelowC W) (Loose.Tab [(59, fun _ v => ∃ r, v = .float .f32 r ∧ cn r = outC a b x s q ∧ r < 2 ^ 32), (58, fun _ v => v = .bool false), (74, fun _ v => v = .int .i64 (beltK a b c d false)), (73, fun args v => ∃ r k, args = #[.float .f32 r, .int .i64 k] ∧ v = .tuple #[.float .f32 (okV k r), .int .i64 k])]) (by kernel_rfl) (by kernel_rfl) (BelowC.start W) ?_
  repeat' (first | (apply Loose.det; (focus rfl); (focus (intro wq hwq; go_simp; first | done | (with_reducible rfl))); (simp only [Act.put, List.setIfInBounds_toArray, List.set_cons_zero, List.set_cons_succ])) | (apply Loose.pass; (focus rfl); (simp only [Act.put, List.setIfInBounds_toArray, List.set_cons_zero, List.set_cons_succ])) | (apply Loose.callT; (focus rfl); (focus (intro wq hwq; go_simp; first | done | (with_reducible exact ⟨rfl, rfl⟩) | (with_reducible rfl))); (focus rfl); (focus (intro w1 h1; refine (out_any _ 0 a b c d x _ _ _ (HBW.out _ h1)).mono ?_; rintro e w2 ⟨r, n, rfl, h2, h3, rfl⟩; exact ⟨_, rfl, ⟨r, rfl, h2, h3⟩, hdn _ _ h1⟩)); (rintro v ⟨r, rfl, hr, hl⟩; simp only [Act.put, List.setIfInBounds_toArray, List.set_cons_zero, List.set_cons_succ])) | (apply Loose.callT; (focus rfl); (focus (intro wq hwq; go_simp; first | done | (with_reducible exact ⟨rfl, rfl⟩) | (with_reducible rfl))); (focus rfl); (focus (intro w1 h1; refine (as_bool hp (impl_IsPlain_any _ _)).mono ?_; rintro e w2 ⟨rfl, rfl⟩; exact ⟨_, rfl, rfl, h1⟩)); (rintro v rfl; simp only [Act.put, List.setIfInBounds_toArray, List.set_cons_zero, List.set_cons_succ])) | (apply Loose.callT; (focus rfl); (focus (intro wq hwq; go_simp; first | done | (with_reducible exact ⟨rfl, rfl⟩) | (with_reducible rfl))); (focus rfl); (focus (intro w1 h1; refine (beltCode_any a b c d x _ _).mono ?_; rintro e w2 ⟨rfl, h2⟩; exact ⟨_, rfl, rfl, h1.call h2⟩)); (rintro v rfl; simp only [Act.put, List.setIfInBounds_toArray, List.set_cons_zero, List.set_cons_succ])) | (apply Loose.callT; (focus rfl); (focus (intro wq hwq; go_simp; first | done | (with_reducible exact ⟨rfl, rfl⟩) | (with_reducible rfl))); (focus rfl); (focus (intro w1 h1; refine (orZero_any _ _ _).mono ?_; rintro e w2 ⟨rfl, rfl⟩; exact ⟨_, rfl, ⟨_, _, rfl, rfl⟩, h1⟩)); (rintro v ⟨r', k', he, rfl⟩; (simp only [Array.mk.injEq, List.cons.injEq, Value.float.injEq, Value.int.injEq, true_and, and_true] at he; obtain ⟨rfl, rfl⟩ := he); simp only [Act.put, List.setIfInBounds_toArray, List.set_cons_zero, List.set_cons_succ])))
  refine Loose.done ?_
  intro w9 h9
  go_wp2
  go_ret2
  exact ⟨_, rfl, okV_cn hr, okV_lt hl, hbW.trans (h9.mono (by omega))⟩

set_option maxHeartbeats 1000000 in
theorem implSpeedOut_yes (a b c d : Nat) (x : Bool) (s q : Nat) (w : World) (hp : plainB s = true) :
    Calls Try.prog 42 #[.agg #[.float .f32 a, .float .f32 b, .float .f32 c, .float .f32 d, .bool x], .float .f32 s, .float .f32 q] w fun e w' => ∃ r, e = .returned (.tuple #[.float .f32 r, .int .i64 (beltK a b c d (partB q))]) ∧ cn r = okV (beltK a b c d (partB q)) (outC a b x s q) ∧ r < 2 ^ 32 ∧ Below w.heap.size w w' := by
  go_enter Try.func42, Try.ntmps42
  go_wp2
  obtain ⟨W, hW, hsz, hbW, HB⟩ := boxed_belt w 31 a b c d x
  rw [hW]
  clear hW
  have q0 : ∀ w1, BelowC W w1 → _ := fun w1 h => (HB w1 h).1
  have q1 : ∀ w1, BelowC W w1 → _ := fun w1 h => (HB w1 h).2.1
  have q2 : ∀ w1, BelowC W w1 → _ := fun w1 h => (HB w1 h).2.2.1
  have q3 : ∀ w1, BelowC W w1 → _ := fun w1 h => (HB w1 h).2.2.2.1
  have q4 : ∀ w1, BelowC W w1 → _ := fun w1 h => (HB w1 h).2.2.2.2
  have HBW := Lib.hid HB
  clear HB
  have hdn := @BelowC.drewN W
  refine Loose.wp_region (BelowC W) (Loose.Tab [(59, fun _ v => ∃ r, v = .float .f32 r ∧ cn r = outC a b x s q ∧ r < 2 ^ 32), (58, fun _ v => v = .bool true), (76, fun _ v => v = .bool (partB q)), (74, fun _ v => v = .int .i64 (beltK a b c d (partB q))), (73, fun args v => ∃ r k, args = #[.float .f32 r, .int .i64 k] ∧ v = .tuple #[.float .f32 (okV k r), .int .i64 k])]) (by kernel_rfl) (by kernel_rfl) (BelowC.start W) ?_
  repeat' (first | (apply Loose.det; (focus rfl); (focus (intro wq hwq; go_simp; first | done | (with_reducible rfl))); (simp only [Act.put, List.setIfInBounds_toArray, List.set_cons_zero, List.set_cons_succ])) | (apply Loose.pass; (focus rfl); (simp only [Act.put, List.setIfInBounds_toArray, List.set_cons_zero, List.set_cons_succ])) | (apply Loose.callT; (focus rfl); (focus (intro wq hwq; go_simp; first | done | (with_reducible exact ⟨rfl, rfl⟩) | (with_reducible rfl))); (focus rfl); (focus (intro w1 h1; refine (out_any _ 0 a b c d x _ _ _ (HBW.out _ h1)).mono ?_; rintro e w2 ⟨r, n, rfl, h2, h3, rfl⟩; exact ⟨_, rfl, ⟨r, rfl, h2, h3⟩, hdn _ _ h1⟩)); (rintro v ⟨r, rfl, hr, hl⟩; simp only [Act.put, List.setIfInBounds_toArray, List.set_cons_zero, List.set_cons_succ])) | (apply Loose.callT; (focus rfl); (focus (intro wq hwq; go_simp; first | done | (with_reducible exact ⟨rfl, rfl⟩) | (with_reducible rfl))); (focus rfl); (focus (intro w1 h1; refine (as_bool hp (impl_IsPlain_any _ _)).mono ?_; rintro e w2 ⟨rfl, rfl⟩; exact ⟨_, rfl, rfl, h1⟩)); (rintro v rfl; simp only [Act.put, List.setIfInBounds_toArray, List.set_cons_zero, List.set_cons_succ])) | (apply Loose.callT; (focus rfl); (focus (intro wq hwq; go_simp; first | done | (with_reducible exact ⟨rfl, rfl⟩) | (with_reducible rfl))); (focus rfl); (focus (intro w1 h1; refine (impl_IsPart_any _ _).mono ?_; rintro e w2 ⟨rfl, rfl⟩; exact ⟨_, rfl, rfl, h1⟩)); (rintro v rfl; simp only [Act.put, List.setIfInBounds_toArray, List.set_cons_zero, List.set_cons_succ])) | (apply Loose.callT; (focus rfl); (focus (intro wq hwq; go_simp; first | done | (with_reducible exact ⟨rfl, rfl⟩) | (with_reducible rfl))); (focus rfl); (focus (intro w1 h1; refine (beltCode_any a b c d x _ _).mono ?_; rintro e w2 ⟨rfl, h2⟩; exact ⟨_, rfl, rfl, h1.call h2⟩)); (rintro v rfl; simp only [Act.put, List.setIfInBounds_toArray, List.set_cons_zero, List.set_cons_succ])) | (apply Loose.callT; (focus rfl); (focus (intro wq hwq; go_simp; first | done | (with_reducible exact ⟨rfl, rfl⟩) | (with_reducible rfl))); (focus rfl); (focus (intro w1 h1; refine (orZero_any _ _ _).mono ?_; rintro e w2 ⟨rfl, rfl⟩; exact ⟨_, rfl, ⟨_, _, rfl, rfl⟩, h1⟩)); (rintro v ⟨r', k', he, rfl⟩; (simp only [Array.mk.injEq, List.cons.injEq, Value.float.injEq, Value.int.injEq, true_and, and_true] at he; obtain ⟨rfl, rfl⟩ := he); simp only [Act.put, List.setIfInBounds_toArray, List.set_cons_zero, List.set_cons_succ])))
  refine Loose.done ?_
  intro w9 h9
  go_wp2
  go_ret2
  exact ⟨_, rfl, okV_cn hr, okV_lt hl, hbW.trans (h9.mono (by omega))⟩

theorem implSpeedOut_any (a b c d : Nat) (x : Bool) (s q : Nat) (w : World) :
    Calls Try.prog 42 #[.agg #[.float .f32 a, .float .f32 b, .float .f32 c, .float .f32 d, .bool x], .float .f32 s, .float .f32 q] w fun e w' => ∃ r, e = .returned (.tuple #[.float .f32 r, .int .i64 (beltK a b c d (plainB s && partB q))]) ∧ cn r = okV (beltK a b c d (plainB s && partB q)) (outC a b x s q) ∧ r < 2 ^ 32 ∧ Below w.heap.size w w' := by
  cases hp : plainB s
  · exact implSpeedOut_no a b c d x s q w hp
  · exact implSpeedOut_yes a b c d x s q w hp

theorem amount_zero : amountB 0 = true := by decide +kernel

end Go.Proofs.Ytljigmplmlhdnaa
