/- Contracts: the length of a belt that is stretched, with a code. -/
import Derived.Test.YtmoilahabbfjeaaLoB
namespace Go.Proofs.Ytmoilahabbfjeaa
open Go.RowKit

def stiffB (s : Nat) : Bool := betB s 1065353216 1233125376
def stretchC (a b c : Nat) (x : Bool) (t s : Nat) : Nat := cop .mul (lengthC a b c x) (cop .add 1065353216 (cop .quo t s))

set_option maxHeartbeats 1000000 in
theorem implStretched_no (a b c d : Nat) (x : Bool) (t s : Nat) (w : World) (hp : amountB t = false) :
    Calls Try.prog 39 #[.agg #[.float .f32 a, .float .f32 b, .float .f32 c, .float .f32 d, .bool x], .float .f32 t, .float .f32 s] w fun e w' => ∃ r, e = .returned (.tuple #[.float .f32 r, .int .i64 (beltK a b c d false)]) ∧ cn r = okV (beltK a b c d false) (stretchC a b c x t s) ∧ r < 2 ^ 32 ∧ Below w.heap.size w w' := by
  go_enter Try.func39, Try.ntmps39
  go_wp2
  obtain ⟨W, hW, hsz, hbW, HB⟩ := boxed_belt w 43 a b c d x
  rw [hW]
  clear hW
  have q0 : ∀ w1, BelowC W w1 → _ := fun w1 h => (HB w1 h).1
  have q1 : ∀ w1, BelowC W w1 → _ := fun w1 h => (HB w1 h).2.1
  have q2 : ∀ w1, BelowC W w1 → _ := fun w1 h => (HB w1 h).2.2.1
  have q3 : ∀ w1, BelowC W w1 → _ := fun w1 h => (HB w1 h).2.2.2.1
  have q4 : ∀ w1, BelowC W w1 → _ := fun w1 h => (HB w1 h).2.2.2.2
  have HBW := Lib.hid HB
  clear HB
  have hdn := @BelowC.drewN W
  refine Loose.wp_region (BelowC W) (Loose.Tab [(62, fun _ v => ∃ r, v = .float .f32 r ∧ cn r = lengthC a b c x ∧ r < 2 ^ 32), (47, fun _ v => v = .bool false), (63, fun _ v => v = .int .i64 (beltK a b c d false)), (61, fun args v => ∃ r k, args = #[.float .f32 r, .int .i64 k] ∧ v = .tuple #[.float .f32 (okV k r), .int .i64 k])]) (by kernel_rfl) (by kernel_rfl) (BelowC.start W) ?_
  repeat' (first | (apply Loose.det; (focus rfl); (focus (intro wq hwq; go_simp; first | done | (with_reducible rfl))); (simp only [Act.put, List.setIfInBounds_toArray, List.set_cons_zero, List.set_cons_succ])) | (apply Loose.pass; (focus rfl); (simp only [Act.put, List.setIfInBounds_toArray, List.set_cons_zero, List.set_cons_succ])) | (apply Loose.flt (hd := hdn); (focus rfl); (focus (intro wq hwq; go_simp; first | done | (with_reducible exact ⟨rfl, rfl⟩) | (with_reducible rfl))); (rintro r hr hl; simp only [Act.put, List.setIfInBounds_toArray, List.set_cons_zero, List.set_cons_succ])) | (apply Loose.callT; (focus rfl); (focus (intro wq hwq; go_simp; first | done | (with_reducible exact ⟨rfl, rfl⟩) | (with_reducible rfl))); (focus rfl); (focus (intro w1 h1; refine (length_any _ 0 a b c d x _ (HBW.out _ h1)).mono ?_; rintro e w2 ⟨r, n, rfl, h2, h3, rfl⟩; exact ⟨_, rfl, ⟨r, rfl, h2, h3⟩, hdn _ _ h1⟩)); (rintro v ⟨rL, rfl, hrL, hlL⟩; simp only [Act.put, List.setIfInBounds_toArray, List.set_cons_zero, List.set_cons_succ])) | (apply Loose.callT; (focus rfl); (focus (intro wq hwq; go_simp; first | done | (with_reducible exact ⟨rfl, rfl⟩) | (with_reducible rfl))); (focus rfl); (focus (intro w1 h1; refine (as_bool hp (impl_isAmount_any _ _)).mono ?_; rintro e w2 ⟨rfl, rfl⟩; exact ⟨_, rfl, rfl, h1⟩)); (rintro v rfl; simp only [Act.put, List.setIfInBounds_toArray, List.set_cons_zero, List.set_cons_succ])) | (apply Loose.callT; (focus rfl); (focus (intro wq hwq; go_simp; first | done | (with_reducible exact ⟨rfl, rfl⟩) | (with_reducible rfl))); (focus rfl); (focus (intro w1 h1; refine (beltCode_any a b c d x _ _).mono ?_; rintro e w2 ⟨rfl, h2⟩; exact ⟨_, rfl, rfl, h1.call h2⟩)); (rintro v rfl; simp only [Act.put, List.setIfInBounds_toArray, List.set_cons_zero, List.set_cons_succ])) | (apply Loose.callT; (focus rfl); (focus (intro wq hwq; go_simp; first | done | (with_reducible exact ⟨rfl, rfl⟩) | (with_reducible rfl))); (focus rfl); (focus (intro w1 h1; refine (orZero_any _ _ _).mono ?_; rintro e w2 ⟨rfl, rfl⟩; exact ⟨_, rfl, ⟨_, _, rfl, rfl⟩, h1⟩)); (rintro v ⟨r', k', he, rfl⟩; (simp only [Array.mk.injEq, List.cons.injEq, Value.float.injEq, Value.int.injEq, true_and, and_true] at he; obtain ⟨rfl, rfl⟩ := he); simp only [Act.put, List.setIfInBounds_toArray, List.set_cons_zero, List.set_cons_succ])))
  refine Loose.done ?_
  intro w9 h9
  rename_i r1 hr1 hl1 r2 hr2 hl2
  have hs : cn r = stretchC a b c x t s := by
    have h2 : cn r2 = cop .add 1065353216 (cop .quo t s) := by rw [hr2, ← hr1, cop_cn_r]
    rw [hr, stretchC, ← hrL, ← h2, cop_cn_r, cop_cn_l]
  go_wp2
  go_ret2
  exact ⟨_, rfl, okV_cn hs, okV_lt hl, hbW.trans (h9.mono (by omega))⟩

set_option maxHeartbeats 1000000 in
theorem implStretched_yes (a b c d : Nat) (x : Bool) (t s : Nat) (w : World) (hp : amountB t = true) :
    Calls Try.prog 39 #[.agg #[.float .f32 a, .float .f32 b, .float .f32 c, .float .f32 d, .bool x], .float .f32 t, .float .f32 s] w fun e w' => ∃ r, e = .returned (.tuple #[.float .f32 r, .int .i64 (beltK a b c d (stiffB s))]) ∧ cn r = okV (beltK a b c d (stiffB s)) (stretchC a b c x t s) ∧ r < 2 ^ 32 ∧ Below w.heap.size w w' := by
  go_enter Try.func39, Try.ntmps39
  go_wp2
  obtain ⟨W, hW, hsz, hbW, HB⟩ := boxed_belt w 43 a b c d x
  rw [hW]
  clear hW
  have q0 : ∀ w1, BelowC W w1 → _ := fun w1 h => (HB w1 h).1
  have q1 : ∀ w1, BelowC W w1 → _ := fun w1 h => (HB w1 h).2.1
  have q2 : ∀ w1, BelowC W w1 → _ := fun w1 h => (HB w1 h).2.2.1
  have q3 : ∀ w1, BelowC W w1 → _ := fun w1 h => (HB w1 h).2.2.2.1
  have q4 : ∀ w1, BelowC W w1 → _ := fun w1 h => (HB w1 h).2.2.2.2
  have HBW := Lib.hid HB
  clear HB
  have hdn := @BelowC.drewN W
  refine Loose.wp_region (BelowC W) (Loose.Tab [(62, fun _ v => ∃ r, v = .float .f32 r ∧ cn r = lengthC a b c x ∧ r < 2 ^ 32), (47, fun _ v => v = .bool true), (76, fun _ v => v = .bool (stiffB s)), (63, fun _ v => v = .int .i64 (beltK a b c d (stiffB s))), (61, fun args v => ∃ r k, args = #[.float .f32 r, .int .i64 k] ∧ v = .tuple #[.float .f32 (okV k r), .int .i64 k])]) (by kernel_rfl) (by kernel_rfl) (BelowC.start W) ?_
  repeat' (first | (apply Loose.det; (focus rfl); (focus (intro wq hwq; go_simp; first | done | (with_reducible rfl))); (simp only [Act.put, List.setIfInBounds_toArray, List.set_cons_zero, List.set_cons_succ])) | (apply Loose.pass; (focus rfl); (simp only [Act.put, List.setIfInBounds_toArray, List.set_cons_zero, List.set_cons_succ])) | (apply Loose.flt (hd := hdn); (focus rfl); (focus (intro wq hwq; go_simp; first | done | (with_reducible exact ⟨rfl, rfl⟩) | (with_reducible rfl))); (rintro r hr hl; simp only [Act.put, List.setIfInBounds_toArray, List.set_cons_zero, List.set_cons_succ])) | (apply Loose.callT; (focus rfl); (focus (intro wq hwq; go_simp; first | done | (with_reducible exact ⟨rfl, rfl⟩) | (with_reducible rfl))); (focus rfl); (focus (intro w1 h1; refine (length_any _ 0 a b c d x _ (HBW.out _ h1)).mono ?_; rintro e w2 ⟨r, n, rfl, h2, h3, rfl⟩; exact ⟨_, rfl, ⟨r, rfl, h2, h3⟩, hdn _ _ h1⟩)); (rintro v ⟨rL, rfl, hrL, hlL⟩; simp only [Act.put, List.setIfInBounds_toArray, List.set_cons_zero, List.set_cons_succ])) | (apply Loose.callT; (focus rfl); (focus (intro wq hwq; go_simp; first | done | (with_reducible exact ⟨rfl, rfl⟩) | (with_reducible rfl))); (focus rfl); (focus (intro w1 h1; refine (as_bool hp (impl_isAmount_any _ _)).mono ?_; rintro e w2 ⟨rfl, rfl⟩; exact ⟨_, rfl, rfl, h1⟩)); (rintro v rfl; simp only [Act.put, List.setIfInBounds_toArray, List.set_cons_zero, List.set_cons_succ])) | (apply Loose.callT; (focus rfl); (focus (intro wq hwq; go_simp; first | done | (with_reducible exact ⟨rfl, rfl⟩) | (with_reducible rfl))); (focus rfl); (focus (intro w1 h1; refine (between_any _ _ _ _).mono ?_; rintro e w2 ⟨rfl, rfl⟩; exact ⟨_, rfl, rfl, h1⟩)); (rintro v rfl; simp only [Act.put, List.setIfInBounds_toArray, List.set_cons_zero, List.set_cons_succ])) | (apply Loose.callT; (focus rfl); (focus (intro wq hwq; go_simp; first | done | (with_reducible exact ⟨rfl, rfl⟩) | (with_reducible rfl))); (focus rfl); (focus (intro w1 h1; refine (beltCode_any a b c d x _ _).mono ?_; rintro e w2 ⟨rfl, h2⟩; exact ⟨_, rfl, rfl, h1.call h2⟩)); (rintro v rfl; simp only [Act.put, List.setIfInBounds_toArray, List.set_cons_zero, List.set_cons_succ])) | (apply Loose.callT; (focus rfl); (focus (intro wq hwq; go_simp; first | done | (with_reducible exact ⟨rfl, rfl⟩) | (with_reducible rfl))); (focus rfl); (focus (intro w1 h1; refine (orZero_any _ _ _).mono ?_; rintro e w2 ⟨rfl, rfl⟩; exact ⟨_, rfl, ⟨_, _, rfl, rfl⟩, h1⟩)); (rintro v ⟨r', k', he, rfl⟩; (simp only [Array.mk.injEq, List.cons.injEq, Value.float.injEq, Value.int.injEq, true_and, and_true] at he; obtain ⟨rfl, rfl⟩ := he); simp only [Act.put, List.setIfInBounds_toArray, List.set_cons_zero, List.set_cons_succ])))
  refine Loose.done ?_
  intro w9 h9
  rename_i r1 hr1 hl1 r2 hr2 hl2
  have hs : cn r = stretchC a b c x t s := by
    have h2 : cn r2 = cop .add 1065353216 (cop .quo t s) := by rw [hr2, ← hr1, cop_cn_r]
    rw [hr, stretchC, ← hrL, ← h2, cop_cn_r, cop_cn_l]
  go_wp2
  go_ret2
  exact ⟨_, rfl, okV_cn hs, okV_lt hl, hbW.trans (h9.mono (by omega))⟩

theorem implStretched_any (a b c d : Nat) (x : Bool) (t s : Nat) (w : World) :
    Calls Try.prog 39 #[.agg #[.float .f32 a, .float .f32 b, .float .f32 c, .float .f32 d, .bool x], .float .f32 t, .float .f32 s] w fun e w' => ∃ r, e = .returned (.tuple #[.float .f32 r, .int .i64 (beltK a b c d (amountB t && stiffB s))]) ∧ cn r = okV (beltK a b c d (amountB t && stiffB s)) (stretchC a b c x t s) ∧ r < 2 ^ 32 ∧ Below w.heap.size w w' := by
  cases hp : amountB t
  · exact implStretched_no a b c d x t s w hp
  · exact implStretched_yes a b c d x t s w hp

theorem plain_zero : plainB 0 = true := by decide +kernel

set_option maxHeartbeats 1000000 in
theorem specStretched_any (a b c d : Nat) (x : Bool) (t s : Nat) (w : World) :
    Calls Try.prog 38 #[.agg #[.float .f32 a, .float .f32 b, .float .f32 c, .float .f32 d, .bool x], .float .f32 t, .float .f32 s] w fun e w' => ∃ r, e = .returned (.tuple #[.float .f32 r, .int .i64 (beltK a b c d (amountB t && stiffB s))]) ∧ cn r = okV (beltK a b c d (amountB t && stiffB s)) (stretchC a b c x t s) ∧ r < 2 ^ 32 ∧ Below w.heap.size w w' := by
  have HB := Lib.hid (beltAt_box w 43 a b c d x)
  by_cases hk : beltK a b c d (amountB t && plainB 0) = 0
  · cases hq : stiffB s
    · have hk2 : beltK a b c d (amountB t && false) = 2 := by
        have : beltB a b c d = true := by
          cases hh : beltB a b c d
          · simp [beltK, hh] at hk
          · rfl
        simp [beltK, this]
      rw [hk2]
      have HK := Lib.hid hk
      have hk1 : (beltK a b c d (amountB t && plainB 0) == 0) = true := by simp [hk]
      have hq1 : fle .f32 1065353216 s = false ∨ fle .f32 s 1233125376 = false := by
        cases h1 : fle .f32 1065353216 s
        · exact .inl rfl
        · exact .inr (by simpa [stiffB, betB, h1] using hq)
      clear hk hk2
      go_enter Try.func38, Try.ntmps38
      rcases hq1 with hq1 | hq1
      · go_wp2_with (first | (go_at_call 66; refine (l02Asked_any _ 0 a b c d x _ _ _ (by exact HB.out)).mono ?_; rintro e w1 ⟨rfl, n, rfl⟩))
        all_goals (go_ret2; exact ⟨0, rfl, by simp [okV, cn_zero], by omega, by (repeat' (first | (with_reducible exact Below.refl _ _) | (with_reducible assumption) | (with_reducible refine Below.alloc ?_ ?_ _) | (with_reducible refine below_drewN ?_ _) | (with_reducible refine Below.drew ?_) | (with_reducible refine Below.setCell ?_ ?_ _) | (with_reducible exact Nat.le_refl _) | omega | (simp only [World.size_alloc, World.size_setCell, World.size_drew, World.heap_drewN]; omega) | (simp; omega)))⟩)
      · go_wp2_with (first | (go_at_call 66; refine (l02Asked_any _ 0 a b c d x _ _ _ (by exact HB.out)).mono ?_; rintro e w1 ⟨rfl, n, rfl⟩))
        all_goals (go_ret2; exact ⟨0, rfl, by simp [okV, cn_zero], by omega, by (repeat' (first | (with_reducible exact Below.refl _ _) | (with_reducible assumption) | (with_reducible refine Below.alloc ?_ ?_ _) | (with_reducible refine below_drewN ?_ _) | (with_reducible refine Below.drew ?_) | (with_reducible refine Below.setCell ?_ ?_ _) | (with_reducible exact Nat.le_refl _) | omega | (simp only [World.size_alloc, World.size_setCell, World.size_drew, World.heap_drewN]; omega) | (simp; omega)))⟩)
    · have hk2 : beltK a b c d (amountB t && true) = 0 := by simpa [plain_zero] using hk
      rw [hk2]
      have hk1 : (beltK a b c d (amountB t && plainB 0) == 0) = true := by simp [hk]
      have hk3 : (beltK a b c d (amountB t && plainB 0) != 0) = false := by simp [hk]
      have hq1 : fle .f32 1065353216 s = true ∧ fle .f32 s 1233125376 = true := by
        simpa [stiffB, betB] using hq
      obtain ⟨hq1, hq2⟩ := hq1
      clear hk hk2
      go_enter Try.func38, Try.ntmps38
      go_wp2_with (first | (go_at_call 66; refine (l02Asked_any _ 0 a b c d x _ _ _ (by exact HB.out)).mono ?_; rintro e w1 ⟨rfl, n, rfl⟩) | (go_at_call 60; refine (l02Length_any _ 0 a b c d x _ (by exact HB.out)).mono ?_; (rintro e w1 ⟨r, n, rfl, hr, hl, rfl⟩; have HR := Lib.hid hr; clear hr)))
      all_goals (go_ret2; exact ⟨_, rfl, by simp [okV, stretchC, ← HR.out], Loose.op_lt' _, by (repeat' (first | (with_reducible exact Below.refl _ _) | (with_reducible assumption) | (with_reducible refine Below.alloc ?_ ?_ _) | (with_reducible refine below_drewN ?_ _) | (with_reducible refine Below.drew ?_) | (with_reducible refine Below.setCell ?_ ?_ _) | (with_reducible exact Nat.le_refl _) | omega | (simp only [World.size_alloc, World.size_setCell, World.size_drew, World.heap_drewN]; omega) | (simp; omega)))⟩)
  · have hk2 : beltK a b c d (amountB t && stiffB s) = beltK a b c d (amountB t && plainB 0) := by
      unfold beltK at hk ⊢
      cases hh : beltB a b c d
      · rfl
      · cases hp : amountB t
        · simp
        · simp [hh, hp, plain_zero] at hk
    have hk1 : (beltK a b c d (amountB t && plainB 0) == 0) = false := by simp [hk]
    have hk3 : (beltK a b c d (amountB t && plainB 0) != 0) = true := by simp [hk]
    rw [hk2]
    have HK := Lib.hid hk
    clear hk hk2
    go_enter Try.func38, Try.ntmps38
    go_wp2_with (first | (go_at_call 66; refine (l02Asked_any _ 0 a b c d x _ _ _ (by exact HB.out)).mono ?_; rintro e w1 ⟨rfl, n, rfl⟩))
    all_goals (go_ret2; exact ⟨0, rfl, by rw [okV, if_neg HK.out]; exact cn_zero, by omega, by (repeat' (first | (with_reducible exact Below.refl _ _) | (with_reducible assumption) | (with_reducible refine Below.alloc ?_ ?_ _) | (with_reducible refine below_drewN ?_ _) | (with_reducible refine Below.drew ?_) | (with_reducible refine Below.setCell ?_ ?_ _) | (with_reducible exact Nat.le_refl _) | omega | (simp only [World.size_alloc, World.size_setCell, World.size_drew, World.heap_drewN]; omega) | (simp; omega)))⟩)

end Go.Proofs.Ytmoilahabbfjeaa
