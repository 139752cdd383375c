/- Contracts: the part of the speed that is lost by slipping. -/
import Derived.Test.YtmoilahabbfjeaaLoB
import Derived.Test.YtmoilahabbfjeaaFltB
import Derived.Test.YtmoilahabbfjeaaSm
namespace Go.Proofs.Ytmoilahabbfjeaa
open Go.RowKit

/-- The size of a number, as the reference model and the program reckon it. -/
def sizeC (x : Nat) : Nat := if flt .f32 x 0 then cop .sub 0 x else cn x
theorem sub_neg {x : Nat} (hx : x < 2 ^ 32) (h : flt .f32 x 0 = true) : cop .sub 0 x = cn (fneg x) := by
  have hn : isNan x = false := by
    cases hh : isNan x
    · rfl
    · unfold flt at h; rw [order_nan_l hh] at h; simp at h
  have hnf : isNan (fneg x) = false := by rw [isNan_fneg hx]; exact hn
  rw [cn_of_num hnf]
  have hw := Flt.word_eq Ieee.single (w := x) (by rw [single_sign']; omega)
  have f0 : Flt.fin Ieee.single 0 = true := by decide +kernel
  have s0 : Flt.sg Ieee.single 0 = 0 := by decide +kernel
  have hlt : Flt.rung Ieee.single x < 2147483648 := Nat.mod_lt _ (by decide)
  cases hf : Flt.fin Ieee.single x
  · have hr : ¬ Flt.rung Ieee.single x < Ieee.single.infRung := by
      have := hf
      unfold Flt.fin at this
      simpa using this
    have hB : ¬ Flt.rung Ieee.single x < Ieee.single.binade := fun hc => hr (Nat.lt_trans hc (by decide))
    have hread : Ieee.single.read x = if Flt.rung Ieee.single x = Ieee.single.infRung then .infinity (Flt.sgn Ieee.single x) else .nan (Flt.sgn Ieee.single x) (Flt.rung Ieee.single x - Ieee.single.infRung) := by
      unfold Ieee.Format.read
      simp only [Flt.rung, Flt.sgn] at *
      rw [if_neg hB, if_neg hr]
      rfl
    by_cases hi : Flt.rung Ieee.single x = Ieee.single.infRung
    · rw [if_pos hi] at hread
      have h2 : (Ieee.single.read x).order (Ieee.single.read 0) = some .lt := by
        have := h
        unfold flt at this
        exact eq_of_beq this
      have e0 : ∃ m i, Ieee.single.read 0 = .number false m i := by
        obtain ⟨m, i, e, _⟩ := Flt.read_fin Ieee.single f0
        exact ⟨m, i, by rw [e]; congr 1⟩
      obtain ⟨m, i, e0⟩ := e0
      rw [hread, e0] at h2
      have hs : Flt.sgn Ieee.single x = true := by
        cases hs : Flt.sgn Ieee.single x
        · rw [hs] at h2; simp [Ieee.Datum.order] at h2
        · rfl
      rw [hs, hi] at hw
      rw [← hw]
      decide +kernel
    · exfalso
      rw [if_neg hi] at hread
      rw [isNan_single, hread] at hn
      simp [Ieee.Datum.isNaN] at hn
  · have h2 := Flt.order_fin Ieee.single hf f0
    have h3 : Ieee.single.order x 0 = some .lt := by
      have := h
      unfold flt at this
      exact eq_of_beq this
    rw [h3, s0] at h2
    have hneg : Flt.sg Ieee.single x < 0 := by
      have := (Option.some.inj h2).symm
      exact Int.compare_eq_lt.1 this
    have hs : Flt.sgn Ieee.single x = true := by
      cases hs : Flt.sgn Ieee.single x
      · unfold Flt.sg at hneg; rw [hs] at hneg; simp at hneg; omega
      · rfl
    have h0 : Flt.rung Ieee.single x ≠ 0 := fun hc => by
      unfold Flt.sg at hneg
      rw [hs, hc, Flt.mag_zero] at hneg
      simp at hneg
    unfold cop floatBits
    show (Ieee.single.sub 0 x).getD nan0 = _
    rw [Flt.sub_zero_fin Ieee.single hf h0, hs]
    rw [hs] at hw
    have e1 : Ieee.single.word true (Flt.rung Ieee.single x) = 2147483648 + Flt.rung Ieee.single x := by
      unfold Ieee.Format.word
      rw [single_sign']
      simp
    have e2 : Ieee.single.word false (Flt.rung Ieee.single x) = Flt.rung Ieee.single x := by
      unfold Ieee.Format.word
      simp
    rw [e1] at hw
    show Ieee.single.word (!true) _ = _
    rw [Bool.not_true, e2]
    conv => rhs; rw [← hw]
    rw [fneg_big hlt]

def loadC (a q : Nat) : Nat := cop .quo (sizeC q) a

set_option maxHeartbeats 400000 in
theorem size_any (x : Nat) (hx : x < 2 ^ 32) (w : World) :
    Calls Try.prog 80 #[.float .f32 x] w fun e w' => ∃ r n, e = .returned (.float .f32 r) ∧ cn r = sizeC x ∧ r < 2 ^ 32 ∧ w.drewN n = w' := by
  go_enter Try.func80, Try.ntmps80
  cases h : flt .f32 x 0
  · go_wp2
    all_goals (go_ret; exact ⟨_, 0, rfl, by simp [sizeC, h], hx, rfl⟩)
  · go_wp2
    all_goals (go_ret; exact ⟨_, _, rfl, by simp [sizeC, h], Loose.op_lt' _, rfl⟩)

set_option maxHeartbeats 400000 in
theorem l01Size_any (x : Nat) (hx : x < 2 ^ 32) (w : World) :
    Calls Try.prog 79 #[.float .f32 x] w fun e w' => ∃ r n, e = .returned (.float .f32 r) ∧ cn r = sizeC x ∧ r < 2 ^ 32 ∧ w.drewN n = w' := by
  go_enter Try.func79, Try.ntmps79
  cases h : flt .f32 x 0
  · go_wp2
    all_goals (go_ret; exact ⟨_, 0, rfl, by simp [sizeC, h], hx, rfl⟩)
  · go_wp2
    all_goals (go_ret; exact ⟨_, 0, rfl, by rw [sizeC, if_pos h, sub_neg hx h], fneg_lt hx, rfl⟩)

theorem cn_one' : cn 1065353216 = 1065353216 := by decide +kernel
def slipC (a b c d : Nat) (x : Bool) (t q : Nat) : Nat :=
  if feq .f32 (loadC a q) 0 then 0 else if fle .f32 (pullC a b c d x t) (loadC a q) then 1065353216 else cop .quo (cop .quo (loadC a q) (pullC a b c d x t)) 1115684864

set_option maxHeartbeats 1000000 in
theorem implSlipFor_ok (a b c d : Nat) (x : Bool) (t q : Nat) (hq : q < 2 ^ 32) (w : World) (hk : beltK a b c d (amountB t && plainB q) = 0) :
    Calls Try.prog 43 #[.agg #[.float .f32 a, .float .f32 b, .float .f32 c, .float .f32 d, .bool x], .float .f32 t, .float .f32 q] w fun e w' => ∃ r, e = .returned (.tuple #[.float .f32 r, .int .i64 0]) ∧ cn r = slipC a b c d x t q ∧ r < 2 ^ 32 ∧ Below w.heap.size w w' := by
  have hT : amountB t = true ∧ plainB q = true := by
    unfold beltK at hk
    split at hk
    · split at hk
      · rename_i h2; simpa using h2
      · simp at hk
    · simp at hk
  obtain ⟨hT1, hT2⟩ := hT
  rw [hT1, hT2, Bool.and_self] at hk
  have HK0 := Lib.hid hk
  clear hk
  go_enter Try.func43, Try.ntmps43
  go_wp2
  obtain ⟨W, hW, hsz, hbW, HB⟩ := boxed_belt w 43 a b c d x
  rw [hW]
  clear hW
  have q0 : ∀ w1, BelowC W w1 → _ := fun w1 h => (HB w1 h).1
  have q1 : ∀ w1, BelowC W w1 → _ := fun w1 h => (HB w1 h).2.1
  have q2 : ∀ w1, BelowC W w1 → _ := fun w1 h => (HB w1 h).2.2.1
  have q3 : ∀ w1, BelowC W w1 → _ := fun w1 h => (HB w1 h).2.2.2.1
  have q4 : ∀ w1, BelowC W w1 → _ := fun w1 h => (HB w1 h).2.2.2.2
  have HBW := Lib.hid HB
  clear HB
  have hdn := @BelowC.drewN W
  refine Loose.wp_region (BelowC W) (Loose.Tab [(47, fun _ v => v = .bool true), (69, fun _ v => v = .bool true), (63, fun _ v => v = .int .i64 0)]) (by kernel_rfl) (by kernel_rfl) (BelowC.start W) ?_
  repeat' (first | (apply Loose.det; (focus rfl); (focus (intro wq hwq; go_simp; first | done | (with_reducible rfl))); (simp only [Act.put, List.setIfInBounds_toArray, List.set_cons_zero, List.set_cons_succ])) | (apply Loose.pass; (focus rfl); (simp only [Act.put, List.setIfInBounds_toArray, List.set_cons_zero, List.set_cons_succ])) | (apply Loose.callT; (focus rfl); (focus (intro wq hwq; go_simp; first | done | (with_reducible exact ⟨rfl, rfl⟩) | (with_reducible rfl))); (focus rfl); (focus (intro w1 h1; refine (as_bool hT1 (impl_isAmount_any _ _)).mono ?_; rintro e w2 ⟨rfl, rfl⟩; exact ⟨_, rfl, rfl, h1⟩)); (rintro v rfl; simp only [Act.put, List.setIfInBounds_toArray, List.set_cons_zero, List.set_cons_succ])) | (apply Loose.callT; (focus rfl); (focus (intro wq hwq; go_simp; first | done | (with_reducible exact ⟨rfl, rfl⟩) | (with_reducible rfl))); (focus rfl); (focus (intro w1 h1; refine (as_bool hT2 (impl_IsPlain_any _ _)).mono ?_; rintro e w2 ⟨rfl, rfl⟩; exact ⟨_, rfl, rfl, h1⟩)); (rintro v rfl; simp only [Act.put, List.setIfInBounds_toArray, List.set_cons_zero, List.set_cons_succ])) | (apply Loose.callT; (focus rfl); (focus (intro wq hwq; go_simp; first | done | (with_reducible exact ⟨rfl, rfl⟩) | (with_reducible rfl))); (focus rfl); (focus (intro w1 h1; refine (beltCode_any a b c d x _ _).mono ?_; rintro e w2 ⟨rfl, h2⟩; exact ⟨_, rfl, by rw [HK0.out], h1.call h2⟩)); (rintro v rfl; simp only [Act.put, List.setIfInBounds_toArray, List.set_cons_zero, List.set_cons_succ])))
  refine Loose.done ?_
  intro w9 h9
  go_wp2
  refine Loose.wp_region (BelowC W) (Loose.Tab [(78, fun _ v => ∃ r, v = .float .f32 r ∧ cn r = pullC a b c d x t ∧ r < 2 ^ 32), (80, fun _ v => ∃ r, v = .float .f32 r ∧ cn r = sizeC q ∧ r < 2 ^ 32)]) (by kernel_rfl) (by kernel_rfl) h9.drew ?_
  repeat' (first | (apply Loose.det; (focus rfl); (focus (intro wq hwq; go_simp; first | done | (with_reducible rfl))); (simp only [Act.put, List.setIfInBounds_toArray, List.set_cons_zero, List.set_cons_succ])) | (apply Loose.pass; (focus rfl); (simp only [Act.put, List.setIfInBounds_toArray, List.set_cons_zero, List.set_cons_succ])) | (apply Loose.flt (hd := hdn); (focus rfl); (focus (intro wq hwq; go_simp; first | done | (with_reducible exact ⟨rfl, rfl⟩) | (with_reducible rfl))); (rintro rQ hrQ hlQ; simp only [Act.put, List.setIfInBounds_toArray, List.set_cons_zero, List.set_cons_succ])) | (apply Loose.callT; (focus rfl); (focus (intro wq hwq; go_simp; first | done | (with_reducible exact ⟨rfl, rfl⟩) | (with_reducible rfl))); (focus rfl); (focus (intro w1 h1; refine (pull_any _ 0 a b c d x _ _ (HBW.out _ h1)).mono ?_; rintro e w2 ⟨r, n, rfl, h2, h3, rfl⟩; exact ⟨_, rfl, ⟨r, rfl, h2, h3⟩, hdn _ _ h1⟩)); (rintro v ⟨rP, rfl, hrP, hlP⟩; simp only [Act.put, List.setIfInBounds_toArray, List.set_cons_zero, List.set_cons_succ])) | (apply Loose.callT; (focus rfl); (focus (intro wq hwq; go_simp; first | done | (with_reducible exact ⟨rfl, rfl⟩) | (with_reducible rfl))); (focus rfl); (focus (intro w1 h1; refine (size_any q hq _).mono ?_; rintro e w2 ⟨r, n, rfl, h2, h3, rfl⟩; exact ⟨_, rfl, ⟨r, rfl, h2, h3⟩, hdn _ _ h1⟩)); (rintro v ⟨rS, rfl, hrS, hlS⟩; simp only [Act.put, List.setIfInBounds_toArray, List.set_cons_zero, List.set_cons_succ])))
  refine Loose.done ?_
  intro w8 h8
  have eL : loadC a q = cn rQ := by rw [hrQ, loadC, ← hrS, cop_cn_l]
  have eS : slipC a b c d x t q = if feq .f32 rQ 0 then 0 else if fle .f32 rP rQ then 1065353216 else cop .quo (cop .quo rQ rP) 1115684864 := by
    rw [slipC, eL, ← hrP, feq_cn_l, fle_cn_l, fle_cn_r, cop_cn_l, cop_cn_r]
  have HS := Lib.hid eS
  have hb8 := hbW.trans (h8.out.mono (by omega))
  clear eS eL hrQ hrP hrS q0 q1 q2 q3 q4
  cases hf1 : feq .f32 rQ 0
  · cases hf2 : fle .f32 rP rQ
    · go_wp2
      go_ret2
      exact ⟨_, rfl, by rw [HS.out, hf1, hf2]; simp, Loose.op_lt' _, by (repeat' (first | (with_reducible exact Below.refl _ _) | (with_reducible assumption) | (with_reducible refine Below.alloc ?_ ?_ _) | (with_reducible refine below_drewN ?_ _) | (with_reducible refine Below.drew ?_) | (with_reducible refine Below.setCell ?_ ?_ _) | (with_reducible exact Nat.le_refl _) | omega | (simp only [World.size_alloc, World.size_setCell, World.size_drew, World.heap_drewN]; omega) | (simp; omega)))⟩
    · go_wp2
      go_ret2
      exact ⟨_, rfl, by rw [HS.out, hf1, hf2]; exact cn_one', by omega, by (repeat' (first | (with_reducible exact Below.refl _ _) | (with_reducible assumption) | (with_reducible refine Below.alloc ?_ ?_ _) | (with_reducible refine below_drewN ?_ _) | (with_reducible refine Below.drew ?_) | (with_reducible refine Below.setCell ?_ ?_ _) | (with_reducible exact Nat.le_refl _) | omega | (simp only [World.size_alloc, World.size_setCell, World.size_drew, World.heap_drewN]; omega) | (simp; omega)))⟩
  · go_wp2
    go_ret2
    exact ⟨_, rfl, by rw [HS.out, hf1]; exact cn_zero, by omega, by (repeat' (first | (with_reducible exact Below.refl _ _) | (with_reducible assumption) | (with_reducible refine Below.alloc ?_ ?_ _) | (with_reducible refine below_drewN ?_ _) | (with_reducible refine Below.drew ?_) | (with_reducible refine Below.setCell ?_ ?_ _) | (with_reducible exact Nat.le_refl _) | omega | (simp only [World.size_alloc, World.size_setCell, World.size_drew, World.heap_drewN]; omega) | (simp; omega)))⟩

set_option maxHeartbeats 1000000 in
theorem implSlipFor_err (a b c d : Nat) (x : Bool) (t q : Nat) (w : World) (K : Int) (hK : beltK a b c d (amountB t && plainB q) = K) (hk : K ≠ 0) :
    Calls Try.prog 43 #[.agg #[.float .f32 a, .float .f32 b, .float .f32 c, .float .f32 d, .bool x], .float .f32 t, .float .f32 q] w fun e w' => e = .returned (.tuple #[.float .f32 0, .int .i64 K]) ∧ Below w.heap.size w w' := by
  have HK := Lib.hid hK
  clear hK
  go_enter Try.func43, Try.ntmps43
  go_wp2
  obtain ⟨W, hW, hsz, hbW, HB⟩ := boxed_belt w 43 a b c d x
  rw [hW]
  clear hW
  have q0 : ∀ w1, BelowC W w1 → _ := fun w1 h => (HB w1 h).1
  have q1 : ∀ w1, BelowC W w1 → _ := fun w1 h => (HB w1 h).2.1
  have q2 : ∀ w1, BelowC W w1 → _ := fun w1 h => (HB w1 h).2.2.1
  have q3 : ∀ w1, BelowC W w1 → _ := fun w1 h => (HB w1 h).2.2.2.1
  have q4 : ∀ w1, BelowC W w1 → _ := fun w1 h => (HB w1 h).2.2.2.2
  have HBW := Lib.hid HB
  clear HB
  have hdn := @BelowC.drewN W
  cases hT1 : amountB t
  · refine Loose.wp_region (BelowC W) (Loose.Tab [(47, fun _ v => v = .bool false), (63, fun _ v => v = .int .i64 K)]) (by kernel_rfl) (by kernel_rfl) (BelowC.start W) ?_
    repeat' (first | (apply Loose.det; (focus rfl); (focus (intro wq hwq; go_simp; first | done | (with_reducible rfl))); (simp only [Act.put, List.setIfInBounds_toArray, List.set_cons_zero, List.set_cons_succ])) | (apply Loose.pass; (focus rfl); (simp only [Act.put, List.setIfInBounds_toArray, List.set_cons_zero, List.set_cons_succ])) | (apply Loose.callT; (focus rfl); (focus (intro wq hwq; go_simp; first | done | (with_reducible exact ⟨rfl, rfl⟩) | (with_reducible rfl))); (focus rfl); (focus (intro w1 h1; refine (as_bool hT1 (impl_isAmount_any _ _)).mono ?_; rintro e w2 ⟨rfl, rfl⟩; exact ⟨_, rfl, rfl, h1⟩)); (rintro v rfl; simp only [Act.put, List.setIfInBounds_toArray, List.set_cons_zero, List.set_cons_succ])) | (apply Loose.callT; (focus rfl); (focus (intro wq hwq; go_simp; first | done | (with_reducible exact ⟨rfl, rfl⟩) | (with_reducible rfl))); (focus rfl); (focus (intro w1 h1; refine (beltCode_any a b c d x _ _).mono ?_; rintro e w2 ⟨rfl, h2⟩; exact ⟨_, rfl, by rw [← HK.out, hT1]; rfl, h1.call h2⟩)); (rintro v rfl; simp only [Act.put, List.setIfInBounds_toArray, List.set_cons_zero, List.set_cons_succ])))
    refine Loose.done ?_
    intro w9 h9
    have hne : (K != 0) = true := by simpa using hk
    have hne2 : (K == 0) = false := by simpa using hk
    have hb8 := hbW.trans (h9.out.mono (by omega))
    go_wp2
    go_ret2
    exact ⟨rfl, hb8⟩
  · refine Loose.wp_region (BelowC W) (Loose.Tab [(47, fun _ v => v = .bool true), (69, fun _ v => v = .bool (plainB q)), (63, fun _ v => v = .int .i64 K)]) (by kernel_rfl) (by kernel_rfl) (BelowC.start W) ?_
    repeat' (first | (apply Loose.det; (focus rfl); (focus (intro wq hwq; go_simp; first | done | (with_reducible rfl))); (simp only [Act.put, List.setIfInBounds_toArray, List.set_cons_zero, List.set_cons_succ])) | (apply Loose.pass; (focus rfl); (simp only [Act.put, List.setIfInBounds_toArray, List.set_cons_zero, List.set_cons_succ])) | (apply Loose.callT; (focus rfl); (focus (intro wq hwq; go_simp; first | done | (with_reducible exact ⟨rfl, rfl⟩) | (with_reducible rfl))); (focus rfl); (focus (intro w1 h1; refine (as_bool hT1 (impl_isAmount_any _ _)).mono ?_; rintro e w2 ⟨rfl, rfl⟩; exact ⟨_, rfl, rfl, h1⟩)); (rintro v rfl; simp only [Act.put, List.setIfInBounds_toArray, List.set_cons_zero, List.set_cons_succ])) | (apply Loose.callT; (focus rfl); (focus (intro wq hwq; go_simp; first | done | (with_reducible exact ⟨rfl, rfl⟩) | (with_reducible rfl))); (focus rfl); (focus (intro w1 h1; refine (impl_IsPlain_any _ _).mono ?_; rintro e w2 ⟨rfl, rfl⟩; exact ⟨_, rfl, rfl, h1⟩)); (rintro v rfl; simp only [Act.put, List.setIfInBounds_toArray, List.set_cons_zero, List.set_cons_succ])) | (apply Loose.callT; (focus rfl); (focus (intro wq hwq; go_simp; first | done | (with_reducible exact ⟨rfl, rfl⟩) | (with_reducible rfl))); (focus rfl); (focus (intro w1 h1; refine (beltCode_any a b c d x _ _).mono ?_; rintro e w2 ⟨rfl, h2⟩; exact ⟨_, rfl, by rw [← HK.out, hT1]; rfl, h1.call h2⟩)); (rintro v rfl; simp only [Act.put, List.setIfInBounds_toArray, List.set_cons_zero, List.set_cons_succ])))
    refine Loose.done ?_
    intro w9 h9
    have hne : (K != 0) = true := by simpa using hk
    have hne2 : (K == 0) = false := by simpa using hk
    have hb8 := hbW.trans (h9.out.mono (by omega))
    go_wp2
    go_ret2
    exact ⟨rfl, hb8⟩

theorem implSlipFor_any (a b c d : Nat) (x : Bool) (t q : Nat) (hq : q < 2 ^ 32) (w : World) :
    Calls Try.prog 43 #[.agg #[.float .f32 a, .float .f32 b, .float .f32 c, .float .f32 d, .bool x], .float .f32 t, .float .f32 q] w fun e w' => ∃ r, e = .returned (.tuple #[.float .f32 r, .int .i64 (beltK a b c d (amountB t && plainB q))]) ∧ cn r = okV (beltK a b c d (amountB t && plainB q)) (slipC a b c d x t q) ∧ r < 2 ^ 32 ∧ Below w.heap.size w w' := by
  by_cases hk : beltK a b c d (amountB t && plainB q) = 0
  · refine (implSlipFor_ok a b c d x t q hq w hk).mono ?_
    rintro e w' ⟨r, rfl, h1, h2, h3⟩
    exact ⟨r, by rw [hk], by rw [h1, okV, if_pos hk], h2, h3⟩
  · refine (implSlipFor_err a b c d x t q w _ rfl hk).mono ?_
    rintro e w' ⟨rfl, h3⟩
    exact ⟨0, rfl, by rw [okV, if_neg hk]; exact cn_zero, by omega, h3⟩

set_option maxHeartbeats 1000000 in
theorem specSlipFor_any (a b c d : Nat) (x : Bool) (t q : Nat) (hq : q < 2 ^ 32) (w : World) :
    Calls Try.prog 42 #[.agg #[.float .f32 a, .float .f32 b, .float .f32 c, .float .f32 d, .bool x], .float .f32 t, .float .f32 q] w fun e w' => ∃ r, e = .returned (.tuple #[.float .f32 r, .int .i64 (beltK a b c d (amountB t && plainB q))]) ∧ cn r = okV (beltK a b c d (amountB t && plainB q)) (slipC a b c d x t q) ∧ r < 2 ^ 32 ∧ Below w.heap.size w w' := by
  have HB := Lib.hid (beltAt_box w 43 a b c d x)
  generalize hK : beltK a b c d (amountB t && plainB q) = K
  have HK := Lib.hid hK
  clear hK
  by_cases hk : K = 0
  · subst hk
    go_enter Try.func42, Try.ntmps42
    go_wp2_with (first | (go_at_call 66; refine (l02Asked_any _ 0 a b c d x _ _ _ (by exact HB.out)).mono ?_; rintro e w1 ⟨rfl, n, rfl⟩; rw [HK.out]) | (go_at_call 77; refine (l02Pull_any _ 0 a b c d x _ _ (by exact HB.out)).mono ?_; (rintro e w1 ⟨r1, n, rfl, hr1, hl1, rfl⟩; have HR1 := Lib.hid hr1; clear hr1)) | (go_at_call 79; refine (l01Size_any q hq _).mono ?_; (rintro e w1 ⟨r2, n, rfl, hr2, hl2, rfl⟩; have HR2 := Lib.hid hr2; clear hr2)))
    obtain ⟨W, hW, hsz, hbW, HBx⟩ := boxed_belt w 43 a b c d x
    rw [hW]
    have q0 : ∀ w1, BelowC W w1 → _ := fun w1 h => (HBx w1 h).1
    have q1 : ∀ w1, BelowC W w1 → _ := fun w1 h => (HBx w1 h).2.1
    have hdn := @BelowC.drewN W
    clear hW HB HBx
    refine Loose.wp_region (BelowC W) (Loose.Tab [(79, fun _ v => ∃ r, v = .float .f32 r ∧ cn r = sizeC q ∧ r < 2 ^ 32)]) (by kernel_rfl) (by kernel_rfl) (hdn _ _ (Below.refl _ _)).drew ?_
    repeat' (first | (apply Loose.det; (focus rfl); (focus (intro wq hwq; go_simp; first | done | (with_reducible rfl))); (simp only [Act.put, List.setIfInBounds_toArray, List.set_cons_zero, List.set_cons_succ])) | (apply Loose.pass; (focus rfl); (simp only [Act.put, List.setIfInBounds_toArray, List.set_cons_zero, List.set_cons_succ])) | (apply Loose.flt (hd := hdn); (focus rfl); (focus (intro wq hwq; go_simp; first | done | (with_reducible exact ⟨rfl, rfl⟩) | (with_reducible rfl))); (rintro rQ hrQ hlQ; simp only [Act.put, List.setIfInBounds_toArray, List.set_cons_zero, List.set_cons_succ])) | (apply Loose.callT; (focus rfl); (focus (intro wq hwq; go_simp; first | done | (with_reducible exact ⟨rfl, rfl⟩) | (with_reducible rfl))); (focus rfl); (focus (intro w1 h1; refine (l01Size_any q hq _).mono ?_; rintro e w2 ⟨r, n, rfl, h2, h3, rfl⟩; exact ⟨_, rfl, ⟨r, rfl, h2, h3⟩, hdn _ _ h1⟩)); (rintro v ⟨rS, rfl, hrS, hlS⟩; simp only [Act.put, List.setIfInBounds_toArray, List.set_cons_zero, List.set_cons_succ])))
    refine Loose.done ?_
    intro w8 h8
    have eL : loadC a q = cn rQ := by rw [hrQ, loadC, ← hrS, cop_cn_l]
    have eS : slipC a b c d x t q = if feq .f32 rQ 0 then 0 else if fle .f32 r1 rQ then 1065353216 else cop .quo (cop .quo rQ r1) 1115684864 := by
      rw [slipC, eL, ← HR1.out, feq_cn_l, fle_cn_l, fle_cn_r, cop_cn_l, cop_cn_r]
    have HS := Lib.hid eS
    have hb8 := hbW.trans (h8.out.mono (by omega))
    clear eS eL hrQ hrS q0 q1
    cases hf1 : feq .f32 rQ 0
    · cases hf2 : fle .f32 r1 rQ
      · go_wp2
        go_ret2
        exact ⟨_, rfl, by rw [HS.out, hf1, hf2]; simp [okV], Loose.op_lt' _, by (repeat' (first | (with_reducible exact Below.refl _ _) | (with_reducible assumption) | (with_reducible refine Below.alloc ?_ ?_ _) | (with_reducible refine below_drewN ?_ _) | (with_reducible refine Below.drew ?_) | (with_reducible refine Below.setCell ?_ ?_ _) | (with_reducible exact Nat.le_refl _) | omega | (simp only [World.size_alloc, World.size_setCell, World.size_drew, World.heap_drewN]; omega) | (simp; omega)))⟩
      · go_wp2
        go_ret2
        exact ⟨_, rfl, by rw [HS.out, hf1, hf2]; exact cn_one', by omega, by (repeat' (first | (with_reducible exact Below.refl _ _) | (with_reducible assumption) | (with_reducible refine Below.alloc ?_ ?_ _) | (with_reducible refine below_drewN ?_ _) | (with_reducible refine Below.drew ?_) | (with_reducible refine Below.setCell ?_ ?_ _) | (with_reducible exact Nat.le_refl _) | omega | (simp only [World.size_alloc, World.size_setCell, World.size_drew, World.heap_drewN]; omega) | (simp; omega)))⟩
    · go_wp2
      go_ret2
      exact ⟨_, rfl, by rw [HS.out, hf1]; exact cn_zero, by omega, by (repeat' (first | (with_reducible exact Below.refl _ _) | (with_reducible assumption) | (with_reducible refine Below.alloc ?_ ?_ _) | (with_reducible refine below_drewN ?_ _) | (with_reducible refine Below.drew ?_) | (with_reducible refine Below.setCell ?_ ?_ _) | (with_reducible exact Nat.le_refl _) | omega | (simp only [World.size_alloc, World.size_setCell, World.size_drew, World.heap_drewN]; omega) | (simp; omega)))⟩
  · have hne : (K != 0) = true := by simpa using hk
    have hne2 : (K == 0) = false := by simpa using hk
    have hv : okV K (slipC a b c d x t q) = 0 := if_neg hk
    rw [hv]
    clear hv
    go_enter Try.func42, Try.ntmps42
    go_wp2_with (first | (go_at_call 66; refine (l02Asked_any _ 0 a b c d x _ _ _ (by exact HB.out)).mono ?_; rintro e w1 ⟨rfl, n, rfl⟩; rw [HK.out]))
    all_goals (go_ret2; exact ⟨0, rfl, cn_zero, by omega, by (repeat' (first | (with_reducible exact Below.refl _ _) | (with_reducible assumption) | (with_reducible refine Below.alloc ?_ ?_ _) | (with_reducible refine below_drewN ?_ _) | (with_reducible refine Below.drew ?_) | (with_reducible refine Below.setCell ?_ ?_ _) | (with_reducible exact Nat.le_refl _) | omega | (simp only [World.size_alloc, World.size_setCell, World.size_drew, World.heap_drewN]; omega) | (simp; omega)))⟩)

end Go.Proofs.Ytmoilahabbfjeaa
