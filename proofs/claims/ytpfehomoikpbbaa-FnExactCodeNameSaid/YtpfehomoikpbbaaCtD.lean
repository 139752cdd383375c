/- Contracts: the names of codes. -/
import Derived.Test.YtpfehomoikpbbaaCtA
namespace Go.Proofs.Ytpfehomoikpbbaa
open Go.RowKit

def codeText (n : Int) : ByteArray :=
  if n = 0 then ⟨#[111, 107]⟩ else
  if n = 1 then ⟨#[105, 110, 118, 97, 108, 105, 100]⟩ else
  if n = 2 then ⟨#[114, 97, 110, 103, 101]⟩ else
  if n = 3 then ⟨#[108, 105, 109, 105, 116]⟩ else
  if n = 4 then ⟨#[115, 116, 97, 116, 101]⟩ else
  if n = 5 then ⟨#[115, 121, 110, 116, 97, 120]⟩ else
  if n = 6 then ⟨#[110, 111, 116, 102, 111, 117, 110, 100]⟩ else
  if n = 7 then ⟨#[98, 117, 100, 103, 101, 116]⟩ else
  if n = 8 then ⟨#[112, 114, 111, 111, 102]⟩ else
  ByteArray.empty

set_option maxHeartbeats 400000 in
theorem implCodeName_no (n : Int) (w : World) (h : withinB n 0 8 = false) :
    Calls Try.prog 24 #[.int .i64 n] w fun e w' => e = .returned (.string ByteArray.empty) ∧ Below w.heap.size w w' := by
  go_enter Try.func24, Try.ntmps24
  go_wp2_with (go_at_call 47; refine (within_any _ _ _ _).mono ?_; rintro e w' ⟨rfl, rfl⟩)
  all_goals (go_ret; exact ⟨rfl, by (repeat' (first | (with_reducible exact Below.refl _ _) | (with_reducible assumption) | (with_reducible refine Below.alloc ?_ ?_ _) | (with_reducible refine below_drewN ?_ _) | (with_reducible refine Below.drew ?_) | (with_reducible refine Below.setCell ?_ ?_ _) | (with_reducible exact Nat.le_refl _) | omega | (simp only [World.size_alloc, World.size_setCell, World.size_drew, World.heap_drewN]; omega) | (simp; omega)))⟩)

set_option maxHeartbeats 400000 in
theorem implCodeName_0 (w : World) :
    Calls Try.prog 24 #[.int .i64 0] w fun e w' => e = .returned (.string ⟨#[111, 107]⟩) ∧ Below w.heap.size w w' := by
  have h : withinB 0 0 8 = true := by decide
  go_enter Try.func24, Try.ntmps24
  go_wp2_with (go_at_call 47; refine (within_any _ _ _ _).mono ?_; rintro e w' ⟨rfl, rfl⟩)
  all_goals (go_ret; exact ⟨rfl, by (repeat' (first | (with_reducible exact Below.refl _ _) | (with_reducible assumption) | (with_reducible refine Below.alloc ?_ ?_ _) | (with_reducible refine below_drewN ?_ _) | (with_reducible refine Below.drew ?_) | (with_reducible refine Below.setCell ?_ ?_ _) | (with_reducible exact Nat.le_refl _) | omega | (simp only [World.size_alloc, World.size_setCell, World.size_drew, World.heap_drewN]; omega) | (simp; omega)))⟩)

set_option maxHeartbeats 400000 in
theorem implCodeName_1 (w : World) :
    Calls Try.prog 24 #[.int .i64 1] w fun e w' => e = .returned (.string ⟨#[105, 110, 118, 97, 108, 105, 100]⟩) ∧ Below w.heap.size w w' := by
  have h : withinB 1 0 8 = true := by decide
  go_enter Try.func24, Try.ntmps24
  go_wp2_with (go_at_call 47; refine (within_any _ _ _ _).mono ?_; rintro e w' ⟨rfl, rfl⟩)
  all_goals (go_ret; exact ⟨rfl, by (repeat' (first | (with_reducible exact Below.refl _ _) | (with_reducible assumption) | (with_reducible refine Below.alloc ?_ ?_ _) | (with_reducible refine below_drewN ?_ _) | (with_reducible refine Below.drew ?_) | (with_reducible refine Below.setCell ?_ ?_ _) | (with_reducible exact Nat.le_refl _) | omega | (simp only [World.size_alloc, World.size_setCell, World.size_drew, World.heap_drewN]; omega) | (simp; omega)))⟩)

set_option maxHeartbeats 400000 in
theorem implCodeName_2 (w : World) :
    Calls Try.prog 24 #[.int .i64 2] w fun e w' => e = .returned (.string ⟨#[114, 97, 110, 103, 101]⟩) ∧ Below w.heap.size w w' := by
  have h : withinB 2 0 8 = true := by decide
  go_enter Try.func24, Try.ntmps24
  go_wp2_with (go_at_call 47; refine (within_any _ _ _ _).mono ?_; rintro e w' ⟨rfl, rfl⟩)
  all_goals (go_ret; exact ⟨rfl, by (repeat' (first | (with_reducible exact Below.refl _ _) | (with_reducible assumption) | (with_reducible refine Below.alloc ?_ ?_ _) | (with_reducible refine below_drewN ?_ _) | (with_reducible refine Below.drew ?_) | (with_reducible refine Below.setCell ?_ ?_ _) | (with_reducible exact Nat.le_refl _) | omega | (simp only [World.size_alloc, World.size_setCell, World.size_drew, World.heap_drewN]; omega) | (simp; omega)))⟩)

set_option maxHeartbeats 400000 in
theorem implCodeName_3 (w : World) :
    Calls Try.prog 24 #[.int .i64 3] w fun e w' => e = .returned (.string ⟨#[108, 105, 109, 105, 116]⟩) ∧ Below w.heap.size w w' := by
  have h : withinB 3 0 8 = true := by decide
  go_enter Try.func24, Try.ntmps24
  go_wp2_with (go_at_call 47; refine (within_any _ _ _ _).mono ?_; rintro e w' ⟨rfl, rfl⟩)
  all_goals (go_ret; exact ⟨rfl, by (repeat' (first | (with_reducible exact Below.refl _ _) | (with_reducible assumption) | (with_reducible refine Below.alloc ?_ ?_ _) | (with_reducible refine below_drewN ?_ _) | (with_reducible refine Below.drew ?_) | (with_reducible refine Below.setCell ?_ ?_ _) | (with_reducible exact Nat.le_refl _) | omega | (simp only [World.size_alloc, World.size_setCell, World.size_drew, World.heap_drewN]; omega) | (simp; omega)))⟩)

set_option maxHeartbeats 400000 in
theorem implCodeName_4 (w : World) :
    Calls Try.prog 24 #[.int .i64 4] w fun e w' => e = .returned (.string ⟨#[115, 116, 97, 116, 101]⟩) ∧ Below w.heap.size w w' := by
  have h : withinB 4 0 8 = true := by decide
  go_enter Try.func24, Try.ntmps24
  go_wp2_with (go_at_call 47; refine (within_any _ _ _ _).mono ?_; rintro e w' ⟨rfl, rfl⟩)
  all_goals (go_ret; exact ⟨rfl, by (repeat' (first | (with_reducible exact Below.refl _ _) | (with_reducible assumption) | (with_reducible refine Below.alloc ?_ ?_ _) | (with_reducible refine below_drewN ?_ _) | (with_reducible refine Below.drew ?_) | (with_reducible refine Below.setCell ?_ ?_ _) | (with_reducible exact Nat.le_refl _) | omega | (simp only [World.size_alloc, World.size_setCell, World.size_drew, World.heap_drewN]; omega) | (simp; omega)))⟩)

set_option maxHeartbeats 400000 in
theorem implCodeName_5 (w : World) :
    Calls Try.prog 24 #[.int .i64 5] w fun e w' => e = .returned (.string ⟨#[115, 121, 110, 116, 97, 120]⟩) ∧ Below w.heap.size w w' := by
  have h : withinB 5 0 8 = true := by decide
  go_enter Try.func24, Try.ntmps24
  go_wp2_with (go_at_call 47; refine (within_any _ _ _ _).mono ?_; rintro e w' ⟨rfl, rfl⟩)
  all_goals (go_ret; exact ⟨rfl, by (repeat' (first | (with_reducible exact Below.refl _ _) | (with_reducible assumption) | (with_reducible refine Below.alloc ?_ ?_ _) | (with_reducible refine below_drewN ?_ _) | (with_reducible refine Below.drew ?_) | (with_reducible refine Below.setCell ?_ ?_ _) | (with_reducible exact Nat.le_refl _) | omega | (simp only [World.size_alloc, World.size_setCell, World.size_drew, World.heap_drewN]; omega) | (simp; omega)))⟩)

set_option maxHeartbeats 400000 in
theorem implCodeName_6 (w : World) :
    Calls Try.prog 24 #[.int .i64 6] w fun e w' => e = .returned (.string ⟨#[110, 111, 116, 102, 111, 117, 110, 100]⟩) ∧ Below w.heap.size w w' := by
  have h : withinB 6 0 8 = true := by decide
  go_enter Try.func24, Try.ntmps24
  go_wp2_with (go_at_call 47; refine (within_any _ _ _ _).mono ?_; rintro e w' ⟨rfl, rfl⟩)
  all_goals (go_ret; exact ⟨rfl, by (repeat' (first | (with_reducible exact Below.refl _ _) | (with_reducible assumption) | (with_reducible refine Below.alloc ?_ ?_ _) | (with_reducible refine below_drewN ?_ _) | (with_reducible refine Below.drew ?_) | (with_reducible refine Below.setCell ?_ ?_ _) | (with_reducible exact Nat.le_refl _) | omega | (simp only [World.size_alloc, World.size_setCell, World.size_drew, World.heap_drewN]; omega) | (simp; omega)))⟩)

set_option maxHeartbeats 400000 in
theorem implCodeName_7 (w : World) :
    Calls Try.prog 24 #[.int .i64 7] w fun e w' => e = .returned (.string ⟨#[98, 117, 100, 103, 101, 116]⟩) ∧ Below w.heap.size w w' := by
  have h : withinB 7 0 8 = true := by decide
  go_enter Try.func24, Try.ntmps24
  go_wp2_with (go_at_call 47; refine (within_any _ _ _ _).mono ?_; rintro e w' ⟨rfl, rfl⟩)
  all_goals (go_ret; exact ⟨rfl, by (repeat' (first | (with_reducible exact Below.refl _ _) | (with_reducible assumption) | (with_reducible refine Below.alloc ?_ ?_ _) | (with_reducible refine below_drewN ?_ _) | (with_reducible refine Below.drew ?_) | (with_reducible refine Below.setCell ?_ ?_ _) | (with_reducible exact Nat.le_refl _) | omega | (simp only [World.size_alloc, World.size_setCell, World.size_drew, World.heap_drewN]; omega) | (simp; omega)))⟩)

set_option maxHeartbeats 400000 in
theorem implCodeName_8 (w : World) :
    Calls Try.prog 24 #[.int .i64 8] w fun e w' => e = .returned (.string ⟨#[112, 114, 111, 111, 102]⟩) ∧ Below w.heap.size w w' := by
  have h : withinB 8 0 8 = true := by decide
  go_enter Try.func24, Try.ntmps24
  go_wp2_with (go_at_call 47; refine (within_any _ _ _ _).mono ?_; rintro e w' ⟨rfl, rfl⟩)
  all_goals (go_ret; exact ⟨rfl, by (repeat' (first | (with_reducible exact Below.refl _ _) | (with_reducible assumption) | (with_reducible refine Below.alloc ?_ ?_ _) | (with_reducible refine below_drewN ?_ _) | (with_reducible refine Below.drew ?_) | (with_reducible refine Below.setCell ?_ ?_ _) | (with_reducible exact Nat.le_refl _) | omega | (simp only [World.size_alloc, World.size_setCell, World.size_drew, World.heap_drewN]; omega) | (simp; omega)))⟩)

theorem implCodeName_any (n : Int) (w : World) :
    Calls Try.prog 24 #[.int .i64 n] w fun e w' => e = .returned (.string (codeText n)) ∧ Below w.heap.size w w' := by
  cases h : withinB n 0 8
  · have hn : codeText n = ByteArray.empty := by
      simp [withinB] at h
      unfold codeText
      repeat (rw [if_neg (by omega)])
    rw [hn]
    exact implCodeName_no n w h
  · simp [withinB] at h
    obtain rfl | rfl | rfl | rfl | rfl | rfl | rfl | rfl | rfl : n = 0 ∨ n = 1 ∨ n = 2 ∨ n = 3 ∨ n = 4 ∨ n = 5 ∨ n = 6 ∨ n = 7 ∨ n = 8 := by omega
    · exact implCodeName_0 w
    · exact implCodeName_1 w
    · exact implCodeName_2 w
    · exact implCodeName_3 w
    · exact implCodeName_4 w
    · exact implCodeName_5 w
    · exact implCodeName_6 w
    · exact implCodeName_7 w
    · exact implCodeName_8 w

set_option maxHeartbeats 400000 in
theorem specCodeName_no (n : Int) (w : World) (h : withinB n 0 8 = false) :
    Calls Try.prog 23 #[.int .i64 n] w fun e w' => e = .returned (.string ByteArray.empty) ∧ Below w.heap.size w w' := by
  go_enter Try.func23, Try.ntmps23
  go_wp2_with (go_at_call 46; refine (l00In_any _ _ _ _).mono ?_; rintro e w' ⟨rfl, rfl⟩)
  all_goals (go_ret; exact ⟨rfl, by (repeat' (first | (with_reducible exact Below.refl _ _) | (with_reducible assumption) | (with_reducible refine Below.alloc ?_ ?_ _) | (with_reducible refine below_drewN ?_ _) | (with_reducible refine Below.drew ?_) | (with_reducible refine Below.setCell ?_ ?_ _) | (with_reducible exact Nat.le_refl _) | omega | (simp only [World.size_alloc, World.size_setCell, World.size_drew, World.heap_drewN]; omega) | (simp; omega)))⟩)

set_option maxHeartbeats 400000 in
theorem specCodeName_0 (w : World) :
    Calls Try.prog 23 #[.int .i64 0] w fun e w' => e = .returned (.string ⟨#[111, 107]⟩) ∧ Below w.heap.size w w' := by
  have h : withinB 0 0 8 = true := by decide
  go_enter Try.func23, Try.ntmps23
  go_wp2_with (go_at_call 46; refine (l00In_any _ _ _ _).mono ?_; rintro e w' ⟨rfl, rfl⟩)
  all_goals (go_ret; exact ⟨rfl, by (repeat' (first | (with_reducible exact Below.refl _ _) | (with_reducible assumption) | (with_reducible refine Below.alloc ?_ ?_ _) | (with_reducible refine below_drewN ?_ _) | (with_reducible refine Below.drew ?_) | (with_reducible refine Below.setCell ?_ ?_ _) | (with_reducible exact Nat.le_refl _) | omega | (simp only [World.size_alloc, World.size_setCell, World.size_drew, World.heap_drewN]; omega) | (simp; omega)))⟩)

set_option maxHeartbeats 400000 in
theorem specCodeName_1 (w : World) :
    Calls Try.prog 23 #[.int .i64 1] w fun e w' => e = .returned (.string ⟨#[105, 110, 118, 97, 108, 105, 100]⟩) ∧ Below w.heap.size w w' := by
  have h : withinB 1 0 8 = true := by decide
  go_enter Try.func23, Try.ntmps23
  go_wp2_with (go_at_call 46; refine (l00In_any _ _ _ _).mono ?_; rintro e w' ⟨rfl, rfl⟩)
  all_goals (go_ret; exact ⟨rfl, by (repeat' (first | (with_reducible exact Below.refl _ _) | (with_reducible assumption) | (with_reducible refine Below.alloc ?_ ?_ _) | (with_reducible refine below_drewN ?_ _) | (with_reducible refine Below.drew ?_) | (with_reducible refine Below.setCell ?_ ?_ _) | (with_reducible exact Nat.le_refl _) | omega | (simp only [World.size_alloc, World.size_setCell, World.size_drew, World.heap_drewN]; omega) | (simp; omega)))⟩)

set_option maxHeartbeats 400000 in
theorem specCodeName_2 (w : World) :
    Calls Try.prog 23 #[.int .i64 2] w fun e w' => e = .returned (.string ⟨#[114, 97, 110, 103, 101]⟩) ∧ Below w.heap.size w w' := by
  have h : withinB 2 0 8 = true := by decide
  go_enter Try.func23, Try.ntmps23
  go_wp2_with (go_at_call 46; refine (l00In_any _ _ _ _).mono ?_; rintro e w' ⟨rfl, rfl⟩)
  all_goals (go_ret; exact ⟨rfl, by (repeat' (first | (with_reducible exact Below.refl _ _) | (with_reducible assumption) | (with_reducible refine Below.alloc ?_ ?_ _) | (with_reducible refine below_drewN ?_ _) | (with_reducible refine Below.drew ?_) | (with_reducible refine Below.setCell ?_ ?_ _) | (with_reducible exact Nat.le_refl _) | omega | (simp only [World.size_alloc, World.size_setCell, World.size_drew, World.heap_drewN]; omega) | (simp; omega)))⟩)

set_option maxHeartbeats 400000 in
theorem specCodeName_3 (w : World) :
    Calls Try.prog 23 #[.int .i64 3] w fun e w' => e = .returned (.string ⟨#[108, 105, 109, 105, 116]⟩) ∧ Below w.heap.size w w' := by
  have h : withinB 3 0 8 = true := by decide
  go_enter Try.func23, Try.ntmps23
  go_wp2_with (go_at_call 46; refine (l00In_any _ _ _ _).mono ?_; rintro e w' ⟨rfl, rfl⟩)
  all_goals (go_ret; exact ⟨rfl, by (repeat' (first | (with_reducible exact Below.refl _ _) | (with_reducible assumption) | (with_reducible refine Below.alloc ?_ ?_ _) | (with_reducible refine below_drewN ?_ _) | (with_reducible refine Below.drew ?_) | (with_reducible refine Below.setCell ?_ ?_ _) | (with_reducible exact Nat.le_refl _) | omega | (simp only [World.size_alloc, World.size_setCell, World.size_drew, World.heap_drewN]; omega) | (simp; omega)))⟩)

set_option maxHeartbeats 400000 in
theorem specCodeName_4 (w : World) :
    Calls Try.prog 23 #[.int .i64 4] w fun e w' => e = .returned (.string ⟨#[115, 116, 97, 116, 101]⟩) ∧ Below w.heap.size w w' := by
  have h : withinB 4 0 8 = true := by decide
  go_enter Try.func23, Try.ntmps23
  go_wp2_with (go_at_call 46; refine (l00In_any _ _ _ _).mono ?_; rintro e w' ⟨rfl, rfl⟩)
  all_goals (go_ret; exact ⟨rfl, by (repeat' (first | (with_reducible exact Below.refl _ _) | (with_reducible assumption) | (with_reducible refine Below.alloc ?_ ?_ _) | (with_reducible refine below_drewN ?_ _) | (with_reducible refine Below.drew ?_) | (with_reducible refine Below.setCell ?_ ?_ _) | (with_reducible exact Nat.le_refl _) | omega | (simp only [World.size_alloc, World.size_setCell, World.size_drew, World.heap_drewN]; omega) | (simp; omega)))⟩)

set_option maxHeartbeats 400000 in
theorem specCodeName_5 (w : World) :
    Calls Try.prog 23 #[.int .i64 5] w fun e w' => e = .returned (.string ⟨#[115, 121, 110, 116, 97, 120]⟩) ∧ Below w.heap.size w w' := by
  have h : withinB 5 0 8 = true := by decide
  go_enter Try.func23, Try.ntmps23
  go_wp2_with (go_at_call 46; refine (l00In_any _ _ _ _).mono ?_; rintro e w' ⟨rfl, rfl⟩)
  all_goals (go_ret; exact ⟨rfl, by (repeat' (first | (with_reducible exact Below.refl _ _) | (with_reducible assumption) | (with_reducible refine Below.alloc ?_ ?_ _) | (with_reducible refine below_drewN ?_ _) | (with_reducible refine Below.drew ?_) | (with_reducible refine Below.setCell ?_ ?_ _) | (with_reducible exact Nat.le_refl _) | omega | (simp only [World.size_alloc, World.size_setCell, World.size_drew, World.heap_drewN]; omega) | (simp; omega)))⟩)

set_option maxHeartbeats 400000 in
theorem specCodeName_6 (w : World) :
    Calls Try.prog 23 #[.int .i64 6] w fun e w' => e = .returned (.string ⟨#[110, 111, 116, 102, 111, 117, 110, 100]⟩) ∧ Below w.heap.size w w' := by
  have h : withinB 6 0 8 = true := by decide
  go_enter Try.func23, Try.ntmps23
  go_wp2_with (go_at_call 46; refine (l00In_any _ _ _ _).mono ?_; rintro e w' ⟨rfl, rfl⟩)
  all_goals (go_ret; exact ⟨rfl, by (repeat' (first | (with_reducible exact Below.refl _ _) | (with_reducible assumption) | (with_reducible refine Below.alloc ?_ ?_ _) | (with_reducible refine below_drewN ?_ _) | (with_reducible refine Below.drew ?_) | (with_reducible refine Below.setCell ?_ ?_ _) | (with_reducible exact Nat.le_refl _) | omega | (simp only [World.size_alloc, World.size_setCell, World.size_drew, World.heap_drewN]; omega) | (simp; omega)))⟩)

set_option maxHeartbeats 400000 in
theorem specCodeName_7 (w : World) :
    Calls Try.prog 23 #[.int .i64 7] w fun e w' => e = .returned (.string ⟨#[98, 117, 100, 103, 101, 116]⟩) ∧ Below w.heap.size w w' := by
  have h : withinB 7 0 8 = true := by decide
  go_enter Try.func23, Try.ntmps23
  go_wp2_with (go_at_call 46; refine (l00In_any _ _ _ _).mono ?_; rintro e w' ⟨rfl, rfl⟩)
  all_goals (go_ret; exact ⟨rfl, by (repeat' (first | (with_reducible exact Below.refl _ _) | (with_reducible assumption) | (with_reducible refine Below.alloc ?_ ?_ _) | (with_reducible refine below_drewN ?_ _) | (with_reducible refine Below.drew ?_) | (with_reducible refine Below.setCell ?_ ?_ _) | (with_reducible exact Nat.le_refl _) | omega | (simp only [World.size_alloc, World.size_setCell, World.size_drew, World.heap_drewN]; omega) | (simp; omega)))⟩)

set_option maxHeartbeats 400000 in
theorem specCodeName_8 (w : World) :
    Calls Try.prog 23 #[.int .i64 8] w fun e w' => e = .returned (.string ⟨#[112, 114, 111, 111, 102]⟩) ∧ Below w.heap.size w w' := by
  have h : withinB 8 0 8 = true := by decide
  go_enter Try.func23, Try.ntmps23
  go_wp2_with (go_at_call 46; refine (l00In_any _ _ _ _).mono ?_; rintro e w' ⟨rfl, rfl⟩)
  all_goals (go_ret; exact ⟨rfl, by (repeat' (first | (with_reducible exact Below.refl _ _) | (with_reducible assumption) | (with_reducible refine Below.alloc ?_ ?_ _) | (with_reducible refine below_drewN ?_ _) | (with_reducible refine Below.drew ?_) | (with_reducible refine Below.setCell ?_ ?_ _) | (with_reducible exact Nat.le_refl _) | omega | (simp only [World.size_alloc, World.size_setCell, World.size_drew, World.heap_drewN]; omega) | (simp; omega)))⟩)

theorem specCodeName_any (n : Int) (w : World) :
    Calls Try.prog 23 #[.int .i64 n] w fun e w' => e = .returned (.string (codeText n)) ∧ Below w.heap.size w w' := by
  cases h : withinB n 0 8
  · have hn : codeText n = ByteArray.empty := by
      simp [withinB] at h
      unfold codeText
      repeat (rw [if_neg (by omega)])
    rw [hn]
    exact specCodeName_no n w h
  · simp [withinB] at h
    obtain rfl | rfl | rfl | rfl | rfl | rfl | rfl | rfl | rfl : n = 0 ∨ n = 1 ∨ n = 2 ∨ n = 3 ∨ n = 4 ∨ n = 5 ∨ n = 6 ∨ n = 7 ∨ n = 8 := by omega
    · exact specCodeName_0 w
    · exact specCodeName_1 w
    · exact specCodeName_2 w
    · exact specCodeName_3 w
    · exact specCodeName_4 w
    · exact specCodeName_5 w
    · exact specCodeName_6 w
    · exact specCodeName_7 w
    · exact specCodeName_8 w

end Go.Proofs.Ytpfehomoikpbbaa
