/- Contracts: governors. -/
import Derived.Test.YtmoilahabbfjeaaCtB
namespace Go.Proofs.Ytmoilahabbfjeaa
open Go.RowKit

def govB (n : Int) (a b c d lo hi i : Nat) : Bool := millB n a b && lengthB c && lengthB d && lengthB i && fle .f32 0 lo && fle .f32 hi 1149239296 && flt .f32 lo hi

set_option maxHeartbeats 1000000 in
theorem toGovernor_any (n : Int) (a b c d lo hi i : Nat) (w : World) :
    Calls Try.prog 21 #[.agg #[.int .i16 n, .float .f32 a, .float .f32 b, .float .f32 c, .float .f32 d, .float .f32 lo, .float .f32 hi, .float .f32 i]] w fun e w' => e = .returned (.agg #[.int .i16 n, .float .f32 a, .float .f32 b, .float .f32 c, .float .f32 d, .float .f32 lo, .float .f32 hi, .float .f32 i]) ∧ Below w.heap.size w w' := by
  go_enter Try.func21, Try.ntmps21
  go_wp2_with fail
  refine (toMill_any _ _ _ _).mono ?_
  rintro e w1 ⟨rfl, hb⟩
  obtain ⟨hc1, hf1, hz1⟩ := below_reads hb
  have x0_0 : w1.cell? ⟨w.heap.size, 0, none⟩ = some (.int .i16 n) := (hc1 (w.heap.size) 0 (by simp <;> omega)).trans (by go_simp)
  have x0_1 : w1.cell? ⟨w.heap.size, 1, none⟩ = some (.float .f32 a) := (hc1 (w.heap.size) 1 (by simp <;> omega)).trans (by go_simp)
  have x0_2 : w1.cell? ⟨w.heap.size, 2, none⟩ = some (.float .f32 b) := (hc1 (w.heap.size) 2 (by simp <;> omega)).trans (by go_simp)
  have x0_3 : w1.cell? ⟨w.heap.size, 3, none⟩ = some (.float .f32 c) := (hc1 (w.heap.size) 3 (by simp <;> omega)).trans (by go_simp)
  have x0_4 : w1.cell? ⟨w.heap.size, 4, none⟩ = some (.float .f32 d) := (hc1 (w.heap.size) 4 (by simp <;> omega)).trans (by go_simp)
  have x0_5 : w1.cell? ⟨w.heap.size, 5, none⟩ = some (.float .f32 lo) := (hc1 (w.heap.size) 5 (by simp <;> omega)).trans (by go_simp)
  have x0_6 : w1.cell? ⟨w.heap.size, 6, none⟩ = some (.float .f32 hi) := (hc1 (w.heap.size) 6 (by simp <;> omega)).trans (by go_simp)
  have x0_7 : w1.cell? ⟨w.heap.size, 7, none⟩ = some (.float .f32 i) := (hc1 (w.heap.size) 7 (by simp <;> omega)).trans (by go_simp)
  have y0 : ∀ o, w1.frozen? ⟨w.heap.size, o, none⟩ = false := (fun o => (hf1 (w.heap.size) o (by simp <;> omega)).trans (by go_simp))
  have x1_0 : w1.cell? ⟨w.heap.size + 1, 0, none⟩ = some (.int .i16 0) := (hc1 (w.heap.size + 1) 0 (by simp <;> omega)).trans (by go_simp)
  have x1_1 : w1.cell? ⟨w.heap.size + 1, 1, none⟩ = some (.float .f32 0) := (hc1 (w.heap.size + 1) 1 (by simp <;> omega)).trans (by go_simp)
  have x1_2 : w1.cell? ⟨w.heap.size + 1, 2, none⟩ = some (.float .f32 0) := (hc1 (w.heap.size + 1) 2 (by simp <;> omega)).trans (by go_simp)
  have x1_3 : w1.cell? ⟨w.heap.size + 1, 3, none⟩ = some (.float .f32 0) := (hc1 (w.heap.size + 1) 3 (by simp <;> omega)).trans (by go_simp)
  have x1_4 : w1.cell? ⟨w.heap.size + 1, 4, none⟩ = some (.float .f32 0) := (hc1 (w.heap.size + 1) 4 (by simp <;> omega)).trans (by go_simp)
  have x1_5 : w1.cell? ⟨w.heap.size + 1, 5, none⟩ = some (.float .f32 0) := (hc1 (w.heap.size + 1) 5 (by simp <;> omega)).trans (by go_simp)
  have x1_6 : w1.cell? ⟨w.heap.size + 1, 6, none⟩ = some (.float .f32 0) := (hc1 (w.heap.size + 1) 6 (by simp <;> omega)).trans (by go_simp)
  have x1_7 : w1.cell? ⟨w.heap.size + 1, 7, none⟩ = some (.float .f32 0) := (hc1 (w.heap.size + 1) 7 (by simp <;> omega)).trans (by go_simp)
  have y1 : ∀ o, w1.frozen? ⟨w.heap.size + 1, o, none⟩ = false := (fun o => (hf1 (w.heap.size + 1) o (by simp <;> omega)).trans (by go_simp))
  have x2_0 : w1.cell? ⟨w.heap.size + 1 + 1, 0, none⟩ = some (.int .i16 0) := (hc1 (w.heap.size + 1 + 1) 0 (by simp <;> omega)).trans (by go_simp)
  have x2_1 : w1.cell? ⟨w.heap.size + 1 + 1, 1, none⟩ = some (.float .f32 0) := (hc1 (w.heap.size + 1 + 1) 1 (by simp <;> omega)).trans (by go_simp)
  have x2_2 : w1.cell? ⟨w.heap.size + 1 + 1, 2, none⟩ = some (.float .f32 0) := (hc1 (w.heap.size + 1 + 1) 2 (by simp <;> omega)).trans (by go_simp)
  have x2_3 : w1.cell? ⟨w.heap.size + 1 + 1, 3, none⟩ = some (.float .f32 0) := (hc1 (w.heap.size + 1 + 1) 3 (by simp <;> omega)).trans (by go_simp)
  have x2_4 : w1.cell? ⟨w.heap.size + 1 + 1, 4, none⟩ = some (.float .f32 0) := (hc1 (w.heap.size + 1 + 1) 4 (by simp <;> omega)).trans (by go_simp)
  have x2_5 : w1.cell? ⟨w.heap.size + 1 + 1, 5, none⟩ = some (.float .f32 0) := (hc1 (w.heap.size + 1 + 1) 5 (by simp <;> omega)).trans (by go_simp)
  have x2_6 : w1.cell? ⟨w.heap.size + 1 + 1, 6, none⟩ = some (.float .f32 0) := (hc1 (w.heap.size + 1 + 1) 6 (by simp <;> omega)).trans (by go_simp)
  have x2_7 : w1.cell? ⟨w.heap.size + 1 + 1, 7, none⟩ = some (.float .f32 0) := (hc1 (w.heap.size + 1 + 1) 7 (by simp <;> omega)).trans (by go_simp)
  have y2 : ∀ o, w1.frozen? ⟨w.heap.size + 1 + 1, o, none⟩ = false := (fun o => (hf1 (w.heap.size + 1 + 1) o (by simp <;> omega)).trans (by go_simp))
  have hB1 : Below w.heap.size w w1 := below_then (by (repeat' (first | (with_reducible exact Below.refl _ _) | (with_reducible assumption) | (with_reducible refine Below.alloc ?_ ?_ _) | (with_reducible refine below_drewN ?_ _) | (with_reducible refine Below.drew ?_) | (with_reducible refine Below.setCell ?_ ?_ _) | (with_reducible exact Nat.le_refl _) | omega | (simp only [World.size_alloc, World.size_setCell, World.size_drew, World.heap_drewN]; omega) | (simp; omega)))) hb
  have hz2 : w.heap.size + 1 + 1 + 1 ≤ w1.heap.size := (by simpa using hz1)
  clear hc1 hf1 hz1
  go_wp2
  exact bodyPost_ret (v := .agg #[.int .i16 n, .float .f32 a, .float .f32 b, .float .f32 c, .float .f32 d, .float .f32 lo, .float .f32 hi, .float .f32 i]) (by simp [results, Try.results21, go_sem, x1_0, x1_1, x1_2, x1_3, x1_4, x1_5, x1_6, x1_7]) rfl ⟨rfl, by (repeat' (first | (with_reducible exact Below.refl _ _) | (with_reducible assumption) | (with_reducible refine Below.alloc ?_ ?_ _) | (with_reducible refine below_drewN ?_ _) | (with_reducible refine Below.drew ?_) | (with_reducible refine Below.setCell ?_ ?_ _) | (with_reducible exact Nat.le_refl _) | omega | (simp only [World.size_alloc, World.size_setCell, World.size_drew, World.heap_drewN]; omega) | (simp; omega)))⟩

set_option maxHeartbeats 1000000 in
theorem implValidGovernor_any (n : Int) (a b c d lo hi i : Nat) (w : World) (h0 : -32768 ≤ n) (h1 : n ≤ 32767) :
    Calls Try.prog 22 #[.agg #[.int .i16 n, .float .f32 a, .float .f32 b, .float .f32 c, .float .f32 d, .float .f32 lo, .float .f32 hi, .float .f32 i]] w fun e w' => e = .returned (.bool (govB n a b c d lo hi i)) ∧ Below w.heap.size w w' := by
  go_enter Try.func22, Try.ntmps22
  go_wp2_with (first | (go_at_call 57; refine (implValidMill_any _ _ _ _ h0 h1).mono ?_; rintro e w1 ⟨rfl, hb⟩; obtain ⟨hc1, hf1, hz1⟩ := below_reads hb; simp only [World.size_alloc] at hc1 hf1 hz1) | (go_at_call 48; refine (impl_IsLength_any _ _).mono ?_; rintro e w' ⟨rfl, rfl⟩))
  all_goals (go_ret; exact ⟨by simp_all [govB], below_then (by (repeat' (first | (with_reducible exact Below.refl _ _) | (with_reducible assumption) | (with_reducible refine Below.alloc ?_ ?_ _) | (with_reducible refine below_drewN ?_ _) | (with_reducible refine Below.drew ?_) | (with_reducible refine Below.setCell ?_ ?_ _) | (with_reducible exact Nat.le_refl _) | omega | (simp only [World.size_alloc, World.size_setCell, World.size_drew, World.heap_drewN]; omega) | (simp; omega)))) hb⟩)

set_option maxHeartbeats 1000000 in
theorem l03Ok_any (n : Int) (a b c d lo hi i : Nat) (w : World) (h0 : -32768 ≤ n) (h1 : n ≤ 32767) :
    Calls Try.prog 56 #[.agg #[.int .i16 n, .float .f32 a, .float .f32 b, .float .f32 c, .float .f32 d, .float .f32 lo, .float .f32 hi, .float .f32 i]] w fun e w' => e = .returned (.bool (govB n a b c d lo hi i)) ∧ Below w.heap.size w w' := by
  go_enter Try.func56, Try.ntmps56
  go_wp2_with (first | (go_at_call 83; refine (l03Mill_any _ _ _ _ h0 h1).mono ?_; rintro e w1 ⟨rfl, hb⟩; obtain ⟨hc1, hf1, hz1⟩ := below_reads hb; simp only [World.size_alloc] at hc1 hf1 hz1) | (go_at_call 45; refine (l03Length_any _ _).mono ?_; rintro e w' ⟨rfl, rfl⟩))
  all_goals (go_ret; exact ⟨by simp_all [govB], below_then (by (repeat' (first | (with_reducible exact Below.refl _ _) | (with_reducible assumption) | (with_reducible refine Below.alloc ?_ ?_ _) | (with_reducible refine below_drewN ?_ _) | (with_reducible refine Below.drew ?_) | (with_reducible refine Below.setCell ?_ ?_ _) | (with_reducible exact Nat.le_refl _) | omega | (simp only [World.size_alloc, World.size_setCell, World.size_drew, World.heap_drewN]; omega) | (simp; omega)))) hb⟩)

set_option maxHeartbeats 400000 in
theorem specValidGovernor_any (n : Int) (a b c d lo hi i : Nat) (w : World) (h0 : -32768 ≤ n) (h1 : n ≤ 32767) :
    Calls Try.prog 20 #[.agg #[.int .i16 n, .float .f32 a, .float .f32 b, .float .f32 c, .float .f32 d, .float .f32 lo, .float .f32 hi, .float .f32 i]] w fun e w' => e = .returned (.bool (govB n a b c d lo hi i)) ∧ Below w.heap.size w w' := by
  go_enter Try.func20, Try.ntmps20
  go_wp2_with (go_at_call 56; refine (l03Ok_any _ _ _ _ _ _ _ _ _ h0 h1).mono ?_; rintro e w1 ⟨rfl, hb⟩)
  all_goals (go_ret; exact ⟨rfl, below_then (by (repeat' (first | (with_reducible exact Below.refl _ _) | (with_reducible assumption) | (with_reducible refine Below.alloc ?_ ?_ _) | (with_reducible refine below_drewN ?_ _) | (with_reducible refine Below.drew ?_) | (with_reducible refine Below.setCell ?_ ?_ _) | (with_reducible exact Nat.le_refl _) | omega | (simp only [World.size_alloc, World.size_setCell, World.size_drew, World.heap_drewN]; omega) | (simp; omega)))) hb⟩)

end Go.Proofs.Ytmoilahabbfjeaa
