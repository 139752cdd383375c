/- For every input the law FnExactTurnBelt returns true and leaves its arguments as they were; no condition. -/
import Derived.Test.YtmoilahabbfjeaaBase
import Derived.Below
import Derived.Test.YtmoilahabbfjeaaCtL
import Derived.Test.YtmoilahabbfjeaaCtM
namespace Go.Proofs.Ytmoilahabbfjeaa.xTurnBelt
open Go.RowKit
set_option linter.unusedVariables false

set_option maxHeartbeats 1000000 in
theorem walk_no (a : Nat) (ha : a < 2 ^ 32) (b : Nat) (hb : b < 2 ^ 32) (c : Nat) (hc : c < 2 ^ 32) (d : Nat) (hd : d < 2 ^ 32) (x : Bool) (w : World) (hB : beltB a b c d = false) :
    Calls Try.prog 6 #[.agg #[.float .f32 a, .float .f32 b, .float .f32 c, .float .f32 d, .bool x]] w fun e w' => e = .returned (.bool true) ∧ Below w.heap.size w w' := by
  go_enter Try.func6, Try.ntmps6
  go_wp2_with fail
  refine (toBelt_any _ _ _ _ _ _).mono ?_
  rintro e w1 ⟨rfl, h1⟩
  obtain ⟨hc1, hf1, _⟩ := below_reads h1
  have hz1 : w.heap.size < w1.heap.size := by have := h1.size; simp at this; omega
  go_wp2_with fail
  refine (specTurnBelt_no a b c d x _ hB).mono ?_
  rintro e w2 ⟨rfl, h2⟩
  obtain ⟨hc2, hf2, _⟩ := below_reads h2
  have hz2 : w.heap.size < w2.heap.size := by have := h2.size; (try simp at this); omega
  go_wp2_with fail
  refine (toBelt_any _ _ _ _ _ _).mono ?_
  rintro e w3 ⟨rfl, h3⟩
  obtain ⟨hc3, hf3, _⟩ := below_reads h3
  have hz3 : w.heap.size < w3.heap.size := by have := h3.size; (try simp at this); omega
  have hy3 : w2.heap.size < w3.heap.size := by have := h3.size; (try simp at this); omega
  go_wp2_with fail
  refine (implTurnBelt_no a b c d x _ hB).mono ?_
  rintro e w4 ⟨rfl, h4⟩
  obtain ⟨hc4, hf4, _⟩ := below_reads h4
  have hz4 : w.heap.size < w4.heap.size := by have := h4.size; (try simp at this); omega
  have hy4 : w2.heap.size < w4.heap.size := by have := h4.size; (try simp at this); omega
  have hs : sameBeltB 0 0 0 0 false 0 0 0 0 false = true := by simp [sameBeltB, sameB_refl]
  go_wp2_with fail
  refine (eqBelt_any 0 0 0 0 false 0 0 0 0 false (by omega) (by omega) (by omega) (by omega) (by omega) (by omega) (by omega) (by omega) _).mono ?_
  rintro e w5 ⟨rfl, h5⟩
  go_wp2
  all_goals (go_ret; exact ⟨rfl, below_then (below_then ((below_then (below_then ((below_then (below_then (by (repeat' (first | (with_reducible exact Below.refl _ _) | (with_reducible assumption) | (with_reducible refine Below.alloc ?_ ?_ _) | (with_reducible refine below_drewN ?_ _) | (with_reducible refine Below.drew ?_) | (with_reducible refine Below.setCell ?_ ?_ _) | (with_reducible exact Nat.le_refl _) | omega | (simp only [World.size_alloc, World.size_setCell, World.size_drew, World.heap_drewN]; omega) | (simp; omega)))) h1) h2).trans (by (repeat' (first | (with_reducible exact Below.refl _ _) | (with_reducible assumption) | (with_reducible refine Below.alloc ?_ ?_ _) | (with_reducible refine below_drewN ?_ _) | (with_reducible refine Below.drew ?_) | (with_reducible refine Below.setCell ?_ ?_ _) | (with_reducible exact Nat.le_refl _) | omega | (simp only [World.size_alloc, World.size_setCell, World.size_drew, World.heap_drewN]; omega) | (simp; omega))))) h3) h4).trans (by (repeat' (first | (with_reducible exact Below.refl _ _) | (with_reducible assumption) | (with_reducible refine Below.alloc ?_ ?_ _) | (with_reducible refine below_drewN ?_ _) | (with_reducible refine Below.drew ?_) | (with_reducible refine Below.setCell ?_ ?_ _) | (with_reducible exact Nat.le_refl _) | omega | (simp only [World.size_alloc, World.size_setCell, World.size_drew, World.heap_drewN]; omega) | (simp; omega))))) h5) (Below.refl _ _)⟩)

set_option maxHeartbeats 1000000 in
theorem walk_yes (a : Nat) (ha : a < 2 ^ 32) (b : Nat) (hb : b < 2 ^ 32) (c : Nat) (hc : c < 2 ^ 32) (d : Nat) (hd : d < 2 ^ 32) (x : Bool) (w : World) (hB : beltB a b c d = true) :
    Calls Try.prog 6 #[.agg #[.float .f32 a, .float .f32 b, .float .f32 c, .float .f32 d, .bool x]] w fun e w' => e = .returned (.bool true) ∧ Below w.heap.size w w' := by
  go_enter Try.func6, Try.ntmps6
  go_wp2_with fail
  refine (toBelt_any _ _ _ _ _ _).mono ?_
  rintro e w1 ⟨rfl, h1⟩
  obtain ⟨hc1, hf1, _⟩ := below_reads h1
  have hz1 : w.heap.size < w1.heap.size := by have := h1.size; simp at this; omega
  go_wp2_with fail
  refine (specTurnBelt_yes a b c d x _ hB).mono ?_
  rintro e w2 ⟨rfl, h2⟩
  obtain ⟨hc2, hf2, _⟩ := below_reads h2
  have hz2 : w.heap.size < w2.heap.size := by have := h2.size; (try simp at this); omega
  go_wp2_with fail
  refine (toBelt_any _ _ _ _ _ _).mono ?_
  rintro e w3 ⟨rfl, h3⟩
  obtain ⟨hc3, hf3, _⟩ := below_reads h3
  have hz3 : w.heap.size < w3.heap.size := by have := h3.size; (try simp at this); omega
  have hy3 : w2.heap.size < w3.heap.size := by have := h3.size; (try simp at this); omega
  go_wp2_with fail
  refine (implTurnBelt_yes a b c d x _ hB).mono ?_
  rintro e w4 ⟨rfl, h4⟩
  obtain ⟨hc4, hf4, _⟩ := below_reads h4
  have hz4 : w.heap.size < w4.heap.size := by have := h4.size; (try simp at this); omega
  have hy4 : w2.heap.size < w4.heap.size := by have := h4.size; (try simp at this); omega
  have hs : sameBeltB b a c d x b a c d x = true := by simp [sameBeltB, sameB_refl]
  go_wp2_with fail
  refine (eqBelt_any b a c d x b a c d x hb ha hc hd hb ha hc hd _).mono ?_
  rintro e w5 ⟨rfl, h5⟩
  go_wp2
  all_goals (go_ret; exact ⟨rfl, below_then (below_then ((below_then (below_then ((below_then (below_then (by (repeat' (first | (with_reducible exact Below.refl _ _) | (with_reducible assumption) | (with_reducible refine Below.alloc ?_ ?_ _) | (with_reducible refine below_drewN ?_ _) | (with_reducible refine Below.drew ?_) | (with_reducible refine Below.setCell ?_ ?_ _) | (with_reducible exact Nat.le_refl _) | omega | (simp only [World.size_alloc, World.size_setCell, World.size_drew, World.heap_drewN]; omega) | (simp; omega)))) h1) h2).trans (by (repeat' (first | (with_reducible exact Below.refl _ _) | (with_reducible assumption) | (with_reducible refine Below.alloc ?_ ?_ _) | (with_reducible refine below_drewN ?_ _) | (with_reducible refine Below.drew ?_) | (with_reducible refine Below.setCell ?_ ?_ _) | (with_reducible exact Nat.le_refl _) | omega | (simp only [World.size_alloc, World.size_setCell, World.size_drew, World.heap_drewN]; omega) | (simp; omega))))) h3) h4).trans (by (repeat' (first | (with_reducible exact Below.refl _ _) | (with_reducible assumption) | (with_reducible refine Below.alloc ?_ ?_ _) | (with_reducible refine below_drewN ?_ _) | (with_reducible refine Below.drew ?_) | (with_reducible refine Below.setCell ?_ ?_ _) | (with_reducible exact Nat.le_refl _) | omega | (simp only [World.size_alloc, World.size_setCell, World.size_drew, World.heap_drewN]; omega) | (simp; omega))))) h5) (Below.refl _ _)⟩)

theorem walk (a : Nat) (ha : a < 2 ^ 32) (b : Nat) (hb : b < 2 ^ 32) (c : Nat) (hc : c < 2 ^ 32) (d : Nat) (hd : d < 2 ^ 32) (x : Bool) (w : World) :
    Calls Try.prog 6 #[.agg #[.float .f32 a, .float .f32 b, .float .f32 c, .float .f32 d, .bool x]] w fun e w' => e = .returned (.bool true) ∧ Below w.heap.size w w' := by
  cases hB : beltB a b c d
  · exact walk_no a ha b hb c hc d hd x w hB
  · exact walk_yes a ha b hb c hc d hd x w hB

end Go.Proofs.Ytmoilahabbfjeaa.xTurnBelt
