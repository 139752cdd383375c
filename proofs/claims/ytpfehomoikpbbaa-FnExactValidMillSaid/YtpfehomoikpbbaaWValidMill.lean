/- For every input the law FnExactValidMill returns true and leaves its arguments as they were; no condition. -/
import Derived.Test.YtpfehomoikpbbaaBase
import Derived.Below
import Derived.Test.YtpfehomoikpbbaaCtB
namespace Go.Proofs.Ytpfehomoikpbbaa.xValidMill
open Go.RowKit
set_option linter.unusedVariables false

set_option maxHeartbeats 400000 in
theorem walk (n : Int) (hn : (Lit.int .i16 n).wf = true) (a : Nat) (_ha : a < 2 ^ 32) (b : Nat) (_hb : b < 2 ^ 32) (w : World) :
    Calls Try.prog 12 #[.agg #[.int .i16 n, .float .f32 a, .float .f32 b]] w fun e w' => e = .returned (.bool true) ∧ Below w.heap.size w w' := by
  obtain ⟨hb0, hb1⟩ := bounds_i16 hn
  go_enter Try.func12, Try.ntmps12
  go_wp2_with fail
  refine (toMill_any _ _ _ _).mono ?_
  rintro e w1 ⟨rfl, h1⟩
  obtain ⟨hc1, hf1, _⟩ := below_reads h1
  have hz1_0 : w.heap.size < w1.heap.size := by have := h1.size; simp at this; omega
  go_wp2_with fail
  refine (specValidMill_any _ _ _ _ hb0 hb1).mono ?_
  rintro e w2 ⟨rfl, h2⟩
  obtain ⟨hc2, hf2, _⟩ := below_reads h2
  have hz2_0 : w.heap.size < w2.heap.size := by have := h2.size; omega
  go_wp2_with fail
  refine (toMill_any _ _ _ _).mono ?_
  rintro e w3 ⟨rfl, h3⟩
  obtain ⟨hc3, hf3, _⟩ := below_reads h3
  have hz3_0 : w.heap.size < w3.heap.size := by have := h3.size; omega
  go_wp2_with fail
  refine (implValidMill_any _ _ _ _ hb0 hb1).mono ?_
  rintro e w4 ⟨rfl, h4⟩
  obtain ⟨hc4, hf4, _⟩ := below_reads h4
  have hz4_0 : w.heap.size < w4.heap.size := by have := h4.size; omega
  go_wp2
  all_goals (go_ret; exact ⟨rfl, below_then (below_then (below_then (below_then (by (repeat' (first | (with_reducible exact Below.refl _ _) | (with_reducible assumption) | (with_reducible refine Below.alloc ?_ ?_ _) | (with_reducible refine below_drewN ?_ _) | (with_reducible refine Below.drew ?_) | (with_reducible refine Below.setCell ?_ ?_ _) | (with_reducible exact Nat.le_refl _) | omega | (simp only [World.size_alloc, World.size_setCell, World.size_drew, World.heap_drewN]; omega) | (simp; omega)))) h1) h2) h3) h4⟩)

end Go.Proofs.Ytpfehomoikpbbaa.xValidMill
