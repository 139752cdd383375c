/- For every input the law FnExactValidGovernor returns true and leaves its arguments as they were; no condition. -/
import Derived.Test.YtmoilahabbfjeaaBase
import Derived.Below
import Derived.Test.YtmoilahabbfjeaaCtGv
namespace Go.Proofs.Ytmoilahabbfjeaa.xValidGovernor
open Go.RowKit
set_option linter.unusedVariables false

set_option maxHeartbeats 1000000 in
theorem walk (n : Int) (hn : (Lit.int .i16 n).wf = true) (a : Nat) (ha : a < 2 ^ 32) (b : Nat) (hb : b < 2 ^ 32) (c : Nat) (hc : c < 2 ^ 32) (d : Nat) (hd : d < 2 ^ 32) (lo : Nat) (hlo : lo < 2 ^ 32) (hi : Nat) (hhi : hi < 2 ^ 32) (i : Nat) (hi' : i < 2 ^ 32) (w : World) :
    Calls Try.prog 5 #[.agg #[.int .i16 n, .float .f32 a, .float .f32 b, .float .f32 c, .float .f32 d, .float .f32 lo, .float .f32 hi, .float .f32 i]] w fun e w' => e = .returned (.bool true) ∧ Below w.heap.size w w' := by
  obtain ⟨n0, n1⟩ := bounds_i16 hn
  clear hn
  go_enter Try.func5, Try.ntmps5
  go_wp2_with fail
  refine (toGovernor_any _ _ _ _ _ _ _ _ _).mono ?_
  rintro e w1 ⟨rfl, h1⟩
  obtain ⟨hc1, hf1, _⟩ := below_reads h1
  have hz1 : w.heap.size < w1.heap.size := by have := h1.size; simp at this; omega
  go_wp2_with fail
  refine (specValidGovernor_any n a b c d lo hi i _ n0 n1).mono ?_
  rintro e w2 ⟨rfl, h2⟩
  obtain ⟨hc2, hf2, _⟩ := below_reads h2
  have hz2 : w.heap.size < w2.heap.size := by have := h2.size; omega
  go_wp2_with fail
  refine (toGovernor_any _ _ _ _ _ _ _ _ _).mono ?_
  rintro e w3 ⟨rfl, h3⟩
  obtain ⟨hc3, hf3, _⟩ := below_reads h3
  have hz3 : w.heap.size < w3.heap.size := by have := h3.size; omega
  go_wp2_with fail
  refine (implValidGovernor_any n a b c d lo hi i _ n0 n1).mono ?_
  rintro e w4 ⟨rfl, h4⟩
  obtain ⟨hc4, hf4, _⟩ := below_reads h4
  have hz4 : w.heap.size < w4.heap.size := by have := h4.size; omega
  go_wp2
  all_goals (go_ret; exact ⟨rfl, below_then (below_then (below_then (below_then (by (repeat' (first | (with_reducible exact Below.refl _ _) | (with_reducible assumption) | (with_reducible refine Below.alloc ?_ ?_ _) | (with_reducible refine below_drewN ?_ _) | (with_reducible refine Below.drew ?_) | (with_reducible refine Below.setCell ?_ ?_ _) | (with_reducible exact Nat.le_refl _) | omega | (simp only [World.size_alloc, World.size_setCell, World.size_drew, World.heap_drewN]; omega) | (simp; omega)))) h1) h2) h3) h4⟩)

end Go.Proofs.Ytmoilahabbfjeaa.xValidGovernor
