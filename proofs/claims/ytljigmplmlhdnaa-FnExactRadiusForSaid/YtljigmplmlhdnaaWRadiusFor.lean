/- For every input the law FnExactRadiusFor returns true and leaves its arguments as they were; no condition. -/
import Derived.Test.YtljigmplmlhdnaaBase
import Derived.Below
import Derived.Test.YtljigmplmlhdnaaCtRe
import Derived.Test.YtljigmplmlhdnaaCtM
namespace Go.Proofs.Ytljigmplmlhdnaa.xRadiusFor
open Go.RowKit
set_option linter.unusedVariables false

set_option maxHeartbeats 1000000 in
theorem walk (a : Nat) (ha : a < 2 ^ 32) (b : Nat) (hb : b < 2 ^ 32) (c : Nat) (hc : c < 2 ^ 32) (d : Nat) (hd : d < 2 ^ 32) (x : Bool) (q : Nat) (hq : q < 2 ^ 32) (t : Nat) (ht : t < 2 ^ 32) (w : World) :
    Calls Try.prog 8 #[.agg #[.float .f32 a, .float .f32 b, .float .f32 c, .float .f32 d, .bool x], .float .f32 q, .float .f32 t] w fun e w' => e = .returned (.bool true) ∧ Below w.heap.size w w' := by
  go_enter Try.func8, Try.ntmps8
  go_wp2_with fail
  refine (toBelt_any _ _ _ _ _ _).mono ?_
  rintro e w1 ⟨rfl, h1⟩
  obtain ⟨hc1, hf1, _⟩ := below_reads h1
  have hz1 : w.heap.size < w1.heap.size := by have := h1.size; simp at this; omega
  go_wp2_with fail
  refine (specRadiusFor_any a b c d q x t ht _).mono ?_
  rintro e w2 ⟨r2, rfl, hr2, hl2, h2⟩
  have HR2 := Lib.hid hr2
  clear hr2
  obtain ⟨hc2, hf2, _⟩ := below_reads h2
  have hz2 : w.heap.size < w2.heap.size := by have := h2.size; omega
  go_wp2_with fail
  refine (toBelt_any _ _ _ _ _ _).mono ?_
  rintro e w3 ⟨rfl, h3⟩
  obtain ⟨hc3, hf3, _⟩ := below_reads h3
  have hz3 : w.heap.size < w3.heap.size := by have := h3.size; omega
  go_wp2_with fail
  refine (implRadiusFor_any a b c d q x t ht _).mono ?_
  rintro e w4 ⟨r4, rfl, hr4, hl4, h4⟩
  have HR4 := Lib.hid hr4
  clear hr4
  obtain ⟨hc4, hf4, _⟩ := below_reads h4
  have hz4 : w.heap.size < w4.heap.size := by have := h4.size; omega
  have hs : sameB r4 r2 = true := sameB_of_cn (by rw [HR4.out, HR2.out])
  go_wp2_with (go_at_call 13; refine (sameFloat_any _ _ _ _ ?_ ?_ (img_c64 _ _) (img_c64 _ _) _).mono ?_; (iterate 2 (first | assumption | skip)); rintro e w9 ⟨rfl, rfl⟩)
  all_goals (go_ret; exact ⟨rfl, below_drewN (below_then (below_then (below_then (below_then (by (repeat' (first | (with_reducible exact Below.refl _ _) | (with_reducible assumption) | (with_reducible refine Below.alloc ?_ ?_ _) | (with_reducible refine below_drewN ?_ _) | (with_reducible refine Below.drew ?_) | (with_reducible refine Below.setCell ?_ ?_ _) | (with_reducible exact Nat.le_refl _) | omega | (simp only [World.size_alloc, World.size_setCell, World.size_drew, World.heap_drewN]; omega) | (simp; omega)))) h1) h2) h3) h4) _⟩)

end Go.Proofs.Ytljigmplmlhdnaa.xRadiusFor
