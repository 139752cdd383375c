/- For every input the law FnExactReadNumber returns true and leaves its arguments as they were; no condition. -/
import Derived.Test.YtljigmplmlhdnaaBase
import Derived.Below
import Derived.Deep.RegionWith
import Derived.Test.YtljigmplmlhdnaaCtRn
import Derived.Test.YtljigmplmlhdnaaCtM
namespace Go.Proofs.Ytljigmplmlhdnaa.xReadNumber
open Go.RowKit
set_option linter.unusedVariables false

set_option maxHeartbeats 1000000 in
theorem walk {w : World} (s : ByteArray) (hs : s.size ≤ maxLen) :
    Calls Try.prog 3 #[.string s] w fun e w' => e = .returned (.bool true) ∧ Below w.heap.size w w' := by
  have hs2 : s.size ≤ 9223372036854775807 := by simpa [maxLen] using hs
  have hl := readV_lt s
  have hse := sameB_refl (readV s)
  have hkk : (readK s != readK s) = false := by simp
  have HS := Lib.hid hs2
  clear hs
  go_enter Try.func3, Try.ntmps3
  go_wp2_with (first | (go_at_call 11; refine (specReadNumber_any s HS.out _).mono ?_; rintro e w' ⟨rfl, rfl⟩) | (go_at_call 12; refine (implReadNumber_any s HS.out _).mono ?_; rintro e w1 ⟨rfl, hb⟩))
  all_goals try (go_ret; exact ⟨rfl, Below.refl _ _⟩)
  refine (sameFloat_any _ _ _ _ hl hl (img_c64 _ _) (img_c64 _ _) _).mono ?_
  rintro e w2 ⟨rfl, rfl⟩
  go_wp2
  all_goals go_ret
  all_goals exact ⟨rfl, by (repeat' (first | (with_reducible exact Below.refl _ _) | (with_reducible assumption) | (with_reducible refine Below.alloc ?_ ?_ _) | (with_reducible refine below_drewN ?_ _) | (with_reducible refine Below.drew ?_) | (with_reducible refine Below.setCell ?_ ?_ _) | (with_reducible exact Nat.le_refl _) | omega | (simp only [World.size_alloc, World.size_setCell, World.size_drew, World.heap_drewN]; omega) | (simp; omega)))⟩

end Go.Proofs.Ytljigmplmlhdnaa.xReadNumber
