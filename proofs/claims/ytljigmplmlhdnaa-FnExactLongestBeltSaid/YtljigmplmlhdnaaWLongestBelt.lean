/- For every input the law FnExactLongestBelt returns true and leaves its arguments as they were; no condition. -/
import Derived.Test.YtljigmplmlhdnaaBase
import Derived.Below
import Derived.Deep.RegionWith
import Derived.Test.YtljigmplmlhdnaaCtRl
import Derived.Test.YtljigmplmlhdnaaCtM
import Derived.Test.YtljigmplmlhdnaaCtBs
import Derived.Test.YtljigmplmlhdnaaMk2
namespace Go.Proofs.Ytljigmplmlhdnaa.xLongestBelt
open Go.RowKit
set_option linter.unusedVariables false

set_option maxHeartbeats 1000000 in
theorem walk {w : World} (v : Value) (n : Nat) (es : Nat → List Value) (h : SliceIn (CellsOk [.f, .f, .f, .f, .b]) 5 w v n es) :
    Calls Try.prog 5 #[v] w fun e w' => e = .returned (.bool true) ∧ Below w.heap.size w w' := by
  obtain ⟨ps, ht, rfl⟩ := bs_of_in h
  clear h
  by_cases hl : (1048576 : Int) < (ps.length : Int)
  · go_enter Try.func5, Try.ntmps5
    go_wp2_with (go_at_call 17; refine (szBeltS_any ps _ _ _ ht (by decide) (by decide)).mono ?_; rintro e w' ⟨rfl, rfl⟩)
    all_goals go_ret
    exact ⟨rfl, Below.refl _ _⟩
  · have hlen : ps.length ≤ 1048576 := by omega
    have hb := Below.refl w.heap.size w
    go_enter Try.func5, Try.ntmps5
    go_wp2_with (first | (go_at_call 17; refine (szBeltS_any ps _ _ _ ht (by decide) (by decide)).mono ?_; rintro e w' ⟨rfl, rfl⟩) | (go_at_call 19; refine (toBelts_bs ps _ _ ht hlen).mono ?_; (rintro e w2 ⟨u, rfl, htn, hb2⟩; have hb := below_then hb hb2; have ht := ht.below hb2; (try (have htl := htl.below hb2)); (try (have htl' := htl)); (have htl := htn); clear htn)) | (go_at_call 18; refine (specLongest_any ps _ _ htl).mono ?_; (rintro e w2 ⟨r1, rfl, hr1, hl1, hb2⟩; have HR1 := Lib.hid hr1; clear hr1; have hb := below_then hb hb2; have ht := ht.below hb2; have htl := htl.below hb2)) | (go_at_call 20; refine (implLongest_any ps _ _ htl).mono ?_; (rintro e w2 ⟨r2, rfl, hr2, hl2, hb2⟩; have hse : sameB r2 r1 = true := sameB_of_cn (hr2.trans HR1.out.symm); clear hr2; have hb := below_then hb hb2; have ht := ht.below hb2; have htl := htl.below hb2)) | (go_at_call 13; refine (sameFloat_any _ _ _ _ ?_ ?_ (img_c64 _ _) (img_c64 _ _) _).mono ?_; (iterate 2 (first | assumption | skip)); rintro e w2 ⟨rfl, hw⟩; have hb2 := below_of_drewN hw; clear hw; have hb := below_then hb hb2; have ht := ht.below hb2; have htl := htl.below hb2) | (go_at_call 21; refine (eqBelts_any ps ps _ _ _ htl' htl (SameBs.refl _)).mono ?_; (rintro e w2 ⟨rfl, hb2⟩; have hb := below_then hb hb2)))
    all_goals go_ret
    all_goals exact ⟨rfl, hb⟩

end Go.Proofs.Ytljigmplmlhdnaa.xLongestBelt
