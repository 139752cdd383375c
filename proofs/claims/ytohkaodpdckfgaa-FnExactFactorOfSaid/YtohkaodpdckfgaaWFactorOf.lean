/- For every input the law FnExactFactorOf returns true and leaves its arguments as they were; no condition. -/
import Derived.Test.YtohkaodpdckfgaaBase
import Derived.Below
import Derived.Deep.RegionWith
import Derived.Test.YtohkaodpdckfgaaCtZc
namespace Go.Proofs.Ytohkaodpdckfgaa.xFactorOf
open Go.RowKit
set_option linter.unusedVariables false

set_option maxHeartbeats 1000000 in
theorem walk (v : Value) (n : Nat) (es : Nat → List Value) (w : World) (h : SliceIn (CellsOk [.i .i16, .i .i16, .f]) 3 w v n es) :
    Calls Try.prog 8 #[v] w fun e w' => e = .returned (.bool true) ∧ Below w.heap.size w w' := by
  obtain ⟨ps, ht, rfl⟩ := tr_of_in h
  by_cases hl : (1048576 : Int) < (ps.length : Int)
  · go_enter Try.func8, Try.ntmps8
    go_wp2_with (go_at_call 15; refine (szTrain_any ps _ _ _ ht (by decide) (by decide)).mono ?_; rintro e w' ⟨rfl, rfl⟩)
    all_goals go_ret
    exact ⟨rfl, Below.refl _ _⟩
  · have hlen : ps.length ≤ 1048576 := by omega
    have hb := Below.refl w.heap.size w
    go_enter Try.func8, Try.ntmps8
    go_wp2_with (first | (go_at_call 15; refine (szTrain_any ps _ _ _ ht (by decide) (by decide)).mono ?_; rintro e w' ⟨rfl, rfl⟩) | (go_at_call 17; refine (toTrain_tr ps _ _ ht hlen).mono ?_; (rintro e w2 ⟨u, rfl, htn, hb2⟩; have hb := below_then hb hb2; have ht := ht.below hb2; (try (have htl := htl.below hb2)); (try (have htl' := htl)); (have htl := htn); clear htn)) | (go_at_call 29; refine (specFactorOf_any ps _ _ htl).mono ?_; (rintro e w2 ⟨r1, rfl, hr1, hl1, hb2⟩; have HR1 := Lib.hid hr1; clear hr1; have hb := below_then hb hb2; have ht := ht.below hb2; have htl := htl.below hb2)) | (go_at_call 30; refine (implFactorOf_any ps _ _ htl).mono ?_; (rintro e w2 ⟨r2, rfl, hr2, hl2, hb2⟩; have hse : sameB r2 r1 = true := teq_cn (hr2.trans HR1.out.symm); clear hr2; have hb := below_then hb hb2; have ht := ht.below hb2; have htl := htl.below hb2)) | (go_at_call 26; refine (sameFloat_any _ _ _ _ ?_ ?_ (img_c64 _ _) (img_c64 _ _) _).mono ?_; (iterate 2 (first | assumption | skip)); rintro e w2 ⟨rfl, hw⟩; have hb2 := below_of_drewN hw; clear hw; have hb := below_then hb hb2; have ht := ht.below hb2; have htl := htl.below hb2) | (go_at_call 19; refine (eqTrain_any ps ps _ _ _ htl' htl (SameT.refl _)).mono ?_; (rintro e w2 ⟨rfl, hb2⟩; have hb := below_then hb hb2)))
    all_goals go_ret
    all_goals exact ⟨rfl, hb⟩

end Go.Proofs.Ytohkaodpdckfgaa.xFactorOf
