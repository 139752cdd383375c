/- For every input the law FnExactTurnsToMeet returns true and leaves its arguments as they were; no condition. -/
import Derived.Test.YtohkaodpdckfgaaBase
import Derived.Below
import Derived.Deep.RegionWith
import Derived.Test.YtohkaodpdckfgaaCtZb
namespace Go.Proofs.Ytohkaodpdckfgaa.xTurnsToMeet
open Go.RowKit
set_option linter.unusedVariables false

set_option maxHeartbeats 1000000 in
theorem walk (v : Value) (n : Nat) (es : Nat → List Value) (w : World) (h : SliceIn (CellsOk [.i .i16, .i .i16, .f]) 3 w v n es) (i : Int) (_wi : (Lit.int .i64 i).wf = true) :
    Calls Try.prog 10 #[v, .int .i64 i] w fun e w' => e = .returned (.bool true) ∧ Below w.heap.size w w' := by
  obtain ⟨ps, ht, rfl⟩ := tr_of_in h
  by_cases hl : (1048576 : Int) < (ps.length : Int)
  · go_enter Try.func10, Try.ntmps10
    go_wp2_with (go_at_call 15; refine (szTrain_any ps _ _ _ ht (by decide) (by decide)).mono ?_; rintro e w' ⟨rfl, rfl⟩)
    all_goals go_ret
    exact ⟨rfl, Below.refl _ _⟩
  · have hlen : ps.length ≤ 1048576 := by omega
    have hb := Below.refl w.heap.size w
    go_enter Try.func10, Try.ntmps10
    go_wp2_with (first | (go_at_call 15; refine (szTrain_any ps _ _ _ ht (by decide) (by decide)).mono ?_; rintro e w' ⟨rfl, rfl⟩) | (go_at_call 17; refine (toTrain_tr ps _ _ ht hlen).mono ?_; (rintro e w2 ⟨u, rfl, htn, hb2⟩; have hb := below_then hb hb2; have ht := ht.below hb2; (try (have htl := htl.below hb2)); (try (have htl' := htl)); (have htl := htn); clear htn)) | (go_at_call 33; refine (specTurnsToMeet_any ps _ _ _ htl).mono ?_; (rintro e w2 ⟨rfl, hb2⟩; have hb := below_then hb hb2; have ht := ht.below hb2; have htl := htl.below hb2)) | (go_at_call 34; refine (implTurnsToMeet_any ps _ _ _ htl).mono ?_; (rintro e w2 ⟨rfl, hb2⟩; have hb := below_then hb hb2; have ht := ht.below hb2; have htl := htl.below hb2)) | (go_at_call 19; refine (eqTrain_any ps ps _ _ _ htl' htl (SameT.refl _)).mono ?_; (rintro e w2 ⟨rfl, hb2⟩; have hb := below_then hb hb2)))
    all_goals go_ret
    all_goals exact ⟨rfl, hb⟩

end Go.Proofs.Ytohkaodpdckfgaa.xTurnsToMeet
