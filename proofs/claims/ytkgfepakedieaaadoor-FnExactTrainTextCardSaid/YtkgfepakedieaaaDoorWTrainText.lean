/- The law's walk: the text of a train. -/
import Derived.Test.YtkgfepakedieaaaDoorCtTy
import Derived.Test.YtkgfepakedieaaaDoorMkT
import Derived.Test.YtkgfepakedieaaaDoorBase
import Derived.Below
import Derived.Deep.RegionWith
namespace Go.Proofs.YtkgfepakedieaaaDoor.xTrainText
open Go.RowKit

set_option maxHeartbeats 2000000 in
theorem walk (v : Value) (n : Nat) (es : Nat → List Value) (w : World) (hp : Pow10 w) (h : SliceIn (CellsOk [.i .i16, .i .i16, .f]) 3 w v n es) :
    Calls Tryd.prog 3 #[v] w fun e w' => e = .returned (.bool true) ∧ Below w.heap.size w w' := by
  obtain ⟨ps, ht, rfl⟩ := tr_of_in h
  have HP := Lib.hid hp
  clear hp
  by_cases hl : (1048576 : Int) < (ps.length : Int)
  · go_enter Tryd.func3, Tryd.ntmps3
    go_wp2_with (go_at_call 5; refine (szTrain_any ps _ _ _ ht (by decide) (by decide)).mono ?_; rintro e w' ⟨rfl, rfl⟩)
    all_goals go_ret
    exact ⟨rfl, Below.refl _ _⟩
  · have hlen : ps.length ≤ 1048576 := by omega
    have hb := Below.refl w.heap.size w
    obtain ⟨T, hT⟩ : ∃ T, trainText ps = T := ⟨_, rfl⟩
    have hTT : (T.toList == T.toList) = true := by simp
    have HS : Hid (∀ v w, Tr w v ps → Calls Tryd.prog 6 #[v] w fun e w' => e = .returned (.string T) ∧ Below w.heap.size w w') := Lib.hid (fun v w h => by rw [← hT]; exact specTrainText_any ps v w h)
    have HI : Hid (∀ v w, Tr w v ps → Pow10 w → Calls Tryd.prog 8 #[v] w fun e w' => e = .returned (.string T) ∧ Below w.heap.size w w') := Lib.hid (fun v w h hp => by rw [← hT]; exact implTrainText_any ps v w h hp)
    clear hT
    go_enter Tryd.func3, Tryd.ntmps3
    go_wp2_with (first | (go_at_call 5; refine (szTrain_any ps _ _ _ ht (by decide) (by decide)).mono ?_; rintro e w' ⟨rfl, rfl⟩) | (go_at_call 7; refine (toTrain_tr ps _ _ ht hlen).mono ?_; (rintro e w2 ⟨u, rfl, htn, hb2⟩; have hb := below_then hb hb2; have ht := ht.below hb2; (try (have htl := htl.below hb2)); (try (have htl' := htl)); (have htl := htn); clear htn)) | (go_at_call 6; refine (HS.out _ _ htl).mono ?_; (rintro e w2 ⟨rfl, hb2⟩; have hb := below_then hb hb2; have ht := ht.below hb2; have htl := htl.below hb2)) | (go_at_call 8; refine (HI.out _ _ htl (HP.out.below hb)).mono ?_; (rintro e w2 ⟨rfl, hb2⟩; have hb := below_then hb hb2; have ht := ht.below hb2; have htl := htl.below hb2)) | (go_at_call 9; refine (eqTrain_any ps ps _ _ _ htl' htl (SameT.refl _)).mono ?_; (rintro e w2 ⟨rfl, hb2⟩; have hb := below_then hb hb2)))
    all_goals go_ret
    all_goals exact ⟨rfl, hb⟩

end Go.Proofs.YtkgfepakedieaaaDoor.xTrainText
