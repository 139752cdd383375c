/- The law's walk: a train is read from its text. -/
import Derived.Test.YtkgfepakedieaaaDoorCtRu
import Derived.Test.YtkgfepakedieaaaDoorMkT
import Derived.Test.YtkgfepakedieaaaDoorMk2
import Derived.Test.YtkgfepakedieaaaDoorBase
import Derived.Below
import Derived.Deep.RegionWith
namespace Go.Proofs.YtkgfepakedieaaaDoor.xReadTrain
open Go.RowKit

theorem rtR_ok (s : ByteArray) : (rtR s).length ≤ 1048576 ∧ ∀ p ∈ rtR s, TOk p := by
  cases h : rtS s
  · obtain ⟨_, h2⟩ := rtS_no h
    rw [h2]
    exact ⟨by simp, by simp⟩
  · obtain ⟨_, h2⟩ := rtS_yes h
    rw [h2]
    refine ⟨?_, getS_tok⟩
    unfold rtS at h
    simp only [Bool.and_eq_true] at h
    have h3 := h.2
    simp only [trainB, Bool.and_eq_true, withinB, decide_eq_true_eq] at h3
    omega

set_option maxHeartbeats 4000000 in
theorem walk (s : ByteArray) (w : World) (hl4 : Laid4 w) :
    Calls Tryd.prog 4 #[.string s] w fun e w' => e = .returned (.bool true) ∧ Below w.heap.size w w' := by
  by_cases hl : (1048576 : Int) < (s.size : Int)
  · go_enter Tryd.func4, Tryd.ntmps4
    go_wp2
    go_ret
    exact ⟨rfl, Below.refl _ _⟩
  · have hs : s.size ≤ 1048576 := by omega
    obtain ⟨hRl, hRk⟩ := rtR_ok s
    obtain ⟨R, hR⟩ : ∃ R, rtR s = R := ⟨_, rfl⟩
    obtain ⟨K, hK⟩ : ∃ K, rtK s = K := ⟨_, rfl⟩
    rw [hR] at hRl hRk
    have HRk := Lib.hid hRk
    have HS : Hid (∀ w, Calls Tryd.prog 10 #[.string s] w (GivesT w K R)) := Lib.hid (fun w => by rw [← hR, ← hK]; exact specReadTrain_any s hs w)
    have HI : Hid (∀ w', Laid4 w' → Calls Tryd.prog 11 #[.string s] w' (GivesT w' K R)) := Lib.hid (fun w' h => by rw [← hR, ← hK]; exact implReadTrain_any s hs w' h)
    have HL := Lib.hid hl4
    have hkk : (K != K) = false := by simp
    clear hR hK hRk hl4
    go_enter Tryd.func4, Tryd.ntmps4
    go_wp2_with fail
    refine (HS.out _).mono ?_
    rintro e w2 ⟨uW, rfl, hW, hb2⟩
    have hb := hb2
    have s2 := hb2.size
    have lW := hW.lt
    go_wp2_with fail
    refine (HI.out _ (HL.out.below hb)).mono ?_
    rintro e w4 ⟨uG, rfl, hG, hb4⟩
    have hb := below_then hb hb4
    have s4 := hb4.size
    have hW := own_after hW hb4
    have lG := hG.lt
    go_wp2_with fail
    refine (eqTrain_any _ _ _ _ _ (tr_of_row hG HRk.out) (tr_of_row hW HRk.out) (SameT.refl _)).mono ?_
    rintro e w5 ⟨rfl, hb5⟩
    have hb := below_then hb hb5
    have s5 := hb5.size
    have hW := own_after hW hb5
    have hG := own_after hG hb5
    go_wp2_with fail
    refine (markTrain_any R _ _ _ hG hRl).mono ?_
    rintro e w10 ⟨rfl, hM, hO10⟩
    have hb := hO10.2.2 _ _ (by omega) hb
    have s10 := hO10.1
    have hW := own_only hW hO10 (fun g hg hc => by have h1 := lG g hc; have h2 := lW g hg; omega)
    have hM := mark_len hM
    go_wp2_with fail
    refine (heldTrain_any R.length _ _ (tr_of_row hM (mark_ok _)) hRl).mono ?_
    rintro e w11 ⟨rfl, rfl⟩
    go_wp2_with fail
    refine (HI.out _ (HL.out.below hb)).mono ?_
    rintro e w13 ⟨uH, rfl, hH, hb13⟩
    have hb := below_then hb hb13
    have s13 := hb13.size
    have hW := own_after hW hb13
    have hM := own_after hM hb13
    go_wp2_with fail
    refine (eqTrain_any _ _ _ _ _ (tr_of_row hH HRk.out) (tr_of_row hW HRk.out) (SameT.refl _)).mono ?_
    rintro e w14 ⟨rfl, hb14⟩
    have hb := below_then hb hb14
    have s14 := hb14.size
    have hM := own_after hM hb14
    go_wp2_with fail
    refine (heldTrain_any R.length _ _ (tr_of_row hM (mark_ok _)) hRl).mono ?_
    rintro e w15 ⟨rfl, rfl⟩
    go_wp2
    all_goals (go_ret; exact ⟨rfl, hb⟩)

end Go.Proofs.YtkgfepakedieaaaDoor.xReadTrain
