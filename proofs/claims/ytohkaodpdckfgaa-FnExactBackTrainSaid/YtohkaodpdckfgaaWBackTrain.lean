/- For every input the law FnExactBackTrain returns true and leaves its arguments as they were; no condition. -/
import Derived.Test.YtohkaodpdckfgaaBase
import Derived.Below
import Derived.Test.YtohkaodpdckfgaaCtZe
import Derived.Test.YtohkaodpdckfgaaMkT
namespace Go.Proofs.Ytohkaodpdckfgaa.xBackTrain
open Go.RowKit
set_option linter.unusedVariables false

theorem wrap16 (n : Int) : -32768 ≤ IntKind.i16.wrap n ∧ IntKind.i16.wrap n ≤ 32767 := by
  simp [IntKind.wrap, IntKind.bits, IntKind.signed]
  split <;> omega
theorem mark_ok (n : Nat) : ∀ p ∈ (List.range n).map markP, TOk p := by
  intro p hp
  obtain ⟨i, _, rfl⟩ := List.mem_map.1 hp
  exact ⟨wrap16 _, wrap16 _, by have := int_lt (1 + 3 * (i : Int) + 1 + 1); simpa only [markP] using this⟩
theorem back_ok {ps : List T3} (hk : ∀ p ∈ ps, TOk p) : ∀ p ∈ (if trainB ps then backT ps else []), TOk p := by
  intro p hp
  split at hp
  · obtain ⟨q, hq, rfl⟩ := List.mem_map.1 hp
    have := hk q (List.mem_reverse.1 hq)
    exact ⟨this.2.1, this.1, this.2.2⟩
  · simp at hp
set_option maxHeartbeats 2000000 in
theorem walk (v : Value) (n : Nat) (es : Nat → List Value) (w : World) (h : SliceIn (CellsOk [.i .i16, .i .i16, .f]) 3 w v n es) :
    Calls Try.prog 11 #[v] w fun e w' => e = .returned (.bool true) ∧ Below w.heap.size w w' := by
  obtain ⟨ps, ht, rfl⟩ := tr_of_in h
  by_cases hl : (1048576 : Int) < (ps.length : Int)
  · go_enter Try.func11, Try.ntmps11
    go_wp2_with (go_at_call 15; refine (szTrain_any ps _ _ _ ht (by decide) (by decide)).mono ?_; rintro e w' ⟨rfl, rfl⟩)
    go_ret
    exact ⟨rfl, Below.refl _ _⟩
  have hlen : ps.length ≤ 1048576 := by omega
  have hTk : ∀ p ∈ ps, TOk p := by obtain ⟨_, _, _, _, hk, _⟩ := ht; exact hk
  obtain ⟨R, hR⟩ : ∃ R, R = (if trainB ps then backT ps else []) := ⟨_, rfl⟩
  have hRk : ∀ p ∈ R, TOk p := by rw [hR]; exact back_ok hTk
  have hRl : R.length ≤ 1048576 := by
    rw [hR]
    split
    · rw [back_len]; exact hlen
    · simp
  have HS : ∀ u w, Tr w u ps → Calls Try.prog 35 #[u] w fun e w' => ∃ u, e = .returned (.tuple #[u, .int .i64 (okT (trainB ps))]) ∧ w'.ownsRow w.heap.size 59 3 u R.length (cellsT R) ∧ Below w.heap.size w w' := fun u w hu => by rw [hR]; exact specBackTrain_any ps u w hu
  have HI : ∀ u w, Tr w u ps → Calls Try.prog 36 #[u] w fun e w' => ∃ u, e = .returned (.tuple #[u, .int .i64 (okT (trainB ps))]) ∧ w'.ownsRow w.heap.size 59 3 u R.length (cellsT R) ∧ Below w.heap.size w w' := fun u w hu => by rw [hR]; exact implBackTrain_any ps u w hu
  have HS := Lib.hid HS
  have HI := Lib.hid HI
  have HRk := Lib.hid hRk
  have HTk := Lib.hid hTk
  have HT : Hid (∀ w', Below w.heap.size w w' → Tr w' v ps) := Lib.hid (fun _ hb => ht.below hb)
  have hb := Below.refl w.heap.size w
  have HA := Lib.hid ht
  clear ht h hTk hR hRk
  go_enter Try.func11, Try.ntmps11
  go_wp2_with (go_at_call 15; refine (szTrain_any ps _ _ _ HA.out (by decide) (by decide)).mono ?_; rintro e w' ⟨rfl, rfl⟩)
  refine (toTrain_tr ps _ _ (HT.out _ hb) hlen).mono ?_
  rintro e w1 ⟨u1, rfl, hu1, hb1⟩
  have hb := below_then hb hb1
  go_wp2_with fail
  refine (HS.out _ _ hu1).mono ?_
  rintro e w2 ⟨uW, rfl, hW, hb2⟩
  have hb := below_then hb hb2
  have s2 := hb.size
  have lW := fun g hg => (hW.lt g hg).2
  go_wp2_with fail
  refine (toTrain_any ps _ _ (HT.out _ hb) hlen).mono ?_
  rintro e w3 ⟨gX, hgX, rfl, hX, hb3⟩
  have hb := below_then hb hb3
  have hW := own_after hW hb3
  have lX := (hX.lt gX rfl).2
  go_wp2_with fail
  refine (HI.out _ _ (tr_of_own hX HTk.out)).mono ?_
  rintro e w4 ⟨uG, rfl, hG, hb4⟩
  have hb := below_then hb hb4
  have hW := own_after hW hb4
  have hX := own_after hX hb4
  have lG := fun g hg => (hG.lt g hg).1
  go_wp2_with fail
  refine (eqTrain_any _ _ _ _ _ (tr_of_row hG HRk.out) (tr_of_row hW HRk.out) (SameT.refl _)).mono ?_
  rintro e w5 ⟨rfl, hb5⟩
  have hb := below_then hb hb5
  have hW := own_after hW hb5
  have hX := own_after hX hb5
  have hG := own_after hG hb5
  go_wp2_with fail
  refine (toTrain_tr ps _ _ (HT.out _ hb) hlen).mono ?_
  rintro e w6 ⟨u6, rfl, hu6, hb6⟩
  have hb := below_then hb hb6
  have hW := own_after hW hb6
  have hX := own_after hX hb6
  have hG := own_after hG hb6
  go_wp2_with fail
  refine (eqTrain_any ps ps _ _ _ (tr_of_own hX HTk.out) hu6 (SameT.refl _)).mono ?_
  rintro e w7 ⟨rfl, hb7⟩
  have hb := below_then hb hb7
  have hW := own_after hW hb7
  have hX := own_after hX hb7
  have hG := own_after hG hb7
  go_wp2_with fail
  refine (markTrain_any ps _ _ _ hX hlen).mono ?_
  rintro e w8 ⟨rfl, hX8, hO8⟩
  have hb := hO8.2.2 _ _ s2 hb
  have hG := own_only hG hO8 (fun g hg hc => by have := lG g hg; have hc : gX = g := (by simpa [Value.ownBlock] using hc); omega)
  have hW := own_only hW hO8 (fun g hg hc => by have := lW g hg; have hc : gX = g := (by simpa [Value.ownBlock] using hc); omega)
  go_wp2_with fail
  refine (eqTrain_any _ _ _ _ _ (tr_of_row hG HRk.out) (tr_of_row hW HRk.out) (SameT.refl _)).mono ?_
  rintro e w9 ⟨rfl, hb9⟩
  have hb := below_then hb hb9
  have hW := own_after hW hb9
  have hG := own_after hG hb9
  go_wp2_with fail
  refine (markTrain_any R _ _ _ hG hRl).mono ?_
  rintro e w10 ⟨rfl, hG10, hO10⟩
  have s3 := hb3.size
  have hb := hO10.2.2 _ _ (Nat.le_trans s2 s3) hb
  have hW := own_only hW hO10 (fun g hg hc => by have := lW g hg; have := lG g hc; omega)
  have hGl : ((List.range R.length).map markP).length = R.length := by simp
  have hG10 : w10.ownsRow w3.heap.size 59 3 uG ((List.range R.length).map markP).length (cellsT ((List.range R.length).map markP)) := by rw [hGl]; exact hG10
  go_wp2_with fail
  refine (heldTrain_any R.length _ _ (tr_of_row hG10 (mark_ok _)) hRl).mono ?_
  rintro e w11 ⟨rfl, rfl⟩
  go_wp2_with fail
  refine (toTrain_tr ps _ _ (HT.out _ hb) hlen).mono ?_
  rintro e w12 ⟨u12, rfl, hu12, hb12⟩
  have hb := below_then hb hb12
  have hW := own_after hW hb12
  have hG10 := own_after hG10 hb12
  go_wp2_with fail
  refine (HI.out _ _ hu12).mono ?_
  rintro e w13 ⟨uH, rfl, hH, hb13⟩
  have hb := below_then hb hb13
  have hW := own_after hW hb13
  have hG10 := own_after hG10 hb13
  go_wp2_with fail
  refine (eqTrain_any _ _ _ _ _ (tr_of_row hH HRk.out) (tr_of_row hW HRk.out) (SameT.refl _)).mono ?_
  rintro e w14 ⟨rfl, hb14⟩
  have hb := below_then hb hb14
  have hG10 := own_after hG10 hb14
  go_wp2_with fail
  refine (heldTrain_any R.length _ _ (tr_of_row hG10 (mark_ok _)) hRl).mono ?_
  rintro e w15 ⟨rfl, rfl⟩
  go_wp2
  all_goals (go_ret; exact ⟨rfl, hb⟩)

end Go.Proofs.Ytohkaodpdckfgaa.xBackTrain
