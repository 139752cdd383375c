/- For every input the law FnExactJoinTrains returns true and leaves its arguments as they were; no condition. -/
import Derived.Test.YtohkaodpdckfgaaBase
import Derived.Below
import Derived.Test.YtohkaodpdckfgaaCtZg
import Derived.Test.YtohkaodpdckfgaaMk2
namespace Go.Proofs.Ytohkaodpdckfgaa.xJoinTrains
open Go.RowKit
set_option linter.unusedVariables false

set_option maxHeartbeats 4000000 in
theorem walk0 (v0 : Value) (n0 : Nat) (es0 : Nat → List Value) (v1 : Value) (n1 : Nat) (es1 : Nat → List Value) (w : World) (h0 : SliceIn (CellsOk [.i .i16, .i .i16, .f]) 3 w v0 n0 es0) (h1 : SliceIn (CellsOk [.i .i16, .i .i16, .f]) 3 w v1 n1 es1) :
    Calls Try.prog 14 #[v0, v1] w fun e w' => e = .returned (.bool true) ∧ Below w.heap.size w w' := by
  obtain ⟨ps0, ht0, rfl⟩ := tr_of_in h0
  obtain ⟨ps1, ht1, rfl⟩ := tr_of_in h1
  by_cases hl0 : (1048576 : Int) < (ps0.length : Int)
  · go_enter Try.func14, Try.ntmps14
    go_wp2_with fail
    refine (szTrain_any ps0 _ _ _ ht0 (by omega) (by omega)).mono ?_
    rintro e w' ⟨rfl, rfl⟩
    rw [if_pos (by omega)]
    go_wp2
    go_ret
    exact ⟨rfl, Below.refl _ _⟩
  by_cases hl1 : (1048576 : Int) - (ps0.length : Int) < (ps1.length : Int)
  · go_enter Try.func14, Try.ntmps14
    go_wp2_with fail
    refine (szTrain_any ps0 _ _ _ ht0 (by omega) (by omega)).mono ?_
    rintro e w' ⟨rfl, rfl⟩
    rw [if_neg (by omega)]
    go_wp2_with fail
    refine (szTrain_any ps1 _ _ _ ht1 (by omega) (by omega)).mono ?_
    rintro e w' ⟨rfl, rfl⟩
    rw [if_pos (by omega)]
    go_wp2
    go_ret
    exact ⟨rfl, Below.refl _ _⟩
  have hlen0 : ps0.length ≤ 1048576 := by omega
  have hlen1 : ps1.length ≤ 1048576 := by omega
  have hk0 := tr_ok ht0
  have hk1 := tr_ok ht1
  obtain ⟨R, hR⟩ : ∃ R, R = joinR ps0 ps1 := ⟨_, rfl⟩
  obtain ⟨K, hK⟩ : ∃ K : Int, K = joinK ps0 ps1 := ⟨_, rfl⟩
  have hRl : R.length ≤ 1048576 := by rw [hR]; exact joinR_len ps0 ps1
  have HRk := Lib.hid (show ∀ p ∈ R, TOk p by rw [hR]; exact joinR_ok hk0 hk1)
  have HS : ∀ u0 u1 w, Tr w u0 ps0 → Tr w u1 ps1 → Calls Try.prog 46 #[u0, u1] w (GivesT w K R) := fun u0 u1 w hu0 hu1 => by rw [hK, hR]; exact specJoin_any ps0 ps1 u0 u1 w hu0 hu1
  have HS := Lib.hid HS
  have HI : ∀ u0 u1 w, Tr w u0 ps0 → Tr w u1 ps1 → Calls Try.prog 47 #[u0, u1] w (GivesT w K R) := fun u0 u1 w hu0 hu1 => by rw [hK, hR]; exact implJoin_any ps0 ps1 u0 u1 w hu0 hu1
  have HI := Lib.hid HI
  have HK0 := Lib.hid hk0
  have HT0 : Hid (∀ w', Below w.heap.size w w' → Tr w' v0 ps0) := Lib.hid (fun _ hb => ht0.below hb)
  have HA0 := Lib.hid ht0
  have HK1 := Lib.hid hk1
  have HT1 : Hid (∀ w', Below w.heap.size w w' → Tr w' v1 ps1) := Lib.hid (fun _ hb => ht1.below hb)
  have HA1 := Lib.hid ht1
  have hb := Below.refl w.heap.size w
  clear ht0 h0 hk0 ht1 h1 hk1 hR hK
  go_enter Try.func14, Try.ntmps14
  go_wp2_with fail
  refine (szTrain_any ps0 _ _ _ HA0.out (by omega) (by omega)).mono ?_
  rintro e w' ⟨rfl, rfl⟩
  rw [if_neg (by omega)]
  go_wp2_with fail
  refine (szTrain_any ps1 _ _ _ HA1.out (by omega) (by omega)).mono ?_
  rintro e w' ⟨rfl, rfl⟩
  rw [if_neg (by omega)]
  go_wp2_with fail
  skip
  refine (toTrain_tr ps0 _ _ (HT0.out _ hb) hlen0).mono ?_
  rintro e w1 ⟨u1, rfl, hu1, hb1⟩
  have hb := below_then hb hb1
  have s1 := hb1.size
  go_wp2_with fail
  skip
  refine (toTrain_tr ps1 _ _ (HT1.out _ hb) hlen1).mono ?_
  rintro e w2 ⟨u2, rfl, hu2, hb2⟩
  have hb := below_then hb hb2
  have s2 := hb2.size
  have hu1 := hu1.below hb2
  go_wp2_with fail
  skip
  refine (HS.out _ _ _ hu1 hu2).mono ?_
  rintro e w3 ⟨uW, rfl, hW, hb3⟩
  have hb := below_then hb hb3
  have s3 := hb3.size
  have lW := hW.lt
  go_wp2_with fail
  skip
  refine (toTrain_any ps0 _ _ (HT0.out _ hb) hlen0).mono ?_
  rintro e w4 ⟨gX0, hgX0, rfl, hX0, hb4⟩
  have hb := below_then hb hb4
  have s4 := hb4.size
  have hW := own_after hW hb4
  have lX0 := hX0.lt
  go_wp2_with fail
  skip
  refine (toTrain_any ps1 _ _ (HT1.out _ hb) hlen1).mono ?_
  rintro e w5 ⟨gX1, hgX1, rfl, hX1, hb5⟩
  have hb := below_then hb hb5
  have s5 := hb5.size
  have hW := own_after hW hb5
  have hX0 := own_after hX0 hb5
  have lX1 := hX1.lt
  go_wp2_with fail
  skip
  refine (HI.out _ _ _ (tr_of_own hX0 HK0.out) (tr_of_own hX1 HK1.out)).mono ?_
  rintro e w6 ⟨uG, rfl, hG, hb6⟩
  have hb := below_then hb hb6
  have s6 := hb6.size
  have hW := own_after hW hb6
  have hX0 := own_after hX0 hb6
  have hX1 := own_after hX1 hb6
  have lG := hG.lt
  go_wp2_with fail
  skip
  refine (eqTrain_any _ _ _ _ _ (tr_of_row hG HRk.out) (tr_of_row hW HRk.out) (SameT.refl _)).mono ?_
  rintro e w7 ⟨rfl, hb7⟩
  have hb := below_then hb hb7
  have s7 := hb7.size
  have hW := own_after hW hb7
  have hX0 := own_after hX0 hb7
  have hX1 := own_after hX1 hb7
  have hG := own_after hG hb7
  go_wp2_with fail
  skip
  refine (toTrain_tr ps0 _ _ (HT0.out _ hb) hlen0).mono ?_
  rintro e w8 ⟨u8, rfl, hu8, hb8⟩
  have hb := below_then hb hb8
  have s8 := hb8.size
  have hW := own_after hW hb8
  have hX0 := own_after hX0 hb8
  have hX1 := own_after hX1 hb8
  have hG := own_after hG hb8
  go_wp2_with fail
  skip
  refine (eqTrain_any ps0 ps0 _ _ _ (tr_of_own hX0 HK0.out) hu8 (SameT.refl _)).mono ?_
  rintro e w9 ⟨rfl, hb9⟩
  have hb := below_then hb hb9
  have s9 := hb9.size
  have hW := own_after hW hb9
  have hX0 := own_after hX0 hb9
  have hX1 := own_after hX1 hb9
  have hG := own_after hG hb9
  go_wp2_with fail
  skip
  refine (toTrain_tr ps1 _ _ (HT1.out _ hb) hlen1).mono ?_
  rintro e w10 ⟨u10, rfl, hu10, hb10⟩
  have hb := below_then hb hb10
  have s10 := hb10.size
  have hW := own_after hW hb10
  have hX0 := own_after hX0 hb10
  have hX1 := own_after hX1 hb10
  have hG := own_after hG hb10
  go_wp2_with fail
  skip
  refine (eqTrain_any ps1 ps1 _ _ _ (tr_of_own hX1 HK1.out) hu10 (SameT.refl _)).mono ?_
  rintro e w11 ⟨rfl, hb11⟩
  have hb := below_then hb hb11
  have s11 := hb11.size
  have hW := own_after hW hb11
  have hX0 := own_after hX0 hb11
  have hX1 := own_after hX1 hb11
  have hG := own_after hG hb11
  go_wp2_with fail
  skip
  refine (markTrain_from ps0 _ _ _ _ hX0 hlen0 (by omega) (by omega)).mono ?_
  rintro e w12 ⟨rfl, hY0, hO12⟩
  have hb := hO12.2.2 _ _ (by omega) hb
  have s12 := hO12.1
  have hW := own_only hW hO12 (fun g hg hc => by have h1 := lX0 g hc; have h2 := lW g hg; omega)
  have hX1 := own_only hX1 hO12 (fun g hg hc => by have h1 := lX0 g hc; have h2 := lX1 g hg; omega)
  have hG := own_only hG hO12 (fun g hg hc => by have h1 := lX0 g hc; have h2 := lG g hg; omega)
  go_wp2_with fail
  skip
  refine (markTrain_from ps1 _ _ _ _ hX1 hlen1 (by omega) (by omega)).mono ?_
  rintro e w13 ⟨rfl, hY1, hO13⟩
  have hb := hO13.2.2 _ _ (by omega) hb
  have s13 := hO13.1
  have hW := own_only hW hO13 (fun g hg hc => by have h1 := lX1 g hc; have h2 := lW g hg; omega)
  have hG := own_only hG hO13 (fun g hg hc => by have h1 := lX1 g hc; have h2 := lG g hg; omega)
  go_wp2_with fail
  skip
  refine (eqTrain_any _ _ _ _ _ (tr_of_row hG HRk.out) (tr_of_row hW HRk.out) (SameT.refl _)).mono ?_
  rintro e w14 ⟨rfl, hb14⟩
  have hb := below_then hb hb14
  have s14 := hb14.size
  have hW := own_after hW hb14
  have hG := own_after hG hb14
  go_wp2_with fail
  skip
  refine (markTrain_any R _ _ _ hG hRl).mono ?_
  rintro e w15 ⟨rfl, hM, hO15⟩
  have hb := hO15.2.2 _ _ (by omega) hb
  have s15 := hO15.1
  have hW := own_only hW hO15 (fun g hg hc => by have h1 := lG g hc; have h2 := lW g hg; omega)
  have hM := mark_len hM
  go_wp2_with fail
  skip
  refine (heldTrain_any R.length _ _ (tr_of_row hM (mark_ok _)) hRl).mono ?_
  rintro e w16 ⟨rfl, rfl⟩
  go_wp2_with fail
  skip
  refine (toTrain_tr ps0 _ _ (HT0.out _ hb) hlen0).mono ?_
  rintro e w17 ⟨u17, rfl, hu17, hb17⟩
  have hb := below_then hb hb17
  have s17 := hb17.size
  have hW := own_after hW hb17
  have hM := own_after hM hb17
  go_wp2_with fail
  skip
  refine (toTrain_tr ps1 _ _ (HT1.out _ hb) hlen1).mono ?_
  rintro e w18 ⟨u18, rfl, hu18, hb18⟩
  have hb := below_then hb hb18
  have s18 := hb18.size
  have hW := own_after hW hb18
  have hM := own_after hM hb18
  have hu17 := hu17.below hb18
  go_wp2_with fail
  skip
  refine (HI.out _ _ _ hu17 hu18).mono ?_
  rintro e w19 ⟨uH, rfl, hH, hb19⟩
  have hb := below_then hb hb19
  have s19 := hb19.size
  have hW := own_after hW hb19
  have hM := own_after hM hb19
  go_wp2_with fail
  skip
  refine (eqTrain_any _ _ _ _ _ (tr_of_row hH HRk.out) (tr_of_row hW HRk.out) (SameT.refl _)).mono ?_
  rintro e w20 ⟨rfl, hb20⟩
  have hb := below_then hb hb20
  have s20 := hb20.size
  have hW := own_after hW hb20
  have hM := own_after hM hb20
  have hH := own_after hH hb20
  go_wp2_with fail
  skip
  refine (heldTrain_any R.length _ _ (tr_of_row hM (mark_ok _)) hRl).mono ?_
  rintro e w21 ⟨rfl, rfl⟩
  go_wp2
  all_goals (go_ret; exact ⟨rfl, hb⟩)
theorem walk {w : World} (v0 : Value) (n0 : Nat) (es0 : Nat → List Value) (h0 : SliceIn (CellsOk [.i .i16, .i .i16, .f]) 3 w v0 n0 es0) (v1 : Value) (n1 : Nat) (es1 : Nat → List Value) (h1 : SliceIn (CellsOk [.i .i16, .i .i16, .f]) 3 w v1 n1 es1) :
    Calls Try.prog 14 #[v0, v1] w fun e w' => e = .returned (.bool true) ∧ Below w.heap.size w w' :=
  walk0 v0 n0 es0 v1 n1 es1 w h0 h1

end Go.Proofs.Ytohkaodpdckfgaa.xJoinTrains
