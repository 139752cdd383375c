/- For every input the law FnExactSpeedsThrough returns true and leaves its arguments as they were; no condition. -/
import Derived.Test.YtljigmplmlhdnaaBase
import Derived.Below
import Derived.Test.YtljigmplmlhdnaaCtRd
import Derived.Test.YtljigmplmlhdnaaCtM
import Derived.Test.YtljigmplmlhdnaaMk2
namespace Go.Proofs.Ytljigmplmlhdnaa.xSpeedsThrough
open Go.RowKit
set_option linter.unusedVariables false

set_option maxHeartbeats 4000000 in
theorem walk0 (v0 : Value) (n0 : Nat) (es0 : Nat → List Value) (q : Nat) (hq : q < 2 ^ 32) (w : World) (h0 : SliceIn (CellsOk [.f, .f, .f, .f, .b]) 5 w v0 n0 es0) :
    Calls Try.prog 6 #[v0, .float .f32 q] w fun e w' => e = .returned (.bool true) ∧ Below w.heap.size w w' := by
  obtain ⟨ps0, ht0, rfl⟩ := bs_of_in h0
  by_cases hl0 : (1048576 : Int) < (ps0.length : Int)
  · go_enter Try.func6, Try.ntmps6
    go_wp2_with fail
    refine (szBeltS_any ps0 _ _ _ ht0 (by omega) (by omega)).mono ?_
    rintro e w' ⟨rfl, rfl⟩
    rw [if_pos (by omega)]
    go_wp2
    go_ret
    exact ⟨rfl, Below.refl _ _⟩
  have hlen0 : ps0.length ≤ 1048576 := by omega
  have hk0 := bs_ok ht0
  obtain ⟨R, hR⟩ : ∃ R, R = throughR ps0 q := ⟨_, rfl⟩
  obtain ⟨K, hK⟩ : ∃ K : Int, K = throughK ps0 q := ⟨_, rfl⟩
  have hRl : R.length ≤ 1048576 := by rw [hR]; exact throughR_len ps0 q
  have HS : ∀ u0 w, Bs w u0 ps0 → Calls Try.prog 22 #[u0, .float .f32 q] w (GivesF w K R) := fun u0 w hu0 => by rw [hK, hR]; exact specThrough_any ps0 u0 q hq w hu0
  have HS := Lib.hid HS
  have HI : ∀ u0 w, Bs w u0 ps0 → Calls Try.prog 23 #[u0, .float .f32 q] w (GivesF w K R) := fun u0 w hu0 => by rw [hK, hR]; exact implThrough_any ps0 u0 q hq w hu0
  have HI := Lib.hid HI
  have HK0 := Lib.hid hk0
  have HT0 : Hid (∀ w', Below w.heap.size w w' → Bs w' v0 ps0) := Lib.hid (fun _ hb => ht0.below hb)
  have HA0 := Lib.hid ht0
  have hb := Below.refl w.heap.size w
  clear ht0 h0 hk0 hR hK
  go_enter Try.func6, Try.ntmps6
  go_wp2_with fail
  refine (szBeltS_any ps0 _ _ _ HA0.out (by omega) (by omega)).mono ?_
  rintro e w' ⟨rfl, rfl⟩
  rw [if_neg (by omega)]
  go_wp2_with fail
  skip
  refine (toBelts_bs ps0 _ _ (HT0.out _ hb) hlen0).mono ?_
  rintro e w1 ⟨u1, rfl, hu1, hb1⟩
  have hb := below_then hb hb1
  have s1 := hb1.size
  go_wp2_with fail
  skip
  refine (HS.out _ _ hu1).mono ?_
  rintro e w2 ⟨uW, xsW, rfl, hW, qW, zW, hb2⟩
  have hb := below_then hb hb2
  have s2 := hb2.size
  have qW := Lib.hid qW
  have zW := Lib.hid zW
  have lW := hW.lt
  go_wp2_with fail
  skip
  refine (toBelts_any ps0 _ _ (HT0.out _ hb) hlen0).mono ?_
  rintro e w3 ⟨gX0, hgX0, rfl, hX0, hb3⟩
  have hb := below_then hb hb3
  have s3 := hb3.size
  have hW := own_after hW hb3
  have lX0 := hX0.lt
  go_wp2_with fail
  skip
  refine (HI.out _ _ (bs_of_own hX0 HK0.out)).mono ?_
  rintro e w4 ⟨uG, xsG, rfl, hG, qG, zG, hb4⟩
  have hb := below_then hb hb4
  have s4 := hb4.size
  have hW := own_after hW hb4
  have hX0 := own_after hX0 hb4
  have qG := Lib.hid qG
  have zG := Lib.hid zG
  have lG := hG.lt
  go_wp2_with fail
  skip
  refine (eqFloats_any _ _ _ _ _ (fs_of_own hG) (fs_of_own hW) (qG.out.trans qW.out.symm) zG.out zW.out).mono ?_
  rintro e w5 ⟨rfl, hb5⟩
  have hb := below_then hb hb5
  have s5 := hb5.size
  have hW := own_after hW hb5
  have hX0 := own_after hX0 hb5
  have hG := own_after hG hb5
  go_wp2_with fail
  skip
  refine (toBelts_bs ps0 _ _ (HT0.out _ hb) hlen0).mono ?_
  rintro e w6 ⟨u6, rfl, hu6, hb6⟩
  have hb := below_then hb hb6
  have s6 := hb6.size
  have hW := own_after hW hb6
  have hX0 := own_after hX0 hb6
  have hG := own_after hG hb6
  go_wp2_with fail
  skip
  refine (eqBelts_any ps0 ps0 _ _ _ (bs_of_own hX0 HK0.out) hu6 (SameBs.refl _)).mono ?_
  rintro e w7 ⟨rfl, hb7⟩
  have hb := below_then hb hb7
  have s7 := hb7.size
  have hW := own_after hW hb7
  have hX0 := own_after hX0 hb7
  have hG := own_after hG hb7
  go_wp2_with fail
  skip
  refine (markBelts_from ps0 _ _ _ _ hX0 hlen0 (by omega) (by omega)).mono ?_
  rintro e w8 ⟨rfl, hY0, hO8⟩
  have hb := hO8.2.2 _ _ (by omega) hb
  have s8 := hO8.1
  have hW := own_only hW hO8 (fun g hg hc => by have h1 := lX0 g hc; have h2 := lW g hg; omega)
  have hG := own_only hG hO8 (fun g hg hc => by have h1 := lX0 g hc; have h2 := lG g hg; omega)
  go_wp2_with fail
  skip
  refine (eqFloats_any _ _ _ _ _ (fs_of_own hG) (fs_of_own hW) (qG.out.trans qW.out.symm) zG.out zW.out).mono ?_
  rintro e w9 ⟨rfl, hb9⟩
  have hb := below_then hb hb9
  have s9 := hb9.size
  have hW := own_after hW hb9
  have hG := own_after hG hb9
  have hGn : xsG.length ≤ 1048576 := by have := qG.out.1; omega
  go_wp2_with fail
  skip
  refine (markFloats_any xsG _ _ _ hG hGn).mono ?_
  rintro e w10 ⟨rfl, hM, hO10⟩
  have hb := hO10.2.2 _ _ (by omega) hb
  have s10 := hO10.1
  have hW := own_only hW hO10 (fun g hg hc => by have h1 := lG g hc; have h2 := lW g hg; omega)
  have hM := markF_len hM
  go_wp2_with fail
  skip
  refine (heldFloats_any xsG.length _ _ (fs_of_own hM) hGn).mono ?_
  rintro e w11 ⟨rfl, rfl⟩
  go_wp2_with fail
  skip
  refine (toBelts_bs ps0 _ _ (HT0.out _ hb) hlen0).mono ?_
  rintro e w12 ⟨u12, rfl, hu12, hb12⟩
  have hb := below_then hb hb12
  have s12 := hb12.size
  have hW := own_after hW hb12
  have hM := own_after hM hb12
  go_wp2_with fail
  skip
  refine (HI.out _ _ hu12).mono ?_
  rintro e w13 ⟨uH, xsH, rfl, hH, qH, zH, hb13⟩
  have hb := below_then hb hb13
  have s13 := hb13.size
  have hW := own_after hW hb13
  have hM := own_after hM hb13
  have qH := Lib.hid qH
  have zH := Lib.hid zH
  go_wp2_with fail
  skip
  refine (eqFloats_any _ _ _ _ _ (fs_of_own hH) (fs_of_own hW) (qH.out.trans qW.out.symm) zH.out zW.out).mono ?_
  rintro e w14 ⟨rfl, hb14⟩
  have hb := below_then hb hb14
  have s14 := hb14.size
  have hW := own_after hW hb14
  have hM := own_after hM hb14
  have hH := own_after hH hb14
  go_wp2_with fail
  skip
  refine (heldFloats_any xsG.length _ _ (fs_of_own hM) hGn).mono ?_
  rintro e w15 ⟨rfl, rfl⟩
  go_wp2
  all_goals (go_ret; exact ⟨rfl, hb⟩)
theorem walk {w : World} (v0 : Value) (n0 : Nat) (es0 : Nat → List Value) (h0 : SliceIn (CellsOk [.f, .f, .f, .f, .b]) 5 w v0 n0 es0) (q : Nat) (hq : q < 2 ^ 32) :
    Calls Try.prog 6 #[v0, .float .f32 q] w fun e w' => e = .returned (.bool true) ∧ Below w.heap.size w w' :=
  walk0 v0 n0 es0 q hq w h0

end Go.Proofs.Ytljigmplmlhdnaa.xSpeedsThrough
