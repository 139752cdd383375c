/- For every input the law FnExactConeFor returns true and leaves its arguments as they were; no condition. -/
import Derived.Test.YtljigmplmlhdnaaBase
import Derived.Below
import Derived.Test.YtljigmplmlhdnaaCtRc
import Derived.Test.YtljigmplmlhdnaaCtM
import Derived.Test.YtljigmplmlhdnaaMkF
import Derived.Test.YtljigmplmlhdnaaMk2
namespace Go.Proofs.Ytljigmplmlhdnaa.xConeFor
open Go.RowKit
set_option linter.unusedVariables false

set_option maxHeartbeats 4000000 in
theorem walk0 (a : Nat) (ha : a < 2 ^ 32) (b : Nat) (hb : b < 2 ^ 32) (c : Nat) (hc : c < 2 ^ 32) (d : Nat) (hd : d < 2 ^ 32) (x : Bool) (v1 : Value) (n1 : Nat) (es1 : Nat → List Value) (w : World) (h1 : SliceIn (CellsOk [.f]) 1 w v1 n1 es1) :
    Calls Try.prog 9 #[.agg #[.float .f32 a, .float .f32 b, .float .f32 c, .float .f32 d, .bool x], v1] w fun e w' => e = .returned (.bool true) ∧ Below w.heap.size w w' := by
  obtain ⟨ps1, ht1, hk1, rfl⟩ := fs_of_in h1
  by_cases hl1 : (1048576 : Int) < (ps1.length : Int)
  · have hm1 : ps1.length ≤ 9223372036854775807 := fs_len ht1
    obtain ⟨x1, x2, rfl, _⟩ := ht1
    go_enter Try.func9, Try.ntmps9
    go_wp2
    go_ret
    exact ⟨rfl, by (repeat' (first | (with_reducible exact Below.refl _ _) | (with_reducible assumption) | (with_reducible refine Below.alloc ?_ ?_ _) | (with_reducible refine below_drewN ?_ _) | (with_reducible refine Below.drew ?_) | (with_reducible refine Below.setCell ?_ ?_ _) | (with_reducible exact Nat.le_refl _) | omega | (simp only [World.size_alloc, World.size_setCell, World.size_drew, World.heap_drewN]; omega) | (simp; omega)))⟩
  have hlen1 : ps1.length ≤ 1048576 := by omega
  obtain ⟨R, hR⟩ : ∃ R, R = coneR a b c d x ps1 := ⟨_, rfl⟩
  obtain ⟨K, hK⟩ : ∃ K : Int, K = coneK a b c d x ps1 := ⟨_, rfl⟩
  have hRl : R.length ≤ 1048576 := by rw [hR]; exact coneR_len a b c d x ps1
  have HS : ∀ u1 w, Fs w u1 ps1 → Calls Try.prog 32 #[.agg #[.float .f32 a, .float .f32 b, .float .f32 c, .float .f32 d, .bool x], u1] w (GivesF w K R) := fun u1 w hu1 => by rw [hK, hR]; exact specCone_any a b c d x ps1 u1 w ha hb hc hd hu1
  have HS := Lib.hid HS
  have HI : ∀ u1 w, Fs w u1 ps1 → Calls Try.prog 34 #[.agg #[.float .f32 a, .float .f32 b, .float .f32 c, .float .f32 d, .bool x], u1] w (GivesF w K R) := fun u1 w hu1 => by rw [hK, hR]; exact implCone_any a b c d x ps1 u1 w ha hb hc hd hu1
  have HI := Lib.hid HI
  have HK1 := Lib.hid hk1
  have HT1 : Hid (∀ w', Below w.heap.size w w' → Fs w' v1 ps1) := Lib.hid (fun _ hb => ht1.below hb)
  have HA1 := Lib.hid ht1
  obtain ⟨W, hW, hWs, hbW, HBX⟩ := boxed_belt w 29 a b c d x
  have HBX := Lib.hid HBX
  have HWW := Lib.hid hW
  clear hW
  have HT1 : Hid (∀ w', Below W.heap.size W w' → Fs w' v1 ps1) := Lib.hid (fun _ hb => HT1.out _ (hbW.trans (hb.mono (Nat.le_of_lt hWs))))
  have hb := Below.refl W.heap.size W
  clear ht1 h1 hk1 hR hK
  obtain ⟨x1, y1, rfl, _⟩ := HA1.out
  go_enter Try.func9, Try.ntmps9
  go_wp2_with fail
  rw [HWW.out]
  refine (toBelt_any _ _ _ _ _ _).mono ?_
  rintro e w1 ⟨rfl, hb1⟩
  have hb := below_then hb hb1
  have s1 := hb1.size
  go_wp2_with fail
  skip
  refine (toFloats_fs ps1 _ _ (HT1.out _ hb) hlen1).mono ?_
  rintro e w2 ⟨u2, rfl, hu2, hb2⟩
  have hb := below_then hb hb2
  have s2 := hb2.size
  go_wp2_with fail
  skip
  refine (HS.out _ _ hu2).mono ?_
  rintro e w3 ⟨uW, xsW, rfl, hW, qW, zW, hb3⟩
  have hb := below_then hb hb3
  have s3 := hb3.size
  have qW := Lib.hid qW
  have zW := Lib.hid zW
  have lW := hW.lt
  go_wp2_with fail
  skip
  refine (toFloats_any ps1 _ _ (HT1.out _ hb) hlen1).mono ?_
  rintro e w4 ⟨gX1, hgX1, rfl, hX1, hb4⟩
  have hb := below_then hb hb4
  have s4 := hb4.size
  have hW := own_after hW hb4
  have lX1 := hX1.lt
  obtain ⟨z0, z1, z2, z3, z4⟩ := HBX.out _ hb
  go_wp2_with fail
  skip
  refine (toBelt_any _ _ _ _ _ _).mono ?_
  rintro e w5 ⟨rfl, hb5⟩
  clear z0 z1 z2 z3 z4
  have hb := below_then hb hb5
  have s5 := hb5.size
  have hW := own_after hW hb5
  have hX1 := own_after hX1 hb5
  go_wp2_with fail
  skip
  refine (HI.out _ _ (fs_of_own2 hX1 HK1.out)).mono ?_
  rintro e w6 ⟨uG, xsG, rfl, hG, qG, zG, hb6⟩
  have hb := below_then hb hb6
  have s6 := hb6.size
  have hW := own_after hW hb6
  have hX1 := own_after hX1 hb6
  have qG := Lib.hid qG
  have zG := Lib.hid zG
  have lG := hG.lt
  go_wp2_with fail
  skip
  refine (eqFloats_any _ _ _ _ _ (fs_of_own hG) (fs_of_own hW) (qG.out.trans qW.out.symm) zG.out zW.out).mono ?_
  rintro e w7 ⟨rfl, hb7⟩
  have hb := below_then hb hb7
  have s7 := hb7.size
  have hW := own_after hW hb7
  have hX1 := own_after hX1 hb7
  have hG := own_after hG hb7
  go_wp2_with fail
  skip
  refine (toFloats_fs ps1 _ _ (HT1.out _ hb) hlen1).mono ?_
  rintro e w8 ⟨u8, rfl, hu8, hb8⟩
  have hb := below_then hb hb8
  have s8 := hb8.size
  have hW := own_after hW hb8
  have hX1 := own_after hX1 hb8
  have hG := own_after hG hb8
  go_wp2_with fail
  skip
  refine (eqFloats_any ps1 ps1 _ _ _ (fs_of_own2 hX1 HK1.out) hu8 (SameF.refl _) HK1.out HK1.out).mono ?_
  rintro e w9 ⟨rfl, hb9⟩
  have hb := below_then hb hb9
  have s9 := hb9.size
  have hW := own_after hW hb9
  have hX1 := own_after hX1 hb9
  have hG := own_after hG hb9
  go_wp2_with fail
  skip
  refine (markFloats_from ps1 _ _ _ _ hX1 hlen1 (by omega) (by omega)).mono ?_
  rintro e w10 ⟨rfl, hY1, hO10⟩
  have hb := hO10.2.2 _ _ (by omega) hb
  have s10 := hO10.1
  have hW := own_only hW hO10 (fun g hg hc => by have h1 := lX1 g hc; have h2 := lW g hg; omega)
  have hG := own_only hG hO10 (fun g hg hc => by have h1 := lX1 g hc; have h2 := lG g hg; omega)
  go_wp2_with fail
  skip
  refine (eqFloats_any _ _ _ _ _ (fs_of_own hG) (fs_of_own hW) (qG.out.trans qW.out.symm) zG.out zW.out).mono ?_
  rintro e w11 ⟨rfl, hb11⟩
  have hb := below_then hb hb11
  have s11 := hb11.size
  have hW := own_after hW hb11
  have hG := own_after hG hb11
  have hGn : xsG.length ≤ 1048576 := by have := qG.out.1; omega
  go_wp2_with fail
  skip
  refine (markFloats_any xsG _ _ _ hG hGn).mono ?_
  rintro e w12 ⟨rfl, hM, hO12⟩
  have hb := hO12.2.2 _ _ (by omega) hb
  have s12 := hO12.1
  have hW := own_only hW hO12 (fun g hg hc => by have h1 := lG g hc; have h2 := lW g hg; omega)
  have hM := markF_len hM
  go_wp2_with fail
  skip
  refine (heldFloats_any xsG.length _ _ (fs_of_own hM) hGn).mono ?_
  rintro e w13 ⟨rfl, rfl⟩
  obtain ⟨z0, z1, z2, z3, z4⟩ := HBX.out _ hb
  go_wp2_with fail
  skip
  refine (toBelt_any _ _ _ _ _ _).mono ?_
  rintro e w14 ⟨rfl, hb14⟩
  clear z0 z1 z2 z3 z4
  have hb := below_then hb hb14
  have s14 := hb14.size
  have hW := own_after hW hb14
  have hM := own_after hM hb14
  go_wp2_with fail
  skip
  refine (toFloats_fs ps1 _ _ (HT1.out _ hb) hlen1).mono ?_
  rintro e w15 ⟨u15, rfl, hu15, hb15⟩
  have hb := below_then hb hb15
  have s15 := hb15.size
  have hW := own_after hW hb15
  have hM := own_after hM hb15
  go_wp2_with fail
  skip
  refine (HI.out _ _ hu15).mono ?_
  rintro e w16 ⟨uH, xsH, rfl, hH, qH, zH, hb16⟩
  have hb := below_then hb hb16
  have s16 := hb16.size
  have hW := own_after hW hb16
  have hM := own_after hM hb16
  have qH := Lib.hid qH
  have zH := Lib.hid zH
  go_wp2_with fail
  skip
  refine (eqFloats_any _ _ _ _ _ (fs_of_own hH) (fs_of_own hW) (qH.out.trans qW.out.symm) zH.out zW.out).mono ?_
  rintro e w17 ⟨rfl, hb17⟩
  have hb := below_then hb hb17
  have s17 := hb17.size
  have hW := own_after hW hb17
  have hM := own_after hM hb17
  have hH := own_after hH hb17
  go_wp2_with fail
  skip
  refine (heldFloats_any xsG.length _ _ (fs_of_own hM) hGn).mono ?_
  rintro e w18 ⟨rfl, rfl⟩
  go_wp2
  all_goals (go_ret; exact ⟨rfl, hbW.trans (hb.mono (Nat.le_of_lt hWs))⟩)
theorem walk {w : World} (a : Nat) (ha : a < 2 ^ 32) (b : Nat) (hb : b < 2 ^ 32) (c : Nat) (hc : c < 2 ^ 32) (d : Nat) (hd : d < 2 ^ 32) (x : Bool) (v1 : Value) (n1 : Nat) (es1 : Nat → List Value) (h1 : SliceIn (CellsOk [.f]) 1 w v1 n1 es1) :
    Calls Try.prog 9 #[.agg #[.float .f32 a, .float .f32 b, .float .f32 c, .float .f32 d, .bool x], v1] w fun e w' => e = .returned (.bool true) ∧ Below w.heap.size w w' :=
  walk0 a ha b hb c hc d hd x v1 n1 es1 w h1

end Go.Proofs.Ytljigmplmlhdnaa.xConeFor
