/- For every input the law FnExactLostPower returns true and leaves its arguments as they were; no condition. -/
import Derived.Test.YtkgfepakedieaaaBase
import Derived.Below
import Derived.Test.YtkgfepakedieaaaCtTc
import Derived.Test.YtkgfepakedieaaaMk2
namespace Go.Proofs.Ytkgfepakedieaaa.xLostPower
open Go.RowKit
set_option linter.unusedVariables false

set_option maxHeartbeats 4000000 in
theorem walk0 (v0 : Value) (n0 : Nat) (es0 : Nat → List Value) (p : Nat) (hp : p < 2 ^ 32) (q : Nat) (hq : q < 2 ^ 32) (w : World) (h0 : SliceIn (CellsOk [.i .i16, .i .i16, .f]) 3 w v0 n0 es0) :
    Calls Try.prog 4 #[v0, .float .f32 p, .float .f32 q] w fun e w' => e = .returned (.bool true) ∧ Below w.heap.size w w' := by
  obtain ⟨ps0, ht0, rfl⟩ := tr_of_in h0
  by_cases hl0 : (1048576 : Int) < (ps0.length : Int)
  · go_enter Try.func4, Try.ntmps4
    go_wp2_with fail
    refine (szTrain_any ps0 _ _ _ ht0 (by omega) (by omega)).mono ?_
    rintro e w' ⟨rfl, rfl⟩
    rw [if_pos (by omega)]
    go_wp2
    go_ret
    exact ⟨rfl, Below.refl _ _⟩
  have hlen0 : ps0.length ≤ 1048576 := by omega
  have hk0 := tr_ok ht0
  obtain ⟨R, hR⟩ : ∃ R, R = lostC ps0 p q := ⟨_, rfl⟩
  obtain ⟨K, hK⟩ : ∃ K, K = ask2K ps0 p q := ⟨_, rfl⟩
  have HS : ∀ u0 w, Tr w u0 ps0 → Calls Try.prog 17 #[u0, .float .f32 p, .float .f32 q] w (GivesN w K R) := fun u0 w hu0 => by rw [hK, hR]; exact specLostPower_any ps0 u0 p q hp hq w hu0
  have HS := Lib.hid HS
  have HI : ∀ u0 w, Tr w u0 ps0 → Calls Try.prog 18 #[u0, .float .f32 p, .float .f32 q] w (GivesN w K R) := fun u0 w hu0 => by rw [hK, hR]; exact implLostPower_any ps0 u0 p q hp hq w hu0
  have HI := Lib.hid HI
  have HK0 := Lib.hid hk0
  have HT0 : Hid (∀ w', Below w.heap.size w w' → Tr w' v0 ps0) := Lib.hid (fun _ hb => ht0.below hb)
  have HA0 := Lib.hid ht0
  have hb := Below.refl w.heap.size w
  clear ht0 h0 hk0 hR hK
  go_enter Try.func4, Try.ntmps4
  go_wp2_with fail
  refine (szTrain_any ps0 _ _ _ HA0.out (by omega) (by omega)).mono ?_
  rintro e w' ⟨rfl, rfl⟩
  rw [if_neg (by omega)]
  go_wp2_with fail
  skip
  refine (toTrain_tr ps0 _ _ (HT0.out _ hb) hlen0).mono ?_
  rintro e w1 ⟨u1, rfl, hu1, hb1⟩
  have hb := below_then hb hb1
  have s1 := hb1.size
  go_wp2_with fail
  skip
  refine (HS.out _ _ hu1).mono ?_
  rintro e w2 ⟨rW, rfl, hrW, hlW, hb2⟩
  have hb := below_then hb hb2
  have s2 := hb2.size
  have hrW := hrW
  go_wp2_with fail
  skip
  refine (toTrain_any ps0 _ _ (HT0.out _ hb) hlen0).mono ?_
  rintro e w3 ⟨gX0, hgX0, rfl, hX0, hb3⟩
  have hb := below_then hb hb3
  have s3 := hb3.size
  have lX0 := hX0.lt
  go_wp2_with fail
  skip
  refine (HI.out _ _ (tr_of_own hX0 HK0.out)).mono ?_
  rintro e w4 ⟨rG, rfl, hrG, hlG, hb4⟩
  have hb := below_then hb hb4
  have s4 := hb4.size
  have hX0 := own_after hX0 hb4
  have hrG := hrG
  have hse : sameB rG rW = true := teq_cn (hrG.trans hrW.symm)
  clear hrG hrW
  go_wp2_with (go_at_call 19; refine (sameFloat_any _ _ _ _ ?_ ?_ (img_c64 _ _) (img_c64 _ _) _).mono ?_; (iterate 2 (first | assumption | skip)); rintro e wz ⟨rfl, rfl⟩)
  skip
  refine (toTrain_tr ps0 _ _ (HT0.out _ (by (repeat' (first | (with_reducible exact Below.refl _ _) | (with_reducible assumption) | (with_reducible refine Below.alloc ?_ ?_ _) | (with_reducible refine below_drewN ?_ _) | (with_reducible refine Below.drew ?_) | (with_reducible refine Below.setCell ?_ ?_ _) | (with_reducible exact Nat.le_refl _) | omega | (simp only [World.size_alloc, World.size_setCell, World.size_drew, World.heap_drewN]; omega) | (simp; omega))))) hlen0).mono ?_
  rintro e w5 ⟨u5, rfl, hu5, hb5⟩
  have hb : Below w.heap.size w w5 := below_then (by (repeat' (first | (with_reducible exact Below.refl _ _) | (with_reducible assumption) | (with_reducible refine Below.alloc ?_ ?_ _) | (with_reducible refine below_drewN ?_ _) | (with_reducible refine Below.drew ?_) | (with_reducible refine Below.setCell ?_ ?_ _) | (with_reducible exact Nat.le_refl _) | omega | (simp only [World.size_alloc, World.size_setCell, World.size_drew, World.heap_drewN]; omega) | (simp; omega)))) hb5
  have s5 := hb5.size
  have hX0 := (by first | exact own_after hX0 hb5 | exact own_after (own_drewN hX0 _) hb5 | exact own_after (own_drewN (own_drewN hX0 _) _) hb5 : World.ownsRow w5 _ _ _ _ _ _)
  go_wp2_with fail
  skip
  refine (eqTrain_any ps0 ps0 _ _ _ (tr_of_own hX0 HK0.out) hu5 (SameT.refl _)).mono ?_
  rintro e w6 ⟨rfl, hb6⟩
  have hb := below_then hb hb6
  have s6 := hb6.size
  have hX0 := own_after hX0 hb6
  go_wp2
  all_goals (go_ret; exact ⟨rfl, hb⟩)
theorem walk {w : World} (v0 : Value) (n0 : Nat) (es0 : Nat → List Value) (h0 : SliceIn (CellsOk [.i .i16, .i .i16, .f]) 3 w v0 n0 es0) (p : Nat) (hp : p < 2 ^ 32) (q : Nat) (hq : q < 2 ^ 32) :
    Calls Try.prog 4 #[v0, .float .f32 p, .float .f32 q] w fun e w' => e = .returned (.bool true) ∧ Below w.heap.size w w' :=
  walk0 v0 n0 es0 p hp q hq w h0

end Go.Proofs.Ytkgfepakedieaaa.xLostPower
