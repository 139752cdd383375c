/- Contracts: what the reference model draws: a wheel, a part, a number of a few quarters, a train. -/
import Derived.Test.YtkgfepakedieaaaCtSc
import Derived.Test.YtkgfepakedieaaaFlw
import Derived.Test.YtkgfepakedieaaaCtU
import Derived.Test.YtkgfepakedieaaaCtX
import Derived.Deep.RegionLaw
import Derived.Deep.AppendLies
namespace Go.Proofs.Ytkgfepakedieaaa
open Go.RowKit

def wheels : List Int := [6, 8, 10, 12, 15, 16, 20, 24, 25, 30, 37, 48, 60, 96, 127, 200]
theorem wheels_in : ∀ x ∈ wheels, 6 ≤ x ∧ x ≤ 200 := by decide
theorem wheels_cells (w : World) (t : TypeId) : ∀ (i : Nat) (x : Int), wheels[i]? = some x → (w.alloc (.cells #[.int .i64 6, .int .i64 8, .int .i64 10, .int .i64 12, .int .i64 15, .int .i64 16, .int .i64 20, .int .i64 24, .int .i64 25, .int .i64 30, .int .i64 37, .int .i64 48, .int .i64 60, .int .i64 96, .int .i64 127, .int .i64 200] t)).cell? ⟨w.heap.size, i, none⟩ = some (.int .i64 x) := by
  intro i x h
  rw [World.cell?_alloc_at (hn := rfl)]
  have hi : i < 16 := (List.getElem?_eq_some_iff.1 h).1
  have : ∀ i : Fin 16, ∀ x : Int, wheels[i.1]? = some x → (#[.int .i64 6, .int .i64 8, .int .i64 10, .int .i64 12, .int .i64 15, .int .i64 16, .int .i64 20, .int .i64 24, .int .i64 25, .int .i64 30, .int .i64 37, .int .i64 48, .int .i64 60, .int .i64 96, .int .i64 127, .int .i64 200] : Array Value)[i.1]? = some (.int .i64 x) := by
    intro i x h
    have e : (#[.int .i64 6, .int .i64 8, .int .i64 10, .int .i64 12, .int .i64 15, .int .i64 16, .int .i64 20, .int .i64 24, .int .i64 25, .int .i64 30, .int .i64 37, .int .i64 48, .int .i64 60, .int .i64 96, .int .i64 127, .int .i64 200] : Array Value) = (wheels.map fun z => Value.int .i64 z).toArray := rfl
    rw [e, List.getElem?_toArray, List.getElem?_map, h]
    rfl
  exact this ⟨i, hi⟩ x h

set_option maxHeartbeats 1000000 in
theorem wheel_any (g k : Nat) (w : World) (h : Src w g k) (hk : k ≤ 50000) :
    Calls Try.prog 71 #[.pointer (some ⟨g, 0, none⟩)] w (Draws w g (k + 2) fun u => ∃ x : Int, u = .int .i16 x ∧ 6 ≤ x ∧ x ≤ 200) := by
  have hg := h.lt
  have H := Lib.hid h
  clear h
  go_enter Try.func71, Try.ntmps71
  go_wp2_with fail
  refine (among_any g k w.heap.size 16 _ wheels rfl (by omega) (by omega) _ (H.out.after ((Below.refl _ _).alloc (Nat.le_refl _) _)) hk (by omega) (wheels_cells w _)).mono ?_
  rintro e w1 ⟨u, rfl, ⟨x, rfl, hx⟩, hs1, hm1⟩
  obtain ⟨x0, x1⟩ := wheels_in x hx
  have hwr : IntKind.i16.wrap x = x := by
    simp [IntKind.wrap, IntKind.bits, IntKind.signed]
    omega
  go_wp2
  all_goals go_ret
  all_goals exact ⟨_, rfl, ⟨_, rfl, x0, x1⟩, hs1, (Moved.of_below hg ((Below.refl _ _).alloc (Nat.le_refl _) _)).trans hm1⟩

def fewC (x : Int) : Nat := cop .quo (floatOfInt .f32 (x - 32)) 1082130432
set_option maxHeartbeats 1000000 in
theorem few_any (g k : Nat) (w : World) (h : Src w g k) (hk : k ≤ 50000) :
    Calls Try.prog 50 #[.pointer (some ⟨g, 0, none⟩)] w (Draws w g (k + 2) fun u => ∃ (r : Nat) (x : Int), u = .float .f32 r ∧ cn r = fewC x ∧ r < 2 ^ 32 ∧ 0 ≤ x ∧ x < 65) := by
  have H := Lib.hid h
  clear h
  go_enter Try.func50, Try.ntmps50
  go_wp2_with (go_at_call 70; refine (pick_any g k 65 _ H.out hk (by omega) (by omega)).mono ?_; rintro e w1 ⟨u, rfl, ⟨x, rfl, x0, x1⟩, hs1, hm1⟩)
  all_goals go_ret
  all_goals exact ⟨_, rfl, ⟨_, x, rfl, by simp [fewC], Loose.op_lt' _, x0, x1⟩, hs1.after (below_drewN (Below.refl _ _) _), hm1.drewN _⟩

set_option maxHeartbeats 2000000 in
theorem tone_any (g k : Nat) (w : World) (h : Src w g k) (hk : k ≤ 40000) :
    Calls Try.prog 72 #[.pointer (some ⟨g, 0, none⟩)] w (Draws w g (k + 4) fun u => ∃ r : Nat, u = .float .f32 r ∧ F r ∧ partB r = true) := by
  have H := Lib.hid h
  clear h
  go_enter Try.func72, Try.ntmps72
  go_wp2_with fail
  refine (pick_any g k 4 _ H.out (by omega) (by omega) (by omega)).mono ?_
  rintro e w1 ⟨u, rfl, ⟨x, rfl, x0, x1⟩, hs1, hm1⟩
  by_cases hx0 : x = 0
  · subst hx0
    go_wp2_with (go_at_call 70; refine (pick_any g (k + 2) 17 _ hs1 (by omega) (by omega) (by omega)).mono ?_; rintro e w2 ⟨u, rfl, ⟨y, rfl, y0, y1⟩, hs2, hm2⟩)
    all_goals go_ret
    all_goals
      have hp := partF (x := y) (N := 16) (c := 1098907648) (F_const (by decide +kernel)) (by decide +kernel) (A_const (m := 2 ^ 153) (by decide +kernel) (by decide +kernel)) y0 (by omega) (by omega) (by omega)
      have hr := fun w0 => F_of_cn (cn_fval .quo (floatOfInt .f32 y) 1098907648 w0) hp.1
      exact ⟨_, rfl, ⟨_, rfl, by rw [hr]; exact hp.1, by rw [hr]; exact hp.2⟩, hs2.after (below_drewN (Below.refl _ _) _), (hm1.trans hm2).drewN _⟩
  · by_cases hx1 : x = 1
    · subst hx1
      go_wp2_with (go_at_call 70; refine (pick_any g (k + 2) 1001 _ hs1 (by omega) (by omega) (by omega)).mono ?_; rintro e w2 ⟨u, rfl, ⟨y, rfl, y0, y1⟩, hs2, hm2⟩)
      all_goals go_ret
      all_goals
        have hp := partF (x := y) (N := 1000) (c := 1148846080) (F_const (by decide +kernel)) (by decide +kernel) (A_const (m := 1000 * 2 ^ 149) (by decide +kernel) (by decide +kernel)) y0 (by omega) (by omega) (by omega)
        have hr := fun w0 => F_of_cn (cn_fval .quo (floatOfInt .f32 y) 1148846080 w0) hp.1
        exact ⟨_, rfl, ⟨_, rfl, by rw [hr]; exact hp.1, by rw [hr]; exact hp.2⟩, hs2.after (below_drewN (Below.refl _ _) _), (hm1.trans hm2).drewN _⟩
    · go_wp2_with (go_at_call 70; refine (pick_any g (k + 2) 1048576 _ hs1 (by omega) (by omega) (by omega)).mono ?_; rintro e w2 ⟨u, rfl, ⟨y, rfl, y0, y1⟩, hs2, hm2⟩)
      all_goals go_ret
      all_goals
        have hp := partF (x := y) (N := 1048576) (c := 1233125376) (F_const (by decide +kernel)) (by decide +kernel) (A_const (m := 2 ^ 169) (by decide +kernel) (by decide +kernel)) y0 (by omega) (by omega) (by omega)
        have hr := fun w0 => F_of_cn (cn_fval .quo (floatOfInt .f32 y) 1233125376 w0) hp.1
        exact ⟨_, rfl, ⟨_, rfl, by rw [hr]; exact hp.1, by rw [hr]; exact hp.2⟩, hs2.after (below_drewN (Below.refl _ _) _), (hm1.trans hm2).drewN _⟩

end Go.Proofs.Ytkgfepakedieaaa
