/- The law's walk: a belt is read from its text. -/
import Derived.Test.YtljigmplmlhdnaaDoorCtRh
import Derived.Test.YtljigmplmlhdnaaDoorCtM
import Derived.Test.YtljigmplmlhdnaaDoorBase
import Derived.Below
import Derived.Test.YtljigmplmlhdnaaDoorLoB
import Derived.Deep.RegionWith
namespace Go.Proofs.YtljigmplmlhdnaaDoor.xReadBelt
open Go.RowKit

theorem rbV_lt (s : ByteArray) : (rbV s).1 < 2 ^ 32 ∧ (rbV s).2.1 < 2 ^ 32 ∧ (rbV s).2.2.1 < 2 ^ 32 ∧ (rbV s).2.2.2.1 < 2 ^ 32 := by
  unfold rbV
  split
  · exact ⟨readV_lt _, readV_lt _, readV_lt _, readV_lt _⟩
  · decide

set_option maxRecDepth 20000 in
set_option maxHeartbeats 2000000 in
theorem walk (s : ByteArray) (m : Int) (w : World) (hm : w.cell? ⟨1, 0, none⟩ = some (.int .i64 m)) :
    Calls Tryd.prog 3 #[.string s] w fun e w' => e = .returned (.bool true) ∧ Below w.heap.size w w' := by
  have hml : 1 < w.heap.size := World.block_lt_of_cell? w ⟨1, 0, none⟩ hm
  have HM : Hid (∀ w', Below w.heap.size w w' → w'.cell? ⟨1, 0, none⟩ = some (.int .i64 m)) := Lib.hid (fun w' hb => (Below.cell hb (p := ⟨1, _, none⟩) hml).trans hm)
  clear hm
  by_cases hl : (1048576 : Int) < (s.size : Int)
  · go_enter Tryd.func3, Tryd.ntmps3
    go_wp2
    go_ret
    exact ⟨rfl, Below.refl _ _⟩
  · have hs : s.size ≤ 1048576 := by omega
    obtain ⟨l0, l1, l2, l3⟩ := rbV_lt s
    have hkk : (rbK s != rbK s) = false := by simp
    obtain ⟨a, b, c, d, x, hV⟩ : ∃ a b c d x, rbV s = (a, b, c, d, x) := ⟨_, _, _, _, _, rfl⟩
    rw [hV] at l0 l1 l2 l3
    obtain ⟨K, hK⟩ : ∃ K, rbK s = K := ⟨_, rfl⟩
    rw [hK] at hkk
    have HS : Hid (∀ w, Calls Tryd.prog 4 #[.string s] w fun e w' => e = .returned (.tuple #[.agg #[.float .f32 a, .float .f32 b, .float .f32 c, .float .f32 d, .bool x], .int .i64 K]) ∧ Below w.heap.size w w') := Lib.hid (fun w => by
      have := specReadBelt_any s hs w
      rw [hV, hK] at this
      exact this)
    have HI : Hid (∀ w', Below w.heap.size w w' → Calls Tryd.prog 5 #[.string s] w' fun e w2 => e = .returned (.tuple #[.agg #[.float .f32 a, .float .f32 b, .float .f32 c, .float .f32 d, .bool x], .int .i64 K]) ∧ Below w'.heap.size w' w2) := Lib.hid (fun w' hb => by
      have := implReadBelt_any s hs m w' (HM.out _ hb) (Nat.lt_of_lt_of_le hml hb.size)
      rw [hV, hK] at this
      exact this)
    have hse : sameBeltB a b c d x a b c d x = true := by simp [sameBeltB, sameB_refl]
    clear hV hK
    go_enter Tryd.func3, Tryd.ntmps3
    go_wp2_with fail
    refine (HS.out _).mono ?_
    rintro e w1 ⟨rfl, hb1⟩
    have hs1 := hb1.size
    go_wp2_with fail
    obtain ⟨W, hW, hWs, hbW, HBX⟩ := boxed_belt w1 24 a b c d x
    have HBX := Lib.hid HBX
    rw [hW]
    clear hW
    have hbw := hb1.trans (hbW.mono hs1)
    refine (HI.out _ hbw).mono ?_
    rintro e w2 ⟨rfl, hb2⟩
    have hb := below_then hbw hb2
    have hs2 := hb.size
    obtain ⟨z0, z1, z2, z3, z4⟩ := HBX.out w2 hb2
    have hw12 : w1.heap.size < w2.heap.size := Nat.lt_of_lt_of_le hWs hb2.size
    go_wp2_with fail
    refine (eqBelt_any a b c d x a b c d x l0 l1 l2 l3 l0 l1 l2 l3 _).mono ?_
    rintro e w3 ⟨rfl, hb3⟩
    rw [hse]
    have hb := Below.trans (Below.alloc hb hs2 (.cells #[.float .f32 a, .float .f32 b, .float .f32 c, .float .f32 d, .bool x] 24)) (hb3.mono (by simp; omega))
    go_wp2
    all_goals go_ret
    all_goals exact ⟨rfl, hb⟩

end Go.Proofs.YtljigmplmlhdnaaDoor.xReadBelt
