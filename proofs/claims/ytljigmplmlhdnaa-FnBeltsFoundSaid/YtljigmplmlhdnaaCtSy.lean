/- Contract: whether two rows of numbers are the same (the great laws' helper). -/
import Derived.Test.YtljigmplmlhdnaaCtSx
import Derived.Test.YtljigmplmlhdnaaCtRc
import Derived.Test.YtljigmplmlhdnaaCtU
import Derived.Test.YtljigmplmlhdnaaMk2
import Derived.BigQuiet
namespace Go.Proofs.Ytljigmplmlhdnaa
open Go.RowKit
set_option linter.unusedVariables false
set_option linter.unusedSimpArgs false

theorem own_some {w : World} {base : Nat} {e : TypeId} {size : Nat} {v : Value} {n : Nat} {xs : List Value} (h : w.ownsRow base e size v n xs) (h0 : 0 < n) : ∃ g cap, v = .slice (some ⟨g, 0, none⟩) n cap ∧ base ≤ g ∧ g < w.heap.size := by
  rcases own_val h with ⟨_, h1⟩ | ⟨g, cap, rfl, h1, h2, _⟩
  · omega
  · exact ⟨g, cap, rfl, h1, h2⟩
theorem cellF_at {xs : List Nat} {i x : Nat} (h : xs[i]? = some x) : (cellsF xs)[i]? = some (.float .f32 x) := by simp [cellsF, h]


set_option maxHeartbeats 2000000 in
theorem a2Same_any (xs ys : List Nat) (v u : Value) (w : World) (hv : Fs w v xs) (hu : Fs w u ys) (hs : SameF xs ys) :
    Calls Try.prog 41 #[v, u] w fun e w' => e = .returned (.bool true) ∧ ∃ k, w' = w.drewN k := by
  obtain ⟨a, cap, rfl, hn, hc⟩ := hv
  obtain ⟨a', cap', rfl, hn', hc'⟩ := hu
  have hn2 : xs.length ≤ 9223372036854775807 := by simpa [maxLen] using hn
  have hl := hs.1
  rw [← hl]
  have HS := Lib.hid hs
  clear hs
  go_enter Try.func41, Try.ntmps41
  go_wp2
  go_loopw [5] (fun k wr => ∃ j i : Nat, j ≤ xs.length ∧ k = .int .i64 (j : Int) ∧ wr = w.drewN i)
    (fun k _ => (xs.length - intOf k).toNat)
  case atStart => exact ⟨0, 0, by omega, rfl, rfl⟩
  case round =>
    obtain ⟨j, i, hj, rfl, hw⟩ := hrel
    have HW := Lib.hid hw
    have hbw : Below w.heap.size w wr := by rw [hw]; exact below_drewN (Below.refl _ _) i
    clear hw
    by_cases hlt : j < xs.length
    · obtain ⟨b, off, rfl, hbl, hat⟩ := hc (by omega)
      obtain ⟨b', off', rfl, hbl', hat'⟩ := hc' (by omega)
      have hp : xs[j]? = some xs[j] := List.getElem?_eq_getElem hlt
      have hq : ys[j]? = some (ys[j]'(by omega)) := List.getElem?_eq_getElem (by omega)
      have hsame := teq_cn (HS.out.2 j _ _ hp hq)
      have c0 := (hbw.cell (p := ⟨b, _, none⟩) hbl).trans (hat j _ hp)
      have c0' := (hbw.cell (p := ⟨b', _, none⟩) hbl').trans (hat' j _ hq)
      clear hc hc' hat hat' hbw
      go_wp2
      go_quiet (first | (go_at_call 72; exact quiet_bool hsame (l01Same_any _ _ _)))
      go_wp2
      go_roundw
      case rel => exact ⟨j + 1, _, by omega, by go_num, by rw [HW.out]; exact World.drewN_drewN _ _ _⟩
      case measure => simp [intOf]; omega
    · obtain rfl : j = xs.length := by omega
      clear hc hc'
      go_wp2
      go_ret
      exact ⟨rfl, i, HW.out⟩

end Go.Proofs.Ytljigmplmlhdnaa
