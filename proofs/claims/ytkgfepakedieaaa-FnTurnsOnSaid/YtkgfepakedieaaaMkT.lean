/- Marks on trains. -/
import Derived.Test.YtkgfepakedieaaaMk
namespace Go.Proofs.Ytkgfepakedieaaa
open Go.RowKit

def markedT (ps : List T3) (j : Nat) : List T3 := (List.range j).map markP ++ ps.drop j
theorem markedT_step (xs : List T3) (j : Nat) (h : j < xs.length) : markedT xs (j + 1) = (markedT xs j).set j (markP j) := by
  unfold markedT
  apply List.ext_getElem?
  intro i
  rw [List.getElem?_set]
  by_cases he : j = i
  · subst he
    rw [if_pos rfl, if_pos (by simp; omega), List.getElem?_append_left (by simp)]
    simp
  · rw [if_neg he]
    by_cases hi : i < j
    · rw [List.getElem?_append_left (by simp; omega), List.getElem?_append_left (by simp; omega)]
      simp [hi, show i < j + 1 by omega]
    · rw [List.getElem?_append_right (by simp; omega), List.getElem?_append_right (by simp; omega)]
      simp only [List.length_map, List.length_range, List.getElem?_drop]
      congr 1
      omega
theorem markedT_at (xs : List T3) (j : Nat) (h : j < xs.length) : (markedT xs j)[j]? = some xs[j] := by
  unfold markedT
  rw [List.getElem?_append_right (by simp)]
  simp
theorem markedT_len (xs : List T3) (j : Nat) (h : j ≤ xs.length) : (markedT xs j).length = xs.length := by
  simp [markedT]
  omega

set_option maxHeartbeats 1000000 in
theorem markTrain_any (ps : List T3) (v : Value) (w : World) (base : Nat) (ho : w.ownsRow base 54 3 v ps.length (cellsT ps)) (hlen : ps.length ≤ 1048576) :
    Calls Try.prog 14 #[v, .int .i64 1] w fun e w' => e = .returned (.int .i64 (1 + 3 * ps.length)) ∧ w'.ownsRow base 54 3 v ps.length (cellsT ((List.range ps.length).map markP)) ∧ Only base v w w' := by
  have hv := own_val ho
  have HO := Lib.hid ho
  obtain ⟨a, cap, rfl⟩ : ∃ a cap, v = .slice a ps.length cap := by
    rcases hv with ⟨rfl, h0⟩ | ⟨g, cap, rfl, _⟩
    · exact ⟨none, 0, by rw [h0]⟩
    · exact ⟨_, cap, rfl⟩
  clear ho
  go_enter Try.func14, Try.ntmps14
  go_wp2
  have hO1 := HO.out
  go_loopw [1, 5] (fun k i wr => ∃ j : Nat, j ≤ ps.length ∧ k = .int .i64 (1 + 3 * (j : Int)) ∧ i = .int .i64 (j : Int) ∧ wr.ownsRow base 54 3 (.slice a ps.length cap) ps.length (cellsT (markedT ps j)) ∧ Only base (.slice a ps.length cap) w wr)
    (fun _ i _ => (ps.length - intOf i).toNat)
  case atStart => exact ⟨0, by omega, rfl, rfl, hO1, Only.refl _ _ _⟩
  case round =>
    obtain ⟨j, hj, rfl, rfl, ho, hon⟩ := hrel
    clear hO1
    by_cases hlt : j < ps.length
    · rcases hv with ⟨_, h0⟩ | ⟨g, cap', hv, hg, hgs, _⟩
      · omega
      · injection hv with hv
        subst hv
        obtain ⟨x0, x1, x2⟩ := cellsT_get _ j _ (markedT_at ps j hlt)
        have c0 := own_cell ho x0
        have c1 := own_cell ho x1
        have c2 := own_cell ho x2
        have hf := own_free ho
        have H2 := Lib.hid ho
        have HN := Lib.hid hon
        clear ho hon x0 x1 x2
        go_wp2
        refine ⟨⟨j + 1, by omega, by go_num, rfl, ?_, ((HN.out.store rfl hg _ _).store rfl hg _ _).store rfl hg _ _⟩, by simp [intOf]; omega⟩
        have hst := (((((H2.out.stored (j * 3) (.int .i16 (markP j).1)).1).stored (j * 3 + 1) (.int .i16 (markP j).2.1)).1).stored (j * 3 + 2) (.float .f32 (markP j).2.2)).1
        rw [markedT_step ps j hlt, cellsT_set _ _ _ (by rw [markedT_len _ _ hj]; exact hlt)]
        exact hst
    · obtain rfl : j = ps.length := by omega
      have H2 := Lib.hid ho
      clear ho
      go_wp2
      go_ret
      exact ⟨rfl, by simpa [markedT] using H2.out, hon⟩

end Go.Proofs.Ytkgfepakedieaaa
