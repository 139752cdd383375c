/- Marks on trains. -/
import Derived.Test.YtljigmplmlhdnaaMk
namespace Go.Proofs.Ytljigmplmlhdnaa
open Go.RowKit

def markedT (ps : List T3) (j : Nat) : List T3 := (List.range j).map markP ++ ps.drop j
theorem markedT_step (xs : List T3) (j : Nat) (h : j < xs.length) : markedT xs (j + 1) = (markedT xs j).set j (markP j) := by
  unfold markedT
  apply List.ext_getElem?
  intro i
  rw [List.getElem?_set]
  by_cases he : j = i
  · subst he
    rw [if_pos rfl, if_pos (by simp; omega), List.getElem?_append_left (by simp)]
    simp
  · rw [if_neg he]
    by_cases hi : i < j
    · rw [List.getElem?_append_left (by simp; omega), List.getElem?_append_left (by simp; omega)]
      simp [hi, show i < j + 1 by omega]
    · rw [List.getElem?_append_right (by simp; omega), List.getElem?_append_right (by simp; omega)]
      simp only [List.length_map, List.length_range, List.getElem?_drop]
      congr 1
      omega
theorem markedT_at (xs : List T3) (j : Nat) (h : j < xs.length) : (markedT xs j)[j]? = some xs[j] := by
  unfold markedT
  rw [List.getElem?_append_right (by simp)]
  simp
theorem markedT_len (xs : List T3) (j : Nat) (h : j ≤ xs.length) : (markedT xs j).length = xs.length := by
  simp [markedT]
  omega

end Go.Proofs.Ytljigmplmlhdnaa
