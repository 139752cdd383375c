/- Helpers for the laws of functions that hand back memory. -/
import Derived.Test.YtljigmplmlhdnaaMkT
namespace Go.Proofs.Ytljigmplmlhdnaa
open Go.RowKit

theorem tr_ok {w : World} {v : Value} {ps : List T3} (h : Tr w v ps) : ∀ p ∈ ps, TOk p := by
  obtain ⟨_, _, _, _, hk, _⟩ := h
  exact hk

theorem SameF.refl (xs : List Nat) : SameF xs xs := ⟨rfl, fun i x y h1 h2 => by rw [h1] at h2; cases h2; rfl⟩
theorem SameF.symm {xs ys : List Nat} (h : SameF xs ys) : SameF ys xs := ⟨h.1.symm, fun i x y h1 h2 => (h.2 i y x h2 h1).symm⟩
theorem SameF.trans {xs ys zs : List Nat} (h : SameF xs ys) (k : SameF ys zs) : SameF xs zs := by
  refine ⟨h.1.trans k.1, fun i x z h1 h2 => ?_⟩
  have hi : i < ys.length := by
    have := (List.getElem?_eq_some_iff.1 h1).1
    rw [h.1] at this
    exact this
  have h3 : ys[i]? = some ys[i] := List.getElem?_eq_getElem hi
  exact (h.2 i _ _ h1 h3).trans (k.2 i _ _ h3 h2)

/-- A function's answer: a new row of numbers and a code. -/
def GivesF (w : World) (K : Int) (R : List Nat) (e : Ending) (w' : World) : Prop :=
  ∃ u xs, e = .returned (.tuple #[u, .int .i64 K]) ∧ w'.ownsRow w.heap.size 22 1 u xs.length (cellsF xs) ∧ SameF xs R ∧ (∀ x ∈ xs, x < 2 ^ 32) ∧ Below w.heap.size w w'

/-- A function's answer: yes or no. -/
def GivesV (w : World) (K : Bool) (_ : Unit) (e : Ending) (w' : World) : Prop := e = .returned (.bool K) ∧ Below w.heap.size w w'
/-- A function's answer: a number and a code. -/
def GivesN (w : World) (K : Int) (R : Nat) (e : Ending) (w' : World) : Prop := ∃ r, e = .returned (.tuple #[.float .f32 r, .int .i64 K]) ∧ cn r = R ∧ r < 2 ^ 32 ∧ Below w.heap.size w w'

theorem wrap16 (n : Int) : -32768 ≤ IntKind.i16.wrap n ∧ IntKind.i16.wrap n ≤ 32767 := by
  simp [IntKind.wrap, IntKind.bits, IntKind.signed]
  split <;> omega
theorem mark_ok (n : Nat) : ∀ p ∈ (List.range n).map markP, TOk p := by
  intro p hp
  obtain ⟨i, _, rfl⟩ := List.mem_map.1 hp
  exact ⟨wrap16 _, wrap16 _, by have := int_lt (1 + 3 * (i : Int) + 1 + 1); simpa only [markP] using this⟩
theorem mark_len {w : World} {base : Nat} {e : TypeId} {v : Value} {n : Nat} (h : w.ownsRow base e 3 v n (cellsT ((List.range n).map markP))) : w.ownsRow base e 3 v ((List.range n).map markP).length (cellsT ((List.range n).map markP)) := by
  rw [List.length_map, List.length_range]
  exact h
theorem markF_len {w : World} {base : Nat} {e : TypeId} {v : Value} {n : Nat} (h : w.ownsRow base e 1 v n (cellsF ((List.range n).map markF))) : w.ownsRow base e 1 v ((List.range n).map markF).length (cellsF ((List.range n).map markF)) := by
  rw [List.length_map, List.length_range]
  exact h

end Go.Proofs.Ytljigmplmlhdnaa
