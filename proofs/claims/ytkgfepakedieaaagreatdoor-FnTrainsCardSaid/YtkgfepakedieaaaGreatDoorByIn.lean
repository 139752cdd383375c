/- Bytes that came in. -/
import Derived.Test.YtkgfepakedieaaaGreatDoorOpen
import Derived.Test.YtkgfepakedieaaaGreatDoorCtSc
namespace Go.Proofs.YtkgfepakedieaaaGreatDoor
open Go.RowKit

theorem bytes_of_in {w : World} {v : Value} {n : Nat} {es : Nat → List Value} (h : SliceIn (CellsOk [.i .u8]) 1 w v n es) : ∃ a cap, v = .slice a n cap ∧ BytesAt w w.heap.size a n := by
  obtain ⟨a, cap, rfl, hn, hc⟩ := h
  refine ⟨a, cap, rfl, hn, fun hpos => ?_⟩
  obtain ⟨b, off, ha, hb, hall⟩ := hc hpos
  refine ⟨b, off, ha, hb, fun i hi => ?_⟩
  obtain ⟨⟨_, _, e0, ⟨x, rfl, wx⟩, rfl⟩, _, hcell⟩ := hall i hi
  refine ⟨x, ?_, ?_⟩
  · have := hcell 0 (by omega)
    rw [e0] at this
    simpa using this
  · simp [Lit.wf] at wx
    exact wx

end Go.Proofs.YtkgfepakedieaaaGreatDoor
