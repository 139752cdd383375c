/- Plain law: drawn trains are fit for every contract. -/
import Derived.Test.YtkgfepakedieaaaGreatDoorTcZ
import Derived.Test.YtkgfepakedieaaaGreatDoorNuZ
import Derived.Test.YtkgfepakedieaaaGreatDoorSdZ
namespace Go.Proofs.YtkgfepakedieaaaGreatDoor
open Go.RowKit

theorem trainB_of {ps : List T3} (h0 : 1 ≤ ps.length) (h8 : ps.length ≤ 8) (hp : ∀ p ∈ ps, PG p) : trainB ps = true := by
  unfold trainB
  rw [Bool.and_eq_true, List.all_eq_true]
  refine ⟨?_, fun p hx => (hp p hx).1⟩
  simp only [withinB, Bool.and_eq_true, decide_eq_true_eq]
  omega
theorem pok_of_pg {p : T3} (h : PG p) : POk p := by
  obtain ⟨⟨a0, a1⟩, ⟨b0, b1⟩, _⟩ := pg_teeth h
  exact ⟨a0, a1, b0, b1, h.2.2, F_cn h.2⟩
theorem tok_of {p : T3} (h : PG p) : TOk p := by
  obtain ⟨⟨a0, a1⟩, ⟨b0, b1⟩, _⟩ := pg_teeth h
  exact ⟨⟨by omega, by omega⟩, ⟨by omega, by omega⟩, h.2.2⟩
theorem pg_back {p : T3} (h : PG p) : PG (backP p) := by
  refine ⟨?_, h.2⟩
  have h1 := h.1
  simp only [pairB, backP, Bool.and_eq_true] at h1 ⊢
  simp only [h1, and_self]
theorem pg_backT {ps : List T3} (hp : ∀ p ∈ ps, PG p) : ∀ p ∈ backT ps, PG p := fun p hx => by
  have h := pg_back (hp _ (backT_mem hx))
  exact h
theorem pg_app {ps qs : List T3} (hp : ∀ p ∈ ps, PG p) (hq : ∀ p ∈ qs, PG p) : ∀ p ∈ ps ++ qs, PG p := fun p hx => by
  rcases List.mem_append.1 hx with h | h
  · exact hp p h
  · exact hq p h
theorem tr_of_pg {w : World} {lo : Nat} {v : Value} {ps : List T3} (h : w.ownsRow lo 65 3 v ps.length (cellsT ps)) (hp : ∀ p ∈ ps, PG p) : Tr w v ps :=
  tr_of_row h fun p hx => tok_of (hp p hx)
theorem BytesAt.up {w : World} {g g' : Nat} {a : Option Addr} {n : Nat} (h : BytesAt w g a n) (hg : g ≤ g') : BytesAt w g' a n := by
  refine ⟨h.1, fun hn => ?_⟩
  obtain ⟨b, off, rfl, hb, hc⟩ := h.2 hn
  exact ⟨b, off, rfl, by omega, hc⟩
theorem bytes_go {w w' : World} {a : Option Addr} {n : Nat} (h : BytesAt w w.heap.size a n) (hb : Below w.heap.size w w') : BytesAt w' w'.heap.size a n := BytesAt.up (h.below hb) hb.size

end Go.Proofs.YtkgfepakedieaaaGreatDoor
