/- Memory that the program makes: rows of cells ('ownsRow'), and what is left of them behind a call. -/
import Derived.Test.YtkgfepakedieaaaGreatDoorBase
import Derived.Laws.BytesArg
import Derived.OwnWalk
import Derived.Lib.Hide
namespace Go.Proofs.YtkgfepakedieaaaGreatDoor
open Go.RowKit

section
variable {w w' : World} {base : Nat} {e : TypeId} {size : Nat} {v : Value} {n : Nat} {xs : List Value}

/-- A block that was laid with cells written out. -/
theorem own_lit (w : World) (base : Nat) (e : TypeId) (size n : Nat) (cur : Array Value) (hb : base ≤ w.heap.size) (hn : n ≤ maxLen) (hs : cur.size = n * size) :
    (w.alloc (.cells cur e)).ownsRow base e size (.slice (some ⟨w.heap.size, 0, none⟩) n n) n cur.toList :=
  ⟨by simpa using hs, .inr ⟨w.heap.size, n, cur, rfl, hb, heap_alloc_new w _, Nat.le_refl _, hn, hs, List.take_of_length_le (by simp; omega)⟩⟩

/-- The value of a row. -/
theorem own_val (h : w.ownsRow base e size v n xs) : (v = .slice none 0 0 ∧ n = 0) ∨ ∃ g cap, v = .slice (some ⟨g, 0, none⟩) n cap ∧ base ≤ g ∧ g < w.heap.size ∧ n ≤ cap ∧ cap ≤ maxLen := by
  rcases h.2 with h1 | ⟨g, cap, cur, hv, hb, hg, hn, hm, _⟩
  · exact .inl h1
  · exact .inr ⟨g, cap, hv, hb, (Array.getElem?_eq_some_iff.1 hg).1, hn, hm⟩

theorem own_len (h : w.ownsRow base e size v n xs) : xs.length = n * size := h.1

/-- The same row, said from a lower base. -/
theorem own_base {b' : Nat} (h : w.ownsRow base e size v n xs) (hb : b' ≤ base) : w.ownsRow b' e size v n xs := by
  refine ⟨h.1, ?_⟩
  rcases h.2 with h1 | ⟨g, cap, cur, hv, hg, r⟩
  · exact .inl h1
  · exact .inr ⟨g, cap, cur, hv, Nat.le_trans hb hg, r⟩

/-- A row whose block has not turned. -/
theorem own_of_block (h : w.ownsRow base e size v n xs) (hb : ∀ g, v.ownBlock = some g → w'.heap[g]? = w.heap[g]?) : w'.ownsRow base e size v n xs := by
  refine ⟨h.1, ?_⟩
  rcases h.2 with h1 | ⟨g, cap, cur, rfl, hg, hh, r⟩
  · exact .inl h1
  · exact .inr ⟨g, cap, cur, rfl, hg, (hb g rfl).trans hh, r⟩

/-- A row that lies below a 'Below' stays. -/
theorem own_below {B : Nat} (h : w.ownsRow base e size v n xs) (hb : Below B w w') (hB : ∀ g, v.ownBlock = some g → g < B) : w'.ownsRow base e size v n xs :=
  own_of_block h fun g hg => hb.block g (hB g hg)
theorem own_after (h : w.ownsRow base e size v n xs) (hb : Below w.heap.size w w') : w'.ownsRow base e size v n xs :=
  own_below h hb fun g hg => (h.lt g hg).2
theorem own_drewN (h : w.ownsRow base e size v n xs) (k : Nat) : (w.drewN k).ownsRow base e size v n xs := h

/-- A store into another block. -/
theorem own_setCell_other (h : w.ownsRow base e size v n xs) {p : Addr} {u : Value} (hne : ∀ g, v.ownBlock = some g → g ≠ p.block) : (w.setCell p u).ownsRow base e size v n xs :=
  own_of_block h fun g hg => Below.heap_setCell w p u g (hne g hg)

/-- An element's cell. -/
theorem own_cell {g cap : Nat} (h : w.ownsRow base e size (.slice (some ⟨g, 0, none⟩) n cap) n xs) {j : Nat} {u : Value} (hx : xs[j]? = some u) : w.cell? ⟨g, j, none⟩ = some u := by
  have hj : j < n * size := by
    rw [← h.1]
    exact (List.getElem?_eq_some_iff.1 hx).1
  rw [h.cellAt j hj, hx]
theorem own_free {g cap : Nat} (h : w.ownsRow base e size (.slice (some ⟨g, 0, none⟩) n cap) n xs) (j : Nat) : w.frozen? ⟨g, j, none⟩ = false := h.frozenAt j

/-- Behind a law that ends in 'grownBy': what was there when the call began has not turned, if the row is a later one. -/
theorem below_grown {B : Nat} {a : World} (h : Below B a w) (hg : w.grownBy w' v.ownBlock) (hB : B ≤ w.heap.size) (hv : ∀ g, v.ownBlock = some g → B ≤ g) : Below B a w' := h.grown hg hB hv
theorem below_grown_none {B : Nat} {a : World} (h : Below B a w) (hg : w.grownBy w' none) (hB : B ≤ w.heap.size) : Below B a w' := h.grown hg hB fun _ h => by cases h
end

/-- Bytes as cells. -/
def byteCells (l : List UInt8) : List Value := l.map fun b => Value.int .u8 (b.toNat : Int)

/-- 'string(out)' of a row of bytes. -/
theorem run_string_own {P : Program} {w : World} {base e : TypeId} {g n cap : Nat} {l : List UInt8} (hn : l.length = n)
    (h : w.ownsRow base e 1 (.slice (some ⟨g, 0, none⟩) n cap) n (byteCells l)) (src dst : TypeId) (hs : P.underlying src = some (.slice e)) (he : P.underlying e = some (.int .u8)) (hd : P.underlying dst = some .string) :
    (convert src dst (.slice (some ⟨g, 0, none⟩) n cap)).run P w = .ok (.string ⟨l.toArray⟩) w := by
  have := run_convert_bytes_arg (P := P) w src e hs he g 0 n cap (l.map fun b => (b.toNat : Int)) (by simpa using hn) (fun i hi => by
    have hx : (byteCells l)[i]? = some (.int .u8 ((l.map fun b => (b.toNat : Int)).getD i 0)) := by
      have hi' : i < l.length := by omega
      simp [byteCells, List.getElem?_map, List.getElem?_eq_getElem hi']
    simpa using own_cell h hx) dst hd
  rw [this]
  congr 2
  unfold strOfNums
  congr 1
  rw [List.map_map]
  congr 1
  conv => rhs; rw [← List.map_id l]
  apply List.map_congr_left
  intro b _
  simp

end Go.Proofs.YtkgfepakedieaaaGreatDoor
