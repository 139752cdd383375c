/- Trains: rows of pairs of wheels. -/
import Derived.Test.YtkgfepakedieaaaGreatDoorCtA
import Derived.Test.YtkgfepakedieaaaGreatDoorMem
import Derived.Test.YtkgfepakedieaaaGreatDoorOpen
import Derived.Test.YtkgfepakedieaaaGreatDoorSm
namespace Go.Proofs.YtkgfepakedieaaaGreatDoor
open Go.RowKit

/-- A pair: driver, driven wheel, loss. -/
abbrev T3 := Int × Int × Nat
def TOk (p : T3) : Prop := (-32768 ≤ p.1 ∧ p.1 ≤ 32767) ∧ (-32768 ≤ p.2.1 ∧ p.2.1 ≤ 32767) ∧ p.2.2 < 2 ^ 32

/-- The cells of pairs in a world. -/
def TrAt (w : World) (b off : Nat) (ps : List T3) : Prop :=
  ∀ i p, ps[i]? = some p → w.cell? ⟨b, off + i * 3, none⟩ = some (.int .i16 p.1) ∧ w.cell? ⟨b, off + i * 3 + 1, none⟩ = some (.int .i16 p.2.1) ∧ w.cell? ⟨b, off + i * 3 + 2, none⟩ = some (.float .f32 p.2.2)

/-- A train in a world. -/
def Tr (w : World) (v : Value) (ps : List T3) : Prop :=
  ∃ (a : Option Addr) (cap : Nat), v = .slice a ps.length cap ∧ ps.length ≤ maxLen ∧ (∀ p ∈ ps, TOk p) ∧ (0 < ps.length → ∃ b off, a = some ⟨b, off, none⟩ ∧ b < w.heap.size ∧ TrAt w b off ps)

theorem tr_of_in {w : World} {v : Value} {n : Nat} {es : Nat → List Value} (h : SliceIn (CellsOk [.i .i16, .i .i16, .f]) 3 w v n es) : ∃ ps, Tr w v ps ∧ ps.length = n := by
  obtain ⟨a, cap, rfl, hn, hc⟩ := h
  have key : ∀ i, i < n → ∃ p : T3, TOk p ∧ es i = [.int .i16 p.1, .int .i16 p.2.1, .float .f32 p.2.2] := fun i hi => by
    obtain ⟨b, off, _, _, hall⟩ := hc (by omega)
    obtain ⟨⟨_, _, e0, ⟨x, rfl, wx⟩, _, _, rfl, ⟨y, rfl, wy⟩, _, _, rfl, ⟨z, rfl, wz⟩, rfl⟩, _, _⟩ := hall i hi
    refine ⟨(x, y, z), ⟨?_, ?_, wz⟩, e0⟩
    · simp [Lit.wf] at wx; exact wx
    · simp [Lit.wf] at wy; exact wy
  let f : Nat → T3 := fun i => if hi : i < n then Classical.choose (key i hi) else (0, 0, 0)
  have hf : ∀ i, i < n → TOk (f i) ∧ es i = [.int .i16 (f i).1, .int .i16 (f i).2.1, .float .f32 (f i).2.2] := fun i hi => by
    show TOk (dite _ _ _) ∧ _
    rw [show f i = Classical.choose (key i hi) from dif_pos hi, dif_pos hi]
    exact Classical.choose_spec (key i hi)
  refine ⟨(List.range n).map f, ⟨a, cap, by simp, by simpa using hn, ?_, ?_⟩, by simp⟩
  · intro p hp
    obtain ⟨i, hi, rfl⟩ := List.mem_map.1 hp
    exact (hf i (List.mem_range.1 hi)).1
  · intro hpos
    obtain ⟨b, off, ha, hb, hall⟩ := hc (by simpa using hpos)
    refine ⟨b, off, ha, hb, fun i p hp => ?_⟩
    have hi : i < n := by
      have := (List.getElem?_eq_some_iff.1 hp).1
      simpa using this
    obtain rfl : f i = p := by simpa [hi] using hp
    obtain ⟨_, _, hcell⟩ := hall i hi
    rw [(hf i hi).2] at hcell
    exact ⟨hcell 0 (by omega), hcell 1 (by omega), hcell 2 (by omega)⟩

theorem Tr.below {w w' : World} {v : Value} {ps : List T3} (h : Tr w v ps) (hb : Below w.heap.size w w') : Tr w' v ps := by
  obtain ⟨a, cap, rfl, hn, hk, hc⟩ := h
  refine ⟨a, cap, rfl, hn, hk, fun hpos => ?_⟩
  obtain ⟨b, off, ha, hlt, hall⟩ := hc hpos
  exact ⟨b, off, ha, Nat.lt_of_lt_of_le hlt hb.size, fun i p hp => ⟨(Below.cell hb (p := ⟨b, _, none⟩) hlt).trans (hall i p hp).1, (Below.cell hb (p := ⟨b, _, none⟩) hlt).trans (hall i p hp).2.1, (Below.cell hb (p := ⟨b, _, none⟩) hlt).trans (hall i p hp).2.2⟩⟩

/-- The cells of pairs. -/
def cellsT (ps : List T3) : List Value := ps.flatMap fun p => [.int .i16 p.1, .int .i16 p.2.1, .float .f32 p.2.2]
theorem cellsT_len : ∀ (ps : List T3), (cellsT ps).length = ps.length * 3
  | [] => rfl
  | p :: ps => by
    have := cellsT_len ps
    show (_ :: _ :: _ :: cellsT ps).length = _
    simp only [List.length_cons, this]
    omega
theorem cellsT_get : ∀ (ps : List T3) (i : Nat) (p : T3), ps[i]? = some p → (cellsT ps)[i * 3]? = some (.int .i16 p.1) ∧ (cellsT ps)[i * 3 + 1]? = some (.int .i16 p.2.1) ∧ (cellsT ps)[i * 3 + 2]? = some (.float .f32 p.2.2)
  | [], i, p, h => by simp at h
  | q :: ps, 0, p, h => by
    obtain rfl : q = p := by simpa using h
    exact ⟨rfl, rfl, rfl⟩
  | q :: ps, i + 1, p, h => by
    have := cellsT_get ps i p (by simpa using h)
    rw [show (i + 1) * 3 = i * 3 + 3 by omega]
    exact this
theorem cellsT_set : ∀ (ps : List T3) (i : Nat) (p : T3), i < ps.length → cellsT (ps.set i p) = (((cellsT ps).set (i * 3) (.int .i16 p.1)).set (i * 3 + 1) (.int .i16 p.2.1)).set (i * 3 + 2) (.float .f32 p.2.2)
  | [], i, p, h => by simp at h
  | q :: ps, 0, p, h => rfl
  | q :: ps, i + 1, p, h => by
    have := cellsT_set ps i p (by simpa using h)
    rw [show (i + 1) * 3 = i * 3 + 3 by omega]
    show _ :: _ :: _ :: cellsT (ps.set i p) = _
    rw [this]
    rfl
theorem madeT (n : Nat) : (madeCells (Value.cells (.agg #[.int .i16 0, .int .i16 0, .float .f32 0])) (n * 3)).toList = cellsT (List.replicate n (0, 0, 0)) := by
  apply List.ext_getElem?
  intro i
  show (madeCells #[.int .i16 0, .int .i16 0, .float .f32 0] (n * 3)).toList[i]? = _
  by_cases hi : i < n * 3
  · have hL : (madeCells #[.int .i16 0, .int .i16 0, .float .f32 0] (n * 3)).toList[i]? = some ((#[.int .i16 0, .int .i16 0, .float .f32 0] : Array Value)[i % 3]!) := by
      rw [Array.getElem?_toList]
      simp [madeCells, hi]
    rw [hL]
    obtain ⟨q, r, hq, hr, rfl⟩ : ∃ q r, q < n ∧ r < 3 ∧ i = q * 3 + r := ⟨i / 3, i % 3, by omega, by omega, by omega⟩
    obtain ⟨g0, g1, g2⟩ := cellsT_get (List.replicate n (0, 0, 0)) q (0, 0, 0) (by simp [hq])
    rw [show (q * 3 + r) % 3 = r by omega]
    rcases (show r = 0 ∨ r = 1 ∨ r = 2 by omega) with rfl | rfl | rfl
    · exact g0.symm
    · exact g1.symm
    · exact g2.symm
  · rw [List.getElem?_eq_none (by simp [size_madeCells]; omega), List.getElem?_eq_none (by simp [cellsT_len]; omega)]

theorem take_rep_set (ps : List T3) (j : Nat) (h : j < ps.length) (z : T3) : ps.take (j + 1) ++ List.replicate (ps.length - (j + 1)) z = (ps.take j ++ List.replicate (ps.length - j) z).set j ps[j] := by
  apply List.ext_getElem?
  intro i
  rw [List.getElem?_set]
  by_cases he : j = i
  · subst he
    rw [if_pos rfl, if_pos (by simp; omega), List.getElem?_append_left (by simp; omega)]
    simp
  · rw [if_neg he]
    by_cases hi : i < j
    · rw [List.getElem?_append_left (by simp; omega), List.getElem?_append_left (by simp; omega)]
      simp only [List.getElem?_take]
      rw [if_pos (by omega), if_pos hi]
    · rw [List.getElem?_append_right (by simp; omega), List.getElem?_append_right (by simp; omega)]
      simp [List.getElem?_replicate]
      congr 1
      apply propext
      omega

theorem info_pair : (Tryz.prog.info? 65).map (fun i => (i.zero, i.size, i.bytes)) = some (some (.agg #[.int .i16 0, .int .i16 0, .float .f32 0]), 3, 8) := by kernel_rfl

end Go.Proofs.YtkgfepakedieaaaGreatDoor
