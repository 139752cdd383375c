/- Contracts: a text is cut at a byte (the reference's own function, and strings.Split); rows of texts. -/
import Derived.Test.YtkgfepakedieaaaGreatDoorSplitP
import Derived.Test.YtkgfepakedieaaaGreatDoorCtRn
import Derived.Test.YtkgfepakedieaaaGreatDoorMem
import Derived.Test.YtkgfepakedieaaaGreatDoorShelf
import Derived.Deep.AppendLies
namespace Go.Proofs.YtkgfepakedieaaaGreatDoor
open Go.RowKit

theorem info_strT : (Tryz.prog.info? 9).map (fun i => (i.zero, i.size, i.bytes)) = some (some (.string ⟨#[]⟩), 1, 16) := by kernel_rfl
def cellsW (ws : List ByteArray) : List Value := ws.map Value.string
/-- A row of texts. -/
def Ss (w : World) (v : Value) (ws : List ByteArray) : Prop :=
  ∃ (g cap : Nat), v = .slice (some ⟨g, 0, none⟩) ws.length cap ∧ ws.length ≤ cap ∧ cap ≤ maxLen ∧ g < w.heap.size ∧ ∀ (i : Nat) x, ws[i]? = some x → w.cell? ⟨g, i, none⟩ = some (.string x)
theorem Ss.below {w w' : World} {v : Value} {ws : List ByteArray} (h : Ss w v ws) (hb : Below w.heap.size w w') : Ss w' v ws := by
  obtain ⟨g, cap, rfl, h1, h2, hg, hc⟩ := h
  exact ⟨g, cap, rfl, h1, h2, Nat.lt_of_lt_of_le hg hb.size, fun i x hx => (Below.cell hb (p := ⟨g, _, none⟩) hg).trans (hc i x hx)⟩
theorem ss_of_own {w : World} {base : Nat} {e : TypeId} {v : Value} {ws : List ByteArray} (h : w.ownsRow base e 1 v ws.length (cellsW ws)) (hp : 0 < ws.length) : Ss w v ws := by
  rcases own_val h with ⟨_, h0⟩ | ⟨g, cap, rfl, hg, hgs, hcap, hm⟩
  · omega
  · exact ⟨g, cap, rfl, hcap, hm, hgs, fun i x hx => own_cell h (by simp [cellsW, hx])⟩

theorem piece_mk (s : ByteArray) (f i : Nat) : s.extract f i = ⟨((s.data.toList.drop f).take (i - f)).toArray⟩ := by
  apply ByteArray.ext
  apply Array.toList_inj.1
  rw [ByteArray.data_extract]
  simp
theorem splitL_len (c : UInt8) : ∀ (l : List UInt8), (splitL c l).length ≤ l.length + 1
  | [] => Nat.le_refl _
  | b :: l => by
    have ih := splitL_len c l
    unfold splitL
    split
    · simpa using ih
    · cases h : splitL c l with
      | nil => simp
      | cons p ps =>
        rw [h] at ih
        simp only [List.length_cons] at ih ⊢
        omega
theorem splitL_nil_pos (c : UInt8) (l : List UInt8) : 0 < (splitL c l).length := by
  cases h : splitL c l with
  | nil => exact absurd h (splitL_ne _ _)
  | cons => simp

set_option maxRecDepth 20000 in
set_option maxHeartbeats 1000000 in
theorem split_any (s : ByteArray) (c : UInt8) (hs : s.size < 4294967281) (m : Int) (w : World) (hm : w.cell? ⟨1, 0, none⟩ = some (.int .i64 m)) :
    Calls Tryz.prog 34 #[.string s, .string ⟨#[c]⟩] w fun e w' => ∃ v, e = .returned v ∧ Ss w' v (piecesB c s) ∧ Below w.heap.size w w' := by
  refine (Tryz.strings_Split s ⟨#[c]⟩ m w hs hm (Nat.le_refl 1)).mono ?_
  rintro e w' ⟨rfl, rfl⟩
  have hl := pieces_len c s
  have hle : Lib.countB s ⟨#[c]⟩ ≤ s.size := by
    have h1 := splitL_len c s.data.toList
    have h2 := (splitB_eq c s).2
    have h3 : s.data.toList.length = s.size := by simp
    omega
  refine ⟨_, rfl, ⟨w.heap.size, Lib.countB s ⟨#[c]⟩ + 1, by rw [hl], by omega, by unfold maxLen; omega, by simp, fun i x hx => ?_⟩, (Below.refl _ _).alloc (Nat.le_refl _) _⟩
  rw [splitB_pieces]
  rw [World.cell?_alloc_at]
  · simp [hx]
  · rfl

end Go.Proofs.YtkgfepakedieaaaGreatDoor
