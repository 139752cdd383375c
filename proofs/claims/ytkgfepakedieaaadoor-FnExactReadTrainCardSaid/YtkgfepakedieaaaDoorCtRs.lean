/- Contracts: a train is read from its text (the reference). -/
import Derived.Test.YtkgfepakedieaaaDoorCtRt
import Derived.Test.YtkgfepakedieaaaDoorCtNu
namespace Go.Proofs.YtkgfepakedieaaaDoor
open Go.RowKit

theorem rtS_no {s : ByteArray} (h : rtS s = false) : rtK s = 5 ∧ rtR s = [] := by simp [rtK, rtR, h]
theorem rtS_yes {s : ByteArray} (h : rtS s = true) : rtK s = 0 ∧ rtR s = getP parseS (piecesB 32 s) := by simp [rtK, rtR, h]
theorem parseS_tok {y : ByteArray} {p : T3} (h : parseS y = some p) : TOk p := by
  obtain ⟨_, h1, h2, h3, h4, h5, _⟩ := parseS_text h
  exact ⟨by omega, by omega, h5⟩
theorem getS_tok {ws : List ByteArray} : ∀ p ∈ getP parseS ws, TOk p := by
  intro p hp
  obtain ⟨w, _, rfl⟩ := List.mem_map.1 hp
  cases h : parseS w with
  | none => exact ⟨by decide, by decide, by decide⟩
  | some q => exact parseS_tok h
theorem split_own_fresh (s : ByteArray) (c : UInt8) (hs : s.size ≤ 1048576) (w : World) :
    Calls Tryd.prog 22 #[.string s, .int .u8 (c.toNat : Int)] w fun e w' => ∃ g cap, e = .returned (.slice (some ⟨g, 0, none⟩) (piecesB c s).length cap) ∧ w.heap.size ≤ g ∧ g < w'.heap.size ∧ (∀ (i : Nat) x, (piecesB c s)[i]? = some x → w'.cell? ⟨g, i, none⟩ = some (.string x)) ∧ Below w.heap.size w w' := by
  refine (l01Split_own s c (by omega) w).mono ?_
  rintro e w' ⟨v, rfl, ho, hb⟩
  have hp := pieces_pos c s
  rcases own_val ho with ⟨_, h0⟩ | ⟨g, cap, rfl, hg, hgs, hcap, hm⟩
  · omega
  · exact ⟨g, cap, rfl, hg, hgs, fun i x hx => own_cell ho (by simp [cellsW, hx]), hb⟩
/-- The reference's way through a word. -/
theorem parseS_bad2 {y : ByteArray} (h : (piecesB 58 y).length ≠ 2) : parseS y = none := by
  unfold parseS
  split
  · rename_i h0 h1 e
    rw [e] at h
    simp at h
  · rfl
theorem parseS_bad3 {y h0 h1 : ByteArray} (e : piecesB 58 y = [h0, h1]) (h : (piecesB 47 h0).length ≠ 2) : parseS y = none := by
  unfold parseS
  rw [e]
  simp only []
  split
  · rename_i t0 t1 e2
    rw [e2] at h
    simp at h
  · rfl
theorem parseS_end {y h0 h1 t0 t1 : ByteArray} (e : piecesB 58 y = [h0, h1]) (e2 : piecesB 47 h0 = [t0, t1]) :
    ((l01Num t0 = none ∨ l01Num t1 = none ∨ numOk h1 = false) → parseS y = none) ∧
    ∀ a b, l01Num t0 = some a → l01Num t1 = some b → numOk h1 = true → parseS y = if withinB a 6 200 && withinB b 6 200 then some ((a : Int), (b : Int), readV h1) else none := by
  unfold parseS
  rw [e]
  simp only []
  rw [e2]
  simp only []
  constructor
  · rintro (h | h | h)
    · rw [h]
    · rw [h]
      cases l01Num t0 <;> rfl
    · cases l01Num t0 with
      | none => rfl
      | some a =>
        cases l01Num t1 with
        | none => rfl
        | some b => simp [h]
  · intro a b h1 h2 h3
    rw [h1, h2]
    simp only [h3, Bool.true_and]
theorem two {α : Type} {ws : List α} (h : ws.length = 2) : ∃ a b, ws = [a, b] := by
  match ws, h with
  | [a, b], _ => exact ⟨a, b, rfl⟩

end Go.Proofs.YtkgfepakedieaaaDoor
