/- Plain laws: a train is read from its text; a number from its. -/
import Derived.Test.YtkgfepakedieaaaGreatDoorDeZ
import Derived.Test.YtkgfepakedieaaaGreatDoorCtRt
namespace Go.Proofs.YtkgfepakedieaaaGreatDoor
open Go.RowKit

theorem num_text (x : Nat) (hx : x < 2 ^ 32) : numOk (numText x) = true ∧ readV (numText x) = cn x := by
  have e : numText x = numText (cn x) := by
    unfold numText
    rw [cn_cn]
  rw [e]
  exact readV_num (cn_lt hx) (cn_cn x)

theorem pieces_text {ps : List T3} (h : ps ≠ []) : piecesB 32 (trainTextB ps) = ps.map pairText := by
  unfold piecesB trainTextB
  show (splitL 32 (Lib.join (ps.map fun p => (pairText p).data.toList) [32])).map _ = _
  rw [splitL_of_join 32 _ (by simpa using h) (by
    intro l hl
    obtain ⟨p, _, rfl⟩ := List.mem_map.1 hl
    exact free32 p), List.map_map]
  rfl

theorem rt_text {ps : List T3} (hB : trainB ps = true) (hk : ∀ p ∈ ps, POk p) (h0 : ps ≠ []) : rtS (trainText ps) = true ∧ rtR (trainText ps) = ps := by
  have e : trainText ps = trainTextB ps := if_pos hB
  obtain ⟨ha, hg⟩ := getP_pairs (f := parseS) (ps := ps) fun p hp => parseS_pair (hk p hp)
  rw [← pieces_text h0] at ha hg
  have hS : rtS (trainText ps) = true := by
    unfold rtS
    rw [e, ha, hg, hB]
    rfl
  refine ⟨hS, ?_⟩
  unfold rtR
  rw [if_pos hS, e, hg]

end Go.Proofs.YtkgfepakedieaaaGreatDoor
