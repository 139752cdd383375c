/- Trains: what the program and the reference model answer about one (1). -/
import Derived.Test.YtkgfepakedieaaaGreatDoorMkZ
namespace Go.Proofs.YtkgfepakedieaaaGreatDoor
open Go.RowKit

def okK (b : Bool) : Int := if b then 0 else 1

set_option maxRecDepth 100000 in
set_option maxHeartbeats 400000 in
theorem implIsReversed_any (ps : List T3) (v : Value) (w : World) (hv : Tr w v ps) :
    Calls Tryz.prog 24 #[v] w fun e w' => e = .returned (.tuple #[.bool (trainB ps && ((ps.length : Int) % 2 == 1)), .int .i64 (okK (trainB ps))]) ∧ Below w.heap.size w w' := by
  have hlen : trainB ps = true → ps.length ≤ 8 := fun h => by
    simp [trainB, withinB] at h
    omega
  obtain ⟨a, cap, rfl, hr⟩ := hv
  have HV : Hid (Tr w (.slice a ps.length cap) ps) := Lib.hid ⟨a, cap, rfl, hr⟩
  clear hr
  go_enter Tryz.func24, Tryz.ntmps24
  cases hB : trainB ps
  · go_wp2_with (go_at_call 17; refine (implValidTrain_any ps _ _ HV.out).mono ?_; rintro e w1 ⟨rfl, hb⟩)
    all_goals (go_ret2; exact ⟨by simp [okK], hb⟩)
  · have hl := hlen hB
    go_wp2_with (go_at_call 17; refine (implValidTrain_any ps _ _ HV.out).mono ?_; rintro e w1 ⟨rfl, hb⟩)
    all_goals (go_ret2; exact ⟨by simp [okK], hb⟩)

/-- The part of the power that is not lost. -/
def effC (ps : List T3) : Nat := ps.foldl (fun r p => cop .mul r (cop .sub 1065353216 p.2.2)) 1065353216
theorem effC_step (ps : List T3) (j : Nat) (p : T3) (h : ps[j]? = some p) : effC (ps.take (j + 1)) = cop .mul (effC (ps.take j)) (cop .sub 1065353216 p.2.2) := by
  unfold effC
  rw [List.take_add_one, h, List.foldl_append]
  rfl
theorem cnT_zero : cn 0 = 0 := by decide +kernel
theorem cn_one : cn 1065353216 = 1065353216 := by decide +kernel

end Go.Proofs.YtkgfepakedieaaaGreatDoor
