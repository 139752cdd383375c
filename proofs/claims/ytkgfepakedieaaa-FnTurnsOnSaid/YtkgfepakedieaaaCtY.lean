/- Trains: what the program and the reference model answer about one (1). -/
import Derived.Test.YtkgfepakedieaaaCtX
namespace Go.Proofs.Ytkgfepakedieaaa
open Go.RowKit

def okK (b : Bool) : Int := if b then 0 else 1

/-- The part of the power that is not lost. -/
def effC (ps : List T3) : Nat := ps.foldl (fun r p => cop .mul r (cop .sub 1065353216 p.2.2)) 1065353216
theorem effC_step (ps : List T3) (j : Nat) (p : T3) (h : ps[j]? = some p) : effC (ps.take (j + 1)) = cop .mul (effC (ps.take j)) (cop .sub 1065353216 p.2.2) := by
  unfold effC
  rw [List.take_add_one, h, List.foldl_append]
  rfl
theorem cnT_zero : cn 0 = 0 := by decide +kernel
theorem cn_one : cn 1065353216 = 1065353216 := by decide +kernel

set_option maxHeartbeats 1000000 in
theorem specEfficiencyOf_any (ps : List T3) (v : Value) (w : World) (hv : Tr w v ps) :
    Calls Try.prog 28 #[v] w fun e w' => ∃ r, e = .returned (.tuple #[.float .f32 r, .int .i64 (okK (trainB ps))]) ∧ cn r = (if trainB ps then effC ps else 0) ∧ r < 2 ^ 32 ∧ Below w.heap.size w w' := by
  obtain ⟨a, cap, rfl, hn, hk, hc⟩ := hv
  have HV : Hid (Tr w (.slice a ps.length cap) ps) := Lib.hid ⟨a, cap, rfl, hn, hk, hc⟩
  have HK := Lib.hid hk
  clear hk
  go_enter Try.func28, Try.ntmps28
  cases hB : trainB ps
  · clear hc
    go_wp2_with (go_at_call 52; refine (l01Ok_any ps _ _ HV.out).mono ?_; rintro e w' ⟨rfl, rfl⟩)
    all_goals (go_ret2; exact ⟨0, rfl, by simp [cnT_zero], by omega, Below.refl _ _⟩)
  · have hl : ps.length ≤ 8 := by
      simp [trainB, withinB] at hB
      omega
    go_wp2_with (go_at_call 52; refine (l01Ok_any ps _ _ HV.out).mono ?_; rintro e w' ⟨rfl, rfl⟩)
    go_loopw [4, 5] (fun x k wr => ∃ (j r : Nat), j ≤ ps.length ∧ k = .int .i64 (j : Int) ∧ x = .float .f32 r ∧ Hid (cn r = effC (ps.take j)) ∧ r < 2 ^ 32 ∧ Below w.heap.size w wr)
      (fun _ k _ => (ps.length - intOf k).toNat)
    case atStart => exact ⟨0, 1065353216, by omega, rfl, rfl, Lib.hid cn_one, by omega, Below.refl _ _⟩
    case round =>
      obtain ⟨j, r, hj, rfl, rfl, hr, hrl, hb⟩ := hrel
      by_cases hlt : j < ps.length
      · obtain ⟨b, off, rfl, hbl, hat⟩ := hc (by omega)
        have hp : ps[j]? = some ps[j] := List.getElem?_eq_getElem hlt
        obtain ⟨c0, c1, c2⟩ := hat j _ hp
        have d2 := (Below.cell hb (p := ⟨b, _, none⟩) hbl).trans c2
        have e1 := effC_step ps j _ hp
        have HE := Lib.hid e1
        clear hc hat c0 c1 c2 e1
        have hsz := hb.size
        go_wp2
        exact ⟨⟨j + 1, _, by omega, rfl, rfl, Lib.hid (by rw [HE.out, ← hr.out]; simp), Loose.op_lt' _, by (repeat' (first | (with_reducible exact Below.refl _ _) | (with_reducible assumption) | (with_reducible refine Below.alloc ?_ ?_ _) | (with_reducible refine below_drewN ?_ _) | (with_reducible refine Below.drew ?_) | (with_reducible refine Below.setCell ?_ ?_ _) | (with_reducible exact Nat.le_refl _) | omega | (simp only [World.size_alloc, World.size_setCell, World.size_drew, World.heap_drewN]; omega) | (simp; omega)))⟩, by simp [intOf]; omega⟩
      · obtain rfl : j = ps.length := by omega
        clear hc
        go_wp2
        go_ret2
        exact ⟨_, rfl, by simpa using hr.out, hrl, hb⟩

set_option maxHeartbeats 1000000 in
theorem implEfficiencyOf_any (ps : List T3) (v : Value) (w : World) (hv : Tr w v ps) :
    Calls Try.prog 27 #[v] w fun e w' => ∃ r, e = .returned (.tuple #[.float .f32 r, .int .i64 (okK (trainB ps))]) ∧ cn r = (if trainB ps then effC ps else 0) ∧ r < 2 ^ 32 ∧ Below w.heap.size w w' := by
  obtain ⟨a, cap, rfl, hn, hk, hc⟩ := hv
  have HV : Hid (Tr w (.slice a ps.length cap) ps) := Lib.hid ⟨a, cap, rfl, hn, hk, hc⟩
  have HK := Lib.hid hk
  clear hk
  go_enter Try.func27, Try.ntmps27
  cases hB : trainB ps
  · clear hc
    go_wp2_with (go_at_call 51; refine (implValidTrain_any ps _ _ HV.out).mono ?_; rintro e w1 ⟨rfl, hb⟩)
    all_goals (go_ret2; exact ⟨0, rfl, by simp [cnT_zero], by omega, hb⟩)
  · have hl : ps.length ≤ 8 := by
      simp [trainB, withinB] at hB
      omega
    go_wp2_with (go_at_call 51; refine (implValidTrain_any ps _ _ HV.out).mono ?_; rintro e w1 ⟨rfl, hb⟩)
    go_loopw [4, 12] (fun x k wr => ∃ (j r : Nat), j ≤ ps.length ∧ k = .int .i64 (j : Int) ∧ x = .float .f32 r ∧ Hid (cn r = effC (ps.take j)) ∧ r < 2 ^ 32 ∧ Below w.heap.size w wr)
      (fun _ k _ => (ps.length - intOf k).toNat)
    case atStart => exact ⟨0, 1065353216, by omega, rfl, rfl, Lib.hid cn_one, by omega, hb⟩
    case round =>
      obtain ⟨j, r, hj, rfl, rfl, hr, hrl, hb⟩ := hrel
      by_cases hlt : j < ps.length
      · obtain ⟨b, off, rfl, hbl, hat⟩ := hc (by omega)
        have hp : ps[j]? = some ps[j] := List.getElem?_eq_getElem hlt
        obtain ⟨c0, c1, c2⟩ := hat j _ hp
        have d0 := (Below.cell hb (p := ⟨b, _, none⟩) hbl).trans c0
        have d1 := (Below.cell hb (p := ⟨b, _, none⟩) hbl).trans c1
        have d2 := (Below.cell hb (p := ⟨b, _, none⟩) hbl).trans c2
        have e1 := effC_step ps j _ hp
        have HE := Lib.hid e1
        clear hc hat c0 c1 c2 e1
        have hsz := hb.size
        go_wp2
        exact ⟨⟨j + 1, _, by omega, rfl, rfl, Lib.hid (by rw [HE.out, ← hr.out]; simp), Loose.op_lt' _, by (repeat' (first | (with_reducible exact Below.refl _ _) | (with_reducible assumption) | (with_reducible refine Below.alloc ?_ ?_ _) | (with_reducible refine below_drewN ?_ _) | (with_reducible refine Below.drew ?_) | (with_reducible refine Below.setCell ?_ ?_ _) | (with_reducible exact Nat.le_refl _) | omega | (simp only [World.size_alloc, World.size_setCell, World.size_drew, World.heap_drewN]; omega) | (simp; omega)))⟩, by simp [intOf]; omega⟩
      · obtain rfl : j = ps.length := by omega
        clear hc
        go_wp2
        go_ret2
        exact ⟨_, rfl, by simpa using hr.out, hrl, hb⟩

end Go.Proofs.Ytkgfepakedieaaa
