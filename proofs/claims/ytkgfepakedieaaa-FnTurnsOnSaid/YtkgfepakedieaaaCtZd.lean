/- Trains: the pair with the greatest loss; whether two trains are the same. -/
import Derived.Test.YtkgfepakedieaaaCtZ
import Derived.RegionTactic
import Derived.BigRegion
namespace Go.Proofs.Ytkgfepakedieaaa
open Go.RowKit

def lossAt (ps : List T3) (i : Nat) : Nat := (ps.getD i (0, 0, 0)).2.2
/-- The place of the greatest loss among the first ones. -/
def worst (ps : List T3) : Nat → Nat
  | 0 => 0
  | j + 1 => if flt .f32 (lossAt ps (worst ps j)) (lossAt ps j) then j else worst ps j
theorem worst_lt (ps : List T3) : ∀ j, 0 < j → worst ps j < j
  | 0, h => by omega
  | 1, _ => by
    unfold worst
    split
    · omega
    · simp [worst]
  | j + 2, _ => by
    have := worst_lt ps (j + 1) (by omega)
    have e : worst ps (j + 2) = if flt .f32 (lossAt ps (worst ps (j + 1))) (lossAt ps (j + 1)) then j + 1 else worst ps (j + 1) := rfl
    rw [e]
    split <;> omega
theorem lossAt_eq {ps : List T3} {i : Nat} {p : T3} (h : ps[i]? = some p) : lossAt ps i = p.2.2 := by
  simp [lossAt, List.getD_eq_getElem?_getD, h]

set_option maxHeartbeats 1000000 in
theorem implWorstPair_any (ps : List T3) (v : Value) (w : World) (hv : Tr w v ps) :
    Calls Try.prog 33 #[v] w fun e w' => e = .returned (.tuple #[.int .i64 (if trainB ps then (worst ps ps.length : Nat) else 0), .float .f32 (if trainB ps then lossAt ps (worst ps ps.length) else 0), .int .i64 (okK (trainB ps))]) ∧ Below w.heap.size w w' := by
  obtain ⟨a, cap, rfl, hn, hk, hc⟩ := hv
  have HV : Hid (Tr w (.slice a ps.length cap) ps) := Lib.hid ⟨a, cap, rfl, hn, hk, hc⟩
  clear hk
  go_enter Try.func33, Try.ntmps33
  cases hB : trainB ps
  · clear hc
    go_wp2_with (go_at_call 51; refine (implValidTrain_any ps _ _ HV.out).mono ?_; rintro e w1 ⟨rfl, hb⟩)
    all_goals (go_ret3; exact ⟨by simp [okK], hb⟩)
  · have hl : 1 ≤ ps.length ∧ ps.length ≤ 8 := by
      simp [trainB, withinB] at hB
      omega
    obtain ⟨b, off, rfl, hbl, hat⟩ := hc (by omega)
    go_wp2_with (go_at_call 51; refine (implValidTrain_any ps _ _ HV.out).mono ?_; rintro e w1 ⟨rfl, hb⟩)
    go_loopw [5, 13] (fun x k wr => ∃ (j m : Nat), 0 ≤ j ∧ j ≤ ps.length ∧ k = .int .i64 (j : Int) ∧ x = .int .i64 (m : Int) ∧ Hid (m = worst ps j) ∧ m < ps.length ∧ Below w.heap.size w wr)
      (fun _ k _ => (ps.length - intOf k).toNat)
    case atStart =>
      exact ⟨0, 0, by omega, by omega, rfl, rfl, Lib.hid rfl, by omega, hb⟩
    case round =>
      obtain ⟨j, m, hj1, hj, rfl, rfl, hm, hmj, hb⟩ := hrel
      have hpm : ps[m]? = some ps[m] := List.getElem?_eq_getElem (by omega)
      have m2 := (Below.cell hb (p := ⟨b, _, none⟩) hbl).trans (hat m _ hpm).2.2
      by_cases hlt : j < ps.length
      · have hp : ps[j]? = some ps[j] := List.getElem?_eq_getElem hlt
        have d0 := (Below.cell hb (p := ⟨b, _, none⟩) hbl).trans (hat j _ hp).1
        have d1 := (Below.cell hb (p := ⟨b, _, none⟩) hbl).trans (hat j _ hp).2.1
        have d2 := (Below.cell hb (p := ⟨b, _, none⟩) hbl).trans (hat j _ hp).2.2
        have hsz := hb.size
        have mz : wr.cell? ⟨b, off + m * 3 + 2, none⟩ = some (.float .f32 ps[m].2.2) := m2
        have lz : b < wr.heap.size := by omega
        have e1 : worst ps (j + 1) = if flt .f32 ps[m].2.2 ps[j].2.2 then j else m := by
          show (if _ then j else worst ps j) = _
          rw [← hm.out, lossAt_eq hpm, lossAt_eq hp]
        have HE := Lib.hid e1
        have HA := Lib.hid hat
        clear hat e1
        clear hc
        cases hf : flt .f32 ps[m].2.2 ps[j].2.2
        · go_wp2
          go_region
          go_wp2
          exact ⟨⟨j + 1, m, by omega, by omega, rfl, rfl, Lib.hid (by rw [HE.out, hf]; rfl), by omega, by (repeat' (first | (with_reducible exact Below.refl _ _) | (with_reducible assumption) | (with_reducible refine Below.alloc ?_ ?_ _) | (with_reducible refine below_drewN ?_ _) | (with_reducible refine Below.drew ?_) | (with_reducible refine Below.setCell ?_ ?_ _) | (with_reducible exact Nat.le_refl _) | omega | (simp only [World.size_alloc, World.size_setCell, World.size_drew, World.heap_drewN]; omega) | (simp; omega)))⟩, by simp [intOf]; omega⟩
        · go_wp2
          go_region
          go_wp2
          exact ⟨⟨j + 1, j, by omega, by omega, rfl, rfl, Lib.hid (by rw [HE.out, hf]; rfl), by omega, by (repeat' (first | (with_reducible exact Below.refl _ _) | (with_reducible assumption) | (with_reducible refine Below.alloc ?_ ?_ _) | (with_reducible refine below_drewN ?_ _) | (with_reducible refine Below.drew ?_) | (with_reducible refine Below.setCell ?_ ?_ _) | (with_reducible exact Nat.le_refl _) | omega | (simp only [World.size_alloc, World.size_setCell, World.size_drew, World.heap_drewN]; omega) | (simp; omega)))⟩, by simp [intOf]; omega⟩
      · obtain rfl : j = ps.length := by omega
        have HA := Lib.hid hat
        clear hat
        have HM := Lib.hid hm.out.symm
        clear hc hm
        go_wp2
        go_region
        all_goals go_wp2
        all_goals go_ret3
        all_goals exact ⟨by simp [okK, HM.out, lossAt_eq hpm], by (repeat' (first | (with_reducible exact Below.refl _ _) | (with_reducible assumption) | (with_reducible refine Below.alloc ?_ ?_ _) | (with_reducible refine below_drewN ?_ _) | (with_reducible refine Below.drew ?_) | (with_reducible refine Below.setCell ?_ ?_ _) | (with_reducible exact Nat.le_refl _) | omega | (simp only [World.size_alloc, World.size_setCell, World.size_drew, World.heap_drewN]; omega) | (simp; omega)))⟩

theorem worst_ok {w : World} {v : Value} {ps : List T3} (hv : Tr w v ps) : (if trainB ps then lossAt ps (worst ps ps.length) else 0) < 2 ^ 32 := by
  obtain ⟨a, cap, rfl, hn, hk, hc⟩ := hv
  split
  · rename_i hB
    have hl : 1 ≤ ps.length ∧ ps.length ≤ 8 := by
      simp [trainB, withinB] at hB
      omega
    have := worst_lt ps ps.length (by omega)
    rw [lossAt_eq (List.getElem?_eq_getElem this)]
    exact (hk _ (List.getElem_mem this)).2.2
  · omega

theorem implWorst_r (ps : List T3) (v : Value) (w : World) (hv : Tr w v ps) :
    Calls Try.prog 33 #[v] w fun e w' => ∃ r, e = .returned (.tuple #[.int .i64 (if trainB ps then (worst ps ps.length : Nat) else 0), .float .f32 r, .int .i64 (okK (trainB ps))]) ∧ cn r = cn (if trainB ps then lossAt ps (worst ps ps.length) else 0) ∧ r < 2 ^ 32 ∧ Below w.heap.size w w' :=
  (implWorstPair_any ps v w hv).mono fun _ _ ⟨h, hb⟩ => ⟨_, h, rfl, worst_ok hv, hb⟩

end Go.Proofs.Ytkgfepakedieaaa
