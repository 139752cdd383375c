/- Trains: what the program and the reference model answer about one (3): one pair. -/
import Derived.Test.YtkgfepakedieaaaCtZ
import Derived.RegionTactic
import Derived.BigRegion
namespace Go.Proofs.Ytkgfepakedieaaa
open Go.RowKit

/-- The code of a train and a pair. -/
def pairK (ps : List T3) (i : Int) : Int := if trainB ps then (if withinB i 0 (ps.length - 1) then 0 else 2) else 1

set_option maxHeartbeats 400000 in
theorem isPair_any (ps : List T3) (v : Value) (i : Int) (w : World) (hv : Tr w v ps) (hB : trainB ps = true) :
    Calls Try.prog 56 #[v, .int .i64 i] w fun e w' => e = .returned (.bool (withinB i 0 (ps.length - 1))) ∧ w = w' := by
  have hlen : ps.length ≤ 8 := by
    simp [trainB, withinB] at hB
    omega
  obtain ⟨a, cap, rfl, hr⟩ := hv
  clear hr
  go_enter Try.func56, Try.ntmps56
  go_wp2_with (go_at_call 74; refine (within_any _ _ _ _).mono ?_; rintro e w' ⟨rfl, rfl⟩)
  all_goals (go_ret; exact ⟨rfl, rfl⟩)

def meetC (ps : List T3) (i : Int) : Int :=
  if pairK ps i = 0 then (((ps.getD i.toNat (0, 0, 0)).2.1.toNat / Nat.gcd (ps.getD i.toNat (0, 0, 0)).1.toNat (ps.getD i.toNat (0, 0, 0)).2.1.toNat : Nat) : Int) else 0

set_option maxHeartbeats 1000000 in
theorem implTurnsToMeet_any (ps : List T3) (v : Value) (i : Int) (w : World) (hv : Tr w v ps) :
    Calls Try.prog 38 #[v, .int .i64 i] w fun e w' => e = .returned (.tuple #[.int .i64 (meetC ps i), .int .i64 (pairK ps i)]) ∧ Below w.heap.size w w' := by
  have HV := Lib.hid hv
  by_cases h0 : pairK ps i = 0
  · have hB : trainB ps = true := by
      cases h : trainB ps
      · simp [pairK, h] at h0
      · rfl
    have hi : 0 ≤ i ∧ i < ps.length := by
      simp [pairK, hB, withinB] at h0
      omega
    obtain ⟨j, rfl⟩ : ∃ j : Nat, i = (j : Int) := ⟨i.toNat, by omega⟩
    have hlt : j < ps.length := by omega
    obtain ⟨a, cap, rfl, hn, hk, hc⟩ := hv
    obtain ⟨b, off, rfl, hbl, hat⟩ := hc (by omega)
    have hp : ps[j]? = some ps[j] := List.getElem?_eq_getElem hlt
    obtain ⟨c0, c1, c2⟩ := hat j _ hp
    obtain ⟨t1, t2, t3, t4⟩ := teeth hB (List.getElem_mem hlt)
    have hm : meetC ps j = ((ps[j].2.1.toNat / Nat.gcd ps[j].1.toNat ps[j].2.1.toNat : Nat) : Int) := by
      unfold meetC
      rw [if_pos h0]
      simp [List.getD_eq_getElem?_getD, hp]
    rw [hm, h0]
    obtain ⟨x, hx⟩ : ∃ x : Nat, ps[j].1 = (x : Int) := ⟨ps[j].1.toNat, by omega⟩
    obtain ⟨y, hy⟩ : ∃ y : Nat, ps[j].2.1 = (y : Int) := ⟨ps[j].2.1.toNat, by omega⟩
    rw [hx] at c0 t1 t2
    rw [hy] at c1 t3 t4
    rw [hx, hy, Int.toNat_natCast, Int.toNat_natCast]
    have hl : ps.length ≤ 8 := by
      simp [trainB, withinB] at hB
      omega
    have hg := Nat.gcd_pos_of_pos_left y (show 0 < x by omega)
    have d2 := Nat.div_le_self y (Nat.gcd x y)
    have i3 : 0 ≤ (y : Int) / ((Nat.gcd x y : Nat) : Int) := Int.ediv_nonneg (by omega) (by omega)
    have i4 : (y : Int) / ((Nat.gcd x y : Nat) : Int) ≤ 200 := by rw [← Int.natCast_ediv]; omega
    have H0 := Lib.hid h0
    clear hc hat hm hx hy h0 hk
    go_enter Try.func38, Try.ntmps38
    have hw : withinB (j : Int) 0 (ps.length - 1) = true := by simp [withinB]; omega
    go_wp2_with (first | (go_at_call 51; refine (implValidTrain_any ps _ _ HV.out).mono ?_; (rintro e w1 ⟨rfl, hb⟩; have d0 := (Below.cell hb (p := ⟨b, _, none⟩) hbl).trans c0; have d1 := (Below.cell hb (p := ⟨b, _, none⟩) hbl).trans c1; have HB := Lib.hid hb)) | (go_at_call 56; refine (isPair_any ps _ _ _ (HV.out.below hb) hB).mono ?_; rintro e w' ⟨rfl, rfl⟩))
    go_region
    all_goals go_wp2_with (go_at_call 62; refine (gcd_any _ _ _ (by omega) (by omega)).mono ?_; (rintro e w3 ⟨rfl, hb3⟩))
    all_goals (go_ret2; exact ⟨by simp, below_then (by (repeat' (first | (with_reducible exact Below.refl _ _) | (with_reducible assumption) | (with_reducible refine Below.alloc ?_ ?_ _) | (with_reducible refine below_drewN ?_ _) | (with_reducible refine Below.drew ?_) | (with_reducible refine Below.setCell ?_ ?_ _) | (with_reducible exact Nat.le_refl _) | omega | (simp only [World.size_alloc, World.size_setCell, World.size_drew, World.heap_drewN]; omega) | (simp; omega)))) hb3⟩)
  · have hm : meetC ps i = 0 := if_neg h0
    rw [hm]
    go_enter Try.func38, Try.ntmps38
    cases hB : trainB ps
    · have hk : pairK ps i = 1 := by simp [pairK, hB]
      rw [hk]
      go_wp2_with (first | (go_at_call 51; refine (implValidTrain_any ps _ _ HV.out).mono ?_; (rintro e w1 ⟨rfl, hb⟩)))
      all_goals (go_ret2; exact ⟨rfl, hb⟩)
    · have hw : withinB i 0 (ps.length - 1) = false := by
        cases h : withinB i 0 (ps.length - 1)
        · rfl
        · simp [pairK, hB, h] at h0
      have hk : pairK ps i = 2 := by simp [pairK, hB, hw]
      rw [hk]
      clear hk hm
      go_wp2_with (first | (go_at_call 51; refine (implValidTrain_any ps _ _ HV.out).mono ?_; (rintro e w1 ⟨rfl, hb⟩)) | (go_at_call 56; refine (isPair_any ps _ _ _ (HV.out.below hb) hB).mono ?_; rintro e w' ⟨rfl, rfl⟩))
      all_goals (go_ret2; exact ⟨rfl, hb⟩)

end Go.Proofs.Ytkgfepakedieaaa
