/- Trains: what the program and the reference model answer about one (2): whole numbers. -/
import Derived.Test.YtkgfepakedieaaaGreatDoorCtY
import Derived.RegionTactic
import Derived.OwnWalk
import Derived.BigRegion
namespace Go.Proofs.YtkgfepakedieaaaGreatDoor
open Go.RowKit

set_option maxRecDepth 100000 in
set_option maxHeartbeats 400000 in
theorem gcd_any (a b : Nat) (w : World) (ha : a ≤ 9223372036854775807) (hb : b ≤ 9223372036854775807) :
    Calls Tryz.prog 51 #[.int .i64 (a : Int), .int .i64 (b : Int)] w fun e w' => e = .returned (.int .i64 (Nat.gcd a b : Nat)) ∧ Below w.heap.size w w' := by
  go_enter Tryz.func51, Tryz.ntmps51
  go_wp2
  go_loopw [0, 1] (fun x y wr => ∃ (p q : Nat), x = .int .i64 (p : Int) ∧ y = .int .i64 (q : Int) ∧ p ≤ 9223372036854775807 ∧ q ≤ 9223372036854775807 ∧ Hid (Nat.gcd p q = Nat.gcd a b) ∧ Below w.heap.size w wr)
    (fun _ y _ => (intOf y).toNat)
  case atStart => exact ⟨a, b, rfl, rfl, ha, hb, Lib.hid rfl, Below.refl _ _⟩
  case round =>
    obtain ⟨p, q, rfl, rfl, hp, hq, hg, hbb⟩ := hrel
    by_cases h0 : q = 0
    · subst h0
      go_wp2
      go_ret
      exact ⟨by rw [← hg.out]; simp, hbb⟩
    · have hm := Nat.mod_lt p (Nat.pos_of_ne_zero h0)
      go_wp2
      go_region
      go_wp2
      exact ⟨⟨q, p % q, rfl, by simp, hq, by omega, Lib.hid (by rw [← hg.out, Nat.gcd_comm p q, Nat.gcd_rec q p, Nat.gcd_comm]), by (repeat' (first | (with_reducible exact Below.refl _ _) | (with_reducible assumption) | (with_reducible refine Below.alloc ?_ ?_ _) | (with_reducible refine below_drewN ?_ _) | (with_reducible refine Below.drew ?_) | (with_reducible refine Below.setCell ?_ ?_ _) | (with_reducible exact Nat.le_refl _) | omega | (simp only [World.size_alloc, World.size_setCell, World.size_drew, World.heap_drewN]; omega) | (simp; omega)))⟩, by simp [intOf]; omega⟩

/-- The products of the drivers and of the driven wheels. -/
def numN (ps : List T3) : Nat := ps.foldl (fun r p => r * p.1.toNat) 1
def denN (ps : List T3) : Nat := ps.foldl (fun r p => r * p.2.1.toNat) 1
theorem numN_step (ps : List T3) (j : Nat) (p : T3) (h : ps[j]? = some p) : numN (ps.take (j + 1)) = numN (ps.take j) * p.1.toNat := by
  unfold numN
  rw [List.take_add_one, h, List.foldl_append]
  rfl
theorem denN_step (ps : List T3) (j : Nat) (p : T3) (h : ps[j]? = some p) : denN (ps.take (j + 1)) = denN (ps.take j) * p.2.1.toNat := by
  unfold denN
  rw [List.take_add_one, h, List.foldl_append]
  rfl
theorem teeth {ps : List T3} (h : trainB ps = true) {p : T3} (hp : p ∈ ps) : 6 ≤ p.1 ∧ p.1 ≤ 200 ∧ 6 ≤ p.2.1 ∧ p.2.1 ≤ 200 := by
  simp only [trainB, Bool.and_eq_true, List.all_eq_true] at h
  have := h.2 p hp
  simp [pairB, withinB] at this
  omega
theorem grow {a j : Nat} {x : Int} (h1 : 1 ≤ a) (h2 : a ≤ 200 ^ j) (hj : j < 8) (hx : 6 ≤ x) (hx2 : x ≤ 200) :
    1 ≤ a * x.toNat ∧ a * x.toNat ≤ 200 ^ (j + 1) ∧ (a : Int) * x = ((a * x.toNat : Nat) : Int) ∧ a * x.toNat ≤ 2560000000000000000 := by
  have e : (x.toNat : Int) = x := Int.toNat_of_nonneg (by omega)
  have hx3 : x.toNat ≤ 200 := by omega
  have hx4 : 1 ≤ x.toNat := by omega
  have hm : a * x.toNat ≤ 200 ^ (j + 1) := by
    rw [Nat.pow_succ]
    exact Nat.mul_le_mul h2 hx3
  refine ⟨Nat.mul_pos h1 hx4, hm, by rw [Int.natCast_mul, e], Nat.le_trans hm ?_⟩
  exact Nat.le_trans (Nat.pow_le_pow_right (by omega) (by omega : j + 1 ≤ 8)) (by decide)

set_option maxRecDepth 100000 in
set_option maxHeartbeats 1000000 in
theorem implRatioOf_any (ps : List T3) (v : Value) (w : World) (hv : Tr w v ps) :
    Calls Tryz.prog 22 #[v] w fun e w' => e = .returned (.tuple #[.int .i64 (if trainB ps then (numN ps / Nat.gcd (numN ps) (denN ps) : Nat) else 0), .int .i64 (if trainB ps then (denN ps / Nat.gcd (numN ps) (denN ps) : Nat) else 0), .int .i64 (okK (trainB ps))]) ∧ Below w.heap.size w w' := by
  obtain ⟨a, cap, rfl, hn, hk, hc⟩ := hv
  have HV : Hid (Tr w (.slice a ps.length cap) ps) := Lib.hid ⟨a, cap, rfl, hn, hk, hc⟩
  have HK := Lib.hid hk
  clear hk
  go_enter Tryz.func22, Tryz.ntmps22
  cases hB : trainB ps
  · clear hc
    go_wp2_with (go_at_call 17; refine (implValidTrain_any ps _ _ HV.out).mono ?_; rintro e w1 ⟨rfl, hb⟩)
    all_goals (go_ret3; exact ⟨by simp [okK], hb⟩)
  · have hl : ps.length ≤ 8 := by
      simp [trainB, withinB] at hB
      omega
    have HT : Hid (∀ p, p ∈ ps → _) := Lib.hid (fun p hp => teeth hB hp)
    go_wp2_with (go_at_call 17; refine (implValidTrain_any ps _ _ HV.out).mono ?_; rintro e w1 ⟨rfl, hb⟩)
    go_loopw [5, 6, 15] (fun x y k wr => ∃ (j p q : Nat), j ≤ ps.length ∧ k = .int .i64 (j : Int) ∧ x = .int .i64 (p : Int) ∧ y = .int .i64 (q : Int) ∧ Hid (p = numN (ps.take j) ∧ q = denN (ps.take j) ∧ 1 ≤ p ∧ 1 ≤ q ∧ p ≤ 200 ^ j ∧ q ≤ 200 ^ j) ∧ Below w.heap.size w wr)
      (fun _ _ k _ => (ps.length - intOf k).toNat)
    case atStart => exact ⟨0, 1, 1, by omega, rfl, rfl, rfl, Lib.hid ⟨rfl, rfl, by omega, by omega, by simp, by simp⟩, hb⟩
    case round =>
      obtain ⟨j, p, q, hj, rfl, rfl, rfl, hr, hb⟩ := hrel
      by_cases hlt : j < ps.length
      · obtain ⟨b, off, rfl, hbl, hat⟩ := hc (by omega)
        have hp : ps[j]? = some ps[j] := List.getElem?_eq_getElem hlt
        obtain ⟨c0, c1, c2⟩ := hat j _ hp
        have d0 := (Below.cell hb (p := ⟨b, _, none⟩) hbl).trans c0
        have d1 := (Below.cell hb (p := ⟨b, _, none⟩) hbl).trans c1
        have d2 := (Below.cell hb (p := ⟨b, _, none⟩) hbl).trans c2
        have hsz := hb.size
        obtain ⟨t1, t2, t3, t4⟩ := HT.out _ (List.getElem_mem hlt)
        obtain ⟨r1, r2, r3, r4, r5, r6⟩ := hr.out
        obtain ⟨g1, g2, g3, g4⟩ := grow r3 r5 (by omega) t1 t2
        obtain ⟨g1', g2', g3', g4'⟩ := grow r4 r6 (by omega) t3 t4
        have w1 : 1 ≤ (p : Int) * ps[j].1 := by rw [g3]; omega
        have w2 : (p : Int) * ps[j].1 ≤ 2560000000000000000 := by rw [g3]; omega
        have w1' : 1 ≤ (q : Int) * ps[j].2.1 := by rw [g3']; omega
        have w2' : (q : Int) * ps[j].2.1 ≤ 2560000000000000000 := by rw [g3']; omega
        have HG := Lib.hid (And.intro (And.intro g2 g2') (And.intro (And.intro g1 g1') (And.intro g3 g3')))
        have HE := Lib.hid (And.intro (numN_step ps j _ hp) (denN_step ps j _ hp))
        clear hc hat c0 c1 c2 r1 r2 r3 r4 r5 r6 g1 g2 g3 g4 g1' g2' g3' g4'
        go_wp2
        refine ⟨⟨j + 1, p * ps[j].1.toNat, q * ps[j].2.1.toNat, by omega, rfl, ?_, ?_, Lib.hid ⟨?_, ?_, HG.out.2.1.1, HG.out.2.1.2, HG.out.1.1, HG.out.1.2⟩, by (repeat' (first | (with_reducible exact Below.refl _ _) | (with_reducible assumption) | (with_reducible refine Below.alloc ?_ ?_ _) | (with_reducible refine below_drewN ?_ _) | (with_reducible refine Below.drew ?_) | (with_reducible refine Below.setCell ?_ ?_ _) | (with_reducible exact Nat.le_refl _) | omega | (simp only [World.size_alloc, World.size_setCell, World.size_drew, World.heap_drewN]; omega) | (simp; omega)))⟩, by simp [intOf]; omega⟩
        · rw [HG.out.2.2.1]
        · rw [HG.out.2.2.2]
        · rw [HE.out.1, ← hr.out.1]
        · rw [HE.out.2, ← hr.out.2.1]
      · obtain rfl : j = ps.length := by omega
        obtain ⟨r1, r2, r3, r4, r5, r6⟩ := hr.out
        rw [List.take_length] at r1 r2
        have b1 : p ≤ 2560000000000000000 := Nat.le_trans r5 (Nat.le_trans (Nat.pow_le_pow_right (by omega) hl) (by decide))
        have b2 : q ≤ 2560000000000000000 := Nat.le_trans r6 (Nat.le_trans (Nat.pow_le_pow_right (by omega) hl) (by decide))
        have hg := Nat.gcd_pos_of_pos_left q r3
        have d1 := Nat.div_le_self p (Nat.gcd p q)
        have d2 := Nat.div_le_self q (Nat.gcd p q)
        have i1 : 0 ≤ (p : Int) / ((Nat.gcd p q : Nat) : Int) := Int.ediv_nonneg (by omega) (by omega)
        have i2 : (p : Int) / ((Nat.gcd p q : Nat) : Int) ≤ 2560000000000000000 := by rw [← Int.natCast_ediv]; omega
        have i3 : 0 ≤ (q : Int) / ((Nat.gcd p q : Nat) : Int) := Int.ediv_nonneg (by omega) (by omega)
        have i4 : (q : Int) / ((Nat.gcd p q : Nat) : Int) ≤ 2560000000000000000 := by rw [← Int.natCast_ediv]; omega
        subst r1 r2
        clear hc r5 r6 hr
        go_wp2_with (go_at_call 51; refine (gcd_any _ _ _ (by omega) (by omega)).mono ?_; (rintro e w2 ⟨rfl, hb2⟩; have hb := below_then hb hb2))
        go_region
        all_goals go_wp2
        all_goals go_ret3
        all_goals exact ⟨by simp [okK], by (repeat' (first | (with_reducible exact Below.refl _ _) | (with_reducible assumption) | (with_reducible refine Below.alloc ?_ ?_ _) | (with_reducible refine below_drewN ?_ _) | (with_reducible refine Below.drew ?_) | (with_reducible refine Below.setCell ?_ ?_ _) | (with_reducible exact Nat.le_refl _) | omega | (simp only [World.size_alloc, World.size_setCell, World.size_drew, World.heap_drewN]; omega) | (simp; omega)))⟩

end Go.Proofs.YtkgfepakedieaaaGreatDoor
