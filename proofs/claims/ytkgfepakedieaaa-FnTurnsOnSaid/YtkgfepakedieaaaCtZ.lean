/- Trains: what the program and the reference model answer about one (2): whole numbers. -/
import Derived.Test.YtkgfepakedieaaaCtY
import Derived.RegionTactic
import Derived.OwnWalk
import Derived.BigRegion
namespace Go.Proofs.Ytkgfepakedieaaa
open Go.RowKit

set_option maxHeartbeats 400000 in
theorem gcd_any (a b : Nat) (w : World) (ha : a ≤ 9223372036854775807) (hb : b ≤ 9223372036854775807) :
    Calls Try.prog 62 #[.int .i64 (a : Int), .int .i64 (b : Int)] w fun e w' => e = .returned (.int .i64 (Nat.gcd a b : Nat)) ∧ Below w.heap.size w w' := by
  go_enter Try.func62, Try.ntmps62
  go_wp2
  go_loopw [0, 1] (fun x y wr => ∃ (p q : Nat), x = .int .i64 (p : Int) ∧ y = .int .i64 (q : Int) ∧ p ≤ 9223372036854775807 ∧ q ≤ 9223372036854775807 ∧ Hid (Nat.gcd p q = Nat.gcd a b) ∧ Below w.heap.size w wr)
    (fun _ y _ => (intOf y).toNat)
  case atStart => exact ⟨a, b, rfl, rfl, ha, hb, Lib.hid rfl, Below.refl _ _⟩
  case round =>
    obtain ⟨p, q, rfl, rfl, hp, hq, hg, hbb⟩ := hrel
    by_cases h0 : q = 0
    · subst h0
      go_wp2
      go_ret
      exact ⟨by rw [← hg.out]; simp, hbb⟩
    · have hm := Nat.mod_lt p (Nat.pos_of_ne_zero h0)
      go_wp2
      go_region
      go_wp2
      exact ⟨⟨q, p % q, rfl, by simp, hq, by omega, Lib.hid (by rw [← hg.out, Nat.gcd_comm p q, Nat.gcd_rec q p, Nat.gcd_comm]), by (repeat' (first | (with_reducible exact Below.refl _ _) | (with_reducible assumption) | (with_reducible refine Below.alloc ?_ ?_ _) | (with_reducible refine below_drewN ?_ _) | (with_reducible refine Below.drew ?_) | (with_reducible refine Below.setCell ?_ ?_ _) | (with_reducible exact Nat.le_refl _) | omega | (simp only [World.size_alloc, World.size_setCell, World.size_drew, World.heap_drewN]; omega) | (simp; omega)))⟩, by simp [intOf]; omega⟩

/-- The products of the drivers and of the driven wheels. -/
def numN (ps : List T3) : Nat := ps.foldl (fun r p => r * p.1.toNat) 1
def denN (ps : List T3) : Nat := ps.foldl (fun r p => r * p.2.1.toNat) 1
theorem numN_step (ps : List T3) (j : Nat) (p : T3) (h : ps[j]? = some p) : numN (ps.take (j + 1)) = numN (ps.take j) * p.1.toNat := by
  unfold numN
  rw [List.take_add_one, h, List.foldl_append]
  rfl
theorem denN_step (ps : List T3) (j : Nat) (p : T3) (h : ps[j]? = some p) : denN (ps.take (j + 1)) = denN (ps.take j) * p.2.1.toNat := by
  unfold denN
  rw [List.take_add_one, h, List.foldl_append]
  rfl
theorem teeth {ps : List T3} (h : trainB ps = true) {p : T3} (hp : p ∈ ps) : 6 ≤ p.1 ∧ p.1 ≤ 200 ∧ 6 ≤ p.2.1 ∧ p.2.1 ≤ 200 := by
  simp only [trainB, Bool.and_eq_true, List.all_eq_true] at h
  have := h.2 p hp
  simp [pairB, withinB] at this
  omega
theorem grow {a j : Nat} {x : Int} (h1 : 1 ≤ a) (h2 : a ≤ 200 ^ j) (hj : j < 8) (hx : 6 ≤ x) (hx2 : x ≤ 200) :
    1 ≤ a * x.toNat ∧ a * x.toNat ≤ 200 ^ (j + 1) ∧ (a : Int) * x = ((a * x.toNat : Nat) : Int) ∧ a * x.toNat ≤ 2560000000000000000 := by
  have e : (x.toNat : Int) = x := Int.toNat_of_nonneg (by omega)
  have hx3 : x.toNat ≤ 200 := by omega
  have hx4 : 1 ≤ x.toNat := by omega
  have hm : a * x.toNat ≤ 200 ^ (j + 1) := by
    rw [Nat.pow_succ]
    exact Nat.mul_le_mul h2 hx3
  refine ⟨Nat.mul_pos h1 hx4, hm, by rw [Int.natCast_mul, e], Nat.le_trans hm ?_⟩
  exact Nat.le_trans (Nat.pow_le_pow_right (by omega) (by omega : j + 1 ≤ 8)) (by decide)

end Go.Proofs.Ytkgfepakedieaaa
