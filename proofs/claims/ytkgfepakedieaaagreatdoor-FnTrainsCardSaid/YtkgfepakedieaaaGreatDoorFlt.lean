/- Floating point as numbers: the magnitude that a word stands for, in units of the least place; how words compare; that a number which the format has is written as itself. No program here. -/
import Ieee.Arith
namespace Go.Proofs.YtkgfepakedieaaaGreatDoor.Flt
open Ieee

variable (f : Format)

theorem binade_pos : 0 < f.binade := Nat.two_pow_pos _

/-- The magnitude of a rung, in units of the least place. -/
def mag (r : Nat) : Nat := if r < f.binade then r else (f.binade + r % f.binade) * 2 ^ (r / f.binade - 1)

theorem mag_small {r : Nat} (h : r < f.binade) : mag f r = r := if_pos h
theorem mag_big {r : Nat} (h : ¬ r < f.binade) : mag f r = (f.binade + r % f.binade) * 2 ^ (r / f.binade - 1) := if_neg h

theorem mag_lt {r r' : Nat} (h : r < r') : mag f r < mag f r' := by
  have hB := binade_pos f
  by_cases h1 : r < f.binade
  · rw [mag_small f h1]
    by_cases h2 : r' < f.binade
    · rw [mag_small f h2]; exact h
    · rw [mag_big f h2]
      have : 1 ≤ 2 ^ (r' / f.binade - 1) := Nat.one_le_two_pow
      calc r < f.binade + r' % f.binade := by omega
        _ = (f.binade + r' % f.binade) * 1 := (Nat.mul_one _).symm
        _ ≤ _ := Nat.mul_le_mul_left _ this
  · have h2 : ¬ r' < f.binade := by omega
    rw [mag_big f h1, mag_big f h2]
    have e1 := Nat.div_add_mod r f.binade
    have e2 := Nat.div_add_mod r' f.binade
    have m1 := Nat.mod_lt r hB
    have q1 : 1 ≤ r / f.binade := (Nat.one_le_div_iff hB).2 (by omega)
    have hq : r / f.binade ≤ r' / f.binade := Nat.div_le_div_right (by omega)
    rcases Nat.lt_or_eq_of_le hq with hlt | heq
    · have p1 : 0 < 2 ^ (r / f.binade - 1) := Nat.two_pow_pos _
      have hs : r / f.binade - 1 + 1 ≤ r' / f.binade - 1 := by omega
      have h3 : 2 ^ (r / f.binade - 1 + 1) ≤ 2 ^ (r' / f.binade - 1) := Nat.pow_le_pow_right (by omega) hs
      rw [Nat.pow_succ] at h3
      calc (f.binade + r % f.binade) * 2 ^ (r / f.binade - 1) < (f.binade * 2) * 2 ^ (r / f.binade - 1) := Nat.mul_lt_mul_of_pos_right (by omega) p1
        _ = f.binade * (2 ^ (r / f.binade - 1) * 2) := by rw [Nat.mul_assoc, Nat.mul_comm 2]
        _ ≤ f.binade * 2 ^ (r' / f.binade - 1) := Nat.mul_le_mul_left _ h3
        _ ≤ _ := Nat.mul_le_mul_right _ (Nat.le_add_right _ _)
    · rw [heq]
      rw [heq] at e1
      exact Nat.mul_lt_mul_of_pos_right (by omega) (Nat.two_pow_pos _)

theorem mag_inj {r r' : Nat} (h : mag f r = mag f r') : r = r' := by
  rcases Nat.lt_trichotomy r r' with hl | he | hl
  · have := mag_lt f hl; omega
  · exact he
  · have := mag_lt f hl; omega
theorem mag_le {r r' : Nat} (h : r ≤ r') : mag f r ≤ mag f r' := by
  rcases Nat.lt_or_eq_of_le h with hl | rfl
  · exact Nat.le_of_lt (mag_lt f hl)
  · exact Nat.le_refl _
theorem lt_of_mag {r r' : Nat} (h : mag f r < mag f r') : r < r' := by
  rcases Nat.lt_or_ge r r' with hl | hl
  · exact hl
  · have := mag_le f hl; omega
theorem mag_zero : mag f 0 = 0 := mag_small f (binade_pos f)

/-- A word's sign and rung. -/
def sgn (w : Nat) : Bool := w / f.signWeight % 2 == 1
def rung (w : Nat) : Nat := w % f.signWeight
/-- Finite: a number. -/
def fin (w : Nat) : Bool := decide (rung f w < f.infRung)
/-- The number with its sign, in units of the least place. -/
def sg (w : Nat) : Int := if sgn f w then -(mag f (rung f w) : Int) else (mag f (rung f w) : Int)

theorem read_fin {w : Nat} (h : fin f w = true) : ∃ m i, f.read w = .number (sgn f w) m i ∧ f.leastPlace ≤ i ∧ m * 2 ^ (i - f.leastPlace).toNat = mag f (rung f w) := by
  have h' : rung f w < f.infRung := by simpa [fin] using h
  unfold Format.read
  by_cases h1 : rung f w < f.binade
  · refine ⟨rung f w, f.leastPlace, ?_, Int.le_refl _, ?_⟩
    · simp only [sgn, rung] at *
      rw [if_pos h1]
    · rw [mag_small f h1, Int.sub_self]
      simp
  · refine ⟨f.binade + rung f w % f.binade, f.leastPlace + (rung f w / f.binade - 1 : Nat), ?_, by omega, ?_⟩
    · simp only [sgn, rung] at *
      rw [if_neg h1, if_pos h']
    · rw [mag_big f h1]
      congr 2
      omega

theorem signed_eq (s : Bool) (m k : Nat) : signed s m k = (if s then -((m * 2 ^ k : Nat) : Int) else ((m * 2 ^ k : Nat) : Int)) := by
  unfold signed
  rw [Nat.shiftLeft_eq]

theorem compare_mul (a b : Int) {c : Int} (h : 0 < c) : compare (a * c) (b * c) = compare a b := by
  show compareOfLessAndEq _ _ = compareOfLessAndEq _ _
  unfold compareOfLessAndEq
  have e1 : (a * c < b * c) ↔ a < b := ⟨fun hh => Int.lt_of_mul_lt_mul_right hh (Int.le_of_lt h), fun hh => Int.mul_lt_mul_of_pos_right hh h⟩
  have e2 : (a * c = b * c) ↔ a = b := ⟨fun hh => Int.eq_of_mul_eq_mul_right (by omega) hh, fun hh => by rw [hh]⟩
  simp only [e1, e2]

theorem signed_scale (s : Bool) (m k : Nat) (n : Nat) : signed s m k * (2 ^ n : Nat) = signed s m (k + n) := by
  rw [signed_eq, signed_eq, Nat.pow_add, ← Nat.mul_assoc]
  cases s
  · simp
  · simp [Int.neg_mul]

theorem order_fin {x y : Nat} (hx : fin f x = true) (hy : fin f y = true) : f.order x y = some (compare (sg f x) (sg f y)) := by
  obtain ⟨m, i, e1, l1, v1⟩ := read_fin f hx
  obtain ⟨n, j, e2, l2, v2⟩ := read_fin f hy
  unfold Format.order
  rw [e1, e2]
  simp only [Datum.order]
  congr 1
  have hc : (0 : Int) < ((2 ^ (min i j - f.leastPlace).toNat : Nat) : Int) := by
    have := Nat.two_pow_pos (min i j - f.leastPlace).toNat
    omega
  rw [← compare_mul _ _ hc, signed_scale, signed_scale]
  have k1 : (i - min i j).toNat + (min i j - f.leastPlace).toNat = (i - f.leastPlace).toNat := by omega
  have k2 : (j - min i j).toNat + (min i j - f.leastPlace).toNat = (j - f.leastPlace).toNat := by omega
  rw [k1, k2, signed_eq, signed_eq, v1, v2]
  rfl

/-- Cutting nothing. -/
theorem cut_zero (neg : Bool) (n : Nat) : Toward.even.cut neg n 0 = n := by
  simp [Toward.cut, Nat.mod_one]

theorem two_pow_toNat_add {a b : Int} (ha : 0 ≤ a) (hb : 0 ≤ b) : 2 ^ a.toNat * 2 ^ b.toNat = 2 ^ (a + b).toNat := by
  rw [← Nat.pow_add]
  congr 1
  omega

/-- A number with few digits is written as it is. -/
theorem nearest_exact (s : Bool) {m : Nat} {i : Int} (hm : m ≠ 0) (hd : m < 2 ^ (f.fractionBits + 1)) (hi : f.leastPlace ≤ i) :
    ∃ r, f.nearest s m i = f.word s (min r f.infRung) ∧ mag f r = m * 2 ^ (i - f.leastPlace).toNat := by
  have hL : m.log2 ≤ f.fractionBits := by
    have := (Nat.log2_lt hm (k := f.fractionBits + 1)).2 hd
    omega
  have hlo : 2 ^ m.log2 ≤ m := Nat.log2_self_le hm
  have hhi : m < 2 ^ (m.log2 + 1) := Nat.lt_log2_self
  have hlast : max (i + m.log2 - f.fractionBits) f.leastPlace ≤ i := by omega
  unfold Format.nearest
  rw [if_neg hm]
  simp only []
  have hdrop : (max (i + m.log2 - f.fractionBits) f.leastPlace - i).toNat = 0 := by omega
  rw [hdrop, cut_zero, Nat.shiftLeft_eq]
  refine ⟨_, rfl, ?_⟩
  have hB : f.binade = 2 ^ f.fractionBits := rfl
  have hBp := binade_pos f
  by_cases hc : i + m.log2 - f.fractionBits ≤ f.leastPlace
  · rw [Int.max_eq_right hc, Int.sub_self]
    simp only [Int.toNat_zero, Nat.zero_mul, Nat.zero_add]
    have hM : m * 2 ^ (i - f.leastPlace).toNat < 2 * f.binade := by
      rw [hB, ← Nat.pow_succ']
      calc m * 2 ^ (i - f.leastPlace).toNat < 2 ^ (m.log2 + 1) * 2 ^ (i - f.leastPlace).toNat := Nat.mul_lt_mul_of_pos_right hhi (Nat.two_pow_pos _)
        _ = 2 ^ (m.log2 + 1 + (i - f.leastPlace).toNat) := (Nat.pow_add ..).symm
        _ ≤ _ := Nat.pow_le_pow_right (by omega) (by omega)
    generalize m * 2 ^ (i - f.leastPlace).toNat = M at hM
    by_cases h1 : M < f.binade
    · exact mag_small f h1
    · rw [mag_big f h1]
      have hq : M / f.binade = 1 := Nat.div_eq_of_lt_le (by omega) (by omega)
      have hr : M % f.binade = M - f.binade := by rw [Nat.mod_eq_sub_mod (by omega), Nat.mod_eq_of_lt (by omega)]
      rw [hq, hr]
      simp
      omega
  · have hc' : f.leastPlace < i + m.log2 - f.fractionBits := by omega
    rw [Int.max_eq_left (Int.le_of_lt hc')]
    have hk : (i - (i + m.log2 - f.fractionBits)).toNat = f.fractionBits - m.log2 := by omega
    rw [hk]
    have hK1 : f.binade ≤ m * 2 ^ (f.fractionBits - m.log2) := by
      calc f.binade = 2 ^ m.log2 * 2 ^ (f.fractionBits - m.log2) := by rw [← Nat.pow_add, hB]; congr 1; omega
        _ ≤ _ := Nat.mul_le_mul_right _ hlo
    have hK2 : m * 2 ^ (f.fractionBits - m.log2) < 2 * f.binade := by
      calc m * 2 ^ (f.fractionBits - m.log2) < 2 ^ (m.log2 + 1) * 2 ^ (f.fractionBits - m.log2) := Nat.mul_lt_mul_of_pos_right hhi (Nat.two_pow_pos _)
        _ = 2 * f.binade := by rw [← Nat.pow_add, hB, ← Nat.pow_succ']; congr 1; omega
    have hfin : m * 2 ^ (f.fractionBits - m.log2) * 2 ^ (i + m.log2 - f.fractionBits - f.leastPlace).toNat = m * 2 ^ (i - f.leastPlace).toNat := by
      rw [Nat.mul_assoc, ← Nat.pow_add]
      congr 2
      omega
    generalize m * 2 ^ (f.fractionBits - m.log2) = K at hK1 hK2 hfin
    generalize (i + m.log2 - f.fractionBits - f.leastPlace).toNat = q at hfin
    have hbig : ¬ (q * f.binade + K) < f.binade := by
      have := Nat.zero_le (q * f.binade)
      omega
    have hdiv : (q * f.binade + K) / f.binade = q + 1 := by
      rw [Nat.add_comm, Nat.add_mul_div_right _ _ hBp, Nat.div_eq_of_lt_le (k := 1) (by omega) (by omega), Nat.add_comm]
    have hmod : (q * f.binade + K) % f.binade = K - f.binade := by
      rw [Nat.add_comm, Nat.add_mul_mod_self_right, Nat.mod_eq_sub_mod hK1, Nat.mod_eq_of_lt (by omega)]
    rw [mag_big f hbig, hdiv, hmod, ← hfin]
    simp only [Nat.add_sub_cancel]
    congr 1
    omega

/-- The sign and the rung of a word that was put together. -/
theorem rung_word (s : Bool) {r : Nat} (h : r < f.signWeight) : rung f (f.word s r) = r ∧ sgn f (f.word s r) = s := by
  have hp : 0 < f.signWeight := Nat.two_pow_pos _
  unfold rung sgn Format.word
  cases s
  · simp [Nat.mod_eq_of_lt h, Nat.div_eq_of_lt h]
  · simp [Nat.mod_eq_of_lt h, Nat.div_eq_of_lt h, Nat.add_div_left, hp]

theorem infRung_lt_sign : f.infRung < f.signWeight := by
  unfold Format.infRung Format.signWeight Format.binade
  rw [Nat.pow_add]
  exact Nat.mul_lt_mul_of_pos_right (by have := Nat.two_pow_pos f.exponentBits; omega) (Nat.two_pow_pos _)

/-- A word of the format is its sign and rung. -/
theorem word_eq {w : Nat} (h : w < 2 * f.signWeight) : f.word (sgn f w) (rung f w) = w := by
  have hp : 0 < f.signWeight := Nat.two_pow_pos _
  unfold rung sgn Format.word
  have e := Nat.div_add_mod w f.signWeight
  have hq : w / f.signWeight < 2 := Nat.div_lt_of_lt_mul (by omega)
  generalize w / f.signWeight = q at *
  generalize w % f.signWeight = r at *
  have : q = 0 ∨ q = 1 := by omega
  rcases this with h0 | h0 <;> subst h0 <;> simp at e ⊢ <;> omega

end Go.Proofs.YtkgfepakedieaaaGreatDoor.Flt
