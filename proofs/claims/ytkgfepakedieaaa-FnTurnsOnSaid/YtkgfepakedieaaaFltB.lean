/- Floating point as numbers, further: writing a number with zeros behind it; a magnitude written back; 0 - x. No program here. -/
import Derived.Test.YtkgfepakedieaaaFlt
namespace Go.Proofs.Ytkgfepakedieaaa.Flt
open Ieee

theorem cut_eq (neg : Bool) (n drop : Nat) : Toward.even.cut neg n drop = n / 2 ^ min drop (n.log2 + 2) + (decide (2 ^ min drop (n.log2 + 2) < 2 * (n % 2 ^ min drop (n.log2 + 2))) || (2 ^ min drop (n.log2 + 2) == 2 * (n % 2 ^ min drop (n.log2 + 2)) && n / 2 ^ min drop (n.log2 + 2) % 2 == 1)).toNat := by
  unfold Toward.cut
  simp only [Nat.shiftLeft_eq, Nat.one_mul]

theorem log2_scale {m : Nat} (hm : m ≠ 0) (k : Nat) : (m * 2 ^ k).log2 = m.log2 + k := by
  have h1 : 2 ^ m.log2 ≤ m := Nat.log2_self_le hm
  have h2 : m < 2 ^ (m.log2 + 1) := Nat.lt_log2_self
  have hne : m * 2 ^ k ≠ 0 := Nat.mul_ne_zero hm (Nat.pos_iff_ne_zero.1 (Nat.two_pow_pos k))
  have a : m.log2 + k ≤ (m * 2 ^ k).log2 := (Nat.le_log2 hne).2 (by rw [Nat.pow_add]; exact Nat.mul_le_mul_right _ h1)
  have b : (m * 2 ^ k).log2 < m.log2 + k + 1 := (Nat.log2_lt hne).2 (by
    rw [show m.log2 + k + 1 = (m.log2 + 1) + k by omega, Nat.pow_add]
    exact Nat.mul_lt_mul_of_pos_right h2 (Nat.two_pow_pos k))
  omega

theorem cut_scale (neg : Bool) {m : Nat} (hm : m ≠ 0) (k d : Nat) : Toward.even.cut neg (m * 2 ^ k) (k + d) = Toward.even.cut neg m d := by
  rw [cut_eq, cut_eq, log2_scale hm]
  have e : min (k + d) (m.log2 + k + 2) = min d (m.log2 + 2) + k := by omega
  rw [e]
  generalize min d (m.log2 + 2) = g
  have hk := Nat.two_pow_pos k
  rw [Nat.pow_add, Nat.mul_div_mul_right _ _ hk, Nat.mul_mod_mul_right]
  have e1 : decide (2 ^ g * 2 ^ k < 2 * (m % 2 ^ g * 2 ^ k)) = decide (2 ^ g < 2 * (m % 2 ^ g)) := by
    rw [← Nat.mul_assoc]
    exact decide_eq_decide.2 (Nat.mul_lt_mul_right hk)
  have e2 : (2 ^ g * 2 ^ k == 2 * (m % 2 ^ g * 2 ^ k)) = (2 ^ g == 2 * (m % 2 ^ g)) := by
    rw [← Nat.mul_assoc, Bool.eq_iff_iff]
    simp only [beq_iff_eq]
    exact Nat.mul_left_inj (Nat.pos_iff_ne_zero.1 hk)
  rw [e1, e2]

variable (f : Format)

/-- Zeros behind a number are its place. -/
theorem nearest_shift (s : Bool) {m : Nat} (hm : m ≠ 0) (k : Nat) (p : Int) : f.nearest s (m * 2 ^ k) p = f.nearest s m (p + k) := by
  have hne : m * 2 ^ k ≠ 0 := Nat.mul_ne_zero hm (Nat.pos_iff_ne_zero.1 (Nat.two_pow_pos k))
  unfold Format.nearest
  rw [if_neg hne, if_neg hm, log2_scale hm]
  have el : max (p + ((m.log2 + k : Nat) : Int) - f.fractionBits) f.leastPlace = max (p + k + m.log2 - f.fractionBits) f.leastPlace := by
    congr 1
    omega
  simp only [el]
  generalize max (p + k + m.log2 - f.fractionBits) f.leastPlace = last
  congr 3
  by_cases h1 : last ≤ p
  · rw [show (last - p).toNat = 0 by omega, show (last - (p + k)).toNat = 0 by omega, cut_zero, cut_zero, Nat.shiftLeft_eq, Nat.shiftLeft_eq, show (p + k - last).toNat = k + (p - last).toNat by omega, Nat.pow_add, Nat.mul_assoc]
  · rw [show (p - last).toNat = 0 by omega, Nat.shiftLeft_zero]
    by_cases h2 : last ≤ p + k
    · rw [show (last - (p + k)).toNat = 0 by omega, cut_zero, Nat.shiftLeft_eq]
      have e : m * 2 ^ k = m * 2 ^ (p + k - last).toNat * 2 ^ (last - p).toNat := by
        rw [Nat.mul_assoc, ← Nat.pow_add]
        congr 2
        omega
      have hne2 : m * 2 ^ (p + k - last).toNat ≠ 0 := Nat.mul_ne_zero hm (Nat.pos_iff_ne_zero.1 (Nat.two_pow_pos _))
      rw [e]
      have := cut_scale s hne2 (last - p).toNat 0
      rw [Nat.add_zero] at this
      rw [this, cut_zero]
    · rw [show (p + k - last).toNat = 0 by omega, Nat.shiftLeft_zero, show (last - p).toNat = k + (last - (p + k)).toNat by omega]
      exact cut_scale s hm k _

/-- A rung's magnitude is a short number with zeros behind it. -/
theorem mag_form {r : Nat} (hr : r ≠ 0) : ∃ m k, m ≠ 0 ∧ m < 2 ^ (f.fractionBits + 1) ∧ mag f r = m * 2 ^ k := by
  have hB := binade_pos f
  have e : f.binade = 2 ^ f.fractionBits := rfl
  by_cases h : r < f.binade
  · refine ⟨r, 0, hr, ?_, by rw [mag_small f h]; simp⟩
    rw [Nat.pow_succ, ← e]
    omega
  · refine ⟨f.binade + r % f.binade, r / f.binade - 1, by omega, ?_, mag_big f h⟩
    have := Nat.mod_lt r hB
    rw [Nat.pow_succ, ← e]
    omega

/-- A magnitude is written back as its rung. -/
theorem nearest_mag (s : Bool) (r : Nat) : f.nearest s (mag f r) f.leastPlace = f.word s (min r f.infRung) := by
  by_cases hr : r = 0
  · subst hr
    rw [mag_zero]
    unfold Format.nearest
    rw [if_pos rfl, Nat.zero_min]
  · obtain ⟨m, k, hm, hd, e⟩ := mag_form f hr
    rw [e, nearest_shift f s hm]
    obtain ⟨r', h1, h2⟩ := nearest_exact f s hm hd (show f.leastPlace ≤ f.leastPlace + k by omega)
    rw [h1]
    have : r' = r := mag_inj f (by
      rw [h2, e]
      congr 2
      omega)
    rw [this]

/-- 0 - x of a finite x that is not 0. -/
theorem sub_zero_fin {x : Nat} (hx : fin f x = true) (h0 : rung f x ≠ 0) : f.sub 0 x = some (f.word (!sgn f x) (rung f x)) := by
  obtain ⟨m, i, e, hi, hm⟩ := read_fin f hx
  have hB := binade_pos f
  have r0 : f.read 0 = .number false 0 f.leastPlace := by
    unfold Format.read
    simp [hB]
  have hmag : mag f (rung f x) ≠ 0 := by
    have := mag_lt f (show 0 < rung f x by omega)
    omega
  unfold Format.sub
  rw [r0, e]
  simp only [Datum.opposite, Datum.sum, Option.map_some, Option.some.injEq]
  rw [Int.min_eq_left hi, Int.sub_self]
  have e0 : signed false 0 (Int.toNat 0) = 0 := by simp [signed]
  rw [e0, Int.zero_add, signed_eq, hm]
  have hlt : rung f x < f.infRung := by simpa [fin] using hx
  cases hs : sgn f x
  · simp only [Bool.not_false, if_true]
    rw [if_neg (by omega)]
    have : ((-(mag f (rung f x) : Int)).natAbs) = mag f (rung f x) := by omega
    have h2 : decide (-(mag f (rung f x) : Int) < 0) = true := by simp; omega
    show f.write (.number (decide (-(mag f (rung f x) : Int) < 0)) _ _) = _
    rw [this, h2]
    show f.nearest true _ _ = _
    rw [nearest_mag, Nat.min_eq_left (by omega)]
  · simp only [Bool.not_true, Bool.false_eq_true, if_false]
    rw [if_neg (by omega)]
    have h2 : decide ((mag f (rung f x) : Int) < 0) = false := by simp
    show f.write (.number (decide ((mag f (rung f x) : Int) < 0)) _ _) = _
    rw [h2, Int.natAbs_natCast]
    show f.nearest false _ _ = _
    rw [nearest_mag, Nat.min_eq_left (by omega)]

end Go.Proofs.Ytkgfepakedieaaa.Flt
