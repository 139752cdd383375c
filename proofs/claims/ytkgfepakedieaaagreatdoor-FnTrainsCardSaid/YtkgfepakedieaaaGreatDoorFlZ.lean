/- Floating point as numbers, further: writing a number with zeros behind it; a magnitude written back; 0 - x. No program here. -/
import Derived.Test.YtkgfepakedieaaaGreatDoorFlt
import Derived.Test.YtkgfepakedieaaaGreatDoorBase
import Derived.Laws.Cover2
set_option linter.unusedVariables false
set_option linter.unusedSimpArgs false
namespace Go.Proofs.YtkgfepakedieaaaGreatDoor.Flt
open Ieee

theorem cut_eq (neg : Bool) (n drop : Nat) : Toward.even.cut neg n drop = n / 2 ^ min drop (n.log2 + 2) + (decide (2 ^ min drop (n.log2 + 2) < 2 * (n % 2 ^ min drop (n.log2 + 2))) || (2 ^ min drop (n.log2 + 2) == 2 * (n % 2 ^ min drop (n.log2 + 2)) && n / 2 ^ min drop (n.log2 + 2) % 2 == 1)).toNat := by
  unfold Toward.cut
  simp only [Nat.shiftLeft_eq, Nat.one_mul]

theorem log2_scale {m : Nat} (hm : m ≠ 0) (k : Nat) : (m * 2 ^ k).log2 = m.log2 + k := by
  have h1 : 2 ^ m.log2 ≤ m := Nat.log2_self_le hm
  have h2 : m < 2 ^ (m.log2 + 1) := Nat.lt_log2_self
  have hne : m * 2 ^ k ≠ 0 := Nat.mul_ne_zero hm (Nat.pos_iff_ne_zero.1 (Nat.two_pow_pos k))
  have a : m.log2 + k ≤ (m * 2 ^ k).log2 := (Nat.le_log2 hne).2 (by rw [Nat.pow_add]; exact Nat.mul_le_mul_right _ h1)
  have b : (m * 2 ^ k).log2 < m.log2 + k + 1 := (Nat.log2_lt hne).2 (by
    rw [show m.log2 + k + 1 = (m.log2 + 1) + k by omega, Nat.pow_add]
    exact Nat.mul_lt_mul_of_pos_right h2 (Nat.two_pow_pos k))
  omega

theorem cut_scale (neg : Bool) {m : Nat} (hm : m ≠ 0) (k d : Nat) : Toward.even.cut neg (m * 2 ^ k) (k + d) = Toward.even.cut neg m d := by
  rw [cut_eq, cut_eq, log2_scale hm]
  have e : min (k + d) (m.log2 + k + 2) = min d (m.log2 + 2) + k := by omega
  rw [e]
  generalize min d (m.log2 + 2) = g
  have hk := Nat.two_pow_pos k
  rw [Nat.pow_add, Nat.mul_div_mul_right _ _ hk, Nat.mul_mod_mul_right]
  have e1 : decide (2 ^ g * 2 ^ k < 2 * (m % 2 ^ g * 2 ^ k)) = decide (2 ^ g < 2 * (m % 2 ^ g)) := by
    rw [← Nat.mul_assoc]
    exact decide_eq_decide.2 (Nat.mul_lt_mul_right hk)
  have e2 : (2 ^ g * 2 ^ k == 2 * (m % 2 ^ g * 2 ^ k)) = (2 ^ g == 2 * (m % 2 ^ g)) := by
    rw [← Nat.mul_assoc, Bool.eq_iff_iff]
    simp only [beq_iff_eq]
    exact Nat.mul_left_inj (Nat.pos_iff_ne_zero.1 hk)
  rw [e1, e2]

variable (f : Format)

/-- Zeros behind a number are its place. -/
theorem nearest_shift (s : Bool) {m : Nat} (hm : m ≠ 0) (k : Nat) (p : Int) : f.nearest s (m * 2 ^ k) p = f.nearest s m (p + k) := by
  have hne : m * 2 ^ k ≠ 0 := Nat.mul_ne_zero hm (Nat.pos_iff_ne_zero.1 (Nat.two_pow_pos k))
  unfold Format.nearest
  rw [if_neg hne, if_neg hm, log2_scale hm]
  have el : max (p + ((m.log2 + k : Nat) : Int) - f.fractionBits) f.leastPlace = max (p + k + m.log2 - f.fractionBits) f.leastPlace := by
    congr 1
    omega
  simp only [el]
  generalize max (p + k + m.log2 - f.fractionBits) f.leastPlace = last
  congr 3
  by_cases h1 : last ≤ p
  · rw [show (last - p).toNat = 0 by omega, show (last - (p + k)).toNat = 0 by omega, cut_zero, cut_zero, Nat.shiftLeft_eq, Nat.shiftLeft_eq, show (p + k - last).toNat = k + (p - last).toNat by omega, Nat.pow_add, Nat.mul_assoc]
  · rw [show (p - last).toNat = 0 by omega, Nat.shiftLeft_zero]
    by_cases h2 : last ≤ p + k
    · rw [show (last - (p + k)).toNat = 0 by omega, cut_zero, Nat.shiftLeft_eq]
      have e : m * 2 ^ k = m * 2 ^ (p + k - last).toNat * 2 ^ (last - p).toNat := by
        rw [Nat.mul_assoc, ← Nat.pow_add]
        congr 2
        omega
      have hne2 : m * 2 ^ (p + k - last).toNat ≠ 0 := Nat.mul_ne_zero hm (Nat.pos_iff_ne_zero.1 (Nat.two_pow_pos _))
      rw [e]
      have := cut_scale s hne2 (last - p).toNat 0
      rw [Nat.add_zero] at this
      rw [this, cut_zero]
    · rw [show (p + k - last).toNat = 0 by omega, Nat.shiftLeft_zero, show (last - p).toNat = k + (last - (p + k)).toNat by omega]
      exact cut_scale s hm k _

/-- A rung's magnitude is a short number with zeros behind it. -/
theorem mag_form {r : Nat} (hr : r ≠ 0) : ∃ m k, m ≠ 0 ∧ m < 2 ^ (f.fractionBits + 1) ∧ mag f r = m * 2 ^ k := by
  have hB := binade_pos f
  have e : f.binade = 2 ^ f.fractionBits := rfl
  by_cases h : r < f.binade
  · refine ⟨r, 0, hr, ?_, by rw [mag_small f h]; simp⟩
    rw [Nat.pow_succ, ← e]
    omega
  · refine ⟨f.binade + r % f.binade, r / f.binade - 1, by omega, ?_, mag_big f h⟩
    have := Nat.mod_lt r hB
    rw [Nat.pow_succ, ← e]
    omega

/-- A magnitude is written back as its rung. -/
theorem nearest_mag (s : Bool) (r : Nat) : f.nearest s (mag f r) f.leastPlace = f.word s (min r f.infRung) := by
  by_cases hr : r = 0
  · subst hr
    rw [mag_zero]
    unfold Format.nearest
    rw [if_pos rfl, Nat.zero_min]
  · obtain ⟨m, k, hm, hd, e⟩ := mag_form f hr
    rw [e, nearest_shift f s hm]
    obtain ⟨r', h1, h2⟩ := nearest_exact f s hm hd (show f.leastPlace ≤ f.leastPlace + k by omega)
    rw [h1]
    have : r' = r := mag_inj f (by
      rw [h2, e]
      congr 2
      omega)
    rw [this]

/-- 0 - x of a finite x that is not 0. -/
theorem sub_zero_fin {x : Nat} (hx : fin f x = true) (h0 : rung f x ≠ 0) : f.sub 0 x = some (f.word (!sgn f x) (rung f x)) := by
  obtain ⟨m, i, e, hi, hm⟩ := read_fin f hx
  have hB := binade_pos f
  have r0 : f.read 0 = .number false 0 f.leastPlace := by
    unfold Format.read
    simp [hB]
  have hmag : mag f (rung f x) ≠ 0 := by
    have := mag_lt f (show 0 < rung f x by omega)
    omega
  unfold Format.sub
  rw [r0, e]
  simp only [Datum.opposite, Datum.sum, Option.map_some, Option.some.injEq]
  rw [Int.min_eq_left hi, Int.sub_self]
  have e0 : signed false 0 (Int.toNat 0) = 0 := by simp [signed]
  rw [e0, Int.zero_add, signed_eq, hm]
  have hlt : rung f x < f.infRung := by simpa [fin] using hx
  cases hs : sgn f x
  · simp only [Bool.not_false, if_true]
    rw [if_neg (by omega)]
    have : ((-(mag f (rung f x) : Int)).natAbs) = mag f (rung f x) := by omega
    have h2 : decide (-(mag f (rung f x) : Int) < 0) = true := by simp; omega
    show f.write (.number (decide (-(mag f (rung f x) : Int) < 0)) _ _) = _
    rw [this, h2]
    show f.nearest true _ _ = _
    rw [nearest_mag, Nat.min_eq_left (by omega)]
  · simp only [Bool.not_true, Bool.false_eq_true, if_false]
    rw [if_neg (by omega)]
    have h2 : decide ((mag f (rung f x) : Int) < 0) = false := by simp
    show f.write (.number (decide ((mag f (rung f x) : Int) < 0)) _ _) = _
    rw [h2, Int.natAbs_natCast]
    show f.nearest false _ _ = _
    rw [nearest_mag, Nat.min_eq_left (by omega)]

end Go.Proofs.YtkgfepakedieaaaGreatDoor.Flt

/-! Rounding as numbers: how far the nearest word is from the number that it stands for, and that no number of the format lies between. No program here. -/
namespace Go.Proofs.YtkgfepakedieaaaGreatDoor.Flt
open Ieee

variable (f : Format)

theorem two_ne : (2 : Rat) ≠ 0 := by decide
theorem z2_pos (a : Int) : (0 : Rat) < 2 ^ a := Rat.zpow_pos (by decide)
theorem z2_add (a b : Int) : (2 : Rat) ^ (a + b) = 2 ^ a * 2 ^ b := Rat.zpow_add two_ne a b
theorem z2_nat (n : Nat) : ((2 ^ n : Nat) : Rat) = (2 : Rat) ^ (n : Int) := by
  rw [Rat.natCast_pow, Rat.zpow_natCast]
  rfl
theorem z2_toNat {a : Int} (h : 0 ≤ a) : ((2 ^ a.toNat : Nat) : Rat) = (2 : Rat) ^ a := by
  rw [z2_nat, Int.toNat_of_nonneg h]
theorem z2_ge_one {a : Int} (h : 0 ≤ a) : (1 : Rat) ≤ 2 ^ a := by
  rw [← z2_toNat h]
  have : 1 ≤ 2 ^ a.toNat := Nat.one_le_two_pow
  exact_mod_cast this
theorem z2_mono {a b : Int} (h : a ≤ b) : (2 : Rat) ^ a ≤ 2 ^ b := by
  have e : b = (b - a) + a := by omega
  rw [e, z2_add]
  have h1 := z2_ge_one (a := b - a) (by omega)
  have h2 := Rat.mul_le_mul_of_nonneg_right h1 (Rat.le_of_lt (z2_pos a))
  rwa [Rat.one_mul] at h2
theorem z2_lt {a b : Int} (h : (2 : Rat) ^ a < 2 ^ b) : a < b := by
  rcases Int.lt_or_le a b with h1 | h1
  · exact h1
  · exact absurd (z2_mono h1) (Rat.not_le.2 h)
theorem z2_le {a b : Int} (h : (2 : Rat) ^ a ≤ 2 ^ b) : a ≤ b := by
  rcases Int.lt_or_le b a with h1 | h1
  · have h2 := z2_mono (a := b + 1) (b := a) (by omega)
    rw [z2_add, Rat.zpow_one] at h2
    have := z2_pos b
    grind
  · exact h1

/-- The size of a word's number. -/
noncomputable def A (w : Nat) : Rat := (mag f (rung f w) : Rat) * 2 ^ f.leastPlace
theorem A_nonneg (w : Nat) : 0 ≤ A f w := Rat.mul_nonneg (by exact_mod_cast Nat.zero_le _) (Rat.le_of_lt (z2_pos _))

theorem magAt {q k : Nat} (h : q = 0 ∨ f.binade ≤ k) (hk : k ≤ 2 * f.binade) : mag f (q * f.binade + k) = k * 2 ^ q := by
  have hB := binade_pos f
  by_cases h0 : q = 0 ∧ k < f.binade
  · obtain ⟨rfl, h1⟩ := h0
    rw [mag_small f (by omega)]
    simp
  · by_cases h2 : k = 2 * f.binade
    · subst h2
      have e : q * f.binade + 2 * f.binade = (q + 2) * f.binade := by rw [Nat.add_mul]
      have hl : ¬ (q + 2) * f.binade < f.binade := by
        have := Nat.mul_le_mul_right f.binade (show 1 ≤ q + 2 by omega)
        omega
      rw [e, mag_big f hl, Nat.mul_mod_left, Nat.mul_div_cancel _ hB, show q + 2 - 1 = q + 1 by omega, Nat.pow_succ]
      rw [Nat.add_zero, Nat.mul_comm (2 ^ q) 2, ← Nat.mul_assoc, Nat.mul_comm f.binade 2]
    · have hlo : f.binade ≤ k := by omega
      have e : q * f.binade + k = (q + 1) * f.binade + (k - f.binade) := by rw [Nat.add_mul]; omega
      have hl : ¬ (q + 1) * f.binade + (k - f.binade) < f.binade := by
        have := Nat.mul_le_mul_right f.binade (show 1 ≤ q + 1 by omega)
        omega
      have hr : k - f.binade < f.binade := by omega
      rw [e, mag_big f hl, Nat.add_comm ((q + 1) * f.binade), Nat.add_mul_mod_self_right, Nat.mod_eq_of_lt hr, Nat.add_mul_div_right _ _ hB, Nat.div_eq_of_lt hr]
      simp only [Nat.zero_add, Nat.add_sub_cancel]
      rw [show f.binade + (k - f.binade) = k by omega]

/-- Rounding to a place: the whole number that is kept. -/
theorem cut_near (neg : Bool) (n d : Nat) : (2 * (Toward.even.cut neg n d * 2 ^ d) ≤ 2 * n + 2 ^ d ∧ 2 * n ≤ 2 * (Toward.even.cut neg n d * 2 ^ d) + 2 ^ d) ∧ n / 2 ^ d ≤ Toward.even.cut neg n d ∧ (n % 2 ^ d = 0 → Toward.even.cut neg n d = n / 2 ^ d) ∧ Toward.even.cut neg n d ≤ n / 2 ^ d + 1 := by
  rw [cut_eq]
  by_cases h : d ≤ n.log2 + 2
  · rw [Nat.min_eq_left h]
    obtain ⟨g, hg⟩ : ∃ g, g = 2 ^ d := ⟨_, rfl⟩
    have hg0 : 0 < g := by rw [hg]; exact Nat.two_pow_pos _
    rw [← hg]
    have hdm : g * (n / g) + n % g = n := Nat.div_add_mod n g
    have hml : n % g < g := Nat.mod_lt _ hg0
    generalize hq : n / g = q at *
    generalize n % g = r at *
    by_cases c1 : g < 2 * r
    · have e : (decide (g < 2 * r) || (g == 2 * r && q % 2 == 1)).toNat = 1 := by simp [c1]
      rw [e, Nat.add_mul, Nat.mul_comm q g]
      refine ⟨⟨by omega, by omega⟩, by omega, fun h => by omega, by omega⟩
    · by_cases c2 : (g == 2 * r && q % 2 == 1) = true
      · have e : (decide (g < 2 * r) || (g == 2 * r && q % 2 == 1)).toNat = 1 := by rw [c2]; simp
        have c3 : g = 2 * r := by
          have := (Bool.and_eq_true _ _ ▸ c2 : _ ∧ _).1
          simpa using this
        rw [e, Nat.add_mul, Nat.mul_comm q g]
        refine ⟨⟨by omega, by omega⟩, by omega, fun h => by omega, by omega⟩
      · have e : (decide (g < 2 * r) || (g == 2 * r && q % 2 == 1)).toNat = 0 := by
          rw [Bool.not_eq_true] at c2
          rw [c2]; simp [c1]
        rw [e, Nat.add_zero, Nat.mul_comm q g]
        refine ⟨⟨by omega, by omega⟩, by omega, fun h => by omega, by omega⟩
  · have hlt : n.log2 + 2 < d := by omega
    rw [Nat.min_eq_right (by omega)]
    have h2 : n < 2 ^ (n.log2 + 1) := Nat.lt_log2_self
    have e2 : 2 ^ (n.log2 + 2) = 2 * 2 ^ (n.log2 + 1) := by rw [Nat.pow_succ]; omega
    have h3 : 2 ^ (n.log2 + 2) ≤ 2 ^ d := Nat.pow_le_pow_right (by omega) (by omega)
    have hn : n < 2 ^ (n.log2 + 2) := by omega
    rw [Nat.div_eq_of_lt hn, Nat.mod_eq_of_lt hn, Nat.div_eq_of_lt (by omega)]
    have e : (decide (2 ^ (n.log2 + 2) < 2 * n) || (2 ^ (n.log2 + 2) == 2 * n && 0 % 2 == 1)).toNat = 0 := by
      have : ¬ 2 ^ (n.log2 + 2) < 2 * n := by omega
      simp [this]
    rw [e]
    refine ⟨⟨by omega, by omega⟩, by omega, fun _ => rfl, by omega⟩

/-- THE NEAREST WORD, as numbers. -/
theorem nearest_core (s : Bool) {m : Nat} {p : Int} (hm : m ≠ 0) (hov : max (p + m.log2 - f.fractionBits) f.leastPlace - f.leastPlace + 2 < 2 ^ f.exponentBits - 1) :
    ∃ (k n : Nat) (l : Int), f.nearest s m p = f.word s k ∧ k < f.infRung ∧ (mag f k : Rat) * 2 ^ f.leastPlace = (n : Rat) * 2 ^ l ∧ f.leastPlace ≤ l ∧
      (l = f.leastPlace ∨ (2 : Rat) ^ (l + f.fractionBits) ≤ (m : Rat) * 2 ^ p) ∧
      ((n : Rat) * 2 ^ l ≤ (m : Rat) * 2 ^ p + 2 ^ (l - 1) ∧ (m : Rat) * 2 ^ p ≤ (n : Rat) * 2 ^ l + 2 ^ (l - 1)) ∧
      (∀ c : Nat, (c : Rat) * 2 ^ l ≤ (m : Rat) * 2 ^ p → c ≤ n) ∧ (∀ c : Nat, (m : Rat) * 2 ^ p ≤ (c : Rat) * 2 ^ l → n ≤ c) := by
  obtain ⟨l, hl⟩ : ∃ l, l = max (p + m.log2 - f.fractionBits) f.leastPlace := ⟨_, rfl⟩
  rw [← hl] at hov
  have hlp : f.leastPlace ≤ l := by omega
  obtain ⟨n, hn⟩ : ∃ n, n = Toward.even.cut s (m <<< (p - l).toNat) (l - p).toNat := ⟨_, rfl⟩
  have hnear : f.nearest s m p = f.word s (min ((l - f.leastPlace).toNat * f.binade + n) f.infRung) := by
    unfold Format.nearest
    rw [if_neg hm]
    simp only [← hl, ← hn]
  have h1 : 2 ^ m.log2 ≤ m := Nat.log2_self_le hm
  have h2 : m < 2 ^ (m.log2 + 1) := Nat.lt_log2_self
  have hB : f.binade = 2 ^ f.fractionBits := rfl
  -- the number in terms of the last place
  have hbig : l = f.leastPlace ∨ l + f.fractionBits = p + m.log2 := by omega
  have hv1 : (2 : Rat) ^ (p + m.log2) ≤ (m : Rat) * 2 ^ p := by
    rw [Int.add_comm, z2_add, ← z2_nat]
    exact Rat.mul_le_mul_of_nonneg_right (by exact_mod_cast h1) (Rat.le_of_lt (z2_pos _))
  have hmid : (2 : Rat) ^ l = 2 * 2 ^ (l - 1) := by
    rw [show l = 1 + (l - 1) by omega, z2_add, Rat.zpow_one, show 1 + (l - 1) - 1 = l - 1 by omega]
  -- the kept digits
  have hkey : ((n : Rat) * 2 ^ l ≤ (m : Rat) * 2 ^ p + 2 ^ (l - 1) ∧ (m : Rat) * 2 ^ p ≤ (n : Rat) * 2 ^ l + 2 ^ (l - 1)) ∧
      (∀ c : Nat, (c : Rat) * 2 ^ l ≤ (m : Rat) * 2 ^ p → c ≤ n) ∧ (∀ c : Nat, (m : Rat) * 2 ^ p ≤ (c : Rat) * 2 ^ l → n ≤ c) ∧ n ≤ 2 * f.binade ∧ ((l - f.leastPlace).toNat = 0 ∨ f.binade ≤ n) := by
    have hpos := z2_pos (l - 1)
    by_cases hc : l ≤ p
    · have e0 : (l - p).toNat = 0 := by omega
      rw [e0, cut_zero, Nat.shiftLeft_eq] at hn
      have ev : (n : Rat) * 2 ^ l = (m : Rat) * 2 ^ p := by
        rw [hn, Rat.natCast_mul, z2_toNat (by omega : (0 : Int) ≤ p - l), Rat.mul_assoc, ← z2_add]
        congr 2
        omega
      refine ⟨⟨by grind, by grind⟩, fun c h => ?_, fun c h => ?_, ?_, ?_⟩
      · rw [← ev] at h
        have := Rat.le_of_mul_le_mul_right h (z2_pos l)
        exact_mod_cast this
      · rw [← ev] at h
        have := Rat.le_of_mul_le_mul_right h (z2_pos l)
        exact_mod_cast this
      · rw [hn, hB]
        have e1 : m * 2 ^ (p - l).toNat ≤ 2 ^ (m.log2 + 1) * 2 ^ (p - l).toNat := Nat.mul_le_mul_right _ (by omega)
        rw [← Nat.pow_add] at e1
        have e2 : 2 ^ (m.log2 + 1 + (p - l).toNat) ≤ 2 ^ (f.fractionBits + 1) := Nat.pow_le_pow_right (by omega) (by omega)
        rw [Nat.pow_succ] at e2
        omega
      · rcases hbig with h | h
        · left; omega
        · right
          rw [hn, hB]
          have e1 : 2 ^ m.log2 * 2 ^ (p - l).toNat ≤ m * 2 ^ (p - l).toNat := Nat.mul_le_mul_right _ h1
          rw [← Nat.pow_add] at e1
          rw [show f.fractionBits = m.log2 + (p - l).toNat by omega]
          exact e1
    · obtain ⟨d, hd⟩ : ∃ d, d = (l - p).toNat := ⟨_, rfl⟩
      have e0 : (p - l).toNat = 0 := by omega
      rw [e0, Nat.shiftLeft_zero, ← hd] at hn
      obtain ⟨⟨c1, c2⟩, c3, c4, c5⟩ := cut_near s m d
      rw [← hn] at c1 c2 c3 c4 c5
      have hD : (2 : Rat) ^ l = ((2 ^ d : Nat) : Rat) * 2 ^ p := by
        rw [z2_nat, ← z2_add]
        congr 1
        omega
      have hp0 := z2_pos p
      have hg0 : 0 < 2 ^ d := Nat.two_pow_pos d
      have hdm := Nat.div_add_mod m (2 ^ d)
      have hml := Nat.mod_lt m hg0
      refine ⟨⟨?_, ?_⟩, fun c h => ?_, fun c h => ?_, ?_, ?_⟩
      · have c1' : (2 : Rat) * ((n : Rat) * ((2 ^ d : Nat) : Rat)) ≤ 2 * (m : Rat) + ((2 ^ d : Nat) : Rat) := by exact_mod_cast c1
        have := Rat.mul_le_mul_of_nonneg_right c1' (Rat.le_of_lt hp0)
        rw [hD]
        rw [hD] at hmid
        grind
      · have c1' : 2 * (m : Rat) ≤ (2 : Rat) * ((n : Rat) * ((2 ^ d : Nat) : Rat)) + ((2 ^ d : Nat) : Rat) := by exact_mod_cast c2
        have := Rat.mul_le_mul_of_nonneg_right c1' (Rat.le_of_lt hp0)
        rw [hD]
        rw [hD] at hmid
        grind
      · rw [hD, ← Rat.mul_assoc] at h
        have h' := Rat.le_of_mul_le_mul_right h hp0
        have h'' : c * 2 ^ d ≤ m := by exact_mod_cast h'
        exact Nat.le_trans ((Nat.le_div_iff_mul_le hg0).2 h'') c3
      · rw [hD, ← Rat.mul_assoc] at h
        have h' := Rat.le_of_mul_le_mul_right h hp0
        have h'' : m ≤ c * 2 ^ d := by exact_mod_cast h'
        have h3 : m / 2 ^ d ≤ c := by
          have := Nat.div_le_div_right (c := 2 ^ d) h''
          rwa [Nat.mul_div_cancel _ hg0] at this
        by_cases hr : m % 2 ^ d = 0
        · rw [c4 hr]; exact h3
        · have : m / 2 ^ d < c := by
            rcases Nat.lt_or_eq_of_le h3 with h4 | h4
            · exact h4
            · exfalso
              rw [h4, Nat.mul_comm] at hdm
              omega
          omega
      · have hm2 : m < 2 ^ (f.fractionBits + 1) * 2 ^ d := by
          rw [← Nat.pow_add]
          exact Nat.lt_of_lt_of_le h2 (Nat.pow_le_pow_right (by omega) (by omega))
        have : m / 2 ^ d < 2 ^ (f.fractionBits + 1) := (Nat.div_lt_iff_lt_mul hg0).2 hm2
        rw [Nat.pow_succ] at this
        omega
      · rcases hbig with h | h
        · left; omega
        · right
          refine Nat.le_trans ((Nat.le_div_iff_mul_le hg0).2 ?_) c3
          rw [hB, ← Nat.pow_add, show f.fractionBits + d = m.log2 by omega]
          exact h1
  obtain ⟨k1, k2, k3, k4, k5⟩ := hkey
  obtain ⟨q, hq⟩ : ∃ q, q = (l - f.leastPlace).toNat := ⟨_, rfl⟩
  rw [← hq] at k5 hnear
  have hk : q * f.binade + n < f.infRung := by
    unfold Format.infRung
    have e1 : q * f.binade + n ≤ (q + 2) * f.binade := by rw [Nat.add_mul]; omega
    have e3 : ((2 ^ f.exponentBits : Nat) : Int) = 2 ^ f.exponentBits := by simp
    have e4 : 1 ≤ 2 ^ f.exponentBits := Nat.one_le_two_pow
    have e2 : q + 2 + 1 ≤ 2 ^ f.exponentBits - 1 := by omega
    have e5 := Nat.mul_le_mul_right f.binade e2
    rw [Nat.add_mul] at e5
    have := binade_pos f
    omega
  refine ⟨q * f.binade + n, n, l, by rw [hnear, Nat.min_eq_left (Nat.le_of_lt hk)], hk, ?_, hlp, ?_, k1, k2, k3⟩
  · rw [magAt f k5 k4, Rat.natCast_mul, hq, z2_toNat (by omega), Rat.mul_assoc, ← z2_add]
    congr 2
    omega
  · rcases hbig with h | h
    · exact .inl h
    · right; rw [h]; exact hv1

end Go.Proofs.YtkgfepakedieaaaGreatDoor.Flt

/-! The operations as numbers: product, quotient and sum of finite words. No program here. -/
namespace Go.Proofs.YtkgfepakedieaaaGreatDoor.Flt
open Ieee

variable (f : Format)

/-- Below this power of two nothing overflows. -/
def top : Int := 2 ^ f.exponentBits - 4 + f.fractionBits + f.leastPlace
/-- One rounding loses at most this part. -/
noncomputable def ro : Rat := 1 - 2 ^ (-(f.fractionBits : Int) - 1)
theorem ro_pos : 0 < ro f := by
  have h : (2 : Rat) ^ (-(f.fractionBits : Int) - 1) ≤ 2 ^ (-1 : Int) := z2_mono (by omega)
  have h2 : (2 : Rat) ^ (-1 : Int) = 1 / 2 := by decide +kernel
  unfold ro
  grind
theorem ro_lt : ro f < 1 := by
  have := z2_pos (-(f.fractionBits : Int) - 1)
  unfold ro
  grind
/-- Two numbers within k roundings of each other. -/
def Near (k : Nat) (a b : Rat) : Prop := a * ro f ^ k ≤ b ∧ b * ro f ^ k ≤ a
theorem rok_pos (k : Nat) : 0 < ro f ^ k := Rat.pow_pos (ro_pos f)
theorem rok_le_one (k : Nat) : ro f ^ k ≤ 1 := by
  induction k with
  | zero => simp
  | succ k ih =>
    rw [Rat.pow_succ]
    have h1 := Rat.mul_le_mul_of_nonneg_left (Rat.le_of_lt (ro_lt f)) (Rat.le_of_lt (rok_pos f k))
    grind
theorem rok_add (k l : Nat) : ro f ^ (k + l) = ro f ^ k * ro f ^ l := by
  induction l with
  | zero => simp
  | succ l ih => rw [← Nat.add_assoc, Rat.pow_succ, ih, Rat.pow_succ, Rat.mul_assoc]
theorem Near.refl {a : Rat} (ha : 0 ≤ a) (k : Nat) : Near f k a a := by
  have := Rat.mul_le_mul_of_nonneg_left (rok_le_one f k) ha
  rw [Rat.mul_one] at this
  exact ⟨this, this⟩
variable {f}
theorem Near.symm {k : Nat} {a b : Rat} (h : Near f k a b) : Near f k b a := ⟨h.2, h.1⟩
theorem Near.nonneg {k : Nat} {a b : Rat} (h : Near f k a b) (ha : 0 ≤ a) : 0 ≤ b := Rat.le_trans (Rat.mul_nonneg ha (Rat.le_of_lt (rok_pos f k))) h.1
theorem Near.trans {k l : Nat} {a b c : Rat} (h : Near f k a b) (h' : Near f l b c) : Near f (k + l) a c := by
  constructor
  · rw [rok_add, ← Rat.mul_assoc]
    exact Rat.le_trans (Rat.mul_le_mul_of_nonneg_right h.1 (Rat.le_of_lt (rok_pos f l))) h'.1
  · rw [Nat.add_comm, rok_add, ← Rat.mul_assoc]
    exact Rat.le_trans (Rat.mul_le_mul_of_nonneg_right h'.2 (Rat.le_of_lt (rok_pos f k))) h.2
theorem Near.mono {k l : Nat} {a b : Rat} (h : Near f k a b) (hkl : k ≤ l) (ha : 0 ≤ a) : Near f l a b := by
  have hb := h.nonneg ha
  have h2 := h.trans (Near.refl f hb (l - k))
  rwa [show k + (l - k) = l by omega] at h2
theorem Near.mul {k l : Nat} {a b c d : Rat} (h : Near f k a b) (h' : Near f l c d) (ha : 0 ≤ a) (hc : 0 ≤ c) : Near f (k + l) (a * c) (b * d) := by
  have hb := h.nonneg ha
  have hd := h'.nonneg hc
  have hk := Rat.le_of_lt (rok_pos f k)
  have hl := Rat.le_of_lt (rok_pos f l)
  constructor
  · rw [rok_add]
    have e : a * c * (ro f ^ k * ro f ^ l) = (a * ro f ^ k) * (c * ro f ^ l) := by grind
    rw [e]
    exact Rat.le_trans (Rat.mul_le_mul_of_nonneg_right h.1 (Rat.mul_nonneg hc hl)) (Rat.mul_le_mul_of_nonneg_left h'.1 hb)
  · rw [rok_add]
    have e : b * d * (ro f ^ k * ro f ^ l) = (b * ro f ^ k) * (d * ro f ^ l) := by grind
    rw [e]
    exact Rat.le_trans (Rat.mul_le_mul_of_nonneg_right h.2 (Rat.mul_nonneg hd hl)) (Rat.mul_le_mul_of_nonneg_left h'.2 ha)
theorem Near.add {k : Nat} {a b c d : Rat} (h : Near f k a b) (h' : Near f k c d) : Near f k (a + c) (b + d) := by
  have h1 := h.1
  have h2 := h.2
  have h3 := h'.1
  have h4 := h'.2
  constructor <;> grind
theorem Near.zero {k : Nat} {a : Rat} (h : Near f k a 0) (ha : 0 ≤ a) : a = 0 := by
  have h2 := h.1
  have hk := rok_pos f k
  rcases Rat.le_iff_lt_or_eq.1 ha with h3 | h3
  · have := Rat.mul_pos h3 hk
    grind
  · exact h3.symm
variable (f)

/-- The number a is what rounding makes of v. -/
def Fl (v a : Rat) : Prop := (2 ^ (f.leastPlace + f.fractionBits) ≤ v → Near f 1 a v) ∧ (∀ j, (mag f j : Rat) * 2 ^ f.leastPlace ≤ v → (mag f j : Rat) * 2 ^ f.leastPlace ≤ a) ∧ (∀ j, v ≤ (mag f j : Rat) * 2 ^ f.leastPlace → a ≤ (mag f j : Rat) * 2 ^ f.leastPlace)

theorem mag_place {j : Nat} (hj : j ≠ 0) : ∃ (c : Nat) (e : Int), c < 2 ^ (f.fractionBits + 1) ∧ f.leastPlace ≤ e ∧ (mag f j : Rat) * 2 ^ f.leastPlace = (c : Rat) * 2 ^ e := by
  obtain ⟨m, k, _, h2, h3⟩ := mag_form f hj
  refine ⟨m, f.leastPlace + k, h2, by omega, ?_⟩
  rw [h3, Rat.natCast_mul, z2_nat, Rat.mul_assoc, ← z2_add]
  congr 2
  omega

theorem nearest_num (h3 : (4 : Int) ≤ 2 ^ f.exponentBits) (s : Bool) (m : Nat) (p : Int) (hv : (m : Rat) * 2 ^ p < 2 ^ top f) :
    ∃ k, f.nearest s m p = f.word s k ∧ k < f.infRung ∧ Fl f ((m : Rat) * 2 ^ p) ((mag f k : Rat) * 2 ^ f.leastPlace) := by
  have hlp0 := z2_pos f.leastPlace
  by_cases hm : m = 0
  · subst hm
    refine ⟨0, by simp [Format.nearest], ?_, ?_, ?_, ?_⟩
    · unfold Format.infRung
      have e3 : ((2 ^ f.exponentBits : Nat) : Int) = 2 ^ f.exponentBits := by simp
      exact Nat.mul_pos (by omega) (binade_pos f)
    · intro h
      have := z2_pos (f.leastPlace + f.fractionBits)
      simp at h
      grind
    · intro j h
      simpa [mag_zero] using h
    · intro j h
      simpa [mag_zero] using h
  · have h1 : 2 ^ m.log2 ≤ m := Nat.log2_self_le hm
    have hv1 : (2 : Rat) ^ (p + m.log2) ≤ (m : Rat) * 2 ^ p := by
      rw [Int.add_comm, z2_add, ← z2_nat]
      exact Rat.mul_le_mul_of_nonneg_right (by exact_mod_cast h1) (Rat.le_of_lt (z2_pos _))
    have h5 : p + m.log2 < top f := z2_lt (by grind)
    unfold top at h5
    obtain ⟨k, n, l, hk, hki, hmag, hl, hbig, ⟨hn1, hn2⟩, hc1, hc2⟩ := nearest_core f s hm (p := p) (by omega)
    refine ⟨k, hk, hki, ?_⟩
    obtain ⟨v, hvv⟩ : ∃ v, v = (m : Rat) * 2 ^ p := ⟨_, rfl⟩
    rw [hmag]
    rw [← hvv] at hbig hn1 hn2 hc1 hc2 ⊢
    have hl0 := z2_pos l
    refine ⟨fun h => ?_, fun j h => ?_, fun j h => ?_⟩
    · have hb : (2 : Rat) ^ (l + f.fractionBits) ≤ v := by
        rcases hbig with h' | h'
        · rw [h']; exact h
        · exact h'
      have he : (2 : Rat) ^ (l - 1) ≤ v * 2 ^ (-(f.fractionBits : Int) - 1) := by
        have := Rat.mul_le_mul_of_nonneg_right hb (Rat.le_of_lt (z2_pos (-(f.fractionBits : Int) - 1)))
        rw [← z2_add] at this
        rwa [show l + f.fractionBits + (-(f.fractionBits : Int) - 1) = l - 1 by omega] at this
      obtain ⟨e, hee⟩ : ∃ e, e = (2 : Rat) ^ (-(f.fractionBits : Int) - 1) := ⟨_, rfl⟩
      have hr : ro f = 1 - e := by rw [hee]; rfl
      have he0 : 0 < e := by rw [hee]; exact z2_pos _
      rw [← hee] at he
      unfold Near
      rw [Rat.pow_one, hr]
      have hv0 : 0 ≤ v := Rat.le_trans (Rat.le_of_lt (z2_pos _)) hb
      have hvee := Rat.mul_nonneg (Rat.mul_nonneg hv0 (Rat.le_of_lt he0)) (Rat.le_of_lt he0)
      have hae := Rat.mul_le_mul_of_nonneg_right hn2 (Rat.le_of_lt he0)
      have hhe := Rat.mul_le_mul_of_nonneg_right he (Rat.le_of_lt he0)
      constructor
      · have h7 : (n : Rat) * 2 ^ l ≤ v + v * e := by grind
        have h8 := Rat.mul_le_mul_of_nonneg_right h7 (show (0 : Rat) ≤ 1 - e by have := ro_pos f; rw [hr] at this; grind)
        grind
      · grind
    · by_cases hj : j = 0
      · subst hj
        rw [mag_zero]
        have := Rat.mul_nonneg (show (0 : Rat) ≤ (n : Rat) by exact_mod_cast Nat.zero_le n) (Rat.le_of_lt hl0)
        simpa using this
      · obtain ⟨c, e, hcl, hel, hce⟩ := mag_place f hj
        rw [hce] at h ⊢
        by_cases hle : l ≤ e
        · have e1 : (c : Rat) * 2 ^ e = ((c * 2 ^ (e - l).toNat : Nat) : Rat) * 2 ^ l := by
            rw [Rat.natCast_mul, z2_toNat (by omega : (0 : Int) ≤ e - l), Rat.mul_assoc, ← z2_add]
            congr 2
            omega
          rw [e1] at h ⊢
          have := hc1 _ h
          exact Rat.mul_le_mul_of_nonneg_right (by exact_mod_cast this) (Rat.le_of_lt hl0)
        · have hb : (2 : Rat) ^ (l + f.fractionBits) ≤ v := by
            rcases hbig with h' | h'
            · omega
            · exact h'
          have hn3 : 2 ^ f.fractionBits ≤ n := by
            apply hc1
            rw [z2_nat, ← z2_add, Int.add_comm]
            exact hb
          have h1 : (c : Rat) ≤ ((2 ^ (f.fractionBits + 1) : Nat) : Rat) := by exact_mod_cast Nat.le_of_lt hcl
          have h2 := Rat.mul_le_mul_of_nonneg_right h1 (Rat.le_of_lt (z2_pos e))
          rw [z2_nat, ← z2_add] at h2
          have h4 : (2 : Rat) ^ (((f.fractionBits + 1 : Nat) : Int) + e) ≤ 2 ^ ((f.fractionBits : Int) + l) := z2_mono (by omega)
          have h6 : ((2 ^ f.fractionBits : Nat) : Rat) ≤ (n : Rat) := by exact_mod_cast hn3
          have h7 := Rat.mul_le_mul_of_nonneg_right h6 (Rat.le_of_lt hl0)
          rw [z2_nat, ← z2_add] at h7
          exact Rat.le_trans h2 (Rat.le_trans h4 h7)
    · by_cases hj : j = 0
      · subst hj
        have hm0 : (0 : Rat) < (m : Rat) := by exact_mod_cast Nat.pos_of_ne_zero hm
        have := Rat.mul_pos hm0 (z2_pos p)
        rw [mag_zero] at h
        rw [← hvv] at this
        simp at h
        grind
      · obtain ⟨c, e, hcl, hel, hce⟩ := mag_place f hj
        rw [hce] at h ⊢
        by_cases hle : l ≤ e
        · have e1 : (c : Rat) * 2 ^ e = ((c * 2 ^ (e - l).toNat : Nat) : Rat) * 2 ^ l := by
            rw [Rat.natCast_mul, z2_toNat (by omega : (0 : Int) ≤ e - l), Rat.mul_assoc, ← z2_add]
            congr 2
            omega
          rw [e1] at h ⊢
          have := hc2 _ h
          exact Rat.mul_le_mul_of_nonneg_right (by exact_mod_cast this) (Rat.le_of_lt hl0)
        · exfalso
          have hb : (2 : Rat) ^ (l + f.fractionBits) ≤ v := by
            rcases hbig with h' | h'
            · omega
            · exact h'
          have h1 : (c : Rat) < ((2 ^ (f.fractionBits + 1) : Nat) : Rat) := by exact_mod_cast hcl
          have h2 := Rat.mul_lt_mul_of_pos_right h1 (z2_pos e)
          rw [z2_nat, ← z2_add] at h2
          have h4 : (2 : Rat) ^ (((f.fractionBits + 1 : Nat) : Int) + e) ≤ 2 ^ (l + f.fractionBits) := z2_mono (by omega)
          grind

/-- A finite word with a sign and a size. -/
def Is (z : Nat) (s : Bool) : Prop := fin f z = true ∧ sgn f z = s ∧ z < 2 * f.signWeight
theorem is_word (s : Bool) {k : Nat} (h : k < f.infRung) : Is f (f.word s k) s ∧ A f (f.word s k) = (mag f k : Rat) * 2 ^ f.leastPlace := by
  have hs := infRung_lt_sign f
  obtain ⟨h1, h2⟩ := rung_word f s (Nat.lt_trans h hs)
  refine ⟨⟨?_, h2, ?_⟩, ?_⟩
  · unfold fin; rw [h1]; simpa using h
  · unfold Format.word; split <;> omega
  · unfold A; rw [h1]

theorem read_num {x : Nat} (h : fin f x = true) : ∃ (m : Nat) (i : Int), f.read x = .number (sgn f x) m i ∧ f.leastPlace ≤ i ∧ A f x = (m : Rat) * 2 ^ i := by
  obtain ⟨m, i, h1, h2, h3⟩ := read_fin f h
  refine ⟨m, i, h1, h2, ?_⟩
  unfold A
  rw [← h3, Rat.natCast_mul, z2_toNat (by omega), Rat.mul_assoc, ← z2_add]
  congr 2
  omega

theorem mul_num (h3 : (4 : Int) ≤ 2 ^ f.exponentBits) {x y : Nat} (hx : fin f x = true) (hy : fin f y = true) (hv : A f x * A f y < 2 ^ top f) :
    ∃ z, f.mul x y = some z ∧ Is f z (sgn f x ^^ sgn f y) ∧ Fl f (A f x * A f y) (A f z) := by
  obtain ⟨m, i, e1, _, a1⟩ := read_num f hx
  obtain ⟨n, j, e2, _, a2⟩ := read_num f hy
  have e : A f x * A f y = ((m * n : Nat) : Rat) * 2 ^ (i + j) := by
    rw [a1, a2, Rat.natCast_mul, z2_add]
    grind
  rw [e] at hv ⊢
  obtain ⟨k, hk, hki, hfl⟩ := nearest_num f h3 (sgn f x ^^ sgn f y) _ _ hv
  obtain ⟨w1, w2⟩ := is_word f (sgn f x ^^ sgn f y) hki
  refine ⟨_, ?_, w1, by rw [w2]; exact hfl⟩
  unfold Format.mul
  rw [e1, e2]
  simp only [Datum.product, Option.map_some, Format.write, hk]

end Go.Proofs.YtkgfepakedieaaaGreatDoor.Flt

/-! The operations as numbers: quotient, sum, difference, order. No program here. -/
namespace Go.Proofs.YtkgfepakedieaaaGreatDoor.Flt
open Ieee

variable (f : Format)

/-- As 'Fl', for a quotient: two roundings. -/
def Fl2 (v a : Rat) : Prop := (2 ^ (f.leastPlace + f.fractionBits) ≤ v → Near f 2 a v) ∧ (∀ j, (mag f j : Rat) * 2 ^ f.leastPlace ≤ v → (mag f j : Rat) * 2 ^ f.leastPlace ≤ a) ∧ (∀ j, v ≤ (mag f j : Rat) * 2 ^ f.leastPlace → a ≤ (mag f j : Rat) * 2 ^ f.leastPlace)

/-- The sticky digit turns no comparison with a number of the format. -/
theorem sticky {v : Rat} {n q r t : Nat} {P : Int} (hn : n ≠ 0) (hr : r < n) (hv : v * (n : Rat) = ((n * q + r : Nat) : Rat) * 2 ^ P) (ht : t = (r != 0).toNat) (hq : 2 ^ (f.fractionBits + 1) ≤ q) :
    Near f 1 ((2 * q + t : Nat) * 2 ^ (P - 1)) v ∧
      (∀ (c : Nat) (e : Int), c < 2 ^ (f.fractionBits + 1) → ((c : Rat) * 2 ^ e ≤ v ↔ (c : Rat) * 2 ^ e ≤ (2 * q + t : Nat) * 2 ^ (P - 1)) ∧ (v ≤ (c : Rat) * 2 ^ e ↔ (2 * q + t : Nat) * 2 ^ (P - 1) ≤ (c : Rat) * 2 ^ e)) := by
  have hP := z2_pos P
  have hn0 : (0 : Rat) < (n : Rat) := by exact_mod_cast Nat.pos_of_ne_zero hn
  have hlo : (q : Rat) * 2 ^ P ≤ v := by
    apply Rat.le_of_mul_le_mul_right _ hn0
    rw [hv]
    have h1 : ((n * q : Nat) : Rat) ≤ ((n * q + r : Nat) : Rat) := by exact_mod_cast Nat.le_add_right _ _
    have := Rat.mul_le_mul_of_nonneg_right h1 (Rat.le_of_lt hP)
    rw [Rat.natCast_mul] at this
    grind
  have hhi : v < ((q + 1 : Nat) : Rat) * 2 ^ P := by
    apply Rat.lt_of_mul_lt_mul_right (c := (n : Rat)) _ (Rat.le_of_lt hn0)
    rw [hv]
    have h1 : ((n * q + r : Nat) : Rat) < ((n * (q + 1) : Nat) : Rat) := by
      have : n * q + r < n * (q + 1) := by rw [Nat.mul_add]; omega
      exact_mod_cast this
    have := Rat.mul_lt_mul_of_pos_right h1 hP
    rw [Rat.natCast_mul] at this
    grind
  have hmid : (2 : Rat) ^ P = 2 * 2 ^ (P - 1) := by
    rw [show P = 1 + (P - 1) by omega, z2_add, Rat.zpow_one, show 1 + (P - 1) - 1 = P - 1 by omega]
  have hP1 := z2_pos (P - 1)
  have hcq : ((q + 1 : Nat) : Rat) = (q : Rat) + 1 := by simp
  have hc2 : ((2 * q + t : Nat) : Rat) = 2 * (q : Rat) + (t : Rat) := by simp
  have hq1 : (2 : Rat) ^ ((f.fractionBits : Int) + 1 + P) ≤ (q : Rat) * 2 ^ P := by
    rw [z2_add]
    refine Rat.mul_le_mul_of_nonneg_right ?_ (Rat.le_of_lt hP)
    have := z2_nat (f.fractionBits + 1)
    rw [show (((f.fractionBits + 1 : Nat) : Int)) = (f.fractionBits : Int) + 1 by omega] at this
    rw [← this]
    exact_mod_cast hq
  by_cases h0 : r = 0
  · subst h0
    have ht0 : t = 0 := by rw [ht]; rfl
    subst ht0
    have hvq : v = (q : Rat) * 2 ^ P := by
      have h1 : v * (n : Rat) = ((q : Rat) * 2 ^ P) * (n : Rat) := by
        rw [hv, Nat.add_zero, Rat.natCast_mul]
        grind
      have h2 := Rat.le_of_mul_le_mul_right (a := v) (b := (q : Rat) * 2 ^ P) (c := (n : Rat)) (by rw [h1]; exact Rat.le_refl) hn0
      exact Rat.le_antisymm h2 hlo
    have ev : ((2 * q + 0 : Nat) : Rat) * 2 ^ (P - 1) = v := by
      rw [hvq, hmid, hc2]
      simp
      grind
    rw [ev]
    refine ⟨Near.refl f (by rw [hvq]; exact Rat.mul_nonneg (by exact_mod_cast Nat.zero_le _) (Rat.le_of_lt hP)) 1, fun c e _ => ⟨Iff.rfl, Iff.rfl⟩⟩
  · have ht1 : t = 1 := by rw [ht]; simp [h0]
    subst ht1
    have hvq : (q : Rat) * 2 ^ P < v := by
      apply Rat.lt_of_mul_lt_mul_right (c := (n : Rat)) _ (Rat.le_of_lt hn0)
      rw [hv]
      have h1 : ((n * q : Nat) : Rat) < ((n * q + r : Nat) : Rat) := by exact_mod_cast (show n * q < n * q + r by omega)
      have := Rat.mul_lt_mul_of_pos_right h1 hP
      rw [Rat.natCast_mul] at this
      grind
    obtain ⟨v', hv'⟩ : ∃ v' : Rat, v' = ((2 * q + 1 : Nat) : Rat) * 2 ^ (P - 1) := ⟨_, rfl⟩
    have hv'2 : v' = (q : Rat) * 2 ^ P + 2 ^ (P - 1) := by
      rw [hv', hmid, hc2]
      grind
    have hhi' : v < (q : Rat) * 2 ^ P + 2 * 2 ^ (P - 1) := by
      rw [hcq] at hhi
      grind
    rw [← hv']
    constructor
    · obtain ⟨e, hee⟩ : ∃ e, e = (2 : Rat) ^ (-(f.fractionBits : Int) - 1) := ⟨_, rfl⟩
      have hr' : ro f = 1 - e := by rw [hee]; rfl
      have he0 : 0 < e := by rw [hee]; exact z2_pos _
      have he : (2 : Rat) ^ (P - 1) ≤ ((q : Rat) * 2 ^ P) * e := by
        have := Rat.mul_le_mul_of_nonneg_right hq1 (Rat.le_of_lt he0)
        rw [hee, ← z2_add] at this
        have h2 : (2 : Rat) ^ (P - 1) ≤ 2 ^ ((f.fractionBits : Int) + 1 + P + (-(f.fractionBits : Int) - 1)) := z2_mono (by omega)
        rw [hee]
        exact Rat.le_trans h2 this
      have h7 := Rat.mul_le_mul_of_nonneg_right (Rat.le_of_lt hvq) (Rat.le_of_lt he0)
      have h8 : ((q : Rat) * 2 ^ P) * e ≤ v' * e := Rat.mul_le_mul_of_nonneg_right (by grind) (Rat.le_of_lt he0)
      unfold Near
      rw [Rat.pow_one, hr']
      constructor <;> grind
    · intro c e hc
      by_cases hle : P ≤ e
      · have e1 : (c : Rat) * 2 ^ e = ((c * 2 ^ (e - P).toNat : Nat) : Rat) * 2 ^ P := by
          rw [Rat.natCast_mul, z2_toNat (by omega : (0 : Int) ≤ e - P), Rat.mul_assoc, ← z2_add]
          congr 2
          omega
        rw [e1]
        generalize c * 2 ^ (e - P).toNat = c'
        have key : (q + 1 ≤ c' ∧ (q : Rat) * 2 ^ P + 2 ^ P ≤ (c' : Rat) * 2 ^ P) ∨ (c' ≤ q ∧ (c' : Rat) * 2 ^ P ≤ (q : Rat) * 2 ^ P) := by
          rcases Nat.lt_or_ge q c' with h | h
          · left
            refine ⟨h, ?_⟩
            have h1 : ((q + 1 : Nat) : Rat) ≤ (c' : Rat) := by exact_mod_cast h
            have := Rat.mul_le_mul_of_nonneg_right h1 (Rat.le_of_lt hP)
            rw [hcq] at this
            grind
          · right
            refine ⟨h, Rat.mul_le_mul_of_nonneg_right (by exact_mod_cast h) (Rat.le_of_lt hP)⟩
        rcases key with ⟨_, h⟩ | ⟨_, h⟩
        · constructor <;> constructor <;> intro h' <;> grind
        · constructor <;> constructor <;> intro h' <;> grind
      · have h1 : (c : Rat) < ((2 ^ (f.fractionBits + 1) : Nat) : Rat) := by exact_mod_cast hc
        have h2 := Rat.mul_lt_mul_of_pos_right h1 (z2_pos e)
        rw [z2_nat, ← z2_add] at h2
        have h4 : (2 : Rat) ^ (((f.fractionBits + 1 : Nat) : Int) + e) ≤ 2 ^ ((f.fractionBits : Int) + 1 + P) := z2_mono (by omega)
        constructor <;> constructor <;> intro h' <;> grind

theorem div_num (h3 : (4 : Int) ≤ 2 ^ f.exponentBits) {x y : Nat} (hx : fin f x = true) (hy : fin f y = true) (hy0 : 0 < A f y) (hv : A f x / A f y < 2 ^ (top f - 1)) :
    ∃ z, f.div x y = some z ∧ Is f z (sgn f x ^^ sgn f y) ∧ Fl2 f (A f x / A f y) (A f z) := by
  obtain ⟨m, i, e1, _, a1⟩ := read_num f hx
  obtain ⟨n, j, e2, _, a2⟩ := read_num f hy
  have hn : n ≠ 0 := by
    intro h
    rw [a2, h] at hy0
    simp at hy0
  obtain ⟨v, hvv⟩ : ∃ v, v = A f x / A f y := ⟨_, rfl⟩
  have hvx : v * A f y = A f x := by rw [hvv]; exact Rat.div_mul_cancel (Rat.ne_of_gt hy0)
  rw [← hvv] at hv ⊢
  obtain ⟨more, hmore⟩ : ∃ more, more = f.fractionBits + 2 + n.log2 - m.log2 := ⟨_, rfl⟩
  obtain ⟨D, hD⟩ : ∃ D, D = m <<< more := ⟨_, rfl⟩
  have hdiv : f.div x y = some (f.nearest (sgn f x ^^ sgn f y) (2 * (D / n) + (D % n != 0).toNat) (i - j - more - 1)) := by
    unfold Format.div
    rw [e1, e2]
    simp only [Datum.quotient, if_neg hn, Option.map_some, Format.write, ← hmore, ← hD]
  rw [hdiv]
  have hnp : (0 : Rat) < (n : Rat) := by exact_mod_cast Nat.pos_of_ne_zero hn
  have hvD : v * (n : Rat) = (D : Rat) * 2 ^ (i - j - more) := by
    have h1 : v * (n : Rat) * 2 ^ j = (m : Rat) * 2 ^ i := by rw [← a1, ← hvx, a2, Rat.mul_assoc]
    have h2 : v * (n : Rat) * 2 ^ j * 2 ^ (-j) = (m : Rat) * 2 ^ i * 2 ^ (-j) := by rw [h1]
    rw [Rat.mul_assoc, ← z2_add, show j + -j = 0 by omega, Rat.zpow_zero, Rat.mul_one, Rat.mul_assoc, ← z2_add] at h2
    rw [h2, hD, Nat.shiftLeft_eq, Rat.natCast_mul, z2_nat, Rat.mul_assoc, ← z2_add]
    congr 2
    omega
  by_cases hm : m = 0
  · have hD0 : D = 0 := by rw [hD, hm]; simp
    subst hD0
    have hv0 : v = 0 := by
      have : v * (n : Rat) = 0 := by rw [hvD]; simp
      rcases Rat.mul_eq_zero.1 this with h | h
      · exact h
      · grind
    have hv' : (((2 * (0 / n) + (0 % n != 0).toNat : Nat)) : Rat) * 2 ^ (i - j - more - 1) < 2 ^ top f := by
      have := z2_pos (top f)
      simp
      exact this
    obtain ⟨k, hk, hki, hfl⟩ := nearest_num f h3 (sgn f x ^^ sgn f y) _ _ hv'
    obtain ⟨w1, w2⟩ := is_word f (sgn f x ^^ sgn f y) hki
    refine ⟨_, rfl, by rw [hk]; exact w1, ?_⟩
    rw [hk, w2]
    have ez : (((2 * (0 / n) + (0 % n != 0).toNat : Nat)) : Rat) * 2 ^ (i - j - more - 1) = v := by
      rw [hv0]; simp
    rw [ez] at hfl
    refine ⟨fun h => ?_, hfl.2⟩
    have := z2_pos (f.leastPlace + f.fractionBits)
    grind
  · have hdm := Nat.div_add_mod D n
    have hq : 2 ^ (f.fractionBits + 1) ≤ D / n := by
      rw [Nat.le_div_iff_mul_le (Nat.pos_of_ne_zero hn)]
      have h1 : 2 ^ m.log2 ≤ m := Nat.log2_self_le hm
      have h2 : n < 2 ^ (n.log2 + 1) := Nat.lt_log2_self
      have h4 : 2 ^ (f.fractionBits + 1) * n ≤ 2 ^ (f.fractionBits + 1) * 2 ^ (n.log2 + 1) := Nat.mul_le_mul_left _ (Nat.le_of_lt h2)
      rw [← Nat.pow_add] at h4
      have h5 : 2 ^ m.log2 * 2 ^ more ≤ D := by rw [hD, Nat.shiftLeft_eq]; exact Nat.mul_le_mul_right _ h1
      rw [← Nat.pow_add] at h5
      have h6 : 2 ^ (f.fractionBits + 1 + (n.log2 + 1)) ≤ 2 ^ (m.log2 + more) := Nat.pow_le_pow_right (by omega) (by omega)
      omega
    obtain ⟨s1, s2⟩ := sticky f (v := v) (n := n) (q := D / n) (r := D % n) (t := (D % n != 0).toNat) (P := i - j - more) hn (Nat.mod_lt _ (Nat.pos_of_ne_zero hn)) (by rw [hdm]; exact hvD) rfl hq
    have hv0 : 0 ≤ v := by
      refine s1.nonneg ?_
      exact Rat.mul_nonneg (by exact_mod_cast Nat.zero_le _) (Rat.le_of_lt (z2_pos _))
    have hlt : ((2 * (D / n) + (D % n != 0).toNat : Nat) : Rat) * 2 ^ (i - j - more - 1) < 2 ^ top f := by
      have h1 := s1.1
      rw [Rat.pow_one] at h1
      have h2 : (1 : Rat) / 2 ≤ ro f := by
        have h : (2 : Rat) ^ (-(f.fractionBits : Int) - 1) ≤ 2 ^ (-1 : Int) := z2_mono (by omega)
        have h2 : (2 : Rat) ^ (-1 : Int) = 1 / 2 := by decide +kernel
        unfold ro
        grind
      have h4 := Rat.mul_le_mul_of_nonneg_left h2 (Rat.mul_nonneg (show (0 : Rat) ≤ ((2 * (D / n) + (D % n != 0).toNat : Nat) : Rat) by exact_mod_cast Nat.zero_le _) (Rat.le_of_lt (z2_pos (i - j - more - 1))))
      have h5 : (2 : Rat) ^ top f = 2 * 2 ^ (top f - 1) := by
        rw [show top f = 1 + (top f - 1) by omega, z2_add, Rat.zpow_one, show 1 + (top f - 1) - 1 = top f - 1 by omega]
      grind
    obtain ⟨k, hk, hki, hf1, hf2, hf3⟩ := nearest_num f h3 (sgn f x ^^ sgn f y) _ _ hlt
    obtain ⟨w1, w2⟩ := is_word f (sgn f x ^^ sgn f y) hki
    refine ⟨_, rfl, by rw [hk]; exact w1, ?_⟩
    rw [hk, w2]
    refine ⟨fun h => ?_, fun l h => ?_, fun l h => ?_⟩
    · have h' : (2 : Rat) ^ (f.leastPlace + f.fractionBits) ≤ ((2 * (D / n) + (D % n != 0).toNat : Nat) : Rat) * 2 ^ (i - j - more - 1) := by
        have := (s2 1 (f.leastPlace + f.fractionBits) (Nat.one_lt_two_pow (by omega))).1
        rw [show ((1 : Nat) : Rat) = 1 from rfl, Rat.one_mul] at this
        exact this.1 h
      exact (hf1 h').trans s1
    · by_cases hl : l = 0
      · subst hl
        rw [mag_zero]
        have := Rat.mul_nonneg (show (0 : Rat) ≤ (mag f k : Rat) by exact_mod_cast Nat.zero_le _) (Rat.le_of_lt (z2_pos f.leastPlace))
        simpa using this
      · obtain ⟨c, e, hcl, hel, hce⟩ := mag_place f hl
        refine hf2 l ?_
        rw [hce] at h ⊢
        exact (s2 c e hcl).1.1 h
    · by_cases hl : l = 0
      · subst hl
        refine hf3 0 ?_
        rw [mag_zero] at h ⊢
        have := (s2 0 0 (Nat.two_pow_pos _)).2
        simp at this h ⊢
        exact this.1 h
      · obtain ⟨c, e, hcl, hel, hce⟩ := mag_place f hl
        refine hf3 l ?_
        rw [hce] at h ⊢
        exact (s2 c e hcl).2.1 h

end Go.Proofs.YtkgfepakedieaaaGreatDoor.Flt

/-! The operations as numbers: sum, difference, order. No program here. -/
namespace Go.Proofs.YtkgfepakedieaaaGreatDoor.Flt
open Ieee

variable (f : Format)

/-- A word's number. -/
noncomputable def V (w : Nat) : Rat := if sgn f w then -A f w else A f w
/-- A number's size. -/
def ab (a : Rat) : Rat := if a < 0 then -a else a
theorem ab_nonneg (a : Rat) : 0 ≤ ab a := by unfold ab; split <;> grind
theorem ab_of_nonneg {a : Rat} (h : 0 ≤ a) : ab a = a := by unfold ab; split <;> grind
theorem ab_V (w : Nat) : ab (V f w) = A f w := by
  have := A_nonneg f w
  unfold ab V
  split <;> split <;> grind
theorem V_eq (w : Nat) : V f w = (sg f w : Rat) * 2 ^ f.leastPlace := by
  unfold V A sg
  split
  · rw [Rat.intCast_neg, Rat.intCast_natCast]; grind
  · rw [Rat.intCast_natCast]

theorem V_read {w : Nat} {m : Nat} {i : Int} (h : f.read w = .number (sgn f w) m i) (hA : A f w = (m : Rat) * 2 ^ i) (base : Int) (hb : base ≤ i) : (signed (sgn f w) m (i - base).toNat : Rat) * 2 ^ base = V f w := by
  rw [signed_eq]
  have e : ((m * 2 ^ (i - base).toNat : Nat) : Rat) * 2 ^ base = A f w := by
    rw [hA, Rat.natCast_mul, z2_toNat (by omega), Rat.mul_assoc, ← z2_add]
    congr 2
    omega
  unfold V
  split
  · rw [Rat.intCast_neg, Rat.intCast_natCast, ← e]; grind
  · rw [Rat.intCast_natCast, ← e]

theorem natAbs_ab (t : Int) {u : Rat} (hu : 0 < u) : ((t.natAbs : Nat) : Rat) * u = ab ((t : Rat) * u) := by
  rcases Int.lt_or_le t 0 with h | h
  · have e : ((t.natAbs : Nat) : Rat) = -(t : Rat) := by
      rw [← Rat.intCast_natCast, ← Rat.intCast_neg]
      congr 1
      omega
    have h1 : (t : Rat) < 0 := by exact_mod_cast h
    have h2 : (t : Rat) * u < 0 := by
      have := Rat.mul_lt_mul_of_pos_right h1 hu
      rwa [Rat.zero_mul] at this
    rw [e, ab, if_pos h2]
    grind
  · have e : ((t.natAbs : Nat) : Rat) = (t : Rat) := by
      rw [← Rat.intCast_natCast]
      congr 1
      omega
    have h1 : (0 : Rat) ≤ (t : Rat) := by exact_mod_cast h
    have h2 := Rat.mul_nonneg h1 (Rat.le_of_lt hu)
    rw [e, ab_of_nonneg h2]

/-- What a sum's word is. -/
def SumIs (v : Rat) (z0 : Bool) (z : Nat) : Prop := Is f z (if v = 0 then z0 else decide (v < 0)) ∧ Near f 1 (A f z) (ab v) ∧ Fl f (ab v) (A f z)

theorem sum_num (h3 : (4 : Int) ≤ 2 ^ f.exponentBits) {s t : Bool} {m n : Nat} {i j : Int} (hi : f.leastPlace ≤ i) (hj : f.leastPlace ≤ j) {a b : Rat}
    (ha : ∀ base, base ≤ i → (signed s m (i - base).toNat : Rat) * 2 ^ base = a) (hb : ∀ base, base ≤ j → (signed t n (j - base).toNat : Rat) * 2 ^ base = b) (hv : ab (a + b) < 2 ^ top f) :
    ∃ z, ((Datum.number s m i).sum (.number t n j)).map f.write = some z ∧ SumIs f (a + b) (s && t) z := by
  simp only [Datum.sum, Option.map_some, Format.write]
  obtain ⟨base, hbase⟩ : ∃ base, base = min i j := ⟨_, rfl⟩
  obtain ⟨T, hT⟩ : ∃ T, T = signed s m (i - base).toNat + signed t n (j - base).toNat := ⟨_, rfl⟩
  rw [← hbase, ← hT]
  have hu := z2_pos base
  have e : (T : Rat) * 2 ^ base = a + b := by
    rw [hT, Rat.intCast_add, ← ha base (by omega), ← hb base (by omega)]
    grind
  have eA : ((T.natAbs : Nat) : Rat) * 2 ^ base = ab (a + b) := by rw [natAbs_ab T hu, e]
  rw [← eA] at hv
  have hs : (if T = 0 then s && t else decide (T < 0)) = (if a + b = 0 then s && t else decide (a + b < 0)) := by
    rcases Int.lt_trichotomy T 0 with h | h | h
    · have h1 : (T : Rat) < 0 := by exact_mod_cast h
      have h2 : (T : Rat) * 2 ^ base < 0 := by
        have := Rat.mul_lt_mul_of_pos_right h1 hu
        rwa [Rat.zero_mul] at this
      rw [e] at h2
      rw [if_neg (by omega), if_neg (by grind)]
      simp [h, h2]
    · have h2 : a + b = 0 := by rw [← e, h]; simp
      rw [if_pos h, if_pos h2]
    · have h1 : (0 : Rat) < (T : Rat) := by exact_mod_cast h
      have h2 := Rat.mul_pos h1 hu
      rw [e] at h2
      rw [if_neg (by omega), if_neg (by grind)]
      have h4 : ¬ T < 0 := by omega
      have h5 : ¬ a + b < 0 := by grind
      simp [h4, h5]
  rw [hs]
  obtain ⟨k, hk, hki, hfl⟩ := nearest_num f h3 (if a + b = 0 then s && t else decide (a + b < 0)) _ _ hv
  obtain ⟨w1, w2⟩ := is_word f (if a + b = 0 then s && t else decide (a + b < 0)) hki
  rw [eA] at hfl
  refine ⟨_, by rw [hk], w1, ?_, by rw [w2]; exact hfl⟩
  rw [w2]
  rcases Rat.le_total (a := 2 ^ (f.leastPlace + f.fractionBits)) (b := ab (a + b)) with h | h
  · exact hfl.1 h
  · -- small: the format has the number
    obtain ⟨N, hN⟩ : ∃ N, N = T.natAbs * 2 ^ (base - f.leastPlace).toNat := ⟨_, rfl⟩
    have e2 : (N : Rat) * 2 ^ f.leastPlace = ab (a + b) := by
      rw [hN, Rat.natCast_mul, z2_toNat (by omega), Rat.mul_assoc, ← z2_add, ← eA]
      congr 2
      omega
    have hNle : N ≤ f.binade := by
      have h1 : (N : Rat) * 2 ^ f.leastPlace ≤ ((f.binade : Nat) : Rat) * 2 ^ f.leastPlace := by
        rw [e2]
        refine Rat.le_trans h ?_
        rw [show f.binade = 2 ^ f.fractionBits from rfl, z2_nat, ← z2_add, Int.add_comm]
        exact Rat.le_refl
      have := Rat.le_of_mul_le_mul_right h1 (z2_pos _)
      exact_mod_cast this
    have hm : mag f N = N := by
      have := magAt f (q := 0) (k := N) (.inl rfl) (by omega)
      simpa using this
    have h1 := hfl.2.1 N (by rw [hm, e2]; exact Rat.le_refl)
    have h2 := hfl.2.2 N (by rw [hm, e2]; exact Rat.le_refl)
    rw [hm, e2] at h1 h2
    rw [Rat.le_antisymm h2 h1]
    exact Near.refl f (ab_nonneg _) 1

theorem add_num (h3 : (4 : Int) ≤ 2 ^ f.exponentBits) {x y : Nat} (hx : fin f x = true) (hy : fin f y = true) (hv : ab (V f x + V f y) < 2 ^ top f) :
    ∃ z, f.add x y = some z ∧ SumIs f (V f x + V f y) (sgn f x && sgn f y) z := by
  obtain ⟨m, i, e1, l1, a1⟩ := read_num f hx
  obtain ⟨n, j, e2, l2, a2⟩ := read_num f hy
  unfold Format.add
  rw [e1, e2]
  exact sum_num f h3 l1 l2 (fun b h => V_read f e1 a1 b h) (fun b h => V_read f e2 a2 b h) hv

theorem signed_not (t : Bool) (n k : Nat) : signed (!t) n k = -signed t n k := by
  rw [signed_eq, signed_eq]
  cases t <;> simp

theorem sub_num (h3 : (4 : Int) ≤ 2 ^ f.exponentBits) {x y : Nat} (hx : fin f x = true) (hy : fin f y = true) (hv : ab (V f x - V f y) < 2 ^ top f) :
    ∃ z, f.sub x y = some z ∧ SumIs f (V f x - V f y) (sgn f x && !sgn f y) z := by
  obtain ⟨m, i, e1, l1, a1⟩ := read_num f hx
  obtain ⟨n, j, e2, l2, a2⟩ := read_num f hy
  unfold Format.sub
  rw [e1, e2]
  rw [Rat.sub_eq_add_neg] at hv ⊢
  refine sum_num f h3 l1 l2 (fun b h => V_read f e1 a1 b h) (fun b h => ?_) hv
  rw [signed_not, Rat.intCast_neg, ← V_read f e2 a2 b h]
  grind

theorem order_num {x y : Nat} (hx : fin f x = true) (hy : fin f y = true) :
    (f.order x y == some .lt) = decide (V f x < V f y) ∧ (f.order x y == some .eq) = decide (V f x = V f y) := by
  rw [order_fin f hx hy, V_eq, V_eq]
  have hu := z2_pos f.leastPlace
  have k1 : ((sg f x : Rat) * 2 ^ f.leastPlace < (sg f y : Rat) * 2 ^ f.leastPlace) ↔ sg f x < sg f y := by
    rw [Rat.mul_lt_mul_right hu]
    exact Rat.intCast_lt_intCast
  have k2 : ((sg f x : Rat) * 2 ^ f.leastPlace = (sg f y : Rat) * 2 ^ f.leastPlace) ↔ sg f x = sg f y := by
    constructor
    · intro h
      have h1 := Rat.le_of_mul_le_mul_right (a := (sg f x : Rat)) (b := (sg f y : Rat)) (by rw [h]; exact Rat.le_refl) hu
      have h2 := Rat.le_of_mul_le_mul_right (a := (sg f y : Rat)) (b := (sg f x : Rat)) (by rw [h]; exact Rat.le_refl) hu
      have h4 : (sg f x : Rat) = (sg f y : Rat) := Rat.le_antisymm h1 h2
      exact_mod_cast h4
    · intro h; rw [h]
  constructor
  · rw [show decide _ = decide (sg f x < sg f y) from decide_eq_decide.2 k1]
    have : compare (sg f x) (sg f y) = compareOfLessAndEq (sg f x) (sg f y) := rfl
    rw [this]
    unfold compareOfLessAndEq
    by_cases h : sg f x < sg f y
    · simp [h]
    · by_cases h' : sg f x = sg f y
      · simp [h']
      · simp [h, h']
  · rw [show decide _ = decide (sg f x = sg f y) from decide_eq_decide.2 k2]
    have : compare (sg f x) (sg f y) = compareOfLessAndEq (sg f x) (sg f y) := rfl
    rw [this]
    unfold compareOfLessAndEq
    by_cases h : sg f x < sg f y
    · have h' : ¬ sg f x = sg f y := by omega
      simp [h, h']
    · by_cases h' : sg f x = sg f y
      · simp [h']
      · simp [h, h']

end Go.Proofs.YtkgfepakedieaaaGreatDoor.Flt

/-! Words of whole numbers and of parts. No program here beyond its float operations. -/
namespace Go.Proofs.YtkgfepakedieaaaGreatDoor
open Ieee

theorem h3s : (4 : Int) ≤ 2 ^ single.exponentBits := by decide
theorem top_s : Flt.top single = 126 := by decide
theorem lp_s : single.leastPlace = -149 := by decide
theorem fb_s : single.fractionBits = 23 := rfl

/-- A finite word. -/
abbrev F (x : Nat) : Prop := Flt.fin single x = true ∧ x < 2 ^ 32
noncomputable abbrev A (x : Nat) : Rat := Flt.A single x
noncomputable abbrev V (x : Nat) : Rat := Flt.V single x
abbrev S (x : Nat) : Bool := Flt.sgn single x
theorem two_sign : 2 * single.signWeight = 2 ^ 32 := by decide

theorem is_F {z : Nat} {s : Bool} (h : Flt.Is single z s) : F z ∧ S z = s := ⟨⟨h.1, by rw [← two_sign]; exact h.2.2⟩, h.2.1⟩

theorem fin_isNan {x : Nat} (h : Flt.fin single x = true) : isNan x = false := by
  obtain ⟨m, i, e, _⟩ := Flt.read_fin single h
  rw [isNan_iff]
  show (single.read x).isNaN = false
  rw [e]
  rfl
theorem F_cn {x : Nat} (h : F x) : cn x = x := cn_of_num (fin_isNan h.1)
theorem F_of_cn {x y : Nat} (h : cn x = y) (hy : F y) : x = y := by
  by_cases hn : isNan x = true
  · rw [cn_of_nan hn] at h
    have := fin_isNan hy.1
    rw [← h, nan0_isNan] at this
    cases this
  · rw [Bool.not_eq_true] at hn
    rw [cn_of_num hn] at h
    exact h

/-! ### The four operations on finite words -/
theorem mulF {x y : Nat} (hx : F x) (hy : F y) (hv : A x * A y < 2 ^ (126 : Int)) : F (cop .mul x y) ∧ S (cop .mul x y) = (S x ^^ S y) ∧ Flt.Fl single (A x * A y) (A (cop .mul x y)) := by
  rw [← top_s] at hv
  obtain ⟨z, hz, hi, hf⟩ := Flt.mul_num single h3s hx.1 hy.1 hv
  have e : cop .mul x y = z := by
    unfold cop
    rw [show floatBits .mul .f32 x y = single.mul x y from rfl, hz]
    rfl
  rw [e]
  obtain ⟨h1, h2⟩ := is_F hi
  exact ⟨h1, h2, hf⟩
theorem divF {x y : Nat} (hx : F x) (hy : F y) (hy0 : 0 < A y) (hv : A x / A y < 2 ^ (125 : Int)) : F (cop .quo x y) ∧ S (cop .quo x y) = (S x ^^ S y) ∧ Flt.Fl2 single (A x / A y) (A (cop .quo x y)) := by
  have hv' : A x / A y < 2 ^ (Flt.top single - 1) := by rw [top_s]; exact hv
  obtain ⟨z, hz, hi, hf⟩ := Flt.div_num single h3s hx.1 hy.1 hy0 hv'
  have e : cop .quo x y = z := by
    unfold cop
    rw [show floatBits .quo .f32 x y = single.div x y from rfl, hz]
    rfl
  rw [e]
  obtain ⟨h1, h2⟩ := is_F hi
  exact ⟨h1, h2, hf⟩
theorem addF {x y : Nat} (hx : F x) (hy : F y) (hv : Flt.ab (V x + V y) < 2 ^ (126 : Int)) : F (cop .add x y) ∧ Flt.SumIs single (V x + V y) (S x && S y) (cop .add x y) := by
  rw [← top_s] at hv
  obtain ⟨z, hz, hi⟩ := Flt.add_num single h3s hx.1 hy.1 hv
  have e : cop .add x y = z := by
    unfold cop
    rw [show floatBits .add .f32 x y = single.add x y from rfl, hz]
    rfl
  rw [e]
  exact ⟨(is_F hi.1).1, hi⟩
theorem subF {x y : Nat} (hx : F x) (hy : F y) (hv : Flt.ab (V x - V y) < 2 ^ (126 : Int)) : F (cop .sub x y) ∧ Flt.SumIs single (V x - V y) (S x && !S y) (cop .sub x y) := by
  rw [← top_s] at hv
  obtain ⟨z, hz, hi⟩ := Flt.sub_num single h3s hx.1 hy.1 hv
  have e : cop .sub x y = z := by
    unfold cop
    rw [show floatBits .sub .f32 x y = single.sub x y from rfl, hz]
    rfl
  rw [e]
  exact ⟨(is_F hi.1).1, hi⟩
theorem ltF {x y : Nat} (hx : F x) (hy : F y) : flt .f32 x y = decide (V x < V y) := (Flt.order_num single hx.1 hy.1).1
theorem eqF {x y : Nat} (hx : F x) (hy : F y) : feq .f32 x y = decide (V x = V y) := (Flt.order_num single hx.1 hy.1).2
theorem leF {x y : Nat} (hx : F x) (hy : F y) : fle .f32 x y = decide (V x ≤ V y) := by
  unfold fle
  rw [ltF hx hy, eqF hx hy]
  by_cases h : V x < V y
  · simp [h, Rat.le_of_lt h]
  · by_cases h' : V x = V y
    · simp [h', Rat.le_refl]
    · have : ¬ V x ≤ V y := fun hc => h (Rat.lt_of_le_of_ne hc h')
      simp [h, h', this]

theorem V_pos {x : Nat} (h : S x = false) : V x = A x := by
  show Flt.V single x = Flt.A single x
  unfold Flt.V
  rw [if_neg (by rw [show Flt.sgn single x = false from h]; decide)]
theorem V_neg {x : Nat} (h : S x = true) : V x = -A x := by
  show Flt.V single x = -Flt.A single x
  unfold Flt.V
  rw [if_pos h]
theorem A_nn (x : Nat) : 0 ≤ A x := Flt.A_nonneg single x

/-- A word's number, reckoned. -/
theorem F_const {x : Nat} (h : (Flt.fin single x && decide (x < 2 ^ 32)) = true) : F x := by
  rw [Bool.and_eq_true, decide_eq_true_eq] at h
  exact h
theorem A_const {x m : Nat} {a : Rat} (h : Flt.mag single (Flt.rung single x) = m) (he : (m : Rat) * 2 ^ (-149 : Int) = a) : A x = a := by
  show (Flt.mag single (Flt.rung single x) : Rat) * 2 ^ single.leastPlace = a
  rw [h, lp_s, he]

/-- The word of a whole number. -/
theorem intF (n : Int) (h0 : 0 ≤ n) (h1 : n ≤ 1000000000000) : F (floatOfInt .f32 n) ∧ S (floatOfInt .f32 n) = false ∧ Flt.Fl single (n : Rat) (A (floatOfInt .f32 n)) := by
  have e : floatOfInt .f32 n = single.nearest false n.natAbs 0 := by
    show single.nearest (decide (n < 0)) n.natAbs 0 = _
    rw [decide_eq_false (by omega)]
  have e2 : ((n.natAbs : Nat) : Rat) * 2 ^ (0 : Int) = (n : Rat) := by
    rw [Rat.zpow_zero, Rat.mul_one, ← Rat.intCast_natCast]
    congr 1
    omega
  have hv : ((n.natAbs : Nat) : Rat) * 2 ^ (0 : Int) < 2 ^ Flt.top single := by
    rw [e2, top_s]
    have h2 : (n : Rat) ≤ ((1000000000000 : Int) : Rat) := Rat.intCast_le_intCast.2 h1
    have h3 : ((1000000000000 : Int) : Rat) < 2 ^ (126 : Int) := by decide +kernel
    grind
  obtain ⟨k, hk, hki, hfl⟩ := Flt.nearest_num single h3s false n.natAbs 0 hv
  rw [e2] at hfl
  rw [e, hk]
  obtain ⟨w1, w2⟩ := Flt.is_word single false hki
  obtain ⟨f1, f2⟩ := is_F w1
  exact ⟨f1, f2, by rw [show A _ = _ from w2]; exact hfl⟩

/-! ### The order among words, by their numbers -/
theorem fl_le {v : Rat} {z c : Nat} (h : Flt.Fl single v (A z)) (hc : v ≤ A c) : A z ≤ A c := h.2.2 _ hc
theorem fl_ge {v : Rat} {z c : Nat} (h : Flt.Fl single v (A z)) (hc : A c ≤ v) : A c ≤ A z := h.2.1 _ hc
theorem fl2_le {v : Rat} {z c : Nat} (h : Flt.Fl2 single v (A z)) (hc : v ≤ A c) : A z ≤ A c := h.2.2 _ hc
theorem fl2_ge {v : Rat} {z c : Nat} (h : Flt.Fl2 single v (A z)) (hc : A c ≤ v) : A c ≤ A z := h.2.1 _ hc

theorem one_F : F 1065353216 ∧ S 1065353216 = false ∧ A 1065353216 = 1 := ⟨F_const (by decide +kernel), by decide +kernel, A_const (m := 2 ^ 149) (by decide +kernel) (by decide +kernel)⟩
theorem zero_F : F 0 ∧ S 0 = false ∧ A 0 = 0 := ⟨F_const (by decide +kernel), by decide +kernel, A_const (m := 0) (by decide +kernel) (by decide +kernel)⟩

theorem ratio_le {a b : Rat} (hb : 0 < b) {c : Rat} (h : a ≤ c * b) : a / b ≤ c := by
  apply Rat.le_of_mul_le_mul_right (c := b) _ hb
  rwa [Rat.div_mul_cancel (Rat.ne_of_gt hb)]
theorem ratio_ge {a b : Rat} (hb : 0 < b) {c : Rat} (h : c * b ≤ a) : c ≤ a / b := by
  apply Rat.le_of_mul_le_mul_right (c := b) _ hb
  rwa [Rat.div_mul_cancel (Rat.ne_of_gt hb)]

/-- A part: a whole number by a greater one. -/
theorem partF {x N : Int} {c : Nat} (hc : F c) (hs : S c = false) (hN : A c = (N : Rat)) (h0 : 0 ≤ x) (h1 : x ≤ N) (h2 : 1 ≤ N) (h3 : N ≤ 1000000000000) : F (cop .quo (floatOfInt .f32 x) c) ∧ partB (cop .quo (floatOfInt .f32 x) c) = true := by
  obtain ⟨f1, f2, f3⟩ := intF x h0 (by omega)
  have hN0 : (0 : Rat) < A c := by rw [hN]; exact Rat.intCast_pos.2 (by omega)
  have hle : A (floatOfInt .f32 x) ≤ A c := fl_le f3 (by rw [hN]; exact Rat.intCast_le_intCast.2 h1)
  have hq : A (floatOfInt .f32 x) / A c ≤ 1 := ratio_le hN0 (by rw [Rat.one_mul]; exact hle)
  obtain ⟨g1, g2, g3⟩ := divF f1 hc hN0 (by
    have : (1 : Rat) < 2 ^ (125 : Int) := by decide +kernel
    grind)
  obtain ⟨o1, o2, o3⟩ := one_F
  obtain ⟨z1, z2, z3⟩ := zero_F
  have hz := fl2_le g3 (c := 1065353216) (by rw [o3]; exact hq)
  rw [f2, hs] at g2
  refine ⟨g1, ?_⟩
  unfold partB betB
  rw [leF z1 g1, leF g1 o1, V_pos g2, V_pos o2, V_pos z2, z3]
  simp only [Bool.and_eq_true, decide_eq_true_eq]
  exact ⟨A_nn _, hz⟩

end Go.Proofs.YtkgfepakedieaaaGreatDoor
