/- Rounding as numbers: how far the nearest word is from the number that it stands for, and that no number of the format lies between. No program here. -/
import Derived.Test.YtkgfepakedieaaaFltB
namespace Go.Proofs.Ytkgfepakedieaaa.Flt
open Ieee

variable (f : Format)

theorem two_ne : (2 : Rat) ≠ 0 := by decide
theorem z2_pos (a : Int) : (0 : Rat) < 2 ^ a := Rat.zpow_pos (by decide)
theorem z2_add (a b : Int) : (2 : Rat) ^ (a + b) = 2 ^ a * 2 ^ b := Rat.zpow_add two_ne a b
theorem z2_nat (n : Nat) : ((2 ^ n : Nat) : Rat) = (2 : Rat) ^ (n : Int) := by
  rw [Rat.natCast_pow, Rat.zpow_natCast]
  rfl
theorem z2_toNat {a : Int} (h : 0 ≤ a) : ((2 ^ a.toNat : Nat) : Rat) = (2 : Rat) ^ a := by
  rw [z2_nat, Int.toNat_of_nonneg h]
theorem z2_ge_one {a : Int} (h : 0 ≤ a) : (1 : Rat) ≤ 2 ^ a := by
  rw [← z2_toNat h]
  have : 1 ≤ 2 ^ a.toNat := Nat.one_le_two_pow
  exact_mod_cast this
theorem z2_mono {a b : Int} (h : a ≤ b) : (2 : Rat) ^ a ≤ 2 ^ b := by
  have e : b = (b - a) + a := by omega
  rw [e, z2_add]
  have h1 := z2_ge_one (a := b - a) (by omega)
  have h2 := Rat.mul_le_mul_of_nonneg_right h1 (Rat.le_of_lt (z2_pos a))
  rwa [Rat.one_mul] at h2
theorem z2_lt {a b : Int} (h : (2 : Rat) ^ a < 2 ^ b) : a < b := by
  rcases Int.lt_or_le a b with h1 | h1
  · exact h1
  · exact absurd (z2_mono h1) (Rat.not_le.2 h)
theorem z2_le {a b : Int} (h : (2 : Rat) ^ a ≤ 2 ^ b) : a ≤ b := by
  rcases Int.lt_or_le b a with h1 | h1
  · have h2 := z2_mono (a := b + 1) (b := a) (by omega)
    rw [z2_add, Rat.zpow_one] at h2
    have := z2_pos b
    grind
  · exact h1

/-- The size of a word's number. -/
noncomputable def A (w : Nat) : Rat := (mag f (rung f w) : Rat) * 2 ^ f.leastPlace
theorem A_nonneg (w : Nat) : 0 ≤ A f w := Rat.mul_nonneg (by exact_mod_cast Nat.zero_le _) (Rat.le_of_lt (z2_pos _))

theorem magAt {q k : Nat} (h : q = 0 ∨ f.binade ≤ k) (hk : k ≤ 2 * f.binade) : mag f (q * f.binade + k) = k * 2 ^ q := by
  have hB := binade_pos f
  by_cases h0 : q = 0 ∧ k < f.binade
  · obtain ⟨rfl, h1⟩ := h0
    rw [mag_small f (by omega)]
    simp
  · by_cases h2 : k = 2 * f.binade
    · subst h2
      have e : q * f.binade + 2 * f.binade = (q + 2) * f.binade := by rw [Nat.add_mul]
      have hl : ¬ (q + 2) * f.binade < f.binade := by
        have := Nat.mul_le_mul_right f.binade (show 1 ≤ q + 2 by omega)
        omega
      rw [e, mag_big f hl, Nat.mul_mod_left, Nat.mul_div_cancel _ hB, show q + 2 - 1 = q + 1 by omega, Nat.pow_succ]
      rw [Nat.add_zero, Nat.mul_comm (2 ^ q) 2, ← Nat.mul_assoc, Nat.mul_comm f.binade 2]
    · have hlo : f.binade ≤ k := by omega
      have e : q * f.binade + k = (q + 1) * f.binade + (k - f.binade) := by rw [Nat.add_mul]; omega
      have hl : ¬ (q + 1) * f.binade + (k - f.binade) < f.binade := by
        have := Nat.mul_le_mul_right f.binade (show 1 ≤ q + 1 by omega)
        omega
      have hr : k - f.binade < f.binade := by omega
      rw [e, mag_big f hl, Nat.add_comm ((q + 1) * f.binade), Nat.add_mul_mod_self_right, Nat.mod_eq_of_lt hr, Nat.add_mul_div_right _ _ hB, Nat.div_eq_of_lt hr]
      simp only [Nat.zero_add, Nat.add_sub_cancel]
      rw [show f.binade + (k - f.binade) = k by omega]

/-- Rounding to a place: the whole number that is kept. -/
theorem cut_near (neg : Bool) (n d : Nat) : (2 * (Toward.even.cut neg n d * 2 ^ d) ≤ 2 * n + 2 ^ d ∧ 2 * n ≤ 2 * (Toward.even.cut neg n d * 2 ^ d) + 2 ^ d) ∧ n / 2 ^ d ≤ Toward.even.cut neg n d ∧ (n % 2 ^ d = 0 → Toward.even.cut neg n d = n / 2 ^ d) ∧ Toward.even.cut neg n d ≤ n / 2 ^ d + 1 := by
  rw [cut_eq]
  by_cases h : d ≤ n.log2 + 2
  · rw [Nat.min_eq_left h]
    obtain ⟨g, hg⟩ : ∃ g, g = 2 ^ d := ⟨_, rfl⟩
    have hg0 : 0 < g := by rw [hg]; exact Nat.two_pow_pos _
    rw [← hg]
    have hdm : g * (n / g) + n % g = n := Nat.div_add_mod n g
    have hml : n % g < g := Nat.mod_lt _ hg0
    generalize hq : n / g = q at *
    generalize n % g = r at *
    by_cases c1 : g < 2 * r
    · have e : (decide (g < 2 * r) || (g == 2 * r && q % 2 == 1)).toNat = 1 := by simp [c1]
      rw [e, Nat.add_mul, Nat.mul_comm q g]
      refine ⟨⟨by omega, by omega⟩, by omega, fun h => by omega, by omega⟩
    · by_cases c2 : (g == 2 * r && q % 2 == 1) = true
      · have e : (decide (g < 2 * r) || (g == 2 * r && q % 2 == 1)).toNat = 1 := by rw [c2]; simp
        have c3 : g = 2 * r := by
          have := (Bool.and_eq_true _ _ ▸ c2 : _ ∧ _).1
          simpa using this
        rw [e, Nat.add_mul, Nat.mul_comm q g]
        refine ⟨⟨by omega, by omega⟩, by omega, fun h => by omega, by omega⟩
      · have e : (decide (g < 2 * r) || (g == 2 * r && q % 2 == 1)).toNat = 0 := by
          rw [Bool.not_eq_true] at c2
          rw [c2]; simp [c1]
        rw [e, Nat.add_zero, Nat.mul_comm q g]
        refine ⟨⟨by omega, by omega⟩, by omega, fun h => by omega, by omega⟩
  · have hlt : n.log2 + 2 < d := by omega
    rw [Nat.min_eq_right (by omega)]
    have h2 : n < 2 ^ (n.log2 + 1) := Nat.lt_log2_self
    have e2 : 2 ^ (n.log2 + 2) = 2 * 2 ^ (n.log2 + 1) := by rw [Nat.pow_succ]; omega
    have h3 : 2 ^ (n.log2 + 2) ≤ 2 ^ d := Nat.pow_le_pow_right (by omega) (by omega)
    have hn : n < 2 ^ (n.log2 + 2) := by omega
    rw [Nat.div_eq_of_lt hn, Nat.mod_eq_of_lt hn, Nat.div_eq_of_lt (by omega)]
    have e : (decide (2 ^ (n.log2 + 2) < 2 * n) || (2 ^ (n.log2 + 2) == 2 * n && 0 % 2 == 1)).toNat = 0 := by
      have : ¬ 2 ^ (n.log2 + 2) < 2 * n := by omega
      simp [this]
    rw [e]
    refine ⟨⟨by omega, by omega⟩, by omega, fun _ => rfl, by omega⟩

/-- THE NEAREST WORD, as numbers. -/
theorem nearest_core (s : Bool) {m : Nat} {p : Int} (hm : m ≠ 0) (hov : max (p + m.log2 - f.fractionBits) f.leastPlace - f.leastPlace + 2 < 2 ^ f.exponentBits - 1) :
    ∃ (k n : Nat) (l : Int), f.nearest s m p = f.word s k ∧ k < f.infRung ∧ (mag f k : Rat) * 2 ^ f.leastPlace = (n : Rat) * 2 ^ l ∧ f.leastPlace ≤ l ∧
      (l = f.leastPlace ∨ (2 : Rat) ^ (l + f.fractionBits) ≤ (m : Rat) * 2 ^ p) ∧
      ((n : Rat) * 2 ^ l ≤ (m : Rat) * 2 ^ p + 2 ^ (l - 1) ∧ (m : Rat) * 2 ^ p ≤ (n : Rat) * 2 ^ l + 2 ^ (l - 1)) ∧
      (∀ c : Nat, (c : Rat) * 2 ^ l ≤ (m : Rat) * 2 ^ p → c ≤ n) ∧ (∀ c : Nat, (m : Rat) * 2 ^ p ≤ (c : Rat) * 2 ^ l → n ≤ c) := by
  obtain ⟨l, hl⟩ : ∃ l, l = max (p + m.log2 - f.fractionBits) f.leastPlace := ⟨_, rfl⟩
  rw [← hl] at hov
  have hlp : f.leastPlace ≤ l := by omega
  obtain ⟨n, hn⟩ : ∃ n, n = Toward.even.cut s (m <<< (p - l).toNat) (l - p).toNat := ⟨_, rfl⟩
  have hnear : f.nearest s m p = f.word s (min ((l - f.leastPlace).toNat * f.binade + n) f.infRung) := by
    unfold Format.nearest
    rw [if_neg hm]
    simp only [← hl, ← hn]
  have h1 : 2 ^ m.log2 ≤ m := Nat.log2_self_le hm
  have h2 : m < 2 ^ (m.log2 + 1) := Nat.lt_log2_self
  have hB : f.binade = 2 ^ f.fractionBits := rfl
  -- the number in terms of the last place
  have hbig : l = f.leastPlace ∨ l + f.fractionBits = p + m.log2 := by omega
  have hv1 : (2 : Rat) ^ (p + m.log2) ≤ (m : Rat) * 2 ^ p := by
    rw [Int.add_comm, z2_add, ← z2_nat]
    exact Rat.mul_le_mul_of_nonneg_right (by exact_mod_cast h1) (Rat.le_of_lt (z2_pos _))
  have hmid : (2 : Rat) ^ l = 2 * 2 ^ (l - 1) := by
    rw [show l = 1 + (l - 1) by omega, z2_add, Rat.zpow_one, show 1 + (l - 1) - 1 = l - 1 by omega]
  -- the kept digits
  have hkey : ((n : Rat) * 2 ^ l ≤ (m : Rat) * 2 ^ p + 2 ^ (l - 1) ∧ (m : Rat) * 2 ^ p ≤ (n : Rat) * 2 ^ l + 2 ^ (l - 1)) ∧
      (∀ c : Nat, (c : Rat) * 2 ^ l ≤ (m : Rat) * 2 ^ p → c ≤ n) ∧ (∀ c : Nat, (m : Rat) * 2 ^ p ≤ (c : Rat) * 2 ^ l → n ≤ c) ∧ n ≤ 2 * f.binade ∧ ((l - f.leastPlace).toNat = 0 ∨ f.binade ≤ n) := by
    have hpos := z2_pos (l - 1)
    by_cases hc : l ≤ p
    · have e0 : (l - p).toNat = 0 := by omega
      rw [e0, cut_zero, Nat.shiftLeft_eq] at hn
      have ev : (n : Rat) * 2 ^ l = (m : Rat) * 2 ^ p := by
        rw [hn, Rat.natCast_mul, z2_toNat (by omega : (0 : Int) ≤ p - l), Rat.mul_assoc, ← z2_add]
        congr 2
        omega
      refine ⟨⟨by grind, by grind⟩, fun c h => ?_, fun c h => ?_, ?_, ?_⟩
      · rw [← ev] at h
        have := Rat.le_of_mul_le_mul_right h (z2_pos l)
        exact_mod_cast this
      · rw [← ev] at h
        have := Rat.le_of_mul_le_mul_right h (z2_pos l)
        exact_mod_cast this
      · rw [hn, hB]
        have e1 : m * 2 ^ (p - l).toNat ≤ 2 ^ (m.log2 + 1) * 2 ^ (p - l).toNat := Nat.mul_le_mul_right _ (by omega)
        rw [← Nat.pow_add] at e1
        have e2 : 2 ^ (m.log2 + 1 + (p - l).toNat) ≤ 2 ^ (f.fractionBits + 1) := Nat.pow_le_pow_right (by omega) (by omega)
        rw [Nat.pow_succ] at e2
        omega
      · rcases hbig with h | h
        · left; omega
        · right
          rw [hn, hB]
          have e1 : 2 ^ m.log2 * 2 ^ (p - l).toNat ≤ m * 2 ^ (p - l).toNat := Nat.mul_le_mul_right _ h1
          rw [← Nat.pow_add] at e1
          rw [show f.fractionBits = m.log2 + (p - l).toNat by omega]
          exact e1
    · obtain ⟨d, hd⟩ : ∃ d, d = (l - p).toNat := ⟨_, rfl⟩
      have e0 : (p - l).toNat = 0 := by omega
      rw [e0, Nat.shiftLeft_zero, ← hd] at hn
      obtain ⟨⟨c1, c2⟩, c3, c4, c5⟩ := cut_near s m d
      rw [← hn] at c1 c2 c3 c4 c5
      have hD : (2 : Rat) ^ l = ((2 ^ d : Nat) : Rat) * 2 ^ p := by
        rw [z2_nat, ← z2_add]
        congr 1
        omega
      have hp0 := z2_pos p
      have hg0 : 0 < 2 ^ d := Nat.two_pow_pos d
      have hdm := Nat.div_add_mod m (2 ^ d)
      have hml := Nat.mod_lt m hg0
      refine ⟨⟨?_, ?_⟩, fun c h => ?_, fun c h => ?_, ?_, ?_⟩
      · have c1' : (2 : Rat) * ((n : Rat) * ((2 ^ d : Nat) : Rat)) ≤ 2 * (m : Rat) + ((2 ^ d : Nat) : Rat) := by exact_mod_cast c1
        have := Rat.mul_le_mul_of_nonneg_right c1' (Rat.le_of_lt hp0)
        rw [hD]
        rw [hD] at hmid
        grind
      · have c1' : 2 * (m : Rat) ≤ (2 : Rat) * ((n : Rat) * ((2 ^ d : Nat) : Rat)) + ((2 ^ d : Nat) : Rat) := by exact_mod_cast c2
        have := Rat.mul_le_mul_of_nonneg_right c1' (Rat.le_of_lt hp0)
        rw [hD]
        rw [hD] at hmid
        grind
      · rw [hD, ← Rat.mul_assoc] at h
        have h' := Rat.le_of_mul_le_mul_right h hp0
        have h'' : c * 2 ^ d ≤ m := by exact_mod_cast h'
        exact Nat.le_trans ((Nat.le_div_iff_mul_le hg0).2 h'') c3
      · rw [hD, ← Rat.mul_assoc] at h
        have h' := Rat.le_of_mul_le_mul_right h hp0
        have h'' : m ≤ c * 2 ^ d := by exact_mod_cast h'
        have h3 : m / 2 ^ d ≤ c := by
          have := Nat.div_le_div_right (c := 2 ^ d) h''
          rwa [Nat.mul_div_cancel _ hg0] at this
        by_cases hr : m % 2 ^ d = 0
        · rw [c4 hr]; exact h3
        · have : m / 2 ^ d < c := by
            rcases Nat.lt_or_eq_of_le h3 with h4 | h4
            · exact h4
            · exfalso
              rw [h4, Nat.mul_comm] at hdm
              omega
          omega
      · have hm2 : m < 2 ^ (f.fractionBits + 1) * 2 ^ d := by
          rw [← Nat.pow_add]
          exact Nat.lt_of_lt_of_le h2 (Nat.pow_le_pow_right (by omega) (by omega))
        have : m / 2 ^ d < 2 ^ (f.fractionBits + 1) := (Nat.div_lt_iff_lt_mul hg0).2 hm2
        rw [Nat.pow_succ] at this
        omega
      · rcases hbig with h | h
        · left; omega
        · right
          refine Nat.le_trans ((Nat.le_div_iff_mul_le hg0).2 ?_) c3
          rw [hB, ← Nat.pow_add, show f.fractionBits + d = m.log2 by omega]
          exact h1
  obtain ⟨k1, k2, k3, k4, k5⟩ := hkey
  obtain ⟨q, hq⟩ : ∃ q, q = (l - f.leastPlace).toNat := ⟨_, rfl⟩
  rw [← hq] at k5 hnear
  have hk : q * f.binade + n < f.infRung := by
    unfold Format.infRung
    have e1 : q * f.binade + n ≤ (q + 2) * f.binade := by rw [Nat.add_mul]; omega
    have e3 : ((2 ^ f.exponentBits : Nat) : Int) = 2 ^ f.exponentBits := by simp
    have e4 : 1 ≤ 2 ^ f.exponentBits := Nat.one_le_two_pow
    have e2 : q + 2 + 1 ≤ 2 ^ f.exponentBits - 1 := by omega
    have e5 := Nat.mul_le_mul_right f.binade e2
    rw [Nat.add_mul] at e5
    have := binade_pos f
    omega
  refine ⟨q * f.binade + n, n, l, by rw [hnear, Nat.min_eq_left (Nat.le_of_lt hk)], hk, ?_, hlp, ?_, k1, k2, k3⟩
  · rw [magAt f k5 k4, Rat.natCast_mul, hq, z2_toNat (by omega), Rat.mul_assoc, ← z2_add]
    congr 2
    omega
  · rcases hbig with h | h
    · exact .inl h
    · right; rw [h]; exact hv1

end Go.Proofs.Ytkgfepakedieaaa.Flt
