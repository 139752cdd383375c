/- The operations as numbers: quotient, sum, difference, order. No program here. -/
import Derived.Test.YtkgfepakedieaaaFlo
namespace Go.Proofs.Ytkgfepakedieaaa.Flt
open Ieee

variable (f : Format)

/-- As 'Fl', for a quotient: two roundings. -/
def Fl2 (v a : Rat) : Prop := (2 ^ (f.leastPlace + f.fractionBits) ≤ v → Near f 2 a v) ∧ (∀ j, (mag f j : Rat) * 2 ^ f.leastPlace ≤ v → (mag f j : Rat) * 2 ^ f.leastPlace ≤ a) ∧ (∀ j, v ≤ (mag f j : Rat) * 2 ^ f.leastPlace → a ≤ (mag f j : Rat) * 2 ^ f.leastPlace)

/-- The sticky digit turns no comparison with a number of the format. -/
theorem sticky {v : Rat} {n q r t : Nat} {P : Int} (hn : n ≠ 0) (hr : r < n) (hv : v * (n : Rat) = ((n * q + r : Nat) : Rat) * 2 ^ P) (ht : t = (r != 0).toNat) (hq : 2 ^ (f.fractionBits + 1) ≤ q) :
    Near f 1 ((2 * q + t : Nat) * 2 ^ (P - 1)) v ∧
      (∀ (c : Nat) (e : Int), c < 2 ^ (f.fractionBits + 1) → ((c : Rat) * 2 ^ e ≤ v ↔ (c : Rat) * 2 ^ e ≤ (2 * q + t : Nat) * 2 ^ (P - 1)) ∧ (v ≤ (c : Rat) * 2 ^ e ↔ (2 * q + t : Nat) * 2 ^ (P - 1) ≤ (c : Rat) * 2 ^ e)) := by
  have hP := z2_pos P
  have hn0 : (0 : Rat) < (n : Rat) := by exact_mod_cast Nat.pos_of_ne_zero hn
  have hlo : (q : Rat) * 2 ^ P ≤ v := by
    apply Rat.le_of_mul_le_mul_right _ hn0
    rw [hv]
    have h1 : ((n * q : Nat) : Rat) ≤ ((n * q + r : Nat) : Rat) := by exact_mod_cast Nat.le_add_right _ _
    have := Rat.mul_le_mul_of_nonneg_right h1 (Rat.le_of_lt hP)
    rw [Rat.natCast_mul] at this
    grind
  have hhi : v < ((q + 1 : Nat) : Rat) * 2 ^ P := by
    apply Rat.lt_of_mul_lt_mul_right (c := (n : Rat)) _ (Rat.le_of_lt hn0)
    rw [hv]
    have h1 : ((n * q + r : Nat) : Rat) < ((n * (q + 1) : Nat) : Rat) := by
      have : n * q + r < n * (q + 1) := by rw [Nat.mul_add]; omega
      exact_mod_cast this
    have := Rat.mul_lt_mul_of_pos_right h1 hP
    rw [Rat.natCast_mul] at this
    grind
  have hmid : (2 : Rat) ^ P = 2 * 2 ^ (P - 1) := by
    rw [show P = 1 + (P - 1) by omega, z2_add, Rat.zpow_one, show 1 + (P - 1) - 1 = P - 1 by omega]
  have hP1 := z2_pos (P - 1)
  have hcq : ((q + 1 : Nat) : Rat) = (q : Rat) + 1 := by simp
  have hc2 : ((2 * q + t : Nat) : Rat) = 2 * (q : Rat) + (t : Rat) := by simp
  have hq1 : (2 : Rat) ^ ((f.fractionBits : Int) + 1 + P) ≤ (q : Rat) * 2 ^ P := by
    rw [z2_add]
    refine Rat.mul_le_mul_of_nonneg_right ?_ (Rat.le_of_lt hP)
    have := z2_nat (f.fractionBits + 1)
    rw [show (((f.fractionBits + 1 : Nat) : Int)) = (f.fractionBits : Int) + 1 by omega] at this
    rw [← this]
    exact_mod_cast hq
  by_cases h0 : r = 0
  · subst h0
    have ht0 : t = 0 := by rw [ht]; rfl
    subst ht0
    have hvq : v = (q : Rat) * 2 ^ P := by
      have h1 : v * (n : Rat) = ((q : Rat) * 2 ^ P) * (n : Rat) := by
        rw [hv, Nat.add_zero, Rat.natCast_mul]
        grind
      have h2 := Rat.le_of_mul_le_mul_right (a := v) (b := (q : Rat) * 2 ^ P) (c := (n : Rat)) (by rw [h1]; exact Rat.le_refl) hn0
      exact Rat.le_antisymm h2 hlo
    have ev : ((2 * q + 0 : Nat) : Rat) * 2 ^ (P - 1) = v := by
      rw [hvq, hmid, hc2]
      simp
      grind
    rw [ev]
    refine ⟨Near.refl f (by rw [hvq]; exact Rat.mul_nonneg (by exact_mod_cast Nat.zero_le _) (Rat.le_of_lt hP)) 1, fun c e _ => ⟨Iff.rfl, Iff.rfl⟩⟩
  · have ht1 : t = 1 := by rw [ht]; simp [h0]
    subst ht1
    have hvq : (q : Rat) * 2 ^ P < v := by
      apply Rat.lt_of_mul_lt_mul_right (c := (n : Rat)) _ (Rat.le_of_lt hn0)
      rw [hv]
      have h1 : ((n * q : Nat) : Rat) < ((n * q + r : Nat) : Rat) := by exact_mod_cast (show n * q < n * q + r by omega)
      have := Rat.mul_lt_mul_of_pos_right h1 hP
      rw [Rat.natCast_mul] at this
      grind
    obtain ⟨v', hv'⟩ : ∃ v' : Rat, v' = ((2 * q + 1 : Nat) : Rat) * 2 ^ (P - 1) := ⟨_, rfl⟩
    have hv'2 : v' = (q : Rat) * 2 ^ P + 2 ^ (P - 1) := by
      rw [hv', hmid, hc2]
      grind
    have hhi' : v < (q : Rat) * 2 ^ P + 2 * 2 ^ (P - 1) := by
      rw [hcq] at hhi
      grind
    rw [← hv']
    constructor
    · obtain ⟨e, hee⟩ : ∃ e, e = (2 : Rat) ^ (-(f.fractionBits : Int) - 1) := ⟨_, rfl⟩
      have hr' : ro f = 1 - e := by rw [hee]; rfl
      have he0 : 0 < e := by rw [hee]; exact z2_pos _
      have he : (2 : Rat) ^ (P - 1) ≤ ((q : Rat) * 2 ^ P) * e := by
        have := Rat.mul_le_mul_of_nonneg_right hq1 (Rat.le_of_lt he0)
        rw [hee, ← z2_add] at this
        have h2 : (2 : Rat) ^ (P - 1) ≤ 2 ^ ((f.fractionBits : Int) + 1 + P + (-(f.fractionBits : Int) - 1)) := z2_mono (by omega)
        rw [hee]
        exact Rat.le_trans h2 this
      have h7 := Rat.mul_le_mul_of_nonneg_right (Rat.le_of_lt hvq) (Rat.le_of_lt he0)
      have h8 : ((q : Rat) * 2 ^ P) * e ≤ v' * e := Rat.mul_le_mul_of_nonneg_right (by grind) (Rat.le_of_lt he0)
      unfold Near
      rw [Rat.pow_one, hr']
      constructor <;> grind
    · intro c e hc
      by_cases hle : P ≤ e
      · have e1 : (c : Rat) * 2 ^ e = ((c * 2 ^ (e - P).toNat : Nat) : Rat) * 2 ^ P := by
          rw [Rat.natCast_mul, z2_toNat (by omega : (0 : Int) ≤ e - P), Rat.mul_assoc, ← z2_add]
          congr 2
          omega
        rw [e1]
        generalize c * 2 ^ (e - P).toNat = c'
        have key : (q + 1 ≤ c' ∧ (q : Rat) * 2 ^ P + 2 ^ P ≤ (c' : Rat) * 2 ^ P) ∨ (c' ≤ q ∧ (c' : Rat) * 2 ^ P ≤ (q : Rat) * 2 ^ P) := by
          rcases Nat.lt_or_ge q c' with h | h
          · left
            refine ⟨h, ?_⟩
            have h1 : ((q + 1 : Nat) : Rat) ≤ (c' : Rat) := by exact_mod_cast h
            have := Rat.mul_le_mul_of_nonneg_right h1 (Rat.le_of_lt hP)
            rw [hcq] at this
            grind
          · right
            refine ⟨h, Rat.mul_le_mul_of_nonneg_right (by exact_mod_cast h) (Rat.le_of_lt hP)⟩
        rcases key with ⟨_, h⟩ | ⟨_, h⟩
        · constructor <;> constructor <;> intro h' <;> grind
        · constructor <;> constructor <;> intro h' <;> grind
      · have h1 : (c : Rat) < ((2 ^ (f.fractionBits + 1) : Nat) : Rat) := by exact_mod_cast hc
        have h2 := Rat.mul_lt_mul_of_pos_right h1 (z2_pos e)
        rw [z2_nat, ← z2_add] at h2
        have h4 : (2 : Rat) ^ (((f.fractionBits + 1 : Nat) : Int) + e) ≤ 2 ^ ((f.fractionBits : Int) + 1 + P) := z2_mono (by omega)
        constructor <;> constructor <;> intro h' <;> grind

theorem div_num (h3 : (4 : Int) ≤ 2 ^ f.exponentBits) {x y : Nat} (hx : fin f x = true) (hy : fin f y = true) (hy0 : 0 < A f y) (hv : A f x / A f y < 2 ^ (top f - 1)) :
    ∃ z, f.div x y = some z ∧ Is f z (sgn f x ^^ sgn f y) ∧ Fl2 f (A f x / A f y) (A f z) := by
  obtain ⟨m, i, e1, _, a1⟩ := read_num f hx
  obtain ⟨n, j, e2, _, a2⟩ := read_num f hy
  have hn : n ≠ 0 := by
    intro h
    rw [a2, h] at hy0
    simp at hy0
  obtain ⟨v, hvv⟩ : ∃ v, v = A f x / A f y := ⟨_, rfl⟩
  have hvx : v * A f y = A f x := by rw [hvv]; exact Rat.div_mul_cancel (Rat.ne_of_gt hy0)
  rw [← hvv] at hv ⊢
  obtain ⟨more, hmore⟩ : ∃ more, more = f.fractionBits + 2 + n.log2 - m.log2 := ⟨_, rfl⟩
  obtain ⟨D, hD⟩ : ∃ D, D = m <<< more := ⟨_, rfl⟩
  have hdiv : f.div x y = some (f.nearest (sgn f x ^^ sgn f y) (2 * (D / n) + (D % n != 0).toNat) (i - j - more - 1)) := by
    unfold Format.div
    rw [e1, e2]
    simp only [Datum.quotient, if_neg hn, Option.map_some, Format.write, ← hmore, ← hD]
  rw [hdiv]
  have hnp : (0 : Rat) < (n : Rat) := by exact_mod_cast Nat.pos_of_ne_zero hn
  have hvD : v * (n : Rat) = (D : Rat) * 2 ^ (i - j - more) := by
    have h1 : v * (n : Rat) * 2 ^ j = (m : Rat) * 2 ^ i := by rw [← a1, ← hvx, a2, Rat.mul_assoc]
    have h2 : v * (n : Rat) * 2 ^ j * 2 ^ (-j) = (m : Rat) * 2 ^ i * 2 ^ (-j) := by rw [h1]
    rw [Rat.mul_assoc, ← z2_add, show j + -j = 0 by omega, Rat.zpow_zero, Rat.mul_one, Rat.mul_assoc, ← z2_add] at h2
    rw [h2, hD, Nat.shiftLeft_eq, Rat.natCast_mul, z2_nat, Rat.mul_assoc, ← z2_add]
    congr 2
    omega
  by_cases hm : m = 0
  · have hD0 : D = 0 := by rw [hD, hm]; simp
    subst hD0
    have hv0 : v = 0 := by
      have : v * (n : Rat) = 0 := by rw [hvD]; simp
      rcases Rat.mul_eq_zero.1 this with h | h
      · exact h
      · grind
    have hv' : (((2 * (0 / n) + (0 % n != 0).toNat : Nat)) : Rat) * 2 ^ (i - j - more - 1) < 2 ^ top f := by
      have := z2_pos (top f)
      simp
      exact this
    obtain ⟨k, hk, hki, hfl⟩ := nearest_num f h3 (sgn f x ^^ sgn f y) _ _ hv'
    obtain ⟨w1, w2⟩ := is_word f (sgn f x ^^ sgn f y) hki
    refine ⟨_, rfl, by rw [hk]; exact w1, ?_⟩
    rw [hk, w2]
    have ez : (((2 * (0 / n) + (0 % n != 0).toNat : Nat)) : Rat) * 2 ^ (i - j - more - 1) = v := by
      rw [hv0]; simp
    rw [ez] at hfl
    refine ⟨fun h => ?_, hfl.2⟩
    have := z2_pos (f.leastPlace + f.fractionBits)
    grind
  · have hdm := Nat.div_add_mod D n
    have hq : 2 ^ (f.fractionBits + 1) ≤ D / n := by
      rw [Nat.le_div_iff_mul_le (Nat.pos_of_ne_zero hn)]
      have h1 : 2 ^ m.log2 ≤ m := Nat.log2_self_le hm
      have h2 : n < 2 ^ (n.log2 + 1) := Nat.lt_log2_self
      have h4 : 2 ^ (f.fractionBits + 1) * n ≤ 2 ^ (f.fractionBits + 1) * 2 ^ (n.log2 + 1) := Nat.mul_le_mul_left _ (Nat.le_of_lt h2)
      rw [← Nat.pow_add] at h4
      have h5 : 2 ^ m.log2 * 2 ^ more ≤ D := by rw [hD, Nat.shiftLeft_eq]; exact Nat.mul_le_mul_right _ h1
      rw [← Nat.pow_add] at h5
      have h6 : 2 ^ (f.fractionBits + 1 + (n.log2 + 1)) ≤ 2 ^ (m.log2 + more) := Nat.pow_le_pow_right (by omega) (by omega)
      omega
    obtain ⟨s1, s2⟩ := sticky f (v := v) (n := n) (q := D / n) (r := D % n) (t := (D % n != 0).toNat) (P := i - j - more) hn (Nat.mod_lt _ (Nat.pos_of_ne_zero hn)) (by rw [hdm]; exact hvD) rfl hq
    have hv0 : 0 ≤ v := by
      refine s1.nonneg ?_
      exact Rat.mul_nonneg (by exact_mod_cast Nat.zero_le _) (Rat.le_of_lt (z2_pos _))
    have hlt : ((2 * (D / n) + (D % n != 0).toNat : Nat) : Rat) * 2 ^ (i - j - more - 1) < 2 ^ top f := by
      have h1 := s1.1
      rw [Rat.pow_one] at h1
      have h2 : (1 : Rat) / 2 ≤ ro f := by
        have h : (2 : Rat) ^ (-(f.fractionBits : Int) - 1) ≤ 2 ^ (-1 : Int) := z2_mono (by omega)
        have h2 : (2 : Rat) ^ (-1 : Int) = 1 / 2 := by decide +kernel
        unfold ro
        grind
      have h4 := Rat.mul_le_mul_of_nonneg_left h2 (Rat.mul_nonneg (show (0 : Rat) ≤ ((2 * (D / n) + (D % n != 0).toNat : Nat) : Rat) by exact_mod_cast Nat.zero_le _) (Rat.le_of_lt (z2_pos (i - j - more - 1))))
      have h5 : (2 : Rat) ^ top f = 2 * 2 ^ (top f - 1) := by
        rw [show top f = 1 + (top f - 1) by omega, z2_add, Rat.zpow_one, show 1 + (top f - 1) - 1 = top f - 1 by omega]
      grind
    obtain ⟨k, hk, hki, hf1, hf2, hf3⟩ := nearest_num f h3 (sgn f x ^^ sgn f y) _ _ hlt
    obtain ⟨w1, w2⟩ := is_word f (sgn f x ^^ sgn f y) hki
    refine ⟨_, rfl, by rw [hk]; exact w1, ?_⟩
    rw [hk, w2]
    refine ⟨fun h => ?_, fun l h => ?_, fun l h => ?_⟩
    · have h' : (2 : Rat) ^ (f.leastPlace + f.fractionBits) ≤ ((2 * (D / n) + (D % n != 0).toNat : Nat) : Rat) * 2 ^ (i - j - more - 1) := by
        have := (s2 1 (f.leastPlace + f.fractionBits) (Nat.one_lt_two_pow (by omega))).1
        rw [show ((1 : Nat) : Rat) = 1 from rfl, Rat.one_mul] at this
        exact this.1 h
      exact (hf1 h').trans s1
    · by_cases hl : l = 0
      · subst hl
        rw [mag_zero]
        have := Rat.mul_nonneg (show (0 : Rat) ≤ (mag f k : Rat) by exact_mod_cast Nat.zero_le _) (Rat.le_of_lt (z2_pos f.leastPlace))
        simpa using this
      · obtain ⟨c, e, hcl, hel, hce⟩ := mag_place f hl
        refine hf2 l ?_
        rw [hce] at h ⊢
        exact (s2 c e hcl).1.1 h
    · by_cases hl : l = 0
      · subst hl
        refine hf3 0 ?_
        rw [mag_zero] at h ⊢
        have := (s2 0 0 (Nat.two_pow_pos _)).2
        simp at this h ⊢
        exact this.1 h
      · obtain ⟨c, e, hcl, hel, hce⟩ := mag_place f hl
        refine hf3 l ?_
        rw [hce] at h ⊢
        exact (s2 c e hcl).2.1 h

end Go.Proofs.Ytkgfepakedieaaa.Flt
