/- The operations as numbers: product, quotient and sum of finite words. No program here. -/
import Derived.Test.YtkgfepakedieaaaFlr
namespace Go.Proofs.Ytkgfepakedieaaa.Flt
open Ieee

variable (f : Format)

/-- Below this power of two nothing overflows. -/
def top : Int := 2 ^ f.exponentBits - 4 + f.fractionBits + f.leastPlace
/-- One rounding loses at most this part. -/
noncomputable def ro : Rat := 1 - 2 ^ (-(f.fractionBits : Int) - 1)
theorem ro_pos : 0 < ro f := by
  have h : (2 : Rat) ^ (-(f.fractionBits : Int) - 1) ≤ 2 ^ (-1 : Int) := z2_mono (by omega)
  have h2 : (2 : Rat) ^ (-1 : Int) = 1 / 2 := by decide +kernel
  unfold ro
  grind
theorem ro_lt : ro f < 1 := by
  have := z2_pos (-(f.fractionBits : Int) - 1)
  unfold ro
  grind
/-- Two numbers within k roundings of each other. -/
def Near (k : Nat) (a b : Rat) : Prop := a * ro f ^ k ≤ b ∧ b * ro f ^ k ≤ a
theorem rok_pos (k : Nat) : 0 < ro f ^ k := Rat.pow_pos (ro_pos f)
theorem rok_le_one (k : Nat) : ro f ^ k ≤ 1 := by
  induction k with
  | zero => simp
  | succ k ih =>
    rw [Rat.pow_succ]
    have h1 := Rat.mul_le_mul_of_nonneg_left (Rat.le_of_lt (ro_lt f)) (Rat.le_of_lt (rok_pos f k))
    grind
theorem rok_add (k l : Nat) : ro f ^ (k + l) = ro f ^ k * ro f ^ l := by
  induction l with
  | zero => simp
  | succ l ih => rw [← Nat.add_assoc, Rat.pow_succ, ih, Rat.pow_succ, Rat.mul_assoc]
theorem Near.refl {a : Rat} (ha : 0 ≤ a) (k : Nat) : Near f k a a := by
  have := Rat.mul_le_mul_of_nonneg_left (rok_le_one f k) ha
  rw [Rat.mul_one] at this
  exact ⟨this, this⟩
variable {f}
theorem Near.symm {k : Nat} {a b : Rat} (h : Near f k a b) : Near f k b a := ⟨h.2, h.1⟩
theorem Near.nonneg {k : Nat} {a b : Rat} (h : Near f k a b) (ha : 0 ≤ a) : 0 ≤ b := Rat.le_trans (Rat.mul_nonneg ha (Rat.le_of_lt (rok_pos f k))) h.1
theorem Near.trans {k l : Nat} {a b c : Rat} (h : Near f k a b) (h' : Near f l b c) : Near f (k + l) a c := by
  constructor
  · rw [rok_add, ← Rat.mul_assoc]
    exact Rat.le_trans (Rat.mul_le_mul_of_nonneg_right h.1 (Rat.le_of_lt (rok_pos f l))) h'.1
  · rw [Nat.add_comm, rok_add, ← Rat.mul_assoc]
    exact Rat.le_trans (Rat.mul_le_mul_of_nonneg_right h'.2 (Rat.le_of_lt (rok_pos f k))) h.2
theorem Near.mono {k l : Nat} {a b : Rat} (h : Near f k a b) (hkl : k ≤ l) (ha : 0 ≤ a) : Near f l a b := by
  have hb := h.nonneg ha
  have h2 := h.trans (Near.refl f hb (l - k))
  rwa [show k + (l - k) = l by omega] at h2
theorem Near.mul {k l : Nat} {a b c d : Rat} (h : Near f k a b) (h' : Near f l c d) (ha : 0 ≤ a) (hc : 0 ≤ c) : Near f (k + l) (a * c) (b * d) := by
  have hb := h.nonneg ha
  have hd := h'.nonneg hc
  have hk := Rat.le_of_lt (rok_pos f k)
  have hl := Rat.le_of_lt (rok_pos f l)
  constructor
  · rw [rok_add]
    have e : a * c * (ro f ^ k * ro f ^ l) = (a * ro f ^ k) * (c * ro f ^ l) := by grind
    rw [e]
    exact Rat.le_trans (Rat.mul_le_mul_of_nonneg_right h.1 (Rat.mul_nonneg hc hl)) (Rat.mul_le_mul_of_nonneg_left h'.1 hb)
  · rw [rok_add]
    have e : b * d * (ro f ^ k * ro f ^ l) = (b * ro f ^ k) * (d * ro f ^ l) := by grind
    rw [e]
    exact Rat.le_trans (Rat.mul_le_mul_of_nonneg_right h.2 (Rat.mul_nonneg hd hl)) (Rat.mul_le_mul_of_nonneg_left h'.2 ha)
theorem Near.add {k : Nat} {a b c d : Rat} (h : Near f k a b) (h' : Near f k c d) : Near f k (a + c) (b + d) := by
  have h1 := h.1
  have h2 := h.2
  have h3 := h'.1
  have h4 := h'.2
  constructor <;> grind
theorem Near.zero {k : Nat} {a : Rat} (h : Near f k a 0) (ha : 0 ≤ a) : a = 0 := by
  have h2 := h.1
  have hk := rok_pos f k
  rcases Rat.le_iff_lt_or_eq.1 ha with h3 | h3
  · have := Rat.mul_pos h3 hk
    grind
  · exact h3.symm
variable (f)

/-- The number a is what rounding makes of v. -/
def Fl (v a : Rat) : Prop := (2 ^ (f.leastPlace + f.fractionBits) ≤ v → Near f 1 a v) ∧ (∀ j, (mag f j : Rat) * 2 ^ f.leastPlace ≤ v → (mag f j : Rat) * 2 ^ f.leastPlace ≤ a) ∧ (∀ j, v ≤ (mag f j : Rat) * 2 ^ f.leastPlace → a ≤ (mag f j : Rat) * 2 ^ f.leastPlace)

theorem mag_place {j : Nat} (hj : j ≠ 0) : ∃ (c : Nat) (e : Int), c < 2 ^ (f.fractionBits + 1) ∧ f.leastPlace ≤ e ∧ (mag f j : Rat) * 2 ^ f.leastPlace = (c : Rat) * 2 ^ e := by
  obtain ⟨m, k, _, h2, h3⟩ := mag_form f hj
  refine ⟨m, f.leastPlace + k, h2, by omega, ?_⟩
  rw [h3, Rat.natCast_mul, z2_nat, Rat.mul_assoc, ← z2_add]
  congr 2
  omega

theorem nearest_num (h3 : (4 : Int) ≤ 2 ^ f.exponentBits) (s : Bool) (m : Nat) (p : Int) (hv : (m : Rat) * 2 ^ p < 2 ^ top f) :
    ∃ k, f.nearest s m p = f.word s k ∧ k < f.infRung ∧ Fl f ((m : Rat) * 2 ^ p) ((mag f k : Rat) * 2 ^ f.leastPlace) := by
  have hlp0 := z2_pos f.leastPlace
  by_cases hm : m = 0
  · subst hm
    refine ⟨0, by simp [Format.nearest], ?_, ?_, ?_, ?_⟩
    · unfold Format.infRung
      have e3 : ((2 ^ f.exponentBits : Nat) : Int) = 2 ^ f.exponentBits := by simp
      exact Nat.mul_pos (by omega) (binade_pos f)
    · intro h
      have := z2_pos (f.leastPlace + f.fractionBits)
      simp at h
      grind
    · intro j h
      simpa [mag_zero] using h
    · intro j h
      simpa [mag_zero] using h
  · have h1 : 2 ^ m.log2 ≤ m := Nat.log2_self_le hm
    have hv1 : (2 : Rat) ^ (p + m.log2) ≤ (m : Rat) * 2 ^ p := by
      rw [Int.add_comm, z2_add, ← z2_nat]
      exact Rat.mul_le_mul_of_nonneg_right (by exact_mod_cast h1) (Rat.le_of_lt (z2_pos _))
    have h5 : p + m.log2 < top f := z2_lt (by grind)
    unfold top at h5
    obtain ⟨k, n, l, hk, hki, hmag, hl, hbig, ⟨hn1, hn2⟩, hc1, hc2⟩ := nearest_core f s hm (p := p) (by omega)
    refine ⟨k, hk, hki, ?_⟩
    obtain ⟨v, hvv⟩ : ∃ v, v = (m : Rat) * 2 ^ p := ⟨_, rfl⟩
    rw [hmag]
    rw [← hvv] at hbig hn1 hn2 hc1 hc2 ⊢
    have hl0 := z2_pos l
    refine ⟨fun h => ?_, fun j h => ?_, fun j h => ?_⟩
    · have hb : (2 : Rat) ^ (l + f.fractionBits) ≤ v := by
        rcases hbig with h' | h'
        · rw [h']; exact h
        · exact h'
      have he : (2 : Rat) ^ (l - 1) ≤ v * 2 ^ (-(f.fractionBits : Int) - 1) := by
        have := Rat.mul_le_mul_of_nonneg_right hb (Rat.le_of_lt (z2_pos (-(f.fractionBits : Int) - 1)))
        rw [← z2_add] at this
        rwa [show l + f.fractionBits + (-(f.fractionBits : Int) - 1) = l - 1 by omega] at this
      obtain ⟨e, hee⟩ : ∃ e, e = (2 : Rat) ^ (-(f.fractionBits : Int) - 1) := ⟨_, rfl⟩
      have hr : ro f = 1 - e := by rw [hee]; rfl
      have he0 : 0 < e := by rw [hee]; exact z2_pos _
      rw [← hee] at he
      unfold Near
      rw [Rat.pow_one, hr]
      have hv0 : 0 ≤ v := Rat.le_trans (Rat.le_of_lt (z2_pos _)) hb
      have hvee := Rat.mul_nonneg (Rat.mul_nonneg hv0 (Rat.le_of_lt he0)) (Rat.le_of_lt he0)
      have hae := Rat.mul_le_mul_of_nonneg_right hn2 (Rat.le_of_lt he0)
      have hhe := Rat.mul_le_mul_of_nonneg_right he (Rat.le_of_lt he0)
      constructor
      · have h7 : (n : Rat) * 2 ^ l ≤ v + v * e := by grind
        have h8 := Rat.mul_le_mul_of_nonneg_right h7 (show (0 : Rat) ≤ 1 - e by have := ro_pos f; rw [hr] at this; grind)
        grind
      · grind
    · by_cases hj : j = 0
      · subst hj
        rw [mag_zero]
        have := Rat.mul_nonneg (show (0 : Rat) ≤ (n : Rat) by exact_mod_cast Nat.zero_le n) (Rat.le_of_lt hl0)
        simpa using this
      · obtain ⟨c, e, hcl, hel, hce⟩ := mag_place f hj
        rw [hce] at h ⊢
        by_cases hle : l ≤ e
        · have e1 : (c : Rat) * 2 ^ e = ((c * 2 ^ (e - l).toNat : Nat) : Rat) * 2 ^ l := by
            rw [Rat.natCast_mul, z2_toNat (by omega : (0 : Int) ≤ e - l), Rat.mul_assoc, ← z2_add]
            congr 2
            omega
          rw [e1] at h ⊢
          have := hc1 _ h
          exact Rat.mul_le_mul_of_nonneg_right (by exact_mod_cast this) (Rat.le_of_lt hl0)
        · have hb : (2 : Rat) ^ (l + f.fractionBits) ≤ v := by
            rcases hbig with h' | h'
            · omega
            · exact h'
          have hn3 : 2 ^ f.fractionBits ≤ n := by
            apply hc1
            rw [z2_nat, ← z2_add, Int.add_comm]
            exact hb
          have h1 : (c : Rat) ≤ ((2 ^ (f.fractionBits + 1) : Nat) : Rat) := by exact_mod_cast Nat.le_of_lt hcl
          have h2 := Rat.mul_le_mul_of_nonneg_right h1 (Rat.le_of_lt (z2_pos e))
          rw [z2_nat, ← z2_add] at h2
          have h4 : (2 : Rat) ^ (((f.fractionBits + 1 : Nat) : Int) + e) ≤ 2 ^ ((f.fractionBits : Int) + l) := z2_mono (by omega)
          have h6 : ((2 ^ f.fractionBits : Nat) : Rat) ≤ (n : Rat) := by exact_mod_cast hn3
          have h7 := Rat.mul_le_mul_of_nonneg_right h6 (Rat.le_of_lt hl0)
          rw [z2_nat, ← z2_add] at h7
          exact Rat.le_trans h2 (Rat.le_trans h4 h7)
    · by_cases hj : j = 0
      · subst hj
        have hm0 : (0 : Rat) < (m : Rat) := by exact_mod_cast Nat.pos_of_ne_zero hm
        have := Rat.mul_pos hm0 (z2_pos p)
        rw [mag_zero] at h
        rw [← hvv] at this
        simp at h
        grind
      · obtain ⟨c, e, hcl, hel, hce⟩ := mag_place f hj
        rw [hce] at h ⊢
        by_cases hle : l ≤ e
        · have e1 : (c : Rat) * 2 ^ e = ((c * 2 ^ (e - l).toNat : Nat) : Rat) * 2 ^ l := by
            rw [Rat.natCast_mul, z2_toNat (by omega : (0 : Int) ≤ e - l), Rat.mul_assoc, ← z2_add]
            congr 2
            omega
          rw [e1] at h ⊢
          have := hc2 _ h
          exact Rat.mul_le_mul_of_nonneg_right (by exact_mod_cast this) (Rat.le_of_lt hl0)
        · exfalso
          have hb : (2 : Rat) ^ (l + f.fractionBits) ≤ v := by
            rcases hbig with h' | h'
            · omega
            · exact h'
          have h1 : (c : Rat) < ((2 ^ (f.fractionBits + 1) : Nat) : Rat) := by exact_mod_cast hcl
          have h2 := Rat.mul_lt_mul_of_pos_right h1 (z2_pos e)
          rw [z2_nat, ← z2_add] at h2
          have h4 : (2 : Rat) ^ (((f.fractionBits + 1 : Nat) : Int) + e) ≤ 2 ^ (l + f.fractionBits) := z2_mono (by omega)
          grind

/-- A finite word with a sign and a size. -/
def Is (z : Nat) (s : Bool) : Prop := fin f z = true ∧ sgn f z = s ∧ z < 2 * f.signWeight
theorem is_word (s : Bool) {k : Nat} (h : k < f.infRung) : Is f (f.word s k) s ∧ A f (f.word s k) = (mag f k : Rat) * 2 ^ f.leastPlace := by
  have hs := infRung_lt_sign f
  obtain ⟨h1, h2⟩ := rung_word f s (Nat.lt_trans h hs)
  refine ⟨⟨?_, h2, ?_⟩, ?_⟩
  · unfold fin; rw [h1]; simpa using h
  · unfold Format.word; split <;> omega
  · unfold A; rw [h1]

theorem read_num {x : Nat} (h : fin f x = true) : ∃ (m : Nat) (i : Int), f.read x = .number (sgn f x) m i ∧ f.leastPlace ≤ i ∧ A f x = (m : Rat) * 2 ^ i := by
  obtain ⟨m, i, h1, h2, h3⟩ := read_fin f h
  refine ⟨m, i, h1, h2, ?_⟩
  unfold A
  rw [← h3, Rat.natCast_mul, z2_toNat (by omega), Rat.mul_assoc, ← z2_add]
  congr 2
  omega

theorem mul_num (h3 : (4 : Int) ≤ 2 ^ f.exponentBits) {x y : Nat} (hx : fin f x = true) (hy : fin f y = true) (hv : A f x * A f y < 2 ^ top f) :
    ∃ z, f.mul x y = some z ∧ Is f z (sgn f x ^^ sgn f y) ∧ Fl f (A f x * A f y) (A f z) := by
  obtain ⟨m, i, e1, _, a1⟩ := read_num f hx
  obtain ⟨n, j, e2, _, a2⟩ := read_num f hy
  have e : A f x * A f y = ((m * n : Nat) : Rat) * 2 ^ (i + j) := by
    rw [a1, a2, Rat.natCast_mul, z2_add]
    grind
  rw [e] at hv ⊢
  obtain ⟨k, hk, hki, hfl⟩ := nearest_num f h3 (sgn f x ^^ sgn f y) _ _ hv
  obtain ⟨w1, w2⟩ := is_word f (sgn f x ^^ sgn f y) hki
  refine ⟨_, ?_, w1, by rw [w2]; exact hfl⟩
  unfold Format.mul
  rw [e1, e2]
  simp only [Datum.product, Option.map_some, Format.write, hk]

end Go.Proofs.Ytkgfepakedieaaa.Flt
