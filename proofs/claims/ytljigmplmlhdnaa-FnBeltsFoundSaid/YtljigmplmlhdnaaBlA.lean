/- Plain laws on belts: how the length goes with the distance; the search by halves. -/
import Derived.Test.YtljigmplmlhdnaaFlA
import Derived.Test.YtljigmplmlhdnaaCtRe
import Derived.Test.YtljigmplmlhdnaaBdA
import Derived.Test.YtljigmplmlhdnaaCtRc
import Derived.Test.YtljigmplmlhdnaaCtRl
import Derived.Test.YtljigmplmlhdnaaCtRd
import Derived.Test.YtljigmplmlhdnaaCtO
import Derived.Test.YtljigmplmlhdnaaCtI
import Derived.Test.YtljigmplmlhdnaaCtSy
set_option linter.unusedVariables false
set_option linter.unusedSimpArgs false
namespace Go.Proofs.Ytljigmplmlhdnaa
open Go.RowKit
open Flt (z2_pos z2_add z2_mono)

/-- What of a length does not hang on the distance. -/
def roundC (a b : Nat) : Nat := cop .mul 1078525952 (cop .add a b)
def squareC (a b : Nat) (x : Bool) : Nat := cop .mul (reachC a b x) (reachC a b x)
theorem lengthC_eq (a b c : Nat) (x : Bool) : lengthC a b c x = cop .add (cop .add (cop .mul 1073741824 c) (roundC a b)) (cop .quo (squareC a b x) c) := rfl

theorem half_P : Po 1078525952 ∧ A 1078525952 = 201 / 64 := ⟨⟨F_const (by decide +kernel), by decide +kernel⟩, A_const (m := 201 * 2 ^ 143) (by decide +kernel) (by decide +kernel)⟩

theorem radii_ok {a b : Nat} (x : Bool) (ha : Po a) (hb : Po b) (ha1 : A a ≤ 2 ^ (10 : Int)) (hb1 : A b ≤ 2 ^ (10 : Int)) :
    Po (roundC a b) ∧ A (roundC a b) ≤ 2 ^ (14 : Int) ∧ Po (squareC a b x) ∧ A (squareC a b x) ≤ 2 ^ (22 : Int) ∧ Po (cop .add a b) ∧ A (cop .add a b) ≤ 2 ^ (11 : Int) := by
  have e10 : (2 : Rat) ^ (10 : Int) = 1024 := by decide +kernel
  have e11 : (2 : Rat) ^ (11 : Int) = 2048 := by decide +kernel
  have e13 : (2 : Rat) ^ (13 : Int) = 8192 := by decide +kernel
  have e14 : (2 : Rat) ^ (14 : Int) = 16384 := by decide +kernel
  have e22 : (2 : Rat) ^ (22 : Int) = 4194304 := by decide +kernel
  have e100 : (4194304 : Rat) ≤ 2 ^ (100 : Int) := by decide +kernel
  have na := A_nn a
  have nb := A_nn b
  obtain ⟨s1, s2, s3⟩ := Po.add ha hb (by grind)
  have hs : A (cop .add a b) ≤ 2 ^ (11 : Int) := fl_pow_le s3 (by omega) (by grind)
  obtain ⟨h1, h2⟩ := half_P
  have hpr : A 1078525952 * A (cop .add a b) ≤ 2 ^ (14 : Int) := by rw [h2]; grind
  obtain ⟨r1, r2⟩ := Po.mul h1 s1 (by grind)
  have hr : Po (reachC a b x) ∧ A (reachC a b x) ≤ 2 ^ (11 : Int) := by
    unfold reachC
    cases x
    · rw [if_neg (by decide), Po.lt ha hb]
      by_cases h : A a < A b
      · rw [if_pos (decide_eq_true h)]
        obtain ⟨t1, t2, t3⟩ := Po.sub hb ha (Rat.le_of_lt h) (by grind)
        exact ⟨t1, fl_pow_le t3 (by omega) (by grind)⟩
      · rw [if_neg (by rw [decide_eq_false h]; decide)]
        obtain ⟨t1, t2, t3⟩ := Po.sub ha hb (Rat.not_lt.1 h) (by grind)
        exact ⟨t1, fl_pow_le t3 (by omega) (by grind)⟩
    · rw [if_pos rfl]
      exact ⟨s1, hs⟩
  obtain ⟨q1, q2⟩ := hr
  have n1 := A_nn (reachC a b x)
  have hsq : A (reachC a b x) * A (reachC a b x) ≤ 2 ^ (22 : Int) := by
    have h3 := Rat.mul_le_mul_of_nonneg_left q2 n1
    have h4 := Rat.mul_le_mul_of_nonneg_right q2 (c := (2 : Rat) ^ (11 : Int)) (Rat.le_of_lt (z2_pos _))
    rw [← z2_add] at h4
    exact Rat.le_trans h3 h4
  obtain ⟨v1, v2⟩ := Po.mul q1 q1 (by grind)
  exact ⟨r1, fl_pow_le r2 (by omega) hpr, v1, fl_pow_le v2 (by omega) hsq, s1, hs⟩

/-- The length's number. -/
noncomputable def lenG (P S c : Rat) : Rat := 2 * c + P + S / c

theorem len_ok {a b c : Nat} {x : Bool} (hP : Po (roundC a b)) (hP1 : A (roundC a b) ≤ 2 ^ (14 : Int)) (hS : Po (squareC a b x)) (hS1 : A (squareC a b x) ≤ 2 ^ (22 : Int))
    (hc : Po c) (c0 : (2 : Rat) ^ (-4 : Int) ≤ A c) (c1 : A c ≤ 2 ^ (16 : Int)) :
    Po (lengthC a b c x) ∧ A (lengthC a b c x) * (4722365638444765413375 / 4722366482869645213696) ≤ lenG (A (roundC a b)) (A (squareC a b x)) (A c) + 1 / 1000000000000 ∧
      lenG (A (roundC a b)) (A (squareC a b x)) (A c) * (4722365638444765413375 / 4722366482869645213696) ≤ A (lengthC a b c x) + 1 / 1000000000000 ∧ 2 * A c ≤ lenG (A (roundC a b)) (A (squareC a b x)) (A c) ∧ A (lengthC a b c x) ≤ 2 ^ (28 : Int) := by
  have e4 : (2 : Rat) ^ (-4 : Int) = 1 / 16 := by decide +kernel
  have e14 : (2 : Rat) ^ (14 : Int) = 16384 := by decide +kernel
  have e16 : (2 : Rat) ^ (16 : Int) = 65536 := by decide +kernel
  have e22 : (2 : Rat) ^ (22 : Int) = 4194304 := by decide +kernel
  have e26 : (2 : Rat) ^ (26 : Int) = 67108864 := by decide +kernel
  have e18 : (2 : Rat) ^ (18 : Int) = 262144 := by decide +kernel
  have e17 : (2 : Rat) ^ (17 : Int) = 131072 := by decide +kernel
  have e28 : (2 : Rat) ^ (28 : Int) = 268435456 := by decide +kernel
  have e100 : (268435456 : Rat) ≤ 2 ^ (100 : Int) := by decide +kernel
  have et : (2 : Rat) ^ (-126 : Int) ≤ 1 / 10000000000000 := by decide +kernel
  have et0 := z2_pos (-126)
  have er2 : ((1 : Rat) - 1 / 16777216) ^ 2 = 281474943156225 / 281474976710656 := by decide +kernel
  have hcp : 0 < A c := by grind
  have nS := A_nn (squareC a b x)
  have nP := A_nn (roundC a b)
  obtain ⟨t1, t2⟩ := two_P
  obtain ⟨s1, s2⟩ := Po.mul t1 hc (by rw [t2]; grind)
  rw [t2] at s2
  have s3 := fl_pow_le s2 (k := 17) (by omega) (by grind)
  obtain ⟨s4, s5⟩ := fl_off s2 (by grind)
  have ns := A_nn (cop .mul 1073741824 c)
  obtain ⟨u1, u2, u3⟩ := Po.add s1 hP (by grind)
  have u4 := fl_pow_le u3 (k := 18) (by omega) (by grind)
  have nu := A_nn (cop .add (cop .mul 1073741824 c) (roundC a b))
  have hq : A (squareC a b x) / A c ≤ 2 ^ (26 : Int) := ratio_le hcp (by grind)
  have hq0 : 0 ≤ A (squareC a b x) / A c := ratio_ge hcp (by grind)
  obtain ⟨q1, q2⟩ := Po.quo hS hc hcp (by grind)
  have q3 := fl2_pow_le q2 (k := 26) (by omega) hq
  obtain ⟨q4, q5⟩ := fl2_off q2 hq0
  rw [er2] at q4 q5
  have nq := A_nn (cop .quo (squareC a b x) c)
  obtain ⟨l1, l2, l3⟩ := Po.add u1 q1 (by grind)
  have l4 := fl_pow_le l3 (k := 28) (by omega) (by grind)
  obtain ⟨u5, u6⟩ := Nr_def u2
  obtain ⟨l5, l6⟩ := Nr_def l2
  rw [Rat.pow_one] at u5 u6 l5 l6
  rw [lengthC_eq]
  unfold lenG
  obtain ⟨y, hy⟩ : ∃ y, y = A (squareC a b x) / A c := ⟨_, rfl⟩
  rw [← hy] at q4 q5 hq hq0 ⊢
  obtain ⟨L, hL⟩ : ∃ L, L = A (cop .add (cop .add (cop .mul 1073741824 c) (roundC a b)) (cop .quo (squareC a b x) c)) := ⟨_, rfl⟩
  obtain ⟨U, hU⟩ : ∃ U, U = A (cop .add (cop .mul 1073741824 c) (roundC a b)) := ⟨_, rfl⟩
  obtain ⟨T, hT⟩ : ∃ T, T = A (cop .mul 1073741824 c) := ⟨_, rfl⟩
  obtain ⟨q, hqq⟩ : ∃ q, q = A (cop .quo (squareC a b x) c) := ⟨_, rfl⟩
  obtain ⟨C, hC⟩ : ∃ C, C = A c := ⟨_, rfl⟩
  obtain ⟨P, hPP⟩ : ∃ P, P = A (roundC a b) := ⟨_, rfl⟩
  obtain ⟨t, ht⟩ : ∃ t, t = (2 : Rat) ^ (-126 : Int) := ⟨_, rfl⟩
  rw [← hL] at l5 l6 l4 ⊢
  rw [← hU] at u5 u6 l5 l6 nu
  rw [← hT] at s4 s5 u5 u6 ns
  rw [← hqq] at q4 q5 l5 l6 nq
  rw [← hC] at s4 s5 ⊢
  rw [← hPP] at u5 u6 nP ⊢
  rw [← ht] at s4 s5 q4 q5 et et0
  clear hL hU hT hqq hC hPP ht hy
  refine ⟨l1, ?_, ?_, ?_, l4⟩
  · grind
  · grind
  · grind

theorem lenG_gap {P S c d : Rat} (hS : 0 ≤ S) (hc : 0 < c) (hcd : c ≤ d) : lenG P S d ≤ lenG P S c + 2 * (d - c) := by
  have h1 : S / d ≤ S / c := ratio_le (by grind) (by
    have h2 : S / c * c = S := Rat.div_mul_cancel (by grind)
    have h3 : 0 ≤ S / c := ratio_ge hc (by grind)
    have h4 := Rat.mul_le_mul_of_nonneg_left hcd h3
    grind)
  unfold lenG
  grind

/-- The middle. -/
theorem mid_ok {l h : Nat} (hl : Po l) (hh : Po h) (l0 : (2 : Rat) ^ (-4 : Int) ≤ A l) (hlh : A l ≤ A h) (h1 : A h ≤ 2 ^ (16 : Int)) :
    Po (midC l h) ∧ A l ≤ A (midC l h) ∧ A (midC l h) ≤ A h ∧ A h - A (midC l h) ≤ (A h - A l) / 2 + A h * (2 / 10000000) ∧ A (midC l h) - A l ≤ (A h - A l) / 2 + A h * (2 / 10000000) := by
  have e4 : (2 : Rat) ^ (-4 : Int) = 1 / 16 := by decide +kernel
  have e16 : (2 : Rat) ^ (16 : Int) = 65536 := by decide +kernel
  have e100 : (268435456 : Rat) ≤ 2 ^ (100 : Int) := by decide +kernel
  have em : (2 : Rat) ^ (-126 : Int) ≤ 1 / 32 := by decide +kernel
  obtain ⟨t1, t2⟩ := two_P
  obtain ⟨s1, s2, s3⟩ := Po.add hl hh (by grind)
  obtain ⟨j, hj⟩ := twice_word hl.1 (by grind)
  obtain ⟨i, hi⟩ := twice_word hh.1 (by grind)
  have sl : 2 * A l ≤ A (cop .add l h) := by rw [← hj]; exact s3.2.1 j (by rw [hj]; grind)
  have sh : A (cop .add l h) ≤ 2 * A h := by rw [← hi]; exact s3.2.2 i (by rw [hi]; grind)
  obtain ⟨s5, s6⟩ := Nr_def s2
  rw [Rat.pow_one] at s5 s6
  have hd : A (cop .add l h) / A 1073741824 = A (cop .add l h) / 2 := by rw [t2]
  have hq : A (cop .add l h) / 2 * 2 = A (cop .add l h) := Rat.div_mul_cancel (by decide)
  obtain ⟨m1, m2⟩ := Po.quo s1 t1 (by rw [t2]; decide) (by rw [hd]; grind)
  rw [hd] at m2
  have ml : A l ≤ A (midC l h) := fl2_ge m2 (by grind)
  have mh : A (midC l h) ≤ A h := fl2_le m2 (by grind)
  obtain ⟨m5, m6⟩ := Nr_def (m2.1 (by rw [← min_place]; grind))
  have er2 : ((1 : Rat) - 1 / 16777216) ^ 2 = 281474943156225 / 281474976710656 := by decide +kernel
  rw [er2] at m5 m6
  refine ⟨m1, ml, mh, ?_, ?_⟩
  · change A (midC l h) * _ ≤ _ at m5
    change _ ≤ A (midC l h) at m6
    grind
  · change A (midC l h) * _ ≤ _ at m5
    change _ ≤ A (midC l h) at m6
    grind

theorem iter_ok {p : Nat → Bool} {l0 h0 : Nat} (hl : Po l0) (hh : Po h0) (b0 : (2 : Rat) ^ (-4 : Int) ≤ A l0) (hlh : A l0 ≤ A h0) (h1 : A h0 ≤ 2 ^ (16 : Int)) (hp : p l0 = true) : ∀ k,
    Po (iterS p (l0, h0) k).1 ∧ Po (iterS p (l0, h0) k).2 ∧ A l0 ≤ A (iterS p (l0, h0) k).1 ∧ A (iterS p (l0, h0) k).1 ≤ A (iterS p (l0, h0) k).2 ∧ A (iterS p (l0, h0) k).2 ≤ A h0 ∧ p (iterS p (l0, h0) k).1 = true ∧
      ((iterS p (l0, h0) k).2 = h0 ∨ p (iterS p (l0, h0) k).2 = false) ∧ A (iterS p (l0, h0) k).2 - A (iterS p (l0, h0) k).1 ≤ 65536 * (5001 / 10000 : Rat) ^ k + A (iterS p (l0, h0) k).1 * (5 / 10000000)
  | 0 => by
    have e16 : (2 : Rat) ^ (16 : Int) = 65536 := by decide +kernel
    have := A_nn l0
    have e : iterS p (l0, h0) 0 = (l0, h0) := rfl
    rw [e]
    refine ⟨hl, hh, Rat.le_refl, hlh, Rat.le_refl, hp, .inl rfl, ?_⟩
    rw [Rat.pow_zero]
    show A h0 - A l0 ≤ _
    grind
  | k + 1 => by
    obtain ⟨i1, i2, i3, i4, i5, i6, i7, i8⟩ := iter_ok hl hh b0 hlh h1 hp k
    obtain ⟨l, hl'⟩ : ∃ l, l = (iterS p (l0, h0) k).1 := ⟨_, rfl⟩
    obtain ⟨h, hh'⟩ : ∃ h, h = (iterS p (l0, h0) k).2 := ⟨_, rfl⟩
    have e : iterS p (l0, h0) (k + 1) = stepS p (l, h) := by rw [hl', hh']; rfl
    rw [← hl'] at i1 i3 i4 i6 i8
    rw [← hh'] at i2 i4 i5 i7 i8
    obtain ⟨m1, m2, m3, m4, m5⟩ := mid_ok i1 i2 (Rat.le_trans b0 i3) i4 (Rat.le_trans i5 h1)
    have hpow : (0 : Rat) < (5001 / 10000 : Rat) ^ k := Rat.pow_pos (by decide +kernel)
    have nl := A_nn l
    rw [e, Rat.pow_succ]
    obtain ⟨B, hB⟩ : ∃ B, B = (5001 / 10000 : Rat) ^ k := ⟨_, rfl⟩
    rw [← hB] at hpow i8 ⊢
    unfold stepS
    show Po (if p (midC l h) then _ else _ : Nat × Nat).1 ∧ _
    cases hm : p (midC l h)
    · rw [if_neg (by decide)]
      refine ⟨i1, m1, i3, m2, Rat.le_trans m3 i5, i6, .inr hm, ?_⟩
      show A (midC l h) - A l ≤ _
      grind
    · rw [if_pos rfl]
      refine ⟨m1, i2, Rat.le_trans i3 m2, m3, i5, hm, i7, ?_⟩
      show A h - A (midC l h) ≤ 65536 * (B * (5001 / 10000)) + A (midC l h) * (5 / 10000000)
      grind

end Go.Proofs.Ytljigmplmlhdnaa

/-! Plain laws on belts: a distance that is found, a radius that is found; the lengths of belts that are drawn. -/
namespace Go.Proofs.Ytljigmplmlhdnaa
open Go.RowKit
open Flt (z2_pos z2_add z2_mono)
set_option linter.unusedVariables false

theorem k1024_P : Po 1149239296 ∧ A 1149239296 = 1024 := ⟨⟨F_const (by decide +kernel), by decide +kernel⟩, A_const (m := 2 ^ 159) (by decide +kernel) (by decide +kernel)⟩
theorem k16_P : Po 1031798784 ∧ A 1031798784 = 1 / 16 := ⟨⟨F_const (by decide +kernel), by decide +kernel⟩, sixteenth_A⟩
theorem k65536_P : Po 1199570944 ∧ A 1199570944 = 65536 := ⟨⟨F_const (by decide +kernel), by decide +kernel⟩, A_const (m := 2 ^ 165) (by decide +kernel) (by decide +kernel)⟩
theorem kmega_P : Po 1233125376 ∧ A 1233125376 = 1048576 := ⟨⟨F_const (by decide +kernel), by decide +kernel⟩, A_const (m := 2 ^ 169) (by decide +kernel) (by decide +kernel)⟩
theorem zero_P : Po 0 ∧ A 0 = 0 := ⟨⟨zero_F.1, zero_F.2.1⟩, zero_F.2.2⟩

theorem lengthB_iff {x : Nat} (hx : Po x) : lengthB x = (decide (1 / 16 ≤ A x) && decide (A x ≤ 1024)) := by
  unfold lengthB betB
  rw [Po.le k16_P.1 hx, Po.le hx k1024_P.1, k16_P.2, k1024_P.2]
theorem amountB_yes {x : Nat} (hx : Po x) (h : A x ≤ 1048576) : amountB x = true := by
  unfold amountB betB
  rw [Po.le zero_P.1 hx, Po.le hx kmega_P.1, zero_P.2, kmega_P.2, decide_eq_true (A_nn x), decide_eq_true h]
  rfl
theorem beltB_iff {a b c d : Nat} (ha : Po a) (hb : Po b) (hs : Po (cop .add a b)) (hc : Po c) (hd : Po d) :
    beltB a b c d = (decide (1 / 16 ≤ A a) && decide (A a ≤ 1024) && (decide (1 / 16 ≤ A b) && decide (A b ≤ 1024)) && (decide (A (cop .add a b) ≤ A c) && decide (A c ≤ 65536)) && decide (A d ≤ 2)) := by
  unfold beltB betB
  rw [lengthB_iff ha, lengthB_iff hb, Po.le hs hc, Po.le hc k65536_P.1, Po.le zero_P.1 hd, Po.le hd two_P.1, zero_P.2, two_P.2, k65536_P.2, decide_eq_true (A_nn d)]
  simp

theorem reach_le {a b : Nat} (x : Bool) (ha : RadD a) (hb : RadD b) : Po (reachC a b x) ∧ A (reachC a b x) ≤ A (cop .add a b) := by
  obtain ⟨a1, a2, a3⟩ := ha
  obtain ⟨b1, b2, b3⟩ := hb
  have e100 : (4194304 : Rat) ≤ 2 ^ (100 : Int) := by decide +kernel
  obtain ⟨s1, s2, s3⟩ := Po.add a1 b1 (by grind)
  obtain ⟨s4, s5⟩ := Nr_def s2
  rw [Rat.pow_one] at s4 s5
  unfold reachC
  cases x
  · rw [if_neg (by decide), Po.lt a1 b1]
    by_cases h : A a < A b
    · rw [if_pos (decide_eq_true h)]
      obtain ⟨t1, t2, t3⟩ := Po.sub b1 a1 (Rat.le_of_lt h) (by grind)
      exact ⟨t1, fl_le t3 (by grind)⟩
    · rw [if_neg (by rw [decide_eq_false h]; decide)]
      obtain ⟨t1, t2, t3⟩ := Po.sub a1 b1 (Rat.not_lt.1 h) (by grind)
      exact ⟨t1, fl_le t3 (by grind)⟩
  · rw [if_pos rfl]
    exact ⟨s1, Rat.le_refl⟩

/-- What is known of a belt that was drawn. -/
structure BeltF (a b c d : Nat) (x : Bool) : Prop where
  ha : Po a
  hb : Po b
  hc : Po c
  hd : Po d
  hs : Po (cop .add a b)
  a0 : 1 / 16 ≤ A a
  a1 : A a ≤ 200
  b0 : 1 / 16 ≤ A b
  b1 : A b ≤ 200
  s0 : 1 / 8 ≤ A (cop .add a b)
  s1 : A (cop .add a b) ≤ 401
  sc : A (cop .add a b) ≤ A c
  c1 : A c ≤ 702
  ok : beltB a b c d = true
  low : beltB a b (cop .add a b) d = true
  hl : Po (lengthC a b c x)
  hl1 : A (lengthC a b c x) ≤ 32768
  d1 : A d ≤ 2

theorem beltF {a b c d : Nat} (x : Bool) (h : BeltD a b c d) : BeltF a b c d x := by
  obtain ⟨hA, hB, ⟨e, he, he1, rfl⟩, hd, hd1⟩ := h
  obtain ⟨s1, s2, s3⟩ := rad_add hA hB
  obtain ⟨c1, c2, c3⟩ := apart_add hA hB he he1
  have hr := reach_le x hA hB
  obtain ⟨a1, a2, a3⟩ := hA
  obtain ⟨b1, b2, b3⟩ := hB
  obtain ⟨c, hcc⟩ : ∃ c, c = cop .add (cop .add a b) e := ⟨_, rfl⟩
  rw [← hcc] at c1 c2 c3 ⊢
  have e10 : (2 : Rat) ^ (10 : Int) = 1024 := by decide +kernel
  have e14 : (2 : Rat) ^ (14 : Int) = 16384 := by decide +kernel
  have e16 : (2 : Rat) ^ (16 : Int) = 65536 := by decide +kernel
  have e4 : (2 : Rat) ^ (-4 : Int) = 1 / 16 := by decide +kernel
  have e100 : (4194304 : Rat) ≤ 2 ^ (100 : Int) := by decide +kernel
  have et : (2 : Rat) ^ (-126 : Int) ≤ 1 / 10000000000000 := by decide +kernel
  obtain ⟨r1, r2, r3, r4, _, _⟩ := radii_ok x a1 b1 (by grind) (by grind)
  obtain ⟨l1, l2, l3, l4, l5⟩ := len_ok r1 r2 r3 r4 c1 (by grind) (by grind)
  have hcp : 0 < A c := by grind
  -- the square by the distance
  have hq : A (squareC a b x) / A c ≤ 403 := by
    refine ratio_le hcp ?_
    obtain ⟨q1, q2⟩ := hr
    have nq := A_nn (reachC a b x)
    have h1 : A (reachC a b x) * A (reachC a b x) ≤ 401 * A (cop .add a b) := by
      have h2 := Rat.mul_le_mul_of_nonneg_right (Rat.le_trans q2 s2) nq
      have h3 := Rat.mul_le_mul_of_nonneg_left q2 (show (0 : Rat) ≤ 401 by decide)
      exact Rat.le_trans h2 h3
    obtain ⟨_, v2⟩ := Po.mul q1 q1 (by grind)
    obtain ⟨v3, _⟩ := fl_off v2 (by have := Rat.mul_le_mul_of_nonneg_left nq nq; grind)
    change A (squareC a b x) * _ ≤ _ at v3
    grind
  have hl : A (lengthC a b c x) ≤ 32768 := by
    unfold lenG at l2
    have := A_nn (lengthC a b c x)
    grind
  refine ⟨a1, b1, c1, hd, s1, a2, a3, b2, b3, s3, s2, c2, c3, ?_, ?_, l1, hl, hd1⟩
  · rw [beltB_iff a1 b1 s1 c1 hd]
    simp only [Bool.and_eq_true, decide_eq_true_eq]
    exact ⟨⟨⟨⟨a2, by grind⟩, ⟨b2, by grind⟩⟩, ⟨c2, by grind⟩⟩, hd1⟩
  · rw [beltB_iff a1 b1 s1 s1 hd]
    simp only [Bool.and_eq_true, decide_eq_true_eq]
    exact ⟨⟨⟨⟨a2, by grind⟩, ⟨b2, by grind⟩⟩, ⟨Rat.le_refl, by grind⟩⟩, hd1⟩

/-- Two numbers, the first not greater, not far apart. -/
theorem near2 {a b : Nat} (ha : Po a) (hb : Po b) (hab : A a ≤ A b) (h : A b ≤ A a + A a * (1 / 100000) + 1 / 100000) (hb1 : A b ≤ 1048576) :
    F (cop .sub a b) ∧ nearB a b 953267991 1008981770 = true := by
  have kp : Po 953267991 ∧ A 953267991 = 13743895 / 137438953472 := ⟨⟨F_const (by decide +kernel), by decide +kernel⟩, A_const (m := 13743895 * 2 ^ 112) (by decide +kernel) (by decide +kernel)⟩
  have kl : Po 1008981770 ∧ A 1008981770 = 10737418 / 1073741824 := ⟨⟨F_const (by decide +kernel), by decide +kernel⟩, A_const (m := 10737418 * 2 ^ 119) (by decide +kernel) (by decide +kernel)⟩
  have e100 : (4194304 : Rat) ≤ 2 ^ (100 : Int) := by decide +kernel
  have e126 : (2 : Rat) ^ (100 : Int) < 2 ^ (126 : Int) := by decide +kernel
  have et : (2 : Rat) ^ (-126 : Int) ≤ 1 / 10000000000000 := by decide +kernel
  have na := A_nn a
  have nb := A_nn b
  have hv : V a - V b = -(A b - A a) := by rw [ha.v, hb.v]; grind
  have hab' : Flt.ab (V a - V b) = A b - A a := by
    rw [hv]
    unfold Flt.ab
    split <;> grind
  obtain ⟨f1, _, f3, _⟩ := subF ha.1 hb.1 (by rw [hab']; grind)
  rw [hab'] at f3
  refine ⟨f1, ?_⟩
  obtain ⟨z1, z2, z3⟩ := szN_F f1
  have sza : szN a = a := by
    unfold szN
    rw [Po.lt ha zero_P.1, zero_P.2, decide_eq_false (Rat.not_lt.2 na)]
    rfl
  have szb : szN b = b := by
    unfold szN
    rw [Po.lt hb zero_P.1, zero_P.2, decide_eq_false (Rat.not_lt.2 nb)]
    rfl
  obtain ⟨m, hm, hmP, hmA⟩ : ∃ m, mostN a b = m ∧ Po m ∧ A a ≤ A m ∧ A m ≤ A b := by
    unfold mostN
    rw [sza, szb, Po.lt ha hb]
    by_cases hl : A a < A b
    · rw [decide_eq_true hl]; exact ⟨_, rfl, hb, hab, Rat.le_refl⟩
    · rw [decide_eq_false hl]; exact ⟨_, rfl, ha, Rat.le_refl, hab⟩
  have nm := A_nn m
  have hmp : A m * A 953267991 ≤ 1048576 := by
    rw [kp.2]
    grind
  obtain ⟨q1, q2⟩ := Po.mul hmP kp.1 (by grind)
  obtain ⟨q3, q4⟩ := fl_off q2 (by rw [kp.2]; grind)
  have nq := A_nn (cop .mul m 953267991)
  obtain ⟨r1, r2, r3⟩ := Po.add q1 kl.1 (by rw [kl.2]; grind)
  obtain ⟨r4, r5⟩ := Nr_def r2
  obtain ⟨d1, _⟩ := Nr_def f3
  rw [Rat.pow_one] at r4 r5 d1
  unfold nearB
  rw [hm, leF z1 r1.1, z3, r1.v]
  apply decide_eq_true
  rw [kp.2] at q4
  rw [kl.2] at r5
  have nr := A_nn (cop .sub a b)
  grind

end Go.Proofs.Ytljigmplmlhdnaa

/-! Plain laws on belts: a distance that is found, a radius that is found. -/
namespace Go.Proofs.Ytljigmplmlhdnaa
open Go.RowKit
open Flt (z2_pos z2_add z2_mono)
set_option linter.unusedVariables false

theorem apart_found {a b c d : Nat} {x : Bool} (h : BeltF a b c d x) {L : Nat} (hL : Po L) (hL1 : A L ≤ 32768) :
    (apartK a b d x L = 0 ∨ apartK a b d x L = 6) ∧ (apartK a b d x L = 0 → Po (apartV a b d x L) ∧ beltB a b (apartV a b d x L) d = true ∧ flt .f32 L (lengthC a b (apartV a b d x L) x) = false ∧
      F (cop .sub (lengthC a b (apartV a b d x L) x) L) ∧ nearB (lengthC a b (apartV a b d x L) x) L 953267991 1008981770 = true ∧ F (lengthC a b (apartV a b d x L) x)) := by
  have e10 : (2 : Rat) ^ (10 : Int) = 1024 := by decide +kernel
  have e16 : (2 : Rat) ^ (16 : Int) = 65536 := by decide +kernel
  have e4 : (2 : Rat) ^ (-4 : Int) = 1 / 16 := by decide +kernel
  have hlow : lowC a b = cop .add a b := rfl
  have hK : apartK a b d x L = if flt .f32 L (lengthC a b (cop .add a b) x) || flt .f32 (lengthC a b 1199570944 x) L then 6 else 0 := by
    unfold apartK
    rw [hlow, if_pos h.low, if_pos (amountB_yes hL (by grind))]
  refine ⟨by rw [hK]; split <;> simp, fun h0 => ?_⟩
  have hV : apartV a b d x L = (iterS (apartP a b x L) (cop .add a b, 1199570944) 40).1 := by
    unfold apartV
    rw [if_pos h0, F_cn k65536_P.1.1]
    rfl
  rw [hK] at h0
  have hf : (flt .f32 L (lengthC a b (cop .add a b) x) || flt .f32 (lengthC a b 1199570944 x) L) = false := by
    cases hb : (flt .f32 L (lengthC a b (cop .add a b) x) || flt .f32 (lengthC a b 1199570944 x) L)
    · rfl
    · rw [hb] at h0
      simp at h0
  rw [Bool.or_eq_false_iff] at hf
  obtain ⟨f1, f2⟩ := hf
  have ha := h.ha
  have hb := h.hb
  have hs := h.hs
  have s0 := h.s0
  have s1 := h.s1
  obtain ⟨r1, r2, r3, r4, _, _⟩ := radii_ok x ha hb (by have := h.a1; grind) (by have := h.b1; grind)
  have LO : ∀ m, Po m → (1 : Rat) / 16 ≤ A m → A m ≤ 65536 → _ := fun m hm m0 m1 => len_ok r1 r2 r3 r4 hm (by rw [e4]; exact m0) (by rw [e16]; exact m1)
  obtain ⟨p1, _⟩ := LO _ hs (by grind) (by grind)
  obtain ⟨k1, k2⟩ := k65536_P
  obtain ⟨q1, _⟩ := LO _ k1 (by rw [k2]; decide +kernel) (by rw [k2]; exact Rat.le_refl)
  rw [Po.lt hL p1, decide_eq_false_iff_not] at f1
  rw [Po.lt q1 hL, decide_eq_false_iff_not] at f2
  have hp : apartP a b x L (cop .add a b) = true := by
    unfold apartP
    rw [Po.le p1 hL]
    exact decide_eq_true (Rat.not_lt.1 f1)
  obtain ⟨i1, i2, i3, i4, i5, i6, i7, i8⟩ := iter_ok hs k1 (by rw [e4]; grind) (by rw [k2]; grind) (by rw [k2, e16]; exact Rat.le_refl) hp 40
  rw [← hV] at i1 i3 i4 i6 i8
  obtain ⟨m, hm⟩ : ∃ m, m = apartV a b d x L := ⟨_, rfl⟩
  obtain ⟨n, hn⟩ : ∃ n, n = (iterS (apartP a b x L) (cop .add a b, 1199570944) 40).2 := ⟨_, rfl⟩
  rw [← hm] at i1 i3 i4 i6 i8 ⊢
  rw [← hn] at i2 i4 i5 i7 i8
  clear hm hn hV
  rw [k2] at i5
  obtain ⟨m1, m2, m3, m4, m5⟩ := LO m i1 (by grind) (by grind)
  obtain ⟨n1, n2, n3, n4, n5⟩ := LO n i2 (by grind) i5
  have hown : A (lengthC a b m x) ≤ A L := by
    unfold apartP at i6
    rw [Po.le m1 hL, decide_eq_true_eq] at i6
    exact i6
  have hup : A L ≤ A (lengthC a b n x) := by
    rcases i7 with e | e
    · rw [e]; exact Rat.not_lt.1 f2
    · unfold apartP at e
      rw [Po.le n1 hL, decide_eq_false_iff_not] at e
      exact Rat.le_of_lt (Rat.not_le.1 e)
  have hB : 65536 * (5001 / 10000 : Rat) ^ 40 ≤ 1 / 10000000 := by decide +kernel
  have hgap := lenG_gap (P := A (roundC a b)) (A_nn (squareC a b x)) (c := A m) (d := A n) (by grind) i4
  have hnear : A L ≤ A (lengthC a b m x) + A (lengthC a b m x) * (1 / 100000) + 1 / 100000 := by
    obtain ⟨B, hBB⟩ : ∃ B, B = 65536 * (5001 / 10000 : Rat) ^ 40 := ⟨_, rfl⟩
    rw [← hBB] at hB i8
    clear hBB
    have := A_nn m
    grind
  obtain ⟨g1, g2⟩ := near2 m1 hL hown hnear (by grind)
  refine ⟨i1, ?_, ?_, g1, g2, m1.1⟩
  · rw [beltB_iff ha hb hs i1 h.hd]
    simp only [Bool.and_eq_true, decide_eq_true_eq]
    have := h.a0
    have := h.a1
    have := h.b0
    have := h.b1
    exact ⟨⟨⟨⟨h.a0, by grind⟩, ⟨h.b0, by grind⟩⟩, ⟨i3, by grind⟩⟩, h.d1⟩
  · rw [Po.lt hL m1]
    exact decide_eq_false (Rat.not_lt.2 hown)

theorem radius_found {a b c d : Nat} {x : Bool} (h : BeltF a b c d x) {L : Nat} (hL : Po L) (hL1 : A L ≤ 32768) :
    (forK c a x L = 0 ∨ forK c a x L = 6) ∧ (forK c a x L = 0 → Po (forV c a x L) ∧ flt .f32 L (lengthC a (forV c a x L) c x) = false ∧
      (beltB a (forV c a x L) c d = false → fle .f32 (cop .add a (forV c a x L)) c = false) ∧ F (cop .add a (forV c a x L)) ∧ F (lengthC a (forV c a x L) c x)) := by
  have e10 : (2 : Rat) ^ (10 : Int) = 1024 := by decide +kernel
  have e16 : (2 : Rat) ^ (16 : Int) = 65536 := by decide +kernel
  have e4 : (2 : Rat) ^ (-4 : Int) = 1 / 16 := by decide +kernel
  have e100 : (4194304 : Rat) ≤ 2 ^ (100 : Int) := by decide +kernel
  have ha := h.ha
  have hb := h.hb
  have hs := h.hs
  have hc := h.hc
  have a0 := h.a0
  have a1 := h.a1
  have b0 := h.b0
  have b1 := h.b1
  have s0 := h.s0
  have s1 := h.s1
  have sc := h.sc
  have c1 := h.c1
  have hla : lengthB a = true := by
    rw [lengthB_iff ha]
    simp only [Bool.and_eq_true, decide_eq_true_eq]
    exact ⟨a0, by grind⟩
  have hK : forK c a x L = if flt .f32 (hiC c a) 1031798784 || flt .f32 L (lengthC a 1031798784 c x) then 6 else 0 := by
    unfold forK
    rw [hla, amountB_yes hL (by grind)]
    rfl
  refine ⟨by rw [hK]; split <;> simp, fun h0 => ?_⟩
  have hV : forV c a x L = (iterS (rfP a c x L) (1031798784, hiC c a) 40).1 := by
    unfold forV
    rw [if_pos h0, F_cn k16_P.1.1]
  rw [hK] at h0
  have hf : (flt .f32 (hiC c a) 1031798784 || flt .f32 L (lengthC a 1031798784 c x)) = false := by
    cases hb : (flt .f32 (hiC c a) 1031798784 || flt .f32 L (lengthC a 1031798784 c x))
    · rfl
    · rw [hb] at h0
      simp at h0
  rw [Bool.or_eq_false_iff] at hf
  obtain ⟨f1, f2⟩ := hf
  have hac : A a ≤ A c := by
    obtain ⟨_, _, t3⟩ := Po.add ha hb (by grind)
    exact Rat.le_trans (fl_ge t3 (by have := A_nn b; grind)) sc
  have hh : Po (hiC c a) ∧ A (hiC c a) ≤ 1024 := by
    unfold hiC
    obtain ⟨t1, _, _⟩ := Po.sub hc ha hac (by grind)
    rw [Po.lt k1024_P.1 t1, k1024_P.2]
    by_cases hlt : 1024 < A (cop .sub c a)
    · rw [decide_eq_true hlt, if_pos rfl]
      exact ⟨k1024_P.1, by rw [k1024_P.2]; exact Rat.le_refl⟩
    · rw [decide_eq_false hlt, if_neg (by decide)]
      exact ⟨t1, Rat.not_lt.1 hlt⟩
  obtain ⟨g1, g2⟩ := hh
  obtain ⟨k1, k2⟩ := k16_P
  have LO : ∀ m, Po m → A m ≤ 1024 → Po (lengthC a m c x) ∧ Po (cop .add a m) := fun m hm m1 => by
    obtain ⟨r1, r2, r3, r4, r5, _⟩ := radii_ok x ha hm (by grind) (by grind)
    exact ⟨(len_ok r1 r2 r3 r4 hc (by grind) (by grind)).1, r5⟩
  have p1 := (LO _ k1 (by rw [k2]; decide +kernel)).1
  rw [Po.lt g1 k1, decide_eq_false_iff_not, k2] at f1
  rw [Po.lt hL p1, decide_eq_false_iff_not] at f2
  have hp : rfP a c x L 1031798784 = true := by
    unfold rfP
    rw [Po.le p1 hL]
    exact decide_eq_true (Rat.not_lt.1 f2)
  obtain ⟨i1, _, i3, i4, i5, i6, _, _⟩ := iter_ok k1 g1 (by rw [e4, k2]; exact Rat.le_refl) (by rw [k2]; exact Rat.not_lt.1 f1) (by grind) hp 40
  rw [← hV] at i1 i3 i4 i6
  obtain ⟨m, hm⟩ : ∃ m, m = forV c a x L := ⟨_, rfl⟩
  rw [← hm] at i1 i3 i4 i6 ⊢
  clear hm hV
  rw [k2] at i3
  have hm1 : A m ≤ 1024 := Rat.le_trans (Rat.le_trans i4 i5) g2
  obtain ⟨m1, m2⟩ := LO m i1 hm1
  refine ⟨i1, ?_, fun hbB => ?_, m2.1, m1.1⟩
  · unfold rfP at i6
    rw [Po.le m1 hL, decide_eq_true_eq] at i6
    rw [Po.lt hL m1]
    exact decide_eq_false (Rat.not_lt.2 i6)
  · rw [beltB_iff ha i1 m2 hc h.hd] at hbB
    rw [Po.le m2 hc]
    have x1 : decide ((1 : Rat) / 16 ≤ A a) = true := decide_eq_true a0
    have x2 : decide (A a ≤ 1024) = true := decide_eq_true (by grind)
    have x3 : decide ((1 : Rat) / 16 ≤ A m) = true := decide_eq_true i3
    have x4 : decide (A m ≤ 1024) = true := decide_eq_true hm1
    have x5 : decide (A c ≤ 65536) = true := decide_eq_true (by grind)
    have x6 : decide (A d ≤ 2) = true := decide_eq_true h.d1
    rw [x1, x2, x3, x4, x5, x6] at hbB
    simpa using hbB

end Go.Proofs.Ytljigmplmlhdnaa

/-! Contracts on belts that were drawn: the answers, exactly. -/
namespace Go.Proofs.Ytljigmplmlhdnaa
open Go.RowKit
set_option linter.unusedVariables false

theorem specLen_yes {a b c d : Nat} {x : Bool} (w : World) (hB : beltB a b c d = true) (hF : F (lengthC a b c x)) :
    Calls Try.prog 37 #[.agg #[.float .f32 a, .float .f32 b, .float .f32 c, .float .f32 d, .bool x]] w fun e w' => e = .returned (.tuple #[.float .f32 (lengthC a b c x), .int .i64 0]) ∧ Below w.heap.size w w' := by
  refine (specLengthOf_any a b c d x w).mono ?_
  rintro e w' ⟨r, rfl, hr, _, hb⟩
  have hK : beltK a b c d true = 0 := by simp [beltK, hB]
  rw [hK] at hr ⊢
  rw [F_of_cn hr hF]
  exact ⟨rfl, hb⟩
theorem implLen_yes {a b c d : Nat} {x : Bool} (w : World) (hB : beltB a b c d = true) (hF : F (lengthC a b c x)) :
    Calls Try.prog 39 #[.agg #[.float .f32 a, .float .f32 b, .float .f32 c, .float .f32 d, .bool x]] w fun e w' => e = .returned (.tuple #[.float .f32 (lengthC a b c x), .int .i64 0]) ∧ Below w.heap.size w w' := by
  refine (implLengthOf_any a b c d x w).mono ?_
  rintro e w' ⟨r, rfl, hr, _, hb⟩
  have hK : beltK a b c d true = 0 := by simp [beltK, hB]
  rw [hK] at hr ⊢
  rw [F_of_cn hr hF]
  exact ⟨rfl, hb⟩
theorem implLen_no {a b c d : Nat} {x : Bool} (w : World) (hB : beltB a b c d = false) :
    Calls Try.prog 39 #[.agg #[.float .f32 a, .float .f32 b, .float .f32 c, .float .f32 d, .bool x]] w fun e w' => e = .returned (.tuple #[.float .f32 0, .int .i64 1]) ∧ Below w.heap.size w w' := by
  refine (implLengthOf_any a b c d x w).mono ?_
  rintro e w' ⟨r, rfl, hr, _, hb⟩
  have hK : beltK a b c d true = 1 := by simp [beltK, hB]
  rw [hK] at hr ⊢
  have hr' : cn r = 0 := hr
  rw [F_of_cn hr' zero_F.1]
  exact ⟨rfl, hb⟩

theorem apartV_F {a b c d : Nat} {x : Bool} (h : BeltF a b c d x) {L : Nat} (hL : Po L) (hL1 : A L ≤ 32768) : F (apartV a b d x L) := by
  obtain ⟨h1, h2⟩ := apart_found h hL hL1
  rcases h1 with e | e
  · exact (h2 e).1.1
  · unfold apartV
    rw [e, if_neg (by decide)]
    exact zero_F.1
theorem forV_F {a b c d : Nat} {x : Bool} (h : BeltF a b c d x) {L : Nat} (hL : Po L) (hL1 : A L ≤ 32768) : F (forV c a x L) := by
  obtain ⟨h1, h2⟩ := radius_found h hL hL1
  rcases h1 with e | e
  · exact (h2 e).1.1
  · unfold forV
    rw [e, if_neg (by decide)]
    exact zero_F.1

theorem implApart_yes {a b c d : Nat} {x : Bool} (w : World) {L : Nat} (hL : L < 2 ^ 32) (hF : F (apartV a b d x L)) :
    Calls Try.prog 29 #[.agg #[.float .f32 a, .float .f32 b, .float .f32 c, .float .f32 d, .bool x], .float .f32 L] w fun e w' => e = .returned (.tuple #[.float .f32 (apartV a b d x L), .int .i64 (apartK a b d x L)]) ∧ Below w.heap.size w w' := by
  refine (implApartFor_any a b c d x L hL w).mono ?_
  rintro e w' ⟨r, rfl, hr, _, hb⟩
  rw [F_of_cn hr hF]
  exact ⟨rfl, hb⟩
theorem specApart_yes {a b c d : Nat} {x : Bool} (w : World) {L : Nat} (hL : L < 2 ^ 32) (hF : F (apartV a b d x L)) :
    Calls Try.prog 28 #[.agg #[.float .f32 a, .float .f32 b, .float .f32 c, .float .f32 d, .bool x], .float .f32 L] w fun e w' => e = .returned (.tuple #[.float .f32 (apartV a b d x L), .int .i64 (apartK a b d x L)]) ∧ Below w.heap.size w w' := by
  refine (specApartFor_any a b c d x L hL w).mono ?_
  rintro e w' ⟨r, rfl, hr, _, hb⟩
  rw [F_of_cn hr hF]
  exact ⟨rfl, hb⟩
theorem implRadius_yes {a b c d : Nat} {x : Bool} (w : World) {L : Nat} (hL : L < 2 ^ 32) (hB : beltB a b c d = true) (hF : F (forV c a x L)) :
    Calls Try.prog 31 #[.agg #[.float .f32 a, .float .f32 b, .float .f32 c, .float .f32 d, .bool x], .float .f32 a, .float .f32 L] w fun e w' => e = .returned (.tuple #[.float .f32 (forV c a x L), .int .i64 (forK c a x L)]) ∧ Below w.heap.size w w' := by
  refine (implRadiusFor_any a b c d a x L hL w).mono ?_
  rintro e w' ⟨r, rfl, hr, _, hb⟩
  rw [rfV_yes hB] at hr
  rw [rfK_yes hB, F_of_cn hr hF]
  exact ⟨rfl, hb⟩
theorem specRadius_yes {a b c d : Nat} {x : Bool} (w : World) {L : Nat} (hL : L < 2 ^ 32) (hB : beltB a b c d = true) (hF : F (forV c a x L)) :
    Calls Try.prog 30 #[.agg #[.float .f32 a, .float .f32 b, .float .f32 c, .float .f32 d, .bool x], .float .f32 a, .float .f32 L] w fun e w' => e = .returned (.tuple #[.float .f32 (forV c a x L), .int .i64 (forK c a x L)]) ∧ Below w.heap.size w w' := by
  refine (specRadiusFor_any a b c d a x L hL w).mono ?_
  rintro e w' ⟨r, rfl, hr, _, hb⟩
  rw [rfV_yes hB] at hr
  rw [rfK_yes hB, F_of_cn hr hF]
  exact ⟨rfl, hb⟩

/-- Two belts. -/
theorem long_two {p q : B5} (hp : okB5 p = true) (hq : okB5 q = true) : longK [p, q] = 0 ∧ longAt [p, q] = (if flt .f32 (lenB5 p) (lenB5 q) then 1 else 0) ∧ longV [p, q] = (if flt .f32 (lenB5 p) (lenB5 q) then lenB5 q else lenB5 p) := by
  have hK : longK [p, q] = 0 := by simp [longK, hp, hq]
  have h1 : longB [p, q] 1 = (0, lenB5 p) := by rw [longB_one]; exact longB_zero (p := p) rfl
  have h2 : longB [p, q] 2 = if flt .f32 (lenB5 p) (lenB5 q) then (1, lenB5 q) else (0, lenB5 p) := by
    rw [longB_succ (j := 1) (p := q) rfl, h1]
  refine ⟨hK, ?_, ?_⟩
  · unfold longAt
    rw [if_pos hK, show [p, q].length = 2 from rfl, h2]
    split <;> rfl
  · unfold longV
    rw [if_pos hK, show [p, q].length = 2 from rfl, h2]
    split <;> rfl
theorem through_two {p q : B5} (hp : okB5 p = true) (hq : okB5 q = true) : throughK [p, q] 1077936128 = 0 ∧ throughR [p, q] 1077936128 = scanO (cn 1077936128) [p, q] 3 := by
  have h3 : plainB 1077936128 = true := by decide +kernel
  have hK : throughK [p, q] 1077936128 = 0 := by simp [throughK, hp, hq, h3]
  exact ⟨hK, by rw [throughR, if_pos hK]; rfl⟩
theorem scan_one (x : Nat) (p q : B5) : (scanO x [p, q] 3)[1]? = some (outS x p) := scanO_get x [p, q] 3 1 (by omega)

theorem speedOut_yes {a b c d : Nat} {x : Bool} (w : World) (hB : beltB a b c d = true) :
    Calls Try.prog 42 #[.agg #[.float .f32 a, .float .f32 b, .float .f32 c, .float .f32 d, .bool x], .float .f32 1077936128, .float .f32 0] w fun e w' => ∃ r, e = .returned (.tuple #[.float .f32 r, .int .i64 0]) ∧ cn r = outC a b x 1077936128 0 ∧ Below w.heap.size w w' := by
  refine (implSpeedOut_any a b c d x 1077936128 0 w).mono ?_
  rintro e w' ⟨r, rfl, hr, _, hb⟩
  have h3 : plainB 1077936128 = true := by decide +kernel
  have h4 : partB 0 = true := by decide +kernel
  have hK : beltK a b c d (plainB 1077936128 && partB 0) = 0 := by simp [beltK, hB, h3, h4]
  rw [hK] at hr ⊢
  exact ⟨r, rfl, hr, hb⟩

/-- The greater of two numbers that are not negative. -/
theorem run_max_Po {P : Program} (w : World) (ts : Array TypeId) (t : TypeId) {x y : Nat} (hx : Po x) (hy : Po y) : (Builtin.max_ ts t #[.float .f32 x, .float .f32 y]).run P w = .ok (.float .f32 (if flt .f32 x y then y else x)) w := by
  have hlt := ltF hx.1 hy.1
  have heq := eqF hx.1 hy.1
  have hd : (FloatKind.f32.decode x).neg = false := by
    obtain ⟨m, i, e, _⟩ := Flt.read_fin Ieee.single hx.1.1
    show (Ieee.single.read x).neg = _
    rw [e]
    exact hx.2
  obtain ⟨o, ho⟩ : ∃ o, FloatKind.f32.format.order x y = some o := ⟨_, Flt.order_fin Ieee.single hx.1.1 hy.1.1⟩
  have hf : flt .f32 x y = (o == .lt) := by
    unfold flt
    rw [ho]
    cases o <;> rfl
  rw [hf]
  cases o <;> simp [Builtin.max_, Builtin.max2, ho, hd]

end Go.Proofs.Ytljigmplmlhdnaa

