/- Plain laws: how near the powers along a train stay. -/
import Derived.Test.YtkgfepakedieaaaGreatDoorCtTa
import Derived.Test.YtkgfepakedieaaaGreatDoorCtY
import Derived.Test.YtkgfepakedieaaaGreatDoorSdZ
set_option linter.unusedVariables false
set_option linter.unusedSimpArgs false
namespace Go.Proofs.YtkgfepakedieaaaGreatDoor
open Go.RowKit
open Flt (z2_pos z2_add z2_mono)

abbrev Nr (k : Nat) (a b : Rat) : Prop := Flt.Near Ieee.single k a b
noncomputable abbrev rr : Rat := Flt.ro Ieee.single
theorem rr_eq : rr = 1 - 1 / 16777216 := by
  have h : (2 : Rat) ^ (-(Ieee.single.fractionBits : Int) - 1) = 1 / 16777216 := by
    rw [fb_s]
    decide +kernel
  show Flt.ro Ieee.single = _
  unfold Flt.ro
  rw [h]
theorem rr_pow (k : Nat) : rr ^ k = (1 - 1 / 16777216) ^ k := by rw [rr_eq]
theorem Nr_def {k : Nat} {a b : Rat} (h : Nr k a b) : a * (1 - 1 / 16777216) ^ k ≤ b ∧ b * (1 - 1 / 16777216) ^ k ≤ a := by
  rw [← rr_pow]
  exact h

theorem A_mono {x y : Nat} (h : Flt.rung Ieee.single x ≤ Flt.rung Ieee.single y) : A x ≤ A y := by
  show Flt.A Ieee.single x ≤ Flt.A Ieee.single y
  unfold Flt.A
  exact Rat.mul_le_mul_of_nonneg_right (by exact_mod_cast Flt.mag_le Ieee.single h) (Rat.le_of_lt (z2_pos _))
theorem mul_ge {x y : Rat} {a b : Int} (hx : (2 : Rat) ^ a ≤ x) (hy : (2 : Rat) ^ b ≤ y) : (2 : Rat) ^ (a + b) ≤ x * y := by
  rw [z2_add]
  have h0 : (0 : Rat) ≤ x := Rat.le_trans (Rat.le_of_lt (z2_pos a)) hx
  exact Rat.le_trans (Rat.mul_le_mul_of_nonneg_right hx (Rat.le_of_lt (z2_pos b))) (Rat.mul_le_mul_of_nonneg_left hy h0)
theorem mul_le {x y : Rat} {a b : Int} (hx : x ≤ (2 : Rat) ^ a) (hy : y ≤ (2 : Rat) ^ b) (h0 : 0 ≤ x) : x * y ≤ (2 : Rat) ^ (a + b) := by
  rw [z2_add]
  exact Rat.le_trans (Rat.mul_le_mul_of_nonneg_left hy h0) (Rat.mul_le_mul_of_nonneg_right hx (Rat.le_of_lt (z2_pos b)))
theorem lt_of_le_z {x : Rat} {a b : Int} (h : x ≤ (2 : Rat) ^ a) (hab : a < b) : x < (2 : Rat) ^ b := by
  rcases Rat.le_total (a := (2 : Rat) ^ b) (b := x) with h1 | h1
  · have := Flt.z2_le (Rat.le_trans h1 h)
    omega
  · rcases Rat.le_iff_lt_or_eq.1 h1 with h2 | h2
    · exact h2
    · rw [h2] at h
      have := Flt.z2_le h
      omega
theorem min_place : (2 : Rat) ^ (-126 : Int) = 2 ^ (Ieee.single.leastPlace + Ieee.single.fractionBits) := by
  rw [lp_s, fb_s]
  rfl

/-- A product that neither overflows nor becomes too small. -/
theorem mulN {x y : Nat} (hx : F x) (hy : F y) {u : Int} (hu : A x * A y ≤ 2 ^ u) (hu1 : u < 126) (hl : A x * A y = 0 ∨ (2 : Rat) ^ (-126 : Int) ≤ A x * A y) : F (cop .mul x y) ∧ S (cop .mul x y) = (S x ^^ S y) ∧ Nr 1 (A (cop .mul x y)) (A x * A y) ∧ Flt.Fl Ieee.single (A x * A y) (A (cop .mul x y)) := by
  obtain ⟨h1, h2, h3⟩ := mulF hx hy (lt_of_le_z hu hu1)
  refine ⟨h1, h2, ?_, h3⟩
  rcases hl with h | h
  · have hz := h3.2.2 0 (by rw [h, Flt.mag_zero]; simp)
    have h4 : A (cop .mul x y) = 0 := by
      rw [Flt.mag_zero] at hz
      have := A_nn (cop .mul x y)
      simp at hz
      exact Rat.le_antisymm hz this
    rw [h, h4]
    exact Flt.Near.refl _ Rat.le_refl 1
  · exact h3.1 (by rw [← min_place]; exact h)

/-- Numbers of teeth, as words. -/
theorem teeth_all : ((List.range 201).all fun n => Flt.fin Ieee.single (floatOfInt .f32 (n : Int)) && decide (floatOfInt .f32 (n : Int) < 2 ^ 32) && !Flt.sgn Ieee.single (floatOfInt .f32 (n : Int)) && decide (Flt.mag Ieee.single (Flt.rung Ieee.single (floatOfInt .f32 (n : Int))) = n * 2 ^ 149)) = true := by decide +kernel
theorem teethF {n : Int} (h0 : 0 ≤ n) (h1 : n ≤ 200) : F (floatOfInt .f32 n) ∧ S (floatOfInt .f32 n) = false ∧ A (floatOfInt .f32 n) = (n : Rat) := by
  obtain ⟨m, rfl⟩ : ∃ m : Nat, n = (m : Int) := ⟨n.toNat, by omega⟩
  have h := List.all_eq_true.1 teeth_all m (List.mem_range.2 (by omega))
  simp only [Bool.and_eq_true, decide_eq_true_eq, Bool.not_eq_true'] at h
  obtain ⟨⟨⟨h2, h3⟩, h4⟩, h5⟩ := h
  refine ⟨⟨h2, h3⟩, h4, ?_⟩
  refine A_const h5 ?_
  rw [Rat.natCast_mul, Flt.z2_nat, Rat.mul_assoc, ← z2_add, show ((149 : Nat) : Int) + -149 = 0 by omega, Rat.zpow_zero, Rat.mul_one]
  rfl

/-- The quotient of two numbers of teeth. -/
theorem quoN {a b : Int} (a0 : 6 ≤ a) (a1 : a ≤ 200) (b0 : 6 ≤ b) (b1 : b ≤ 200) : F (cop .quo (floatOfInt .f32 a) (floatOfInt .f32 b)) ∧ S (cop .quo (floatOfInt .f32 a) (floatOfInt .f32 b)) = false ∧ Nr 2 (A (cop .quo (floatOfInt .f32 a) (floatOfInt .f32 b))) ((a : Rat) / b) ∧ (2 : Rat) ^ (-6 : Int) ≤ A (cop .quo (floatOfInt .f32 a) (floatOfInt .f32 b)) ∧ A (cop .quo (floatOfInt .f32 a) (floatOfInt .f32 b)) ≤ 2 ^ (6 : Int) := by
  obtain ⟨f1, s1, e1⟩ := teethF (n := a) (by omega) a1
  obtain ⟨f2, s2, e2⟩ := teethF (n := b) (by omega) b1
  have hb : (0 : Rat) < (b : Rat) := Rat.intCast_pos.2 (by omega)
  have hlo : (3 : Rat) / 100 ≤ (a : Rat) / b := by
    refine ratio_ge hb ?_
    have h1 : (6 : Rat) ≤ (a : Rat) := Rat.intCast_le_intCast.2 a0
    have h2 : (b : Rat) ≤ 200 := Rat.intCast_le_intCast.2 b1
    grind
  have hhi : (a : Rat) / b ≤ 34 := by
    refine ratio_le hb ?_
    have h1 : (a : Rat) ≤ 200 := Rat.intCast_le_intCast.2 a1
    have h2 : (6 : Rat) ≤ (b : Rat) := Rat.intCast_le_intCast.2 b0
    grind
  obtain ⟨g1, g2, g3⟩ := divF f1 f2 (by rw [e2]; exact hb) (by
    rw [e1, e2]
    have : (34 : Rat) < 2 ^ (125 : Int) := by decide +kernel
    grind)
  rw [e1, e2] at g3
  have hn := g3.1 (by
    rw [← min_place]
    have : (2 : Rat) ^ (-126 : Int) ≤ 3 / 100 := by decide +kernel
    grind)
  rw [s1, s2] at g2
  obtain ⟨n1, n2⟩ := Nr_def hn
  have e6 : (2 : Rat) ^ (-6 : Int) = 1 / 64 := by decide +kernel
  have e7 : (2 : Rat) ^ (6 : Int) = 64 := by decide +kernel
  have er : ((1 : Rat) - 1 / 16777216) ^ 2 = 281474943156225 / 281474976710656 := by decide +kernel
  rw [er] at n1 n2
  refine ⟨g1, g2, hn, ?_, ?_⟩
  · rw [e6]; grind
  · rw [e7]; grind

/-- One less a part. -/
theorem lessN {l : Nat} (hl : F l) (hp : partB l = true) : F (cop .sub 1065353216 l) ∧ S (cop .sub 1065353216 l) = false ∧ A (cop .sub 1065353216 l) ≤ 1 ∧ (A (cop .sub 1065353216 l) = 0 ∨ (2 : Rat) ^ (-24 : Int) ≤ A (cop .sub 1065353216 l)) := by
  obtain ⟨o1, o2, o3⟩ := one_F
  obtain ⟨z1, z2, z3⟩ := zero_F
  unfold partB betB at hp
  rw [leF z1 hl, leF hl o1, V_zero, V_pos o2, o3] at hp
  simp only [Bool.and_eq_true, decide_eq_true_eq] at hp
  obtain ⟨p1, p2⟩ := hp
  have hA : V l = A l := by
    have h1 := A_nn l
    cases hs : S l
    · exact V_pos hs
    · have h2 := V_neg hs
      grind
  have hv0 : 0 ≤ V 1065353216 - V l := by rw [V_pos o2, o3]; grind
  have hv1 : V 1065353216 - V l ≤ 1 := by rw [V_pos o2, o3]; grind
  have hab := Flt.ab_of_nonneg hv0
  obtain ⟨f1, f2, f3, f4⟩ := subF o1 hl (by
    rw [hab]
    have : (1 : Rat) < 2 ^ (126 : Int) := by decide +kernel
    grind)
  rw [hab] at f3 f4
  refine ⟨f1, ?_, ?_, ?_⟩
  · have h2 := (is_F f2).2
    rw [o2] at h2
    rw [h2]
    split
    · rfl
    · exact decide_eq_false (by grind)
  · have := fl_le f4 (c := 1065353216) (by rw [o3]; exact hv1)
    rwa [o3] at this
  · by_cases h1 : A l = 1
    · left
      have e : V 1065353216 - V l = 0 := by rw [V_pos o2, o3, hA, h1]; grind
      rw [e] at f3
      exact Flt.Near.zero f3 (A_nn _)
    · right
      have hlt : Flt.rung Ieee.single l < Flt.rung Ieee.single 1065353216 := by
        rcases Nat.lt_or_ge (Flt.rung Ieee.single l) (Flt.rung Ieee.single 1065353216) with h2 | h2
        · exact h2
        · exfalso
          have h3 := A_mono h2
          rw [o3] at h3
          rw [hA] at p2
          exact h1 (Rat.le_antisymm p2 h3)
      have hr1 : Flt.rung Ieee.single 1065353216 = 1065353216 := by decide +kernel
      have hr2 : Flt.rung Ieee.single 1065353215 = 1065353215 := by decide +kernel
      have h4 := A_mono (x := l) (y := 1065353215) (by rw [hr2]; omega)
      have e5 : A 1065353215 = 1 - 1 / 16777216 := A_const (m := 16777215 * 2 ^ 125) (by decide +kernel) (by decide +kernel)
      have e6 : A 864026624 = 1 / 16777216 := A_const (m := 2 ^ 125) (by decide +kernel) (by decide +kernel)
      have h5 := fl_ge f4 (c := 864026624) (by rw [V_pos o2, o3, hA, e6]; grind)
      rw [e6] at h5
      have e7 : (2 : Rat) ^ (-24 : Int) = 1 / 16777216 := by decide +kernel
      rw [e7]
      exact h5

end Go.Proofs.YtkgfepakedieaaaGreatDoor

/-! Plain laws: the powers along a train, step by step. -/
namespace Go.Proofs.YtkgfepakedieaaaGreatDoor
open Go.RowKit
open Flt (z2_pos z2_add z2_mono)

/-- A power of two is a number of the format. -/
theorem pow_word {k : Int} (h : -126 ≤ k) : ∃ j, (Flt.mag Ieee.single j : Rat) * 2 ^ Ieee.single.leastPlace = 2 ^ k := by
  have hB : Ieee.single.binade = 8388608 := by decide
  refine ⟨(k + 126).toNat * Ieee.single.binade + Ieee.single.binade, ?_⟩
  rw [Flt.magAt Ieee.single (.inr (Nat.le_refl _)) (by omega), Rat.natCast_mul, Flt.z2_toNat (by omega), hB, lp_s]
  have e : ((8388608 : Nat) : Rat) = 2 ^ (23 : Int) := by decide +kernel
  rw [e, ← z2_add, ← z2_add]
  congr 1
  omega
theorem fl_pow_ge {v : Rat} {z : Nat} {k : Int} (h : Flt.Fl Ieee.single v (A z)) (hk : -126 ≤ k) (hv : (2 : Rat) ^ k ≤ v) : (2 : Rat) ^ k ≤ A z := by
  obtain ⟨j, hj⟩ := pow_word hk
  rw [← hj] at hv ⊢
  exact h.2.1 j hv
theorem fl_pow_le {v : Rat} {z : Nat} {k : Int} (h : Flt.Fl Ieee.single v (A z)) (hk : -126 ≤ k) (hv : v ≤ (2 : Rat) ^ k) : A z ≤ (2 : Rat) ^ k := by
  obtain ⟨j, hj⟩ := pow_word hk
  rw [← hj] at hv ⊢
  exact h.2.2 j hv

/-- A word that is 0 or lies between two powers of two. -/
def Rg (a b : Int) (x : Nat) : Prop := F x ∧ A x ≤ 2 ^ b ∧ (A x = 0 ∨ (2 : Rat) ^ a ≤ A x)
theorem mulR {a b c d : Int} {x y : Nat} (hx : Rg a b x) (hy : Rg c d y) (h1 : -126 ≤ a + c) (h2 : b + d ≤ 125) (h3 : a + c ≤ b + d) :
    Rg (a + c) (b + d) (cop .mul x y) ∧ S (cop .mul x y) = (S x ^^ S y) ∧ Nr 1 (A (cop .mul x y)) (A x * A y) := by
  obtain ⟨fx, ux, lx⟩ := hx
  obtain ⟨fy, uy, ly⟩ := hy
  have hu := mul_le ux uy (A_nn x)
  have hl : A x * A y = 0 ∨ (2 : Rat) ^ (a + c) ≤ A x * A y := by
    rcases lx with h | h
    · left; rw [h, Rat.zero_mul]
    · rcases ly with h' | h'
      · left; rw [h', Rat.mul_zero]
      · right; exact mul_ge h h'
  obtain ⟨f1, f2, f3, f4⟩ := mulN fx fy hu (by omega) (hl.imp_right fun h => Rat.le_trans (z2_mono h1) h)
  refine ⟨⟨f1, fl_pow_le f4 (by omega) hu, ?_⟩, f2, f3⟩
  rcases hl with h | h
  · left
    rw [h] at f3
    exact Flt.Near.zero f3 (A_nn _)
  · right
    exact fl_pow_ge f4 h1 h
theorem Rg_fneg {a b : Int} {x : Nat} (h : Rg a b x) : Rg a b (fneg x) := by
  obtain ⟨h1, h2, _⟩ := F_fneg h.1
  refine ⟨h1, ?_, ?_⟩
  · rw [h2]; exact h.2.1
  · rw [h2]; exact h.2.2

/-- A pair's part that is kept. -/
def cL (p : T3) : Nat := cop .sub 1065353216 p.2.2
noncomputable def cQ (p : T3) : Rat := A (cL p)
noncomputable def prodC : List T3 → Rat
  | [] => 1
  | p :: ps => cQ p * prodC ps
theorem prodC_app (a b : List T3) : prodC (a ++ b) = prodC a * prodC b := by
  induction a with
  | nil => simp [prodC]
  | cons x a ih => simp only [List.cons_append, prodC, ih]; grind

/-- A pair of a drawn train. -/
def PG (p : T3) : Prop := pairB p = true ∧ F p.2.2
theorem pg_teeth {p : T3} (h : PG p) : (6 ≤ p.1 ∧ p.1 ≤ 200) ∧ (6 ≤ p.2.1 ∧ p.2.1 ≤ 200) ∧ partB p.2.2 = true := by
  have := h.1
  unfold pairB withinB at this
  simp only [Bool.and_eq_true, decide_eq_true_eq] at this
  exact ⟨this.1.1, this.1.2, this.2⟩
theorem pg_less {p : T3} (h : PG p) : Rg (-24) 0 (cL p) ∧ S (cL p) = false ∧ cQ p ≤ 1 := by
  obtain ⟨f1, f2, f3, f4⟩ := lessN h.2 (pg_teeth h).2.2
  exact ⟨⟨f1, by rw [Rat.zpow_zero]; exact f3, f4⟩, f2, f3⟩
theorem pg_up {p : T3} (h : PG p) : Rg (-6) 6 (upC p) ∧ S (upC p) = false ∧ Nr 2 (A (upC p)) ((p.1 : Rat) / p.2.1) := by
  obtain ⟨⟨a0, a1⟩, ⟨b0, b1⟩, _⟩ := pg_teeth h
  obtain ⟨f1, f2, f3, f4, f5⟩ := quoN a0 a1 b0 b1
  exact ⟨⟨f1, f5, .inr f4⟩, f2, f3⟩
theorem pg_down {p : T3} (h : PG p) : Rg (-6) 6 (downC p) ∧ S (downC p) = false ∧ Nr 2 (A (downC p)) ((p.2.1 : Rat) / p.1) := by
  obtain ⟨⟨a0, a1⟩, ⟨b0, b1⟩, _⟩ := pg_teeth h
  obtain ⟨f1, f2, f3, f4, f5⟩ := quoN b0 b1 a0 a1
  exact ⟨⟨f1, f5, .inr f4⟩, f2, f3⟩

/-- Where the walk along a train stands behind i pairs: speed, torque, part that is kept. -/
structure St (i : Nat) (p q s t l : Nat) (C : Rat) : Prop where
  rs : Rg (-2 - 6 * i) (3 + 6 * i) s
  rt : Rg (-2 - 30 * i) (3 + 6 * i) t
  rl : Rg (-24 * i) 0 l
  sl : S l = false
  sg : (S s ^^ S t) = (S p ^^ S q)
  c0 : 0 ≤ C
  c1 : C ≤ 1
  c2 : C = 0 ∨ (2 : Rat) ^ (-24 * (i : Int)) ≤ C
  pw : Nr (7 * i) (A s * A t) (A p * A q * C)
  ef : Nr i (A l) C

theorem St.start {p q : Nat} (hp : Rg (-2) 3 p) (hq : Rg (-2) 3 q) : St 0 p q p q 1065353216 1 := by
  obtain ⟨o1, o2, o3⟩ := one_F
  refine ⟨by simpa using hp, by simpa using hq, ⟨o1, by rw [o3, Rat.zpow_zero]; exact Rat.le_refl, .inr (by rw [o3]; simp)⟩, o2, rfl, by decide, Rat.le_refl, .inr (by simp), ?_, ?_⟩
  · rw [Rat.mul_one]
    exact Flt.Near.refl _ (Rat.mul_nonneg (A_nn _) (A_nn _)) 0
  · rw [o3]
    exact Flt.Near.refl _ (by decide) 0

theorem ratio_cancel {a b : Int} (ha : 0 < a) (hb : 0 < b) : ((a : Rat) / b) * ((b : Rat) / a) = 1 := by
  have h1 : (0 : Rat) < (a : Rat) := Rat.intCast_pos.2 ha
  have h2 : (0 : Rat) < (b : Rat) := Rat.intCast_pos.2 hb
  have e1 : (a : Rat) / b * b = a := Rat.div_mul_cancel (Rat.ne_of_gt h2)
  have e2 : (b : Rat) / a * a = b := Rat.div_mul_cancel (Rat.ne_of_gt h1)
  have e3 : ((a : Rat) / b) * ((b : Rat) / a) * a = 1 * a := by
    rw [Rat.mul_assoc, e2, e1, Rat.one_mul]
  have h3 := Rat.le_of_mul_le_mul_right (a := ((a : Rat) / b) * ((b : Rat) / a)) (b := 1) (c := (a : Rat)) (by rw [e3]; exact Rat.le_refl) h1
  have h4 := Rat.le_of_mul_le_mul_right (a := 1) (b := ((a : Rat) / b) * ((b : Rat) / a)) (c := (a : Rat)) (by rw [e3]; exact Rat.le_refl) h1
  exact Rat.le_antisymm h3 h4

theorem cn_F {x : Nat} (h : F x) : cn x = x := F_cn h

theorem St.step {i : Nat} (hi : i < 4) {p q s t l : Nat} {C : Rat} (h : St i p q s t l C) {x : T3} (hx : PG x) :
    St (i + 1) p q (speedC s x) (torqueC t x) (cop .mul l (cL x)) (C * cQ x) ∧ Nr 7 (A (speedC s x) * A (torqueC t x)) (A s * A t * cQ x) := by
  obtain ⟨u1, u2, u3⟩ := pg_up hx
  obtain ⟨d1, d2, d3⟩ := pg_down hx
  obtain ⟨l1, l2, l3⟩ := pg_less hx
  obtain ⟨⟨a0, a1⟩, ⟨b0, b1⟩, _⟩ := pg_teeth hx
  have hc0 : 0 ≤ cQ x := A_nn _
  -- the speed
  obtain ⟨s1, s2, s3⟩ := mulR h.rs u1 (by omega) (by omega) (by omega)
  have hsf := F_fneg s1.1
  have es : speedC s x = fneg (cop .mul s (upC x)) := by
    unfold speedC
    exact cn_F hsf.1
  have ns : Nr 3 (A (speedC s x)) (A s * ((x.1 : Rat) / x.2.1)) := by
    rw [es, hsf.2.1]
    have := Flt.Near.mul (Flt.Near.refl Ieee.single (A_nn s) 0) u3 (A_nn s) (A_nn _)
    exact Flt.Near.trans s3 (by simpa using this)
  -- the torque
  obtain ⟨t1, t2, t3⟩ := mulR h.rt d1 (by omega) (by omega) (by omega)
  obtain ⟨v1, v2, v3⟩ := mulR t1 l1 (by omega) (by omega) (by omega)
  have htf := F_fneg v1.1
  have et : torqueC t x = fneg (cop .mul (cop .mul t (downC x)) (cL x)) := by
    unfold torqueC
    exact cn_F htf.1
  have nt : Nr 4 (A (torqueC t x)) (A t * ((x.2.1 : Rat) / x.1) * cQ x) := by
    rw [et, htf.2.1]
    have h1 : Nr 2 (A t * A (downC x)) (A t * ((x.2.1 : Rat) / x.1)) := by
      have := Flt.Near.mul (Flt.Near.refl Ieee.single (A_nn t) 0) d3 (A_nn t) (A_nn _)
      simpa using this
    have h2 := Flt.Near.trans t3 h1
    have h4 := Flt.Near.mul h2 (Flt.Near.refl Ieee.single hc0 0) (A_nn _) hc0
    exact Flt.Near.trans v3 h4
  have hst : Nr 7 (A (speedC s x) * A (torqueC t x)) (A s * A t * cQ x) := by
    have h1 := Flt.Near.mul ns nt (A_nn _) (A_nn _)
    have e : A s * ((x.1 : Rat) / x.2.1) * (A t * ((x.2.1 : Rat) / x.1) * cQ x) = A s * A t * cQ x := by
      have hcan := ratio_cancel (a := x.1) (b := x.2.1) (by omega) (by omega)
      generalize (x.1 : Rat) / x.2.1 = m at hcan
      generalize (x.2.1 : Rat) / x.1 = n at hcan
      have : A s * m * (A t * n * cQ x) = A s * A t * cQ x * (m * n) := by grind
      rw [this, hcan, Rat.mul_one]
    rw [e] at h1
    exact h1
  -- the part that is kept
  obtain ⟨e1, e2, e3⟩ := mulR h.rl l1 (by omega) (by omega) (by omega)
  refine ⟨⟨?_, ?_, ?_, ?_, ?_, Rat.mul_nonneg h.c0 hc0, ?_, ?_, ?_, ?_⟩, hst⟩
  · rw [es]
    have := Rg_fneg s1
    rw [show -2 - 6 * (i : Int) + -6 = -2 - 6 * ((i + 1 : Nat) : Int) by omega, show 3 + 6 * (i : Int) + 6 = 3 + 6 * ((i + 1 : Nat) : Int) by omega] at this
    exact this
  · rw [et]
    have := Rg_fneg v1
    rw [show -2 - 30 * (i : Int) + -6 + -24 = -2 - 30 * ((i + 1 : Nat) : Int) by omega, show 3 + 6 * (i : Int) + 6 + 0 = 3 + 6 * ((i + 1 : Nat) : Int) by omega] at this
    exact this
  · rw [show -24 * (i : Int) + -24 = -24 * ((i + 1 : Nat) : Int) by omega, show (0 : Int) + 0 = 0 by omega] at e1
    exact e1
  · rw [e2, h.sl, l2]; rfl
  · rw [es, et, hsf.2.2, htf.2.2, s2, v2, t2, u2, d2, l2, ← h.sg]
    cases S s <;> cases S t <;> rfl
  · have := Rat.mul_le_mul_of_nonneg_right h.c1 hc0
    rw [Rat.one_mul] at this
    exact Rat.le_trans this l3
  · rcases h.c2 with h2 | h2
    · left; rw [h2, Rat.zero_mul]
    · rcases l1.2.2 with h4 | h4
      · left
        show C * A (cL x) = 0
        rw [h4, Rat.mul_zero]
      · right
        have := mul_ge h2 h4
        rw [show -24 * (i : Int) + -24 = -24 * ((i + 1 : Nat) : Int) by omega] at this
        exact this
  · have h1 := Flt.Near.mul h.pw (Flt.Near.refl Ieee.single hc0 0) (Rat.mul_nonneg (A_nn _) (A_nn _)) hc0
    have h2 := Flt.Near.trans hst h1
    rw [show 7 + (7 * i + 0) = 7 * (i + 1) by omega] at h2
    rw [show A p * A q * (C * cQ x) = A p * A q * C * cQ x by grind]
    exact h2
  · have h1 := Flt.Near.mul h.ef (Flt.Near.refl Ieee.single hc0 0) (A_nn _) hc0
    have h2 := Flt.Near.trans e3 h1
    rw [show 1 + (i + 0) = i + 1 by omega] at h2
    exact h2

def effAt (ps : List T3) (i : Nat) : Nat := (ps.take i).foldl (fun r p => cop .mul r (cop .sub 1065353216 p.2.2)) 1065353216
theorem effAt_all (ps : List T3) : effAt ps ps.length = effC ps := by
  unfold effAt effC
  rw [List.take_length]

/-- Along a drawn train. -/
theorem St.along {ps : List T3} {p q : Nat} (hp : Rg (-2) 3 p) (hq : Rg (-2) 3 q) (hl : ps.length ≤ 4) (hg : ∀ x ∈ ps, PG x) :
    ∀ i, i ≤ ps.length → St i p q ((ps.take i).foldl speedC p) ((ps.take i).foldl torqueC q) (effAt ps i) (prodC (ps.take i)) := by
  intro i
  induction i with
  | zero => intro _; exact St.start hp hq
  | succ i ih =>
    intro hi
    have hlt : i < ps.length := by omega
    have hx : ps[i]? = some ps[i] := List.getElem?_eq_getElem hlt
    have h1 := (ih (by omega)).step (by omega) (hg _ (List.getElem_mem hlt))
    have e1 := foldl_step speedC p ps i _ hx
    have e2 := foldl_step torqueC q ps i _ hx
    have e3 := foldl_step (fun r (p : T3) => cop .mul r (cop .sub 1065353216 p.2.2)) 1065353216 ps i _ hx
    have e4 : prodC (ps.take (i + 1)) = prodC (ps.take i) * cQ ps[i] := by
      rw [List.take_add_one, hx, prodC_app]
      simp [prodC]
    rw [e1, e2, e4]
    unfold effAt
    rw [e3]
    exact h1.1

end Go.Proofs.YtkgfepakedieaaaGreatDoor

/-! Plain laws: two words within some roundings of each other are near. -/
namespace Go.Proofs.YtkgfepakedieaaaGreatDoor
open Go.RowKit
open Flt (z2_pos z2_add z2_mono)

theorem nr_zero {k : Nat} {a b : Rat} (h : Nr k a b) (hb : b = 0) (ha : 0 ≤ a) : a = 0 := by
  rw [hb] at h
  exact Flt.Near.zero h ha

theorem ab_sub_V {a b : Nat} (hs : S a = S b) : Flt.ab (V a - V b) = Flt.ab (A a - A b) := by
  cases h : S a
  · rw [V_pos h, V_pos (by rw [← hs]; exact h)]
  · rw [V_neg h, V_neg (by rw [← hs]; exact h)]
    unfold Flt.ab
    split <;> split <;> grind

/-- Two words with one sign that are within k roundings of each other are near. -/
theorem near_of {a b p l k : Nat} (ha : F a) (hb : F b) (hs : S a = S b) (hp : F p) (hl : F l) (hsp : S p = false) (hsl : S l = false)
    (hn : Nr k (A a) (A b)) (ha1 : A a ≤ 2 ^ (100 : Int)) (hb1 : A b ≤ 2 ^ (100 : Int)) (hp1 : A p ≤ 1) (hl1 : A l ≤ 1)
    (hnum : 1 - (1 - 1 / 16777216) ^ k ≤ A p * ((1 - 1 / 16777216) ^ 1 * (1 - 1 / 16777216) ^ 1 * (1 - 1 / 16777216) ^ 1))
    (hlow : ∀ m, (m = A a ∨ m = A b) → m * A p = 0 ∨ (2 : Rat) ^ (-126 : Int) ≤ m * A p) :
    F (cop .sub a b) ∧ nearB a b p l = true := by
  have h100 : (2 : Rat) ^ (100 : Int) + 2 ^ (100 : Int) < 2 ^ (126 : Int) := by decide +kernel
  have hab : Flt.ab (A a - A b) ≤ 2 ^ (100 : Int) := by
    have := A_nn a
    have := A_nn b
    unfold Flt.ab
    split <;> grind
  obtain ⟨f1, g1, g2, g3⟩ := subF ha hb (by rw [ab_sub_V hs]; have := z2_pos 100; grind)
  refine ⟨f1, ?_⟩
  obtain ⟨z1, z2, z3⟩ := szN_F f1
  obtain ⟨y1, y2, y3⟩ := szN_F ha
  obtain ⟨x1, x2, x3⟩ := szN_F hb
  -- the greater size
  obtain ⟨m, hm, hmF, hmS, hmA, hmB, hmm⟩ : ∃ m, mostN a b = m ∧ F m ∧ V m = A m ∧ A a ≤ A m ∧ A b ≤ A m ∧ (A m = A a ∨ A m = A b) := by
    unfold mostN
    rw [ltF y1 x1, y3, x3]
    by_cases h : A a < A b
    · rw [decide_eq_true h]
      exact ⟨_, rfl, x1, by show V (szN b) = A (szN b); rw [x3, x2], by show A a ≤ A (szN b); rw [x2]; exact Rat.le_of_lt h, by show A b ≤ A (szN b); rw [x2]; exact Rat.le_refl, .inr x2⟩
    · rw [decide_eq_false h]
      exact ⟨_, rfl, y1, by show V (szN a) = A (szN a); rw [y3, y2], by show A a ≤ A (szN a); rw [y2]; exact Rat.le_refl, by show A b ≤ A (szN a); rw [y2]; exact Rat.not_lt.1 h, .inl y2⟩
  have hm1 : A m ≤ 2 ^ (100 : Int) := by rcases hmm with e | e <;> rw [e] <;> assumption
  have hmp : A m * A p ≤ 2 ^ (100 : Int) := by
    have := Rat.mul_le_mul_of_nonneg_left hp1 (A_nn m)
    rw [Rat.mul_one] at this
    exact Rat.le_trans this hm1
  obtain ⟨q1, q2, q3, q4⟩ := mulN hmF hp hmp (by omega) (hlow _ hmm)
  have hq100 : A (cop .mul m p) ≤ 2 ^ (100 : Int) := fl_pow_le q4 (by omega) hmp
  have hVq : V (cop .mul m p) = A (cop .mul m p) := by
    rcases Rat.le_iff_lt_or_eq.1 (A_nn (cop .mul m p)) with h0 | h0
    · cases hsm : S m
      · exact V_pos (by rw [q2, hsm, hsp]; rfl)
      · have hv := V_neg hsm
        rw [hmS] at hv
        have hz : A m = 0 := by have := A_nn m; grind
        have := nr_zero q3 (by rw [hz, Rat.zero_mul]) (A_nn _)
        rw [this] at h0
        exact absurd h0 Rat.lt_irrefl
    · cases hsm : S (cop .mul m p)
      · exact V_pos hsm
      · rw [V_neg hsm, ← h0]; rfl
  have hVl := V_pos hsl
  have hsum0 : 0 ≤ V (cop .mul m p) + V l := by rw [hVq, hVl]; exact Rat.add_nonneg (A_nn _) (A_nn _)
  obtain ⟨r1, r2, r3, r4⟩ := addF q1 hl (by
    rw [Flt.ab_of_nonneg hsum0, hVq, hVl]
    have : (1 : Rat) ≤ 2 ^ (100 : Int) := by decide +kernel
    grind)
  rw [Flt.ab_of_nonneg hsum0, hVq, hVl] at r3
  have hVr : A (cop .add (cop .mul m p) l) ≤ V (cop .add (cop .mul m p) l) := by
    have h2 := (is_F r2).2
    by_cases h0 : V (cop .mul m p) + V l = 0
    · rw [hVq, hVl] at h0
      rw [h0] at r3
      have h5 : A (cop .add (cop .mul m p) l) = 0 := Flt.Near.zero r3 (A_nn _)
      rw [h5]
      cases hh : S (cop .add (cop .mul m p) l)
      · rw [V_pos hh, h5]; exact Rat.le_refl
      · rw [V_neg hh, h5]; decide
    · rw [if_neg h0, decide_eq_false (by grind)] at h2
      rw [V_pos h2]
      exact Rat.le_refl
  rw [ab_sub_V hs] at g2
  unfold nearB
  rw [hm, leF z1 r1, z3]
  apply decide_eq_true
  refine Rat.le_trans ?_ hVr
  -- the sums
  obtain ⟨n1, n2⟩ := Nr_def hn
  obtain ⟨d1, _⟩ := Nr_def g2
  obtain ⟨_, q5⟩ := Nr_def q3
  obtain ⟨_, r5⟩ := Nr_def r3
  have e1 : (0 : Rat) < (1 - 1 / 16777216) ^ 1 := by decide +kernel
  have hk1 : (1 - 1 / 16777216 : Rat) ^ k ≤ 1 := by rw [← rr_pow]; exact Flt.rok_le_one _ k
  have hdiff : Flt.ab (A a - A b) ≤ A m * (1 - (1 - 1 / 16777216) ^ k) := by
    have hk0 : (0 : Rat) ≤ 1 - (1 - 1 / 16777216) ^ k := by grind
    have ha2 := Rat.mul_le_mul_of_nonneg_right hmA hk0
    have hb2 := Rat.mul_le_mul_of_nonneg_right hmB hk0
    unfold Flt.ab
    split <;> grind
  apply Rat.le_of_mul_le_mul_right (c := (1 - 1 / 16777216) ^ 1) _ e1
  refine Rat.le_trans d1 (Rat.le_trans hdiff ?_)
  have h5 := Rat.mul_le_mul_of_nonneg_left hnum (A_nn m)
  refine Rat.le_trans h5 ?_
  have h6 : A m * A p * (1 - 1 / 16777216) ^ 1 ≤ A (cop .mul m p) + A l := by have := A_nn l; grind
  have h7 := Rat.mul_le_mul_of_nonneg_right h6 (Rat.le_of_lt e1)
  have h8 := Rat.le_trans h7 r5
  have h9 := Rat.mul_le_mul_of_nonneg_right h8 (Rat.le_of_lt e1)
  refine Rat.le_trans ?_ h9
  rw [show A m * (A p * ((1 - 1 / 16777216) ^ 1 * (1 - 1 / 16777216) ^ 1 * (1 - 1 / 16777216) ^ 1)) = A m * A p * (1 - 1 / 16777216) ^ 1 * (1 - 1 / 16777216) ^ 1 * (1 - 1 / 16777216) ^ 1 by grind]
  exact Rat.le_refl

end Go.Proofs.YtkgfepakedieaaaGreatDoor
