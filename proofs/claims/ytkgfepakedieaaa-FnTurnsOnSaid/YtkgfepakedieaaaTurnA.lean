/- Plain laws: how near the powers along a train stay. -/
import Derived.Test.YtkgfepakedieaaaCtTa
import Derived.Test.YtkgfepakedieaaaCtY
import Derived.Test.YtkgfepakedieaaaCtSf
import Derived.Test.YtkgfepakedieaaaCtTc
import Derived.Test.YtkgfepakedieaaaCtZf
import Derived.Test.YtkgfepakedieaaaCtZd
import Derived.Test.YtkgfepakedieaaaCtZb
import Derived.Test.YtkgfepakedieaaaCtR
import Derived.Laws.Small
import Derived.Test.YtkgfepakedieaaaCtSg
import Derived.Test.YtkgfepakedieaaaCtZh
namespace Go.Proofs.Ytkgfepakedieaaa
open Go.RowKit
open Flt (z2_pos z2_add z2_mono)

abbrev Nr (k : Nat) (a b : Rat) : Prop := Flt.Near Ieee.single k a b
noncomputable abbrev rr : Rat := Flt.ro Ieee.single
theorem rr_eq : rr = 1 - 1 / 16777216 := by
  have h : (2 : Rat) ^ (-(Ieee.single.fractionBits : Int) - 1) = 1 / 16777216 := by
    rw [fb_s]
    decide +kernel
  show Flt.ro Ieee.single = _
  unfold Flt.ro
  rw [h]
theorem rr_pow (k : Nat) : rr ^ k = (1 - 1 / 16777216) ^ k := by rw [rr_eq]
theorem Nr_def {k : Nat} {a b : Rat} (h : Nr k a b) : a * (1 - 1 / 16777216) ^ k ≤ b ∧ b * (1 - 1 / 16777216) ^ k ≤ a := by
  rw [← rr_pow]
  exact h

theorem A_mono {x y : Nat} (h : Flt.rung Ieee.single x ≤ Flt.rung Ieee.single y) : A x ≤ A y := by
  show Flt.A Ieee.single x ≤ Flt.A Ieee.single y
  unfold Flt.A
  exact Rat.mul_le_mul_of_nonneg_right (by exact_mod_cast Flt.mag_le Ieee.single h) (Rat.le_of_lt (z2_pos _))
theorem mul_ge {x y : Rat} {a b : Int} (hx : (2 : Rat) ^ a ≤ x) (hy : (2 : Rat) ^ b ≤ y) : (2 : Rat) ^ (a + b) ≤ x * y := by
  rw [z2_add]
  have h0 : (0 : Rat) ≤ x := Rat.le_trans (Rat.le_of_lt (z2_pos a)) hx
  exact Rat.le_trans (Rat.mul_le_mul_of_nonneg_right hx (Rat.le_of_lt (z2_pos b))) (Rat.mul_le_mul_of_nonneg_left hy h0)
theorem mul_le {x y : Rat} {a b : Int} (hx : x ≤ (2 : Rat) ^ a) (hy : y ≤ (2 : Rat) ^ b) (h0 : 0 ≤ x) : x * y ≤ (2 : Rat) ^ (a + b) := by
  rw [z2_add]
  exact Rat.le_trans (Rat.mul_le_mul_of_nonneg_left hy h0) (Rat.mul_le_mul_of_nonneg_right hx (Rat.le_of_lt (z2_pos b)))
theorem lt_of_le_z {x : Rat} {a b : Int} (h : x ≤ (2 : Rat) ^ a) (hab : a < b) : x < (2 : Rat) ^ b := by
  rcases Rat.le_total (a := (2 : Rat) ^ b) (b := x) with h1 | h1
  · have := Flt.z2_le (Rat.le_trans h1 h)
    omega
  · rcases Rat.le_iff_lt_or_eq.1 h1 with h2 | h2
    · exact h2
    · rw [h2] at h
      have := Flt.z2_le h
      omega
theorem min_place : (2 : Rat) ^ (-126 : Int) = 2 ^ (Ieee.single.leastPlace + Ieee.single.fractionBits) := by
  rw [lp_s, fb_s]
  rfl

/-- A product that neither overflows nor becomes too small. -/
theorem mulN {x y : Nat} (hx : F x) (hy : F y) {u : Int} (hu : A x * A y ≤ 2 ^ u) (hu1 : u < 126) (hl : A x * A y = 0 ∨ (2 : Rat) ^ (-126 : Int) ≤ A x * A y) : F (cop .mul x y) ∧ S (cop .mul x y) = (S x ^^ S y) ∧ Nr 1 (A (cop .mul x y)) (A x * A y) ∧ Flt.Fl Ieee.single (A x * A y) (A (cop .mul x y)) := by
  obtain ⟨h1, h2, h3⟩ := mulF hx hy (lt_of_le_z hu hu1)
  refine ⟨h1, h2, ?_, h3⟩
  rcases hl with h | h
  · have hz := h3.2.2 0 (by rw [h, Flt.mag_zero]; simp)
    have h4 : A (cop .mul x y) = 0 := by
      rw [Flt.mag_zero] at hz
      have := A_nn (cop .mul x y)
      simp at hz
      exact Rat.le_antisymm hz this
    rw [h, h4]
    exact Flt.Near.refl _ Rat.le_refl 1
  · exact h3.1 (by rw [← min_place]; exact h)

/-- Numbers of teeth, as words. -/
theorem teeth_all : ((List.range 201).all fun n => Flt.fin Ieee.single (floatOfInt .f32 (n : Int)) && decide (floatOfInt .f32 (n : Int) < 2 ^ 32) && !Flt.sgn Ieee.single (floatOfInt .f32 (n : Int)) && decide (Flt.mag Ieee.single (Flt.rung Ieee.single (floatOfInt .f32 (n : Int))) = n * 2 ^ 149)) = true := by decide +kernel
theorem teethF {n : Int} (h0 : 0 ≤ n) (h1 : n ≤ 200) : F (floatOfInt .f32 n) ∧ S (floatOfInt .f32 n) = false ∧ A (floatOfInt .f32 n) = (n : Rat) := by
  obtain ⟨m, rfl⟩ : ∃ m : Nat, n = (m : Int) := ⟨n.toNat, by omega⟩
  have h := List.all_eq_true.1 teeth_all m (List.mem_range.2 (by omega))
  simp only [Bool.and_eq_true, decide_eq_true_eq, Bool.not_eq_true'] at h
  obtain ⟨⟨⟨h2, h3⟩, h4⟩, h5⟩ := h
  refine ⟨⟨h2, h3⟩, h4, ?_⟩
  refine A_const h5 ?_
  rw [Rat.natCast_mul, Flt.z2_nat, Rat.mul_assoc, ← z2_add, show ((149 : Nat) : Int) + -149 = 0 by omega, Rat.zpow_zero, Rat.mul_one]
  rfl

/-- The quotient of two numbers of teeth. -/
theorem quoN {a b : Int} (a0 : 6 ≤ a) (a1 : a ≤ 200) (b0 : 6 ≤ b) (b1 : b ≤ 200) : F (cop .quo (floatOfInt .f32 a) (floatOfInt .f32 b)) ∧ S (cop .quo (floatOfInt .f32 a) (floatOfInt .f32 b)) = false ∧ Nr 2 (A (cop .quo (floatOfInt .f32 a) (floatOfInt .f32 b))) ((a : Rat) / b) ∧ (2 : Rat) ^ (-6 : Int) ≤ A (cop .quo (floatOfInt .f32 a) (floatOfInt .f32 b)) ∧ A (cop .quo (floatOfInt .f32 a) (floatOfInt .f32 b)) ≤ 2 ^ (6 : Int) := by
  obtain ⟨f1, s1, e1⟩ := teethF (n := a) (by omega) a1
  obtain ⟨f2, s2, e2⟩ := teethF (n := b) (by omega) b1
  have hb : (0 : Rat) < (b : Rat) := Rat.intCast_pos.2 (by omega)
  have hlo : (3 : Rat) / 100 ≤ (a : Rat) / b := by
    refine ratio_ge hb ?_
    have h1 : (6 : Rat) ≤ (a : Rat) := Rat.intCast_le_intCast.2 a0
    have h2 : (b : Rat) ≤ 200 := Rat.intCast_le_intCast.2 b1
    grind
  have hhi : (a : Rat) / b ≤ 34 := by
    refine ratio_le hb ?_
    have h1 : (a : Rat) ≤ 200 := Rat.intCast_le_intCast.2 a1
    have h2 : (6 : Rat) ≤ (b : Rat) := Rat.intCast_le_intCast.2 b0
    grind
  obtain ⟨g1, g2, g3⟩ := divF f1 f2 (by rw [e2]; exact hb) (by
    rw [e1, e2]
    have : (34 : Rat) < 2 ^ (125 : Int) := by decide +kernel
    grind)
  rw [e1, e2] at g3
  have hn := g3.1 (by
    rw [← min_place]
    have : (2 : Rat) ^ (-126 : Int) ≤ 3 / 100 := by decide +kernel
    grind)
  rw [s1, s2] at g2
  obtain ⟨n1, n2⟩ := Nr_def hn
  have e6 : (2 : Rat) ^ (-6 : Int) = 1 / 64 := by decide +kernel
  have e7 : (2 : Rat) ^ (6 : Int) = 64 := by decide +kernel
  have er : ((1 : Rat) - 1 / 16777216) ^ 2 = 281474943156225 / 281474976710656 := by decide +kernel
  rw [er] at n1 n2
  refine ⟨g1, g2, hn, ?_, ?_⟩
  · rw [e6]; grind
  · rw [e7]; grind

/-- One less a part. -/
theorem lessN {l : Nat} (hl : F l) (hp : partB l = true) : F (cop .sub 1065353216 l) ∧ S (cop .sub 1065353216 l) = false ∧ A (cop .sub 1065353216 l) ≤ 1 ∧ (A (cop .sub 1065353216 l) = 0 ∨ (2 : Rat) ^ (-24 : Int) ≤ A (cop .sub 1065353216 l)) := by
  obtain ⟨o1, o2, o3⟩ := one_F
  obtain ⟨z1, z2, z3⟩ := zero_F
  unfold partB betB at hp
  rw [leF z1 hl, leF hl o1, V_zero, V_pos o2, o3] at hp
  simp only [Bool.and_eq_true, decide_eq_true_eq] at hp
  obtain ⟨p1, p2⟩ := hp
  have hA : V l = A l := by
    have h1 := A_nn l
    cases hs : S l
    · exact V_pos hs
    · have h2 := V_neg hs
      grind
  have hv0 : 0 ≤ V 1065353216 - V l := by rw [V_pos o2, o3]; grind
  have hv1 : V 1065353216 - V l ≤ 1 := by rw [V_pos o2, o3]; grind
  have hab := Flt.ab_of_nonneg hv0
  obtain ⟨f1, f2, f3, f4⟩ := subF o1 hl (by
    rw [hab]
    have : (1 : Rat) < 2 ^ (126 : Int) := by decide +kernel
    grind)
  rw [hab] at f3 f4
  refine ⟨f1, ?_, ?_, ?_⟩
  · have h2 := (is_F f2).2
    rw [o2] at h2
    rw [h2]
    split
    · rfl
    · exact decide_eq_false (by grind)
  · have := fl_le f4 (c := 1065353216) (by rw [o3]; exact hv1)
    rwa [o3] at this
  · by_cases h1 : A l = 1
    · left
      have e : V 1065353216 - V l = 0 := by rw [V_pos o2, o3, hA, h1]; grind
      rw [e] at f3
      exact Flt.Near.zero f3 (A_nn _)
    · right
      have hlt : Flt.rung Ieee.single l < Flt.rung Ieee.single 1065353216 := by
        rcases Nat.lt_or_ge (Flt.rung Ieee.single l) (Flt.rung Ieee.single 1065353216) with h2 | h2
        · exact h2
        · exfalso
          have h3 := A_mono h2
          rw [o3] at h3
          rw [hA] at p2
          exact h1 (Rat.le_antisymm p2 h3)
      have hr1 : Flt.rung Ieee.single 1065353216 = 1065353216 := by decide +kernel
      have hr2 : Flt.rung Ieee.single 1065353215 = 1065353215 := by decide +kernel
      have h4 := A_mono (x := l) (y := 1065353215) (by rw [hr2]; omega)
      have e5 : A 1065353215 = 1 - 1 / 16777216 := A_const (m := 16777215 * 2 ^ 125) (by decide +kernel) (by decide +kernel)
      have e6 : A 864026624 = 1 / 16777216 := A_const (m := 2 ^ 125) (by decide +kernel) (by decide +kernel)
      have h5 := fl_ge f4 (c := 864026624) (by rw [V_pos o2, o3, hA, e6]; grind)
      rw [e6] at h5
      have e7 : (2 : Rat) ^ (-24 : Int) = 1 / 16777216 := by decide +kernel
      rw [e7]
      exact h5

end Go.Proofs.Ytkgfepakedieaaa

/-! Plain laws: the powers along a train, step by step. -/
namespace Go.Proofs.Ytkgfepakedieaaa
open Go.RowKit
open Flt (z2_pos z2_add z2_mono)

/-- A power of two is a number of the format. -/
theorem pow_word {k : Int} (h : -126 ≤ k) : ∃ j, (Flt.mag Ieee.single j : Rat) * 2 ^ Ieee.single.leastPlace = 2 ^ k := by
  have hB : Ieee.single.binade = 8388608 := by decide
  refine ⟨(k + 126).toNat * Ieee.single.binade + Ieee.single.binade, ?_⟩
  rw [Flt.magAt Ieee.single (.inr (Nat.le_refl _)) (by omega), Rat.natCast_mul, Flt.z2_toNat (by omega), hB, lp_s]
  have e : ((8388608 : Nat) : Rat) = 2 ^ (23 : Int) := by decide +kernel
  rw [e, ← z2_add, ← z2_add]
  congr 1
  omega
theorem fl_pow_ge {v : Rat} {z : Nat} {k : Int} (h : Flt.Fl Ieee.single v (A z)) (hk : -126 ≤ k) (hv : (2 : Rat) ^ k ≤ v) : (2 : Rat) ^ k ≤ A z := by
  obtain ⟨j, hj⟩ := pow_word hk
  rw [← hj] at hv ⊢
  exact h.2.1 j hv
theorem fl_pow_le {v : Rat} {z : Nat} {k : Int} (h : Flt.Fl Ieee.single v (A z)) (hk : -126 ≤ k) (hv : v ≤ (2 : Rat) ^ k) : A z ≤ (2 : Rat) ^ k := by
  obtain ⟨j, hj⟩ := pow_word hk
  rw [← hj] at hv ⊢
  exact h.2.2 j hv

/-- A word that is 0 or lies between two powers of two. -/
def Rg (a b : Int) (x : Nat) : Prop := F x ∧ A x ≤ 2 ^ b ∧ (A x = 0 ∨ (2 : Rat) ^ a ≤ A x)
theorem mulR {a b c d : Int} {x y : Nat} (hx : Rg a b x) (hy : Rg c d y) (h1 : -126 ≤ a + c) (h2 : b + d ≤ 125) (h3 : a + c ≤ b + d) :
    Rg (a + c) (b + d) (cop .mul x y) ∧ S (cop .mul x y) = (S x ^^ S y) ∧ Nr 1 (A (cop .mul x y)) (A x * A y) := by
  obtain ⟨fx, ux, lx⟩ := hx
  obtain ⟨fy, uy, ly⟩ := hy
  have hu := mul_le ux uy (A_nn x)
  have hl : A x * A y = 0 ∨ (2 : Rat) ^ (a + c) ≤ A x * A y := by
    rcases lx with h | h
    · left; rw [h, Rat.zero_mul]
    · rcases ly with h' | h'
      · left; rw [h', Rat.mul_zero]
      · right; exact mul_ge h h'
  obtain ⟨f1, f2, f3, f4⟩ := mulN fx fy hu (by omega) (hl.imp_right fun h => Rat.le_trans (z2_mono h1) h)
  refine ⟨⟨f1, fl_pow_le f4 (by omega) hu, ?_⟩, f2, f3⟩
  rcases hl with h | h
  · left
    rw [h] at f3
    exact Flt.Near.zero f3 (A_nn _)
  · right
    exact fl_pow_ge f4 h1 h
theorem Rg_fneg {a b : Int} {x : Nat} (h : Rg a b x) : Rg a b (fneg x) := by
  obtain ⟨h1, h2, _⟩ := F_fneg h.1
  refine ⟨h1, ?_, ?_⟩
  · rw [h2]; exact h.2.1
  · rw [h2]; exact h.2.2

/-- A pair's part that is kept. -/
def cL (p : T3) : Nat := cop .sub 1065353216 p.2.2
noncomputable def cQ (p : T3) : Rat := A (cL p)
noncomputable def prodC : List T3 → Rat
  | [] => 1
  | p :: ps => cQ p * prodC ps
theorem prodC_app (a b : List T3) : prodC (a ++ b) = prodC a * prodC b := by
  induction a with
  | nil => simp [prodC]
  | cons x a ih => simp only [List.cons_append, prodC, ih]; grind

/-- A pair of a drawn train. -/
def PG (p : T3) : Prop := pairB p = true ∧ F p.2.2
theorem pg_teeth {p : T3} (h : PG p) : (6 ≤ p.1 ∧ p.1 ≤ 200) ∧ (6 ≤ p.2.1 ∧ p.2.1 ≤ 200) ∧ partB p.2.2 = true := by
  have := h.1
  unfold pairB withinB at this
  simp only [Bool.and_eq_true, decide_eq_true_eq] at this
  exact ⟨this.1.1, this.1.2, this.2⟩
theorem pg_less {p : T3} (h : PG p) : Rg (-24) 0 (cL p) ∧ S (cL p) = false ∧ cQ p ≤ 1 := by
  obtain ⟨f1, f2, f3, f4⟩ := lessN h.2 (pg_teeth h).2.2
  exact ⟨⟨f1, by rw [Rat.zpow_zero]; exact f3, f4⟩, f2, f3⟩
theorem pg_up {p : T3} (h : PG p) : Rg (-6) 6 (upC p) ∧ S (upC p) = false ∧ Nr 2 (A (upC p)) ((p.1 : Rat) / p.2.1) := by
  obtain ⟨⟨a0, a1⟩, ⟨b0, b1⟩, _⟩ := pg_teeth h
  obtain ⟨f1, f2, f3, f4, f5⟩ := quoN a0 a1 b0 b1
  exact ⟨⟨f1, f5, .inr f4⟩, f2, f3⟩
theorem pg_down {p : T3} (h : PG p) : Rg (-6) 6 (downC p) ∧ S (downC p) = false ∧ Nr 2 (A (downC p)) ((p.2.1 : Rat) / p.1) := by
  obtain ⟨⟨a0, a1⟩, ⟨b0, b1⟩, _⟩ := pg_teeth h
  obtain ⟨f1, f2, f3, f4, f5⟩ := quoN b0 b1 a0 a1
  exact ⟨⟨f1, f5, .inr f4⟩, f2, f3⟩

/-- Where the walk along a train stands behind i pairs: speed, torque, part that is kept. -/
structure St (i : Nat) (p q s t l : Nat) (C : Rat) : Prop where
  rs : Rg (-2 - 6 * i) (3 + 6 * i) s
  rt : Rg (-2 - 30 * i) (3 + 6 * i) t
  rl : Rg (-24 * i) 0 l
  sl : S l = false
  sg : (S s ^^ S t) = (S p ^^ S q)
  c0 : 0 ≤ C
  c1 : C ≤ 1
  c2 : C = 0 ∨ (2 : Rat) ^ (-24 * (i : Int)) ≤ C
  pw : Nr (7 * i) (A s * A t) (A p * A q * C)
  ef : Nr i (A l) C

theorem St.start {p q : Nat} (hp : Rg (-2) 3 p) (hq : Rg (-2) 3 q) : St 0 p q p q 1065353216 1 := by
  obtain ⟨o1, o2, o3⟩ := one_F
  refine ⟨by simpa using hp, by simpa using hq, ⟨o1, by rw [o3, Rat.zpow_zero]; exact Rat.le_refl, .inr (by rw [o3]; simp)⟩, o2, rfl, by decide, Rat.le_refl, .inr (by simp), ?_, ?_⟩
  · rw [Rat.mul_one]
    exact Flt.Near.refl _ (Rat.mul_nonneg (A_nn _) (A_nn _)) 0
  · rw [o3]
    exact Flt.Near.refl _ (by decide) 0

theorem ratio_cancel {a b : Int} (ha : 0 < a) (hb : 0 < b) : ((a : Rat) / b) * ((b : Rat) / a) = 1 := by
  have h1 : (0 : Rat) < (a : Rat) := Rat.intCast_pos.2 ha
  have h2 : (0 : Rat) < (b : Rat) := Rat.intCast_pos.2 hb
  have e1 : (a : Rat) / b * b = a := Rat.div_mul_cancel (Rat.ne_of_gt h2)
  have e2 : (b : Rat) / a * a = b := Rat.div_mul_cancel (Rat.ne_of_gt h1)
  have e3 : ((a : Rat) / b) * ((b : Rat) / a) * a = 1 * a := by
    rw [Rat.mul_assoc, e2, e1, Rat.one_mul]
  have h3 := Rat.le_of_mul_le_mul_right (a := ((a : Rat) / b) * ((b : Rat) / a)) (b := 1) (c := (a : Rat)) (by rw [e3]; exact Rat.le_refl) h1
  have h4 := Rat.le_of_mul_le_mul_right (a := 1) (b := ((a : Rat) / b) * ((b : Rat) / a)) (c := (a : Rat)) (by rw [e3]; exact Rat.le_refl) h1
  exact Rat.le_antisymm h3 h4

theorem cn_F {x : Nat} (h : F x) : cn x = x := F_cn h

theorem St.step {i : Nat} (hi : i < 4) {p q s t l : Nat} {C : Rat} (h : St i p q s t l C) {x : T3} (hx : PG x) :
    St (i + 1) p q (speedC s x) (torqueC t x) (cop .mul l (cL x)) (C * cQ x) ∧ Nr 7 (A (speedC s x) * A (torqueC t x)) (A s * A t * cQ x) := by
  obtain ⟨u1, u2, u3⟩ := pg_up hx
  obtain ⟨d1, d2, d3⟩ := pg_down hx
  obtain ⟨l1, l2, l3⟩ := pg_less hx
  obtain ⟨⟨a0, a1⟩, ⟨b0, b1⟩, _⟩ := pg_teeth hx
  have hc0 : 0 ≤ cQ x := A_nn _
  -- the speed
  obtain ⟨s1, s2, s3⟩ := mulR h.rs u1 (by omega) (by omega) (by omega)
  have hsf := F_fneg s1.1
  have es : speedC s x = fneg (cop .mul s (upC x)) := by
    unfold speedC
    exact cn_F hsf.1
  have ns : Nr 3 (A (speedC s x)) (A s * ((x.1 : Rat) / x.2.1)) := by
    rw [es, hsf.2.1]
    have := Flt.Near.mul (Flt.Near.refl Ieee.single (A_nn s) 0) u3 (A_nn s) (A_nn _)
    exact Flt.Near.trans s3 (by simpa using this)
  -- the torque
  obtain ⟨t1, t2, t3⟩ := mulR h.rt d1 (by omega) (by omega) (by omega)
  obtain ⟨v1, v2, v3⟩ := mulR t1 l1 (by omega) (by omega) (by omega)
  have htf := F_fneg v1.1
  have et : torqueC t x = fneg (cop .mul (cop .mul t (downC x)) (cL x)) := by
    unfold torqueC
    exact cn_F htf.1
  have nt : Nr 4 (A (torqueC t x)) (A t * ((x.2.1 : Rat) / x.1) * cQ x) := by
    rw [et, htf.2.1]
    have h1 : Nr 2 (A t * A (downC x)) (A t * ((x.2.1 : Rat) / x.1)) := by
      have := Flt.Near.mul (Flt.Near.refl Ieee.single (A_nn t) 0) d3 (A_nn t) (A_nn _)
      simpa using this
    have h2 := Flt.Near.trans t3 h1
    have h4 := Flt.Near.mul h2 (Flt.Near.refl Ieee.single hc0 0) (A_nn _) hc0
    exact Flt.Near.trans v3 h4
  have hst : Nr 7 (A (speedC s x) * A (torqueC t x)) (A s * A t * cQ x) := by
    have h1 := Flt.Near.mul ns nt (A_nn _) (A_nn _)
    have e : A s * ((x.1 : Rat) / x.2.1) * (A t * ((x.2.1 : Rat) / x.1) * cQ x) = A s * A t * cQ x := by
      have hcan := ratio_cancel (a := x.1) (b := x.2.1) (by omega) (by omega)
      generalize (x.1 : Rat) / x.2.1 = m at hcan
      generalize (x.2.1 : Rat) / x.1 = n at hcan
      have : A s * m * (A t * n * cQ x) = A s * A t * cQ x * (m * n) := by grind
      rw [this, hcan, Rat.mul_one]
    rw [e] at h1
    exact h1
  -- the part that is kept
  obtain ⟨e1, e2, e3⟩ := mulR h.rl l1 (by omega) (by omega) (by omega)
  refine ⟨⟨?_, ?_, ?_, ?_, ?_, Rat.mul_nonneg h.c0 hc0, ?_, ?_, ?_, ?_⟩, hst⟩
  · rw [es]
    have := Rg_fneg s1
    rw [show -2 - 6 * (i : Int) + -6 = -2 - 6 * ((i + 1 : Nat) : Int) by omega, show 3 + 6 * (i : Int) + 6 = 3 + 6 * ((i + 1 : Nat) : Int) by omega] at this
    exact this
  · rw [et]
    have := Rg_fneg v1
    rw [show -2 - 30 * (i : Int) + -6 + -24 = -2 - 30 * ((i + 1 : Nat) : Int) by omega, show 3 + 6 * (i : Int) + 6 + 0 = 3 + 6 * ((i + 1 : Nat) : Int) by omega] at this
    exact this
  · rw [show -24 * (i : Int) + -24 = -24 * ((i + 1 : Nat) : Int) by omega, show (0 : Int) + 0 = 0 by omega] at e1
    exact e1
  · rw [e2, h.sl, l2]; rfl
  · rw [es, et, hsf.2.2, htf.2.2, s2, v2, t2, u2, d2, l2, ← h.sg]
    cases S s <;> cases S t <;> rfl
  · have := Rat.mul_le_mul_of_nonneg_right h.c1 hc0
    rw [Rat.one_mul] at this
    exact Rat.le_trans this l3
  · rcases h.c2 with h2 | h2
    · left; rw [h2, Rat.zero_mul]
    · rcases l1.2.2 with h4 | h4
      · left
        show C * A (cL x) = 0
        rw [h4, Rat.mul_zero]
      · right
        have := mul_ge h2 h4
        rw [show -24 * (i : Int) + -24 = -24 * ((i + 1 : Nat) : Int) by omega] at this
        exact this
  · have h1 := Flt.Near.mul h.pw (Flt.Near.refl Ieee.single hc0 0) (Rat.mul_nonneg (A_nn _) (A_nn _)) hc0
    have h2 := Flt.Near.trans hst h1
    rw [show 7 + (7 * i + 0) = 7 * (i + 1) by omega] at h2
    rw [show A p * A q * (C * cQ x) = A p * A q * C * cQ x by grind]
    exact h2
  · have h1 := Flt.Near.mul h.ef (Flt.Near.refl Ieee.single hc0 0) (A_nn _) hc0
    have h2 := Flt.Near.trans e3 h1
    rw [show 1 + (i + 0) = i + 1 by omega] at h2
    exact h2

def effAt (ps : List T3) (i : Nat) : Nat := (ps.take i).foldl (fun r p => cop .mul r (cop .sub 1065353216 p.2.2)) 1065353216
theorem effAt_all (ps : List T3) : effAt ps ps.length = effC ps := by
  unfold effAt effC
  rw [List.take_length]

/-- Along a drawn train. -/
theorem St.along {ps : List T3} {p q : Nat} (hp : Rg (-2) 3 p) (hq : Rg (-2) 3 q) (hl : ps.length ≤ 4) (hg : ∀ x ∈ ps, PG x) :
    ∀ i, i ≤ ps.length → St i p q ((ps.take i).foldl speedC p) ((ps.take i).foldl torqueC q) (effAt ps i) (prodC (ps.take i)) := by
  intro i
  induction i with
  | zero => intro _; exact St.start hp hq
  | succ i ih =>
    intro hi
    have hlt : i < ps.length := by omega
    have hx : ps[i]? = some ps[i] := List.getElem?_eq_getElem hlt
    have h1 := (ih (by omega)).step (by omega) (hg _ (List.getElem_mem hlt))
    have e1 := foldl_step speedC p ps i _ hx
    have e2 := foldl_step torqueC q ps i _ hx
    have e3 := foldl_step (fun r (p : T3) => cop .mul r (cop .sub 1065353216 p.2.2)) 1065353216 ps i _ hx
    have e4 : prodC (ps.take (i + 1)) = prodC (ps.take i) * cQ ps[i] := by
      rw [List.take_add_one, hx, prodC_app]
      simp [prodC]
    rw [e1, e2, e4]
    unfold effAt
    rw [e3]
    exact h1.1

end Go.Proofs.Ytkgfepakedieaaa

/-! Plain laws: what the great law says of a train's powers. -/
namespace Go.Proofs.Ytkgfepakedieaaa
open Go.RowKit
open Flt (z2_pos z2_add z2_mono)

theorem nr_zero {k : Nat} {a b : Rat} (h : Nr k a b) (hb : b = 0) (ha : 0 ≤ a) : a = 0 := by
  rw [hb] at h
  exact Flt.Near.zero h ha

/-- A power: a word with the speed's and the torque's product. -/
structure Pw (p q s t P : Nat) : Prop where
  f : F P
  sg : S P = (S p ^^ S q)
  nr : Nr 1 (A P) (A s * A t)
  hi : A P ≤ 2 ^ (54 : Int)
  lo : A P = 0 ∨ (2 : Rat) ^ (-102 : Int) ≤ A P

theorem St.power {i : Nat} (hi : i ≤ 4) {p q s t l : Nat} {C : Rat} (hp : Rg (-2) 3 p) (hq : Rg (-2) 3 q) (h : St i p q s t l C) : Pw p q s t (cop .mul s t) := by
  have hu := mul_le h.rs.2.1 h.rt.2.1 (A_nn s)
  have hl : A s * A t = 0 ∨ (2 : Rat) ^ (-101 : Int) ≤ A s * A t := by
    by_cases hz : A p * A q * C = 0
    · left
      exact nr_zero h.pw hz (Rat.mul_nonneg (A_nn _) (A_nn _))
    · right
      have hp0 : (2 : Rat) ^ (-2 : Int) ≤ A p := hp.2.2.resolve_left fun e => hz (by rw [e]; simp)
      have hq0 : (2 : Rat) ^ (-2 : Int) ≤ A q := hq.2.2.resolve_left fun e => hz (by rw [e]; simp)
      have hc0 : (2 : Rat) ^ (-24 * (i : Int)) ≤ C := h.c2.resolve_left fun e => hz (by rw [e]; simp)
      have h1 := mul_ge (mul_ge hp0 hq0) hc0
      have h2 : (2 : Rat) ^ (-100 : Int) ≤ A p * A q * C := Rat.le_trans (z2_mono (by omega)) h1
      have h3 : Nr 28 (A s * A t) (A p * A q * C) := Flt.Near.mono h.pw (by omega) (Rat.mul_nonneg (A_nn _) (A_nn _))
      obtain ⟨_, h4⟩ := Nr_def h3
      have e1 : (1 : Rat) / 2 ≤ (1 - 1 / 16777216) ^ 28 := by decide +kernel
      have e2 : (2 : Rat) ^ (-101 : Int) = 2 ^ (-100 : Int) * (1 / 2) := by decide +kernel
      have h5 := Rat.mul_le_mul_of_nonneg_left e1 (Rat.le_trans (Rat.le_of_lt (z2_pos (-100))) h2)
      have h6 := Rat.mul_le_mul_of_nonneg_right h2 (show (0 : Rat) ≤ 1 / 2 by decide +kernel)
      rw [e2]
      exact Rat.le_trans h6 (Rat.le_trans h5 h4)
  obtain ⟨f1, f2, f3, f4⟩ := mulN h.rs.1 h.rt.1 hu (by omega) (hl.imp_right fun h => Rat.le_trans (z2_mono (by omega)) h)
  refine ⟨f1, by rw [f2, h.sg], f3, Rat.le_trans (fl_pow_le f4 (by omega) hu) (z2_mono (by omega)), ?_⟩
  rcases hl with h' | h'
  · left
    exact nr_zero f3 h' (A_nn _)
  · right
    exact Rat.le_trans (z2_mono (by omega)) (fl_pow_ge f4 (by omega) h')

theorem kappa_F : F 1065353224 ∧ S 1065353224 = false ∧ A 1065353224 = 1 + 8 / 8388608 := ⟨F_const (by decide +kernel), by decide +kernel, A_const (m := 8388616 * 2 ^ 126) (by decide +kernel) (by decide +kernel)⟩
theorem kappa2_F : F 1065353199 ∧ S 1065353199 = false ∧ A 1065353199 = 1 - 17 / 16777216 := ⟨F_const (by decide +kernel), by decide +kernel, A_const (m := 16777199 * 2 ^ 125) (by decide +kernel) (by decide +kernel)⟩

/-- No power is made from an axle to the next. -/
theorem no_gain {i : Nat} (hi : i < 4) {p q s t l : Nat} {C : Rat} (hp : Rg (-2) 3 p) (hq : Rg (-2) 3 q) (h : St i p q s t l C) {x : T3} (hx : PG x) {b : Nat} (hb : F b) (hsb : S b = false) (hAb : A b = A (cop .mul s t)) :
    A (cop .mul (speedC s x) (torqueC t x)) ≤ A (cop .mul b 1065353224) ∧ F (cop .mul b 1065353224) ∧ S (cop .mul b 1065353224) = false := by
  obtain ⟨h', hst⟩ := h.step hi hx
  have P0 := h.power (by omega) hp hq
  have P1 := h'.power (by omega) hp hq
  obtain ⟨k1, k2, k3⟩ := kappa_F
  obtain ⟨_, _, lx⟩ := pg_less hx
  have hc0 : 0 ≤ cQ x := A_nn _
  have hk1 : A 1065353224 ≤ (2 : Rat) ^ (1 : Int) := by rw [k3]; decide +kernel
  have hk0 : (2 : Rat) ^ (0 : Int) ≤ A 1065353224 := by rw [k3]; decide +kernel
  have hu := mul_le (show A b ≤ 2 ^ (54 : Int) by rw [hAb]; exact P0.hi) hk1 (A_nn b)
  have hl : A b * A 1065353224 = 0 ∨ (2 : Rat) ^ (-126 : Int) ≤ A b * A 1065353224 := by
    rw [hAb]
    rcases P0.lo with h1 | h1
    · left; rw [h1, Rat.zero_mul]
    · right; exact Rat.le_trans (z2_mono (by omega)) (mul_ge h1 hk0)
  obtain ⟨f1, f2, f3, _⟩ := mulN hb k1 hu (by omega) hl
  refine ⟨?_, f1, by rw [f2, hsb, k2]; rfl⟩
  -- the chain
  have n1 : Nr 1 (A s * A t * cQ x) (A b * cQ x) := by
    rw [hAb]
    have := Flt.Near.mul P0.nr.symm (Flt.Near.refl Ieee.single hc0 0) (Rat.mul_nonneg (A_nn _) (A_nn _)) hc0
    simpa using this
  have n2 := Nr_def (Flt.Near.trans (Flt.Near.trans P1.nr hst) n1)
  have n3 := Nr_def f3
  rw [k3] at n3
  have hbc : A b * cQ x ≤ A b := by
    have := Rat.mul_le_mul_of_nonneg_left lx (A_nn b)
    rwa [Rat.mul_one] at this
  have e1 : (1 : Rat) ≤ (1 + 8 / 8388608) * (1 - 1 / 16777216) ^ 1 * (1 - 1 / 16777216) ^ (1 + 7 + 1) := by decide +kernel
  have e2 : (0 : Rat) < (1 - 1 / 16777216) ^ (1 + 7 + 1) := by decide +kernel
  apply Rat.le_of_mul_le_mul_right (c := (1 - 1 / 16777216) ^ (1 + 7 + 1)) _ e2
  have h7 := Rat.mul_le_mul_of_nonneg_right n3.2 (Rat.le_of_lt e2)
  have h8 := Rat.mul_le_mul_of_nonneg_left e1 (A_nn b)
  refine Rat.le_trans n2.1 (Rat.le_trans hbc ?_)
  refine Rat.le_trans ?_ h7
  rw [Rat.mul_one] at h8
  refine Rat.le_trans h8 ?_
  rw [show A b * ((1 + 8 / 8388608) * (1 - 1 / 16777216) ^ 1 * (1 - 1 / 16777216) ^ (1 + 7 + 1)) = A b * (1 + 8 / 8388608) * (1 - 1 / 16777216) ^ 1 * (1 - 1 / 16777216) ^ (1 + 7 + 1) by grind]
  exact Rat.le_refl

/-! ### Near -/
theorem ab_sub_V {a b : Nat} (hs : S a = S b) : Flt.ab (V a - V b) = Flt.ab (A a - A b) := by
  cases h : S a
  · rw [V_pos h, V_pos (by rw [← hs]; exact h)]
  · rw [V_neg h, V_neg (by rw [← hs]; exact h)]
    unfold Flt.ab
    split <;> split <;> grind

/-- Two words with one sign that are within k roundings of each other are near. -/
theorem near_of {a b p l k : Nat} (ha : F a) (hb : F b) (hs : S a = S b) (hp : F p) (hl : F l) (hsp : S p = false) (hsl : S l = false)
    (hn : Nr k (A a) (A b)) (ha1 : A a ≤ 2 ^ (100 : Int)) (hb1 : A b ≤ 2 ^ (100 : Int)) (hp1 : A p ≤ 1) (hl1 : A l ≤ 1)
    (hnum : 1 - (1 - 1 / 16777216) ^ k ≤ A p * ((1 - 1 / 16777216) ^ 1 * (1 - 1 / 16777216) ^ 1 * (1 - 1 / 16777216) ^ 1))
    (hlow : ∀ m, (m = A a ∨ m = A b) → m * A p = 0 ∨ (2 : Rat) ^ (-126 : Int) ≤ m * A p) :
    F (cop .sub a b) ∧ nearB a b p l = true := by
  have h100 : (2 : Rat) ^ (100 : Int) + 2 ^ (100 : Int) < 2 ^ (126 : Int) := by decide +kernel
  have hab : Flt.ab (A a - A b) ≤ 2 ^ (100 : Int) := by
    have := A_nn a
    have := A_nn b
    unfold Flt.ab
    split <;> grind
  obtain ⟨f1, g1, g2, g3⟩ := subF ha hb (by rw [ab_sub_V hs]; have := z2_pos 100; grind)
  refine ⟨f1, ?_⟩
  obtain ⟨z1, z2, z3⟩ := szN_F f1
  obtain ⟨y1, y2, y3⟩ := szN_F ha
  obtain ⟨x1, x2, x3⟩ := szN_F hb
  -- the greater size
  obtain ⟨m, hm, hmF, hmS, hmA, hmB, hmm⟩ : ∃ m, mostN a b = m ∧ F m ∧ V m = A m ∧ A a ≤ A m ∧ A b ≤ A m ∧ (A m = A a ∨ A m = A b) := by
    unfold mostN
    rw [ltF y1 x1, y3, x3]
    by_cases h : A a < A b
    · rw [decide_eq_true h]
      exact ⟨_, rfl, x1, by show V (szN b) = A (szN b); rw [x3, x2], by show A a ≤ A (szN b); rw [x2]; exact Rat.le_of_lt h, by show A b ≤ A (szN b); rw [x2]; exact Rat.le_refl, .inr x2⟩
    · rw [decide_eq_false h]
      exact ⟨_, rfl, y1, by show V (szN a) = A (szN a); rw [y3, y2], by show A a ≤ A (szN a); rw [y2]; exact Rat.le_refl, by show A b ≤ A (szN a); rw [y2]; exact Rat.not_lt.1 h, .inl y2⟩
  have hm1 : A m ≤ 2 ^ (100 : Int) := by rcases hmm with e | e <;> rw [e] <;> assumption
  have hmp : A m * A p ≤ 2 ^ (100 : Int) := by
    have := Rat.mul_le_mul_of_nonneg_left hp1 (A_nn m)
    rw [Rat.mul_one] at this
    exact Rat.le_trans this hm1
  obtain ⟨q1, q2, q3, q4⟩ := mulN hmF hp hmp (by omega) (hlow _ hmm)
  have hq100 : A (cop .mul m p) ≤ 2 ^ (100 : Int) := fl_pow_le q4 (by omega) hmp
  have hVq : V (cop .mul m p) = A (cop .mul m p) := by
    rcases Rat.le_iff_lt_or_eq.1 (A_nn (cop .mul m p)) with h0 | h0
    · cases hsm : S m
      · exact V_pos (by rw [q2, hsm, hsp]; rfl)
      · have hv := V_neg hsm
        rw [hmS] at hv
        have hz : A m = 0 := by have := A_nn m; grind
        have := nr_zero q3 (by rw [hz, Rat.zero_mul]) (A_nn _)
        rw [this] at h0
        exact absurd h0 Rat.lt_irrefl
    · cases hsm : S (cop .mul m p)
      · exact V_pos hsm
      · rw [V_neg hsm, ← h0]; rfl
  have hVl := V_pos hsl
  have hsum0 : 0 ≤ V (cop .mul m p) + V l := by rw [hVq, hVl]; exact Rat.add_nonneg (A_nn _) (A_nn _)
  obtain ⟨r1, r2, r3, r4⟩ := addF q1 hl (by
    rw [Flt.ab_of_nonneg hsum0, hVq, hVl]
    have : (1 : Rat) ≤ 2 ^ (100 : Int) := by decide +kernel
    grind)
  rw [Flt.ab_of_nonneg hsum0, hVq, hVl] at r3
  have hVr : A (cop .add (cop .mul m p) l) ≤ V (cop .add (cop .mul m p) l) := by
    have h2 := (is_F r2).2
    by_cases h0 : V (cop .mul m p) + V l = 0
    · rw [hVq, hVl] at h0
      rw [h0] at r3
      have h5 : A (cop .add (cop .mul m p) l) = 0 := Flt.Near.zero r3 (A_nn _)
      rw [h5]
      cases hh : S (cop .add (cop .mul m p) l)
      · rw [V_pos hh, h5]; exact Rat.le_refl
      · rw [V_neg hh, h5]; decide
    · rw [if_neg h0, decide_eq_false (by grind)] at h2
      rw [V_pos h2]
      exact Rat.le_refl
  rw [ab_sub_V hs] at g2
  unfold nearB
  rw [hm, leF z1 r1, z3]
  apply decide_eq_true
  refine Rat.le_trans ?_ hVr
  -- the sums
  obtain ⟨n1, n2⟩ := Nr_def hn
  obtain ⟨d1, _⟩ := Nr_def g2
  obtain ⟨_, q5⟩ := Nr_def q3
  obtain ⟨_, r5⟩ := Nr_def r3
  have e1 : (0 : Rat) < (1 - 1 / 16777216) ^ 1 := by decide +kernel
  have hk1 : (1 - 1 / 16777216 : Rat) ^ k ≤ 1 := by rw [← rr_pow]; exact Flt.rok_le_one _ k
  have hdiff : Flt.ab (A a - A b) ≤ A m * (1 - (1 - 1 / 16777216) ^ k) := by
    have hk0 : (0 : Rat) ≤ 1 - (1 - 1 / 16777216) ^ k := by grind
    have ha2 := Rat.mul_le_mul_of_nonneg_right hmA hk0
    have hb2 := Rat.mul_le_mul_of_nonneg_right hmB hk0
    unfold Flt.ab
    split <;> grind
  apply Rat.le_of_mul_le_mul_right (c := (1 - 1 / 16777216) ^ 1) _ e1
  refine Rat.le_trans d1 (Rat.le_trans hdiff ?_)
  have h5 := Rat.mul_le_mul_of_nonneg_left hnum (A_nn m)
  refine Rat.le_trans h5 ?_
  have h6 : A m * A p * (1 - 1 / 16777216) ^ 1 ≤ A (cop .mul m p) + A l := by have := A_nn l; grind
  have h7 := Rat.mul_le_mul_of_nonneg_right h6 (Rat.le_of_lt e1)
  have h8 := Rat.le_trans h7 r5
  have h9 := Rat.mul_le_mul_of_nonneg_right h8 (Rat.le_of_lt e1)
  refine Rat.le_trans ?_ h9
  rw [show A m * (A p * ((1 - 1 / 16777216) ^ 1 * (1 - 1 / 16777216) ^ 1 * (1 - 1 / 16777216) ^ 1)) = A m * A p * (1 - 1 / 16777216) ^ 1 * (1 - 1 / 16777216) ^ 1 * (1 - 1 / 16777216) ^ 1 by grind]
  exact Rat.le_refl

end Go.Proofs.Ytkgfepakedieaaa

/-! Plain laws: the great law's own comparisons along a train. -/
namespace Go.Proofs.Ytkgfepakedieaaa
open Go.RowKit
open Flt (z2_pos z2_add z2_mono)

theorem few_all : ((List.range 65).all fun n => Flt.fin Ieee.single (fewC (n : Int)) && decide (fewC (n : Int) < 2 ^ 32) && plainB (fewC (n : Int)) && (decide (Flt.rung Ieee.single (fewC (n : Int)) = 0) || (decide (1048576000 ≤ Flt.rung Ieee.single (fewC (n : Int))) && decide (Flt.rung Ieee.single (fewC (n : Int)) ≤ 1090519040)))) = true := by decide +kernel
theorem fewR {x : Int} (h0 : 0 ≤ x) (h1 : x < 65) : Rg (-2) 3 (fewC x) ∧ plainB (fewC x) = true := by
  obtain ⟨m, rfl⟩ : ∃ m : Nat, x = (m : Int) := ⟨x.toNat, by omega⟩
  have h := List.all_eq_true.1 few_all m (List.mem_range.2 (by omega))
  simp only [Bool.and_eq_true, decide_eq_true_eq, Bool.or_eq_true] at h
  obtain ⟨⟨⟨h2, h3⟩, h4⟩, h5⟩ := h
  have e1 : A 1048576000 = 1 / 4 := A_const (m := 2 ^ 147) (by decide +kernel) (by decide +kernel)
  have e2 : A 1090519040 = 8 := A_const (m := 2 ^ 152) (by decide +kernel) (by decide +kernel)
  have r1 : Flt.rung Ieee.single 1048576000 = 1048576000 := by decide +kernel
  have r2 : Flt.rung Ieee.single 1090519040 = 1090519040 := by decide +kernel
  have z1 : (2 : Rat) ^ (-2 : Int) = 1 / 4 := by decide +kernel
  have z2 : (2 : Rat) ^ (3 : Int) = 8 := by decide +kernel
  refine ⟨⟨⟨h2, h3⟩, ?_, ?_⟩, h4⟩
  · rcases h5 with h5 | h5
    · have := A_mono (x := fewC (m : Int)) (y := 1090519040) (by rw [r2, h5]; omega)
      rw [z2, ← e2]; exact this
    · have := A_mono (x := fewC (m : Int)) (y := 1090519040) (by rw [r2]; exact h5.2)
      rw [z2, ← e2]; exact this
  · rcases h5 with h5 | h5
    · left
      have h6 := A_mono (x := fewC (m : Int)) (y := 0) (by rw [h5]; exact Nat.zero_le _)
      rw [zero_F.2.2] at h6
      exact Rat.le_antisymm h6 (A_nn _)
    · right
      have := A_mono (x := 1048576000) (y := fewC (m : Int)) (by rw [r1]; exact h5.1)
      rw [z1, ← e1]; exact this

theorem Rg_zero (a b : Int) : Rg a b 0 := ⟨zero_F.1, by rw [zero_F.2.2]; exact Rat.le_of_lt (z2_pos b), .inl zero_F.2.2⟩

section
variable {ps : List T3} {p q : Nat}

theorem end_near (hp : Rg (-2) 3 p) (hq : Rg (-2) 3 q) (hl : ps.length ≤ 4) (hg : ∀ x ∈ ps, PG x) :
    F (cop .sub (powAt p q ps ps.length) (cop .mul (powAt p q ps 0) (effC ps))) ∧ nearB (powAt p q ps ps.length) (cop .mul (powAt p q ps 0) (effC ps)) 925353388 897988541 = true ∧ F (cop .mul (powAt p q ps 0) (effC ps)) := by
  have h0 := St.along hp hq hl hg 0 (Nat.zero_le _)
  have hn := St.along hp hq hl hg ps.length (Nat.le_refl _)
  rw [effAt_all] at hn
  have e0 : powAt p q ps 0 = cop .mul p q := by
    unfold powAt
    rw [F_cn hp.1, F_cn hq.1]
    rfl
  have en : powAt p q ps ps.length = cop .mul ((ps.take ps.length).foldl speedC p) ((ps.take ps.length).foldl torqueC q) := by
    unfold powAt
    rw [F_cn hp.1, F_cn hq.1]
  obtain ⟨a1, a2, a3⟩ := mulR hp hq (by omega) (by omega) (by omega)
  have Pn := hn.power hl hp hq
  rw [← en] at Pn
  rw [← e0] at a1 a2 a3
  have hlr : Rg (-96) 0 (effC ps) := by
    refine ⟨hn.rl.1, hn.rl.2.1, hn.rl.2.2.imp_right fun h => Rat.le_trans (z2_mono (by omega)) h⟩
  obtain ⟨b1, b2, b3⟩ := mulR a1 hlr (by omega) (by omega) (by omega)
  have k1 : F 925353388 ∧ S 925353388 = false ∧ A 925353388 = 10995116 / 1099511627776 := ⟨F_const (by decide +kernel), by decide +kernel, A_const (m := 10995116 * 2 ^ 109) (by decide +kernel) (by decide +kernel)⟩
  have k2 : F 897988541 ∧ S 897988541 = false ∧ A 897988541 = 8796093 / 8796093022208 := ⟨F_const (by decide +kernel), by decide +kernel, A_const (m := 8796093 * 2 ^ 106) (by decide +kernel) (by decide +kernel)⟩
  -- within thirty-five roundings
  have n1 : Nr (1 + 7 * ps.length) (A (powAt p q ps ps.length)) (A p * A q * prodC (ps.take ps.length)) := Flt.Near.trans Pn.nr hn.pw
  have n2 : Nr (1 + ps.length) (A (powAt p q ps 0) * A (effC ps)) (A p * A q * prodC (ps.take ps.length)) := Flt.Near.mul a3 hn.ef (A_nn _) (A_nn _)
  have n3 := Flt.Near.trans (Flt.Near.trans n1 n2.symm) b3.symm
  have n4 : Nr 35 (A (powAt p q ps ps.length)) (A (cop .mul (powAt p q ps 0) (effC ps))) := Flt.Near.mono n3 (by omega) (A_nn _)
  have hS : S (powAt p q ps ps.length) = S (cop .mul (powAt p q ps 0) (effC ps)) := by
    rw [Pn.sg, b2, a2, hn.sl]
    cases S p <;> cases S q <;> rfl
  have hk0 : (2 : Rat) ^ (-17 : Int) ≤ A 925353388 := by rw [k1.2.2]; decide +kernel
  obtain ⟨r1, r2⟩ := near_of (k := 35) Pn.f b1.1 hS k1.1 k2.1 k1.2.1 k2.2.1 n4 (Rat.le_trans Pn.hi (z2_mono (by omega))) (Rat.le_trans b1.2.1 (z2_mono (by omega))) (by rw [k1.2.2]; decide +kernel) (by rw [k2.2.2]; decide +kernel) (by rw [k1.2.2]; decide +kernel) (by
    intro m hm
    have hm2 : m = 0 ∨ (2 : Rat) ^ (-102 : Int) ≤ m := by
      rcases hm with rfl | rfl
      · exact Pn.lo
      · exact b1.2.2.imp_right fun h => Rat.le_trans (z2_mono (by omega)) h
    rcases hm2 with h | h
    · left; rw [h, Rat.zero_mul]
    · right
      exact Rat.le_trans (z2_mono (by omega)) (mul_ge h hk0))
  exact ⟨r1, r2, b1.1⟩

theorem ends_sub (hp : Rg (-2) 3 p) (hq : Rg (-2) 3 q) (hl : ps.length ≤ 4) (hg : ∀ x ∈ ps, PG x) : F (cop .sub (powAt p q ps 0) (powAt p q ps ps.length)) := by
  have key : ∀ i, i ≤ ps.length → F (powAt p q ps i) ∧ A (powAt p q ps i) ≤ 2 ^ (54 : Int) := fun i hi => by
    have h := St.along hp hq hl hg i hi
    have P := h.power (by omega) hp hq
    have e : powAt p q ps i = cop .mul ((ps.take i).foldl speedC p) ((ps.take i).foldl torqueC q) := by
      unfold powAt
      rw [F_cn hp.1, F_cn hq.1]
    rw [e]
    exact ⟨P.f, P.hi⟩
  obtain ⟨f0, a0⟩ := key 0 (Nat.zero_le _)
  obtain ⟨f1, a1⟩ := key _ (Nat.le_refl _)
  refine (subF f0 f1 ?_).1
  have e2 : (2 : Rat) ^ (54 : Int) + 2 ^ (54 : Int) < 2 ^ (126 : Int) := by decide +kernel
  have n0 := A_nn (powAt p q ps 0)
  have n1 := A_nn (powAt p q ps ps.length)
  have hv0 : V (powAt p q ps 0) = A (powAt p q ps 0) ∨ V (powAt p q ps 0) = -A (powAt p q ps 0) := by
    cases h : S (powAt p q ps 0)
    · exact .inl (V_pos h)
    · exact .inr (V_neg h)
  have hv1 : V (powAt p q ps ps.length) = A (powAt p q ps ps.length) ∨ V (powAt p q ps ps.length) = -A (powAt p q ps ps.length) := by
    cases h : S (powAt p q ps ps.length)
    · exact .inl (V_pos h)
    · exact .inr (V_neg h)
  unfold Flt.ab
  rcases hv0 with h0 | h0 <;> rcases hv1 with h1 | h1 <;> rw [h0, h1] <;> split <;> grind

theorem some_of_F {op : BinOp} {x y : Nat} (h : F (cop op x y)) : floatBits op .f32 x y = some (cop op x y) := by
  cases hb : floatBits op .f32 x y with
  | some z => simp [cop, hb]
  | none =>
    exfalso
    have e : cop op x y = nan0 := by simp [cop, hb]
    rw [e] at h
    have := fin_isNan h.1
    rw [nan0_isNan] at this
    cases this
theorem fval_F {op : BinOp} {x y : Nat} (h : F (cop op x y)) (w : World) : fval op .f32 x y w = cop op x y := by simp [fval, some_of_F h]
theorem fdn_F {op : BinOp} {x y : Nat} (h : F (cop op x y)) : fdn op .f32 x y = 0 := by simp [fdn, some_of_F h]

theorem eff_range (hl : ps.length ≤ 4) (hg : ∀ x ∈ ps, PG x) : F (effC ps) ∧ fle .f32 0 (effC ps) = true ∧ flt .f32 1065353216 (effC ps) = false := by
  have hn := St.along (Rg_zero (-2) 3) (Rg_zero (-2) 3) hl hg ps.length (Nat.le_refl _)
  rw [effAt_all] at hn
  obtain ⟨o1, o2, o3⟩ := one_F
  refine ⟨hn.rl.1, ?_, ?_⟩
  · rw [leF zero_F.1 hn.rl.1, V_zero, V_pos hn.sl]
    exact decide_eq_true (A_nn _)
  · rw [ltF o1 hn.rl.1, V_pos o2, o3, V_pos hn.sl]
    have := hn.rl.2.1
    rw [Rat.zpow_zero] at this
    exact decide_eq_false (Rat.not_lt.2 this)

theorem prodC_nn (h : ∀ x ∈ ps, PG x) : 0 ≤ prodC ps := by
  induction ps with
  | nil => decide
  | cons x ps ih => exact Rat.mul_nonneg (A_nn _) (ih fun y hy => h y (List.mem_cons_of_mem _ hy))
theorem prodC_set {x : T3} (hx : cQ x = 1) : ∀ (ps : List T3) (j : Nat), (∀ y ∈ ps, PG y) → prodC ps ≤ prodC (ps.set j x)
  | [], j, _ => by simp
  | y :: ps, 0, h => by
    show cQ y * prodC ps ≤ cQ x * prodC ps
    rw [hx]
    exact Rat.mul_le_mul_of_nonneg_right (pg_less (h y (List.mem_cons_self ..))).2.2 (prodC_nn fun z hz => h z (List.mem_cons_of_mem _ hz))
  | y :: ps, j + 1, h => by
    show cQ y * prodC ps ≤ cQ y * prodC (ps.set j x)
    exact Rat.mul_le_mul_of_nonneg_left (prodC_set hx ps j fun z hz => h z (List.mem_cons_of_mem _ hz)) (A_nn _)

theorem setL_pg (hg : ∀ x ∈ ps, PG x) {j : Nat} (hj : j < ps.length) : ∀ x ∈ setL ps j 0, PG x := by
  intro x hx
  unfold setL at hx
  rcases List.mem_or_eq_of_mem_set hx with h | h
  · exact hg x h
  · subst h
    have hp := hg _ (List.getElem_mem hj)
    obtain ⟨⟨a0, a1⟩, ⟨b0, b1⟩, _⟩ := pg_teeth hp
    have e : ps.getD j (0, 0, 0) = ps[j] := by simp [List.getD_eq_getElem?_getD, List.getElem?_eq_getElem hj]
    rw [e]
    exact ⟨pair_ok a0 a1 b0 b1 (by decide +kernel), zero_F.1⟩

theorem better (hl : ps.length ≤ 4) (hg : ∀ x ∈ ps, PG x) {j : Nat} (hj : j < ps.length) :
    flt .f32 (effC (setL ps j 0)) (cop .mul (effC ps) 1065353199) = false := by
  have hlen : (setL ps j 0).length = ps.length := by simp [setL]
  have hn := St.along (Rg_zero (-2) 3) (Rg_zero (-2) 3) hl hg ps.length (Nat.le_refl _)
  have hm := St.along (Rg_zero (-2) 3) (Rg_zero (-2) 3) (by rw [hlen]; exact hl) (setL_pg hg hj) (setL ps j 0).length (Nat.le_refl _)
  rw [effAt_all, List.take_length] at hn hm
  rw [hlen] at hm
  obtain ⟨k1, k2, k3⟩ := kappa2_F
  have hC : prodC ps ≤ prodC (setL ps j 0) := prodC_set (by
    show A (cop .sub 1065353216 0) = 1
    rw [show cop .sub 1065353216 0 = 1065353216 by decide +kernel]
    exact one_F.2.2) ps j hg
  have hk : Rg (-1) 0 1065353199 := ⟨k1, by rw [k3]; decide +kernel, .inr (by rw [k3]; decide +kernel)⟩
  have hlr : Rg (-96) 0 (effC ps) := ⟨hn.rl.1, hn.rl.2.1, hn.rl.2.2.imp_right fun h => Rat.le_trans (z2_mono (by omega)) h⟩
  obtain ⟨b1, b2, b3⟩ := mulR hlr hk (by omega) (by omega) (by omega)
  rw [ltF hm.rl.1 b1.1, V_pos hm.sl, V_pos (by rw [b2, hn.sl, k2]; rfl)]
  apply decide_eq_false
  apply Rat.not_lt.2
  -- the chain
  have n1 : Nr 4 (A (effC ps)) (prodC ps) := Flt.Near.mono hn.ef hl (A_nn _)
  have n2 : Nr 4 (A (effC (setL ps j 0))) (prodC (setL ps j 0)) := Flt.Near.mono hm.ef hl (A_nn _)
  obtain ⟨c1, _⟩ := Nr_def n1
  obtain ⟨_, c2⟩ := Nr_def n2
  obtain ⟨c3, _⟩ := Nr_def b3
  rw [k3] at c3
  have e4 : (0 : Rat) < (1 - 1 / 16777216) ^ 4 := by decide +kernel
  have e1 : (0 : Rat) < (1 - 1 / 16777216) ^ 1 := by decide +kernel
  have e5 : (1 - 17 / 16777216 : Rat) ≤ (1 - 1 / 16777216) ^ 4 * (1 - 1 / 16777216) ^ 4 * (1 - 1 / 16777216) ^ 1 := by decide +kernel
  apply Rat.le_of_mul_le_mul_right (c := (1 - 1 / 16777216) ^ 1) _ e1
  refine Rat.le_trans c3 ?_
  refine Rat.le_trans (Rat.mul_le_mul_of_nonneg_left e5 (A_nn _)) ?_
  have h1 := Rat.mul_le_mul_of_nonneg_right (Rat.le_trans c1 hC) (Rat.le_of_lt e4)
  have h2 := Rat.mul_le_mul_of_nonneg_right (Rat.le_trans h1 c2) (Rat.le_of_lt e1)
  refine Rat.le_trans ?_ h2
  rw [show A (effC ps) * ((1 - 1 / 16777216) ^ 4 * (1 - 1 / 16777216) ^ 4 * (1 - 1 / 16777216) ^ 1) = A (effC ps) * (1 - 1 / 16777216) ^ 4 * (1 - 1 / 16777216) ^ 4 * (1 - 1 / 16777216) ^ 1 by grind]
  exact Rat.le_refl

/-- The size of a word, as max makes it. -/
def fab (x : Nat) : Nat := if S x then fneg x else x
theorem fab_F {x : Nat} (h : F x) : F (fab x) ∧ S (fab x) = false ∧ A (fab x) = A x := by
  obtain ⟨h1, h2, h3⟩ := F_fneg h
  unfold fab
  cases hs : S x
  · exact ⟨h, hs, rfl⟩
  · rw [hs] at h3
    exact ⟨h1, h3, h2⟩

/-- The comparisons at an axle. -/
theorem axle (hp : Rg (-2) 3 p) (hq : Rg (-2) 3 q) (hl : ps.length ≤ 4) (hg : ∀ x ∈ ps, PG x) {i : Nat} (hi : i ≤ ps.length) :
    F (powAt p q ps i) ∧ S (powAt p q ps i) = (S p ^^ S q) := by
  have h := St.along hp hq hl hg i hi
  have P := h.power (by omega) hp hq
  have e : powAt p q ps i = cop .mul ((ps.take i).foldl speedC p) ((ps.take i).foldl torqueC q) := by
    unfold powAt
    rw [F_cn hp.1, F_cn hq.1]
  rw [e]
  exact ⟨P.f, P.sg⟩
theorem axle_gain (hp : Rg (-2) 3 p) (hq : Rg (-2) 3 q) (hl : ps.length ≤ 4) (hg : ∀ x ∈ ps, PG x) {i : Nat} (hi : i < ps.length) :
    F (cop .mul (fab (powAt p q ps i)) 1065353224) ∧ flt .f32 (cop .mul (fab (powAt p q ps i)) 1065353224) (fab (powAt p q ps (i + 1))) = false := by
  have h := St.along hp hq hl hg i (by omega)
  have hx : ps[i]? = some ps[i] := List.getElem?_eq_getElem hi
  have hF := axle hp hq hl hg (i := i) (by omega)
  have hF1 := axle hp hq hl hg (i := i + 1) (by omega)
  obtain ⟨f1, f2, f3⟩ := fab_F hF.1
  obtain ⟨g1, g2, g3⟩ := fab_F hF1.1
  have e : powAt p q ps i = cop .mul ((ps.take i).foldl speedC p) ((ps.take i).foldl torqueC q) := by
    unfold powAt
    rw [F_cn hp.1, F_cn hq.1]
  have e1 : powAt p q ps (i + 1) = cop .mul (speedC ((ps.take i).foldl speedC p) ps[i]) (torqueC ((ps.take i).foldl torqueC q) ps[i]) := by
    unfold powAt
    rw [F_cn hp.1, F_cn hq.1, foldl_step speedC p ps i _ hx, foldl_step torqueC q ps i _ hx]
  obtain ⟨n1, n2, n3⟩ := no_gain (by omega) hp hq h (hg _ (List.getElem_mem hi)) f1 f2 (by rw [f3, e])
  refine ⟨n2, ?_⟩
  rw [ltF n2 g1, V_pos n3, V_pos g2, g3, e1]
  exact decide_eq_false (Rat.not_lt.2 n1)
end

end Go.Proofs.Ytkgfepakedieaaa

/-! Plain laws: the worst pair, the turns until teeth meet, the module, the greater of a number and its opposite. -/
namespace Go.Proofs.Ytkgfepakedieaaa
open Go.RowKit

/-- Among the first ones: no loss is greater than the worst's, none ahead of it as great. -/
theorem worst_max {ps : List T3} (hF : ∀ i, i < ps.length → F (lossAt ps i)) : ∀ j, 0 < j → j ≤ ps.length → (∀ i, i < j → V (lossAt ps i) ≤ V (lossAt ps (worst ps j))) ∧ ∀ i, i < worst ps j → V (lossAt ps i) < V (lossAt ps (worst ps j))
  | 0, h, _ => by omega
  | 1, _, h1 => by
    have e : worst ps 1 = 0 := by have := worst_lt ps 1 (by omega); omega
    rw [e]
    exact ⟨fun i hi => by obtain rfl : i = 0 := by omega
                          exact Rat.le_refl, fun i hi => by omega⟩
  | j + 2, _, h1 => by
    obtain ⟨a, b⟩ := worst_max hF (j + 1) (by omega) (by omega)
    have hw := worst_lt ps (j + 1) (by omega)
    have e : worst ps (j + 2) = if flt .f32 (lossAt ps (worst ps (j + 1))) (lossAt ps (j + 1)) then j + 1 else worst ps (j + 1) := rfl
    rw [e, ltF (hF _ (by omega)) (hF _ (by omega))]
    by_cases h : V (lossAt ps (worst ps (j + 1))) < V (lossAt ps (j + 1))
    · rw [decide_eq_true h, if_pos rfl]
      refine ⟨fun i hi => ?_, fun i hi => ?_⟩
      · rcases Nat.lt_or_ge i (j + 1) with h2 | h2
        · exact Rat.le_trans (a i h2) (Rat.le_of_lt h)
        · obtain rfl : i = j + 1 := by omega
          exact Rat.le_refl
      · have := a i (by omega)
        grind
    · rw [decide_eq_false h, if_neg (by decide)]
      refine ⟨fun i hi => ?_, b⟩
      rcases Nat.lt_or_ge i (j + 1) with h2 | h2
      · exact a i h2
      · obtain rfl : i = j + 1 := by omega
        exact Rat.not_lt.1 h

theorem worst_most {ps : List T3} (hg : ∀ x ∈ ps, PG x) (h0 : 0 < ps.length) {i : Nat} (hi : i < ps.length) :
    flt .f32 (lossAt ps (worst ps ps.length)) (lossAt ps i) = false ∧ (i < worst ps ps.length → fle .f32 (lossAt ps (worst ps ps.length)) (lossAt ps i) = false) := by
  have hF : ∀ i, i < ps.length → F (lossAt ps i) := fun i hi => by
    rw [lossAt_eq (List.getElem?_eq_getElem hi)]
    exact (hg _ (List.getElem_mem hi)).2
  have hw := worst_lt ps ps.length h0
  obtain ⟨a, b⟩ := worst_max hF ps.length h0 (Nat.le_refl _)
  refine ⟨?_, fun h => ?_⟩
  · rw [ltF (hF _ hw) (hF _ hi)]
    exact decide_eq_false (Rat.not_lt.2 (a i hi))
  · rw [leF (hF _ hw) (hF _ hi)]
    exact decide_eq_false (Rat.not_le.2 (b i h))

/-- The turns until the same teeth meet: the least. -/
theorem meet_least {a b : Nat} (ha : 0 < a) (hb : 0 < b) : 1 ≤ b / Nat.gcd a b ∧ b / Nat.gcd a b ≤ b ∧ (b / Nat.gcd a b * a) % b = 0 ∧ ∀ k, 1 ≤ k → k < b / Nat.gcd a b → (k * a) % b ≠ 0 := by
  have hg : 0 < Nat.gcd a b := Nat.gcd_pos_of_pos_left b ha
  have hgb := Nat.gcd_dvd_right a b
  have hga := Nat.gcd_dvd_left a b
  have h1 : 0 < b / Nat.gcd a b := Nat.div_pos (Nat.le_of_dvd hb hgb) hg
  refine ⟨h1, Nat.div_le_self _ _, ?_, fun k hk0 hk1 h => ?_⟩
  · apply Nat.mod_eq_zero_of_dvd
    obtain ⟨c, hc⟩ := hga
    refine ⟨c, ?_⟩
    have e : b / Nat.gcd a b * Nat.gcd a b = b := Nat.div_mul_cancel hgb
    calc b / Nat.gcd a b * a = b / Nat.gcd a b * (Nat.gcd a b * c) := by rw [← hc]
      _ = b / Nat.gcd a b * Nat.gcd a b * c := by rw [Nat.mul_assoc]
      _ = b * c := by rw [e]
  · have hd : b ∣ k * a := Nat.dvd_of_mod_eq_zero h
    have hcop : Nat.Coprime (b / Nat.gcd a b) (a / Nat.gcd a b) := (Nat.coprime_div_gcd_div_gcd hg).symm
    have h2 : b / Nat.gcd a b ∣ k * (a / Nat.gcd a b) := by
      obtain ⟨c, hc⟩ := hd
      refine ⟨c, ?_⟩
      apply Nat.eq_of_mul_eq_mul_right hg
      have e1 : a / Nat.gcd a b * Nat.gcd a b = a := Nat.div_mul_cancel hga
      have e2 : b / Nat.gcd a b * Nat.gcd a b = b := Nat.div_mul_cancel hgb
      calc k * (a / Nat.gcd a b) * Nat.gcd a b = k * (a / Nat.gcd a b * Nat.gcd a b) := by rw [Nat.mul_assoc]
        _ = b * c := by rw [e1, hc]
        _ = b / Nat.gcd a b * Nat.gcd a b * c := by rw [e2]
        _ = b / Nat.gcd a b * c * Nat.gcd a b := by rw [Nat.mul_assoc, Nat.mul_comm (Nat.gcd a b) c, ← Nat.mul_assoc]
    have h3 : b / Nat.gcd a b ∣ k := hcop.dvd_of_dvd_mul_right h2
    have := Nat.le_of_dvd (by omega) h3
    omega

/-- The module. -/
def modC (x : Int) : Nat := cop .quo (floatOfInt .f32 (1 + x)) 1082130432
theorem mod_all : ((List.range 64).all fun n => Flt.fin Ieee.single (modC (n : Int)) && decide (modC (n : Int) < 2 ^ 32) && moduleB (modC (n : Int))) = true := by decide +kernel
theorem mod_ok {x : Int} (h0 : 0 ≤ x) (h1 : x < 64) : F (modC x) ∧ moduleB (modC x) = true := by
  obtain ⟨m, rfl⟩ : ∃ m : Nat, x = (m : Int) := ⟨x.toNat, by omega⟩
  have h := List.all_eq_true.1 mod_all m (List.mem_range.2 (by omega))
  simp only [Bool.and_eq_true, decide_eq_true_eq] at h
  exact ⟨⟨h.1.1, h.1.2⟩, h.2⟩

/-- The greater of a finite number and its opposite. -/
theorem run_max_abs {P : Program} (w : World) (ts : Array TypeId) (t : TypeId) {x : Nat} (h : F x) : (Builtin.max_ ts t #[.float .f32 x, .float .f32 (fneg x)]).run P w = .ok (.float .f32 (fab x)) w := by
  obtain ⟨f1, f2, f3⟩ := F_fneg h
  have hV := V_fneg h
  have hlt := ltF h f1
  have heq := eqF h f1
  have hA := A_nn x
  have hd : (FloatKind.f32.decode x).neg = S x := by
    obtain ⟨m, i, e, _⟩ := Flt.read_fin Ieee.single h.1
    show (Ieee.single.read x).neg = _
    rw [e]
    rfl
  have hor : ∃ o, FloatKind.f32.format.order x (fneg x) = some o := ⟨_, Flt.order_fin Ieee.single h.1 f1.1⟩
  obtain ⟨o, ho⟩ := hor
  unfold flt at hlt
  unfold feq at heq
  rw [ho] at hlt heq
  rw [hV] at hlt heq
  unfold fab
  cases hs : S x
  · have hv := V_pos hs
    have h1 : ¬ V x < -V x := by rw [hv]; grind
    rw [decide_eq_false h1] at hlt
    cases o
    · simp at hlt
    · simp [Builtin.max_, Builtin.max2, ho, hd, hs]
    · simp [Builtin.max_, Builtin.max2, ho]
  · have hv := V_neg hs
    cases o
    · simp [Builtin.max_, Builtin.max2, ho]
    · simp [Builtin.max_, Builtin.max2, ho, hd, hs]
    · exfalso
      have h1 : ¬ V x < -V x := fun hc => by rw [decide_eq_true hc] at hlt; simp at hlt
      have h2 : ¬ V x = -V x := fun hc => by rw [decide_eq_true hc] at heq; simp at heq
      rw [hv] at h1 h2
      grind

end Go.Proofs.Ytkgfepakedieaaa

/-! Plain laws for the great law's walk: the train's numbers, its cells, the radii. -/
namespace Go.Proofs.Ytkgfepakedieaaa
open Go.RowKit
open Flt (z2_pos z2_add z2_mono)

theorem rad_F {n : Int} {m : Nat} (h0 : 6 ≤ n) (h1 : n ≤ 200) (hm : F m) (hM : moduleB m = true) : F (radC n m) := by
  obtain ⟨f1, s1, e1⟩ := teethF (n := n) (by omega) h1
  have k1 : F 1115684864 ∧ S 1115684864 = false ∧ A 1115684864 = 64 := ⟨F_const (by decide +kernel), by decide +kernel, A_const (m := 2 ^ 155) (by decide +kernel) (by decide +kernel)⟩
  have k0 : F 1031798784 ∧ S 1031798784 = false ∧ A 1031798784 = 1 / 16 := ⟨F_const (by decide +kernel), by decide +kernel, A_const (m := 2 ^ 145) (by decide +kernel) (by decide +kernel)⟩
  have k2 : F 1073741824 ∧ S 1073741824 = false ∧ A 1073741824 = 2 := ⟨F_const (by decide +kernel), by decide +kernel, A_const (m := 2 ^ 150) (by decide +kernel) (by decide +kernel)⟩
  unfold moduleB betB at hM
  rw [leF k0.1 hm, leF hm k1.1, V_pos k0.2.1, V_pos k1.2.1, k0.2.2, k1.2.2] at hM
  simp only [Bool.and_eq_true, decide_eq_true_eq] at hM
  have hA : A m ≤ 64 := by
    have hn := A_nn m
    cases hs : S m
    · rw [V_pos hs] at hM; exact hM.2
    · rw [V_neg hs] at hM; grind
  have hn := A_nn m
  have hx : (n : Rat) ≤ 200 := Rat.intCast_le_intCast.2 h1
  have hx0 : (0 : Rat) ≤ (n : Rat) := by
    have h := Rat.intCast_le_intCast.2 (show (0 : Int) ≤ n by omega)
    simpa using h
  have hp : A (floatOfInt .f32 n) * A m ≤ 2 ^ (14 : Int) := by
    rw [e1]
    have h2 := Rat.mul_le_mul_of_nonneg_left hA hx0
    have e14 : (2 : Rat) ^ (14 : Int) = 16384 := by decide +kernel
    grind
  obtain ⟨g1, g2, g3⟩ := mulF f1 hm (lt_of_le_z hp (by omega))
  have g4 := fl_pow_le g3 (k := 14) (by omega) hp
  refine (divF g1 k2.1 (by rw [k2.2.2]; decide) ?_).1
  rw [k2.2.2]
  have e : A (cop .mul (floatOfInt .f32 n) m) / 2 ≤ 2 ^ (14 : Int) := ratio_le (by decide) (by have := z2_pos 14; grind)
  exact lt_of_le_z e (by omega)

theorem pairAt {ps : List T3} (hg : ∀ x ∈ ps, PG x) {i : Nat} (hi : i < ps.length) : ∃ a b n : Nat, ps[i].1 = (a : Int) ∧ ps[i].2.1 = (b : Int) ∧ 6 ≤ a ∧ a ≤ 200 ∧ 6 ≤ b ∧ b ≤ 200 ∧ n = b / Nat.gcd a b ∧ 1 ≤ n ∧ n ≤ b ∧ (n * a) % b = 0 ∧ ∀ k, 1 ≤ k → k < n → (k * a) % b ≠ 0 := by
  obtain ⟨⟨a0, a1⟩, ⟨b0, b1⟩, _⟩ := pg_teeth (hg _ (List.getElem_mem hi))
  obtain ⟨a, ha⟩ : ∃ a : Nat, ps[i].1 = (a : Int) := ⟨ps[i].1.toNat, by omega⟩
  obtain ⟨b, hb⟩ : ∃ b : Nat, ps[i].2.1 = (b : Int) := ⟨ps[i].2.1.toNat, by omega⟩
  rw [ha] at a0 a1
  rw [hb] at b0 b1
  obtain ⟨m1, m2, m3, m4⟩ := meet_least (a := a) (b := b) (by omega) (by omega)
  exact ⟨a, b, _, ha, hb, by omega, by omega, by omega, by omega, rfl, m1, m2, m3, m4⟩

theorem meet_eq {ps : List T3} (hB : trainB ps = true) {i : Nat} (hi : i < ps.length) {a b : Nat} (ha : ps[i].1 = (a : Int)) (hb : ps[i].2.1 = (b : Int)) : meetC ps (i : Int) = ((b / Nat.gcd a b : Nat) : Int) := by
  have h1 : pairK ps (i : Int) = 0 := by simp [pairK, withinB, hB]; omega
  have e : ps.getD (i : Int).toNat (0, 0, 0) = ps[i] := by simp [List.getD_eq_getElem?_getD, List.getElem?_eq_getElem hi]
  unfold meetC
  rw [if_pos h1, e, ha, hb]
  rfl

theorem worst_feq {ps : List T3} (hg : ∀ x ∈ ps, PG x) {i : Nat} (hi : i < ps.length) : flt .f32 (lossAt ps (worst ps ps.length)) ps[i].2.2 = false ∧ (i < worst ps ps.length → fle .f32 (lossAt ps (worst ps ps.length)) ps[i].2.2 = false ∧ feq .f32 ps[i].2.2 (lossAt ps (worst ps ps.length)) = false) := by
  have h0 : 0 < ps.length := by omega
  have hw := worst_lt ps ps.length h0
  have hF : ∀ i (hi : i < ps.length), F ps[i].2.2 := fun i hi => (hg _ (List.getElem_mem hi)).2
  have e := lossAt_eq (ps := ps) (List.getElem?_eq_getElem hi)
  have e2 := lossAt_eq (ps := ps) (List.getElem?_eq_getElem hw)
  obtain ⟨a, b⟩ := worst_most hg h0 hi
  rw [e] at a b
  refine ⟨a, fun h => ⟨b h, ?_⟩⟩
  have h1 := b h
  rw [e2] at h1 ⊢
  rw [leF (hF _ hw) (hF _ hi), decide_eq_false_iff_not] at h1
  rw [eqF (hF _ hi) (hF _ hw)]
  refine decide_eq_false fun he => h1 ?_
  rw [he]
  exact Rat.le_refl

theorem setL_B {ps : List T3} (hB : trainB ps = true) {j : Nat} (hj : j < ps.length) (hg : ∀ x ∈ ps, PG x) : trainB (setL ps j 0) = true := by
  have h := setL_pg hg hj
  unfold trainB at hB ⊢
  rw [Bool.and_eq_true] at hB ⊢
  exact ⟨by rw [setL_len]; exact hB.1, List.all_eq_true.2 fun x hx => (h x hx).1⟩

theorem worst_yes {ps : List T3} {v : Value} {w : World} (hv : Tr w v ps) (hB : trainB ps = true) :
    Calls Try.prog 33 #[v] w fun e w' => e = .returned (.tuple #[.int .i64 (worst ps ps.length : Nat), .float .f32 (lossAt ps (worst ps ps.length)), .int .i64 0]) ∧ Below w.heap.size w w' := by
  have := implWorstPair_any ps v w hv
  rw [hB] at this
  exact this

theorem eff_yes {ps : List T3} {v : Value} {w : World} (hv : Tr w v ps) (hB : trainB ps = true) (hl : ps.length ≤ 4) (hg : ∀ x ∈ ps, PG x) :
    Calls Try.prog 27 #[v] w fun e w' => e = .returned (.tuple #[.float .f32 (effC ps), .int .i64 0]) ∧ Below w.heap.size w w' := by
  refine (implEfficiencyOf_any ps v w hv).mono ?_
  rintro e w' ⟨r, rfl, hr, _, hb⟩
  rw [hB] at hr ⊢
  have hr' : cn r = effC ps := hr
  rw [F_of_cn hr' (eff_range hl hg).1]
  exact ⟨rfl, hb⟩

theorem cellsT_at {ps : List T3} {i : Nat} (hi : i < ps.length) : (cellsT ps)[i * 3]? = some (.int .i16 ps[i].1) ∧ (cellsT ps)[i * 3 + 1]? = some (.int .i16 ps[i].2.1) ∧ (cellsT ps)[i * 3 + 2]? = some (.float .f32 ps[i].2.2) := cellsT_get ps i _ (List.getElem?_eq_getElem hi)

theorem setL_at {ps : List T3} {j : Nat} (hj : j < ps.length) (q : Nat) : (setL ps j q)[j]? = some (ps[j].1, ps[j].2.1, q) := by
  have e : ps.getD j (0, 0, 0) = ps[j] := by simp [List.getD_eq_getElem?_getD, List.getElem?_eq_getElem hj]
  unfold setL
  rw [e]
  simp [hj]

end Go.Proofs.Ytkgfepakedieaaa

