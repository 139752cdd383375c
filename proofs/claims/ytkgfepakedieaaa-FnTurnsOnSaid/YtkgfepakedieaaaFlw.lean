/- Words of whole numbers and of parts. No program here beyond its float operations. -/
import Derived.Test.YtkgfepakedieaaaFlq
import Derived.Test.YtkgfepakedieaaaBase
import Derived.Laws.Cover2
namespace Go.Proofs.Ytkgfepakedieaaa
open Ieee

theorem h3s : (4 : Int) ≤ 2 ^ single.exponentBits := by decide
theorem top_s : Flt.top single = 126 := by decide
theorem lp_s : single.leastPlace = -149 := by decide
theorem fb_s : single.fractionBits = 23 := rfl

/-- A finite word. -/
abbrev F (x : Nat) : Prop := Flt.fin single x = true ∧ x < 2 ^ 32
noncomputable abbrev A (x : Nat) : Rat := Flt.A single x
noncomputable abbrev V (x : Nat) : Rat := Flt.V single x
abbrev S (x : Nat) : Bool := Flt.sgn single x
theorem two_sign : 2 * single.signWeight = 2 ^ 32 := by decide

theorem is_F {z : Nat} {s : Bool} (h : Flt.Is single z s) : F z ∧ S z = s := ⟨⟨h.1, by rw [← two_sign]; exact h.2.2⟩, h.2.1⟩

theorem fin_isNan {x : Nat} (h : Flt.fin single x = true) : isNan x = false := by
  obtain ⟨m, i, e, _⟩ := Flt.read_fin single h
  rw [isNan_iff]
  show (single.read x).isNaN = false
  rw [e]
  rfl
theorem F_cn {x : Nat} (h : F x) : cn x = x := cn_of_num (fin_isNan h.1)
theorem F_of_cn {x y : Nat} (h : cn x = y) (hy : F y) : x = y := by
  by_cases hn : isNan x = true
  · rw [cn_of_nan hn] at h
    have := fin_isNan hy.1
    rw [← h, nan0_isNan] at this
    cases this
  · rw [Bool.not_eq_true] at hn
    rw [cn_of_num hn] at h
    exact h

/-! ### The four operations on finite words -/
theorem mulF {x y : Nat} (hx : F x) (hy : F y) (hv : A x * A y < 2 ^ (126 : Int)) : F (cop .mul x y) ∧ S (cop .mul x y) = (S x ^^ S y) ∧ Flt.Fl single (A x * A y) (A (cop .mul x y)) := by
  rw [← top_s] at hv
  obtain ⟨z, hz, hi, hf⟩ := Flt.mul_num single h3s hx.1 hy.1 hv
  have e : cop .mul x y = z := by
    unfold cop
    rw [show floatBits .mul .f32 x y = single.mul x y from rfl, hz]
    rfl
  rw [e]
  obtain ⟨h1, h2⟩ := is_F hi
  exact ⟨h1, h2, hf⟩
theorem divF {x y : Nat} (hx : F x) (hy : F y) (hy0 : 0 < A y) (hv : A x / A y < 2 ^ (125 : Int)) : F (cop .quo x y) ∧ S (cop .quo x y) = (S x ^^ S y) ∧ Flt.Fl2 single (A x / A y) (A (cop .quo x y)) := by
  have hv' : A x / A y < 2 ^ (Flt.top single - 1) := by rw [top_s]; exact hv
  obtain ⟨z, hz, hi, hf⟩ := Flt.div_num single h3s hx.1 hy.1 hy0 hv'
  have e : cop .quo x y = z := by
    unfold cop
    rw [show floatBits .quo .f32 x y = single.div x y from rfl, hz]
    rfl
  rw [e]
  obtain ⟨h1, h2⟩ := is_F hi
  exact ⟨h1, h2, hf⟩
theorem addF {x y : Nat} (hx : F x) (hy : F y) (hv : Flt.ab (V x + V y) < 2 ^ (126 : Int)) : F (cop .add x y) ∧ Flt.SumIs single (V x + V y) (S x && S y) (cop .add x y) := by
  rw [← top_s] at hv
  obtain ⟨z, hz, hi⟩ := Flt.add_num single h3s hx.1 hy.1 hv
  have e : cop .add x y = z := by
    unfold cop
    rw [show floatBits .add .f32 x y = single.add x y from rfl, hz]
    rfl
  rw [e]
  exact ⟨(is_F hi.1).1, hi⟩
theorem subF {x y : Nat} (hx : F x) (hy : F y) (hv : Flt.ab (V x - V y) < 2 ^ (126 : Int)) : F (cop .sub x y) ∧ Flt.SumIs single (V x - V y) (S x && !S y) (cop .sub x y) := by
  rw [← top_s] at hv
  obtain ⟨z, hz, hi⟩ := Flt.sub_num single h3s hx.1 hy.1 hv
  have e : cop .sub x y = z := by
    unfold cop
    rw [show floatBits .sub .f32 x y = single.sub x y from rfl, hz]
    rfl
  rw [e]
  exact ⟨(is_F hi.1).1, hi⟩
theorem ltF {x y : Nat} (hx : F x) (hy : F y) : flt .f32 x y = decide (V x < V y) := (Flt.order_num single hx.1 hy.1).1
theorem eqF {x y : Nat} (hx : F x) (hy : F y) : feq .f32 x y = decide (V x = V y) := (Flt.order_num single hx.1 hy.1).2
theorem leF {x y : Nat} (hx : F x) (hy : F y) : fle .f32 x y = decide (V x ≤ V y) := by
  unfold fle
  rw [ltF hx hy, eqF hx hy]
  by_cases h : V x < V y
  · simp [h, Rat.le_of_lt h]
  · by_cases h' : V x = V y
    · simp [h', Rat.le_refl]
    · have : ¬ V x ≤ V y := fun hc => h (Rat.lt_of_le_of_ne hc h')
      simp [h, h', this]

theorem V_pos {x : Nat} (h : S x = false) : V x = A x := by
  show Flt.V single x = Flt.A single x
  unfold Flt.V
  rw [if_neg (by rw [show Flt.sgn single x = false from h]; decide)]
theorem V_neg {x : Nat} (h : S x = true) : V x = -A x := by
  show Flt.V single x = -Flt.A single x
  unfold Flt.V
  rw [if_pos h]
theorem A_nn (x : Nat) : 0 ≤ A x := Flt.A_nonneg single x

/-- A word's number, reckoned. -/
theorem F_const {x : Nat} (h : (Flt.fin single x && decide (x < 2 ^ 32)) = true) : F x := by
  rw [Bool.and_eq_true, decide_eq_true_eq] at h
  exact h
theorem A_const {x m : Nat} {a : Rat} (h : Flt.mag single (Flt.rung single x) = m) (he : (m : Rat) * 2 ^ (-149 : Int) = a) : A x = a := by
  show (Flt.mag single (Flt.rung single x) : Rat) * 2 ^ single.leastPlace = a
  rw [h, lp_s, he]

/-- The word of a whole number. -/
theorem intF (n : Int) (h0 : 0 ≤ n) (h1 : n ≤ 1000000000000) : F (floatOfInt .f32 n) ∧ S (floatOfInt .f32 n) = false ∧ Flt.Fl single (n : Rat) (A (floatOfInt .f32 n)) := by
  have e : floatOfInt .f32 n = single.nearest false n.natAbs 0 := by
    show single.nearest (decide (n < 0)) n.natAbs 0 = _
    rw [decide_eq_false (by omega)]
  have e2 : ((n.natAbs : Nat) : Rat) * 2 ^ (0 : Int) = (n : Rat) := by
    rw [Rat.zpow_zero, Rat.mul_one, ← Rat.intCast_natCast]
    congr 1
    omega
  have hv : ((n.natAbs : Nat) : Rat) * 2 ^ (0 : Int) < 2 ^ Flt.top single := by
    rw [e2, top_s]
    have h2 : (n : Rat) ≤ ((1000000000000 : Int) : Rat) := Rat.intCast_le_intCast.2 h1
    have h3 : ((1000000000000 : Int) : Rat) < 2 ^ (126 : Int) := by decide +kernel
    grind
  obtain ⟨k, hk, hki, hfl⟩ := Flt.nearest_num single h3s false n.natAbs 0 hv
  rw [e2] at hfl
  rw [e, hk]
  obtain ⟨w1, w2⟩ := Flt.is_word single false hki
  obtain ⟨f1, f2⟩ := is_F w1
  exact ⟨f1, f2, by rw [show A _ = _ from w2]; exact hfl⟩

/-! ### The order among words, by their numbers -/
theorem fl_le {v : Rat} {z c : Nat} (h : Flt.Fl single v (A z)) (hc : v ≤ A c) : A z ≤ A c := h.2.2 _ hc
theorem fl_ge {v : Rat} {z c : Nat} (h : Flt.Fl single v (A z)) (hc : A c ≤ v) : A c ≤ A z := h.2.1 _ hc
theorem fl2_le {v : Rat} {z c : Nat} (h : Flt.Fl2 single v (A z)) (hc : v ≤ A c) : A z ≤ A c := h.2.2 _ hc
theorem fl2_ge {v : Rat} {z c : Nat} (h : Flt.Fl2 single v (A z)) (hc : A c ≤ v) : A c ≤ A z := h.2.1 _ hc

theorem one_F : F 1065353216 ∧ S 1065353216 = false ∧ A 1065353216 = 1 := ⟨F_const (by decide +kernel), by decide +kernel, A_const (m := 2 ^ 149) (by decide +kernel) (by decide +kernel)⟩
theorem zero_F : F 0 ∧ S 0 = false ∧ A 0 = 0 := ⟨F_const (by decide +kernel), by decide +kernel, A_const (m := 0) (by decide +kernel) (by decide +kernel)⟩

theorem ratio_le {a b : Rat} (hb : 0 < b) {c : Rat} (h : a ≤ c * b) : a / b ≤ c := by
  apply Rat.le_of_mul_le_mul_right (c := b) _ hb
  rwa [Rat.div_mul_cancel (Rat.ne_of_gt hb)]
theorem ratio_ge {a b : Rat} (hb : 0 < b) {c : Rat} (h : c * b ≤ a) : c ≤ a / b := by
  apply Rat.le_of_mul_le_mul_right (c := b) _ hb
  rwa [Rat.div_mul_cancel (Rat.ne_of_gt hb)]

/-- A part: a whole number by a greater one. -/
theorem partF {x N : Int} {c : Nat} (hc : F c) (hs : S c = false) (hN : A c = (N : Rat)) (h0 : 0 ≤ x) (h1 : x ≤ N) (h2 : 1 ≤ N) (h3 : N ≤ 1000000000000) : F (cop .quo (floatOfInt .f32 x) c) ∧ partB (cop .quo (floatOfInt .f32 x) c) = true := by
  obtain ⟨f1, f2, f3⟩ := intF x h0 (by omega)
  have hN0 : (0 : Rat) < A c := by rw [hN]; exact Rat.intCast_pos.2 (by omega)
  have hle : A (floatOfInt .f32 x) ≤ A c := fl_le f3 (by rw [hN]; exact Rat.intCast_le_intCast.2 h1)
  have hq : A (floatOfInt .f32 x) / A c ≤ 1 := ratio_le hN0 (by rw [Rat.one_mul]; exact hle)
  obtain ⟨g1, g2, g3⟩ := divF f1 hc hN0 (by
    have : (1 : Rat) < 2 ^ (125 : Int) := by decide +kernel
    grind)
  obtain ⟨o1, o2, o3⟩ := one_F
  obtain ⟨z1, z2, z3⟩ := zero_F
  have hz := fl2_le g3 (c := 1065353216) (by rw [o3]; exact hq)
  rw [f2, hs] at g2
  refine ⟨g1, ?_⟩
  unfold partB betB
  rw [leF z1 g1, leF g1 o1, V_pos g2, V_pos o2, V_pos z2, z3]
  simp only [Bool.and_eq_true, decide_eq_true_eq]
  exact ⟨A_nn _, hz⟩

end Go.Proofs.Ytkgfepakedieaaa
