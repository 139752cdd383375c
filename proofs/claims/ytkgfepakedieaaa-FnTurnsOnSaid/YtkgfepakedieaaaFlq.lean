/- The operations as numbers: sum, difference, order. No program here. -/
import Derived.Test.YtkgfepakedieaaaFlp
namespace Go.Proofs.Ytkgfepakedieaaa.Flt
open Ieee

variable (f : Format)

/-- A word's number. -/
noncomputable def V (w : Nat) : Rat := if sgn f w then -A f w else A f w
/-- A number's size. -/
def ab (a : Rat) : Rat := if a < 0 then -a else a
theorem ab_nonneg (a : Rat) : 0 ≤ ab a := by unfold ab; split <;> grind
theorem ab_of_nonneg {a : Rat} (h : 0 ≤ a) : ab a = a := by unfold ab; split <;> grind
theorem ab_V (w : Nat) : ab (V f w) = A f w := by
  have := A_nonneg f w
  unfold ab V
  split <;> split <;> grind
theorem V_eq (w : Nat) : V f w = (sg f w : Rat) * 2 ^ f.leastPlace := by
  unfold V A sg
  split
  · rw [Rat.intCast_neg, Rat.intCast_natCast]; grind
  · rw [Rat.intCast_natCast]

theorem V_read {w : Nat} {m : Nat} {i : Int} (h : f.read w = .number (sgn f w) m i) (hA : A f w = (m : Rat) * 2 ^ i) (base : Int) (hb : base ≤ i) : (signed (sgn f w) m (i - base).toNat : Rat) * 2 ^ base = V f w := by
  rw [signed_eq]
  have e : ((m * 2 ^ (i - base).toNat : Nat) : Rat) * 2 ^ base = A f w := by
    rw [hA, Rat.natCast_mul, z2_toNat (by omega), Rat.mul_assoc, ← z2_add]
    congr 2
    omega
  unfold V
  split
  · rw [Rat.intCast_neg, Rat.intCast_natCast, ← e]; grind
  · rw [Rat.intCast_natCast, ← e]

theorem natAbs_ab (t : Int) {u : Rat} (hu : 0 < u) : ((t.natAbs : Nat) : Rat) * u = ab ((t : Rat) * u) := by
  rcases Int.lt_or_le t 0 with h | h
  · have e : ((t.natAbs : Nat) : Rat) = -(t : Rat) := by
      rw [← Rat.intCast_natCast, ← Rat.intCast_neg]
      congr 1
      omega
    have h1 : (t : Rat) < 0 := by exact_mod_cast h
    have h2 : (t : Rat) * u < 0 := by
      have := Rat.mul_lt_mul_of_pos_right h1 hu
      rwa [Rat.zero_mul] at this
    rw [e, ab, if_pos h2]
    grind
  · have e : ((t.natAbs : Nat) : Rat) = (t : Rat) := by
      rw [← Rat.intCast_natCast]
      congr 1
      omega
    have h1 : (0 : Rat) ≤ (t : Rat) := by exact_mod_cast h
    have h2 := Rat.mul_nonneg h1 (Rat.le_of_lt hu)
    rw [e, ab_of_nonneg h2]

/-- What a sum's word is. -/
def SumIs (v : Rat) (z0 : Bool) (z : Nat) : Prop := Is f z (if v = 0 then z0 else decide (v < 0)) ∧ Near f 1 (A f z) (ab v) ∧ Fl f (ab v) (A f z)

theorem sum_num (h3 : (4 : Int) ≤ 2 ^ f.exponentBits) {s t : Bool} {m n : Nat} {i j : Int} (hi : f.leastPlace ≤ i) (hj : f.leastPlace ≤ j) {a b : Rat}
    (ha : ∀ base, base ≤ i → (signed s m (i - base).toNat : Rat) * 2 ^ base = a) (hb : ∀ base, base ≤ j → (signed t n (j - base).toNat : Rat) * 2 ^ base = b) (hv : ab (a + b) < 2 ^ top f) :
    ∃ z, ((Datum.number s m i).sum (.number t n j)).map f.write = some z ∧ SumIs f (a + b) (s && t) z := by
  simp only [Datum.sum, Option.map_some, Format.write]
  obtain ⟨base, hbase⟩ : ∃ base, base = min i j := ⟨_, rfl⟩
  obtain ⟨T, hT⟩ : ∃ T, T = signed s m (i - base).toNat + signed t n (j - base).toNat := ⟨_, rfl⟩
  rw [← hbase, ← hT]
  have hu := z2_pos base
  have e : (T : Rat) * 2 ^ base = a + b := by
    rw [hT, Rat.intCast_add, ← ha base (by omega), ← hb base (by omega)]
    grind
  have eA : ((T.natAbs : Nat) : Rat) * 2 ^ base = ab (a + b) := by rw [natAbs_ab T hu, e]
  rw [← eA] at hv
  have hs : (if T = 0 then s && t else decide (T < 0)) = (if a + b = 0 then s && t else decide (a + b < 0)) := by
    rcases Int.lt_trichotomy T 0 with h | h | h
    · have h1 : (T : Rat) < 0 := by exact_mod_cast h
      have h2 : (T : Rat) * 2 ^ base < 0 := by
        have := Rat.mul_lt_mul_of_pos_right h1 hu
        rwa [Rat.zero_mul] at this
      rw [e] at h2
      rw [if_neg (by omega), if_neg (by grind)]
      simp [h, h2]
    · have h2 : a + b = 0 := by rw [← e, h]; simp
      rw [if_pos h, if_pos h2]
    · have h1 : (0 : Rat) < (T : Rat) := by exact_mod_cast h
      have h2 := Rat.mul_pos h1 hu
      rw [e] at h2
      rw [if_neg (by omega), if_neg (by grind)]
      have h4 : ¬ T < 0 := by omega
      have h5 : ¬ a + b < 0 := by grind
      simp [h4, h5]
  rw [hs]
  obtain ⟨k, hk, hki, hfl⟩ := nearest_num f h3 (if a + b = 0 then s && t else decide (a + b < 0)) _ _ hv
  obtain ⟨w1, w2⟩ := is_word f (if a + b = 0 then s && t else decide (a + b < 0)) hki
  rw [eA] at hfl
  refine ⟨_, by rw [hk], w1, ?_, by rw [w2]; exact hfl⟩
  rw [w2]
  rcases Rat.le_total (a := 2 ^ (f.leastPlace + f.fractionBits)) (b := ab (a + b)) with h | h
  · exact hfl.1 h
  · -- small: the format has the number
    obtain ⟨N, hN⟩ : ∃ N, N = T.natAbs * 2 ^ (base - f.leastPlace).toNat := ⟨_, rfl⟩
    have e2 : (N : Rat) * 2 ^ f.leastPlace = ab (a + b) := by
      rw [hN, Rat.natCast_mul, z2_toNat (by omega), Rat.mul_assoc, ← z2_add, ← eA]
      congr 2
      omega
    have hNle : N ≤ f.binade := by
      have h1 : (N : Rat) * 2 ^ f.leastPlace ≤ ((f.binade : Nat) : Rat) * 2 ^ f.leastPlace := by
        rw [e2]
        refine Rat.le_trans h ?_
        rw [show f.binade = 2 ^ f.fractionBits from rfl, z2_nat, ← z2_add, Int.add_comm]
        exact Rat.le_refl
      have := Rat.le_of_mul_le_mul_right h1 (z2_pos _)
      exact_mod_cast this
    have hm : mag f N = N := by
      have := magAt f (q := 0) (k := N) (.inl rfl) (by omega)
      simpa using this
    have h1 := hfl.2.1 N (by rw [hm, e2]; exact Rat.le_refl)
    have h2 := hfl.2.2 N (by rw [hm, e2]; exact Rat.le_refl)
    rw [hm, e2] at h1 h2
    rw [Rat.le_antisymm h2 h1]
    exact Near.refl f (ab_nonneg _) 1

theorem add_num (h3 : (4 : Int) ≤ 2 ^ f.exponentBits) {x y : Nat} (hx : fin f x = true) (hy : fin f y = true) (hv : ab (V f x + V f y) < 2 ^ top f) :
    ∃ z, f.add x y = some z ∧ SumIs f (V f x + V f y) (sgn f x && sgn f y) z := by
  obtain ⟨m, i, e1, l1, a1⟩ := read_num f hx
  obtain ⟨n, j, e2, l2, a2⟩ := read_num f hy
  unfold Format.add
  rw [e1, e2]
  exact sum_num f h3 l1 l2 (fun b h => V_read f e1 a1 b h) (fun b h => V_read f e2 a2 b h) hv

theorem signed_not (t : Bool) (n k : Nat) : signed (!t) n k = -signed t n k := by
  rw [signed_eq, signed_eq]
  cases t <;> simp

theorem sub_num (h3 : (4 : Int) ≤ 2 ^ f.exponentBits) {x y : Nat} (hx : fin f x = true) (hy : fin f y = true) (hv : ab (V f x - V f y) < 2 ^ top f) :
    ∃ z, f.sub x y = some z ∧ SumIs f (V f x - V f y) (sgn f x && !sgn f y) z := by
  obtain ⟨m, i, e1, l1, a1⟩ := read_num f hx
  obtain ⟨n, j, e2, l2, a2⟩ := read_num f hy
  unfold Format.sub
  rw [e1, e2]
  rw [Rat.sub_eq_add_neg] at hv ⊢
  refine sum_num f h3 l1 l2 (fun b h => V_read f e1 a1 b h) (fun b h => ?_) hv
  rw [signed_not, Rat.intCast_neg, ← V_read f e2 a2 b h]
  grind

theorem order_num {x y : Nat} (hx : fin f x = true) (hy : fin f y = true) :
    (f.order x y == some .lt) = decide (V f x < V f y) ∧ (f.order x y == some .eq) = decide (V f x = V f y) := by
  rw [order_fin f hx hy, V_eq, V_eq]
  have hu := z2_pos f.leastPlace
  have k1 : ((sg f x : Rat) * 2 ^ f.leastPlace < (sg f y : Rat) * 2 ^ f.leastPlace) ↔ sg f x < sg f y := by
    rw [Rat.mul_lt_mul_right hu]
    exact Rat.intCast_lt_intCast
  have k2 : ((sg f x : Rat) * 2 ^ f.leastPlace = (sg f y : Rat) * 2 ^ f.leastPlace) ↔ sg f x = sg f y := by
    constructor
    · intro h
      have h1 := Rat.le_of_mul_le_mul_right (a := (sg f x : Rat)) (b := (sg f y : Rat)) (by rw [h]; exact Rat.le_refl) hu
      have h2 := Rat.le_of_mul_le_mul_right (a := (sg f y : Rat)) (b := (sg f x : Rat)) (by rw [h]; exact Rat.le_refl) hu
      have h4 : (sg f x : Rat) = (sg f y : Rat) := Rat.le_antisymm h1 h2
      exact_mod_cast h4
    · intro h; rw [h]
  constructor
  · rw [show decide _ = decide (sg f x < sg f y) from decide_eq_decide.2 k1]
    have : compare (sg f x) (sg f y) = compareOfLessAndEq (sg f x) (sg f y) := rfl
    rw [this]
    unfold compareOfLessAndEq
    by_cases h : sg f x < sg f y
    · simp [h]
    · by_cases h' : sg f x = sg f y
      · simp [h']
      · simp [h, h']
  · rw [show decide _ = decide (sg f x = sg f y) from decide_eq_decide.2 k2]
    have : compare (sg f x) (sg f y) = compareOfLessAndEq (sg f x) (sg f y) := rfl
    rw [this]
    unfold compareOfLessAndEq
    by_cases h : sg f x < sg f y
    · have h' : ¬ sg f x = sg f y := by omega
      simp [h, h']
    · by_cases h' : sg f x = sg f y
      · simp [h']
      · simp [h, h']

end Go.Proofs.Ytkgfepakedieaaa.Flt
