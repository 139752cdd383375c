/- Plain laws: the ratio of a train as a number of 64 bits, cut to 32; the product of its quotients. -/
import Derived.Test.YtkgfepakedieaaaGreatDoorTuZ
import Derived.Test.YtkgfepakedieaaaGreatDoorCtZ
import Derived.Test.YtkgfepakedieaaaGreatDoorCtZc
import Derived.Test.YtkgfepakedieaaaGreatDoorCv
import Derived.Test.YtkgfepakedieaaaGreatDoorSdZ
import Derived.Test.YtkgfepakedieaaaGreatDoorCtRn
set_option linter.unusedVariables false
set_option linter.unusedSimpArgs false
namespace Go.Proofs.YtkgfepakedieaaaGreatDoor
open Go.RowKit
open Flt (z2_pos z2_add z2_mono)
set_option linter.unusedVariables false

theorem h3d : (4 : Int) ≤ 2 ^ Ieee.double.exponentBits := by decide
theorem top_d : Flt.top Ieee.double = 1022 := by decide +kernel
theorem lp_d : Ieee.double.leastPlace = -1074 := by decide +kernel
theorem fb_d : Ieee.double.fractionBits = 52 := rfl
theorem rd_eq : Flt.ro Ieee.double = 1 - 1 / 9007199254740992 := by
  have h : (2 : Rat) ^ (-(Ieee.double.fractionBits : Int) - 1) = 1 / 9007199254740992 := by
    rw [fb_d]
    decide +kernel
  unfold Flt.ro
  rw [h]

/-- A whole number as a word of 64 bits. -/
theorem intD {n : Nat} (h1 : 1 ≤ n) (h2 : n ≤ 4611686018427387904) : Flt.fin Ieee.double (floatOfInt .f64 (n : Int)) = true ∧ Flt.sgn Ieee.double (floatOfInt .f64 (n : Int)) = false ∧ Flt.Near Ieee.double 1 (Flt.A Ieee.double (floatOfInt .f64 (n : Int))) (n : Rat) := by
  have e : floatOfInt .f64 (n : Int) = Ieee.double.nearest false n 0 := by
    show Ieee.double.nearest (decide ((n : Int) < 0)) (n : Int).natAbs 0 = _
    rw [decide_eq_false (by omega)]
    rfl
  have e2 : (n : Rat) * 2 ^ (0 : Int) = (n : Rat) := by rw [Rat.zpow_zero, Rat.mul_one]
  have hn : (1 : Rat) ≤ (n : Rat) := by exact_mod_cast h1
  have hn2 : (n : Rat) ≤ 4611686018427387904 := by exact_mod_cast h2
  have hv : (n : Rat) * 2 ^ (0 : Int) < 2 ^ Flt.top Ieee.double := by
    rw [e2, top_d]
    have h3 : (4611686018427387904 : Rat) < 2 ^ (1022 : Int) := by decide +kernel
    grind
  obtain ⟨k, hk, hki, hfl⟩ := Flt.nearest_num Ieee.double h3d false n 0 hv
  rw [e2] at hfl
  rw [e, hk]
  obtain ⟨w1, w2⟩ := Flt.is_word Ieee.double false hki
  refine ⟨w1.1, w1.2.1, ?_⟩
  rw [w2]
  refine hfl.1 ?_
  rw [lp_d, fb_d]
  have h4 : (2 : Rat) ^ (-1074 + ((52 : Nat) : Int)) ≤ 1 := by decide +kernel
  grind

theorem rlt_le {a b c : Rat} (h : a < b) (k : b ≤ c) : a < c := by grind
theorem near_pos {f : Ieee.Format} {k : Nat} {x y : Rat} (h : Flt.Near f k x y) (hy : 0 < y) : 0 < x := by
  have := Rat.mul_pos hy (Flt.rok_pos f k)
  exact rlt_le this h.2
theorem near_div {f : Ieee.Format} {k l : Nat} {x x' y y' : Rat} (h : Flt.Near f k x x') (h' : Flt.Near f l y y') (hx : 0 < x) (hx' : 0 < x') (hy : 0 < y) (hy' : 0 < y') : Flt.Near f (k + l) (x / y) (x' / y') := by
  have rk := Flt.rok_pos f k
  have rl := Flt.rok_pos f l
  have half : ∀ {a b c d : Rat}, 0 < a → 0 < c → 0 < d → a * Flt.ro f ^ k ≤ b → d * Flt.ro f ^ l ≤ c → a / c * Flt.ro f ^ (k + l) ≤ b / d := by
    intro a b c d ha hc hd h1 h2
    refine ratio_ge hd ?_
    rw [Flt.rok_add]
    have e : a / c * c = a := Rat.div_mul_cancel (Rat.ne_of_gt hc)
    have hac : 0 ≤ a / c := ratio_ge hc (by rw [Rat.zero_mul]; exact Rat.le_of_lt ha)
    have h3 := Rat.mul_le_mul_of_nonneg_left h2 (Rat.mul_nonneg hac (Rat.le_of_lt rk))
    have e1 : a / c * (Flt.ro f ^ k * Flt.ro f ^ l) * d = a / c * Flt.ro f ^ k * (d * Flt.ro f ^ l) := by grind
    have e2 : a / c * Flt.ro f ^ k * c = a * Flt.ro f ^ k := by
      have : a / c * Flt.ro f ^ k * c = a / c * c * Flt.ro f ^ k := by grind
      rw [this, e]
    rw [e1]
    exact Rat.le_trans h3 (by rw [e2]; exact h1)
  exact ⟨half hx hy hy' h.1 h'.2, half hx' hy' hy h.2 h'.1⟩

/-- What is near in 64 bits is nearer in 32. -/
theorem near_ds {k : Nat} (hk : k ≤ 8) {x y : Rat} (h : Flt.Near Ieee.double k x y) (hx : 0 ≤ x) (hy : 0 ≤ y) : Nr 1 x y := by
  have hr : rr ^ 1 ≤ Flt.ro Ieee.double ^ k := by
    have h8 : Flt.ro Ieee.double ^ 8 ≤ Flt.ro Ieee.double ^ k := by
      have e : 8 = k + (8 - k) := by omega
      rw [e, Flt.rok_add]
      have := Rat.mul_le_mul_of_nonneg_left (Flt.rok_le_one Ieee.double (8 - k)) (Rat.le_of_lt (Flt.rok_pos Ieee.double k))
      rwa [Rat.mul_one] at this
    refine Rat.le_trans ?_ h8
    rw [rr_eq, rd_eq]
    decide +kernel
  exact ⟨Rat.le_trans (Rat.mul_le_mul_of_nonneg_left hr hx) h.1, Rat.le_trans (Rat.mul_le_mul_of_nonneg_left hr hy) h.2⟩

/-- The quotient of two whole numbers in 64 bits, cut to 32. -/
def cutC (a b : Nat) : Nat := FloatKind.f32.encode (FloatKind.f64.decode ((floatBits .quo .f64 (floatOfInt .f64 (a : Int)) (floatOfInt .f64 (b : Int))).getD 0))

theorem cut_ok {a b : Nat} (a1 : 1 ≤ a) (a2 : a ≤ 4611686018427387904) (b1 : 1 ≤ b) (b2 : b ≤ 4611686018427387904) (hlo : (2 : Rat) ^ (-50 : Int) ≤ (a : Rat) / b) (hhi : (a : Rat) / b ≤ 2 ^ (50 : Int)) :
    (∃ q, floatBits .quo .f64 (floatOfInt .f64 (a : Int)) (floatOfInt .f64 (b : Int)) = some q ∧ ∃ m i, FloatKind.f64.decode q = .number false m i) ∧ F (cutC a b) ∧ S (cutC a b) = false ∧ Nr 2 (A (cutC a b)) ((a : Rat) / b) := by
  obtain ⟨f1, s1, n1⟩ := intD a1 a2
  obtain ⟨f2, s2, n2⟩ := intD b1 b2
  have ha : (0 : Rat) < (a : Rat) := by exact_mod_cast a1
  have hb : (0 : Rat) < (b : Rat) := by exact_mod_cast b1
  have pa := near_pos n1 ha
  have pb := near_pos n2 hb
  have hq := near_div n1 n2 pa ha pb hb
  have hab : 0 < (a : Rat) / b := rlt_le (z2_pos _) hlo
  have hsq := near_ds (by omega) hq (Rat.le_of_lt (rlt_le (Rat.mul_pos hab (Flt.rok_pos _ _)) hq.2)) (Rat.le_of_lt hab)
  obtain ⟨k1, k2⟩ := Nr_def hsq
  have e50 : (2 : Rat) ^ (50 : Int) = 1125899906842624 := by decide +kernel
  have em50 : (2 : Rat) ^ (-50 : Int) = 1 / 1125899906842624 := by decide +kernel
  rw [Rat.pow_one] at k1 k2
  have hv : Flt.A Ieee.double (floatOfInt .f64 (a : Int)) / Flt.A Ieee.double (floatOfInt .f64 (b : Int)) < 2 ^ (Flt.top Ieee.double - 1) := by
    rw [top_d]
    have h3 : (2251799813685248 : Rat) < 2 ^ ((1022 : Int) - 1) := by decide +kernel
    grind
  obtain ⟨q, hqe, hqi, hqf⟩ := Flt.div_num Ieee.double h3d f1 f2 pb hv
  rw [s1, s2] at hqi
  have hq2 := hqf.1 (by
    rw [lp_d, fb_d]
    have h4 : (2 : Rat) ^ (-1074 + ((52 : Nat) : Int)) ≤ 1 / 2251799813685248 := by decide +kernel
    grind)
  have hqr := Flt.Near.trans hq2 hq
  have hA0 : 0 < Flt.A Ieee.double q := near_pos hqr hab
  have hsr := near_ds (by omega) hqr (Rat.le_of_lt hA0) (Rat.le_of_lt hab)
  obtain ⟨j1, j2⟩ := Nr_def hsr
  rw [Rat.pow_one] at j1 j2
  obtain ⟨m, i, er, _, eA⟩ := Flt.read_num Ieee.double hqi.1
  have hsg : Flt.sgn Ieee.double q = false := hqi.2.1
  rw [hsg] at er
  have hfb : floatBits .quo .f64 (floatOfInt .f64 (a : Int)) (floatOfInt .f64 (b : Int)) = some q := hqe
  have hdec : FloatKind.f64.decode q = .number false m i := er
  have hc : cutC a b = Ieee.single.nearest false m i := by
    unfold cutC
    rw [hfb]
    show FloatKind.f32.encode (FloatKind.f64.decode q) = _
    rw [hdec]
    rfl
  have hvs : (m : Rat) * 2 ^ i < 2 ^ Flt.top Ieee.single := by
    rw [← eA, top_s]
    have h3 : (2251799813685248 : Rat) < 2 ^ (126 : Int) := by decide +kernel
    grind
  obtain ⟨k, hk, hki, hfl⟩ := Flt.nearest_num Ieee.single h3s false m i hvs
  rw [← eA] at hfl
  obtain ⟨w1, w2⟩ := Flt.is_word Ieee.single false hki
  obtain ⟨g1, g2⟩ := is_F w1
  refine ⟨⟨q, hfb, m, i, hdec⟩, ?_, ?_, ?_⟩
  · rw [hc, hk]; exact g1
  · rw [hc, hk]; exact g2
  · have hn := hfl.1 (by
      rw [← min_place]
      have h4 : (2 : Rat) ^ (-126 : Int) ≤ 1 / 2251799813685248 := by decide +kernel
      grind)
    rw [hc, hk]
    have : Nr 1 (A (Ieee.single.word false k)) (Flt.A Ieee.double q) := by
      show Flt.Near Ieee.single 1 (Flt.A Ieee.single _) _
      rw [w2]
      exact hn
    exact Flt.Near.trans this hsr

/-- The product of the quotients. -/
noncomputable def ratQ (ps : List T3) : Rat := (numN ps : Rat) / (denN ps : Rat)
theorem numN_app (ps qs : List T3) : numN (ps ++ qs) = numN ps * numN qs := by
  have key : ∀ (qs : List T3) (n : Nat), qs.foldl (fun r p => r * p.1.toNat) n = n * qs.foldl (fun r p => r * p.1.toNat) 1 := by
    intro qs
    induction qs with
    | nil => intro n; simp
    | cons q qs ih =>
      intro n
      rw [List.foldl_cons, List.foldl_cons, ih, ih (1 * q.1.toNat)]
      rw [Nat.one_mul, Nat.mul_assoc]
  unfold numN
  rw [List.foldl_append, key]
theorem denN_app (ps qs : List T3) : denN (ps ++ qs) = denN ps * denN qs := by
  have key : ∀ (qs : List T3) (n : Nat), qs.foldl (fun r p => r * p.2.1.toNat) n = n * qs.foldl (fun r p => r * p.2.1.toNat) 1 := by
    intro qs
    induction qs with
    | nil => intro n; simp
    | cons q qs ih =>
      intro n
      rw [List.foldl_cons, List.foldl_cons, ih, ih (1 * q.2.1.toNat)]
      rw [Nat.one_mul, Nat.mul_assoc]
  unfold denN
  rw [List.foldl_append, key]

end Go.Proofs.YtkgfepakedieaaaGreatDoor

/-! Plain laws: a train's factor is near its ratio. -/
namespace Go.Proofs.YtkgfepakedieaaaGreatDoor
open Go.RowKit
open Flt (z2_pos z2_add z2_mono)
set_option linter.unusedVariables false

theorem denN_pos {ps : List T3} (hg : ∀ x ∈ ps, PG x) : ∀ j, j ≤ ps.length → 1 ≤ numN (ps.take j) ∧ 1 ≤ denN (ps.take j) ∧ numN (ps.take j) ≤ 200 ^ j ∧ denN (ps.take j) ≤ 200 ^ j
  | 0, _ => by simp [numN, denN]
  | j + 1, h => by
    obtain ⟨h1, h2, h3, h4⟩ := denN_pos hg j (by omega)
    have hp : ps[j]? = some ps[j] := List.getElem?_eq_getElem (by omega)
    obtain ⟨⟨a0, a1⟩, ⟨b0, b1⟩, _⟩ := pg_teeth (hg _ (List.getElem_mem (show j < ps.length by omega)))
    rw [numN_step ps j _ hp, denN_step ps j _ hp, Nat.pow_succ]
    refine ⟨Nat.mul_pos (by omega) (by omega), Nat.mul_pos (by omega) (by omega), Nat.mul_le_mul h3 (by omega), Nat.mul_le_mul h4 (by omega)⟩

theorem ratQ_step {ps : List T3} (hg : ∀ x ∈ ps, PG x) {j : Nat} (hj : j < ps.length) : ratQ (ps.take (j + 1)) = ratQ (ps.take j) * ((ps[j].1 : Rat) / ps[j].2.1) := by
  have hp : ps[j]? = some ps[j] := List.getElem?_eq_getElem hj
  obtain ⟨⟨a0, a1⟩, ⟨b0, b1⟩, _⟩ := pg_teeth (hg _ (List.getElem_mem hj))
  obtain ⟨h1, h2, _, _⟩ := denN_pos hg j (by omega)
  have ea : ((ps[j].1.toNat : Nat) : Rat) = (ps[j].1 : Rat) := by
    rw [← Rat.intCast_natCast]
    congr 1
    omega
  have eb : ((ps[j].2.1.toNat : Nat) : Rat) = (ps[j].2.1 : Rat) := by
    rw [← Rat.intCast_natCast]
    congr 1
    omega
  have hd : (0 : Rat) < (denN (ps.take j) : Rat) := by exact_mod_cast h2
  have hb : (0 : Rat) < (ps[j].2.1 : Rat) := Rat.intCast_pos.2 (by omega)
  unfold ratQ
  rw [numN_step ps j _ hp, denN_step ps j _ hp, Rat.natCast_mul, Rat.natCast_mul, ea, eb]
  obtain ⟨n, hn⟩ : ∃ n, n = (numN (ps.take j) : Rat) := ⟨_, rfl⟩
  obtain ⟨d, hd'⟩ : ∃ n, n = (denN (ps.take j) : Rat) := ⟨_, rfl⟩
  obtain ⟨a, ha⟩ : ∃ n, n = (ps[j].1 : Rat) := ⟨_, rfl⟩
  obtain ⟨b, hb'⟩ : ∃ n, n = (ps[j].2.1 : Rat) := ⟨_, rfl⟩
  rw [← hn, ← hd', ← ha, ← hb']
  rw [← hd'] at hd
  rw [← hb'] at hb
  have hdb : 0 < d * b := Rat.mul_pos hd hb
  have e1 : n / d * d = n := Rat.div_mul_cancel (Rat.ne_of_gt hd)
  have e2 : a / b * b = a := Rat.div_mul_cancel (Rat.ne_of_gt hb)
  have e3 : n * a / (d * b) * (d * b) = n * a := Rat.div_mul_cancel (Rat.ne_of_gt hdb)
  have e4 : n / d * (a / b) * (d * b) = n * a := by
    have : n / d * (a / b) * (d * b) = (n / d * d) * (a / b * b) := by grind
    rw [this, e1, e2]
  have h5 : n * a / (d * b) * (d * b) = n / d * (a / b) * (d * b) := by rw [e3, e4]
  refine Rat.le_antisymm ?_ ?_
  · exact Rat.le_of_mul_le_mul_right (by rw [h5]; exact Rat.le_refl) hdb
  · exact Rat.le_of_mul_le_mul_right (by rw [h5]; exact Rat.le_refl) hdb

theorem fact_near {ps : List T3} (hg : ∀ x ∈ ps, PG x) (hl : ps.length ≤ 8) : ∀ j, j ≤ ps.length →
    Rg (-(6 * (j : Int))) (6 * (j : Int)) (factC (ps.take j)) ∧ S (factC (ps.take j)) = false ∧ Nr (3 * j) (A (factC (ps.take j))) (ratQ (ps.take j)) ∧ 0 < ratQ (ps.take j)
  | 0, _ => by
    obtain ⟨o1, o2, o3⟩ := one_F
    have e : factC (ps.take 0) = 1065353216 := rfl
    have er : ratQ (ps.take 0) = 1 := by
      show ((1 : Nat) : Rat) / ((1 : Nat) : Rat) = 1
      decide +kernel
    rw [e, er]
    refine ⟨⟨o1, ?_, .inr ?_⟩, o2, ?_, by decide⟩
    · rw [o3]; decide +kernel
    · rw [o3]; decide +kernel
    · rw [o3]; exact Flt.Near.refl _ (by decide) _
  | j + 1, h => by
    obtain ⟨i1, i2, i3, i4⟩ := fact_near hg hl j (by omega)
    have hj : j < ps.length := by omega
    have hp : ps[j]? = some ps[j] := List.getElem?_eq_getElem hj
    obtain ⟨u1, u2, u3⟩ := pg_up (hg _ (List.getElem_mem hj))
    obtain ⟨⟨a0, a1⟩, ⟨b0, b1⟩, _⟩ := pg_teeth (hg _ (List.getElem_mem hj))
    have hq : (0 : Rat) < (ps[j].1 : Rat) / ps[j].2.1 := by
      have ha : (0 : Rat) < (ps[j].1 : Rat) := Rat.intCast_pos.2 (by omega)
      have hb : (0 : Rat) < (ps[j].2.1 : Rat) := Rat.intCast_pos.2 (by omega)
      have e2 : (ps[j].1 : Rat) / ps[j].2.1 * ps[j].2.1 = ps[j].1 := Rat.div_mul_cancel (Rat.ne_of_gt hb)
      rcases Rat.le_total (a := (ps[j].1 : Rat) / ps[j].2.1) (b := 0) with hc | hc
      · exfalso
        have := Rat.mul_le_mul_of_nonneg_right hc (Rat.le_of_lt hb)
        grind
      · rcases Rat.le_iff_lt_or_eq.1 hc with h' | h'
        · exact h'
        · exfalso
          rw [← h'] at e2
          grind
    obtain ⟨m1, m2, m3⟩ := mulR i1 u1 (by omega) (by omega) (by omega)
    rw [factC_step ps j _ hp, ratQ_step hg hj]
    refine ⟨?_, ?_, ?_, Rat.mul_pos i4 hq⟩
    · have e1 : -(6 * ((j + 1 : Nat) : Int)) = -(6 * (j : Int)) + -6 := by omega
      have e2 : 6 * ((j + 1 : Nat) : Int) = 6 * (j : Int) + 6 := by omega
      rw [e1, e2]
      exact m1
    · rw [m2, i2, u2]; rfl
    · have hn := Flt.Near.trans m3 (Flt.Near.mul i3 u3 (A_nn _) (A_nn _))
      exact Flt.Near.mono hn (by omega) (A_nn _)

/-- A ratio without common parts is the ratio. -/
theorem red_ratio {n d : Nat} (hn : 1 ≤ n) (hd : 1 ≤ d) : ((n / Nat.gcd n d : Nat) : Rat) / ((d / Nat.gcd n d : Nat) : Rat) = (n : Rat) / d ∧ 1 ≤ n / Nat.gcd n d ∧ 1 ≤ d / Nat.gcd n d ∧ ∀ k, 2 ≤ k → ¬ ((n / Nat.gcd n d) % k = 0 ∧ (d / Nat.gcd n d) % k = 0) := by
  have hg : 0 < Nat.gcd n d := Nat.gcd_pos_of_pos_left d hn
  obtain ⟨a, ha⟩ := Nat.gcd_dvd_left n d
  obtain ⟨b, hb⟩ := Nat.gcd_dvd_right n d
  obtain ⟨g, hgg⟩ : ∃ g, g = Nat.gcd n d := ⟨_, rfl⟩
  have hcop : Nat.Coprime (n / Nat.gcd n d) (d / Nat.gcd n d) := Nat.coprime_div_gcd_div_gcd hg
  rw [← hgg] at ha hb hg hcop ⊢
  have en : n / g = a := by rw [ha, Nat.mul_div_cancel_left _ hg]
  have ed : d / g = b := by rw [hb, Nat.mul_div_cancel_left _ hg]
  have ha0 : 0 < a := by
    rcases Nat.eq_zero_or_pos a with h | h
    · rw [h] at ha; omega
    · exact h
  have hb0 : 0 < b := by
    rcases Nat.eq_zero_or_pos b with h | h
    · rw [h] at hb; omega
    · exact h
  rw [en, ed] at hcop ⊢
  refine ⟨?_, ha0, hb0, fun k hk h => ?_⟩
  · rw [ha, hb, Rat.natCast_mul, Rat.natCast_mul]
    have hgr : (0 : Rat) < (g : Rat) := by exact_mod_cast hg
    have hbr : (0 : Rat) < (b : Rat) := by exact_mod_cast hb0
    have hgb : 0 < (g : Rat) * b := Rat.mul_pos hgr hbr
    have e1 : (a : Rat) / b * b = a := Rat.div_mul_cancel (Rat.ne_of_gt hbr)
    have e2 : (g : Rat) * a / (g * b) * (g * b) = g * a := Rat.div_mul_cancel (Rat.ne_of_gt hgb)
    have e3 : (a : Rat) / b * (g * b) = g * a := by
      have : (a : Rat) / b * (g * b) = g * (a / b * b) := by grind
      rw [this, e1]
    refine Rat.le_antisymm ?_ ?_
    · exact Rat.le_of_mul_le_mul_right (by rw [e2, e3]; exact Rat.le_refl) hgb
    · exact Rat.le_of_mul_le_mul_right (by rw [e2, e3]; exact Rat.le_refl) hgb
  · have hd1 := Nat.dvd_gcd (Nat.dvd_of_mod_eq_zero h.1) (Nat.dvd_of_mod_eq_zero h.2)
    rw [hcop] at hd1
    have := Nat.le_of_dvd (by omega) hd1
    omega

end Go.Proofs.YtkgfepakedieaaaGreatDoor

/-! float32(x) of a float64. -/
namespace Go.Proofs.YtkgfepakedieaaaGreatDoor
open Go.RowKit Ieee

/-- float32(x): the value (where x is no number, or too great, it is drawn), how often is drawn. -/
def c32 (b : Nat) (w : World) : Nat :=
  match FloatKind.f64.decode b with
  | .nan _ _ => (Question.nanConv .f32 b).cut (w.tape w.drawn (Question.nanConv .f32 b))
  | .infinity s => FloatKind.f32.encode (.infinity s)
  | .number s m e => if (FloatKind.f32.decode (FloatKind.f32.encode (.number s m e))).isInfinity then (Question.floatToFloat b).cut (w.tape w.drawn (Question.floatToFloat b)) else FloatKind.f32.encode (.number s m e)
def c32n (b : Nat) : Nat :=
  match FloatKind.f64.decode b with
  | .nan _ _ => 1
  | .infinity _ => 0
  | .number s m e => if (FloatKind.f32.decode (FloatKind.f32.encode (.number s m e))).isInfinity then 1 else 0

@[go_sem] theorem run_c32 {P : Program} (src dst : TypeId) (b : Nat) (w : World) (hs : (P.underlying src).isSome = true) (hd : P.underlying dst = some (.float .f32)) :
    (convert src dst (.float .f64 b)).run P w = .ok (.float .f32 (c32 b w)) (w.drewN (c32n b)) := by
  obtain ⟨u, hs'⟩ := Option.isSome_iff_exists.1 hs
  have key : (Conv.floatToFloat .f64 b .f32).run P w = .ok (.float .f32 (c32 b w)) (w.drewN (c32n b)) := by
    unfold Conv.floatToFloat
    rw [if_neg (by decide)]
    unfold c32 c32n
    cases hx : FloatKind.f64.decode b with
    | nan s t => simp [choose, Sem.run, Question.forced, World.drewN]
    | infinity s => simp [World.drewN_zero]
    | number s m i =>
      by_cases hi : (FloatKind.f32.decode (FloatKind.f32.encode (.number s m i))).isInfinity = true
      · simp [hi, choose, Sem.run, Question.forced, World.drewN]
      · simp [hi, World.drewN_zero]
  cases u <;> simp [convert, run_underlying hs', run_underlying hd, key]

theorem c32_lt (b : Nat) (w : World) : c32 b w < 2 ^ 32 := by
  unfold c32
  cases hx : FloatKind.f64.decode b with
  | nan s t =>
    show (w.tape w.drawn _) % 2 * 2 ^ 31 + 0x7f800000 + 1 + (w.tape w.drawn _) / 2 % (2 ^ 23 - 1) < 2 ^ 32
    omega
  | infinity s =>
    have h := encode_wf .f32 (.infinity s)
    simpa [Lit.wf] using h
  | number s m i =>
    by_cases hi : (FloatKind.f32.decode (FloatKind.f32.encode (.number s m i))).isInfinity = true
    · simp only [hi, if_true]
      exact Nat.mod_lt _ (by decide)
    · simp only [hi]
      have h := encode_wf .f32 (.number s m i)
      simpa [Lit.wf] using h

end Go.Proofs.YtkgfepakedieaaaGreatDoor

/-! Contract: any number that is drawn. -/
namespace Go.Proofs.YtkgfepakedieaaaGreatDoor
open Go.RowKit
set_option linter.unusedVariables false
set_option linter.unusedSimpArgs false

@[go_sem] theorem run_frombits64 (n : Nat) (w : World) : (callFunc 78 #[.int .u64 (n : Int)]).run Tryz.prog w = .ok (.value (.float .f64 n)) w := by
  rw [run_callFunc_extern Tryz.func78 (by kernel_rfl) (by kernel_rfl) (by kernel_rfl) (e := Extern.MathFloatBits.float64frombits) (by kernel_rfl) _ w]
  rfl

theorem cells_intsT (w : World) (t : TypeId) (xs : List Int) : ∀ (i : Nat) (x : Int), xs[i]? = some x → (w.alloc (.cells (xs.map fun z => Value.int .i64 z).toArray t)).cell? ⟨w.heap.size, i, none⟩ = some (.int .i64 x) := by
  intro i x h
  rw [World.cell?_alloc_at (hn := rfl), List.getElem?_toArray, List.getElem?_map, h]
  rfl
theorem int_ltT (n : Int) : floatOfInt .f32 n < 2 ^ 32 := by
  have := floatOfInt_wf .f32 n
  simpa [Lit.wf] using this

/-- A number is drawn. -/
def NumD (u : Value) : Prop := ∃ r : Nat, u = .float .f32 r ∧ r < 2 ^ 32

set_option maxRecDepth 100000 in
set_option maxHeartbeats 1000000 in
theorem nan_any (w : World) : Calls Tryz.prog 60 #[] w fun e w' => e = .returned (.float .f64 9221120237041090561) ∧ w = w' := by
  have h : ∀ w : World, (callFunc 78 #[.int .u64 9221120237041090561]).run Tryz.prog w = .ok (.value (.float .f64 9221120237041090561)) w := fun w => run_frombits64 9221120237041090561 w
  go_enter Tryz.func60, Tryz.ntmps60
  go_wp2
  all_goals (go_ret; exact ⟨rfl, rfl⟩)

set_option maxRecDepth 100000 in
set_option maxHeartbeats 1000000 in
theorem inf_up (w : World) : Calls Tryz.prog 61 #[.int .i64 1] w fun e w' => e = .returned (.float .f64 9218868437227405312) ∧ w = w' := by
  have h1 : ∀ w : World, (callFunc 78 #[.int .u64 9218868437227405312]).run Tryz.prog w = .ok (.value (.float .f64 9218868437227405312)) w := fun w => run_frombits64 9218868437227405312 w
  go_enter Tryz.func61, Tryz.ntmps61
  go_wp2
  all_goals (go_ret; exact ⟨rfl, rfl⟩)

set_option maxRecDepth 100000 in
set_option maxHeartbeats 1000000 in
theorem inf_down (w : World) : Calls Tryz.prog 61 #[.int .i64 (-1)] w fun e w' => e = .returned (.float .f64 18442240474082181120) ∧ w = w' := by
  have h2 : ∀ w : World, (callFunc 78 #[.int .u64 18442240474082181120]).run Tryz.prog w = .ok (.value (.float .f64 18442240474082181120)) w := fun w => run_frombits64 18442240474082181120 w
  go_enter Tryz.func61, Tryz.ntmps61
  go_wp2
  all_goals (go_ret; exact ⟨rfl, rfl⟩)

set_option maxRecDepth 100000 in
set_option maxHeartbeats 8000000 in
theorem any_any (g k : Nat) (w : World) (h : Src w g k) (hk : k ≤ 40000) :
    Calls Tryz.prog 30 #[.pointer (some ⟨g, 0, none⟩)] w (Draws w g (k + 6) NumD) := by
  have hg := h.lt
  have H := Lib.hid h
  clear h
  go_enter Tryz.func30, Tryz.ntmps30
  go_wp2_with fail
  refine (pick_any g k 14 _ H.out (by omega) (by omega) (by omega)).mono ?_
  rintro e w1 ⟨u, rfl, ⟨x, rfl, x0, x1⟩, hs1, hm1⟩
  have hg1 := hs1.lt
  by_cases c0 : x = 0
  · subst c0
    go_wp2_with (go_at_call 60; refine (nan_any _).mono ?_; rintro e w' ⟨rfl, rfl⟩)
    all_goals go_ret
    all_goals exact ⟨_, rfl, ⟨_, rfl, c32_lt _ _⟩, (hs1.after (below_drewN (Below.refl _ _) _)).mono (by omega), hm1.drewN _⟩
  by_cases c1 : x = 1
  · subst c1
    go_wp2_with (go_at_call 61; refine (inf_up _).mono ?_; rintro e w' ⟨rfl, rfl⟩)
    all_goals go_ret
    all_goals exact ⟨_, rfl, ⟨_, rfl, c32_lt _ _⟩, (hs1.after (below_drewN (Below.refl _ _) _)).mono (by omega), hm1.drewN _⟩
  by_cases c2 : x = 2
  · subst c2
    go_wp2_with (go_at_call 61; refine (inf_down _).mono ?_; rintro e w' ⟨rfl, rfl⟩)
    all_goals go_ret
    all_goals exact ⟨_, rfl, ⟨_, rfl, c32_lt _ _⟩, (hs1.after (below_drewN (Below.refl _ _) _)).mono (by omega), hm1.drewN _⟩
  by_cases c3 : x = 3
  · subst c3
    have hf : ∀ w : World, (callFunc 32 #[.int .u32 2147483648]).run Tryz.prog w = .ok (.value (.float .f32 2147483648)) w := fun w => run_frombits 2147483648 w
    go_wp2
    all_goals go_ret
    all_goals exact ⟨_, rfl, ⟨_, rfl, by decide⟩, hs1.mono (by omega), hm1⟩
  by_cases c4 : x = 4
  · subst c4
    go_wp2_with fail
    refine (pick_any g (k + 2) 16777220 _ hs1 (by omega) (by omega) (by omega)).mono ?_
    rintro e w2 ⟨u, rfl, ⟨y, rfl, y0, y1⟩, hs2, hm2⟩
    obtain ⟨z, rfl⟩ : ∃ z : Nat, y = (z : Int) := ⟨y.toNat, by omega⟩
    have hw : IntKind.u32.wrap (z : Int) = (z : Int) := by
      simp [IntKind.wrap, IntKind.bits, IntKind.signed]
      omega
    have hf : ∀ w : World, (callFunc 32 #[.int .u32 (z : Int)]).run Tryz.prog w = .ok (.value (.float .f32 z)) w := fun w => run_frombits z w
    go_wp2
    all_goals go_ret
    all_goals exact ⟨_, rfl, ⟨_, rfl, by omega⟩, hs2.mono (by omega), hm1.trans hm2⟩
  by_cases c5 : x = 5
  · subst c5
    go_wp2_with fail
    refine (pick_any g (k + 2) 1073741824 _ hs1 (by omega) (by omega) (by omega)).mono ?_
    rintro e w2 ⟨u, rfl, ⟨y, rfl, y0, y1⟩, hs2, hm2⟩
    have hw : IntKind.u32.wrap y = y := by
      simp [IntKind.wrap, IntKind.bits, IntKind.signed]
      omega
    have hw4 : IntKind.u32.wrap (y * 4) = y * 4 := by
      simp [IntKind.wrap, IntKind.bits, IntKind.signed]
      omega
    go_wp2_with fail
    refine (pick_any g (k + 4) 4 _ hs2 (by omega) (by omega) (by omega)).mono ?_
    rintro e w3 ⟨u, rfl, ⟨t, rfl, t0, t1⟩, hs3, hm3⟩
    have hwt : IntKind.u32.wrap t = t := by
      simp [IntKind.wrap, IntKind.bits, IntKind.signed]
      omega
    have hws : IntKind.u32.wrap (y * 4 + t) = y * 4 + t := by
      simp [IntKind.wrap, IntKind.bits, IntKind.signed]
      omega
    obtain ⟨z, hz⟩ : ∃ z : Nat, y * 4 + t = (z : Int) := ⟨(y * 4 + t).toNat, by omega⟩
    have hf : ∀ w : World, (callFunc 32 #[.int .u32 (y * 4 + t)]).run Tryz.prog w = .ok (.value (.float .f32 z)) w := fun w => by rw [hz]; exact run_frombits z w
    have hzl : z < 2 ^ 32 := by omega
    clear hz
    go_wp2
    all_goals go_ret
    all_goals exact ⟨_, rfl, ⟨_, rfl, hzl⟩, hs3.mono (by omega), (hm1.trans hm2).trans hm3⟩
  by_cases c6 : x = 6
  · subst c6
    go_wp2_with fail
    refine (pick_any g (k + 2) 2000000 _ hs1 (by omega) (by omega) (by omega)).mono ?_
    rintro e w2 ⟨u, rfl, ⟨y, rfl, y0, y1⟩, hs2, hm2⟩
    go_wp2
    all_goals go_ret
    all_goals exact ⟨_, rfl, ⟨_, rfl, Loose.op_lt' _⟩, (hs2.after (below_drewN (Below.refl _ _) _)).mono (by omega), (hm1.trans hm2).drewN _⟩
  by_cases c7 : x = 7
  · subst c7
    go_wp2_with fail
    refine (among_any g (k + 2) w1.heap.size 3 _ [1048576, 1048577, -1048576] rfl (by omega) (by omega) _ (hs1.after ((Below.refl _ _).alloc (Nat.le_refl _) _)) (by omega) (by omega) (cells_intsT w1 _ [1048576, 1048577, -1048576])).mono ?_
    rintro e w2 ⟨u, rfl, ⟨y, rfl, hy⟩, hs2, hm2⟩
    go_wp2
    all_goals go_ret
    all_goals exact ⟨_, rfl, ⟨_, rfl, int_ltT _⟩, hs2.mono (by omega), (hm1.trans (Moved.of_below hg1 ((Below.refl _ _).alloc (Nat.le_refl _) _))).trans hm2⟩
  · go_wp2_with fail
    refine (few_any g (k + 2) _ hs1 (by omega)).mono ?_
    rintro e w2 ⟨u, rfl, ⟨r, y, rfl, _, hr, _, _⟩, hs2, hm2⟩
    go_wp2
    all_goals go_ret
    all_goals exact ⟨_, rfl, ⟨_, rfl, hr⟩, hs2.mono (by omega), hm1.trans hm2⟩

set_option maxRecDepth 100000 in
set_option maxHeartbeats 1000000 in
theorem a2AnyNumber_any (a : Option Addr) (n cap : Nat) (w : World) (h : BytesAt w w.heap.size a n) :
    Calls Tryz.prog 6 #[.slice a n cap] w fun e w' => ∃ r : Nat, e = .returned (.float .f32 r) ∧ r < 2 ^ 32 ∧ Below w.heap.size w w' := by
  have H := Lib.hid h
  clear h
  go_enter Tryz.func6, Tryz.ntmps6
  go_wp2_with fail
  refine (from_any a n cap w H.out).mono ?_
  rintro e w1 ⟨rfl, hs1, hb1⟩
  go_wp2_with fail
  refine (any_any _ 0 _ hs1 (by omega)).mono ?_
  rintro e w2 ⟨u, rfl, ⟨r, rfl, hr⟩, hs2, hm2⟩
  go_wp2
  all_goals go_ret
  all_goals exact ⟨r, rfl, hr, hb1.trans hm2.1⟩

end Go.Proofs.YtkgfepakedieaaaGreatDoor
