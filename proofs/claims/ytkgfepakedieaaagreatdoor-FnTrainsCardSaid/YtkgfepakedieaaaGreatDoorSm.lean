/- 'The same' on float64 images of float32 numbers is 'the same' on these. -/
import Derived.Test.YtkgfepakedieaaaGreatDoorCv
namespace Go.Proofs.YtkgfepakedieaaaGreatDoor
open Go.RowKit Ieee

/-- A is float64(x). -/
def Img (x A : Nat) : Prop := (isNan x = true ∧ isNan64 A = true) ∨ (isNan x = false ∧ A = double.write (single.read x))

theorem img_c64 (x : Nat) (w : World) : Img x (c64 x w) := by
  unfold c64
  cases h : isNan x
  · exact .inr ⟨h, by simp⟩
  · exact .inl ⟨h, by simpa using nanConv_nan _ _⟩

/-- What a word that is no NaN is. -/
theorem cases_single {x : Nat} (h : isNan x = false) : (∃ s, single.read x = .infinity s) ∨ (∃ s m i, single.read x = .number s m i) := by
  rw [isNan_single] at h
  cases hx : single.read x with
  | nan => rw [hx] at h; simp [Datum.isNaN] at h
  | infinity s => exact .inl ⟨s, rfl⟩
  | number s m i => exact .inr ⟨s, m, i, rfl⟩

theorem sg_widen {x : Nat} {s : Bool} {m : Nat} {i : Int} (hr : single.read x = .number s m i) : Flt.sg double (double.write (.number s m i)) = Flt.sg single x * ((2 ^ k925 : Nat) : Int) := by
  obtain ⟨_, h2, h3⟩ := widen_fin (fin_of_number hr) hr
  unfold Flt.sg
  rw [h2, h3]
  cases Flt.sgn single x <;> simp [Int.neg_mul]

theorem order_img {x y : Nat} (hx : isNan x = false) (hy : isNan y = false) : double.order (double.write (single.read x)) (double.write (single.read y)) = single.order x y := by
  rcases cases_single hx with ⟨s, ex⟩ | ⟨s, m, i, ex⟩ <;> rcases cases_single hy with ⟨t, ey⟩ | ⟨t, n, j, ey⟩
  · unfold Format.order
    rw [ex, ey, read_inf64, read_inf64]
  · obtain ⟨m', i', e, _⟩ := Flt.read_fin double (widen_fin (fin_of_number ey) ey).1
    unfold Format.order
    rw [ex, ey, read_inf64, e]
    cases s <;> rfl
  · obtain ⟨m', i', e, _⟩ := Flt.read_fin double (widen_fin (fin_of_number ex) ex).1
    unfold Format.order
    rw [ex, ey, read_inf64, e]
    cases t <;> rfl
  · rw [Flt.order_fin single (fin_of_number ex) (fin_of_number ey), ex, ey, Flt.order_fin double (widen_fin (fin_of_number ex) ex).1 (widen_fin (fin_of_number ey) ey).1, sg_widen ex, sg_widen ey, Flt.compare_mul _ _ (by have := Nat.two_pow_pos k925; omega)]

theorem feq_img {x y A B : Nat} (hx : isNan x = false) (hy : isNan y = false) (hA : Img x A) (hB : Img y B) : feq .f64 A B = feq .f32 x y := by
  rcases hA with ⟨h, _⟩ | ⟨_, rfl⟩
  · simp [hx] at h
  rcases hB with ⟨h, _⟩ | ⟨_, rfl⟩
  · simp [hy] at h
  unfold feq
  show (double.order _ _ == _) = (single.order _ _ == _)
  rw [order_img hx hy]

theorem nan_img {x A : Nat} (hA : Img x A) : isNan64 A = isNan x := by
  rcases hA with ⟨h, h'⟩ | ⟨h, rfl⟩
  · rw [h, h']
  · rw [h, isNan64_iff]
    rcases cases_single h with ⟨s, ex⟩ | ⟨s, m, i, ex⟩
    · rw [ex, read_inf64]; rfl
    · obtain ⟨m', i', e, _⟩ := Flt.read_fin double (widen_fin (fin_of_number ex) ex).1
      rw [ex, e]; rfl

theorem zero_img : Img 0 0 := .inr ⟨by decide +kernel, by decide +kernel⟩

/-- The zeros. -/
theorem zero_of_feq {x : Nat} (h : feq .f32 x 0 = true) : Flt.fin single x = true ∧ Flt.rung single x = 0 := by
  have hn : isNan x = false := by
    cases hh : isNan x
    · rfl
    · unfold feq at h; rw [order_nan_l hh] at h; simp at h
  rcases cases_single hn with ⟨s, ex⟩ | ⟨s, m, i, ex⟩
  · unfold feq at h
    have e0 : single.read 0 = .number false 0 (-149) := by decide +kernel
    have : single.order x 0 = some (if s then .lt else .gt) := by unfold Format.order; rw [ex, e0]; rfl
    change (single.order x 0 == _) = true at h
    rw [this] at h
    cases s <;> simp at h
  · have hf := fin_of_number ex
    refine ⟨hf, ?_⟩
    have h0 : Flt.fin single 0 = true := by decide +kernel
    unfold feq at h
    change (single.order x 0 == _) = true at h
    rw [Flt.order_fin single hf h0] at h
    have e0 : Flt.sg single 0 = 0 := by decide +kernel
    rw [e0] at h
    have h1 : Flt.sg single x = 0 := by
      have := of_decide_eq_true (p := (some (compare (Flt.sg single x) 0) = some .eq)) (by simpa using h)
      simpa using this
    unfold Flt.sg at h1
    have h2 : Flt.mag single (Flt.rung single x) = 0 := by split at h1 <;> omega
    have h3 : Flt.mag single (Flt.rung single x) = Flt.mag single 0 := by rw [h2, Flt.mag_zero]
    exact Flt.mag_inj single h3

theorem eq_of_feq {x y : Nat} (hx : x < 2 ^ 32) (hy : y < 2 ^ 32) (h : feq .f32 x y = true) (hz : ¬ (feq .f32 x 0 = true ∧ feq .f32 y 0 = true)) : x = y := by
  have hxn : isNan x = false := by
    cases hh : isNan x
    · rfl
    · unfold feq at h; rw [order_nan_l hh] at h; simp at h
  have hyn : isNan y = false := by
    cases hh : isNan y
    · rfl
    · unfold feq at h; rw [order_nan_r hh] at h; simp at h
  have hW : 2 * single.signWeight = 2 ^ 32 := by decide +kernel
  have wx := Flt.word_eq single (w := x) (by omega)
  have wy := Flt.word_eq single (w := y) (by omega)
  unfold feq at h
  change (single.order x y == _) = true at h
  rcases cases_single hxn with ⟨s, ex⟩ | ⟨s, m, i, ex⟩ <;> rcases cases_single hyn with ⟨t, ey⟩ | ⟨t, n, j, ey⟩
  · have hst : s = t := by
      unfold Format.order at h
      rw [ex, ey] at h
      cases s <;> cases t <;> simp [Datum.order] at h <;> rfl
    subst hst
    have inf_word : ∀ z, z < 2 ^ 32 → single.read z = .infinity s → z = single.word s single.infRung := by
      intro z hz he
      have wz := Flt.word_eq single (w := z) (by omega)
      unfold Format.read at he
      simp only [] at he
      split at he
      · cases he
      · split at he
        · cases he
        · split at he
          · rename_i h3
            cases he
            have e1 : Flt.rung single z = single.infRung := h3
            rw [e1] at wz
            exact wz.symm
          · cases he
    rw [inf_word x hx ex, inf_word y hy ey]
  · unfold Format.order at h
    rw [ex, ey] at h
    cases s <;> simp [Datum.order] at h
  · unfold Format.order at h
    rw [ex, ey] at h
    cases t <;> simp [Datum.order] at h
  · rw [Flt.order_fin single (fin_of_number ex) (fin_of_number ey)] at h
    have h1 : Flt.sg single x = Flt.sg single y := by
      have : compare (Flt.sg single x) (Flt.sg single y) = .eq := by simpa using h
      simpa using this
    have zero : ∀ z, Flt.fin single z = true → Flt.mag single (Flt.rung single z) = 0 → feq .f32 z 0 = true := by
      intro z hz h0
      unfold feq
      change (single.order z 0 == _) = true
      rw [Flt.order_fin single hz (by decide +kernel)]
      have e0 : Flt.sg single 0 = 0 := by decide +kernel
      have : Flt.sg single z = 0 := by unfold Flt.sg; rw [h0]; split <;> simp
      rw [this, e0]
      rfl
    unfold Flt.sg at h1
    have hm : Flt.mag single (Flt.rung single x) = Flt.mag single (Flt.rung single y) := by split at h1 <;> split at h1 <;> omega
    have hr := Flt.mag_inj single hm
    by_cases h0 : Flt.mag single (Flt.rung single x) = 0
    · exact absurd ⟨zero x (fin_of_number ex) h0, zero y (fin_of_number ey) (by rw [← hm]; exact h0)⟩ hz
    · have hs : Flt.sgn single x = Flt.sgn single y := by
        split at h1 <;> split at h1 <;> first | (simp_all; done) | (exfalso; omega)
      rw [← wx, ← wy, hs, hr]

/-- 1 / a of a zero. -/
theorem inv_zero {A : Nat} (hf : Flt.fin double A = true) (h0 : Flt.rung double A = 0) : floatBits .quo .f64 4607182418800017408 A = some (double.write (.infinity (Flt.sgn double A))) := by
  obtain ⟨m, i, e, _, hm⟩ := Flt.read_fin double hf
  rw [h0, Flt.mag_zero] at hm
  have hm0 : m = 0 := by
    rcases Nat.mul_eq_zero.1 hm with h | h
    · exact h
    · have := Nat.two_pow_pos (i - double.leastPlace).toNat; omega
  subst hm0
  have e1 : ∃ n j, double.read 4607182418800017408 = .number false (n + 1) j := ⟨4503599627370495, -52, by decide +kernel⟩
  obtain ⟨n, j, e1⟩ := e1
  show (double.div _ _) = _
  unfold Format.div
  rw [e1, e]
  simp [Datum.quotient]

/-- Which of both zeros. -/
theorem inv_pos {A : Nat} (hf : Flt.fin double A = true) (h0 : Flt.rung double A = 0) (w : World) : flt .f64 0 (fval .quo .f64 4607182418800017408 A w) = !Flt.sgn double A := by
  unfold fval
  rw [inv_zero hf h0]
  show (double.order 0 (double.write (.infinity (Flt.sgn double A))) == some .lt) = _
  unfold Format.order
  rw [read_inf64, show double.read 0 = .number false 0 (-1074) by decide +kernel]
  cases Flt.sgn double A <;> rfl
theorem inv_dn {A : Nat} (hf : Flt.fin double A = true) (h0 : Flt.rung double A = 0) : fdn .quo .f64 4607182418800017408 A = 0 := by
  unfold fdn
  rw [inv_zero hf h0]
  rfl

/-- The image of a zero. -/
theorem img_zero {x A : Nat} (hA : Img x A) (hx : feq .f32 x 0 = true) : Flt.fin double A = true ∧ Flt.rung double A = 0 ∧ Flt.sgn double A = Flt.sgn single x := by
  obtain ⟨hf, h0⟩ := zero_of_feq hx
  obtain ⟨m, i, e, _⟩ := Flt.read_fin single hf
  have hn : isNan x = false := by rw [isNan_single, e]; rfl
  rcases hA with ⟨h, _⟩ | ⟨_, rfl⟩
  · simp [hn] at h
  obtain ⟨k1, k2, k3⟩ := widen_fin hf e
  rw [e]
  refine ⟨k1, ?_, k2⟩
  rw [h0, Flt.mag_zero, Nat.zero_mul] at k3
  exact Flt.mag_inj double (by rw [k3, Flt.mag_zero])

theorem zero_eq {x y : Nat} (hx : x < 2 ^ 32) (hy : y < 2 ^ 32) (h1 : feq .f32 x 0 = true) (h2 : feq .f32 y 0 = true) : ((!Flt.sgn single x) == (!Flt.sgn single y)) = (x == y) := by
  have hW : 2 * single.signWeight = 2 ^ 32 := by decide +kernel
  have wx := Flt.word_eq single (w := x) (by omega)
  have wy := Flt.word_eq single (w := y) (by omega)
  rw [(zero_of_feq h1).2] at wx
  rw [(zero_of_feq h2).2] at wy
  have w0 : single.word true 0 ≠ single.word false 0 := by decide +kernel
  cases hs : Flt.sgn single x <;> cases ht : Flt.sgn single y <;> rw [hs] at wx <;> rw [ht] at wy <;> rw [← wx, ← wy] <;> simp <;> first | exact w0 | exact w0.symm

theorem nan_of_zero {x : Nat} (h : feq .f32 x 0 = true) : isNan x = false := by
  cases hh : isNan x
  · rfl
  · unfold feq at h; rw [order_nan_l hh] at h; simp at h

theorem feq_self {x : Nat} (h : isNan x = false) : feq .f32 x x = true := by
  unfold isNan at h
  simpa using h

/-- Not both zeros: equal numbers are the same word. -/
theorem feq_eq {x y : Nat} (hx : x < 2 ^ 32) (hy : y < 2 ^ 32) (hxn : isNan x = false) (hz : (feq .f32 x 0 && feq .f32 y 0) = false) : feq .f32 x y = (x == y) := by
  rw [Bool.eq_iff_iff, beq_iff_eq]
  constructor
  · intro h
    refine eq_of_feq hx hy h ?_
    rintro ⟨h1, h2⟩
    simp [h1, h2] at hz
  · rintro rfl
    exact feq_self hxn

end Go.Proofs.YtkgfepakedieaaaGreatDoor
