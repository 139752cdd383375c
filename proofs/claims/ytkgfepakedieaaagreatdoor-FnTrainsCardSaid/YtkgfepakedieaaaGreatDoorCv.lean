/- float64(x) of a float32: exact; 'the same' on float64 is 'the same' on float32. -/
import Derived.Test.YtkgfepakedieaaaGreatDoorBase
import Derived.Test.YtkgfepakedieaaaGreatDoorFlt
namespace Go.Proofs.YtkgfepakedieaaaGreatDoor
open Go.RowKit Ieee

theorem single_least : single.leastPlace = -149 := by decide +kernel
theorem double_least : double.leastPlace = -1074 := by decide +kernel
theorem single_inf : single.infRung = 2139095040 := by decide +kernel
theorem single_sign : single.signWeight = 2147483648 := by decide +kernel
theorem single_bin : single.binade = 8388608 := by decide +kernel
theorem double_bin : double.binade = 2 ^ 52 := rfl

def k925 : Nat := 925
def k277 : Nat := 277
def k2046 : Nat := 2046
theorem k277_eq : k277 = 277 := rfl
theorem k2046_eq : k2046 = 2046 := rfl
theorem pow_mul_le {a b c d : Nat} (h : a + b ≤ c + d) : 2 ^ a * 2 ^ b ≤ 2 ^ c * 2 ^ d := by
  rw [← Nat.pow_add, ← Nat.pow_add]
  exact Nat.pow_le_pow_right (by omega) h
theorem k925_eq : k925 = 925 := rfl
theorem mag_lt_inf32 {r : Nat} (h : r < single.infRung) : Flt.mag single r < 2 ^ k277 := by
  have h1 := Flt.mag_lt single h
  have h2 : Flt.mag single single.infRung = 2 ^ k277 := by decide +kernel
  omega
theorem inf64 : Flt.mag double double.infRung = 2 ^ 52 * 2 ^ k2046 := by decide +kernel

/-- A number of 32 bits, written in 64. -/
theorem widen_fin {x : Nat} (h : Flt.fin single x = true) {s : Bool} {m : Nat} {i : Int} (hr : single.read x = .number s m i) :
    Flt.fin double (double.write (.number s m i)) = true ∧ Flt.sgn double (double.write (.number s m i)) = Flt.sgn single x ∧
      Flt.mag double (Flt.rung double (double.write (.number s m i))) = Flt.mag single (Flt.rung single x) * 2 ^ k925 := by
  obtain ⟨m', i', e1, l1, v1⟩ := Flt.read_fin single h
  rw [hr] at e1
  cases e1
  have hfin : Flt.rung single x < single.infRung := by simpa [Flt.fin] using h
  have hm277 := mag_lt_inf32 hfin
  rw [single_least] at l1 v1
  have hw : (0 : Nat) < double.signWeight := Nat.two_pow_pos _
  have hz : (0 : Nat) < double.infRung := by decide +kernel
  show Flt.fin double (double.nearest _ m i) = true ∧ _
  by_cases hm : m = 0
  · subst hm
    have : double.nearest (Flt.sgn single x) 0 i = double.word (Flt.sgn single x) 0 := by unfold Format.nearest; rw [if_pos rfl]
    obtain ⟨k1, k2⟩ := Flt.rung_word double (Flt.sgn single x) hw
    show Flt.fin double (double.nearest _ 0 i) = true ∧ Flt.sgn double (double.nearest _ 0 i) = _ ∧ Flt.mag double (Flt.rung double (double.nearest _ 0 i)) = _
    rw [this]
    refine ⟨by simp [Flt.fin, k1, hz], k2, ?_⟩
    rw [k1, Flt.mag_zero, ← v1]
    simp only [Nat.zero_mul]
  · have hd : m < 2 ^ (double.fractionBits + 1) := by
      have hp : 0 < 2 ^ (i - -149).toNat := Nat.two_pow_pos _
      -- m is a significand of 24 digits
      have hread := hr
      unfold Format.read at hread
      simp only [] at hread
      have h24 : m < 2 ^ 24 := by
        split at hread
        · rename_i h1
          cases hread
          rw [single_bin] at h1
          omega
        · split at hread
          · cases hread
            have := Nat.mod_lt (x % single.signWeight) (Flt.binade_pos single)
            rw [single_bin] at this ⊢
            omega
          · split at hread <;> cases hread
      exact Nat.lt_of_lt_of_le h24 (by decide)
    obtain ⟨r, hr1, hr2⟩ := Flt.nearest_exact double (Flt.sgn single x) hm hd (i := i) (by rw [double_least]; omega)
    have hM : Flt.mag double r = Flt.mag single (Flt.rung single x) * 2 ^ k925 := by
      rw [hr2, ← v1, double_least, Nat.mul_assoc, ← Nat.pow_add]
      congr 2
      have := k925_eq
      omega
    have hlt : r < double.infRung := by
      refine Flt.lt_of_mag double ?_
      rw [hM, inf64]
      calc Flt.mag single (Flt.rung single x) * 2 ^ k925 < 2 ^ k277 * 2 ^ k925 := Nat.mul_lt_mul_of_pos_right hm277 (Nat.two_pow_pos _)
        _ ≤ _ := pow_mul_le (by have := k925_eq; have := k277_eq; have := k2046_eq; omega)
    have hmin : min r double.infRung = r := Nat.min_eq_left (Nat.le_of_lt hlt)
    rw [hmin] at hr1
    obtain ⟨k1, k2⟩ := Flt.rung_word double (Flt.sgn single x) (Nat.lt_trans hlt (Flt.infRung_lt_sign double))
    show Flt.fin double (double.nearest _ m i) = true ∧ Flt.sgn double (double.nearest _ m i) = _ ∧ Flt.mag double (Flt.rung double (double.nearest _ m i)) = _
    rw [hr1]
    exact ⟨by simp [Flt.fin, k1, hlt], k2, by rw [k1, hM]⟩

/-! the conversion in the walk -/
def isNan64 (x : Nat) : Bool := !feq .f64 x x
@[go_sem] theorem fold_nan64 (x : Nat) : (!feq .f64 x x) = isNan64 x := rfl

theorem isNan64_iff (x : Nat) : isNan64 x = (double.read x).isNaN := by
  unfold isNan64 feq
  show (!(double.order x x == some .eq)) = _
  unfold Format.order
  cases double.read x <;> simp [Datum.order, Datum.isNaN]

/-- float64(x): the same number; a NaN of the tape's choosing. -/
def c64 (b : Nat) (w : World) : Nat :=
  if isNan b then (Question.nanConv .f64 b).cut (w.tape w.drawn (Question.nanConv .f64 b)) else double.write (single.read b)
def cdn (b : Nat) : Nat := if isNan b then 1 else 0

theorem nanConv_nan (b t : Nat) : isNan64 ((Question.nanConv .f64 b).cut t) = true := by
  rw [isNan64_iff]
  have hi : double.infRung = 9218868437227405312 := by decide +kernel
  have hw : double.signWeight = 9223372036854775808 := by decide +kernel
  have hb : double.binade = 4503599627370496 := by decide +kernel
  show (double.read (t % 2 * 2 ^ 63 + 0x7ff0000000000000 + 1 + t / 2 % (2 ^ 52 - 1))).isNaN = true
  have hr : (t % 2 * 2 ^ 63 + 0x7ff0000000000000 + 1 + t / 2 % (2 ^ 52 - 1)) % double.signWeight = 0x7ff0000000000000 + 1 + t / 2 % (2 ^ 52 - 1) := by rw [hw]; omega
  unfold Format.read
  simp only [hr, hi, hb]
  rw [if_neg (by omega), if_neg (by omega), if_neg (by omega)]
  rfl

theorem read_inf64 (s : Bool) : double.read (double.write (.infinity s)) = .infinity s := by cases s <;> decide +kernel

theorem fin_of_number {x : Nat} {s : Bool} {m : Nat} {i : Int} (h : single.read x = .number s m i) : Flt.fin single x = true := by
  unfold Flt.fin Flt.rung
  unfold Format.read at h
  simp only [] at h
  split at h
  · rename_i h1
    have : single.binade < single.infRung := by decide +kernel
    simp; omega
  · split at h
    · rename_i h2; simpa using h2
    · split at h <;> cases h

theorem isNan_single (x : Nat) : isNan x = (single.read x).isNaN := isNan_iff x

theorem fin_read64 {x : Nat} (h : Flt.fin double x = true) : (double.read x).isInfinity = false := by
  obtain ⟨m, i, e, _⟩ := Flt.read_fin double h
  rw [e]
  rfl

@[go_sem] theorem run_c64 {P : Program} (src dst : TypeId) (b : Nat) (w : World) (hs : (P.underlying src).isSome = true) (hd : P.underlying dst = some (.float .f64)) :
    (convert src dst (.float .f32 b)).run P w = .ok (.float .f64 (c64 b w)) (w.drewN (cdn b)) := by
  obtain ⟨u, hs'⟩ := Option.isSome_iff_exists.1 hs
  have key : (Conv.floatToFloat .f32 b .f64).run P w = .ok (.float .f64 (c64 b w)) (w.drewN (cdn b)) := by
    unfold Conv.floatToFloat
    rw [if_neg (by decide)]
    show Sem.run P (match single.read b with | .nan _ _ => _ | .infinity s => _ | .number s m e => _) w = _
    unfold c64 cdn
    cases hx : single.read b with
    | nan s t =>
      have hn : isNan b = true := by rw [isNan_single, hx]; rfl
      simp [hn, choose, Sem.run, Question.forced, World.drewN]
    | infinity s =>
      have hn : isNan b = false := by rw [isNan_single, hx]; rfl
      simp [hn, World.drewN_zero]
      rfl
    | number s m i =>
      have hn : isNan b = false := by rw [isNan_single, hx]; rfl
      have hf := (widen_fin (fin_of_number hx) hx).1
      have hi : (FloatKind.f64.decode (FloatKind.f64.encode (.number s m i))).isInfinity = false := fin_read64 hf
      simp [hn, hi, World.drewN_zero]
      rfl
  cases u <;> simp [convert, run_underlying hs', run_underlying hd, key]

end Go.Proofs.YtkgfepakedieaaaGreatDoor
