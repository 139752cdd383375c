/- Contracts for the great law on trains: the answers, exactly; plain laws on trains driven back, and joined. -/
import Derived.Test.YtkgfepakedieaaaGreatDoorTrA
import Derived.Test.YtkgfepakedieaaaGreatDoorTrZ
import Derived.Test.YtkgfepakedieaaaGreatDoorZfZ
import Derived.Test.YtkgfepakedieaaaGreatDoorCtZs
import Derived.Test.YtkgfepakedieaaaGreatDoorCtY
import Derived.Test.YtkgfepakedieaaaGreatDoorCtTy
set_option linter.unusedVariables false
set_option linter.unusedSimpArgs false
namespace Go.Proofs.YtkgfepakedieaaaGreatDoor
open Go.RowKit
set_option linter.unusedVariables false
set_option linter.unusedSimpArgs false

theorem readNumber_yes (r : Nat) (hr : r < 2 ^ 32) (w : World) :
    Calls Tryz.prog 7 #[.string (numText r)] w fun e w' => e = .returned (.tuple #[.float .f32 (cn r), .int .i64 0]) ∧ Below w.heap.size w w' := by
  obtain ⟨h1, h2⟩ := num_text r hr
  have h := implReadNumber_any (numText r) (by rw [numText_sizeY]; decide) w
  have hK : readK (numText r) = 0 := by unfold readK; rw [h1]; rfl
  rw [h2, hK] at h
  exact h

theorem readTrain_yes {ps : List T3} (hB : trainB ps = true) (hk : ∀ p ∈ ps, POk p) (h0 : ps ≠ []) (w : World) (hl : Laid4 w) :
    Calls Tryz.prog 9 #[.string (trainText ps)] w (GivesT w 0 ps) := by
  obtain ⟨h1, h2⟩ := rt_text hB hk h0
  have hlen : ps.length ≤ 8 := by
    simp [trainB, withinB] at hB
    omega
  have hs : (trainText ps).size ≤ 1048576 := by
    have := textB_size ps hlen hB
    have e : trainText ps = trainTextB ps := if_pos hB
    rw [e]
    omega
  have h := implReadTrain_any (trainText ps) hs w hl
  have hK : rtK (trainText ps) = 0 := by unfold rtK; rw [if_pos h1]
  rw [h2, hK] at h
  exact h

theorem implBack_yes {ps : List T3} (v : Value) (w : World) (hv : Tr w v ps) (hB : trainB ps = true) :
    Calls Tryz.prog 11 #[v] w (GivesT w 0 (backT ps)) := by
  have h := implBackTrain_any ps v w hv
  rw [hB] at h
  exact h
theorem specBack_yes {ps : List T3} (v : Value) (w : World) (hv : Tr w v ps) (hB : trainB ps = true) :
    Calls Tryz.prog 12 #[v] w (GivesT w 0 (backT ps)) := by
  have h := specBackTrain_any ps v w hv
  rw [hB] at h
  exact h

theorem backT_back (ps : List T3) : backT (backT ps) = ps := by
  unfold backT
  rw [← List.map_reverse, List.reverse_reverse, List.map_map]
  conv => rhs; rw [← List.map_id ps]
  refine List.map_congr_left fun p _ => ?_
  rfl
theorem backT_mem {ps : List T3} {x : T3} (h : x ∈ backT ps) : backP x ∈ ps := by
  unfold backT at h
  obtain ⟨p, hp, rfl⟩ := List.mem_map.1 h
  exact List.mem_reverse.1 hp
theorem backT_len (ps : List T3) : (backT ps).length = ps.length := by simp [backT]

theorem factI_yes {ps : List T3} (v : Value) (w : World) (hv : Tr w v ps) (hB : trainB ps = true) (hF : F (factC ps)) :
    Calls Tryz.prog 25 #[v] w fun e w' => e = .returned (.tuple #[.float .f32 (factC ps), .int .i64 0]) ∧ Below w.heap.size w w' := by
  refine (implFactorOf_any ps v w hv).mono ?_
  rintro e w' ⟨r, rfl, hr, _, hb⟩
  rw [hB] at hr ⊢
  have hr' : cn r = factC ps := hr
  rw [F_of_cn hr' hF]
  exact ⟨rfl, hb⟩
theorem factS_yes {ps : List T3} (v : Value) (w : World) (hv : Tr w v ps) (hB : trainB ps = true) (hF : F (factC ps)) :
    Calls Tryz.prog 26 #[v] w fun e w' => e = .returned (.tuple #[.float .f32 (factC ps), .int .i64 0]) ∧ Below w.heap.size w w' := by
  refine (specFactorOf_any ps v w hv).mono ?_
  rintro e w' ⟨r, rfl, hr, _, hb⟩
  rw [hB] at hr ⊢
  have hr' : cn r = factC ps := hr
  rw [F_of_cn hr' hF]
  exact ⟨rfl, hb⟩

/-- The ratio in lowest terms. -/
def rnN (ps : List T3) : Nat := numN ps / Nat.gcd (numN ps) (denN ps)
def rdN (ps : List T3) : Nat := denN ps / Nat.gcd (numN ps) (denN ps)
theorem ratio_yes {ps : List T3} (v : Value) (w : World) (hv : Tr w v ps) (hB : trainB ps = true) :
    Calls Tryz.prog 22 #[v] w fun e w' => e = .returned (.tuple #[.int .i64 (rnN ps : Nat), .int .i64 (rdN ps : Nat), .int .i64 0]) ∧ Below w.heap.size w w' := by
  have h := implRatioOf_any ps v w hv
  rw [hB] at h
  exact h

theorem reversed_yes {ps : List T3} (v : Value) (w : World) (hv : Tr w v ps) (hB : trainB ps = true) :
    Calls Tryz.prog 24 #[v] w fun e w' => e = .returned (.tuple #[.bool ((ps.length : Int) % 2 == 1), .int .i64 0]) ∧ Below w.heap.size w w' := by
  have h := implIsReversed_any ps v w hv
  rw [hB] at h
  exact h

theorem foldMul (g : T3 → Nat) : ∀ (qs : List T3) (n : Nat), qs.foldl (fun r p => r * g p) n = n * qs.foldl (fun r p => r * g p) 1 := by
  intro qs
  induction qs with
  | nil => intro n; simp
  | cons q qs ih =>
    intro n
    rw [List.foldl_cons, List.foldl_cons, ih, ih (1 * g q)]
    rw [Nat.one_mul, Nat.mul_assoc]
theorem numN_back (ps : List T3) : numN (backT ps) = denN ps ∧ denN (backT ps) = numN ps := by
  induction ps with
  | nil => exact ⟨rfl, rfl⟩
  | cons p ps ih =>
    have e : backT (p :: ps) = backT ps ++ [backP p] := by simp [backT]
    rw [e, numN_app, denN_app, ih.1, ih.2]
    constructor
    · show denN ps * (1 * (backP p).1.toNat) = ps.foldl (fun r p => r * p.2.1.toNat) (1 * p.2.1.toNat)
      rw [foldMul (fun p => p.2.1.toNat) ps (1 * p.2.1.toNat)]
      show denN ps * (1 * p.2.1.toNat) = 1 * p.2.1.toNat * denN ps
      exact Nat.mul_comm _ _
    · show numN ps * (1 * (backP p).2.1.toNat) = ps.foldl (fun r p => r * p.1.toNat) (1 * p.1.toNat)
      rw [foldMul (fun p => p.1.toNat) ps (1 * p.1.toNat)]
      show numN ps * (1 * p.1.toNat) = 1 * p.1.toNat * numN ps
      exact Nat.mul_comm _ _
theorem ratio_back (ps : List T3) : rnN (backT ps) = rdN ps ∧ rdN (backT ps) = rnN ps := by
  obtain ⟨h1, h2⟩ := numN_back ps
  unfold rnN rdN
  rw [h1, h2, Nat.gcd_comm]
  exact ⟨rfl, rfl⟩

theorem sameTB_refl (ps : List T3) : sameTB ps ps = true := by
  unfold sameTB
  simp only [beq_self_eq_true, Bool.true_and]
  refine List.all_eq_true.2 fun x hx => ?_
  have e : x.1 = x.2 := by
    induction ps with
    | nil => simp at hx
    | cons p ps ih =>
      rw [List.zip_cons_cons] at hx
      rcases List.mem_cons.1 hx with rfl | h
      · rfl
      · exact ih h
  rw [e]
  simp [pairSame, teq_refl]

theorem rev_join (ps qs : List T3) : (((ps ++ qs).length : Int) % 2 == 1) = (((ps.length : Int) % 2 == 1) != ((qs.length : Int) % 2 == 1)) := by
  rw [List.length_append]
  have h1 : (ps.length : Int) % 2 = 0 ∨ (ps.length : Int) % 2 = 1 := by omega
  have h2 : (qs.length : Int) % 2 = 0 ∨ (qs.length : Int) % 2 = 1 := by omega
  have h3 : ((ps.length + qs.length : Nat) : Int) % 2 = ((ps.length : Int) % 2 + (qs.length : Int) % 2) % 2 := by omega
  rw [h3]
  rcases h1 with h1 | h1 <;> rcases h2 with h2 | h2 <;> rw [h1, h2] <;> rfl

end Go.Proofs.YtkgfepakedieaaaGreatDoor

/-! Plain law: a train's factor is near the quotient of its ratio. -/
namespace Go.Proofs.YtkgfepakedieaaaGreatDoor
open Go.RowKit
open Flt (z2_pos z2_add z2_mono)
set_option linter.unusedVariables false

theorem ratio_facts {ps : List T3} (hg : ∀ x ∈ ps, PG x) (hl : ps.length ≤ 8) : 1 ≤ rnN ps ∧ 1 ≤ rdN ps ∧ rnN ps ≤ 2560000000000000000 ∧ rdN ps ≤ 2560000000000000000 ∧ ((rnN ps : Nat) : Rat) / ((rdN ps : Nat) : Rat) = ratQ ps ∧ ∀ k, 2 ≤ k → ¬ (rnN ps % k = 0 ∧ rdN ps % k = 0) := by
  obtain ⟨h1, h2, h3, h4⟩ := denN_pos hg ps.length (Nat.le_refl _)
  rw [List.take_length] at h1 h2 h3 h4
  have hp : (200 : Nat) ^ ps.length ≤ 200 ^ 8 := Nat.pow_le_pow_right (by omega) hl
  have h8 : (200 : Nat) ^ 8 = 2560000000000000000 := by decide
  obtain ⟨r1, r2, r3, r4⟩ := red_ratio h1 h2
  have d1 := Nat.div_le_self (numN ps) (Nat.gcd (numN ps) (denN ps))
  have d2 := Nat.div_le_self (denN ps) (Nat.gcd (numN ps) (denN ps))
  exact ⟨r2, r3, by show numN ps / _ ≤ _; omega, by show denN ps / _ ≤ _; omega, r1, r4⟩

theorem near_ratio {ps : List T3} (hg : ∀ x ∈ ps, PG x) (hl : ps.length ≤ 8) {K p : Nat} (hK : 3 * ps.length + 2 ≤ K) (hp : F p) (hsp : S p = false) (hp1 : A p ≤ 1) (hp0 : (2 : Rat) ^ (-30 : Int) ≤ A p)
    (hnum : 1 - (1 - 1 / 16777216) ^ K ≤ A p * ((1 - 1 / 16777216) ^ 1 * (1 - 1 / 16777216) ^ 1 * (1 - 1 / 16777216) ^ 1)) :
    F (cop .sub (factC ps) (cutC (rnN ps) (rdN ps))) ∧ nearB (factC ps) (cutC (rnN ps) (rdN ps)) p 0 = true ∧ F (factC ps) ∧ F (cutC (rnN ps) (rdN ps)) ∧
      ∃ q, floatBits .quo .f64 (floatOfInt .f64 (rnN ps : Int)) (floatOfInt .f64 (rdN ps : Int)) = some q ∧ ∃ m i, FloatKind.f64.decode q = .number false m i := by
  obtain ⟨f1, f2, f3, f4⟩ := fact_near hg hl ps.length (Nat.le_refl _)
  rw [List.take_length] at f1 f2 f3 f4
  obtain ⟨r1, r2, r3, r4, r5, _⟩ := ratio_facts hg hl
  obtain ⟨g1, g2, g3⟩ := f1
  have hA : 0 < A (factC ps) := near_pos f3 f4
  have glo : (2 : Rat) ^ (-48 : Int) ≤ A (factC ps) := by
    rcases g3 with h | h
    · rw [h] at hA; exact absurd hA Rat.lt_irrefl
    · exact Rat.le_trans (z2_mono (by omega)) h
  have ghi : A (factC ps) ≤ 2 ^ (48 : Int) := Rat.le_trans g2 (z2_mono (by omega))
  obtain ⟨k1, k2⟩ := Nr_def (Flt.Near.mono f3 (show 3 * ps.length ≤ 24 by omega) (A_nn _))
  have er : ((1 : Rat) - 1 / 16777216) ^ 24 ≥ 1 / 2 := by decide +kernel
  have er1 : ((1 : Rat) - 1 / 16777216) ^ 24 ≤ 1 := by decide +kernel
  obtain ⟨ρ, hρ⟩ : ∃ ρ, ρ = ((1 : Rat) - 1 / 16777216) ^ 24 := ⟨_, rfl⟩
  rw [← hρ] at k1 k2 er er1
  have e48 : (2 : Rat) ^ (48 : Int) = 281474976710656 := by decide +kernel
  have em48 : (2 : Rat) ^ (-48 : Int) = 1 / 281474976710656 := by decide +kernel
  have e50 : (2 : Rat) ^ (50 : Int) = 1125899906842624 := by decide +kernel
  have em50 : (2 : Rat) ^ (-50 : Int) = 1 / 1125899906842624 := by decide +kernel
  have q1 : ratQ ps * (1 / 2) ≤ A (factC ps) := Rat.le_trans (Rat.mul_le_mul_of_nonneg_left er (Rat.le_of_lt f4)) k2
  have q2 : A (factC ps) * (1 / 2) ≤ ratQ ps := Rat.le_trans (Rat.mul_le_mul_of_nonneg_left er (Rat.le_of_lt hA)) k1
  obtain ⟨c1, c2, c3, c4⟩ := cut_ok r1 (by omega) r2 (by omega) (by rw [r5, em50]; grind) (by rw [r5, e50]; grind)
  rw [r5] at c4
  have hn : Nr K (A (factC ps)) (A (cutC (rnN ps) (rdN ps))) := Flt.Near.mono (Flt.Near.trans f3 c4.symm) (by omega) (A_nn _)
  have hB : 0 < A (cutC (rnN ps) (rdN ps)) := near_pos c4 f4
  obtain ⟨j1, j2⟩ := Nr_def (Flt.Near.mono c4 (show 2 ≤ 24 by omega) (A_nn _))
  rw [← hρ] at j1 j2
  have q3 : A (cutC (rnN ps) (rdN ps)) * (1 / 2) ≤ ratQ ps := Rat.le_trans (Rat.mul_le_mul_of_nonneg_left er (Rat.le_of_lt hB)) j1
  have q4 : ratQ ps * (1 / 2) ≤ A (cutC (rnN ps) (rdN ps)) := Rat.le_trans (Rat.mul_le_mul_of_nonneg_left er (Rat.le_of_lt f4)) j2
  have e100 : (1125899906842624 : Rat) ≤ 2 ^ (100 : Int) := by decide +kernel
  have z := zero_F
  obtain ⟨n1, n2⟩ := near_of (k := K) g1 c2 (by rw [f2, c3]) hp z.1 hsp z.2.1 hn (by grind) (by grind) hp1 (by rw [z.2.2]; decide) hnum (by
    intro m hm
    right
    have hm2 : (2 : Rat) ^ (-50 : Int) ≤ m := by
      rcases hm with rfl | rfl
      · rw [em50]; grind
      · rw [em50]; grind
    exact Rat.le_trans (z2_mono (by omega)) (mul_ge hm2 hp0))
  exact ⟨n1, n2, g1, c2, c1⟩

theorem near_four {ps : List T3} (hg : ∀ x ∈ ps, PG x) (hl : ps.length ≤ 4) : F (cop .sub (factC ps) (cutC (rnN ps) (rdN ps))) ∧ nearB (factC ps) (cutC (rnN ps) (rdN ps)) 897988541 0 = true ∧ F (factC ps) ∧ F (cutC (rnN ps) (rdN ps)) ∧
      ∃ q, floatBits .quo .f64 (floatOfInt .f64 (rnN ps : Int)) (floatOfInt .f64 (rdN ps : Int)) = some q ∧ ∃ m i, FloatKind.f64.decode q = .number false m i :=
  near_ratio hg (by omega) (K := 14) (p := 897988541) (by omega) (F_const (by decide +kernel)) (by decide +kernel) (by rw [show A 897988541 = 8796093 / 8796093022208 from A_const (m := 8796093 * 2 ^ 106) (by decide +kernel) (by decide +kernel)]; decide +kernel) (by rw [show A 897988541 = 8796093 / 8796093022208 from A_const (m := 8796093 * 2 ^ 106) (by decide +kernel) (by decide +kernel)]; decide +kernel) (by rw [show A 897988541 = 8796093 / 8796093022208 from A_const (m := 8796093 * 2 ^ 106) (by decide +kernel) (by decide +kernel)]; decide +kernel)
theorem near_eight {ps : List T3} (hg : ∀ x ∈ ps, PG x) (hl : ps.length ≤ 8) : F (cop .sub (factC ps) (cutC (rnN ps) (rdN ps))) ∧ nearB (factC ps) (cutC (rnN ps) (rdN ps)) 906377149 0 = true ∧ F (factC ps) ∧ F (cutC (rnN ps) (rdN ps)) ∧
      ∃ q, floatBits .quo .f64 (floatOfInt .f64 (rnN ps : Int)) (floatOfInt .f64 (rdN ps : Int)) = some q ∧ ∃ m i, FloatKind.f64.decode q = .number false m i :=
  near_ratio hg hl (K := 26) (p := 906377149) (by omega) (F_const (by decide +kernel)) (by decide +kernel) (by rw [show A 906377149 = 8796093 / 4398046511104 from A_const (m := 8796093 * 2 ^ 107) (by decide +kernel) (by decide +kernel)]; decide +kernel) (by rw [show A 906377149 = 8796093 / 4398046511104 from A_const (m := 8796093 * 2 ^ 107) (by decide +kernel) (by decide +kernel)]; decide +kernel) (by rw [show A 906377149 = 8796093 / 4398046511104 from A_const (m := 8796093 * 2 ^ 107) (by decide +kernel) (by decide +kernel)]; decide +kernel)

end Go.Proofs.YtkgfepakedieaaaGreatDoor

/-! Plain law: the cut quotient as the walk meets it. -/
namespace Go.Proofs.YtkgfepakedieaaaGreatDoor
open Go.RowKit

theorem sameB_refl (a : Nat) : sameB a a = true := by simp [sameB]
theorem sameB_of_cn {x y : Nat} (h : cn x = cn y) : sameB x y = true := by
  have hn : isNan x = isNan y := by rw [← isNan_cn x, h, isNan_cn]
  cases hx : isNan x
  · rw [cn_of_num hx, cn_of_num (by rw [← hn]; exact hx)] at h
    simp [sameB, h]
  · simp [sameB, hx, ← hn]

theorem fin_notInf {x : Nat} (h : F x) : (FloatKind.f32.decode x).isInfinity = false := by
  obtain ⟨m, i, e, _⟩ := Flt.read_fin Ieee.single h.1
  have e' : FloatKind.f32.decode x = .number (Flt.sgn Ieee.single x) m i := e
  rw [e']
  rfl

theorem quo_cut {a b q : Nat} (hq : floatBits .quo .f64 (floatOfInt .f64 (a : Int)) (floatOfInt .f64 (b : Int)) = some q) (hn : ∃ m i, FloatKind.f64.decode q = .number false m i) (hF : F (cutC a b)) :
    (∀ w, fval .quo .f64 (floatOfInt .f64 (a : Int)) (floatOfInt .f64 (b : Int)) w = q) ∧ fdn .quo .f64 (floatOfInt .f64 (a : Int)) (floatOfInt .f64 (b : Int)) = 0 ∧ (∀ w, c32 q w = cutC a b) ∧ c32n q = 0 := by
  obtain ⟨m, i, hd⟩ := hn
  have hc : cutC a b = FloatKind.f32.encode (.number false m i) := by
    unfold cutC
    rw [hq, Option.getD_some, hd]
  have hi := fin_notInf hF
  rw [hc] at hi
  have hi' : ¬ (FloatKind.f32.decode (FloatKind.f32.encode (.number false m i))).isInfinity = true := by rw [hi]; exact Bool.false_ne_true
  refine ⟨fun w => by unfold fval; rw [hq, Option.getD_some], by unfold fdn; rw [hq]; rfl, fun w => ?_, ?_⟩
  · unfold c32
    rw [hd]
    simp only [if_neg hi', hc]
  · unfold c32n
    rw [hd]
    simp only [if_neg hi']

end Go.Proofs.YtkgfepakedieaaaGreatDoor
