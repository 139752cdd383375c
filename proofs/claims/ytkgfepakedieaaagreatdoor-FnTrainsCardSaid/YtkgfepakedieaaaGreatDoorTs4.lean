/- The great law on trains: the loop along the divisors. (written by wip/gen/trains.py.) -/
import Derived.Test.YtkgfepakedieaaaGreatDoorTs1
namespace Go.Proofs.YtkgfepakedieaaaGreatDoor.yTrains
open Go.RowKit
set_option linter.unusedVariables false
set_option linter.unusedSimpArgs false

set_option maxRecDepth 100000 in
set_option maxHeartbeats 16000000 in
theorem e20 {N D N2 D2 : Nat} {W w : World} {Q : Exit → Act → World → Prop} {R : Code} {f : Nat → Value} (f18 : f 18 = .int .i64 (N : Nat)) (f19 : f 19 = .int .i64 (D : Nat)) (f29 : f 29 = .int .i64 (N2 : Nat)) (f30 : f 30 = .int .i64 (D2 : Nat))
    (h1 : ∀ k, 2 ≤ k → ¬ (N % k = 0 ∧ D % k = 0)) (h2 : ∀ k, 2 ≤ k → ¬ (N2 % k = 0 ∧ D2 % k = 0)) (hw : BelowC W w)
    (k : ∀ (w' : World) (g : Nat → Value), BelowC W w' → Fr.Kp 0 38 f g → Code.wp Tryz.prog R Q ⟨Fr.ft 366 g, []⟩ w') :
    Code.wp Tryz.prog ((Fr.fs (Fr.sn (Fr.sn (Fr.sn (Fr.sn (Fr.sn (Fr.sn (Fr.sn (Fr.sn (Fr.sn (Fr.sn (Fr.sn (Fr.sn (Fr.sn (Fr.sn (Fr.sn (Fr.sn (Fr.sn (Fr.sn (Fr.sn (Fr.sn (B3)))))))))))))))))))))).seq R) Q ⟨Fr.ft 366 f, []⟩ w := by
  have HK := Lib.hid k
  have H1 := Lib.hid h1
  have H2 := Lib.hid h2
  clear k h1 h2
  conv => arg 2; arg 1; whnf
  have E1 := @Fr.ev_tmp 366
  have E2 := @Fr.ev_const 366
  have E3 := @Fr.up_get
  have E4 := @Fr.ev_func 366
  have E5 := @Fr.ev_global 366
  refine wp_seq ?_
  refine wp_seq ?_
  refine wp_region_lit ?_
  refine Fr.l_as rfl rfl (Fr.w_none rfl) (by simp only [Fr.ev_tmp, Fr.ev_const, Fr.up_get, Nat.reduceLT, Nat.reduceEqDiff, ↓reduceIte]; try rfl) ?_
  refine Fr.l_nil ?_
  refine wp_block ?_
  refine Fr.l_loop (fun g w' => ∃ i : Nat, 2 ≤ i ∧ i ≤ 200 ∧ g 38 = .int .i64 (i : Int) ∧ Fr.Kp 0 38 f g ∧ BelowC W w') 38 (by decide) (fun v => (200 - (intOf v).toNat)) ?_ ?_
  · exact ⟨2, by omega, by omega, (by simp only [Fr.up_get, ↓reduceIte]; rfl), (by (repeat (refine Fr.Kp.up (by decide) ?_)); exact Fr.Kp.refl _ _ _), hw⟩
  rintro g wr ⟨i, hi2, hi, h38, hK, hb⟩
  have h18 := (hK 18 (by decide) (by decide)).trans f18
  have h19 := (hK 19 (by decide) (by decide)).trans f19
  have h29 := (hK 29 (by decide) (by decide)).trans f29
  have h30 := (hK 30 (by decide) (by decide)).trans f30
  refine wp_seq ?_
  refine wp_seq ?_
  by_cases hlt : i < 200
  · have hlt' : (i : Int) < 200 := by omega
    have hi0n : ¬ i = 0 := by omega
    have hi0 : (i : Int) ≠ 0 := by omega
    have hi0b : ((i : Int) == 0) = false := by simpa using hi0
    have hwi : IntKind.i64.wrap ((i : Int) + 1) = (i : Int) + 1 := by rw [IntKind.wrap_i64]; omega
    have n1 := H1.out i hi2
    have n2 := H2.out i hi2
    have t1 : (N : Int).tmod (i : Int) = ((N % i : Nat) : Int) := (Int.ofNat_tmod N i).symm
    have v1 : IntKind.i64.wrap ((N % i : Nat) : Int) = ((N % i : Nat) : Int) := by
      have := Nat.mod_lt N (show 0 < i by omega)
      rw [IntKind.wrap_i64]; omega
    have u1 : (((N % i : Nat) : Int) == 0) = decide (N % i = 0) := by
      rw [Bool.eq_iff_iff, beq_iff_eq, decide_eq_true_eq]; omega
    obtain ⟨x1, hx1⟩ : ∃ z, z = ((N % i : Nat) : Int) := ⟨_, rfl⟩
    rw [← hx1] at t1 v1 u1
    clear hx1
    have t2 : (D : Int).tmod (i : Int) = ((D % i : Nat) : Int) := (Int.ofNat_tmod D i).symm
    have v2 : IntKind.i64.wrap ((D % i : Nat) : Int) = ((D % i : Nat) : Int) := by
      have := Nat.mod_lt D (show 0 < i by omega)
      rw [IntKind.wrap_i64]; omega
    have u2 : (((D % i : Nat) : Int) == 0) = decide (D % i = 0) := by
      rw [Bool.eq_iff_iff, beq_iff_eq, decide_eq_true_eq]; omega
    obtain ⟨x2, hx2⟩ : ∃ z, z = ((D % i : Nat) : Int) := ⟨_, rfl⟩
    rw [← hx2] at t2 v2 u2
    clear hx2
    have t3 : (N2 : Int).tmod (i : Int) = ((N2 % i : Nat) : Int) := (Int.ofNat_tmod N2 i).symm
    have v3 : IntKind.i64.wrap ((N2 % i : Nat) : Int) = ((N2 % i : Nat) : Int) := by
      have := Nat.mod_lt N2 (show 0 < i by omega)
      rw [IntKind.wrap_i64]; omega
    have u3 : (((N2 % i : Nat) : Int) == 0) = decide (N2 % i = 0) := by
      rw [Bool.eq_iff_iff, beq_iff_eq, decide_eq_true_eq]; omega
    obtain ⟨x3, hx3⟩ : ∃ z, z = ((N2 % i : Nat) : Int) := ⟨_, rfl⟩
    rw [← hx3] at t3 v3 u3
    clear hx3
    have t4 : (D2 : Int).tmod (i : Int) = ((D2 % i : Nat) : Int) := (Int.ofNat_tmod D2 i).symm
    have v4 : IntKind.i64.wrap ((D2 % i : Nat) : Int) = ((D2 % i : Nat) : Int) := by
      have := Nat.mod_lt D2 (show 0 < i by omega)
      rw [IntKind.wrap_i64]; omega
    have u4 : (((D2 % i : Nat) : Int) == 0) = decide (D2 % i = 0) := by
      rw [Bool.eq_iff_iff, beq_iff_eq, decide_eq_true_eq]; omega
    obtain ⟨x4, hx4⟩ : ∃ z, z = ((D2 % i : Nat) : Int) := ⟨_, rfl⟩
    rw [← hx4] at t4 v4 u4
    clear hx4
    refine wp_region_lit ?_
    refine Fr.l_mv rfl rfl (Fr.w_none rfl) (by simp only [Fr.ev_tmp, Fr.ev_const, Fr.up_get, Nat.reduceLT, Nat.reduceEqDiff, ↓reduceIte, h18, h19, h29, h30, h38]; try rfl) ?_
    refine Fr.l_val rfl (Fr.w_none rfl) (by go_simp; first | done | (with_reducible rfl) | (with_reducible exact ⟨rfl, rfl⟩) | (with_reducible exact ⟨⟨rfl, rfl⟩, rfl⟩)) ?_
    refine Fr.l_nil ?_
    refine Fr.l_cond (t := true) (by simp only [Fr.ev_tmp, Fr.ev_const, Fr.up_get, Nat.reduceLT, Nat.reduceEqDiff, ↓reduceIte]; try rfl) (fun _ => ?_) (fun h => absurd h (by decide))
    refine wp_skip ?_
    refine wp_seq ?_
    refine wp_block ?_
    refine wp_seq ?_
    by_cases p1 : N % i = 0 <;> by_cases p2 : N2 % i = 0
    · replace u1 : (x1 == 0) = true := by rw [u1]; simpa using p1
      replace u3 : (x3 == 0) = true := by rw [u3]; simpa using p2
      have p3 : ¬ D % i = 0 := fun h => n1 ⟨p1, h⟩
      replace u2 : (x2 == 0) = false := by rw [u2]; simpa using p3
      have p4 : ¬ D2 % i = 0 := fun h => n2 ⟨p2, h⟩
      replace u4 : (x4 == 0) = false := by rw [u4]; simpa using p4
      clear n1 n2 p1 p2 p3 p4
      refine wp_region_lit ?_
      refine Fr.l_ops ?_
      intro OPS hO
      have d4 : (OPS[4]?).bind (·.dst) = some 294 := by rw [hO]; kernel_rfl
      have d10 : (OPS[10]?).bind (·.dst) = some 300 := by rw [hO]; kernel_rfl
      have d15 : (OPS[15]?).bind (·.dst) = some 305 := by rw [hO]; kernel_rfl
      clear hO
      refine Fr.l_mv rfl rfl (Fr.w_none rfl) (by simp only [Fr.ev_tmp, Fr.ev_const, Fr.up_get, Nat.reduceLT, Nat.reduceEqDiff, ↓reduceIte, h18, h19, h29, h30, h38]; try rfl) ?_
      refine Fr.l_mv rfl rfl (Fr.w_none rfl) (by simp only [Fr.ev_tmp, Fr.ev_const, Fr.up_get, Nat.reduceLT, Nat.reduceEqDiff, ↓reduceIte, h18, h19, h29, h30, h38]; try rfl) ?_
      refine Fr.l_val rfl (Fr.w_none rfl) (by go_simp; first | done | (with_reducible rfl) | (with_reducible exact ⟨rfl, rfl⟩) | (with_reducible exact ⟨⟨rfl, rfl⟩, rfl⟩)) ?_
      refine Fr.l_val rfl (Fr.w_none rfl) (by go_simp; first | done | (with_reducible rfl) | (with_reducible exact ⟨rfl, rfl⟩) | (with_reducible exact ⟨⟨rfl, rfl⟩, rfl⟩)) ?_
      refine Fr.l_mv rfl rfl (Fr.w_none rfl) (by simp only [Fr.ev_tmp, Fr.ev_const, Fr.up_get, Nat.reduceLT, Nat.reduceEqDiff, ↓reduceIte, h18, h19, h29, h30, h38]; try rfl) ?_
      refine Fr.l_mv rfl rfl (Fr.w_yes rfl d4 (by decide) (by simp only [Fr.ev_tmp, Fr.ev_const, Fr.up_get, Nat.reduceLT, Nat.reduceEqDiff, ↓reduceIte])) (by simp only [Fr.ev_tmp, Fr.ev_const, Fr.up_get, Nat.reduceLT, Nat.reduceEqDiff, ↓reduceIte, h18, h19, h29, h30, h38]; try rfl) ?_
      refine Fr.l_mv rfl rfl (Fr.w_yes rfl d4 (by decide) (by simp only [Fr.ev_tmp, Fr.ev_const, Fr.up_get, Nat.reduceLT, Nat.reduceEqDiff, ↓reduceIte])) (by simp only [Fr.ev_tmp, Fr.ev_const, Fr.up_get, Nat.reduceLT, Nat.reduceEqDiff, ↓reduceIte, h18, h19, h29, h30, h38]; try rfl) ?_
      refine Fr.l_val rfl (Fr.w_yes rfl d4 (by decide) (by simp only [Fr.ev_tmp, Fr.ev_const, Fr.up_get, Nat.reduceLT, Nat.reduceEqDiff, ↓reduceIte])) (by go_simp; first | done | (with_reducible rfl) | (with_reducible exact ⟨rfl, rfl⟩) | (with_reducible exact ⟨⟨rfl, rfl⟩, rfl⟩)) ?_
      refine Fr.l_val rfl (Fr.w_yes rfl d4 (by decide) (by simp only [Fr.ev_tmp, Fr.ev_const, Fr.up_get, Nat.reduceLT, Nat.reduceEqDiff, ↓reduceIte])) (by go_simp; first | done | (with_reducible rfl) | (with_reducible exact ⟨rfl, rfl⟩) | (with_reducible exact ⟨⟨rfl, rfl⟩, rfl⟩)) ?_
      refine Fr.l_val rfl (Fr.w_none rfl) (by go_simp; first | done | (with_reducible rfl) | (with_reducible exact ⟨rfl, rfl⟩) | (with_reducible exact ⟨⟨rfl, rfl⟩, rfl⟩)) ?_
      refine Fr.l_mv rfl rfl (Fr.w_none rfl) (by simp only [Fr.ev_tmp, Fr.ev_const, Fr.up_get, Nat.reduceLT, Nat.reduceEqDiff, ↓reduceIte, h18, h19, h29, h30, h38]; try rfl) ?_
      refine Fr.l_mv rfl rfl (Fr.w_yes rfl d10 (by decide) (by simp only [Fr.ev_tmp, Fr.ev_const, Fr.up_get, Nat.reduceLT, Nat.reduceEqDiff, ↓reduceIte])) (by simp only [Fr.ev_tmp, Fr.ev_const, Fr.up_get, Nat.reduceLT, Nat.reduceEqDiff, ↓reduceIte, h18, h19, h29, h30, h38]; try rfl) ?_
      refine Fr.l_mv rfl rfl (Fr.w_yes rfl d10 (by decide) (by simp only [Fr.ev_tmp, Fr.ev_const, Fr.up_get, Nat.reduceLT, Nat.reduceEqDiff, ↓reduceIte])) (by simp only [Fr.ev_tmp, Fr.ev_const, Fr.up_get, Nat.reduceLT, Nat.reduceEqDiff, ↓reduceIte, h18, h19, h29, h30, h38]; try rfl) ?_
      refine Fr.l_val rfl (Fr.w_yes rfl d10 (by decide) (by simp only [Fr.ev_tmp, Fr.ev_const, Fr.up_get, Nat.reduceLT, Nat.reduceEqDiff, ↓reduceIte])) (by go_simp; first | done | (with_reducible rfl) | (with_reducible exact ⟨rfl, rfl⟩) | (with_reducible exact ⟨⟨rfl, rfl⟩, rfl⟩)) ?_
      refine Fr.l_val rfl (Fr.w_yes rfl d10 (by decide) (by simp only [Fr.ev_tmp, Fr.ev_const, Fr.up_get, Nat.reduceLT, Nat.reduceEqDiff, ↓reduceIte])) (by go_simp; first | done | (with_reducible rfl) | (with_reducible exact ⟨rfl, rfl⟩) | (with_reducible exact ⟨⟨rfl, rfl⟩, rfl⟩)) ?_
      refine Fr.l_mv rfl rfl (Fr.w_yes rfl d10 (by decide) (by simp only [Fr.ev_tmp, Fr.ev_const, Fr.up_get, Nat.reduceLT, Nat.reduceEqDiff, ↓reduceIte])) (by simp only [Fr.ev_tmp, Fr.ev_const, Fr.up_get, Nat.reduceLT, Nat.reduceEqDiff, ↓reduceIte, h18, h19, h29, h30, h38]; try rfl) ?_
      refine Fr.l_mv rfl rfl (Fr.w_yes rfl d15 (by decide) (by simp only [Fr.ev_tmp, Fr.ev_const, Fr.up_get, Nat.reduceLT, Nat.reduceEqDiff, ↓reduceIte])) (by simp only [Fr.ev_tmp, Fr.ev_const, Fr.up_get, Nat.reduceLT, Nat.reduceEqDiff, ↓reduceIte, h18, h19, h29, h30, h38]; try rfl) ?_
      refine Fr.l_mv rfl rfl (Fr.w_yes rfl d15 (by decide) (by simp only [Fr.ev_tmp, Fr.ev_const, Fr.up_get, Nat.reduceLT, Nat.reduceEqDiff, ↓reduceIte])) (by simp only [Fr.ev_tmp, Fr.ev_const, Fr.up_get, Nat.reduceLT, Nat.reduceEqDiff, ↓reduceIte, h18, h19, h29, h30, h38]; try rfl) ?_
      refine Fr.l_val rfl (Fr.w_yes rfl d15 (by decide) (by simp only [Fr.ev_tmp, Fr.ev_const, Fr.up_get, Nat.reduceLT, Nat.reduceEqDiff, ↓reduceIte])) (by go_simp; first | done | (with_reducible rfl) | (with_reducible exact ⟨rfl, rfl⟩) | (with_reducible exact ⟨⟨rfl, rfl⟩, rfl⟩)) ?_
      refine Fr.l_val rfl (Fr.w_yes rfl d15 (by decide) (by simp only [Fr.ev_tmp, Fr.ev_const, Fr.up_get, Nat.reduceLT, Nat.reduceEqDiff, ↓reduceIte])) (by go_simp; first | done | (with_reducible rfl) | (with_reducible exact ⟨rfl, rfl⟩) | (with_reducible exact ⟨⟨rfl, rfl⟩, rfl⟩)) ?_
      refine Fr.l_val rfl (Fr.w_yes rfl d10 (by decide) (by simp only [Fr.ev_tmp, Fr.ev_const, Fr.up_get, Nat.reduceLT, Nat.reduceEqDiff, ↓reduceIte])) (by go_simp; first | done | (with_reducible rfl) | (with_reducible exact ⟨rfl, rfl⟩) | (with_reducible exact ⟨⟨rfl, rfl⟩, rfl⟩)) ?_
      refine Fr.l_val rfl (Fr.w_none rfl) (by go_simp; first | done | (with_reducible rfl) | (with_reducible exact ⟨rfl, rfl⟩) | (with_reducible exact ⟨⟨rfl, rfl⟩, rfl⟩)) ?_
      refine Fr.l_nil ?_
      refine Fr.l_cond (t := false) (by simp only [Fr.ev_tmp, Fr.ev_const, Fr.up_get, Nat.reduceLT, Nat.reduceEqDiff, ↓reduceIte]; try rfl) (fun h => absurd h (by decide)) (fun _ => ?_)
      refine wp_skip ?_
      refine wp_region_lit ?_
      refine Fr.l_mv rfl rfl (Fr.w_none rfl) (by simp only [Fr.ev_tmp, Fr.ev_const, Fr.up_get, Nat.reduceLT, Nat.reduceEqDiff, ↓reduceIte, h18, h19, h29, h30, h38]; try rfl) ?_
      refine Fr.l_val rfl (Fr.w_none rfl) (by go_simp; first | done | (with_reducible rfl) | (with_reducible exact ⟨rfl, rfl⟩) | (with_reducible exact ⟨⟨rfl, rfl⟩, rfl⟩)) ?_
      refine Fr.l_as rfl rfl (Fr.w_none rfl) (by simp only [Fr.ev_tmp, Fr.ev_const, Fr.up_get, Nat.reduceLT, Nat.reduceEqDiff, ↓reduceIte, h18, h19, h29, h30, h38]; try rfl) ?_
      refine Fr.l_nil ?_
      refine Fr.then_ok ⟨_, rfl, ⟨i + 1, by omega, by omega, (by simp only [Fr.up_get, ↓reduceIte]; rfl), (by (repeat (refine Fr.Kp.up (by decide) ?_)); exact hK), hb⟩, ?_⟩
      simp only [Fr.up_get, ↓reduceIte, h38, intOf]
      omega
    · replace u1 : (x1 == 0) = true := by rw [u1]; simpa using p1
      replace u3 : (x3 == 0) = false := by rw [u3]; simpa using p2
      have p3 : ¬ D % i = 0 := fun h => n1 ⟨p1, h⟩
      replace u2 : (x2 == 0) = false := by rw [u2]; simpa using p3
      clear n1 n2 p1 p2 p3
      refine wp_region_lit ?_
      refine Fr.l_ops ?_
      intro OPS hO
      have d4 : (OPS[4]?).bind (·.dst) = some 294 := by rw [hO]; kernel_rfl
      have d10 : (OPS[10]?).bind (·.dst) = some 300 := by rw [hO]; kernel_rfl
      have d15 : (OPS[15]?).bind (·.dst) = some 305 := by rw [hO]; kernel_rfl
      clear hO
      refine Fr.l_mv rfl rfl (Fr.w_none rfl) (by simp only [Fr.ev_tmp, Fr.ev_const, Fr.up_get, Nat.reduceLT, Nat.reduceEqDiff, ↓reduceIte, h18, h19, h29, h30, h38]; try rfl) ?_
      refine Fr.l_mv rfl rfl (Fr.w_none rfl) (by simp only [Fr.ev_tmp, Fr.ev_const, Fr.up_get, Nat.reduceLT, Nat.reduceEqDiff, ↓reduceIte, h18, h19, h29, h30, h38]; try rfl) ?_
      refine Fr.l_val rfl (Fr.w_none rfl) (by go_simp; first | done | (with_reducible rfl) | (with_reducible exact ⟨rfl, rfl⟩) | (with_reducible exact ⟨⟨rfl, rfl⟩, rfl⟩)) ?_
      refine Fr.l_val rfl (Fr.w_none rfl) (by go_simp; first | done | (with_reducible rfl) | (with_reducible exact ⟨rfl, rfl⟩) | (with_reducible exact ⟨⟨rfl, rfl⟩, rfl⟩)) ?_
      refine Fr.l_mv rfl rfl (Fr.w_none rfl) (by simp only [Fr.ev_tmp, Fr.ev_const, Fr.up_get, Nat.reduceLT, Nat.reduceEqDiff, ↓reduceIte, h18, h19, h29, h30, h38]; try rfl) ?_
      refine Fr.l_mv rfl rfl (Fr.w_yes rfl d4 (by decide) (by simp only [Fr.ev_tmp, Fr.ev_const, Fr.up_get, Nat.reduceLT, Nat.reduceEqDiff, ↓reduceIte])) (by simp only [Fr.ev_tmp, Fr.ev_const, Fr.up_get, Nat.reduceLT, Nat.reduceEqDiff, ↓reduceIte, h18, h19, h29, h30, h38]; try rfl) ?_
      refine Fr.l_mv rfl rfl (Fr.w_yes rfl d4 (by decide) (by simp only [Fr.ev_tmp, Fr.ev_const, Fr.up_get, Nat.reduceLT, Nat.reduceEqDiff, ↓reduceIte])) (by simp only [Fr.ev_tmp, Fr.ev_const, Fr.up_get, Nat.reduceLT, Nat.reduceEqDiff, ↓reduceIte, h18, h19, h29, h30, h38]; try rfl) ?_
      refine Fr.l_val rfl (Fr.w_yes rfl d4 (by decide) (by simp only [Fr.ev_tmp, Fr.ev_const, Fr.up_get, Nat.reduceLT, Nat.reduceEqDiff, ↓reduceIte])) (by go_simp; first | done | (with_reducible rfl) | (with_reducible exact ⟨rfl, rfl⟩) | (with_reducible exact ⟨⟨rfl, rfl⟩, rfl⟩)) ?_
      refine Fr.l_val rfl (Fr.w_yes rfl d4 (by decide) (by simp only [Fr.ev_tmp, Fr.ev_const, Fr.up_get, Nat.reduceLT, Nat.reduceEqDiff, ↓reduceIte])) (by go_simp; first | done | (with_reducible rfl) | (with_reducible exact ⟨rfl, rfl⟩) | (with_reducible exact ⟨⟨rfl, rfl⟩, rfl⟩)) ?_
      refine Fr.l_val rfl (Fr.w_none rfl) (by go_simp; first | done | (with_reducible rfl) | (with_reducible exact ⟨rfl, rfl⟩) | (with_reducible exact ⟨⟨rfl, rfl⟩, rfl⟩)) ?_
      refine Fr.l_mv rfl rfl (Fr.w_none rfl) (by simp only [Fr.ev_tmp, Fr.ev_const, Fr.up_get, Nat.reduceLT, Nat.reduceEqDiff, ↓reduceIte, h18, h19, h29, h30, h38]; try rfl) ?_
      refine Fr.l_mv rfl rfl (Fr.w_yes rfl d10 (by decide) (by simp only [Fr.ev_tmp, Fr.ev_const, Fr.up_get, Nat.reduceLT, Nat.reduceEqDiff, ↓reduceIte])) (by simp only [Fr.ev_tmp, Fr.ev_const, Fr.up_get, Nat.reduceLT, Nat.reduceEqDiff, ↓reduceIte, h18, h19, h29, h30, h38]; try rfl) ?_
      refine Fr.l_mv rfl rfl (Fr.w_yes rfl d10 (by decide) (by simp only [Fr.ev_tmp, Fr.ev_const, Fr.up_get, Nat.reduceLT, Nat.reduceEqDiff, ↓reduceIte])) (by simp only [Fr.ev_tmp, Fr.ev_const, Fr.up_get, Nat.reduceLT, Nat.reduceEqDiff, ↓reduceIte, h18, h19, h29, h30, h38]; try rfl) ?_
      refine Fr.l_val rfl (Fr.w_yes rfl d10 (by decide) (by simp only [Fr.ev_tmp, Fr.ev_const, Fr.up_get, Nat.reduceLT, Nat.reduceEqDiff, ↓reduceIte])) (by go_simp; first | done | (with_reducible rfl) | (with_reducible exact ⟨rfl, rfl⟩) | (with_reducible exact ⟨⟨rfl, rfl⟩, rfl⟩)) ?_
      refine Fr.l_val rfl (Fr.w_yes rfl d10 (by decide) (by simp only [Fr.ev_tmp, Fr.ev_const, Fr.up_get, Nat.reduceLT, Nat.reduceEqDiff, ↓reduceIte])) (by go_simp; first | done | (with_reducible rfl) | (with_reducible exact ⟨rfl, rfl⟩) | (with_reducible exact ⟨⟨rfl, rfl⟩, rfl⟩)) ?_
      refine Fr.l_mv rfl rfl (Fr.w_yes rfl d10 (by decide) (by simp only [Fr.ev_tmp, Fr.ev_const, Fr.up_get, Nat.reduceLT, Nat.reduceEqDiff, ↓reduceIte])) (by simp only [Fr.ev_tmp, Fr.ev_const, Fr.up_get, Nat.reduceLT, Nat.reduceEqDiff, ↓reduceIte, h18, h19, h29, h30, h38]; try rfl) ?_
      refine Fr.l_pass rfl (Fr.w_no rfl d15 (by decide) (by first | (left; simp only [Fr.ev_tmp, Fr.ev_const, Fr.up_get, Nat.reduceLT, Nat.reduceEqDiff, ↓reduceIte, Bool.not_true, Bool.not_false]; done) | (right; simp only [Fr.ev_tmp, Fr.ev_const, Fr.up_get, Nat.reduceLT, Nat.reduceEqDiff, ↓reduceIte, Bool.not_true, Bool.not_false]; done))) ?_
      refine Fr.l_pass rfl (Fr.w_no rfl d15 (by decide) (by first | (left; simp only [Fr.ev_tmp, Fr.ev_const, Fr.up_get, Nat.reduceLT, Nat.reduceEqDiff, ↓reduceIte, Bool.not_true, Bool.not_false]; done) | (right; simp only [Fr.ev_tmp, Fr.ev_const, Fr.up_get, Nat.reduceLT, Nat.reduceEqDiff, ↓reduceIte, Bool.not_true, Bool.not_false]; done))) ?_
      refine Fr.l_pass rfl (Fr.w_no rfl d15 (by decide) (by first | (left; simp only [Fr.ev_tmp, Fr.ev_const, Fr.up_get, Nat.reduceLT, Nat.reduceEqDiff, ↓reduceIte, Bool.not_true, Bool.not_false]; done) | (right; simp only [Fr.ev_tmp, Fr.ev_const, Fr.up_get, Nat.reduceLT, Nat.reduceEqDiff, ↓reduceIte, Bool.not_true, Bool.not_false]; done))) ?_
      refine Fr.l_pass rfl (Fr.w_no rfl d15 (by decide) (by first | (left; simp only [Fr.ev_tmp, Fr.ev_const, Fr.up_get, Nat.reduceLT, Nat.reduceEqDiff, ↓reduceIte, Bool.not_true, Bool.not_false]; done) | (right; simp only [Fr.ev_tmp, Fr.ev_const, Fr.up_get, Nat.reduceLT, Nat.reduceEqDiff, ↓reduceIte, Bool.not_true, Bool.not_false]; done))) ?_
      refine Fr.l_val rfl (Fr.w_yes rfl d10 (by decide) (by simp only [Fr.ev_tmp, Fr.ev_const, Fr.up_get, Nat.reduceLT, Nat.reduceEqDiff, ↓reduceIte])) (by go_simp; first | done | (with_reducible rfl) | (with_reducible exact ⟨rfl, rfl⟩) | (with_reducible exact ⟨⟨rfl, rfl⟩, rfl⟩)) ?_
      refine Fr.l_val rfl (Fr.w_none rfl) (by go_simp; first | done | (with_reducible rfl) | (with_reducible exact ⟨rfl, rfl⟩) | (with_reducible exact ⟨⟨rfl, rfl⟩, rfl⟩)) ?_
      refine Fr.l_nil ?_
      refine Fr.l_cond (t := false) (by simp only [Fr.ev_tmp, Fr.ev_const, Fr.up_get, Nat.reduceLT, Nat.reduceEqDiff, ↓reduceIte]; try rfl) (fun h => absurd h (by decide)) (fun _ => ?_)
      refine wp_skip ?_
      refine wp_region_lit ?_
      refine Fr.l_mv rfl rfl (Fr.w_none rfl) (by simp only [Fr.ev_tmp, Fr.ev_const, Fr.up_get, Nat.reduceLT, Nat.reduceEqDiff, ↓reduceIte, h18, h19, h29, h30, h38]; try rfl) ?_
      refine Fr.l_val rfl (Fr.w_none rfl) (by go_simp; first | done | (with_reducible rfl) | (with_reducible exact ⟨rfl, rfl⟩) | (with_reducible exact ⟨⟨rfl, rfl⟩, rfl⟩)) ?_
      refine Fr.l_as rfl rfl (Fr.w_none rfl) (by simp only [Fr.ev_tmp, Fr.ev_const, Fr.up_get, Nat.reduceLT, Nat.reduceEqDiff, ↓reduceIte, h18, h19, h29, h30, h38]; try rfl) ?_
      refine Fr.l_nil ?_
      refine Fr.then_ok ⟨_, rfl, ⟨i + 1, by omega, by omega, (by simp only [Fr.up_get, ↓reduceIte]; rfl), (by (repeat (refine Fr.Kp.up (by decide) ?_)); exact hK), hb⟩, ?_⟩
      simp only [Fr.up_get, ↓reduceIte, h38, intOf]
      omega
    · replace u1 : (x1 == 0) = false := by rw [u1]; simpa using p1
      replace u3 : (x3 == 0) = true := by rw [u3]; simpa using p2
      have p4 : ¬ D2 % i = 0 := fun h => n2 ⟨p2, h⟩
      replace u4 : (x4 == 0) = false := by rw [u4]; simpa using p4
      clear n1 n2 p1 p2 p4
      refine wp_region_lit ?_
      refine Fr.l_ops ?_
      intro OPS hO
      have d4 : (OPS[4]?).bind (·.dst) = some 294 := by rw [hO]; kernel_rfl
      have d10 : (OPS[10]?).bind (·.dst) = some 300 := by rw [hO]; kernel_rfl
      have d15 : (OPS[15]?).bind (·.dst) = some 305 := by rw [hO]; kernel_rfl
      clear hO
      refine Fr.l_mv rfl rfl (Fr.w_none rfl) (by simp only [Fr.ev_tmp, Fr.ev_const, Fr.up_get, Nat.reduceLT, Nat.reduceEqDiff, ↓reduceIte, h18, h19, h29, h30, h38]; try rfl) ?_
      refine Fr.l_mv rfl rfl (Fr.w_none rfl) (by simp only [Fr.ev_tmp, Fr.ev_const, Fr.up_get, Nat.reduceLT, Nat.reduceEqDiff, ↓reduceIte, h18, h19, h29, h30, h38]; try rfl) ?_
      refine Fr.l_val rfl (Fr.w_none rfl) (by go_simp; first | done | (with_reducible rfl) | (with_reducible exact ⟨rfl, rfl⟩) | (with_reducible exact ⟨⟨rfl, rfl⟩, rfl⟩)) ?_
      refine Fr.l_val rfl (Fr.w_none rfl) (by go_simp; first | done | (with_reducible rfl) | (with_reducible exact ⟨rfl, rfl⟩) | (with_reducible exact ⟨⟨rfl, rfl⟩, rfl⟩)) ?_
      refine Fr.l_mv rfl rfl (Fr.w_none rfl) (by simp only [Fr.ev_tmp, Fr.ev_const, Fr.up_get, Nat.reduceLT, Nat.reduceEqDiff, ↓reduceIte, h18, h19, h29, h30, h38]; try rfl) ?_
      refine Fr.l_pass rfl (Fr.w_no rfl d4 (by decide) (by first | (left; simp only [Fr.ev_tmp, Fr.ev_const, Fr.up_get, Nat.reduceLT, Nat.reduceEqDiff, ↓reduceIte, Bool.not_true, Bool.not_false]; done) | (right; simp only [Fr.ev_tmp, Fr.ev_const, Fr.up_get, Nat.reduceLT, Nat.reduceEqDiff, ↓reduceIte, Bool.not_true, Bool.not_false]; done))) ?_
      refine Fr.l_pass rfl (Fr.w_no rfl d4 (by decide) (by first | (left; simp only [Fr.ev_tmp, Fr.ev_const, Fr.up_get, Nat.reduceLT, Nat.reduceEqDiff, ↓reduceIte, Bool.not_true, Bool.not_false]; done) | (right; simp only [Fr.ev_tmp, Fr.ev_const, Fr.up_get, Nat.reduceLT, Nat.reduceEqDiff, ↓reduceIte, Bool.not_true, Bool.not_false]; done))) ?_
      refine Fr.l_pass rfl (Fr.w_no rfl d4 (by decide) (by first | (left; simp only [Fr.ev_tmp, Fr.ev_const, Fr.up_get, Nat.reduceLT, Nat.reduceEqDiff, ↓reduceIte, Bool.not_true, Bool.not_false]; done) | (right; simp only [Fr.ev_tmp, Fr.ev_const, Fr.up_get, Nat.reduceLT, Nat.reduceEqDiff, ↓reduceIte, Bool.not_true, Bool.not_false]; done))) ?_
      refine Fr.l_pass rfl (Fr.w_no rfl d4 (by decide) (by first | (left; simp only [Fr.ev_tmp, Fr.ev_const, Fr.up_get, Nat.reduceLT, Nat.reduceEqDiff, ↓reduceIte, Bool.not_true, Bool.not_false]; done) | (right; simp only [Fr.ev_tmp, Fr.ev_const, Fr.up_get, Nat.reduceLT, Nat.reduceEqDiff, ↓reduceIte, Bool.not_true, Bool.not_false]; done))) ?_
      refine Fr.l_val rfl (Fr.w_none rfl) (by go_simp; first | done | (with_reducible rfl) | (with_reducible exact ⟨rfl, rfl⟩) | (with_reducible exact ⟨⟨rfl, rfl⟩, rfl⟩)) ?_
      refine Fr.l_mv rfl rfl (Fr.w_none rfl) (by simp only [Fr.ev_tmp, Fr.ev_const, Fr.up_get, Nat.reduceLT, Nat.reduceEqDiff, ↓reduceIte, h18, h19, h29, h30, h38]; try rfl) ?_
      refine Fr.l_mv rfl rfl (Fr.w_yes rfl d10 (by decide) (by simp only [Fr.ev_tmp, Fr.ev_const, Fr.up_get, Nat.reduceLT, Nat.reduceEqDiff, ↓reduceIte])) (by simp only [Fr.ev_tmp, Fr.ev_const, Fr.up_get, Nat.reduceLT, Nat.reduceEqDiff, ↓reduceIte, h18, h19, h29, h30, h38]; try rfl) ?_
      refine Fr.l_mv rfl rfl (Fr.w_yes rfl d10 (by decide) (by simp only [Fr.ev_tmp, Fr.ev_const, Fr.up_get, Nat.reduceLT, Nat.reduceEqDiff, ↓reduceIte])) (by simp only [Fr.ev_tmp, Fr.ev_const, Fr.up_get, Nat.reduceLT, Nat.reduceEqDiff, ↓reduceIte, h18, h19, h29, h30, h38]; try rfl) ?_
      refine Fr.l_val rfl (Fr.w_yes rfl d10 (by decide) (by simp only [Fr.ev_tmp, Fr.ev_const, Fr.up_get, Nat.reduceLT, Nat.reduceEqDiff, ↓reduceIte])) (by go_simp; first | done | (with_reducible rfl) | (with_reducible exact ⟨rfl, rfl⟩) | (with_reducible exact ⟨⟨rfl, rfl⟩, rfl⟩)) ?_
      refine Fr.l_val rfl (Fr.w_yes rfl d10 (by decide) (by simp only [Fr.ev_tmp, Fr.ev_const, Fr.up_get, Nat.reduceLT, Nat.reduceEqDiff, ↓reduceIte])) (by go_simp; first | done | (with_reducible rfl) | (with_reducible exact ⟨rfl, rfl⟩) | (with_reducible exact ⟨⟨rfl, rfl⟩, rfl⟩)) ?_
      refine Fr.l_mv rfl rfl (Fr.w_yes rfl d10 (by decide) (by simp only [Fr.ev_tmp, Fr.ev_const, Fr.up_get, Nat.reduceLT, Nat.reduceEqDiff, ↓reduceIte])) (by simp only [Fr.ev_tmp, Fr.ev_const, Fr.up_get, Nat.reduceLT, Nat.reduceEqDiff, ↓reduceIte, h18, h19, h29, h30, h38]; try rfl) ?_
      refine Fr.l_mv rfl rfl (Fr.w_yes rfl d15 (by decide) (by simp only [Fr.ev_tmp, Fr.ev_const, Fr.up_get, Nat.reduceLT, Nat.reduceEqDiff, ↓reduceIte])) (by simp only [Fr.ev_tmp, Fr.ev_const, Fr.up_get, Nat.reduceLT, Nat.reduceEqDiff, ↓reduceIte, h18, h19, h29, h30, h38]; try rfl) ?_
      refine Fr.l_mv rfl rfl (Fr.w_yes rfl d15 (by decide) (by simp only [Fr.ev_tmp, Fr.ev_const, Fr.up_get, Nat.reduceLT, Nat.reduceEqDiff, ↓reduceIte])) (by simp only [Fr.ev_tmp, Fr.ev_const, Fr.up_get, Nat.reduceLT, Nat.reduceEqDiff, ↓reduceIte, h18, h19, h29, h30, h38]; try rfl) ?_
      refine Fr.l_val rfl (Fr.w_yes rfl d15 (by decide) (by simp only [Fr.ev_tmp, Fr.ev_const, Fr.up_get, Nat.reduceLT, Nat.reduceEqDiff, ↓reduceIte])) (by go_simp; first | done | (with_reducible rfl) | (with_reducible exact ⟨rfl, rfl⟩) | (with_reducible exact ⟨⟨rfl, rfl⟩, rfl⟩)) ?_
      refine Fr.l_val rfl (Fr.w_yes rfl d15 (by decide) (by simp only [Fr.ev_tmp, Fr.ev_const, Fr.up_get, Nat.reduceLT, Nat.reduceEqDiff, ↓reduceIte])) (by go_simp; first | done | (with_reducible rfl) | (with_reducible exact ⟨rfl, rfl⟩) | (with_reducible exact ⟨⟨rfl, rfl⟩, rfl⟩)) ?_
      refine Fr.l_val rfl (Fr.w_yes rfl d10 (by decide) (by simp only [Fr.ev_tmp, Fr.ev_const, Fr.up_get, Nat.reduceLT, Nat.reduceEqDiff, ↓reduceIte])) (by go_simp; first | done | (with_reducible rfl) | (with_reducible exact ⟨rfl, rfl⟩) | (with_reducible exact ⟨⟨rfl, rfl⟩, rfl⟩)) ?_
      refine Fr.l_val rfl (Fr.w_none rfl) (by go_simp; first | done | (with_reducible rfl) | (with_reducible exact ⟨rfl, rfl⟩) | (with_reducible exact ⟨⟨rfl, rfl⟩, rfl⟩)) ?_
      refine Fr.l_nil ?_
      refine Fr.l_cond (t := false) (by simp only [Fr.ev_tmp, Fr.ev_const, Fr.up_get, Nat.reduceLT, Nat.reduceEqDiff, ↓reduceIte]; try rfl) (fun h => absurd h (by decide)) (fun _ => ?_)
      refine wp_skip ?_
      refine wp_region_lit ?_
      refine Fr.l_mv rfl rfl (Fr.w_none rfl) (by simp only [Fr.ev_tmp, Fr.ev_const, Fr.up_get, Nat.reduceLT, Nat.reduceEqDiff, ↓reduceIte, h18, h19, h29, h30, h38]; try rfl) ?_
      refine Fr.l_val rfl (Fr.w_none rfl) (by go_simp; first | done | (with_reducible rfl) | (with_reducible exact ⟨rfl, rfl⟩) | (with_reducible exact ⟨⟨rfl, rfl⟩, rfl⟩)) ?_
      refine Fr.l_as rfl rfl (Fr.w_none rfl) (by simp only [Fr.ev_tmp, Fr.ev_const, Fr.up_get, Nat.reduceLT, Nat.reduceEqDiff, ↓reduceIte, h18, h19, h29, h30, h38]; try rfl) ?_
      refine Fr.l_nil ?_
      refine Fr.then_ok ⟨_, rfl, ⟨i + 1, by omega, by omega, (by simp only [Fr.up_get, ↓reduceIte]; rfl), (by (repeat (refine Fr.Kp.up (by decide) ?_)); exact hK), hb⟩, ?_⟩
      simp only [Fr.up_get, ↓reduceIte, h38, intOf]
      omega
    · replace u1 : (x1 == 0) = false := by rw [u1]; simpa using p1
      replace u3 : (x3 == 0) = false := by rw [u3]; simpa using p2
      clear n1 n2 p1 p2
      refine wp_region_lit ?_
      refine Fr.l_ops ?_
      intro OPS hO
      have d4 : (OPS[4]?).bind (·.dst) = some 294 := by rw [hO]; kernel_rfl
      have d10 : (OPS[10]?).bind (·.dst) = some 300 := by rw [hO]; kernel_rfl
      have d15 : (OPS[15]?).bind (·.dst) = some 305 := by rw [hO]; kernel_rfl
      clear hO
      refine Fr.l_mv rfl rfl (Fr.w_none rfl) (by simp only [Fr.ev_tmp, Fr.ev_const, Fr.up_get, Nat.reduceLT, Nat.reduceEqDiff, ↓reduceIte, h18, h19, h29, h30, h38]; try rfl) ?_
      refine Fr.l_mv rfl rfl (Fr.w_none rfl) (by simp only [Fr.ev_tmp, Fr.ev_const, Fr.up_get, Nat.reduceLT, Nat.reduceEqDiff, ↓reduceIte, h18, h19, h29, h30, h38]; try rfl) ?_
      refine Fr.l_val rfl (Fr.w_none rfl) (by go_simp; first | done | (with_reducible rfl) | (with_reducible exact ⟨rfl, rfl⟩) | (with_reducible exact ⟨⟨rfl, rfl⟩, rfl⟩)) ?_
      refine Fr.l_val rfl (Fr.w_none rfl) (by go_simp; first | done | (with_reducible rfl) | (with_reducible exact ⟨rfl, rfl⟩) | (with_reducible exact ⟨⟨rfl, rfl⟩, rfl⟩)) ?_
      refine Fr.l_mv rfl rfl (Fr.w_none rfl) (by simp only [Fr.ev_tmp, Fr.ev_const, Fr.up_get, Nat.reduceLT, Nat.reduceEqDiff, ↓reduceIte, h18, h19, h29, h30, h38]; try rfl) ?_
      refine Fr.l_pass rfl (Fr.w_no rfl d4 (by decide) (by first | (left; simp only [Fr.ev_tmp, Fr.ev_const, Fr.up_get, Nat.reduceLT, Nat.reduceEqDiff, ↓reduceIte, Bool.not_true, Bool.not_false]; done) | (right; simp only [Fr.ev_tmp, Fr.ev_const, Fr.up_get, Nat.reduceLT, Nat.reduceEqDiff, ↓reduceIte, Bool.not_true, Bool.not_false]; done))) ?_
      refine Fr.l_pass rfl (Fr.w_no rfl d4 (by decide) (by first | (left; simp only [Fr.ev_tmp, Fr.ev_const, Fr.up_get, Nat.reduceLT, Nat.reduceEqDiff, ↓reduceIte, Bool.not_true, Bool.not_false]; done) | (right; simp only [Fr.ev_tmp, Fr.ev_const, Fr.up_get, Nat.reduceLT, Nat.reduceEqDiff, ↓reduceIte, Bool.not_true, Bool.not_false]; done))) ?_
      refine Fr.l_pass rfl (Fr.w_no rfl d4 (by decide) (by first | (left; simp only [Fr.ev_tmp, Fr.ev_const, Fr.up_get, Nat.reduceLT, Nat.reduceEqDiff, ↓reduceIte, Bool.not_true, Bool.not_false]; done) | (right; simp only [Fr.ev_tmp, Fr.ev_const, Fr.up_get, Nat.reduceLT, Nat.reduceEqDiff, ↓reduceIte, Bool.not_true, Bool.not_false]; done))) ?_
      refine Fr.l_pass rfl (Fr.w_no rfl d4 (by decide) (by first | (left; simp only [Fr.ev_tmp, Fr.ev_const, Fr.up_get, Nat.reduceLT, Nat.reduceEqDiff, ↓reduceIte, Bool.not_true, Bool.not_false]; done) | (right; simp only [Fr.ev_tmp, Fr.ev_const, Fr.up_get, Nat.reduceLT, Nat.reduceEqDiff, ↓reduceIte, Bool.not_true, Bool.not_false]; done))) ?_
      refine Fr.l_val rfl (Fr.w_none rfl) (by go_simp; first | done | (with_reducible rfl) | (with_reducible exact ⟨rfl, rfl⟩) | (with_reducible exact ⟨⟨rfl, rfl⟩, rfl⟩)) ?_
      refine Fr.l_mv rfl rfl (Fr.w_none rfl) (by simp only [Fr.ev_tmp, Fr.ev_const, Fr.up_get, Nat.reduceLT, Nat.reduceEqDiff, ↓reduceIte, h18, h19, h29, h30, h38]; try rfl) ?_
      refine Fr.l_mv rfl rfl (Fr.w_yes rfl d10 (by decide) (by simp only [Fr.ev_tmp, Fr.ev_const, Fr.up_get, Nat.reduceLT, Nat.reduceEqDiff, ↓reduceIte])) (by simp only [Fr.ev_tmp, Fr.ev_const, Fr.up_get, Nat.reduceLT, Nat.reduceEqDiff, ↓reduceIte, h18, h19, h29, h30, h38]; try rfl) ?_
      refine Fr.l_mv rfl rfl (Fr.w_yes rfl d10 (by decide) (by simp only [Fr.ev_tmp, Fr.ev_const, Fr.up_get, Nat.reduceLT, Nat.reduceEqDiff, ↓reduceIte])) (by simp only [Fr.ev_tmp, Fr.ev_const, Fr.up_get, Nat.reduceLT, Nat.reduceEqDiff, ↓reduceIte, h18, h19, h29, h30, h38]; try rfl) ?_
      refine Fr.l_val rfl (Fr.w_yes rfl d10 (by decide) (by simp only [Fr.ev_tmp, Fr.ev_const, Fr.up_get, Nat.reduceLT, Nat.reduceEqDiff, ↓reduceIte])) (by go_simp; first | done | (with_reducible rfl) | (with_reducible exact ⟨rfl, rfl⟩) | (with_reducible exact ⟨⟨rfl, rfl⟩, rfl⟩)) ?_
      refine Fr.l_val rfl (Fr.w_yes rfl d10 (by decide) (by simp only [Fr.ev_tmp, Fr.ev_const, Fr.up_get, Nat.reduceLT, Nat.reduceEqDiff, ↓reduceIte])) (by go_simp; first | done | (with_reducible rfl) | (with_reducible exact ⟨rfl, rfl⟩) | (with_reducible exact ⟨⟨rfl, rfl⟩, rfl⟩)) ?_
      refine Fr.l_mv rfl rfl (Fr.w_yes rfl d10 (by decide) (by simp only [Fr.ev_tmp, Fr.ev_const, Fr.up_get, Nat.reduceLT, Nat.reduceEqDiff, ↓reduceIte])) (by simp only [Fr.ev_tmp, Fr.ev_const, Fr.up_get, Nat.reduceLT, Nat.reduceEqDiff, ↓reduceIte, h18, h19, h29, h30, h38]; try rfl) ?_
      refine Fr.l_pass rfl (Fr.w_no rfl d15 (by decide) (by first | (left; simp only [Fr.ev_tmp, Fr.ev_const, Fr.up_get, Nat.reduceLT, Nat.reduceEqDiff, ↓reduceIte, Bool.not_true, Bool.not_false]; done) | (right; simp only [Fr.ev_tmp, Fr.ev_const, Fr.up_get, Nat.reduceLT, Nat.reduceEqDiff, ↓reduceIte, Bool.not_true, Bool.not_false]; done))) ?_
      refine Fr.l_pass rfl (Fr.w_no rfl d15 (by decide) (by first | (left; simp only [Fr.ev_tmp, Fr.ev_const, Fr.up_get, Nat.reduceLT, Nat.reduceEqDiff, ↓reduceIte, Bool.not_true, Bool.not_false]; done) | (right; simp only [Fr.ev_tmp, Fr.ev_const, Fr.up_get, Nat.reduceLT, Nat.reduceEqDiff, ↓reduceIte, Bool.not_true, Bool.not_false]; done))) ?_
      refine Fr.l_pass rfl (Fr.w_no rfl d15 (by decide) (by first | (left; simp only [Fr.ev_tmp, Fr.ev_const, Fr.up_get, Nat.reduceLT, Nat.reduceEqDiff, ↓reduceIte, Bool.not_true, Bool.not_false]; done) | (right; simp only [Fr.ev_tmp, Fr.ev_const, Fr.up_get, Nat.reduceLT, Nat.reduceEqDiff, ↓reduceIte, Bool.not_true, Bool.not_false]; done))) ?_
      refine Fr.l_pass rfl (Fr.w_no rfl d15 (by decide) (by first | (left; simp only [Fr.ev_tmp, Fr.ev_const, Fr.up_get, Nat.reduceLT, Nat.reduceEqDiff, ↓reduceIte, Bool.not_true, Bool.not_false]; done) | (right; simp only [Fr.ev_tmp, Fr.ev_const, Fr.up_get, Nat.reduceLT, Nat.reduceEqDiff, ↓reduceIte, Bool.not_true, Bool.not_false]; done))) ?_
      refine Fr.l_val rfl (Fr.w_yes rfl d10 (by decide) (by simp only [Fr.ev_tmp, Fr.ev_const, Fr.up_get, Nat.reduceLT, Nat.reduceEqDiff, ↓reduceIte])) (by go_simp; first | done | (with_reducible rfl) | (with_reducible exact ⟨rfl, rfl⟩) | (with_reducible exact ⟨⟨rfl, rfl⟩, rfl⟩)) ?_
      refine Fr.l_val rfl (Fr.w_none rfl) (by go_simp; first | done | (with_reducible rfl) | (with_reducible exact ⟨rfl, rfl⟩) | (with_reducible exact ⟨⟨rfl, rfl⟩, rfl⟩)) ?_
      refine Fr.l_nil ?_
      refine Fr.l_cond (t := false) (by simp only [Fr.ev_tmp, Fr.ev_const, Fr.up_get, Nat.reduceLT, Nat.reduceEqDiff, ↓reduceIte]; try rfl) (fun h => absurd h (by decide)) (fun _ => ?_)
      refine wp_skip ?_
      refine wp_region_lit ?_
      refine Fr.l_mv rfl rfl (Fr.w_none rfl) (by simp only [Fr.ev_tmp, Fr.ev_const, Fr.up_get, Nat.reduceLT, Nat.reduceEqDiff, ↓reduceIte, h18, h19, h29, h30, h38]; try rfl) ?_
      refine Fr.l_val rfl (Fr.w_none rfl) (by go_simp; first | done | (with_reducible rfl) | (with_reducible exact ⟨rfl, rfl⟩) | (with_reducible exact ⟨⟨rfl, rfl⟩, rfl⟩)) ?_
      refine Fr.l_as rfl rfl (Fr.w_none rfl) (by simp only [Fr.ev_tmp, Fr.ev_const, Fr.up_get, Nat.reduceLT, Nat.reduceEqDiff, ↓reduceIte, h18, h19, h29, h30, h38]; try rfl) ?_
      refine Fr.l_nil ?_
      refine Fr.then_ok ⟨_, rfl, ⟨i + 1, by omega, by omega, (by simp only [Fr.up_get, ↓reduceIte]; rfl), (by (repeat (refine Fr.Kp.up (by decide) ?_)); exact hK), hb⟩, ?_⟩
      simp only [Fr.up_get, ↓reduceIte, h38, intOf]
      omega
  · obtain rfl : i = 200 := by omega
    refine wp_region_lit ?_
    refine Fr.l_mv rfl rfl (Fr.w_none rfl) (by simp only [Fr.ev_tmp, Fr.ev_const, Fr.up_get, Nat.reduceLT, Nat.reduceEqDiff, ↓reduceIte, h18, h19, h29, h30, h38]; try rfl) ?_
    refine Fr.l_val rfl (Fr.w_none rfl) (by go_simp; first | done | (with_reducible rfl) | (with_reducible exact ⟨rfl, rfl⟩) | (with_reducible exact ⟨⟨rfl, rfl⟩, rfl⟩)) ?_
    refine Fr.l_nil ?_
    refine Fr.l_cond (t := false) (by simp only [Fr.ev_tmp, Fr.ev_const, Fr.up_get, Nat.reduceLT, Nat.reduceEqDiff, ↓reduceIte]; try rfl) (fun h => absurd h (by decide)) (fun _ => ?_)
    refine wp_exit ?_
    refine Fr.then_exit (Fr.then_exit ?_)
    refine Fr.inb_exit ?_
    refine HK.out _ _ hb (by (repeat (refine Fr.Kp.up (by decide) ?_)); exact hK)

end Go.Proofs.YtkgfepakedieaaaGreatDoor.yTrains
