/- The great law on belts, an element: both answers are the same. (written by wip/gen/belts.py.) -/
import Derived.Test.YtljigmplmlhdnaaBlA
import Derived.Test.YtljigmplmlhdnaaBdA
set_option linter.unusedVariables false
set_option linter.unusedSimpArgs false
namespace Go.Proofs.Ytljigmplmlhdnaa.yBeltsFound
open Go.RowKit
set_option linter.unusedVariables false
set_option linter.unusedSimpArgs false

noncomputable def B10 : Code := (Try.f10.body).getD .skip

set_option maxRecDepth 100000 in
set_option maxHeartbeats 16000000 in
theorem b7 {V : Nat} {K : Int} {W w : World} {Q : Exit → Act → World → Prop} {R : Code} {f : Nat → Value} (f7 : f 7 = .int .i64 0) (f8 : f 8 = .float .f32 V) (f9 : f 9 = .int .i64 K) (f10 : f 10 = .float .f32 V) (f11 : f 11 = .int .i64 K) (hK : K = 0 ∨ K = 6) (hw : BelowC W w)
    (k : ∀ (w' : World) (g : Nat → Value), BelowC W w' → Fr.Agree 63 f g → Code.wp Try.prog R Q ⟨Fr.ft 311 g, []⟩ w') :
    Code.wp Try.prog ((Fr.fs (Fr.sn (Fr.sn (Fr.sn (Fr.sn (Fr.sn (Fr.sn (B10)))))))).seq R) Q ⟨Fr.ft 311 f, []⟩ w := by
  have HK := Lib.hid k
  clear k
  conv => arg 2; arg 1; whnf
  have E1 := @Fr.ev_tmp 311
  have E2 := @Fr.ev_const 311
  have E3 := @Fr.up_get
  have E4 := @Fr.ev_func 311
  have E5 := @Fr.ev_global 311
  refine wp_seq ?_
  refine wp_seq ?_
  rcases hK with rfl | rfl
  · refine wp_region_lit ?_
    refine Fr.l_ops ?_
    intro OPS hO
    have d2 : (OPS[2]?).bind (·.dst) = some 65 := by rw [hO]; kernel_rfl
    have d7 : (OPS[7]?).bind (·.dst) = some 70 := by rw [hO]; kernel_rfl
    have d13 : (OPS[13]?).bind (·.dst) = some 76 := by rw [hO]; kernel_rfl
    have d16 : (OPS[16]?).bind (·.dst) = some 79 := by rw [hO]; kernel_rfl
    clear hO
    refine Fr.l_mv rfl rfl (Fr.w_none rfl) (by simp only [Fr.ev_tmp, Fr.ev_const, Fr.up_get, Nat.reduceLT, Nat.reduceEqDiff, ↓reduceIte, f7, f8, f9, f10, f11]; try rfl) ?_
    refine Fr.l_val rfl (Fr.w_none rfl) (by go_simp; first | done | (with_reducible rfl) | (with_reducible exact ⟨rfl, rfl⟩) | (with_reducible exact ⟨⟨rfl, rfl⟩, rfl⟩)) ?_
    refine Fr.l_mv rfl rfl (Fr.w_none rfl) (by simp only [Fr.ev_tmp, Fr.ev_const, Fr.up_get, Nat.reduceLT, Nat.reduceEqDiff, ↓reduceIte, f7, f8, f9, f10, f11]; try rfl) ?_
    refine Fr.l_mv rfl rfl (Fr.w_yes rfl d2 (by decide) (by simp only [Fr.ev_tmp, Fr.ev_const, Fr.up_get, Nat.reduceLT, Nat.reduceEqDiff, ↓reduceIte])) (by simp only [Fr.ev_tmp, Fr.ev_const, Fr.up_get, Nat.reduceLT, Nat.reduceEqDiff, ↓reduceIte, f7, f8, f9, f10, f11]; try rfl) ?_
    refine Fr.l_mv rfl rfl (Fr.w_yes rfl d2 (by decide) (by simp only [Fr.ev_tmp, Fr.ev_const, Fr.up_get, Nat.reduceLT, Nat.reduceEqDiff, ↓reduceIte])) (by simp only [Fr.ev_tmp, Fr.ev_const, Fr.up_get, Nat.reduceLT, Nat.reduceEqDiff, ↓reduceIte, f7, f8, f9, f10, f11]; try rfl) ?_
    refine Fr.l_val rfl (Fr.w_yes rfl d2 (by decide) (by simp only [Fr.ev_tmp, Fr.ev_const, Fr.up_get, Nat.reduceLT, Nat.reduceEqDiff, ↓reduceIte])) (by go_simp; first | done | (with_reducible rfl) | (with_reducible exact ⟨rfl, rfl⟩) | (with_reducible exact ⟨⟨rfl, rfl⟩, rfl⟩)) ?_
    refine Fr.l_val rfl (Fr.w_none rfl) (by go_simp; first | done | (with_reducible rfl) | (with_reducible exact ⟨rfl, rfl⟩) | (with_reducible exact ⟨⟨rfl, rfl⟩, rfl⟩)) ?_
    refine Fr.l_mv rfl rfl (Fr.w_none rfl) (by simp only [Fr.ev_tmp, Fr.ev_const, Fr.up_get, Nat.reduceLT, Nat.reduceEqDiff, ↓reduceIte, f7, f8, f9, f10, f11]; try rfl) ?_
    refine Fr.l_mv rfl rfl (Fr.w_yes rfl d7 (by decide) (by simp only [Fr.ev_tmp, Fr.ev_const, Fr.up_get, Nat.reduceLT, Nat.reduceEqDiff, ↓reduceIte])) (by simp only [Fr.ev_tmp, Fr.ev_const, Fr.up_get, Nat.reduceLT, Nat.reduceEqDiff, ↓reduceIte, f7, f8, f9, f10, f11]; try rfl) ?_
    refine Fr.l_mv rfl rfl (Fr.w_yes rfl d7 (by decide) (by simp only [Fr.ev_tmp, Fr.ev_const, Fr.up_get, Nat.reduceLT, Nat.reduceEqDiff, ↓reduceIte])) (by simp only [Fr.ev_tmp, Fr.ev_const, Fr.up_get, Nat.reduceLT, Nat.reduceEqDiff, ↓reduceIte, f7, f8, f9, f10, f11]; try rfl) ?_
    (refine Fr.l_call rfl (Fr.w_yes rfl d7 (by decide) (by simp only [Fr.ev_tmp, Fr.ev_const, Fr.up_get, Nat.reduceLT, Nat.reduceEqDiff, ↓reduceIte])) (by go_simp; first | done | (with_reducible rfl) | (with_reducible exact ⟨rfl, rfl⟩) | (with_reducible exact ⟨⟨rfl, rfl⟩, rfl⟩)) ?_; refine (specSame_any _ _ _).mono ?_; rintro e w2 ⟨rfl, rfl⟩; refine ⟨_, rfl, ?_⟩)
    rw [sameB_refl]
    refine Fr.l_val rfl (Fr.w_yes rfl d7 (by decide) (by simp only [Fr.ev_tmp, Fr.ev_const, Fr.up_get, Nat.reduceLT, Nat.reduceEqDiff, ↓reduceIte])) (by go_simp; first | done | (with_reducible rfl) | (with_reducible exact ⟨rfl, rfl⟩) | (with_reducible exact ⟨⟨rfl, rfl⟩, rfl⟩)) ?_
    refine Fr.l_val rfl (Fr.w_none rfl) (by go_simp; first | done | (with_reducible rfl) | (with_reducible exact ⟨rfl, rfl⟩) | (with_reducible exact ⟨⟨rfl, rfl⟩, rfl⟩)) ?_
    refine Fr.l_mv rfl rfl (Fr.w_none rfl) (by simp only [Fr.ev_tmp, Fr.ev_const, Fr.up_get, Nat.reduceLT, Nat.reduceEqDiff, ↓reduceIte, f7, f8, f9, f10, f11]; try rfl) ?_
    refine Fr.l_mv rfl rfl (Fr.w_yes rfl d13 (by decide) (by simp only [Fr.ev_tmp, Fr.ev_const, Fr.up_get, Nat.reduceLT, Nat.reduceEqDiff, ↓reduceIte])) (by simp only [Fr.ev_tmp, Fr.ev_const, Fr.up_get, Nat.reduceLT, Nat.reduceEqDiff, ↓reduceIte, f7, f8, f9, f10, f11]; try rfl) ?_
    refine Fr.l_val rfl (Fr.w_yes rfl d13 (by decide) (by simp only [Fr.ev_tmp, Fr.ev_const, Fr.up_get, Nat.reduceLT, Nat.reduceEqDiff, ↓reduceIte])) (by go_simp; first | done | (with_reducible rfl) | (with_reducible exact ⟨rfl, rfl⟩) | (with_reducible exact ⟨⟨rfl, rfl⟩, rfl⟩)) ?_
    refine Fr.l_mv rfl rfl (Fr.w_yes rfl d13 (by decide) (by simp only [Fr.ev_tmp, Fr.ev_const, Fr.up_get, Nat.reduceLT, Nat.reduceEqDiff, ↓reduceIte])) (by simp only [Fr.ev_tmp, Fr.ev_const, Fr.up_get, Nat.reduceLT, Nat.reduceEqDiff, ↓reduceIte, f7, f8, f9, f10, f11]; try rfl) ?_
    refine Fr.l_pass rfl (Fr.w_no rfl d16 (by decide) (by first | (left; simp only [Fr.ev_tmp, Fr.ev_const, Fr.up_get, Nat.reduceLT, Nat.reduceEqDiff, ↓reduceIte, Bool.not_true, Bool.not_false]; done) | (right; simp only [Fr.ev_tmp, Fr.ev_const, Fr.up_get, Nat.reduceLT, Nat.reduceEqDiff, ↓reduceIte, Bool.not_true, Bool.not_false]; done))) ?_
    refine Fr.l_pass rfl (Fr.w_no rfl d16 (by decide) (by first | (left; simp only [Fr.ev_tmp, Fr.ev_const, Fr.up_get, Nat.reduceLT, Nat.reduceEqDiff, ↓reduceIte, Bool.not_true, Bool.not_false]; done) | (right; simp only [Fr.ev_tmp, Fr.ev_const, Fr.up_get, Nat.reduceLT, Nat.reduceEqDiff, ↓reduceIte, Bool.not_true, Bool.not_false]; done))) ?_
    refine Fr.l_val rfl (Fr.w_yes rfl d13 (by decide) (by simp only [Fr.ev_tmp, Fr.ev_const, Fr.up_get, Nat.reduceLT, Nat.reduceEqDiff, ↓reduceIte])) (by go_simp; first | done | (with_reducible rfl) | (with_reducible exact ⟨rfl, rfl⟩) | (with_reducible exact ⟨⟨rfl, rfl⟩, rfl⟩)) ?_
    refine Fr.l_val rfl (Fr.w_none rfl) (by go_simp; first | done | (with_reducible rfl) | (with_reducible exact ⟨rfl, rfl⟩) | (with_reducible exact ⟨⟨rfl, rfl⟩, rfl⟩)) ?_
    refine Fr.l_nil ?_
    refine Fr.l_cond (t := false) (by simp only [Fr.ev_tmp, Fr.ev_const, Fr.up_get, Nat.reduceLT, Nat.reduceEqDiff, ↓reduceIte]; try rfl) (fun h => absurd h (by decide)) (fun _ => ?_)
    refine wp_skip ?_
    refine HK.out _ _ hw ?_
    repeat (refine Fr.Agree.up (by decide) ?_)
    exact Fr.Agree.refl _ _
  · refine wp_region_lit ?_
    refine Fr.l_ops ?_
    intro OPS hO
    have d2 : (OPS[2]?).bind (·.dst) = some 65 := by rw [hO]; kernel_rfl
    have d7 : (OPS[7]?).bind (·.dst) = some 70 := by rw [hO]; kernel_rfl
    have d13 : (OPS[13]?).bind (·.dst) = some 76 := by rw [hO]; kernel_rfl
    have d16 : (OPS[16]?).bind (·.dst) = some 79 := by rw [hO]; kernel_rfl
    clear hO
    refine Fr.l_mv rfl rfl (Fr.w_none rfl) (by simp only [Fr.ev_tmp, Fr.ev_const, Fr.up_get, Nat.reduceLT, Nat.reduceEqDiff, ↓reduceIte, f7, f8, f9, f10, f11]; try rfl) ?_
    refine Fr.l_val rfl (Fr.w_none rfl) (by go_simp; first | done | (with_reducible rfl) | (with_reducible exact ⟨rfl, rfl⟩) | (with_reducible exact ⟨⟨rfl, rfl⟩, rfl⟩)) ?_
    refine Fr.l_mv rfl rfl (Fr.w_none rfl) (by simp only [Fr.ev_tmp, Fr.ev_const, Fr.up_get, Nat.reduceLT, Nat.reduceEqDiff, ↓reduceIte, f7, f8, f9, f10, f11]; try rfl) ?_
    refine Fr.l_mv rfl rfl (Fr.w_yes rfl d2 (by decide) (by simp only [Fr.ev_tmp, Fr.ev_const, Fr.up_get, Nat.reduceLT, Nat.reduceEqDiff, ↓reduceIte])) (by simp only [Fr.ev_tmp, Fr.ev_const, Fr.up_get, Nat.reduceLT, Nat.reduceEqDiff, ↓reduceIte, f7, f8, f9, f10, f11]; try rfl) ?_
    refine Fr.l_mv rfl rfl (Fr.w_yes rfl d2 (by decide) (by simp only [Fr.ev_tmp, Fr.ev_const, Fr.up_get, Nat.reduceLT, Nat.reduceEqDiff, ↓reduceIte])) (by simp only [Fr.ev_tmp, Fr.ev_const, Fr.up_get, Nat.reduceLT, Nat.reduceEqDiff, ↓reduceIte, f7, f8, f9, f10, f11]; try rfl) ?_
    refine Fr.l_val rfl (Fr.w_yes rfl d2 (by decide) (by simp only [Fr.ev_tmp, Fr.ev_const, Fr.up_get, Nat.reduceLT, Nat.reduceEqDiff, ↓reduceIte])) (by go_simp; first | done | (with_reducible rfl) | (with_reducible exact ⟨rfl, rfl⟩) | (with_reducible exact ⟨⟨rfl, rfl⟩, rfl⟩)) ?_
    refine Fr.l_val rfl (Fr.w_none rfl) (by go_simp; first | done | (with_reducible rfl) | (with_reducible exact ⟨rfl, rfl⟩) | (with_reducible exact ⟨⟨rfl, rfl⟩, rfl⟩)) ?_
    refine Fr.l_mv rfl rfl (Fr.w_none rfl) (by simp only [Fr.ev_tmp, Fr.ev_const, Fr.up_get, Nat.reduceLT, Nat.reduceEqDiff, ↓reduceIte, f7, f8, f9, f10, f11]; try rfl) ?_
    refine Fr.l_mv rfl rfl (Fr.w_yes rfl d7 (by decide) (by simp only [Fr.ev_tmp, Fr.ev_const, Fr.up_get, Nat.reduceLT, Nat.reduceEqDiff, ↓reduceIte])) (by simp only [Fr.ev_tmp, Fr.ev_const, Fr.up_get, Nat.reduceLT, Nat.reduceEqDiff, ↓reduceIte, f7, f8, f9, f10, f11]; try rfl) ?_
    refine Fr.l_mv rfl rfl (Fr.w_yes rfl d7 (by decide) (by simp only [Fr.ev_tmp, Fr.ev_const, Fr.up_get, Nat.reduceLT, Nat.reduceEqDiff, ↓reduceIte])) (by simp only [Fr.ev_tmp, Fr.ev_const, Fr.up_get, Nat.reduceLT, Nat.reduceEqDiff, ↓reduceIte, f7, f8, f9, f10, f11]; try rfl) ?_
    (refine Fr.l_call rfl (Fr.w_yes rfl d7 (by decide) (by simp only [Fr.ev_tmp, Fr.ev_const, Fr.up_get, Nat.reduceLT, Nat.reduceEqDiff, ↓reduceIte])) (by go_simp; first | done | (with_reducible rfl) | (with_reducible exact ⟨rfl, rfl⟩) | (with_reducible exact ⟨⟨rfl, rfl⟩, rfl⟩)) ?_; refine (specSame_any _ _ _).mono ?_; rintro e w2 ⟨rfl, rfl⟩; refine ⟨_, rfl, ?_⟩)
    rw [sameB_refl]
    refine Fr.l_val rfl (Fr.w_yes rfl d7 (by decide) (by simp only [Fr.ev_tmp, Fr.ev_const, Fr.up_get, Nat.reduceLT, Nat.reduceEqDiff, ↓reduceIte])) (by go_simp; first | done | (with_reducible rfl) | (with_reducible exact ⟨rfl, rfl⟩) | (with_reducible exact ⟨⟨rfl, rfl⟩, rfl⟩)) ?_
    refine Fr.l_val rfl (Fr.w_none rfl) (by go_simp; first | done | (with_reducible rfl) | (with_reducible exact ⟨rfl, rfl⟩) | (with_reducible exact ⟨⟨rfl, rfl⟩, rfl⟩)) ?_
    refine Fr.l_mv rfl rfl (Fr.w_none rfl) (by simp only [Fr.ev_tmp, Fr.ev_const, Fr.up_get, Nat.reduceLT, Nat.reduceEqDiff, ↓reduceIte, f7, f8, f9, f10, f11]; try rfl) ?_
    refine Fr.l_mv rfl rfl (Fr.w_yes rfl d13 (by decide) (by simp only [Fr.ev_tmp, Fr.ev_const, Fr.up_get, Nat.reduceLT, Nat.reduceEqDiff, ↓reduceIte])) (by simp only [Fr.ev_tmp, Fr.ev_const, Fr.up_get, Nat.reduceLT, Nat.reduceEqDiff, ↓reduceIte, f7, f8, f9, f10, f11]; try rfl) ?_
    refine Fr.l_val rfl (Fr.w_yes rfl d13 (by decide) (by simp only [Fr.ev_tmp, Fr.ev_const, Fr.up_get, Nat.reduceLT, Nat.reduceEqDiff, ↓reduceIte])) (by go_simp; first | done | (with_reducible rfl) | (with_reducible exact ⟨rfl, rfl⟩) | (with_reducible exact ⟨⟨rfl, rfl⟩, rfl⟩)) ?_
    refine Fr.l_mv rfl rfl (Fr.w_yes rfl d13 (by decide) (by simp only [Fr.ev_tmp, Fr.ev_const, Fr.up_get, Nat.reduceLT, Nat.reduceEqDiff, ↓reduceIte])) (by simp only [Fr.ev_tmp, Fr.ev_const, Fr.up_get, Nat.reduceLT, Nat.reduceEqDiff, ↓reduceIte, f7, f8, f9, f10, f11]; try rfl) ?_
    refine Fr.l_mv rfl rfl (Fr.w_yes rfl d16 (by decide) (by simp only [Fr.ev_tmp, Fr.ev_const, Fr.up_get, Nat.reduceLT, Nat.reduceEqDiff, ↓reduceIte])) (by simp only [Fr.ev_tmp, Fr.ev_const, Fr.up_get, Nat.reduceLT, Nat.reduceEqDiff, ↓reduceIte, f7, f8, f9, f10, f11]; try rfl) ?_
    refine Fr.l_val rfl (Fr.w_yes rfl d16 (by decide) (by simp only [Fr.ev_tmp, Fr.ev_const, Fr.up_get, Nat.reduceLT, Nat.reduceEqDiff, ↓reduceIte])) (by go_simp; first | done | (with_reducible rfl) | (with_reducible exact ⟨rfl, rfl⟩) | (with_reducible exact ⟨⟨rfl, rfl⟩, rfl⟩)) ?_
    refine Fr.l_val rfl (Fr.w_yes rfl d13 (by decide) (by simp only [Fr.ev_tmp, Fr.ev_const, Fr.up_get, Nat.reduceLT, Nat.reduceEqDiff, ↓reduceIte])) (by go_simp; first | done | (with_reducible rfl) | (with_reducible exact ⟨rfl, rfl⟩) | (with_reducible exact ⟨⟨rfl, rfl⟩, rfl⟩)) ?_
    refine Fr.l_val rfl (Fr.w_none rfl) (by go_simp; first | done | (with_reducible rfl) | (with_reducible exact ⟨rfl, rfl⟩) | (with_reducible exact ⟨⟨rfl, rfl⟩, rfl⟩)) ?_
    refine Fr.l_nil ?_
    refine Fr.l_cond (t := false) (by simp only [Fr.ev_tmp, Fr.ev_const, Fr.up_get, Nat.reduceLT, Nat.reduceEqDiff, ↓reduceIte]; try rfl) (fun h => absurd h (by decide)) (fun _ => ?_)
    refine wp_skip ?_
    refine HK.out _ _ hw ?_
    repeat (refine Fr.Agree.up (by decide) ?_)
    exact Fr.Agree.refl _ _

set_option maxRecDepth 100000 in
set_option maxHeartbeats 16000000 in
theorem b17 {V : Nat} {K : Int} {W w : World} {Q : Exit → Act → World → Prop} {R : Code} {f : Nat → Value} (f15 : f 15 = .float .f32 V) (f16 : f 16 = .int .i64 K) (f17 : f 17 = .float .f32 V) (f18 : f 18 = .int .i64 K) (hK : K = 0 ∨ K = 6) (hw : BelowC W w)
    (k : ∀ (w' : World) (g : Nat → Value), BelowC W w' → Fr.Agree 123 f g → Code.wp Try.prog R Q ⟨Fr.ft 311 g, []⟩ w') :
    Code.wp Try.prog ((Fr.fs (Fr.sn (Fr.sn (Fr.sn (Fr.sn (Fr.sn (Fr.sn (Fr.sn (Fr.sn (Fr.sn (Fr.sn (B10)))))))))))).seq R) Q ⟨Fr.ft 311 f, []⟩ w := by
  have HK := Lib.hid k
  clear k
  conv => arg 2; arg 1; whnf
  have E1 := @Fr.ev_tmp 311
  have E2 := @Fr.ev_const 311
  have E3 := @Fr.up_get
  have E4 := @Fr.ev_func 311
  have E5 := @Fr.ev_global 311
  refine wp_seq ?_
  refine wp_seq ?_
  rcases hK with rfl | rfl
  · refine wp_region_lit ?_
    refine Fr.l_ops ?_
    intro OPS hO
    have d3 : (OPS[3]?).bind (·.dst) = some 126 := by rw [hO]; kernel_rfl
    have d9 : (OPS[9]?).bind (·.dst) = some 132 := by rw [hO]; kernel_rfl
    have d12 : (OPS[12]?).bind (·.dst) = some 135 := by rw [hO]; kernel_rfl
    clear hO
    refine Fr.l_mv rfl rfl (Fr.w_none rfl) (by simp only [Fr.ev_tmp, Fr.ev_const, Fr.up_get, Nat.reduceLT, Nat.reduceEqDiff, ↓reduceIte, f15, f16, f17, f18]; try rfl) ?_
    refine Fr.l_mv rfl rfl (Fr.w_none rfl) (by simp only [Fr.ev_tmp, Fr.ev_const, Fr.up_get, Nat.reduceLT, Nat.reduceEqDiff, ↓reduceIte, f15, f16, f17, f18]; try rfl) ?_
    refine Fr.l_val rfl (Fr.w_none rfl) (by go_simp; first | done | (with_reducible rfl) | (with_reducible exact ⟨rfl, rfl⟩) | (with_reducible exact ⟨⟨rfl, rfl⟩, rfl⟩)) ?_
    refine Fr.l_mv rfl rfl (Fr.w_none rfl) (by simp only [Fr.ev_tmp, Fr.ev_const, Fr.up_get, Nat.reduceLT, Nat.reduceEqDiff, ↓reduceIte, f15, f16, f17, f18]; try rfl) ?_
    refine Fr.l_mv rfl rfl (Fr.w_yes rfl d3 (by decide) (by simp only [Fr.ev_tmp, Fr.ev_const, Fr.up_get, Nat.reduceLT, Nat.reduceEqDiff, ↓reduceIte])) (by simp only [Fr.ev_tmp, Fr.ev_const, Fr.up_get, Nat.reduceLT, Nat.reduceEqDiff, ↓reduceIte, f15, f16, f17, f18]; try rfl) ?_
    refine Fr.l_mv rfl rfl (Fr.w_yes rfl d3 (by decide) (by simp only [Fr.ev_tmp, Fr.ev_const, Fr.up_get, Nat.reduceLT, Nat.reduceEqDiff, ↓reduceIte])) (by simp only [Fr.ev_tmp, Fr.ev_const, Fr.up_get, Nat.reduceLT, Nat.reduceEqDiff, ↓reduceIte, f15, f16, f17, f18]; try rfl) ?_
    (refine Fr.l_call rfl (Fr.w_yes rfl d3 (by decide) (by simp only [Fr.ev_tmp, Fr.ev_const, Fr.up_get, Nat.reduceLT, Nat.reduceEqDiff, ↓reduceIte])) (by go_simp; first | done | (with_reducible rfl) | (with_reducible exact ⟨rfl, rfl⟩) | (with_reducible exact ⟨⟨rfl, rfl⟩, rfl⟩)) ?_; refine (specSame_any _ _ _).mono ?_; rintro e w2 ⟨rfl, rfl⟩; refine ⟨_, rfl, ?_⟩)
    rw [sameB_refl]
    refine Fr.l_val rfl (Fr.w_yes rfl d3 (by decide) (by simp only [Fr.ev_tmp, Fr.ev_const, Fr.up_get, Nat.reduceLT, Nat.reduceEqDiff, ↓reduceIte])) (by go_simp; first | done | (with_reducible rfl) | (with_reducible exact ⟨rfl, rfl⟩) | (with_reducible exact ⟨⟨rfl, rfl⟩, rfl⟩)) ?_
    refine Fr.l_val rfl (Fr.w_none rfl) (by go_simp; first | done | (with_reducible rfl) | (with_reducible exact ⟨rfl, rfl⟩) | (with_reducible exact ⟨⟨rfl, rfl⟩, rfl⟩)) ?_
    refine Fr.l_mv rfl rfl (Fr.w_none rfl) (by simp only [Fr.ev_tmp, Fr.ev_const, Fr.up_get, Nat.reduceLT, Nat.reduceEqDiff, ↓reduceIte, f15, f16, f17, f18]; try rfl) ?_
    refine Fr.l_mv rfl rfl (Fr.w_yes rfl d9 (by decide) (by simp only [Fr.ev_tmp, Fr.ev_const, Fr.up_get, Nat.reduceLT, Nat.reduceEqDiff, ↓reduceIte])) (by simp only [Fr.ev_tmp, Fr.ev_const, Fr.up_get, Nat.reduceLT, Nat.reduceEqDiff, ↓reduceIte, f15, f16, f17, f18]; try rfl) ?_
    refine Fr.l_val rfl (Fr.w_yes rfl d9 (by decide) (by simp only [Fr.ev_tmp, Fr.ev_const, Fr.up_get, Nat.reduceLT, Nat.reduceEqDiff, ↓reduceIte])) (by go_simp; first | done | (with_reducible rfl) | (with_reducible exact ⟨rfl, rfl⟩) | (with_reducible exact ⟨⟨rfl, rfl⟩, rfl⟩)) ?_
    refine Fr.l_mv rfl rfl (Fr.w_yes rfl d9 (by decide) (by simp only [Fr.ev_tmp, Fr.ev_const, Fr.up_get, Nat.reduceLT, Nat.reduceEqDiff, ↓reduceIte])) (by simp only [Fr.ev_tmp, Fr.ev_const, Fr.up_get, Nat.reduceLT, Nat.reduceEqDiff, ↓reduceIte, f15, f16, f17, f18]; try rfl) ?_
    refine Fr.l_pass rfl (Fr.w_no rfl d12 (by decide) (by first | (left; simp only [Fr.ev_tmp, Fr.ev_const, Fr.up_get, Nat.reduceLT, Nat.reduceEqDiff, ↓reduceIte, Bool.not_true, Bool.not_false]; done) | (right; simp only [Fr.ev_tmp, Fr.ev_const, Fr.up_get, Nat.reduceLT, Nat.reduceEqDiff, ↓reduceIte, Bool.not_true, Bool.not_false]; done))) ?_
    refine Fr.l_pass rfl (Fr.w_no rfl d12 (by decide) (by first | (left; simp only [Fr.ev_tmp, Fr.ev_const, Fr.up_get, Nat.reduceLT, Nat.reduceEqDiff, ↓reduceIte, Bool.not_true, Bool.not_false]; done) | (right; simp only [Fr.ev_tmp, Fr.ev_const, Fr.up_get, Nat.reduceLT, Nat.reduceEqDiff, ↓reduceIte, Bool.not_true, Bool.not_false]; done))) ?_
    refine Fr.l_val rfl (Fr.w_yes rfl d9 (by decide) (by simp only [Fr.ev_tmp, Fr.ev_const, Fr.up_get, Nat.reduceLT, Nat.reduceEqDiff, ↓reduceIte])) (by go_simp; first | done | (with_reducible rfl) | (with_reducible exact ⟨rfl, rfl⟩) | (with_reducible exact ⟨⟨rfl, rfl⟩, rfl⟩)) ?_
    refine Fr.l_val rfl (Fr.w_none rfl) (by go_simp; first | done | (with_reducible rfl) | (with_reducible exact ⟨rfl, rfl⟩) | (with_reducible exact ⟨⟨rfl, rfl⟩, rfl⟩)) ?_
    refine Fr.l_nil ?_
    refine Fr.l_cond (t := false) (by simp only [Fr.ev_tmp, Fr.ev_const, Fr.up_get, Nat.reduceLT, Nat.reduceEqDiff, ↓reduceIte]; try rfl) (fun h => absurd h (by decide)) (fun _ => ?_)
    refine wp_skip ?_
    refine HK.out _ _ hw ?_
    repeat (refine Fr.Agree.up (by decide) ?_)
    exact Fr.Agree.refl _ _
  · refine wp_region_lit ?_
    refine Fr.l_ops ?_
    intro OPS hO
    have d3 : (OPS[3]?).bind (·.dst) = some 126 := by rw [hO]; kernel_rfl
    have d9 : (OPS[9]?).bind (·.dst) = some 132 := by rw [hO]; kernel_rfl
    have d12 : (OPS[12]?).bind (·.dst) = some 135 := by rw [hO]; kernel_rfl
    clear hO
    refine Fr.l_mv rfl rfl (Fr.w_none rfl) (by simp only [Fr.ev_tmp, Fr.ev_const, Fr.up_get, Nat.reduceLT, Nat.reduceEqDiff, ↓reduceIte, f15, f16, f17, f18]; try rfl) ?_
    refine Fr.l_mv rfl rfl (Fr.w_none rfl) (by simp only [Fr.ev_tmp, Fr.ev_const, Fr.up_get, Nat.reduceLT, Nat.reduceEqDiff, ↓reduceIte, f15, f16, f17, f18]; try rfl) ?_
    refine Fr.l_val rfl (Fr.w_none rfl) (by go_simp; first | done | (with_reducible rfl) | (with_reducible exact ⟨rfl, rfl⟩) | (with_reducible exact ⟨⟨rfl, rfl⟩, rfl⟩)) ?_
    refine Fr.l_mv rfl rfl (Fr.w_none rfl) (by simp only [Fr.ev_tmp, Fr.ev_const, Fr.up_get, Nat.reduceLT, Nat.reduceEqDiff, ↓reduceIte, f15, f16, f17, f18]; try rfl) ?_
    refine Fr.l_mv rfl rfl (Fr.w_yes rfl d3 (by decide) (by simp only [Fr.ev_tmp, Fr.ev_const, Fr.up_get, Nat.reduceLT, Nat.reduceEqDiff, ↓reduceIte])) (by simp only [Fr.ev_tmp, Fr.ev_const, Fr.up_get, Nat.reduceLT, Nat.reduceEqDiff, ↓reduceIte, f15, f16, f17, f18]; try rfl) ?_
    refine Fr.l_mv rfl rfl (Fr.w_yes rfl d3 (by decide) (by simp only [Fr.ev_tmp, Fr.ev_const, Fr.up_get, Nat.reduceLT, Nat.reduceEqDiff, ↓reduceIte])) (by simp only [Fr.ev_tmp, Fr.ev_const, Fr.up_get, Nat.reduceLT, Nat.reduceEqDiff, ↓reduceIte, f15, f16, f17, f18]; try rfl) ?_
    (refine Fr.l_call rfl (Fr.w_yes rfl d3 (by decide) (by simp only [Fr.ev_tmp, Fr.ev_const, Fr.up_get, Nat.reduceLT, Nat.reduceEqDiff, ↓reduceIte])) (by go_simp; first | done | (with_reducible rfl) | (with_reducible exact ⟨rfl, rfl⟩) | (with_reducible exact ⟨⟨rfl, rfl⟩, rfl⟩)) ?_; refine (specSame_any _ _ _).mono ?_; rintro e w2 ⟨rfl, rfl⟩; refine ⟨_, rfl, ?_⟩)
    rw [sameB_refl]
    refine Fr.l_val rfl (Fr.w_yes rfl d3 (by decide) (by simp only [Fr.ev_tmp, Fr.ev_const, Fr.up_get, Nat.reduceLT, Nat.reduceEqDiff, ↓reduceIte])) (by go_simp; first | done | (with_reducible rfl) | (with_reducible exact ⟨rfl, rfl⟩) | (with_reducible exact ⟨⟨rfl, rfl⟩, rfl⟩)) ?_
    refine Fr.l_val rfl (Fr.w_none rfl) (by go_simp; first | done | (with_reducible rfl) | (with_reducible exact ⟨rfl, rfl⟩) | (with_reducible exact ⟨⟨rfl, rfl⟩, rfl⟩)) ?_
    refine Fr.l_mv rfl rfl (Fr.w_none rfl) (by simp only [Fr.ev_tmp, Fr.ev_const, Fr.up_get, Nat.reduceLT, Nat.reduceEqDiff, ↓reduceIte, f15, f16, f17, f18]; try rfl) ?_
    refine Fr.l_mv rfl rfl (Fr.w_yes rfl d9 (by decide) (by simp only [Fr.ev_tmp, Fr.ev_const, Fr.up_get, Nat.reduceLT, Nat.reduceEqDiff, ↓reduceIte])) (by simp only [Fr.ev_tmp, Fr.ev_const, Fr.up_get, Nat.reduceLT, Nat.reduceEqDiff, ↓reduceIte, f15, f16, f17, f18]; try rfl) ?_
    refine Fr.l_val rfl (Fr.w_yes rfl d9 (by decide) (by simp only [Fr.ev_tmp, Fr.ev_const, Fr.up_get, Nat.reduceLT, Nat.reduceEqDiff, ↓reduceIte])) (by go_simp; first | done | (with_reducible rfl) | (with_reducible exact ⟨rfl, rfl⟩) | (with_reducible exact ⟨⟨rfl, rfl⟩, rfl⟩)) ?_
    refine Fr.l_mv rfl rfl (Fr.w_yes rfl d9 (by decide) (by simp only [Fr.ev_tmp, Fr.ev_const, Fr.up_get, Nat.reduceLT, Nat.reduceEqDiff, ↓reduceIte])) (by simp only [Fr.ev_tmp, Fr.ev_const, Fr.up_get, Nat.reduceLT, Nat.reduceEqDiff, ↓reduceIte, f15, f16, f17, f18]; try rfl) ?_
    refine Fr.l_mv rfl rfl (Fr.w_yes rfl d12 (by decide) (by simp only [Fr.ev_tmp, Fr.ev_const, Fr.up_get, Nat.reduceLT, Nat.reduceEqDiff, ↓reduceIte])) (by simp only [Fr.ev_tmp, Fr.ev_const, Fr.up_get, Nat.reduceLT, Nat.reduceEqDiff, ↓reduceIte, f15, f16, f17, f18]; try rfl) ?_
    refine Fr.l_val rfl (Fr.w_yes rfl d12 (by decide) (by simp only [Fr.ev_tmp, Fr.ev_const, Fr.up_get, Nat.reduceLT, Nat.reduceEqDiff, ↓reduceIte])) (by go_simp; first | done | (with_reducible rfl) | (with_reducible exact ⟨rfl, rfl⟩) | (with_reducible exact ⟨⟨rfl, rfl⟩, rfl⟩)) ?_
    refine Fr.l_val rfl (Fr.w_yes rfl d9 (by decide) (by simp only [Fr.ev_tmp, Fr.ev_const, Fr.up_get, Nat.reduceLT, Nat.reduceEqDiff, ↓reduceIte])) (by go_simp; first | done | (with_reducible rfl) | (with_reducible exact ⟨rfl, rfl⟩) | (with_reducible exact ⟨⟨rfl, rfl⟩, rfl⟩)) ?_
    refine Fr.l_val rfl (Fr.w_none rfl) (by go_simp; first | done | (with_reducible rfl) | (with_reducible exact ⟨rfl, rfl⟩) | (with_reducible exact ⟨⟨rfl, rfl⟩, rfl⟩)) ?_
    refine Fr.l_nil ?_
    refine Fr.l_cond (t := false) (by simp only [Fr.ev_tmp, Fr.ev_const, Fr.up_get, Nat.reduceLT, Nat.reduceEqDiff, ↓reduceIte]; try rfl) (fun h => absurd h (by decide)) (fun _ => ?_)
    refine wp_skip ?_
    refine HK.out _ _ hw ?_
    repeat (refine Fr.Agree.up (by decide) ?_)
    exact Fr.Agree.refl _ _

end Go.Proofs.Ytljigmplmlhdnaa.yBeltsFound

/-! The great law on belts, an element: what is found. (written by wip/gen/belts.py.) -/
namespace Go.Proofs.Ytljigmplmlhdnaa.yBeltsFound
open Go.RowKit
set_option linter.unusedVariables false
set_option linter.unusedSimpArgs false

set_option maxRecDepth 100000 in
set_option maxHeartbeats 16000000 in
theorem b9 {a b c d P V L : Nat} {x : Bool} {K : Int} {W w : World} {Q : Exit → Act → World → Prop} {R : Code} {f : Nat → Value} (f5 : f 5 = .pointer (some ⟨P, 0, none⟩)) (f6 : f 6 = .float .f32 L) (f9 : f 9 = .int .i64 K) (f10 : f 10 = .float .f32 V)
    (q0 : ∀ w, BelowC W w → w.cell? ⟨P, 0, none⟩ = some (.float .f32 a)) (q1 : ∀ w, BelowC W w → w.cell? ⟨P, 1, none⟩ = some (.float .f32 b)) (q2 : ∀ w, BelowC W w → w.cell? ⟨P, 2, none⟩ = some (.float .f32 c)) (q3 : ∀ w, BelowC W w → w.cell? ⟨P, 3, none⟩ = some (.float .f32 d)) (q4 : ∀ w, BelowC W w → w.cell? ⟨P, 4, none⟩ = some (.bool x))
    (hK : K = 0 ∨ K = 6) (hF : K = 0 → beltB a b V d = true ∧ flt .f32 L (lengthC a b V x) = false ∧ F (cop .sub (lengthC a b V x) L) ∧ nearB (lengthC a b V x) L 953267991 1008981770 = true ∧ F (lengthC a b V x)) (hw : BelowC W w)
    (k : ∀ (w' : World) (g : Nat → Value), BelowC W w' → Fr.Kp 0 12 f g → Code.wp Try.prog R Q ⟨Fr.ft 311 g, []⟩ w') :
    Code.wp Try.prog ((Fr.fs (Fr.sn (Fr.sn (Fr.sn (Fr.sn (Fr.sn (Fr.sn (Fr.sn (B10))))))))).seq R) Q ⟨Fr.ft 311 f, []⟩ w := by
  have HK := Lib.hid k
  have HF := Lib.hid hF
  clear k hF
  conv => arg 2; arg 1; whnf
  have E1 := @Fr.ev_tmp 311
  have E2 := @Fr.ev_const 311
  have E3 := @Fr.up_get
  have E4 := @Fr.ev_func 311
  have E5 := @Fr.ev_global 311
  refine wp_seq ?_
  refine wp_seq ?_
  rcases hK with rfl | rfl
  · obtain ⟨hB, hlt, hS, hN, hLF⟩ := HF.out rfl
    refine wp_region_lit ?_
    refine Fr.l_mv rfl rfl (Fr.w_none rfl) (by simp only [Fr.ev_tmp, Fr.ev_const, Fr.up_get, Nat.reduceLT, Nat.reduceEqDiff, ↓reduceIte, f5, f6, f9, f10]; try rfl) ?_
    refine Fr.l_val rfl (Fr.w_none rfl) (by go_simp; first | done | (with_reducible rfl) | (with_reducible exact ⟨rfl, rfl⟩) | (with_reducible exact ⟨⟨rfl, rfl⟩, rfl⟩)) ?_
    refine Fr.l_nil ?_
    refine Fr.l_cond (t := true) (by simp only [Fr.ev_tmp, Fr.ev_const, Fr.up_get, Nat.reduceLT, Nat.reduceEqDiff, ↓reduceIte]; try rfl) (fun _ => ?_) (fun h => absurd h (by decide))
    refine wp_seq ?_
    refine wp_region_lit ?_
    refine Fr.l_val rfl (Fr.w_none rfl) (by go_simp; first | done | (with_reducible rfl) | (with_reducible exact ⟨rfl, rfl⟩) | (with_reducible exact ⟨⟨rfl, rfl⟩, rfl⟩)) ?_
    refine Fr.l_val rfl (Fr.w_none rfl) (by go_simp; first | done | (with_reducible rfl) | (with_reducible exact ⟨rfl, rfl⟩) | (with_reducible exact ⟨⟨rfl, rfl⟩, rfl⟩)) ?_
    refine Fr.l_skip rfl (Fr.w_none rfl) (by go_simp; first | done | (with_reducible rfl) | (with_reducible exact ⟨rfl, rfl⟩) | (with_reducible exact ⟨⟨rfl, rfl⟩, rfl⟩)) ?_
    refine Fr.l_nil ?_
    have HP := own_lit w w.heap.size 31 (size := 5) 1 #[.float .f32 a, .float .f32 b, .float .f32 c, .float .f32 d, .bool x] (Nat.le_refl _) (by decide) rfl
    have hb5 : BelowC W (w.alloc (.cells #[.float .f32 a, .float .f32 b, .float .f32 c, .float .f32 d, .bool x] 31)) := Below.alloc hw hw.size _
    have hwP : W.heap.size ≤ w.heap.size := hw.size
    obtain ⟨P2, hP2⟩ : ∃ p, p = w.heap.size := ⟨_, rfl⟩
    rw [← hP2] at HP hwP
    refine Fr.nameW ?_
    intro w5 hw5
    rw [← hw5] at HP hb5
    rw [← hP2]
    clear hw5 hP2
    have c0 := own_cell HP (j := 0) rfl
    have c1 := own_cell HP (j := 1) rfl
    have c2 := own_cell HP (j := 2) rfl
    have c3 := own_cell HP (j := 3) rfl
    have c4 := own_cell HP (j := 4) rfl
    have hfr := own_free HP
    have HPP := Lib.hid HP
    clear HP
    refine wp_seq ?_
    refine wp_region_lit ?_
    refine Fr.l_mv rfl rfl (Fr.w_none rfl) (by simp only [Fr.ev_tmp, Fr.ev_const, Fr.up_get, Nat.reduceLT, Nat.reduceEqDiff, ↓reduceIte, f5, f6, f9, f10]; try rfl) ?_
    refine Fr.l_val rfl (Fr.w_none rfl) (by go_simp; first | done | (with_reducible rfl) | (with_reducible exact ⟨rfl, rfl⟩) | (with_reducible exact ⟨⟨rfl, rfl⟩, rfl⟩)) ?_
    refine Fr.l_skip rfl (Fr.w_none rfl) (by go_simp; first | done | (with_reducible rfl) | (with_reducible exact ⟨rfl, rfl⟩) | (with_reducible exact ⟨⟨rfl, rfl⟩, rfl⟩)) ?_
    refine Fr.l_nil ?_
    have HP6 := (HPP.out.stored 2 (.float .f32 V)).1
    have hb6 : BelowC W (w5.setCell ⟨P2, 2, none⟩ (.float .f32 V)) := Below.setCell (p := ⟨P2, 2, none⟩) hb5 hwP _
    refine Fr.nameW ?_
    intro w6 hw6
    rw [← hw6] at HP6 hb6
    clear hw6 c0 c1 c2 c3 c4 hfr
    have c0 := own_cell HP6 (j := 0) rfl
    have c1 := own_cell HP6 (j := 1) rfl
    have c2 := own_cell HP6 (j := 2) rfl
    have c3 := own_cell HP6 (j := 3) rfl
    have c4 := own_cell HP6 (j := 4) rfl
    have HP6' := Lib.hid HP6
    clear HP6
    refine wp_seq ?_
    refine wp_region_lit ?_
    refine Fr.l_val rfl (Fr.w_none rfl) (by go_simp; first | done | (with_reducible rfl) | (with_reducible exact ⟨rfl, rfl⟩) | (with_reducible exact ⟨⟨rfl, rfl⟩, rfl⟩)) ?_
    (refine Fr.l_call rfl (Fr.w_none rfl) (by go_simp; first | done | (with_reducible rfl) | (with_reducible exact ⟨rfl, rfl⟩) | (with_reducible exact ⟨⟨rfl, rfl⟩, rfl⟩)) ?_; refine (implLen_yes _ hB hLF).mono ?_; rintro e w7 ⟨rfl, hb7⟩; refine ⟨_, rfl, ?_⟩)
    refine Fr.l_mv rfl rfl (Fr.w_none rfl) (by simp only [Fr.ev_tmp, Fr.ev_const, Fr.up_get, Nat.reduceLT, Nat.reduceEqDiff, ↓reduceIte, f5, f6, f9, f10]; try rfl) ?_
    refine Fr.l_val rfl (Fr.w_none rfl) (by go_simp; first | done | (with_reducible rfl) | (with_reducible exact ⟨rfl, rfl⟩) | (with_reducible exact ⟨⟨rfl, rfl⟩, rfl⟩)) ?_
    refine Fr.l_val rfl (Fr.w_none rfl) (by go_simp; first | done | (with_reducible rfl) | (with_reducible exact ⟨rfl, rfl⟩) | (with_reducible exact ⟨⟨rfl, rfl⟩, rfl⟩)) ?_
    refine Fr.l_as rfl rfl (Fr.w_none rfl) (by simp only [Fr.ev_tmp, Fr.ev_const, Fr.up_get, Nat.reduceLT, Nat.reduceEqDiff, ↓reduceIte, f5, f6, f9, f10]; try rfl) ?_
    refine Fr.l_as rfl rfl (Fr.w_none rfl) (by simp only [Fr.ev_tmp, Fr.ev_const, Fr.up_get, Nat.reduceLT, Nat.reduceEqDiff, ↓reduceIte, f5, f6, f9, f10]; try rfl) ?_
    refine Fr.l_nil ?_
    have hb7' : BelowC W w7 := BelowC.call hb6 hb7
    refine wp_seq ?_
    refine wp_region_lit ?_
    refine Fr.l_ops ?_
    intro OPS hO
    have d2 : (OPS[2]?).bind (·.dst) = some 96 := by rw [hO]; kernel_rfl
    have d7 : (OPS[7]?).bind (·.dst) = some 101 := by rw [hO]; kernel_rfl
    clear hO
    refine Fr.l_mv rfl rfl (Fr.w_none rfl) (by simp only [Fr.ev_tmp, Fr.ev_const, Fr.up_get, Nat.reduceLT, Nat.reduceEqDiff, ↓reduceIte, f5, f6, f9, f10]; try rfl) ?_
    refine Fr.l_val rfl (Fr.w_none rfl) (by go_simp; first | done | (with_reducible rfl) | (with_reducible exact ⟨rfl, rfl⟩) | (with_reducible exact ⟨⟨rfl, rfl⟩, rfl⟩)) ?_
    refine Fr.l_mv rfl rfl (Fr.w_none rfl) (by simp only [Fr.ev_tmp, Fr.ev_const, Fr.up_get, Nat.reduceLT, Nat.reduceEqDiff, ↓reduceIte, f5, f6, f9, f10]; try rfl) ?_
    refine Fr.l_mv rfl rfl (Fr.w_yes rfl d2 (by decide) (by simp only [Fr.ev_tmp, Fr.ev_const, Fr.up_get, Nat.reduceLT, Nat.reduceEqDiff, ↓reduceIte])) (by simp only [Fr.ev_tmp, Fr.ev_const, Fr.up_get, Nat.reduceLT, Nat.reduceEqDiff, ↓reduceIte, f5, f6, f9, f10]; try rfl) ?_
    refine Fr.l_mv rfl rfl (Fr.w_yes rfl d2 (by decide) (by simp only [Fr.ev_tmp, Fr.ev_const, Fr.up_get, Nat.reduceLT, Nat.reduceEqDiff, ↓reduceIte])) (by simp only [Fr.ev_tmp, Fr.ev_const, Fr.up_get, Nat.reduceLT, Nat.reduceEqDiff, ↓reduceIte, f5, f6, f9, f10]; try rfl) ?_
    refine Fr.l_val rfl (Fr.w_yes rfl d2 (by decide) (by simp only [Fr.ev_tmp, Fr.ev_const, Fr.up_get, Nat.reduceLT, Nat.reduceEqDiff, ↓reduceIte])) (by go_simp; first | done | (with_reducible rfl) | (with_reducible exact ⟨rfl, rfl⟩) | (with_reducible exact ⟨⟨rfl, rfl⟩, rfl⟩)) ?_
    refine Fr.l_val rfl (Fr.w_none rfl) (by go_simp; first | done | (with_reducible rfl) | (with_reducible exact ⟨rfl, rfl⟩) | (with_reducible exact ⟨⟨rfl, rfl⟩, rfl⟩)) ?_
    refine Fr.l_mv rfl rfl (Fr.w_none rfl) (by simp only [Fr.ev_tmp, Fr.ev_const, Fr.up_get, Nat.reduceLT, Nat.reduceEqDiff, ↓reduceIte, f5, f6, f9, f10]; try rfl) ?_
    refine Fr.l_mv rfl rfl (Fr.w_yes rfl d7 (by decide) (by simp only [Fr.ev_tmp, Fr.ev_const, Fr.up_get, Nat.reduceLT, Nat.reduceEqDiff, ↓reduceIte])) (by simp only [Fr.ev_tmp, Fr.ev_const, Fr.up_get, Nat.reduceLT, Nat.reduceEqDiff, ↓reduceIte, f5, f6, f9, f10]; try rfl) ?_
    refine Fr.l_mv rfl rfl (Fr.w_yes rfl d7 (by decide) (by simp only [Fr.ev_tmp, Fr.ev_const, Fr.up_get, Nat.reduceLT, Nat.reduceEqDiff, ↓reduceIte])) (by simp only [Fr.ev_tmp, Fr.ev_const, Fr.up_get, Nat.reduceLT, Nat.reduceEqDiff, ↓reduceIte, f5, f6, f9, f10]; try rfl) ?_
    (refine Fr.l_call rfl (Fr.w_yes rfl d7 (by decide) (by simp only [Fr.ev_tmp, Fr.ev_const, Fr.up_get, Nat.reduceLT, Nat.reduceEqDiff, ↓reduceIte])) (by go_simp; first | done | (with_reducible rfl) | (with_reducible exact ⟨rfl, rfl⟩) | (with_reducible exact ⟨⟨rfl, rfl⟩, rfl⟩)) ?_; refine (a2Near_any _ _ _ _ _ hS).mono ?_; rintro e w8 ⟨rfl, hb8⟩; refine ⟨_, rfl, ?_⟩)
    rw [hN]
    refine Fr.l_val rfl (Fr.w_yes rfl d7 (by decide) (by simp only [Fr.ev_tmp, Fr.ev_const, Fr.up_get, Nat.reduceLT, Nat.reduceEqDiff, ↓reduceIte])) (by go_simp; first | done | (with_reducible rfl) | (with_reducible exact ⟨rfl, rfl⟩) | (with_reducible exact ⟨⟨rfl, rfl⟩, rfl⟩)) ?_
    refine Fr.l_val rfl (Fr.w_none rfl) (by go_simp; first | done | (with_reducible rfl) | (with_reducible exact ⟨rfl, rfl⟩) | (with_reducible exact ⟨⟨rfl, rfl⟩, rfl⟩)) ?_
    refine Fr.l_nil ?_
    refine Fr.l_cond (t := false) (by simp only [Fr.ev_tmp, Fr.ev_const, Fr.up_get, Nat.reduceLT, Nat.reduceEqDiff, ↓reduceIte]; try rfl) (fun h => absurd h (by decide)) (fun _ => ?_)
    refine wp_skip ?_
    refine HK.out _ _ (BelowC.call hb7' hb8) ?_
    repeat (refine Fr.Kp.up (by decide) ?_)
    exact Fr.Kp.refl _ _ _
  · refine wp_region_lit ?_
    refine Fr.l_mv rfl rfl (Fr.w_none rfl) (by simp only [Fr.ev_tmp, Fr.ev_const, Fr.up_get, Nat.reduceLT, Nat.reduceEqDiff, ↓reduceIte, f5, f6, f9, f10]; try rfl) ?_
    refine Fr.l_val rfl (Fr.w_none rfl) (by go_simp; first | done | (with_reducible rfl) | (with_reducible exact ⟨rfl, rfl⟩) | (with_reducible exact ⟨⟨rfl, rfl⟩, rfl⟩)) ?_
    refine Fr.l_nil ?_
    refine Fr.l_cond (t := false) (by simp only [Fr.ev_tmp, Fr.ev_const, Fr.up_get, Nat.reduceLT, Nat.reduceEqDiff, ↓reduceIte]; try rfl) (fun h => absurd h (by decide)) (fun _ => ?_)
    refine wp_skip ?_
    refine HK.out _ _ hw ?_
    repeat (refine Fr.Kp.up (by decide) ?_)
    exact Fr.Kp.refl _ _ _

set_option maxRecDepth 100000 in
set_option maxHeartbeats 16000000 in
theorem b19 {a b c d P V L : Nat} {x : Bool} {K : Int} {W w : World} {Q : Exit → Act → World → Prop} {R : Code} {f : Nat → Value} (f5 : f 5 = .pointer (some ⟨P, 0, none⟩)) (f6 : f 6 = .float .f32 L) (f16 : f 16 = .int .i64 K) (f17 : f 17 = .float .f32 V)
    (q0 : ∀ w, BelowC W w → w.cell? ⟨P, 0, none⟩ = some (.float .f32 a)) (q1 : ∀ w, BelowC W w → w.cell? ⟨P, 1, none⟩ = some (.float .f32 b)) (q2 : ∀ w, BelowC W w → w.cell? ⟨P, 2, none⟩ = some (.float .f32 c)) (q3 : ∀ w, BelowC W w → w.cell? ⟨P, 3, none⟩ = some (.float .f32 d)) (q4 : ∀ w, BelowC W w → w.cell? ⟨P, 4, none⟩ = some (.bool x))
    (hK : K = 0 ∨ K = 6) (hF : K = 0 → flt .f32 L (lengthC a V c x) = false ∧ (beltB a V c d = false → fle .f32 (cop .add a V) c = false) ∧ F (cop .add a V) ∧ F (lengthC a V c x)) (hw : BelowC W w)
    (k : ∀ (w' : World) (g : Nat → Value), BelowC W w' → Fr.Kp 0 12 f g → Code.wp Try.prog R Q ⟨Fr.ft 311 g, []⟩ w') :
    Code.wp Try.prog ((Fr.fs (Fr.sn (Fr.sn (Fr.sn (Fr.sn (Fr.sn (Fr.sn (Fr.sn (Fr.sn (Fr.sn (Fr.sn (Fr.sn (B10))))))))))))).seq R) Q ⟨Fr.ft 311 f, []⟩ w := by
  have HK := Lib.hid k
  have HF := Lib.hid hF
  clear k hF
  conv => arg 2; arg 1; whnf
  have E1 := @Fr.ev_tmp 311
  have E2 := @Fr.ev_const 311
  have E3 := @Fr.up_get
  have E4 := @Fr.ev_func 311
  have E5 := @Fr.ev_global 311
  refine wp_seq ?_
  refine wp_seq ?_
  rcases hK with rfl | rfl
  · obtain ⟨hlt, hno, hAF, hLF⟩ := HF.out rfl
    have hfv := fval_F' hAF
    have hfd := fdn_F' hAF
    have HNO := Lib.hid hno
    clear hno
    refine wp_region_lit ?_
    refine Fr.l_mv rfl rfl (Fr.w_none rfl) (by simp only [Fr.ev_tmp, Fr.ev_const, Fr.up_get, Nat.reduceLT, Nat.reduceEqDiff, ↓reduceIte, f5, f6, f16, f17]; try rfl) ?_
    refine Fr.l_val rfl (Fr.w_none rfl) (by go_simp; first | done | (with_reducible rfl) | (with_reducible exact ⟨rfl, rfl⟩) | (with_reducible exact ⟨⟨rfl, rfl⟩, rfl⟩)) ?_
    refine Fr.l_nil ?_
    refine Fr.l_cond (t := true) (by simp only [Fr.ev_tmp, Fr.ev_const, Fr.up_get, Nat.reduceLT, Nat.reduceEqDiff, ↓reduceIte]; try rfl) (fun _ => ?_) (fun h => absurd h (by decide))
    refine wp_seq ?_
    refine wp_region_lit ?_
    refine Fr.l_val rfl (Fr.w_none rfl) (by go_simp; first | done | (with_reducible rfl) | (with_reducible exact ⟨rfl, rfl⟩) | (with_reducible exact ⟨⟨rfl, rfl⟩, rfl⟩)) ?_
    refine Fr.l_val rfl (Fr.w_none rfl) (by go_simp; first | done | (with_reducible rfl) | (with_reducible exact ⟨rfl, rfl⟩) | (with_reducible exact ⟨⟨rfl, rfl⟩, rfl⟩)) ?_
    refine Fr.l_skip rfl (Fr.w_none rfl) (by go_simp; first | done | (with_reducible rfl) | (with_reducible exact ⟨rfl, rfl⟩) | (with_reducible exact ⟨⟨rfl, rfl⟩, rfl⟩)) ?_
    refine Fr.l_nil ?_
    have HP := own_lit w w.heap.size 31 (size := 5) 1 #[.float .f32 a, .float .f32 b, .float .f32 c, .float .f32 d, .bool x] (Nat.le_refl _) (by decide) rfl
    have hb5 : BelowC W (w.alloc (.cells #[.float .f32 a, .float .f32 b, .float .f32 c, .float .f32 d, .bool x] 31)) := Below.alloc hw hw.size _
    have hwP : W.heap.size ≤ w.heap.size := hw.size
    obtain ⟨P2, hP2⟩ : ∃ p, p = w.heap.size := ⟨_, rfl⟩
    rw [← hP2] at HP hwP
    refine Fr.nameW ?_
    intro w5 hw5
    rw [← hw5] at HP hb5
    rw [← hP2]
    clear hw5 hP2
    have c0 := own_cell HP (j := 0) rfl
    have c1 := own_cell HP (j := 1) rfl
    have c2 := own_cell HP (j := 2) rfl
    have c3 := own_cell HP (j := 3) rfl
    have c4 := own_cell HP (j := 4) rfl
    have hfr := own_free HP
    have HPP := Lib.hid HP
    clear HP
    refine wp_seq ?_
    refine wp_region_lit ?_
    refine Fr.l_mv rfl rfl (Fr.w_none rfl) (by simp only [Fr.ev_tmp, Fr.ev_const, Fr.up_get, Nat.reduceLT, Nat.reduceEqDiff, ↓reduceIte, f5, f6, f16, f17]; try rfl) ?_
    refine Fr.l_val rfl (Fr.w_none rfl) (by go_simp; first | done | (with_reducible rfl) | (with_reducible exact ⟨rfl, rfl⟩) | (with_reducible exact ⟨⟨rfl, rfl⟩, rfl⟩)) ?_
    refine Fr.l_skip rfl (Fr.w_none rfl) (by go_simp; first | done | (with_reducible rfl) | (with_reducible exact ⟨rfl, rfl⟩) | (with_reducible exact ⟨⟨rfl, rfl⟩, rfl⟩)) ?_
    refine Fr.l_nil ?_
    have HP6 := (HPP.out.stored 1 (.float .f32 V)).1
    have hb6 : BelowC W (w5.setCell ⟨P2, 1, none⟩ (.float .f32 V)) := Below.setCell (p := ⟨P2, 1, none⟩) hb5 hwP _
    refine Fr.nameW ?_
    intro w6 hw6
    rw [← hw6] at HP6 hb6
    clear hw6 c0 c1 c2 c3 c4 hfr
    have c0 := own_cell HP6 (j := 0) rfl
    have c1 := own_cell HP6 (j := 1) rfl
    have c2 := own_cell HP6 (j := 2) rfl
    have c3 := own_cell HP6 (j := 3) rfl
    have c4 := own_cell HP6 (j := 4) rfl
    have HP6' := Lib.hid HP6
    clear HP6
    refine wp_seq ?_
    cases hB : beltB a V c d
    · have hnl := HNO.out hB
      refine wp_region_lit ?_
      refine Fr.l_val rfl (Fr.w_none rfl) (by go_simp; first | done | (with_reducible rfl) | (with_reducible exact ⟨rfl, rfl⟩) | (with_reducible exact ⟨⟨rfl, rfl⟩, rfl⟩)) ?_
      (refine Fr.l_call rfl (Fr.w_none rfl) (by go_simp; first | done | (with_reducible rfl) | (with_reducible exact ⟨rfl, rfl⟩) | (with_reducible exact ⟨⟨rfl, rfl⟩, rfl⟩)) ?_; refine (implLen_no _ hB).mono ?_; rintro e w7 ⟨rfl, hb7⟩; refine ⟨_, rfl, ?_⟩)
      refine Fr.l_mv rfl rfl (Fr.w_none rfl) (by simp only [Fr.ev_tmp, Fr.ev_const, Fr.up_get, Nat.reduceLT, Nat.reduceEqDiff, ↓reduceIte, f5, f6, f16, f17]; try rfl) ?_
      refine Fr.l_val rfl (Fr.w_none rfl) (by go_simp; first | done | (with_reducible rfl) | (with_reducible exact ⟨rfl, rfl⟩) | (with_reducible exact ⟨⟨rfl, rfl⟩, rfl⟩)) ?_
      refine Fr.l_val rfl (Fr.w_none rfl) (by go_simp; first | done | (with_reducible rfl) | (with_reducible exact ⟨rfl, rfl⟩) | (with_reducible exact ⟨⟨rfl, rfl⟩, rfl⟩)) ?_
      refine Fr.l_as rfl rfl (Fr.w_none rfl) (by simp only [Fr.ev_tmp, Fr.ev_const, Fr.up_get, Nat.reduceLT, Nat.reduceEqDiff, ↓reduceIte, f5, f6, f16, f17]; try rfl) ?_
      refine Fr.l_as rfl rfl (Fr.w_none rfl) (by simp only [Fr.ev_tmp, Fr.ev_const, Fr.up_get, Nat.reduceLT, Nat.reduceEqDiff, ↓reduceIte, f5, f6, f16, f17]; try rfl) ?_
      refine Fr.l_nil ?_
      have hb7' : BelowC W w7 := BelowC.call hb6 hb7
      have d0 := (Below.cell hb7 (p := ⟨P2, 0, none⟩) (World.block_lt_of_cell? w6 _ c0)).trans c0
      have d1 := (Below.cell hb7 (p := ⟨P2, 1, none⟩) (World.block_lt_of_cell? w6 _ c1)).trans c1
      have d2 := (Below.cell hb7 (p := ⟨P2, 2, none⟩) (World.block_lt_of_cell? w6 _ c2)).trans c2
      refine wp_seq ?_
      refine wp_region_lit ?_
      refine Fr.l_ops ?_
      intro OPS hO
      have d2 : (OPS[2]?).bind (·.dst) = some 152 := by rw [hO]; kernel_rfl
      have d12 : (OPS[12]?).bind (·.dst) = some 162 := by rw [hO]; kernel_rfl
      have d15 : (OPS[15]?).bind (·.dst) = some 165 := by rw [hO]; kernel_rfl
      clear hO
      refine Fr.l_mv rfl rfl (Fr.w_none rfl) (by simp only [Fr.ev_tmp, Fr.ev_const, Fr.up_get, Nat.reduceLT, Nat.reduceEqDiff, ↓reduceIte, f5, f6, f16, f17]; try rfl) ?_
      refine Fr.l_val rfl (Fr.w_none rfl) (by go_simp; first | done | (with_reducible rfl) | (with_reducible exact ⟨rfl, rfl⟩) | (with_reducible exact ⟨⟨rfl, rfl⟩, rfl⟩)) ?_
      refine Fr.l_mv rfl rfl (Fr.w_none rfl) (by simp only [Fr.ev_tmp, Fr.ev_const, Fr.up_get, Nat.reduceLT, Nat.reduceEqDiff, ↓reduceIte, f5, f6, f16, f17]; try rfl) ?_
      refine Fr.l_val rfl (Fr.w_yes rfl d2 (by decide) (by simp only [Fr.ev_tmp, Fr.ev_const, Fr.up_get, Nat.reduceLT, Nat.reduceEqDiff, ↓reduceIte])) (by go_simp; first | done | (with_reducible rfl) | (with_reducible exact ⟨rfl, rfl⟩) | (with_reducible exact ⟨⟨rfl, rfl⟩, rfl⟩)) ?_
      refine Fr.l_val rfl (Fr.w_yes rfl d2 (by decide) (by simp only [Fr.ev_tmp, Fr.ev_const, Fr.up_get, Nat.reduceLT, Nat.reduceEqDiff, ↓reduceIte])) (by go_simp; first | done | (with_reducible rfl) | (with_reducible exact ⟨rfl, rfl⟩) | (with_reducible exact ⟨⟨rfl, rfl⟩, rfl⟩)) ?_
      refine Fr.l_val rfl (Fr.w_yes rfl d2 (by decide) (by simp only [Fr.ev_tmp, Fr.ev_const, Fr.up_get, Nat.reduceLT, Nat.reduceEqDiff, ↓reduceIte])) (by go_simp; first | done | (with_reducible rfl) | (with_reducible exact ⟨rfl, rfl⟩) | (with_reducible exact ⟨⟨rfl, rfl⟩, rfl⟩)) ?_
      refine Fr.l_val rfl (Fr.w_yes rfl d2 (by decide) (by simp only [Fr.ev_tmp, Fr.ev_const, Fr.up_get, Nat.reduceLT, Nat.reduceEqDiff, ↓reduceIte])) (by go_simp; first | done | (with_reducible rfl) | (with_reducible exact ⟨rfl, rfl⟩) | (with_reducible exact ⟨⟨rfl, rfl⟩, rfl⟩)) ?_
      refine Fr.l_val rfl (Fr.w_yes rfl d2 (by decide) (by simp only [Fr.ev_tmp, Fr.ev_const, Fr.up_get, Nat.reduceLT, Nat.reduceEqDiff, ↓reduceIte])) (by go_simp; first | done | (with_reducible rfl) | (with_reducible exact ⟨rfl, rfl⟩) | (with_reducible exact ⟨⟨rfl, rfl⟩, rfl⟩)) ?_
      refine Fr.l_val rfl (Fr.w_yes rfl d2 (by decide) (by simp only [Fr.ev_tmp, Fr.ev_const, Fr.up_get, Nat.reduceLT, Nat.reduceEqDiff, ↓reduceIte])) (by go_simp; first | done | (with_reducible rfl) | (with_reducible exact ⟨rfl, rfl⟩) | (with_reducible exact ⟨⟨rfl, rfl⟩, rfl⟩)) ?_
      refine Fr.l_val rfl (Fr.w_yes rfl d2 (by decide) (by simp only [Fr.ev_tmp, Fr.ev_const, Fr.up_get, Nat.reduceLT, Nat.reduceEqDiff, ↓reduceIte])) (by go_simp; first | done | (with_reducible rfl) | (with_reducible exact ⟨rfl, rfl⟩) | (with_reducible exact ⟨⟨rfl, rfl⟩, rfl⟩)) ?_
      refine Fr.l_val rfl (Fr.w_yes rfl d2 (by decide) (by simp only [Fr.ev_tmp, Fr.ev_const, Fr.up_get, Nat.reduceLT, Nat.reduceEqDiff, ↓reduceIte])) (by go_simp; first | done | (with_reducible rfl) | (with_reducible exact ⟨rfl, rfl⟩) | (with_reducible exact ⟨⟨rfl, rfl⟩, rfl⟩)) ?_
      refine Fr.l_val rfl (Fr.w_none rfl) (by go_simp; first | done | (with_reducible rfl) | (with_reducible exact ⟨rfl, rfl⟩) | (with_reducible exact ⟨⟨rfl, rfl⟩, rfl⟩)) ?_
      refine Fr.l_mv rfl rfl (Fr.w_none rfl) (by simp only [Fr.ev_tmp, Fr.ev_const, Fr.up_get, Nat.reduceLT, Nat.reduceEqDiff, ↓reduceIte, f5, f6, f16, f17]; try rfl) ?_
      refine Fr.l_mv rfl rfl (Fr.w_yes rfl d12 (by decide) (by simp only [Fr.ev_tmp, Fr.ev_const, Fr.up_get, Nat.reduceLT, Nat.reduceEqDiff, ↓reduceIte])) (by simp only [Fr.ev_tmp, Fr.ev_const, Fr.up_get, Nat.reduceLT, Nat.reduceEqDiff, ↓reduceIte, f5, f6, f16, f17]; try rfl) ?_
      refine Fr.l_val rfl (Fr.w_yes rfl d12 (by decide) (by simp only [Fr.ev_tmp, Fr.ev_const, Fr.up_get, Nat.reduceLT, Nat.reduceEqDiff, ↓reduceIte])) (by go_simp; first | done | (with_reducible rfl) | (with_reducible exact ⟨rfl, rfl⟩) | (with_reducible exact ⟨⟨rfl, rfl⟩, rfl⟩)) ?_
      refine Fr.l_mv rfl rfl (Fr.w_yes rfl d12 (by decide) (by simp only [Fr.ev_tmp, Fr.ev_const, Fr.up_get, Nat.reduceLT, Nat.reduceEqDiff, ↓reduceIte])) (by simp only [Fr.ev_tmp, Fr.ev_const, Fr.up_get, Nat.reduceLT, Nat.reduceEqDiff, ↓reduceIte, f5, f6, f16, f17]; try rfl) ?_
      refine Fr.l_pass rfl (Fr.w_no rfl d15 (by decide) (by first | (left; simp only [Fr.ev_tmp, Fr.ev_const, Fr.up_get, Nat.reduceLT, Nat.reduceEqDiff, ↓reduceIte, Bool.not_true, Bool.not_false]; done) | (right; simp only [Fr.ev_tmp, Fr.ev_const, Fr.up_get, Nat.reduceLT, Nat.reduceEqDiff, ↓reduceIte, Bool.not_true, Bool.not_false]; done))) ?_
      refine Fr.l_pass rfl (Fr.w_no rfl d15 (by decide) (by first | (left; simp only [Fr.ev_tmp, Fr.ev_const, Fr.up_get, Nat.reduceLT, Nat.reduceEqDiff, ↓reduceIte, Bool.not_true, Bool.not_false]; done) | (right; simp only [Fr.ev_tmp, Fr.ev_const, Fr.up_get, Nat.reduceLT, Nat.reduceEqDiff, ↓reduceIte, Bool.not_true, Bool.not_false]; done))) ?_
      refine Fr.l_pass rfl (Fr.w_no rfl d15 (by decide) (by first | (left; simp only [Fr.ev_tmp, Fr.ev_const, Fr.up_get, Nat.reduceLT, Nat.reduceEqDiff, ↓reduceIte, Bool.not_true, Bool.not_false]; done) | (right; simp only [Fr.ev_tmp, Fr.ev_const, Fr.up_get, Nat.reduceLT, Nat.reduceEqDiff, ↓reduceIte, Bool.not_true, Bool.not_false]; done))) ?_
      refine Fr.l_val rfl (Fr.w_yes rfl d12 (by decide) (by simp only [Fr.ev_tmp, Fr.ev_const, Fr.up_get, Nat.reduceLT, Nat.reduceEqDiff, ↓reduceIte])) (by go_simp; first | done | (with_reducible rfl) | (with_reducible exact ⟨rfl, rfl⟩) | (with_reducible exact ⟨⟨rfl, rfl⟩, rfl⟩)) ?_
      refine Fr.l_val rfl (Fr.w_none rfl) (by go_simp; first | done | (with_reducible rfl) | (with_reducible exact ⟨rfl, rfl⟩) | (with_reducible exact ⟨⟨rfl, rfl⟩, rfl⟩)) ?_
      refine Fr.l_nil ?_
      refine Fr.l_cond (t := false) (by simp only [Fr.ev_tmp, Fr.ev_const, Fr.up_get, Nat.reduceLT, Nat.reduceEqDiff, ↓reduceIte]; try rfl) (fun h => absurd h (by decide)) (fun _ => ?_)
      refine wp_skip ?_
      refine HK.out _ _ hb7' ?_
      repeat (refine Fr.Kp.up (by decide) ?_)
      exact Fr.Kp.refl _ _ _
    · refine wp_region_lit ?_
      refine Fr.l_val rfl (Fr.w_none rfl) (by go_simp; first | done | (with_reducible rfl) | (with_reducible exact ⟨rfl, rfl⟩) | (with_reducible exact ⟨⟨rfl, rfl⟩, rfl⟩)) ?_
      (refine Fr.l_call rfl (Fr.w_none rfl) (by go_simp; first | done | (with_reducible rfl) | (with_reducible exact ⟨rfl, rfl⟩) | (with_reducible exact ⟨⟨rfl, rfl⟩, rfl⟩)) ?_; refine (implLen_yes _ hB hLF).mono ?_; rintro e w7 ⟨rfl, hb7⟩; refine ⟨_, rfl, ?_⟩)
      refine Fr.l_mv rfl rfl (Fr.w_none rfl) (by simp only [Fr.ev_tmp, Fr.ev_const, Fr.up_get, Nat.reduceLT, Nat.reduceEqDiff, ↓reduceIte, f5, f6, f16, f17]; try rfl) ?_
      refine Fr.l_val rfl (Fr.w_none rfl) (by go_simp; first | done | (with_reducible rfl) | (with_reducible exact ⟨rfl, rfl⟩) | (with_reducible exact ⟨⟨rfl, rfl⟩, rfl⟩)) ?_
      refine Fr.l_val rfl (Fr.w_none rfl) (by go_simp; first | done | (with_reducible rfl) | (with_reducible exact ⟨rfl, rfl⟩) | (with_reducible exact ⟨⟨rfl, rfl⟩, rfl⟩)) ?_
      refine Fr.l_as rfl rfl (Fr.w_none rfl) (by simp only [Fr.ev_tmp, Fr.ev_const, Fr.up_get, Nat.reduceLT, Nat.reduceEqDiff, ↓reduceIte, f5, f6, f16, f17]; try rfl) ?_
      refine Fr.l_as rfl rfl (Fr.w_none rfl) (by simp only [Fr.ev_tmp, Fr.ev_const, Fr.up_get, Nat.reduceLT, Nat.reduceEqDiff, ↓reduceIte, f5, f6, f16, f17]; try rfl) ?_
      refine Fr.l_nil ?_
      have hb7' : BelowC W w7 := BelowC.call hb6 hb7
      refine wp_seq ?_
      refine wp_region_lit ?_
      refine Fr.l_ops ?_
      intro OPS hO
      have d2 : (OPS[2]?).bind (·.dst) = some 152 := by rw [hO]; kernel_rfl
      have d12 : (OPS[12]?).bind (·.dst) = some 162 := by rw [hO]; kernel_rfl
      have d15 : (OPS[15]?).bind (·.dst) = some 165 := by rw [hO]; kernel_rfl
      clear hO
      refine Fr.l_mv rfl rfl (Fr.w_none rfl) (by simp only [Fr.ev_tmp, Fr.ev_const, Fr.up_get, Nat.reduceLT, Nat.reduceEqDiff, ↓reduceIte, f5, f6, f16, f17]; try rfl) ?_
      refine Fr.l_val rfl (Fr.w_none rfl) (by go_simp; first | done | (with_reducible rfl) | (with_reducible exact ⟨rfl, rfl⟩) | (with_reducible exact ⟨⟨rfl, rfl⟩, rfl⟩)) ?_
      refine Fr.l_mv rfl rfl (Fr.w_none rfl) (by simp only [Fr.ev_tmp, Fr.ev_const, Fr.up_get, Nat.reduceLT, Nat.reduceEqDiff, ↓reduceIte, f5, f6, f16, f17]; try rfl) ?_
      refine Fr.l_pass rfl (Fr.w_no rfl d2 (by decide) (by first | (left; simp only [Fr.ev_tmp, Fr.ev_const, Fr.up_get, Nat.reduceLT, Nat.reduceEqDiff, ↓reduceIte, Bool.not_true, Bool.not_false]; done) | (right; simp only [Fr.ev_tmp, Fr.ev_const, Fr.up_get, Nat.reduceLT, Nat.reduceEqDiff, ↓reduceIte, Bool.not_true, Bool.not_false]; done))) ?_
      refine Fr.l_pass rfl (Fr.w_no rfl d2 (by decide) (by first | (left; simp only [Fr.ev_tmp, Fr.ev_const, Fr.up_get, Nat.reduceLT, Nat.reduceEqDiff, ↓reduceIte, Bool.not_true, Bool.not_false]; done) | (right; simp only [Fr.ev_tmp, Fr.ev_const, Fr.up_get, Nat.reduceLT, Nat.reduceEqDiff, ↓reduceIte, Bool.not_true, Bool.not_false]; done))) ?_
      refine Fr.l_pass rfl (Fr.w_no rfl d2 (by decide) (by first | (left; simp only [Fr.ev_tmp, Fr.ev_const, Fr.up_get, Nat.reduceLT, Nat.reduceEqDiff, ↓reduceIte, Bool.not_true, Bool.not_false]; done) | (right; simp only [Fr.ev_tmp, Fr.ev_const, Fr.up_get, Nat.reduceLT, Nat.reduceEqDiff, ↓reduceIte, Bool.not_true, Bool.not_false]; done))) ?_
      refine Fr.l_pass rfl (Fr.w_no rfl d2 (by decide) (by first | (left; simp only [Fr.ev_tmp, Fr.ev_const, Fr.up_get, Nat.reduceLT, Nat.reduceEqDiff, ↓reduceIte, Bool.not_true, Bool.not_false]; done) | (right; simp only [Fr.ev_tmp, Fr.ev_const, Fr.up_get, Nat.reduceLT, Nat.reduceEqDiff, ↓reduceIte, Bool.not_true, Bool.not_false]; done))) ?_
      refine Fr.l_pass rfl (Fr.w_no rfl d2 (by decide) (by first | (left; simp only [Fr.ev_tmp, Fr.ev_const, Fr.up_get, Nat.reduceLT, Nat.reduceEqDiff, ↓reduceIte, Bool.not_true, Bool.not_false]; done) | (right; simp only [Fr.ev_tmp, Fr.ev_const, Fr.up_get, Nat.reduceLT, Nat.reduceEqDiff, ↓reduceIte, Bool.not_true, Bool.not_false]; done))) ?_
      refine Fr.l_pass rfl (Fr.w_no rfl d2 (by decide) (by first | (left; simp only [Fr.ev_tmp, Fr.ev_const, Fr.up_get, Nat.reduceLT, Nat.reduceEqDiff, ↓reduceIte, Bool.not_true, Bool.not_false]; done) | (right; simp only [Fr.ev_tmp, Fr.ev_const, Fr.up_get, Nat.reduceLT, Nat.reduceEqDiff, ↓reduceIte, Bool.not_true, Bool.not_false]; done))) ?_
      refine Fr.l_pass rfl (Fr.w_no rfl d2 (by decide) (by first | (left; simp only [Fr.ev_tmp, Fr.ev_const, Fr.up_get, Nat.reduceLT, Nat.reduceEqDiff, ↓reduceIte, Bool.not_true, Bool.not_false]; done) | (right; simp only [Fr.ev_tmp, Fr.ev_const, Fr.up_get, Nat.reduceLT, Nat.reduceEqDiff, ↓reduceIte, Bool.not_true, Bool.not_false]; done))) ?_
      refine Fr.l_pass rfl (Fr.w_no rfl d2 (by decide) (by first | (left; simp only [Fr.ev_tmp, Fr.ev_const, Fr.up_get, Nat.reduceLT, Nat.reduceEqDiff, ↓reduceIte, Bool.not_true, Bool.not_false]; done) | (right; simp only [Fr.ev_tmp, Fr.ev_const, Fr.up_get, Nat.reduceLT, Nat.reduceEqDiff, ↓reduceIte, Bool.not_true, Bool.not_false]; done))) ?_
      refine Fr.l_val rfl (Fr.w_none rfl) (by go_simp; first | done | (with_reducible rfl) | (with_reducible exact ⟨rfl, rfl⟩) | (with_reducible exact ⟨⟨rfl, rfl⟩, rfl⟩)) ?_
      refine Fr.l_mv rfl rfl (Fr.w_none rfl) (by simp only [Fr.ev_tmp, Fr.ev_const, Fr.up_get, Nat.reduceLT, Nat.reduceEqDiff, ↓reduceIte, f5, f6, f16, f17]; try rfl) ?_
      refine Fr.l_mv rfl rfl (Fr.w_yes rfl d12 (by decide) (by simp only [Fr.ev_tmp, Fr.ev_const, Fr.up_get, Nat.reduceLT, Nat.reduceEqDiff, ↓reduceIte])) (by simp only [Fr.ev_tmp, Fr.ev_const, Fr.up_get, Nat.reduceLT, Nat.reduceEqDiff, ↓reduceIte, f5, f6, f16, f17]; try rfl) ?_
      refine Fr.l_val rfl (Fr.w_yes rfl d12 (by decide) (by simp only [Fr.ev_tmp, Fr.ev_const, Fr.up_get, Nat.reduceLT, Nat.reduceEqDiff, ↓reduceIte])) (by go_simp; first | done | (with_reducible rfl) | (with_reducible exact ⟨rfl, rfl⟩) | (with_reducible exact ⟨⟨rfl, rfl⟩, rfl⟩)) ?_
      refine Fr.l_mv rfl rfl (Fr.w_yes rfl d12 (by decide) (by simp only [Fr.ev_tmp, Fr.ev_const, Fr.up_get, Nat.reduceLT, Nat.reduceEqDiff, ↓reduceIte])) (by simp only [Fr.ev_tmp, Fr.ev_const, Fr.up_get, Nat.reduceLT, Nat.reduceEqDiff, ↓reduceIte, f5, f6, f16, f17]; try rfl) ?_
      refine Fr.l_mv rfl rfl (Fr.w_yes rfl d15 (by decide) (by simp only [Fr.ev_tmp, Fr.ev_const, Fr.up_get, Nat.reduceLT, Nat.reduceEqDiff, ↓reduceIte])) (by simp only [Fr.ev_tmp, Fr.ev_const, Fr.up_get, Nat.reduceLT, Nat.reduceEqDiff, ↓reduceIte, f5, f6, f16, f17]; try rfl) ?_
      refine Fr.l_mv rfl rfl (Fr.w_yes rfl d15 (by decide) (by simp only [Fr.ev_tmp, Fr.ev_const, Fr.up_get, Nat.reduceLT, Nat.reduceEqDiff, ↓reduceIte])) (by simp only [Fr.ev_tmp, Fr.ev_const, Fr.up_get, Nat.reduceLT, Nat.reduceEqDiff, ↓reduceIte, f5, f6, f16, f17]; try rfl) ?_
      refine Fr.l_val rfl (Fr.w_yes rfl d15 (by decide) (by simp only [Fr.ev_tmp, Fr.ev_const, Fr.up_get, Nat.reduceLT, Nat.reduceEqDiff, ↓reduceIte])) (by go_simp; first | done | (with_reducible rfl) | (with_reducible exact ⟨rfl, rfl⟩) | (with_reducible exact ⟨⟨rfl, rfl⟩, rfl⟩)) ?_
      refine Fr.l_val rfl (Fr.w_yes rfl d12 (by decide) (by simp only [Fr.ev_tmp, Fr.ev_const, Fr.up_get, Nat.reduceLT, Nat.reduceEqDiff, ↓reduceIte])) (by go_simp; first | done | (with_reducible rfl) | (with_reducible exact ⟨rfl, rfl⟩) | (with_reducible exact ⟨⟨rfl, rfl⟩, rfl⟩)) ?_
      refine Fr.l_val rfl (Fr.w_none rfl) (by go_simp; first | done | (with_reducible rfl) | (with_reducible exact ⟨rfl, rfl⟩) | (with_reducible exact ⟨⟨rfl, rfl⟩, rfl⟩)) ?_
      refine Fr.l_nil ?_
      refine Fr.l_cond (t := false) (by simp only [Fr.ev_tmp, Fr.ev_const, Fr.up_get, Nat.reduceLT, Nat.reduceEqDiff, ↓reduceIte]; try rfl) (fun h => absurd h (by decide)) (fun _ => ?_)
      refine wp_skip ?_
      refine HK.out _ _ hb7' ?_
      repeat (refine Fr.Kp.up (by decide) ?_)
      exact Fr.Kp.refl _ _ _
  · refine wp_region_lit ?_
    refine Fr.l_mv rfl rfl (Fr.w_none rfl) (by simp only [Fr.ev_tmp, Fr.ev_const, Fr.up_get, Nat.reduceLT, Nat.reduceEqDiff, ↓reduceIte, f5, f6, f16, f17]; try rfl) ?_
    refine Fr.l_val rfl (Fr.w_none rfl) (by go_simp; first | done | (with_reducible rfl) | (with_reducible exact ⟨rfl, rfl⟩) | (with_reducible exact ⟨⟨rfl, rfl⟩, rfl⟩)) ?_
    refine Fr.l_nil ?_
    refine Fr.l_cond (t := false) (by simp only [Fr.ev_tmp, Fr.ev_const, Fr.up_get, Nat.reduceLT, Nat.reduceEqDiff, ↓reduceIte]; try rfl) (fun h => absurd h (by decide)) (fun _ => ?_)
    refine wp_skip ?_
    refine HK.out _ _ hw ?_
    repeat (refine Fr.Kp.up (by decide) ?_)
    exact Fr.Kp.refl _ _ _

end Go.Proofs.Ytljigmplmlhdnaa.yBeltsFound

/-! The great law on belts, an element: lists of numbers and of belts. (written by wip/gen/belts.py.) -/
namespace Go.Proofs.Ytljigmplmlhdnaa.yBeltsFound
open Go.RowKit
set_option linter.unusedVariables false
set_option linter.unusedSimpArgs false

set_option maxRecDepth 100000 in
set_option maxHeartbeats 16000000 in
theorem b28 {V1 V2 : Value} {K : Int} {xs ys : List Nat} {W w : World} {Q : Exit → Act → World → Prop} {R : Code} {f : Nat → Value} (f23 : f 23 = V1) (f24 : f 24 = .int .i64 K) (f25 : f 25 = V2) (f26 : f 26 = .int .i64 K) (h1 : Fs w V1 xs) (h2 : Fs w V2 ys) (hS : SameF xs ys) (hl : K = 0 → ys.length = 2) (hw : BelowC W w)
    (k : ∀ (w' : World) (g : Nat → Value), BelowC W w' → Fr.Agree 189 f g → Code.wp Try.prog R Q ⟨Fr.ft 311 g, []⟩ w') :
    Code.wp Try.prog ((Fr.fs (Fr.sn (Fr.sn (Fr.sn (Fr.sn (Fr.sn (Fr.sn (Fr.sn (Fr.sn (Fr.sn (Fr.sn (Fr.sn (Fr.sn (Fr.sn (Fr.sn (Fr.sn (B10))))))))))))))))).seq R) Q ⟨Fr.ft 311 f, []⟩ w := by
  have HK := Lib.hid k
  have H1 := Lib.hid h1
  have H2 := Lib.hid h2
  have HS := Lib.hid hS
  obtain ⟨av, cap, rfl, _, _⟩ := h2
  clear k h1 hS
  conv => arg 2; arg 1; whnf
  have E1 := @Fr.ev_tmp 311
  have E2 := @Fr.ev_const 311
  have E3 := @Fr.up_get
  have E4 := @Fr.ev_func 311
  have E5 := @Fr.ev_global 311
  refine wp_seq ?_
  refine wp_seq ?_
  by_cases h0 : K = 0
  · subst h0
    have hl2 := hl rfl
    rw [hl2] at f25 H2
    refine wp_region_lit ?_
    refine Fr.l_ops ?_
    intro OPS hO
    have d3 : (OPS[3]?).bind (·.dst) = some 192 := by rw [hO]; kernel_rfl
    have d9 : (OPS[9]?).bind (·.dst) = some 198 := by rw [hO]; kernel_rfl
    have d12 : (OPS[12]?).bind (·.dst) = some 201 := by rw [hO]; kernel_rfl
    clear hO
    refine Fr.l_mv rfl rfl (Fr.w_none rfl) (by simp only [Fr.ev_tmp, Fr.ev_const, Fr.up_get, Nat.reduceLT, Nat.reduceEqDiff, ↓reduceIte, f23, f24, f25, f26]; try rfl) ?_
    refine Fr.l_mv rfl rfl (Fr.w_none rfl) (by simp only [Fr.ev_tmp, Fr.ev_const, Fr.up_get, Nat.reduceLT, Nat.reduceEqDiff, ↓reduceIte, f23, f24, f25, f26]; try rfl) ?_
    refine Fr.l_val rfl (Fr.w_none rfl) (by go_simp; first | done | (with_reducible rfl) | (with_reducible exact ⟨rfl, rfl⟩) | (with_reducible exact ⟨⟨rfl, rfl⟩, rfl⟩)) ?_
    refine Fr.l_mv rfl rfl (Fr.w_none rfl) (by simp only [Fr.ev_tmp, Fr.ev_const, Fr.up_get, Nat.reduceLT, Nat.reduceEqDiff, ↓reduceIte, f23, f24, f25, f26]; try rfl) ?_
    refine Fr.l_mv rfl rfl (Fr.w_yes rfl d3 (by decide) (by simp only [Fr.ev_tmp, Fr.ev_const, Fr.up_get, Nat.reduceLT, Nat.reduceEqDiff, ↓reduceIte])) (by simp only [Fr.ev_tmp, Fr.ev_const, Fr.up_get, Nat.reduceLT, Nat.reduceEqDiff, ↓reduceIte, f23, f24, f25, f26]; try rfl) ?_
    refine Fr.l_mv rfl rfl (Fr.w_yes rfl d3 (by decide) (by simp only [Fr.ev_tmp, Fr.ev_const, Fr.up_get, Nat.reduceLT, Nat.reduceEqDiff, ↓reduceIte])) (by simp only [Fr.ev_tmp, Fr.ev_const, Fr.up_get, Nat.reduceLT, Nat.reduceEqDiff, ↓reduceIte, f23, f24, f25, f26]; try rfl) ?_
    (refine Fr.l_call rfl (Fr.w_yes rfl d3 (by decide) (by simp only [Fr.ev_tmp, Fr.ev_const, Fr.up_get, Nat.reduceLT, Nat.reduceEqDiff, ↓reduceIte])) (by go_simp; first | done | (with_reducible rfl) | (with_reducible exact ⟨rfl, rfl⟩) | (with_reducible exact ⟨⟨rfl, rfl⟩, rfl⟩)) ?_; refine (a2Same_any xs ys _ _ _ H1.out H2.out HS.out).mono ?_; rintro e w2 ⟨rfl, n, rfl⟩; refine ⟨_, rfl, ?_⟩)
    refine Fr.l_val rfl (Fr.w_yes rfl d3 (by decide) (by simp only [Fr.ev_tmp, Fr.ev_const, Fr.up_get, Nat.reduceLT, Nat.reduceEqDiff, ↓reduceIte])) (by go_simp; first | done | (with_reducible rfl) | (with_reducible exact ⟨rfl, rfl⟩) | (with_reducible exact ⟨⟨rfl, rfl⟩, rfl⟩)) ?_
    refine Fr.l_val rfl (Fr.w_none rfl) (by go_simp; first | done | (with_reducible rfl) | (with_reducible exact ⟨rfl, rfl⟩) | (with_reducible exact ⟨⟨rfl, rfl⟩, rfl⟩)) ?_
    refine Fr.l_mv rfl rfl (Fr.w_none rfl) (by simp only [Fr.ev_tmp, Fr.ev_const, Fr.up_get, Nat.reduceLT, Nat.reduceEqDiff, ↓reduceIte, f23, f24, f25, f26]; try rfl) ?_
    refine Fr.l_mv rfl rfl (Fr.w_yes rfl d9 (by decide) (by simp only [Fr.ev_tmp, Fr.ev_const, Fr.up_get, Nat.reduceLT, Nat.reduceEqDiff, ↓reduceIte])) (by simp only [Fr.ev_tmp, Fr.ev_const, Fr.up_get, Nat.reduceLT, Nat.reduceEqDiff, ↓reduceIte, f23, f24, f25, f26]; try rfl) ?_
    refine Fr.l_val rfl (Fr.w_yes rfl d9 (by decide) (by simp only [Fr.ev_tmp, Fr.ev_const, Fr.up_get, Nat.reduceLT, Nat.reduceEqDiff, ↓reduceIte])) (by go_simp; first | done | (with_reducible rfl) | (with_reducible exact ⟨rfl, rfl⟩) | (with_reducible exact ⟨⟨rfl, rfl⟩, rfl⟩)) ?_
    refine Fr.l_mv rfl rfl (Fr.w_yes rfl d9 (by decide) (by simp only [Fr.ev_tmp, Fr.ev_const, Fr.up_get, Nat.reduceLT, Nat.reduceEqDiff, ↓reduceIte])) (by simp only [Fr.ev_tmp, Fr.ev_const, Fr.up_get, Nat.reduceLT, Nat.reduceEqDiff, ↓reduceIte, f23, f24, f25, f26]; try rfl) ?_
    refine Fr.l_mv rfl rfl (Fr.w_yes rfl d12 (by decide) (by simp only [Fr.ev_tmp, Fr.ev_const, Fr.up_get, Nat.reduceLT, Nat.reduceEqDiff, ↓reduceIte])) (by simp only [Fr.ev_tmp, Fr.ev_const, Fr.up_get, Nat.reduceLT, Nat.reduceEqDiff, ↓reduceIte, f23, f24, f25, f26]; try rfl) ?_
    refine Fr.l_val rfl (Fr.w_yes rfl d12 (by decide) (by simp only [Fr.ev_tmp, Fr.ev_const, Fr.up_get, Nat.reduceLT, Nat.reduceEqDiff, ↓reduceIte])) (by go_simp; first | done | (with_reducible rfl) | (with_reducible exact ⟨rfl, rfl⟩) | (with_reducible exact ⟨⟨rfl, rfl⟩, rfl⟩)) ?_
    refine Fr.l_val rfl (Fr.w_yes rfl d12 (by decide) (by simp only [Fr.ev_tmp, Fr.ev_const, Fr.up_get, Nat.reduceLT, Nat.reduceEqDiff, ↓reduceIte])) (by go_simp; first | done | (with_reducible rfl) | (with_reducible exact ⟨rfl, rfl⟩) | (with_reducible exact ⟨⟨rfl, rfl⟩, rfl⟩)) ?_
    refine Fr.l_val rfl (Fr.w_yes rfl d9 (by decide) (by simp only [Fr.ev_tmp, Fr.ev_const, Fr.up_get, Nat.reduceLT, Nat.reduceEqDiff, ↓reduceIte])) (by go_simp; first | done | (with_reducible rfl) | (with_reducible exact ⟨rfl, rfl⟩) | (with_reducible exact ⟨⟨rfl, rfl⟩, rfl⟩)) ?_
    refine Fr.l_val rfl (Fr.w_none rfl) (by go_simp; first | done | (with_reducible rfl) | (with_reducible exact ⟨rfl, rfl⟩) | (with_reducible exact ⟨⟨rfl, rfl⟩, rfl⟩)) ?_
    refine Fr.l_nil ?_
    refine Fr.l_cond (t := false) (by simp only [Fr.ev_tmp, Fr.ev_const, Fr.up_get, Nat.reduceLT, Nat.reduceEqDiff, ↓reduceIte]; try rfl) (fun h => absurd h (by decide)) (fun _ => ?_)
    refine wp_skip ?_
    refine HK.out _ _ (BelowC.drewN _ _ hw) ?_
    repeat (refine Fr.Agree.up (by decide) ?_)
    exact Fr.Agree.refl _ _
  · have h0b : (K == 0) = false := by simpa using h0
    refine wp_region_lit ?_
    refine Fr.l_ops ?_
    intro OPS hO
    have d3 : (OPS[3]?).bind (·.dst) = some 192 := by rw [hO]; kernel_rfl
    have d9 : (OPS[9]?).bind (·.dst) = some 198 := by rw [hO]; kernel_rfl
    have d12 : (OPS[12]?).bind (·.dst) = some 201 := by rw [hO]; kernel_rfl
    clear hO
    refine Fr.l_mv rfl rfl (Fr.w_none rfl) (by simp only [Fr.ev_tmp, Fr.ev_const, Fr.up_get, Nat.reduceLT, Nat.reduceEqDiff, ↓reduceIte, f23, f24, f25, f26]; try rfl) ?_
    refine Fr.l_mv rfl rfl (Fr.w_none rfl) (by simp only [Fr.ev_tmp, Fr.ev_const, Fr.up_get, Nat.reduceLT, Nat.reduceEqDiff, ↓reduceIte, f23, f24, f25, f26]; try rfl) ?_
    refine Fr.l_val rfl (Fr.w_none rfl) (by go_simp; first | done | (with_reducible rfl) | (with_reducible exact ⟨rfl, rfl⟩) | (with_reducible exact ⟨⟨rfl, rfl⟩, rfl⟩)) ?_
    refine Fr.l_mv rfl rfl (Fr.w_none rfl) (by simp only [Fr.ev_tmp, Fr.ev_const, Fr.up_get, Nat.reduceLT, Nat.reduceEqDiff, ↓reduceIte, f23, f24, f25, f26]; try rfl) ?_
    refine Fr.l_mv rfl rfl (Fr.w_yes rfl d3 (by decide) (by simp only [Fr.ev_tmp, Fr.ev_const, Fr.up_get, Nat.reduceLT, Nat.reduceEqDiff, ↓reduceIte])) (by simp only [Fr.ev_tmp, Fr.ev_const, Fr.up_get, Nat.reduceLT, Nat.reduceEqDiff, ↓reduceIte, f23, f24, f25, f26]; try rfl) ?_
    refine Fr.l_mv rfl rfl (Fr.w_yes rfl d3 (by decide) (by simp only [Fr.ev_tmp, Fr.ev_const, Fr.up_get, Nat.reduceLT, Nat.reduceEqDiff, ↓reduceIte])) (by simp only [Fr.ev_tmp, Fr.ev_const, Fr.up_get, Nat.reduceLT, Nat.reduceEqDiff, ↓reduceIte, f23, f24, f25, f26]; try rfl) ?_
    (refine Fr.l_call rfl (Fr.w_yes rfl d3 (by decide) (by simp only [Fr.ev_tmp, Fr.ev_const, Fr.up_get, Nat.reduceLT, Nat.reduceEqDiff, ↓reduceIte])) (by go_simp; first | done | (with_reducible rfl) | (with_reducible exact ⟨rfl, rfl⟩) | (with_reducible exact ⟨⟨rfl, rfl⟩, rfl⟩)) ?_; refine (a2Same_any xs ys _ _ _ H1.out H2.out HS.out).mono ?_; rintro e w2 ⟨rfl, n, rfl⟩; refine ⟨_, rfl, ?_⟩)
    refine Fr.l_val rfl (Fr.w_yes rfl d3 (by decide) (by simp only [Fr.ev_tmp, Fr.ev_const, Fr.up_get, Nat.reduceLT, Nat.reduceEqDiff, ↓reduceIte])) (by go_simp; first | done | (with_reducible rfl) | (with_reducible exact ⟨rfl, rfl⟩) | (with_reducible exact ⟨⟨rfl, rfl⟩, rfl⟩)) ?_
    refine Fr.l_val rfl (Fr.w_none rfl) (by go_simp; first | done | (with_reducible rfl) | (with_reducible exact ⟨rfl, rfl⟩) | (with_reducible exact ⟨⟨rfl, rfl⟩, rfl⟩)) ?_
    refine Fr.l_mv rfl rfl (Fr.w_none rfl) (by simp only [Fr.ev_tmp, Fr.ev_const, Fr.up_get, Nat.reduceLT, Nat.reduceEqDiff, ↓reduceIte, f23, f24, f25, f26]; try rfl) ?_
    refine Fr.l_mv rfl rfl (Fr.w_yes rfl d9 (by decide) (by simp only [Fr.ev_tmp, Fr.ev_const, Fr.up_get, Nat.reduceLT, Nat.reduceEqDiff, ↓reduceIte])) (by simp only [Fr.ev_tmp, Fr.ev_const, Fr.up_get, Nat.reduceLT, Nat.reduceEqDiff, ↓reduceIte, f23, f24, f25, f26]; try rfl) ?_
    refine Fr.l_val rfl (Fr.w_yes rfl d9 (by decide) (by simp only [Fr.ev_tmp, Fr.ev_const, Fr.up_get, Nat.reduceLT, Nat.reduceEqDiff, ↓reduceIte])) (by go_simp; first | done | (with_reducible rfl) | (with_reducible exact ⟨rfl, rfl⟩) | (with_reducible exact ⟨⟨rfl, rfl⟩, rfl⟩)) ?_
    refine Fr.l_mv rfl rfl (Fr.w_yes rfl d9 (by decide) (by simp only [Fr.ev_tmp, Fr.ev_const, Fr.up_get, Nat.reduceLT, Nat.reduceEqDiff, ↓reduceIte])) (by simp only [Fr.ev_tmp, Fr.ev_const, Fr.up_get, Nat.reduceLT, Nat.reduceEqDiff, ↓reduceIte, f23, f24, f25, f26]; try rfl) ?_
    refine Fr.l_pass rfl (Fr.w_no rfl d12 (by decide) (by first | (left; simp only [Fr.ev_tmp, Fr.ev_const, Fr.up_get, Nat.reduceLT, Nat.reduceEqDiff, ↓reduceIte, Bool.not_true, Bool.not_false]; done) | (right; simp only [Fr.ev_tmp, Fr.ev_const, Fr.up_get, Nat.reduceLT, Nat.reduceEqDiff, ↓reduceIte, Bool.not_true, Bool.not_false]; done))) ?_
    refine Fr.l_pass rfl (Fr.w_no rfl d12 (by decide) (by first | (left; simp only [Fr.ev_tmp, Fr.ev_const, Fr.up_get, Nat.reduceLT, Nat.reduceEqDiff, ↓reduceIte, Bool.not_true, Bool.not_false]; done) | (right; simp only [Fr.ev_tmp, Fr.ev_const, Fr.up_get, Nat.reduceLT, Nat.reduceEqDiff, ↓reduceIte, Bool.not_true, Bool.not_false]; done))) ?_
    refine Fr.l_pass rfl (Fr.w_no rfl d12 (by decide) (by first | (left; simp only [Fr.ev_tmp, Fr.ev_const, Fr.up_get, Nat.reduceLT, Nat.reduceEqDiff, ↓reduceIte, Bool.not_true, Bool.not_false]; done) | (right; simp only [Fr.ev_tmp, Fr.ev_const, Fr.up_get, Nat.reduceLT, Nat.reduceEqDiff, ↓reduceIte, Bool.not_true, Bool.not_false]; done))) ?_
    refine Fr.l_val rfl (Fr.w_yes rfl d9 (by decide) (by simp only [Fr.ev_tmp, Fr.ev_const, Fr.up_get, Nat.reduceLT, Nat.reduceEqDiff, ↓reduceIte])) (by go_simp; first | done | (with_reducible rfl) | (with_reducible exact ⟨rfl, rfl⟩) | (with_reducible exact ⟨⟨rfl, rfl⟩, rfl⟩)) ?_
    refine Fr.l_val rfl (Fr.w_none rfl) (by go_simp; first | done | (with_reducible rfl) | (with_reducible exact ⟨rfl, rfl⟩) | (with_reducible exact ⟨⟨rfl, rfl⟩, rfl⟩)) ?_
    refine Fr.l_nil ?_
    refine Fr.l_cond (t := false) (by simp only [Fr.ev_tmp, Fr.ev_const, Fr.up_get, Nat.reduceLT, Nat.reduceEqDiff, ↓reduceIte]; try rfl) (fun h => absurd h (by decide)) (fun _ => ?_)
    refine wp_skip ?_
    refine HK.out _ _ (BelowC.drewN _ _ hw) ?_
    repeat (refine Fr.Agree.up (by decide) ?_)
    exact Fr.Agree.refl _ _

/-- What each operation of the region yields. -/
def pr30 (p : B5) (a1 : Option Addr) (n1 k1 : Nat) : Nat → Value → World → Prop
  | 0, v, _ => v = aggB p
  | 1, v, _ => v = .slice a1 n1 k1
  | 2, v, _ => ∃ q : B5, v = aggB q ∧ BeltD q.1 q.2.1 q.2.2.1 q.2.2.2.1
  | _, v, w => ∃ (q : B5) (g cap : Nat), BeltD q.1 q.2.1 q.2.2.1 q.2.2.2.1 ∧ v = .slice (some ⟨g, 0, none⟩) 2 cap ∧ Bs w v [p, q]
theorem pr30_st {p : B5} {a1 : Option Addr} {n1 k1 : Nat} : ∀ i v w w', pr30 p a1 n1 k1 i v w → Below w.heap.size w w' → pr30 p a1 n1 k1 i v w' := by
  intro i v w w' h hs
  match i, h with
  | 0, h | 1, h | 2, h => exact h
  | _ + 3, ⟨q, g, cap, h1, h2, h3⟩ => exact ⟨q, g, cap, h1, h2, h3.below hs⟩
theorem ok_of {p : B5} (h : BeltD p.1 p.2.1 p.2.2.1 p.2.2.2.1) : BOk p := by
  have hF := beltF p.2.2.2.2 h
  exact ⟨hF.ha.1.2, hF.hb.1.2, hF.hc.1.2, hF.hd.1.2⟩

set_option maxRecDepth 100000 in
set_option maxHeartbeats 16000000 in
theorem b30 {a b c d P m1 k1 : Nat} {a1 : Option Addr} {x : Bool} {W w : World} {Q : Exit → Act → World → Prop} {R : Code} {f : Nat → Value} (f1 : f 1 = .slice a1 m1 k1) (f5 : f 5 = .pointer (some ⟨P, 0, none⟩)) (hBD : BeltD a b c d) (hBy : BytesAt W W.heap.size a1 m1)
    (q0 : ∀ w, BelowC W w → w.cell? ⟨P, 0, none⟩ = some (.float .f32 a)) (q1 : ∀ w, BelowC W w → w.cell? ⟨P, 1, none⟩ = some (.float .f32 b)) (q2 : ∀ w, BelowC W w → w.cell? ⟨P, 2, none⟩ = some (.float .f32 c)) (q3 : ∀ w, BelowC W w → w.cell? ⟨P, 3, none⟩ = some (.float .f32 d)) (q4 : ∀ w, BelowC W w → w.cell? ⟨P, 4, none⟩ = some (.bool x)) (hw : BelowC W w)
    (k : ∀ (w' : World) (g : Nat → Value) (q : B5) (gl cap : Nat), BelowC W w' → (g 27 = .slice (some ⟨gl, 0, none⟩) 2 cap) → BeltD q.1 q.2.1 q.2.2.1 q.2.2.2.1 → Bs w' (.slice (some ⟨gl, 0, none⟩) 2 cap) [(a, b, c, d, x), q] → Code.wp Try.prog R Q ⟨Fr.ft 311 g, []⟩ w') :
    Code.wp Try.prog ((Fr.fs (Fr.sn (Fr.sn (Fr.sn (Fr.sn (Fr.sn (Fr.sn (Fr.sn (Fr.sn (Fr.sn (Fr.sn (Fr.sn (Fr.sn (Fr.sn (Fr.sn (Fr.sn (Fr.sn (B10)))))))))))))))))).seq R) Q ⟨Fr.ft 311 f, []⟩ w := by
  have HK := Lib.hid k
  clear k
  conv => arg 2; arg 1; whnf
  have E1 := @Fr.ev_tmp 311
  have E2 := @Fr.ev_const 311
  have E3 := @Fr.up_get
  have E4 := @Fr.ev_func 311
  have E5 := @Fr.ev_global 311
  refine wp_seq ?_
  refine Fr.any_inv (pr30 (a, b, c, d, x) a1 m1 k1) (fun w w' => Below w.heap.size w w') (fun _ w => BelowC W w) (by kernel_rfl) (by kernel_rfl) pr30_st (Fr.belowC_drew hw) ?_ ?_
  · intro i o ho fx wx cc hc hbase hdep hW
    have b1 := (hbase 1 (notDst (by kernel_rfl))).trans f1
    have b5 := (hbase 5 (notDst (by kernel_rfl))).trans f5
    match i, ho with
    | 0, ho =>
      cases ho
      clear hdep
      refine Fr.stepOk.val (by go_simp; first | done | (with_reducible rfl) | (with_reducible exact ⟨rfl, rfl⟩) | (with_reducible exact ⟨⟨rfl, rfl⟩, rfl⟩)) ?_
      exact ⟨rfl, Below.refl _ _, hW⟩
    | 1, ho =>
      cases ho
      clear hdep
      refine Fr.stepOk.val (by go_simp; first | done | (with_reducible rfl) | (with_reducible exact ⟨rfl, rfl⟩) | (with_reducible exact ⟨⟨rfl, rfl⟩, rfl⟩)) ?_
      exact ⟨rfl, Below.refl _ _, hW⟩
    | 2, ho =>
      cases ho
      have q1' : fx 208 = _ := hdep ⟨1, .data⟩ (by simp) rfl _ rfl _ rfl
      clear hdep
      refine Fr.stepOk.call (by go_simp; first | done | (with_reducible rfl) | (with_reducible exact ⟨rfl, rfl⟩) | (with_reducible exact ⟨⟨rfl, rfl⟩, rfl⟩)) ?_
      refine (a2Belt_any a1 m1 k1 _ (bytes_go hBy hW)).mono ?_
      rintro e w2 ⟨x1, x2, x3, x4, x5, rfl, hB, hb2⟩
      exact ⟨_, rfl, ⟨(x1, x2, x3, x4, x5), rfl, hB⟩, hb2, BelowC.call hW hb2⟩
    | 3, ho =>
      cases ho
      have q0' : fx 207 = _ := hdep ⟨0, .data⟩ (by simp) rfl _ rfl _ rfl
      obtain ⟨⟨x1, x2, x3, x4, x5⟩, q2', hB⟩ := hdep ⟨2, .data⟩ (by simp) rfl _ rfl _ rfl
      clear hdep
      have q0'' : fx 207 = .agg #[.float .f32 a, .float .f32 b, .float .f32 c, .float .f32 d, .bool x] := q0'
      have q2'' : fx 209 = .agg #[.float .f32 x1, .float .f32 x2, .float .f32 x3, .float .f32 x4, .bool x5] := q2'
      clear q0' q2'
      have hal : Below wx.heap.size wx (wx.alloc (.cells #[.float .f32 a, .float .f32 b, .float .f32 c, .float .f32 d, .bool x, .float .f32 x1, .float .f32 x2, .float .f32 x3, .float .f32 x4, .bool x5] 31)) := (Below.refl _ _).alloc (Nat.le_refl _) _
      have hown := own_lit wx wx.heap.size 31 (size := 5) 2 #[.float .f32 a, .float .f32 b, .float .f32 c, .float .f32 d, .bool x, .float .f32 x1, .float .f32 x2, .float .f32 x3, .float .f32 x4, .bool x5] (Nat.le_refl _) (by decide) rfl
      have hbs := Lib.hid (bs_of_own (bs := [(a, b, c, d, x), (x1, x2, x3, x4, x5)]) hown (by
        intro p hp
        simp at hp
        rcases hp with rfl | rfl
        · exact ok_of (p := (a, b, c, d, x)) hBD
        · exact ok_of (p := (x1, x2, x3, x4, x5)) hB))
      clear hown
      refine Fr.stepOk.val (by go_simp; first | done | (with_reducible rfl) | (with_reducible exact ⟨rfl, rfl⟩) | (with_reducible exact ⟨⟨rfl, rfl⟩, rfl⟩)) ?_
      exact ⟨⟨(x1, x2, x3, x4, x5), wx.heap.size, 2, hB, rfl, hbs.out⟩, hal, BelowC.call hW hal⟩
    | 4, ho =>
      cases ho
      obtain ⟨q, g, cap, hB, hv, hbs⟩ := hdep ⟨3, .data⟩ (by simp) rfl _ rfl _ rfl
      clear hdep
      have hv' : fx 210 = .slice (some ⟨g, 0, none⟩) 2 cap := hv
      rw [hv] at hbs
      have HBS := Lib.hid hbs
      clear hv hbs
      refine Fr.stepOk.val (by go_simp; first | done | (with_reducible rfl) | (with_reducible exact ⟨rfl, rfl⟩) | (with_reducible exact ⟨⟨rfl, rfl⟩, rfl⟩)) ?_
      exact ⟨⟨q, g, cap, hB, rfl, HBS.out⟩, Below.refl _ _, hW⟩
    | m + 5, ho => simp at ho
  · intro fx wx hbase hpr hW
    obtain ⟨q, g, cap, hB, hv, hbs⟩ := (hpr 4 _ rfl).1 27 rfl
    rw [hv] at hbs
    obtain ⟨_, _, hW'⟩ := hW
    exact HK.out wx fx q g cap hW' hv hB hbs

set_option maxRecDepth 100000 in
set_option maxHeartbeats 16000000 in
theorem b36 {V1 V2 : Value} {L1 L2 : Nat} {mo : Nat} {xs ys : List Nat} {W w : World} {Q : Exit → Act → World → Prop} {R : Code} {f : Nat → Value} (f28 : f 28 = V1) (f29 : f 29 = .int .i64 0) (f30 : f 30 = V2) (f31 : f 31 = .int .i64 0) (f32 : f 32 = .int .i64 (if flt .f32 L1 L2 then 1 else 0)) (f33 : f 33 = .float .f32 mo) (f34 : f 34 = .int .i64 0) (f35 : f 35 = .float .f32 L1) (f36 : f 36 = .int .i64 0) (f37 : f 37 = .float .f32 L2) (f38 : f 38 = .int .i64 0)
    (h1 : Fs w V1 xs) (h2 : Fs w V2 ys) (hS : SameF xs ys) (hl : ys.length = 3) (hP1 : Po L1) (hP2 : Po L2) (hmo : cn mo = cn (if flt .f32 L1 L2 then L2 else L1)) (hw : BelowC W w)
    (k : ∀ (w' : World) (g : Nat → Value), BelowC W w' → Fr.Agree 241 f g → Code.wp Try.prog R Q ⟨Fr.ft 311 g, []⟩ w') :
    Code.wp Try.prog ((Fr.fs (Fr.sn (Fr.sn (Fr.sn (Fr.sn (Fr.sn (Fr.sn (Fr.sn (Fr.sn (Fr.sn (Fr.sn (Fr.sn (Fr.sn (Fr.sn (Fr.sn (Fr.sn (Fr.sn (Fr.sn (Fr.sn (Fr.sn (Fr.sn (Fr.sn (Fr.sn (B10)))))))))))))))))))))))).seq R) Q ⟨Fr.ft 311 f, []⟩ w := by
  have HK := Lib.hid k
  have H1 := Lib.hid h1
  have H2 := Lib.hid h2
  have HS := Lib.hid hS
  have HM := Lib.hid hmo
  obtain ⟨av, cap, rfl, _, _⟩ := h2
  rw [hl] at f30 H2
  clear k h1 hS hmo
  have M := fun (w : World) (ts : Array TypeId) (t : TypeId) => run_max_Po (P := Try.prog) w ts t hP1 hP2
  conv => arg 2; arg 1; whnf
  have E1 := @Fr.ev_tmp 311
  have E2 := @Fr.ev_const 311
  have E3 := @Fr.up_get
  have E4 := @Fr.ev_func 311
  have E5 := @Fr.ev_global 311
  refine wp_seq ?_
  refine wp_seq ?_
  cases hlt : flt .f32 L1 L2
  · have f32 : f 32 = .int .i64 0 := by rw [f32, hlt]; rfl
    have hsa : sameB mo L1 = true := teq_cn (by rw [HM.out, hlt]; rfl)
    rw [hlt] at M
    have M : ∀ (w : World) (ts : Array TypeId) (t : TypeId), (Builtin.max_ ts t #[.float .f32 L1, .float .f32 L2]).run Try.prog w = .ok (.float .f32 L1) w := M
    refine wp_region_lit ?_
    refine Fr.l_ops ?_
    intro OPS hO
    have d3 : (OPS[3]?).bind (·.dst) = some 244 := by rw [hO]; kernel_rfl
    have d7 : (OPS[7]?).bind (·.dst) = some 248 := by rw [hO]; kernel_rfl
    have d13 : (OPS[13]?).bind (·.dst) = some 254 := by rw [hO]; kernel_rfl
    have d18 : (OPS[18]?).bind (·.dst) = some 259 := by rw [hO]; kernel_rfl
    have d22 : (OPS[22]?).bind (·.dst) = some 263 := by rw [hO]; kernel_rfl
    have d26 : (OPS[26]?).bind (·.dst) = some 267 := by rw [hO]; kernel_rfl
    have d30 : (OPS[30]?).bind (·.dst) = some 271 := by rw [hO]; kernel_rfl
    have d34 : (OPS[34]?).bind (·.dst) = some 275 := by rw [hO]; kernel_rfl
    have d38 : (OPS[38]?).bind (·.dst) = some 279 := by rw [hO]; kernel_rfl
    have d46 : (OPS[46]?).bind (·.dst) = some 287 := by rw [hO]; kernel_rfl
    clear hO
    refine Fr.l_mv rfl rfl (Fr.w_none rfl) (by simp only [Fr.ev_tmp, Fr.ev_const, Fr.up_get, Nat.reduceLT, Nat.reduceEqDiff, ↓reduceIte, f28, f29, f30, f31, f32, f33, f34, f35, f36, f37, f38]; try rfl) ?_
    refine Fr.l_mv rfl rfl (Fr.w_none rfl) (by simp only [Fr.ev_tmp, Fr.ev_const, Fr.up_get, Nat.reduceLT, Nat.reduceEqDiff, ↓reduceIte, f28, f29, f30, f31, f32, f33, f34, f35, f36, f37, f38]; try rfl) ?_
    refine Fr.l_val rfl (Fr.w_none rfl) (by go_simp; first | done | (with_reducible rfl) | (with_reducible exact ⟨rfl, rfl⟩) | (with_reducible exact ⟨⟨rfl, rfl⟩, rfl⟩)) ?_
    refine Fr.l_mv rfl rfl (Fr.w_none rfl) (by simp only [Fr.ev_tmp, Fr.ev_const, Fr.up_get, Nat.reduceLT, Nat.reduceEqDiff, ↓reduceIte, f28, f29, f30, f31, f32, f33, f34, f35, f36, f37, f38]; try rfl) ?_
    refine Fr.l_mv rfl rfl (Fr.w_yes rfl d3 (by decide) (by simp only [Fr.ev_tmp, Fr.ev_const, Fr.up_get, Nat.reduceLT, Nat.reduceEqDiff, ↓reduceIte])) (by simp only [Fr.ev_tmp, Fr.ev_const, Fr.up_get, Nat.reduceLT, Nat.reduceEqDiff, ↓reduceIte, f28, f29, f30, f31, f32, f33, f34, f35, f36, f37, f38]; try rfl) ?_
    refine Fr.l_val rfl (Fr.w_yes rfl d3 (by decide) (by simp only [Fr.ev_tmp, Fr.ev_const, Fr.up_get, Nat.reduceLT, Nat.reduceEqDiff, ↓reduceIte])) (by go_simp; first | done | (with_reducible rfl) | (with_reducible exact ⟨rfl, rfl⟩) | (with_reducible exact ⟨⟨rfl, rfl⟩, rfl⟩)) ?_
    refine Fr.l_val rfl (Fr.w_none rfl) (by go_simp; first | done | (with_reducible rfl) | (with_reducible exact ⟨rfl, rfl⟩) | (with_reducible exact ⟨⟨rfl, rfl⟩, rfl⟩)) ?_
    refine Fr.l_mv rfl rfl (Fr.w_none rfl) (by simp only [Fr.ev_tmp, Fr.ev_const, Fr.up_get, Nat.reduceLT, Nat.reduceEqDiff, ↓reduceIte, f28, f29, f30, f31, f32, f33, f34, f35, f36, f37, f38]; try rfl) ?_
    refine Fr.l_mv rfl rfl (Fr.w_yes rfl d7 (by decide) (by simp only [Fr.ev_tmp, Fr.ev_const, Fr.up_get, Nat.reduceLT, Nat.reduceEqDiff, ↓reduceIte])) (by simp only [Fr.ev_tmp, Fr.ev_const, Fr.up_get, Nat.reduceLT, Nat.reduceEqDiff, ↓reduceIte, f28, f29, f30, f31, f32, f33, f34, f35, f36, f37, f38]; try rfl) ?_
    refine Fr.l_mv rfl rfl (Fr.w_yes rfl d7 (by decide) (by simp only [Fr.ev_tmp, Fr.ev_const, Fr.up_get, Nat.reduceLT, Nat.reduceEqDiff, ↓reduceIte])) (by simp only [Fr.ev_tmp, Fr.ev_const, Fr.up_get, Nat.reduceLT, Nat.reduceEqDiff, ↓reduceIte, f28, f29, f30, f31, f32, f33, f34, f35, f36, f37, f38]; try rfl) ?_
    (refine Fr.l_call rfl (Fr.w_yes rfl d7 (by decide) (by simp only [Fr.ev_tmp, Fr.ev_const, Fr.up_get, Nat.reduceLT, Nat.reduceEqDiff, ↓reduceIte])) (by go_simp; first | done | (with_reducible rfl) | (with_reducible exact ⟨rfl, rfl⟩) | (with_reducible exact ⟨⟨rfl, rfl⟩, rfl⟩)) ?_; refine (a2Same_any xs ys _ _ _ H1.out H2.out HS.out).mono ?_; rintro e w2 ⟨rfl, n, rfl⟩; refine ⟨_, rfl, ?_⟩)
    refine Fr.l_val rfl (Fr.w_yes rfl d7 (by decide) (by simp only [Fr.ev_tmp, Fr.ev_const, Fr.up_get, Nat.reduceLT, Nat.reduceEqDiff, ↓reduceIte])) (by go_simp; first | done | (with_reducible rfl) | (with_reducible exact ⟨rfl, rfl⟩) | (with_reducible exact ⟨⟨rfl, rfl⟩, rfl⟩)) ?_
    refine Fr.l_val rfl (Fr.w_none rfl) (by go_simp; first | done | (with_reducible rfl) | (with_reducible exact ⟨rfl, rfl⟩) | (with_reducible exact ⟨⟨rfl, rfl⟩, rfl⟩)) ?_
    refine Fr.l_mv rfl rfl (Fr.w_none rfl) (by simp only [Fr.ev_tmp, Fr.ev_const, Fr.up_get, Nat.reduceLT, Nat.reduceEqDiff, ↓reduceIte, f28, f29, f30, f31, f32, f33, f34, f35, f36, f37, f38]; try rfl) ?_
    refine Fr.l_mv rfl rfl (Fr.w_yes rfl d13 (by decide) (by simp only [Fr.ev_tmp, Fr.ev_const, Fr.up_get, Nat.reduceLT, Nat.reduceEqDiff, ↓reduceIte])) (by simp only [Fr.ev_tmp, Fr.ev_const, Fr.up_get, Nat.reduceLT, Nat.reduceEqDiff, ↓reduceIte, f28, f29, f30, f31, f32, f33, f34, f35, f36, f37, f38]; try rfl) ?_
    refine Fr.l_val rfl (Fr.w_yes rfl d13 (by decide) (by simp only [Fr.ev_tmp, Fr.ev_const, Fr.up_get, Nat.reduceLT, Nat.reduceEqDiff, ↓reduceIte])) (by go_simp; first | done | (with_reducible rfl) | (with_reducible exact ⟨rfl, rfl⟩) | (with_reducible exact ⟨⟨rfl, rfl⟩, rfl⟩)) ?_
    refine Fr.l_val rfl (Fr.w_yes rfl d13 (by decide) (by simp only [Fr.ev_tmp, Fr.ev_const, Fr.up_get, Nat.reduceLT, Nat.reduceEqDiff, ↓reduceIte])) (by go_simp; first | done | (with_reducible rfl) | (with_reducible exact ⟨rfl, rfl⟩) | (with_reducible exact ⟨⟨rfl, rfl⟩, rfl⟩)) ?_
    refine Fr.l_val rfl (Fr.w_none rfl) (by go_simp; first | done | (with_reducible rfl) | (with_reducible exact ⟨rfl, rfl⟩) | (with_reducible exact ⟨⟨rfl, rfl⟩, rfl⟩)) ?_
    refine Fr.l_mv rfl rfl (Fr.w_none rfl) (by simp only [Fr.ev_tmp, Fr.ev_const, Fr.up_get, Nat.reduceLT, Nat.reduceEqDiff, ↓reduceIte, f28, f29, f30, f31, f32, f33, f34, f35, f36, f37, f38]; try rfl) ?_
    refine Fr.l_mv rfl rfl (Fr.w_yes rfl d18 (by decide) (by simp only [Fr.ev_tmp, Fr.ev_const, Fr.up_get, Nat.reduceLT, Nat.reduceEqDiff, ↓reduceIte])) (by simp only [Fr.ev_tmp, Fr.ev_const, Fr.up_get, Nat.reduceLT, Nat.reduceEqDiff, ↓reduceIte, f28, f29, f30, f31, f32, f33, f34, f35, f36, f37, f38]; try rfl) ?_
    refine Fr.l_val rfl (Fr.w_yes rfl d18 (by decide) (by simp only [Fr.ev_tmp, Fr.ev_const, Fr.up_get, Nat.reduceLT, Nat.reduceEqDiff, ↓reduceIte])) (by go_simp; first | done | (with_reducible rfl) | (with_reducible exact ⟨rfl, rfl⟩) | (with_reducible exact ⟨⟨rfl, rfl⟩, rfl⟩)) ?_
    refine Fr.l_val rfl (Fr.w_none rfl) (by go_simp; first | done | (with_reducible rfl) | (with_reducible exact ⟨rfl, rfl⟩) | (with_reducible exact ⟨⟨rfl, rfl⟩, rfl⟩)) ?_
    refine Fr.l_mv rfl rfl (Fr.w_none rfl) (by simp only [Fr.ev_tmp, Fr.ev_const, Fr.up_get, Nat.reduceLT, Nat.reduceEqDiff, ↓reduceIte, f28, f29, f30, f31, f32, f33, f34, f35, f36, f37, f38]; try rfl) ?_
    refine Fr.l_mv rfl rfl (Fr.w_yes rfl d22 (by decide) (by simp only [Fr.ev_tmp, Fr.ev_const, Fr.up_get, Nat.reduceLT, Nat.reduceEqDiff, ↓reduceIte])) (by simp only [Fr.ev_tmp, Fr.ev_const, Fr.up_get, Nat.reduceLT, Nat.reduceEqDiff, ↓reduceIte, f28, f29, f30, f31, f32, f33, f34, f35, f36, f37, f38]; try rfl) ?_
    refine Fr.l_val rfl (Fr.w_yes rfl d22 (by decide) (by simp only [Fr.ev_tmp, Fr.ev_const, Fr.up_get, Nat.reduceLT, Nat.reduceEqDiff, ↓reduceIte])) (by go_simp; first | done | (with_reducible rfl) | (with_reducible exact ⟨rfl, rfl⟩) | (with_reducible exact ⟨⟨rfl, rfl⟩, rfl⟩)) ?_
    refine Fr.l_val rfl (Fr.w_none rfl) (by go_simp; first | done | (with_reducible rfl) | (with_reducible exact ⟨rfl, rfl⟩) | (with_reducible exact ⟨⟨rfl, rfl⟩, rfl⟩)) ?_
    refine Fr.l_mv rfl rfl (Fr.w_none rfl) (by simp only [Fr.ev_tmp, Fr.ev_const, Fr.up_get, Nat.reduceLT, Nat.reduceEqDiff, ↓reduceIte, f28, f29, f30, f31, f32, f33, f34, f35, f36, f37, f38]; try rfl) ?_
    refine Fr.l_mv rfl rfl (Fr.w_yes rfl d26 (by decide) (by simp only [Fr.ev_tmp, Fr.ev_const, Fr.up_get, Nat.reduceLT, Nat.reduceEqDiff, ↓reduceIte])) (by simp only [Fr.ev_tmp, Fr.ev_const, Fr.up_get, Nat.reduceLT, Nat.reduceEqDiff, ↓reduceIte, f28, f29, f30, f31, f32, f33, f34, f35, f36, f37, f38]; try rfl) ?_
    refine Fr.l_val rfl (Fr.w_yes rfl d26 (by decide) (by simp only [Fr.ev_tmp, Fr.ev_const, Fr.up_get, Nat.reduceLT, Nat.reduceEqDiff, ↓reduceIte])) (by go_simp; first | done | (with_reducible rfl) | (with_reducible exact ⟨rfl, rfl⟩) | (with_reducible exact ⟨⟨rfl, rfl⟩, rfl⟩)) ?_
    refine Fr.l_val rfl (Fr.w_none rfl) (by go_simp; first | done | (with_reducible rfl) | (with_reducible exact ⟨rfl, rfl⟩) | (with_reducible exact ⟨⟨rfl, rfl⟩, rfl⟩)) ?_
    refine Fr.l_mv rfl rfl (Fr.w_none rfl) (by simp only [Fr.ev_tmp, Fr.ev_const, Fr.up_get, Nat.reduceLT, Nat.reduceEqDiff, ↓reduceIte, f28, f29, f30, f31, f32, f33, f34, f35, f36, f37, f38]; try rfl) ?_
    refine Fr.l_mv rfl rfl (Fr.w_yes rfl d30 (by decide) (by simp only [Fr.ev_tmp, Fr.ev_const, Fr.up_get, Nat.reduceLT, Nat.reduceEqDiff, ↓reduceIte])) (by simp only [Fr.ev_tmp, Fr.ev_const, Fr.up_get, Nat.reduceLT, Nat.reduceEqDiff, ↓reduceIte, f28, f29, f30, f31, f32, f33, f34, f35, f36, f37, f38]; try rfl) ?_
    refine Fr.l_val rfl (Fr.w_yes rfl d30 (by decide) (by simp only [Fr.ev_tmp, Fr.ev_const, Fr.up_get, Nat.reduceLT, Nat.reduceEqDiff, ↓reduceIte])) (by go_simp; first | done | (with_reducible rfl) | (with_reducible exact ⟨rfl, rfl⟩) | (with_reducible exact ⟨⟨rfl, rfl⟩, rfl⟩)) ?_
    refine Fr.l_val rfl (Fr.w_none rfl) (by go_simp; first | done | (with_reducible rfl) | (with_reducible exact ⟨rfl, rfl⟩) | (with_reducible exact ⟨⟨rfl, rfl⟩, rfl⟩)) ?_
    refine Fr.l_mv rfl rfl (Fr.w_none rfl) (by simp only [Fr.ev_tmp, Fr.ev_const, Fr.up_get, Nat.reduceLT, Nat.reduceEqDiff, ↓reduceIte, f28, f29, f30, f31, f32, f33, f34, f35, f36, f37, f38]; try rfl) ?_
    refine Fr.l_mv rfl rfl (Fr.w_yes rfl d34 (by decide) (by simp only [Fr.ev_tmp, Fr.ev_const, Fr.up_get, Nat.reduceLT, Nat.reduceEqDiff, ↓reduceIte])) (by simp only [Fr.ev_tmp, Fr.ev_const, Fr.up_get, Nat.reduceLT, Nat.reduceEqDiff, ↓reduceIte, f28, f29, f30, f31, f32, f33, f34, f35, f36, f37, f38]; try rfl) ?_
    refine Fr.l_val rfl (Fr.w_yes rfl d34 (by decide) (by simp only [Fr.ev_tmp, Fr.ev_const, Fr.up_get, Nat.reduceLT, Nat.reduceEqDiff, ↓reduceIte])) (by go_simp; first | done | (with_reducible rfl) | (with_reducible exact ⟨rfl, rfl⟩) | (with_reducible exact ⟨⟨rfl, rfl⟩, rfl⟩)) ?_
    refine Fr.l_val rfl (Fr.w_none rfl) (by go_simp; first | done | (with_reducible rfl) | (with_reducible exact ⟨rfl, rfl⟩) | (with_reducible exact ⟨⟨rfl, rfl⟩, rfl⟩)) ?_
    refine Fr.l_mv rfl rfl (Fr.w_none rfl) (by simp only [Fr.ev_tmp, Fr.ev_const, Fr.up_get, Nat.reduceLT, Nat.reduceEqDiff, ↓reduceIte, f28, f29, f30, f31, f32, f33, f34, f35, f36, f37, f38]; try rfl) ?_
    refine Fr.l_mv rfl rfl (Fr.w_yes rfl d38 (by decide) (by simp only [Fr.ev_tmp, Fr.ev_const, Fr.up_get, Nat.reduceLT, Nat.reduceEqDiff, ↓reduceIte])) (by simp only [Fr.ev_tmp, Fr.ev_const, Fr.up_get, Nat.reduceLT, Nat.reduceEqDiff, ↓reduceIte, f28, f29, f30, f31, f32, f33, f34, f35, f36, f37, f38]; try rfl) ?_
    refine Fr.l_val rfl (Fr.w_yes rfl d38 (by decide) (by simp only [Fr.ev_tmp, Fr.ev_const, Fr.up_get, Nat.reduceLT, Nat.reduceEqDiff, ↓reduceIte])) (by go_simp; first | done | (with_reducible rfl) | (with_reducible exact ⟨rfl, rfl⟩) | (with_reducible exact ⟨⟨rfl, rfl⟩, rfl⟩)) ?_
    refine Fr.l_mv rfl rfl (Fr.w_yes rfl d38 (by decide) (by simp only [Fr.ev_tmp, Fr.ev_const, Fr.up_get, Nat.reduceLT, Nat.reduceEqDiff, ↓reduceIte])) (by simp only [Fr.ev_tmp, Fr.ev_const, Fr.up_get, Nat.reduceLT, Nat.reduceEqDiff, ↓reduceIte, f28, f29, f30, f31, f32, f33, f34, f35, f36, f37, f38]; try rfl) ?_
    refine Fr.l_mv rfl rfl (Fr.w_yes rfl d38 (by decide) (by simp only [Fr.ev_tmp, Fr.ev_const, Fr.up_get, Nat.reduceLT, Nat.reduceEqDiff, ↓reduceIte])) (by simp only [Fr.ev_tmp, Fr.ev_const, Fr.up_get, Nat.reduceLT, Nat.reduceEqDiff, ↓reduceIte, f28, f29, f30, f31, f32, f33, f34, f35, f36, f37, f38]; try rfl) ?_
    refine Fr.l_val rfl (Fr.w_yes rfl d38 (by decide) (by simp only [Fr.ev_tmp, Fr.ev_const, Fr.up_get, Nat.reduceLT, Nat.reduceEqDiff, ↓reduceIte])) (by go_simp; first | done | (with_reducible rfl) | (with_reducible exact ⟨rfl, rfl⟩) | (with_reducible exact ⟨⟨rfl, rfl⟩, rfl⟩)) ?_
    refine Fr.l_val rfl (Fr.w_yes rfl d38 (by decide) (by simp only [Fr.ev_tmp, Fr.ev_const, Fr.up_get, Nat.reduceLT, Nat.reduceEqDiff, ↓reduceIte])) (by go_simp; first | done | (with_reducible rfl) | (with_reducible exact ⟨rfl, rfl⟩) | (with_reducible exact ⟨⟨rfl, rfl⟩, rfl⟩)) ?_
    refine Fr.l_val rfl (Fr.w_none rfl) (by go_simp; first | done | (with_reducible rfl) | (with_reducible exact ⟨rfl, rfl⟩) | (with_reducible exact ⟨⟨rfl, rfl⟩, rfl⟩)) ?_
    refine Fr.l_mv rfl rfl (Fr.w_none rfl) (by simp only [Fr.ev_tmp, Fr.ev_const, Fr.up_get, Nat.reduceLT, Nat.reduceEqDiff, ↓reduceIte, f28, f29, f30, f31, f32, f33, f34, f35, f36, f37, f38]; try rfl) ?_
    refine Fr.l_mv rfl rfl (Fr.w_yes rfl d46 (by decide) (by simp only [Fr.ev_tmp, Fr.ev_const, Fr.up_get, Nat.reduceLT, Nat.reduceEqDiff, ↓reduceIte])) (by simp only [Fr.ev_tmp, Fr.ev_const, Fr.up_get, Nat.reduceLT, Nat.reduceEqDiff, ↓reduceIte, f28, f29, f30, f31, f32, f33, f34, f35, f36, f37, f38]; try rfl) ?_
    refine Fr.l_mv rfl rfl (Fr.w_yes rfl d46 (by decide) (by simp only [Fr.ev_tmp, Fr.ev_const, Fr.up_get, Nat.reduceLT, Nat.reduceEqDiff, ↓reduceIte])) (by simp only [Fr.ev_tmp, Fr.ev_const, Fr.up_get, Nat.reduceLT, Nat.reduceEqDiff, ↓reduceIte, f28, f29, f30, f31, f32, f33, f34, f35, f36, f37, f38]; try rfl) ?_
    refine Fr.l_mv rfl rfl (Fr.w_yes rfl d46 (by decide) (by simp only [Fr.ev_tmp, Fr.ev_const, Fr.up_get, Nat.reduceLT, Nat.reduceEqDiff, ↓reduceIte])) (by simp only [Fr.ev_tmp, Fr.ev_const, Fr.up_get, Nat.reduceLT, Nat.reduceEqDiff, ↓reduceIte, f28, f29, f30, f31, f32, f33, f34, f35, f36, f37, f38]; try rfl) ?_
    refine Fr.l_val rfl (Fr.w_yes rfl d46 (by decide) (by simp only [Fr.ev_tmp, Fr.ev_const, Fr.up_get, Nat.reduceLT, Nat.reduceEqDiff, ↓reduceIte])) (by go_simp; first | done | (with_reducible rfl) | (with_reducible exact ⟨rfl, rfl⟩) | (with_reducible exact ⟨⟨rfl, rfl⟩, rfl⟩)) ?_
    (refine Fr.l_call rfl (Fr.w_yes rfl d46 (by decide) (by simp only [Fr.ev_tmp, Fr.ev_const, Fr.up_get, Nat.reduceLT, Nat.reduceEqDiff, ↓reduceIte])) (by go_simp; first | done | (with_reducible rfl) | (with_reducible exact ⟨rfl, rfl⟩) | (with_reducible exact ⟨⟨rfl, rfl⟩, rfl⟩)) ?_; refine (specSame_any _ _ _).mono ?_; rintro e w2 ⟨rfl, rfl⟩; refine ⟨_, rfl, ?_⟩)
    rw [hsa]
    refine Fr.l_val rfl (Fr.w_yes rfl d46 (by decide) (by simp only [Fr.ev_tmp, Fr.ev_const, Fr.up_get, Nat.reduceLT, Nat.reduceEqDiff, ↓reduceIte])) (by go_simp; first | done | (with_reducible rfl) | (with_reducible exact ⟨rfl, rfl⟩) | (with_reducible exact ⟨⟨rfl, rfl⟩, rfl⟩)) ?_
    refine Fr.l_val rfl (Fr.w_none rfl) (by go_simp; first | done | (with_reducible rfl) | (with_reducible exact ⟨rfl, rfl⟩) | (with_reducible exact ⟨⟨rfl, rfl⟩, rfl⟩)) ?_
    refine Fr.l_nil ?_
    refine Fr.l_cond (t := false) (by simp only [Fr.ev_tmp, Fr.ev_const, Fr.up_get, Nat.reduceLT, Nat.reduceEqDiff, ↓reduceIte]; try rfl) (fun h => absurd h (by decide)) (fun _ => ?_)
    refine wp_skip ?_
    refine HK.out _ _ (BelowC.drewN _ _ hw) ?_
    repeat (refine Fr.Agree.up (by decide) ?_)
    exact Fr.Agree.refl _ _
  · have f32 : f 32 = .int .i64 1 := by rw [f32, hlt]; rfl
    have hsa : sameB mo L2 = true := teq_cn (by rw [HM.out, hlt]; rfl)
    rw [hlt] at M
    have M : ∀ (w : World) (ts : Array TypeId) (t : TypeId), (Builtin.max_ ts t #[.float .f32 L1, .float .f32 L2]).run Try.prog w = .ok (.float .f32 L2) w := M
    refine wp_region_lit ?_
    refine Fr.l_ops ?_
    intro OPS hO
    have d3 : (OPS[3]?).bind (·.dst) = some 244 := by rw [hO]; kernel_rfl
    have d7 : (OPS[7]?).bind (·.dst) = some 248 := by rw [hO]; kernel_rfl
    have d13 : (OPS[13]?).bind (·.dst) = some 254 := by rw [hO]; kernel_rfl
    have d18 : (OPS[18]?).bind (·.dst) = some 259 := by rw [hO]; kernel_rfl
    have d22 : (OPS[22]?).bind (·.dst) = some 263 := by rw [hO]; kernel_rfl
    have d26 : (OPS[26]?).bind (·.dst) = some 267 := by rw [hO]; kernel_rfl
    have d30 : (OPS[30]?).bind (·.dst) = some 271 := by rw [hO]; kernel_rfl
    have d34 : (OPS[34]?).bind (·.dst) = some 275 := by rw [hO]; kernel_rfl
    have d38 : (OPS[38]?).bind (·.dst) = some 279 := by rw [hO]; kernel_rfl
    have d46 : (OPS[46]?).bind (·.dst) = some 287 := by rw [hO]; kernel_rfl
    clear hO
    refine Fr.l_mv rfl rfl (Fr.w_none rfl) (by simp only [Fr.ev_tmp, Fr.ev_const, Fr.up_get, Nat.reduceLT, Nat.reduceEqDiff, ↓reduceIte, f28, f29, f30, f31, f32, f33, f34, f35, f36, f37, f38]; try rfl) ?_
    refine Fr.l_mv rfl rfl (Fr.w_none rfl) (by simp only [Fr.ev_tmp, Fr.ev_const, Fr.up_get, Nat.reduceLT, Nat.reduceEqDiff, ↓reduceIte, f28, f29, f30, f31, f32, f33, f34, f35, f36, f37, f38]; try rfl) ?_
    refine Fr.l_val rfl (Fr.w_none rfl) (by go_simp; first | done | (with_reducible rfl) | (with_reducible exact ⟨rfl, rfl⟩) | (with_reducible exact ⟨⟨rfl, rfl⟩, rfl⟩)) ?_
    refine Fr.l_mv rfl rfl (Fr.w_none rfl) (by simp only [Fr.ev_tmp, Fr.ev_const, Fr.up_get, Nat.reduceLT, Nat.reduceEqDiff, ↓reduceIte, f28, f29, f30, f31, f32, f33, f34, f35, f36, f37, f38]; try rfl) ?_
    refine Fr.l_mv rfl rfl (Fr.w_yes rfl d3 (by decide) (by simp only [Fr.ev_tmp, Fr.ev_const, Fr.up_get, Nat.reduceLT, Nat.reduceEqDiff, ↓reduceIte])) (by simp only [Fr.ev_tmp, Fr.ev_const, Fr.up_get, Nat.reduceLT, Nat.reduceEqDiff, ↓reduceIte, f28, f29, f30, f31, f32, f33, f34, f35, f36, f37, f38]; try rfl) ?_
    refine Fr.l_val rfl (Fr.w_yes rfl d3 (by decide) (by simp only [Fr.ev_tmp, Fr.ev_const, Fr.up_get, Nat.reduceLT, Nat.reduceEqDiff, ↓reduceIte])) (by go_simp; first | done | (with_reducible rfl) | (with_reducible exact ⟨rfl, rfl⟩) | (with_reducible exact ⟨⟨rfl, rfl⟩, rfl⟩)) ?_
    refine Fr.l_val rfl (Fr.w_none rfl) (by go_simp; first | done | (with_reducible rfl) | (with_reducible exact ⟨rfl, rfl⟩) | (with_reducible exact ⟨⟨rfl, rfl⟩, rfl⟩)) ?_
    refine Fr.l_mv rfl rfl (Fr.w_none rfl) (by simp only [Fr.ev_tmp, Fr.ev_const, Fr.up_get, Nat.reduceLT, Nat.reduceEqDiff, ↓reduceIte, f28, f29, f30, f31, f32, f33, f34, f35, f36, f37, f38]; try rfl) ?_
    refine Fr.l_mv rfl rfl (Fr.w_yes rfl d7 (by decide) (by simp only [Fr.ev_tmp, Fr.ev_const, Fr.up_get, Nat.reduceLT, Nat.reduceEqDiff, ↓reduceIte])) (by simp only [Fr.ev_tmp, Fr.ev_const, Fr.up_get, Nat.reduceLT, Nat.reduceEqDiff, ↓reduceIte, f28, f29, f30, f31, f32, f33, f34, f35, f36, f37, f38]; try rfl) ?_
    refine Fr.l_mv rfl rfl (Fr.w_yes rfl d7 (by decide) (by simp only [Fr.ev_tmp, Fr.ev_const, Fr.up_get, Nat.reduceLT, Nat.reduceEqDiff, ↓reduceIte])) (by simp only [Fr.ev_tmp, Fr.ev_const, Fr.up_get, Nat.reduceLT, Nat.reduceEqDiff, ↓reduceIte, f28, f29, f30, f31, f32, f33, f34, f35, f36, f37, f38]; try rfl) ?_
    (refine Fr.l_call rfl (Fr.w_yes rfl d7 (by decide) (by simp only [Fr.ev_tmp, Fr.ev_const, Fr.up_get, Nat.reduceLT, Nat.reduceEqDiff, ↓reduceIte])) (by go_simp; first | done | (with_reducible rfl) | (with_reducible exact ⟨rfl, rfl⟩) | (with_reducible exact ⟨⟨rfl, rfl⟩, rfl⟩)) ?_; refine (a2Same_any xs ys _ _ _ H1.out H2.out HS.out).mono ?_; rintro e w2 ⟨rfl, n, rfl⟩; refine ⟨_, rfl, ?_⟩)
    refine Fr.l_val rfl (Fr.w_yes rfl d7 (by decide) (by simp only [Fr.ev_tmp, Fr.ev_const, Fr.up_get, Nat.reduceLT, Nat.reduceEqDiff, ↓reduceIte])) (by go_simp; first | done | (with_reducible rfl) | (with_reducible exact ⟨rfl, rfl⟩) | (with_reducible exact ⟨⟨rfl, rfl⟩, rfl⟩)) ?_
    refine Fr.l_val rfl (Fr.w_none rfl) (by go_simp; first | done | (with_reducible rfl) | (with_reducible exact ⟨rfl, rfl⟩) | (with_reducible exact ⟨⟨rfl, rfl⟩, rfl⟩)) ?_
    refine Fr.l_mv rfl rfl (Fr.w_none rfl) (by simp only [Fr.ev_tmp, Fr.ev_const, Fr.up_get, Nat.reduceLT, Nat.reduceEqDiff, ↓reduceIte, f28, f29, f30, f31, f32, f33, f34, f35, f36, f37, f38]; try rfl) ?_
    refine Fr.l_mv rfl rfl (Fr.w_yes rfl d13 (by decide) (by simp only [Fr.ev_tmp, Fr.ev_const, Fr.up_get, Nat.reduceLT, Nat.reduceEqDiff, ↓reduceIte])) (by simp only [Fr.ev_tmp, Fr.ev_const, Fr.up_get, Nat.reduceLT, Nat.reduceEqDiff, ↓reduceIte, f28, f29, f30, f31, f32, f33, f34, f35, f36, f37, f38]; try rfl) ?_
    refine Fr.l_val rfl (Fr.w_yes rfl d13 (by decide) (by simp only [Fr.ev_tmp, Fr.ev_const, Fr.up_get, Nat.reduceLT, Nat.reduceEqDiff, ↓reduceIte])) (by go_simp; first | done | (with_reducible rfl) | (with_reducible exact ⟨rfl, rfl⟩) | (with_reducible exact ⟨⟨rfl, rfl⟩, rfl⟩)) ?_
    refine Fr.l_val rfl (Fr.w_yes rfl d13 (by decide) (by simp only [Fr.ev_tmp, Fr.ev_const, Fr.up_get, Nat.reduceLT, Nat.reduceEqDiff, ↓reduceIte])) (by go_simp; first | done | (with_reducible rfl) | (with_reducible exact ⟨rfl, rfl⟩) | (with_reducible exact ⟨⟨rfl, rfl⟩, rfl⟩)) ?_
    refine Fr.l_val rfl (Fr.w_none rfl) (by go_simp; first | done | (with_reducible rfl) | (with_reducible exact ⟨rfl, rfl⟩) | (with_reducible exact ⟨⟨rfl, rfl⟩, rfl⟩)) ?_
    refine Fr.l_mv rfl rfl (Fr.w_none rfl) (by simp only [Fr.ev_tmp, Fr.ev_const, Fr.up_get, Nat.reduceLT, Nat.reduceEqDiff, ↓reduceIte, f28, f29, f30, f31, f32, f33, f34, f35, f36, f37, f38]; try rfl) ?_
    refine Fr.l_mv rfl rfl (Fr.w_yes rfl d18 (by decide) (by simp only [Fr.ev_tmp, Fr.ev_const, Fr.up_get, Nat.reduceLT, Nat.reduceEqDiff, ↓reduceIte])) (by simp only [Fr.ev_tmp, Fr.ev_const, Fr.up_get, Nat.reduceLT, Nat.reduceEqDiff, ↓reduceIte, f28, f29, f30, f31, f32, f33, f34, f35, f36, f37, f38]; try rfl) ?_
    refine Fr.l_val rfl (Fr.w_yes rfl d18 (by decide) (by simp only [Fr.ev_tmp, Fr.ev_const, Fr.up_get, Nat.reduceLT, Nat.reduceEqDiff, ↓reduceIte])) (by go_simp; first | done | (with_reducible rfl) | (with_reducible exact ⟨rfl, rfl⟩) | (with_reducible exact ⟨⟨rfl, rfl⟩, rfl⟩)) ?_
    refine Fr.l_val rfl (Fr.w_none rfl) (by go_simp; first | done | (with_reducible rfl) | (with_reducible exact ⟨rfl, rfl⟩) | (with_reducible exact ⟨⟨rfl, rfl⟩, rfl⟩)) ?_
    refine Fr.l_mv rfl rfl (Fr.w_none rfl) (by simp only [Fr.ev_tmp, Fr.ev_const, Fr.up_get, Nat.reduceLT, Nat.reduceEqDiff, ↓reduceIte, f28, f29, f30, f31, f32, f33, f34, f35, f36, f37, f38]; try rfl) ?_
    refine Fr.l_mv rfl rfl (Fr.w_yes rfl d22 (by decide) (by simp only [Fr.ev_tmp, Fr.ev_const, Fr.up_get, Nat.reduceLT, Nat.reduceEqDiff, ↓reduceIte])) (by simp only [Fr.ev_tmp, Fr.ev_const, Fr.up_get, Nat.reduceLT, Nat.reduceEqDiff, ↓reduceIte, f28, f29, f30, f31, f32, f33, f34, f35, f36, f37, f38]; try rfl) ?_
    refine Fr.l_val rfl (Fr.w_yes rfl d22 (by decide) (by simp only [Fr.ev_tmp, Fr.ev_const, Fr.up_get, Nat.reduceLT, Nat.reduceEqDiff, ↓reduceIte])) (by go_simp; first | done | (with_reducible rfl) | (with_reducible exact ⟨rfl, rfl⟩) | (with_reducible exact ⟨⟨rfl, rfl⟩, rfl⟩)) ?_
    refine Fr.l_val rfl (Fr.w_none rfl) (by go_simp; first | done | (with_reducible rfl) | (with_reducible exact ⟨rfl, rfl⟩) | (with_reducible exact ⟨⟨rfl, rfl⟩, rfl⟩)) ?_
    refine Fr.l_mv rfl rfl (Fr.w_none rfl) (by simp only [Fr.ev_tmp, Fr.ev_const, Fr.up_get, Nat.reduceLT, Nat.reduceEqDiff, ↓reduceIte, f28, f29, f30, f31, f32, f33, f34, f35, f36, f37, f38]; try rfl) ?_
    refine Fr.l_mv rfl rfl (Fr.w_yes rfl d26 (by decide) (by simp only [Fr.ev_tmp, Fr.ev_const, Fr.up_get, Nat.reduceLT, Nat.reduceEqDiff, ↓reduceIte])) (by simp only [Fr.ev_tmp, Fr.ev_const, Fr.up_get, Nat.reduceLT, Nat.reduceEqDiff, ↓reduceIte, f28, f29, f30, f31, f32, f33, f34, f35, f36, f37, f38]; try rfl) ?_
    refine Fr.l_val rfl (Fr.w_yes rfl d26 (by decide) (by simp only [Fr.ev_tmp, Fr.ev_const, Fr.up_get, Nat.reduceLT, Nat.reduceEqDiff, ↓reduceIte])) (by go_simp; first | done | (with_reducible rfl) | (with_reducible exact ⟨rfl, rfl⟩) | (with_reducible exact ⟨⟨rfl, rfl⟩, rfl⟩)) ?_
    refine Fr.l_val rfl (Fr.w_none rfl) (by go_simp; first | done | (with_reducible rfl) | (with_reducible exact ⟨rfl, rfl⟩) | (with_reducible exact ⟨⟨rfl, rfl⟩, rfl⟩)) ?_
    refine Fr.l_mv rfl rfl (Fr.w_none rfl) (by simp only [Fr.ev_tmp, Fr.ev_const, Fr.up_get, Nat.reduceLT, Nat.reduceEqDiff, ↓reduceIte, f28, f29, f30, f31, f32, f33, f34, f35, f36, f37, f38]; try rfl) ?_
    refine Fr.l_mv rfl rfl (Fr.w_yes rfl d30 (by decide) (by simp only [Fr.ev_tmp, Fr.ev_const, Fr.up_get, Nat.reduceLT, Nat.reduceEqDiff, ↓reduceIte])) (by simp only [Fr.ev_tmp, Fr.ev_const, Fr.up_get, Nat.reduceLT, Nat.reduceEqDiff, ↓reduceIte, f28, f29, f30, f31, f32, f33, f34, f35, f36, f37, f38]; try rfl) ?_
    refine Fr.l_val rfl (Fr.w_yes rfl d30 (by decide) (by simp only [Fr.ev_tmp, Fr.ev_const, Fr.up_get, Nat.reduceLT, Nat.reduceEqDiff, ↓reduceIte])) (by go_simp; first | done | (with_reducible rfl) | (with_reducible exact ⟨rfl, rfl⟩) | (with_reducible exact ⟨⟨rfl, rfl⟩, rfl⟩)) ?_
    refine Fr.l_val rfl (Fr.w_none rfl) (by go_simp; first | done | (with_reducible rfl) | (with_reducible exact ⟨rfl, rfl⟩) | (with_reducible exact ⟨⟨rfl, rfl⟩, rfl⟩)) ?_
    refine Fr.l_mv rfl rfl (Fr.w_none rfl) (by simp only [Fr.ev_tmp, Fr.ev_const, Fr.up_get, Nat.reduceLT, Nat.reduceEqDiff, ↓reduceIte, f28, f29, f30, f31, f32, f33, f34, f35, f36, f37, f38]; try rfl) ?_
    refine Fr.l_mv rfl rfl (Fr.w_yes rfl d34 (by decide) (by simp only [Fr.ev_tmp, Fr.ev_const, Fr.up_get, Nat.reduceLT, Nat.reduceEqDiff, ↓reduceIte])) (by simp only [Fr.ev_tmp, Fr.ev_const, Fr.up_get, Nat.reduceLT, Nat.reduceEqDiff, ↓reduceIte, f28, f29, f30, f31, f32, f33, f34, f35, f36, f37, f38]; try rfl) ?_
    refine Fr.l_val rfl (Fr.w_yes rfl d34 (by decide) (by simp only [Fr.ev_tmp, Fr.ev_const, Fr.up_get, Nat.reduceLT, Nat.reduceEqDiff, ↓reduceIte])) (by go_simp; first | done | (with_reducible rfl) | (with_reducible exact ⟨rfl, rfl⟩) | (with_reducible exact ⟨⟨rfl, rfl⟩, rfl⟩)) ?_
    refine Fr.l_val rfl (Fr.w_none rfl) (by go_simp; first | done | (with_reducible rfl) | (with_reducible exact ⟨rfl, rfl⟩) | (with_reducible exact ⟨⟨rfl, rfl⟩, rfl⟩)) ?_
    refine Fr.l_mv rfl rfl (Fr.w_none rfl) (by simp only [Fr.ev_tmp, Fr.ev_const, Fr.up_get, Nat.reduceLT, Nat.reduceEqDiff, ↓reduceIte, f28, f29, f30, f31, f32, f33, f34, f35, f36, f37, f38]; try rfl) ?_
    refine Fr.l_mv rfl rfl (Fr.w_yes rfl d38 (by decide) (by simp only [Fr.ev_tmp, Fr.ev_const, Fr.up_get, Nat.reduceLT, Nat.reduceEqDiff, ↓reduceIte])) (by simp only [Fr.ev_tmp, Fr.ev_const, Fr.up_get, Nat.reduceLT, Nat.reduceEqDiff, ↓reduceIte, f28, f29, f30, f31, f32, f33, f34, f35, f36, f37, f38]; try rfl) ?_
    refine Fr.l_val rfl (Fr.w_yes rfl d38 (by decide) (by simp only [Fr.ev_tmp, Fr.ev_const, Fr.up_get, Nat.reduceLT, Nat.reduceEqDiff, ↓reduceIte])) (by go_simp; first | done | (with_reducible rfl) | (with_reducible exact ⟨rfl, rfl⟩) | (with_reducible exact ⟨⟨rfl, rfl⟩, rfl⟩)) ?_
    refine Fr.l_mv rfl rfl (Fr.w_yes rfl d38 (by decide) (by simp only [Fr.ev_tmp, Fr.ev_const, Fr.up_get, Nat.reduceLT, Nat.reduceEqDiff, ↓reduceIte])) (by simp only [Fr.ev_tmp, Fr.ev_const, Fr.up_get, Nat.reduceLT, Nat.reduceEqDiff, ↓reduceIte, f28, f29, f30, f31, f32, f33, f34, f35, f36, f37, f38]; try rfl) ?_
    refine Fr.l_mv rfl rfl (Fr.w_yes rfl d38 (by decide) (by simp only [Fr.ev_tmp, Fr.ev_const, Fr.up_get, Nat.reduceLT, Nat.reduceEqDiff, ↓reduceIte])) (by simp only [Fr.ev_tmp, Fr.ev_const, Fr.up_get, Nat.reduceLT, Nat.reduceEqDiff, ↓reduceIte, f28, f29, f30, f31, f32, f33, f34, f35, f36, f37, f38]; try rfl) ?_
    refine Fr.l_val rfl (Fr.w_yes rfl d38 (by decide) (by simp only [Fr.ev_tmp, Fr.ev_const, Fr.up_get, Nat.reduceLT, Nat.reduceEqDiff, ↓reduceIte])) (by go_simp; first | done | (with_reducible rfl) | (with_reducible exact ⟨rfl, rfl⟩) | (with_reducible exact ⟨⟨rfl, rfl⟩, rfl⟩)) ?_
    refine Fr.l_val rfl (Fr.w_yes rfl d38 (by decide) (by simp only [Fr.ev_tmp, Fr.ev_const, Fr.up_get, Nat.reduceLT, Nat.reduceEqDiff, ↓reduceIte])) (by go_simp; first | done | (with_reducible rfl) | (with_reducible exact ⟨rfl, rfl⟩) | (with_reducible exact ⟨⟨rfl, rfl⟩, rfl⟩)) ?_
    refine Fr.l_val rfl (Fr.w_none rfl) (by go_simp; first | done | (with_reducible rfl) | (with_reducible exact ⟨rfl, rfl⟩) | (with_reducible exact ⟨⟨rfl, rfl⟩, rfl⟩)) ?_
    refine Fr.l_mv rfl rfl (Fr.w_none rfl) (by simp only [Fr.ev_tmp, Fr.ev_const, Fr.up_get, Nat.reduceLT, Nat.reduceEqDiff, ↓reduceIte, f28, f29, f30, f31, f32, f33, f34, f35, f36, f37, f38]; try rfl) ?_
    refine Fr.l_mv rfl rfl (Fr.w_yes rfl d46 (by decide) (by simp only [Fr.ev_tmp, Fr.ev_const, Fr.up_get, Nat.reduceLT, Nat.reduceEqDiff, ↓reduceIte])) (by simp only [Fr.ev_tmp, Fr.ev_const, Fr.up_get, Nat.reduceLT, Nat.reduceEqDiff, ↓reduceIte, f28, f29, f30, f31, f32, f33, f34, f35, f36, f37, f38]; try rfl) ?_
    refine Fr.l_mv rfl rfl (Fr.w_yes rfl d46 (by decide) (by simp only [Fr.ev_tmp, Fr.ev_const, Fr.up_get, Nat.reduceLT, Nat.reduceEqDiff, ↓reduceIte])) (by simp only [Fr.ev_tmp, Fr.ev_const, Fr.up_get, Nat.reduceLT, Nat.reduceEqDiff, ↓reduceIte, f28, f29, f30, f31, f32, f33, f34, f35, f36, f37, f38]; try rfl) ?_
    refine Fr.l_mv rfl rfl (Fr.w_yes rfl d46 (by decide) (by simp only [Fr.ev_tmp, Fr.ev_const, Fr.up_get, Nat.reduceLT, Nat.reduceEqDiff, ↓reduceIte])) (by simp only [Fr.ev_tmp, Fr.ev_const, Fr.up_get, Nat.reduceLT, Nat.reduceEqDiff, ↓reduceIte, f28, f29, f30, f31, f32, f33, f34, f35, f36, f37, f38]; try rfl) ?_
    refine Fr.l_val rfl (Fr.w_yes rfl d46 (by decide) (by simp only [Fr.ev_tmp, Fr.ev_const, Fr.up_get, Nat.reduceLT, Nat.reduceEqDiff, ↓reduceIte])) (by go_simp; first | done | (with_reducible rfl) | (with_reducible exact ⟨rfl, rfl⟩) | (with_reducible exact ⟨⟨rfl, rfl⟩, rfl⟩)) ?_
    (refine Fr.l_call rfl (Fr.w_yes rfl d46 (by decide) (by simp only [Fr.ev_tmp, Fr.ev_const, Fr.up_get, Nat.reduceLT, Nat.reduceEqDiff, ↓reduceIte])) (by go_simp; first | done | (with_reducible rfl) | (with_reducible exact ⟨rfl, rfl⟩) | (with_reducible exact ⟨⟨rfl, rfl⟩, rfl⟩)) ?_; refine (specSame_any _ _ _).mono ?_; rintro e w2 ⟨rfl, rfl⟩; refine ⟨_, rfl, ?_⟩)
    rw [hsa]
    refine Fr.l_val rfl (Fr.w_yes rfl d46 (by decide) (by simp only [Fr.ev_tmp, Fr.ev_const, Fr.up_get, Nat.reduceLT, Nat.reduceEqDiff, ↓reduceIte])) (by go_simp; first | done | (with_reducible rfl) | (with_reducible exact ⟨rfl, rfl⟩) | (with_reducible exact ⟨⟨rfl, rfl⟩, rfl⟩)) ?_
    refine Fr.l_val rfl (Fr.w_none rfl) (by go_simp; first | done | (with_reducible rfl) | (with_reducible exact ⟨rfl, rfl⟩) | (with_reducible exact ⟨⟨rfl, rfl⟩, rfl⟩)) ?_
    refine Fr.l_nil ?_
    refine Fr.l_cond (t := false) (by simp only [Fr.ev_tmp, Fr.ev_const, Fr.up_get, Nat.reduceLT, Nat.reduceEqDiff, ↓reduceIte]; try rfl) (fun h => absurd h (by decide)) (fun _ => ?_)
    refine wp_skip ?_
    refine HK.out _ _ (BelowC.drewN _ _ hw) ?_
    repeat (refine Fr.Agree.up (by decide) ?_)
    exact Fr.Agree.refl _ _

end Go.Proofs.Ytljigmplmlhdnaa.yBeltsFound

/-! The great law on belts, an element: the walk. (written by wip/gen/belts.py.) -/
namespace Go.Proofs.Ytljigmplmlhdnaa.yBeltsFound
open Go.RowKit
set_option linter.unusedVariables false
set_option linter.unusedSimpArgs false

theorem mul75 {a b c d : Nat} {x : Bool} (h : BeltF a b c d x) : Po (cop .mul a 1061158912) := by
  have k75 : Po 1061158912 ∧ A 1061158912 = 3 / 4 := ⟨⟨F_const (by decide +kernel), by decide +kernel⟩, A_const (m := 3 * 2 ^ 147) (by decide +kernel) (by decide +kernel)⟩
  have h1 := h.a1
  have h2 := A_nn a
  have e100 : (4194304 : Rat) ≤ 2 ^ (100 : Int) := by decide +kernel
  exact (Po.mul h.ha k75.1 (by rw [k75.2]; grind)).1

set_option maxRecDepth 100000 in
set_option maxHeartbeats 16000000 in
theorem walk0 (aa ab : Option Addr) (n cn1 m dn : Nat) (w : World) (h1 : BytesAt w w.heap.size aa n) (h2 : BytesAt w w.heap.size ab m) :
    Calls Try.prog 10 #[.slice aa n cn1, .slice ab m dn] w fun e w' => e = .returned (.bool true) ∧ Below w.heap.size w w' := by
  have H1 := Lib.hid h1
  have H2 := Lib.hid h2
  have hn2 := h1.1
  have hm2 := h2.1
  clear h1 h2
  refine Fr.enter (n := 311) Try.func10 rfl rfl (by simp) ?_
  intro f0 hf0
  have t0 : f0 0 = .slice aa n cn1 := hf0 0 (by simp)
  have t1 : f0 1 = .slice ab m dn := hf0 1 (by simp)
  clear hf0
  have E1 := @Fr.ev_tmp 311
  have E2 := @Fr.ev_const 311
  have E3 := @Fr.up_get
  have E4 := @Fr.ev_func 311
  have E5 := @Fr.ev_global 311
  cases hL : (decide (3000 < (n : Int)) || decide (3000 < (m : Int)))
  · refine wp_seq ?_
    refine wp_region_lit ?_
    refine Fr.l_as rfl rfl (Fr.w_none rfl) (by simp only [Fr.ev_tmp, Fr.ev_const, Fr.up_get, Nat.reduceLT, Nat.reduceEqDiff, ↓reduceIte, t0, t1]; try rfl) ?_
    refine Fr.l_nil ?_
    refine wp_seq ?_
    refine wp_seq ?_
    refine wp_region_lit ?_
    refine Fr.l_mv rfl rfl (Fr.w_none rfl) (by simp only [Fr.ev_tmp, Fr.ev_const, Fr.up_get, Nat.reduceLT, Nat.reduceEqDiff, ↓reduceIte, t0, t1]; try rfl) ?_
    refine Fr.l_mv rfl rfl (Fr.w_none rfl) (by simp only [Fr.ev_tmp, Fr.ev_const, Fr.up_get, Nat.reduceLT, Nat.reduceEqDiff, ↓reduceIte, t0, t1]; try rfl) ?_
    (refine Fr.l_call rfl (Fr.w_none rfl) (by go_simp; first | done | (with_reducible rfl) | (with_reducible exact ⟨rfl, rfl⟩) | (with_reducible exact ⟨⟨rfl, rfl⟩, rfl⟩)) ?_; refine (a2Long_any _ _ _ _ _ _ _ hn2 hm2).mono ?_; rintro e w0 ⟨rfl, rfl⟩; refine ⟨_, rfl, ?_⟩)
    rw [hL]
    refine Fr.l_nil ?_
    refine Fr.l_cond (t := false) (by simp only [Fr.ev_tmp, Fr.ev_const, Fr.up_get, Nat.reduceLT, Nat.reduceEqDiff, ↓reduceIte]; try rfl) (fun h => absurd h (by decide)) (fun _ => ?_)
    refine wp_skip ?_
    clear hL
    refine wp_seq ?_
    refine wp_region_lit ?_
    refine Fr.l_mv rfl rfl (Fr.w_none rfl) (by simp only [Fr.ev_tmp, Fr.ev_const, Fr.up_get, Nat.reduceLT, Nat.reduceEqDiff, ↓reduceIte, t0, t1]; try rfl) ?_
    (refine Fr.l_call rfl (Fr.w_none rfl) (by go_simp; first | done | (with_reducible rfl) | (with_reducible exact ⟨rfl, rfl⟩) | (with_reducible exact ⟨⟨rfl, rfl⟩, rfl⟩)) ?_; refine (a2Belt_any _ _ _ _ H1.out).mono ?_; rintro e w1 ⟨a, b, c, d, x, rfl, hBD, hb1⟩; refine ⟨_, rfl, ?_⟩)
    refine Fr.l_val rfl (Fr.w_none rfl) (by go_simp; first | done | (with_reducible rfl) | (with_reducible exact ⟨rfl, rfl⟩) | (with_reducible exact ⟨⟨rfl, rfl⟩, rfl⟩)) ?_
    refine Fr.l_skip rfl (Fr.w_none rfl) (by go_simp; first | done | (with_reducible rfl) | (with_reducible exact ⟨rfl, rfl⟩) | (with_reducible exact ⟨⟨rfl, rfl⟩, rfl⟩)) ?_
    refine Fr.l_nil ?_
    have hBF := beltF x hBD
    have HW0 := own_lit w1 w1.heap.size 31 (size := 5) 1 #[.float .f32 a, .float .f32 b, .float .f32 c, .float .f32 d, .bool x] (Nat.le_refl _) (by decide) rfl
    have hbW : Below w.heap.size w (w1.alloc (.cells #[.float .f32 a, .float .f32 b, .float .f32 c, .float .f32 d, .bool x] 31)) := hb1.alloc hb1.size _
    obtain ⟨P, hP⟩ : ∃ p, p = w1.heap.size := ⟨_, rfl⟩
    rw [← hP] at HW0
    refine Fr.nameW ?_
    intro W hW
    rw [← hW] at HW0 hbW
    rw [← hP]
    clear hW hP hb1
    have HBW := Lib.hid hbW
    have z0 := own_cell HW0 (j := 0) rfl
    have z1 := own_cell HW0 (j := 1) rfl
    have z2 := own_cell HW0 (j := 2) rfl
    have z3 := own_cell HW0 (j := 3) rfl
    have z4 := own_cell HW0 (j := 4) rfl
    have q0 := BelowC.cell z0 (World.block_lt_of_cell? W _ z0)
    have q1 := BelowC.cell z1 (World.block_lt_of_cell? W _ z1)
    have q2 := BelowC.cell z2 (World.block_lt_of_cell? W _ z2)
    have q3 := BelowC.cell z3 (World.block_lt_of_cell? W _ z3)
    have q4 := BelowC.cell z4 (World.block_lt_of_cell? W _ z4)
    clear HW0 z0 z1 z2 z3 z4 hbW
    have hw0 : BelowC W W := Below.refl _ _
    have hL := hBF.hl
    have hL1 := hBF.hl1
    have CL := Lib.hid (fun w0 => specLen_yes w0 hBF.ok hL.1)
    have hVF := apartV_F hBF hL hL1
    have hUF := forV_F hBF hL hL1
    have CA := Lib.hid (fun w0 => implApart_yes (a := a) (b := b) (c := c) (d := d) (x := x) w0 hL.1.2 hVF)
    have CB := Lib.hid (fun w0 => specApart_yes (a := a) (b := b) (c := c) (d := d) (x := x) w0 hL.1.2 hVF)
    have CC := Lib.hid (fun w0 => implRadius_yes (a := a) (b := b) (c := c) (d := d) (x := x) w0 hL.1.2 hBF.ok hUF)
    have CD := Lib.hid (fun w0 => specRadius_yes (a := a) (b := b) (c := c) (d := d) (x := x) w0 hL.1.2 hBF.ok hUF)
    obtain ⟨hKA, hFA⟩ := apart_found hBF hL hL1
    obtain ⟨hKR, hFR⟩ := radius_found hBF hL hL1
    have HBF := Lib.hid hBF
    have HFA := Lib.hid hFA
    have HFR := Lib.hid hFR
    have HKA := Lib.hid hKA
    have HKR := Lib.hid hKR
    have HL := Lib.hid hL
    clear hFA hFR hKA hKR hBF hL hL1 hVF hUF
    obtain ⟨L, hLe⟩ : ∃ y, y = lengthC a b c x := ⟨_, rfl⟩
    rw [← hLe] at CL CA CB CC CD HFA HFR HKA HKR HL
    obtain ⟨V, hVe⟩ : ∃ y, y = apartV a b d x L := ⟨_, rfl⟩
    obtain ⟨K, hKe⟩ : ∃ y, y = apartK a b d x L := ⟨_, rfl⟩
    obtain ⟨U, hUe⟩ : ∃ y, y = forV c a x L := ⟨_, rfl⟩
    obtain ⟨J, hJe⟩ : ∃ y, y = forK c a x L := ⟨_, rfl⟩
    rw [← hVe, ← hKe] at CA CB HFA
    rw [← hKe] at HKA
    rw [← hUe, ← hJe] at CC CD HFR
    rw [← hJe] at HKR
    have HLe := Lib.hid hLe
    clear hLe hVe hKe hUe hJe
    refine Fr.name' ?_
    intro f1 hf1
    have f1_1 : f1 1 = .slice ab m dn := by rw [hf1]; simp only [Fr.up_get, Nat.reduceEqDiff, ↓reduceIte, t1]
    have f1_5 : f1 5 = .pointer (some ⟨P, 0, none⟩) := by rw [hf1]; simp only [Fr.up_get, Nat.reduceEqDiff, ↓reduceIte]
    clear hf1 t0 t1
    refine wp_seq ?_
    refine wp_region_lit ?_
    refine Fr.l_val rfl (Fr.w_none rfl) (by go_simp; first | done | (with_reducible rfl) | (with_reducible exact ⟨rfl, rfl⟩) | (with_reducible exact ⟨⟨rfl, rfl⟩, rfl⟩)) ?_
    (refine Fr.l_call rfl (Fr.w_none rfl) (by go_simp; first | done | (with_reducible rfl) | (with_reducible exact ⟨rfl, rfl⟩) | (with_reducible exact ⟨⟨rfl, rfl⟩, rfl⟩)) ?_; refine (CL.out _).mono ?_; rintro e w2 ⟨rfl, hc2⟩; refine ⟨_, rfl, ?_⟩)
    refine Fr.l_mv rfl rfl (Fr.w_none rfl) (by simp only [Fr.ev_tmp, Fr.ev_const, Fr.up_get, Nat.reduceLT, Nat.reduceEqDiff, ↓reduceIte, f1_5]; try rfl) ?_
    refine Fr.l_val rfl (Fr.w_none rfl) (by go_simp; first | done | (with_reducible rfl) | (with_reducible exact ⟨rfl, rfl⟩) | (with_reducible exact ⟨⟨rfl, rfl⟩, rfl⟩)) ?_
    refine Fr.l_val rfl (Fr.w_none rfl) (by go_simp; first | done | (with_reducible rfl) | (with_reducible exact ⟨rfl, rfl⟩) | (with_reducible exact ⟨⟨rfl, rfl⟩, rfl⟩)) ?_
    refine Fr.l_as rfl rfl (Fr.w_none rfl) (by simp only [Fr.ev_tmp, Fr.ev_const, Fr.up_get, Nat.reduceLT, Nat.reduceEqDiff, ↓reduceIte, f1_5]; try rfl) ?_
    refine Fr.l_as rfl rfl (Fr.w_none rfl) (by simp only [Fr.ev_tmp, Fr.ev_const, Fr.up_get, Nat.reduceLT, Nat.reduceEqDiff, ↓reduceIte, f1_5]; try rfl) ?_
    refine Fr.l_nil ?_
    have hw2 : BelowC W w2 := BelowC.call hw0 hc2
    refine wp_seq ?_
    refine wp_region_lit ?_
    refine Fr.l_val rfl (Fr.w_none rfl) (by go_simp; first | done | (with_reducible rfl) | (with_reducible exact ⟨rfl, rfl⟩) | (with_reducible exact ⟨⟨rfl, rfl⟩, rfl⟩)) ?_
    refine Fr.l_mv rfl rfl (Fr.w_none rfl) (by simp only [Fr.ev_tmp, Fr.ev_const, Fr.up_get, Nat.reduceLT, Nat.reduceEqDiff, ↓reduceIte, f1_5]; try rfl) ?_
    (refine Fr.l_call rfl (Fr.w_none rfl) (by go_simp; first | done | (with_reducible rfl) | (with_reducible exact ⟨rfl, rfl⟩) | (with_reducible exact ⟨⟨rfl, rfl⟩, rfl⟩)) ?_; refine (CA.out _).mono ?_; rintro e w3 ⟨rfl, hc3⟩; refine ⟨_, rfl, ?_⟩)
    refine Fr.l_mv rfl rfl (Fr.w_none rfl) (by simp only [Fr.ev_tmp, Fr.ev_const, Fr.up_get, Nat.reduceLT, Nat.reduceEqDiff, ↓reduceIte, f1_5]; try rfl) ?_
    refine Fr.l_val rfl (Fr.w_none rfl) (by go_simp; first | done | (with_reducible rfl) | (with_reducible exact ⟨rfl, rfl⟩) | (with_reducible exact ⟨⟨rfl, rfl⟩, rfl⟩)) ?_
    refine Fr.l_val rfl (Fr.w_none rfl) (by go_simp; first | done | (with_reducible rfl) | (with_reducible exact ⟨rfl, rfl⟩) | (with_reducible exact ⟨⟨rfl, rfl⟩, rfl⟩)) ?_
    refine Fr.l_as rfl rfl (Fr.w_none rfl) (by simp only [Fr.ev_tmp, Fr.ev_const, Fr.up_get, Nat.reduceLT, Nat.reduceEqDiff, ↓reduceIte, f1_5]; try rfl) ?_
    refine Fr.l_as rfl rfl (Fr.w_none rfl) (by simp only [Fr.ev_tmp, Fr.ev_const, Fr.up_get, Nat.reduceLT, Nat.reduceEqDiff, ↓reduceIte, f1_5]; try rfl) ?_
    refine Fr.l_nil ?_
    have hw3 : BelowC W w3 := BelowC.call hw2 hc3
    refine wp_seq ?_
    refine wp_region_lit ?_
    refine Fr.l_val rfl (Fr.w_none rfl) (by go_simp; first | done | (with_reducible rfl) | (with_reducible exact ⟨rfl, rfl⟩) | (with_reducible exact ⟨⟨rfl, rfl⟩, rfl⟩)) ?_
    refine Fr.l_mv rfl rfl (Fr.w_none rfl) (by simp only [Fr.ev_tmp, Fr.ev_const, Fr.up_get, Nat.reduceLT, Nat.reduceEqDiff, ↓reduceIte, f1_5]; try rfl) ?_
    (refine Fr.l_call rfl (Fr.w_none rfl) (by go_simp; first | done | (with_reducible rfl) | (with_reducible exact ⟨rfl, rfl⟩) | (with_reducible exact ⟨⟨rfl, rfl⟩, rfl⟩)) ?_; refine (CB.out _).mono ?_; rintro e w4 ⟨rfl, hc4⟩; refine ⟨_, rfl, ?_⟩)
    refine Fr.l_mv rfl rfl (Fr.w_none rfl) (by simp only [Fr.ev_tmp, Fr.ev_const, Fr.up_get, Nat.reduceLT, Nat.reduceEqDiff, ↓reduceIte, f1_5]; try rfl) ?_
    refine Fr.l_val rfl (Fr.w_none rfl) (by go_simp; first | done | (with_reducible rfl) | (with_reducible exact ⟨rfl, rfl⟩) | (with_reducible exact ⟨⟨rfl, rfl⟩, rfl⟩)) ?_
    refine Fr.l_val rfl (Fr.w_none rfl) (by go_simp; first | done | (with_reducible rfl) | (with_reducible exact ⟨rfl, rfl⟩) | (with_reducible exact ⟨⟨rfl, rfl⟩, rfl⟩)) ?_
    refine Fr.l_as rfl rfl (Fr.w_none rfl) (by simp only [Fr.ev_tmp, Fr.ev_const, Fr.up_get, Nat.reduceLT, Nat.reduceEqDiff, ↓reduceIte, f1_5]; try rfl) ?_
    refine Fr.l_as rfl rfl (Fr.w_none rfl) (by simp only [Fr.ev_tmp, Fr.ev_const, Fr.up_get, Nat.reduceLT, Nat.reduceEqDiff, ↓reduceIte, f1_5]; try rfl) ?_
    refine Fr.l_nil ?_
    have hw4 : BelowC W w4 := BelowC.call hw3 hc4
    refine Fr.name' ?_
    intro f2 hf2
    have f2_1 : f2 1 = .slice ab m dn := by rw [hf2]; simp only [Fr.up_get, Nat.reduceEqDiff, ↓reduceIte, f1_1]
    have f2_5 : f2 5 = .pointer (some ⟨P, 0, none⟩) := by rw [hf2]; simp only [Fr.up_get, Nat.reduceEqDiff, ↓reduceIte, f1_5]
    have f2_6 : f2 6 = .float .f32 L := by rw [hf2]; simp only [Fr.up_get, Nat.reduceEqDiff, ↓reduceIte]
    have f2_7 : f2 7 = .int .i64 0 := by rw [hf2]; simp only [Fr.up_get, Nat.reduceEqDiff, ↓reduceIte]
    have f2_8 : f2 8 = .float .f32 V := by rw [hf2]; simp only [Fr.up_get, Nat.reduceEqDiff, ↓reduceIte]
    have f2_9 : f2 9 = .int .i64 K := by rw [hf2]; simp only [Fr.up_get, Nat.reduceEqDiff, ↓reduceIte]
    have f2_10 : f2 10 = .float .f32 V := by rw [hf2]; simp only [Fr.up_get, Nat.reduceEqDiff, ↓reduceIte]
    have f2_11 : f2 11 = .int .i64 K := by rw [hf2]; simp only [Fr.up_get, Nat.reduceEqDiff, ↓reduceIte]
    clear hf2
    refine Fr.wp_code (c' := (Fr.fs (Fr.sn (Fr.sn (Fr.sn (Fr.sn (Fr.sn (Fr.sn (B10)))))))).seq (Fr.sn (Fr.sn (Fr.sn (Fr.sn (Fr.sn (Fr.sn (Fr.sn (B10))))))))) (by kernel_rfl) ?_
    refine b7 f2_7 f2_8 f2_9 f2_10 f2_11 HKA.out hw4 ?_
    intro w5 g5 hw5 hA5
    refine Fr.wp_code (c' := (Fr.fs (Fr.sn (Fr.sn (Fr.sn (Fr.sn (Fr.sn (Fr.sn (Fr.sn (B10))))))))).seq (Fr.sn (Fr.sn (Fr.sn (Fr.sn (Fr.sn (Fr.sn (Fr.sn (Fr.sn (B10)))))))))) (by kernel_rfl) ?_
    refine b9 (a := a) (b := b) (c := c) (d := d) (x := x) (P := P) ((hA5 5 (by decide)).trans f2_5) ((hA5 6 (by decide)).trans f2_6) ((hA5 9 (by decide)).trans f2_9) ((hA5 10 (by decide)).trans f2_10) q0 q1 q2 q3 q4 HKA.out (fun h => (HFA.out h).2) hw5 ?_
    intro w6 g6 hw6 hK6
    have f6_1 := (hK6 1 (by decide) (by decide)).trans ((hA5 1 (by decide)).trans f2_1)
    have f6_5 := (hK6 5 (by decide) (by decide)).trans ((hA5 5 (by decide)).trans f2_5)
    have f6_6 := (hK6 6 (by decide) (by decide)).trans ((hA5 6 (by decide)).trans f2_6)
    clear f2_1 f2_5 f2_6 f2_7 f2_8 f2_9 f2_10 f2_11 hA5 hK6 hc2 hc3 hc4 hw2 hw3 hw4 hw5
    conv => arg 2; whnf
    refine wp_seq ?_
    refine wp_region_lit ?_
    refine Fr.l_val rfl (Fr.w_none rfl) (by go_simp; first | done | (with_reducible rfl) | (with_reducible exact ⟨rfl, rfl⟩) | (with_reducible exact ⟨⟨rfl, rfl⟩, rfl⟩)) ?_
    refine Fr.l_val rfl (Fr.w_none rfl) (by go_simp; first | done | (with_reducible rfl) | (with_reducible exact ⟨rfl, rfl⟩) | (with_reducible exact ⟨⟨rfl, rfl⟩, rfl⟩)) ?_
    refine Fr.l_val rfl (Fr.w_none rfl) (by go_simp; first | done | (with_reducible rfl) | (with_reducible exact ⟨rfl, rfl⟩) | (with_reducible exact ⟨⟨rfl, rfl⟩, rfl⟩)) ?_
    refine Fr.l_mv rfl rfl (Fr.w_none rfl) (by simp only [Fr.ev_tmp, Fr.ev_const, Fr.up_get, Nat.reduceLT, Nat.reduceEqDiff, ↓reduceIte, f6_5, f6_6]; try rfl) ?_
    (refine Fr.l_call rfl (Fr.w_none rfl) (by go_simp; first | done | (with_reducible rfl) | (with_reducible exact ⟨rfl, rfl⟩) | (with_reducible exact ⟨⟨rfl, rfl⟩, rfl⟩)) ?_; refine (CC.out _).mono ?_; rintro e w7 ⟨rfl, hc7⟩; refine ⟨_, rfl, ?_⟩)
    refine Fr.l_mv rfl rfl (Fr.w_none rfl) (by simp only [Fr.ev_tmp, Fr.ev_const, Fr.up_get, Nat.reduceLT, Nat.reduceEqDiff, ↓reduceIte, f6_5, f6_6]; try rfl) ?_
    refine Fr.l_val rfl (Fr.w_none rfl) (by go_simp; first | done | (with_reducible rfl) | (with_reducible exact ⟨rfl, rfl⟩) | (with_reducible exact ⟨⟨rfl, rfl⟩, rfl⟩)) ?_
    refine Fr.l_val rfl (Fr.w_none rfl) (by go_simp; first | done | (with_reducible rfl) | (with_reducible exact ⟨rfl, rfl⟩) | (with_reducible exact ⟨⟨rfl, rfl⟩, rfl⟩)) ?_
    refine Fr.l_as rfl rfl (Fr.w_none rfl) (by simp only [Fr.ev_tmp, Fr.ev_const, Fr.up_get, Nat.reduceLT, Nat.reduceEqDiff, ↓reduceIte, f6_5, f6_6]; try rfl) ?_
    refine Fr.l_as rfl rfl (Fr.w_none rfl) (by simp only [Fr.ev_tmp, Fr.ev_const, Fr.up_get, Nat.reduceLT, Nat.reduceEqDiff, ↓reduceIte, f6_5, f6_6]; try rfl) ?_
    refine Fr.l_nil ?_
    have hw7 : BelowC W w7 := BelowC.call hw6 hc7
    refine wp_seq ?_
    refine wp_region_lit ?_
    refine Fr.l_val rfl (Fr.w_none rfl) (by go_simp; first | done | (with_reducible rfl) | (with_reducible exact ⟨rfl, rfl⟩) | (with_reducible exact ⟨⟨rfl, rfl⟩, rfl⟩)) ?_
    refine Fr.l_val rfl (Fr.w_none rfl) (by go_simp; first | done | (with_reducible rfl) | (with_reducible exact ⟨rfl, rfl⟩) | (with_reducible exact ⟨⟨rfl, rfl⟩, rfl⟩)) ?_
    refine Fr.l_val rfl (Fr.w_none rfl) (by go_simp; first | done | (with_reducible rfl) | (with_reducible exact ⟨rfl, rfl⟩) | (with_reducible exact ⟨⟨rfl, rfl⟩, rfl⟩)) ?_
    refine Fr.l_mv rfl rfl (Fr.w_none rfl) (by simp only [Fr.ev_tmp, Fr.ev_const, Fr.up_get, Nat.reduceLT, Nat.reduceEqDiff, ↓reduceIte, f6_5, f6_6]; try rfl) ?_
    (refine Fr.l_call rfl (Fr.w_none rfl) (by go_simp; first | done | (with_reducible rfl) | (with_reducible exact ⟨rfl, rfl⟩) | (with_reducible exact ⟨⟨rfl, rfl⟩, rfl⟩)) ?_; refine (CD.out _).mono ?_; rintro e w8 ⟨rfl, hc8⟩; refine ⟨_, rfl, ?_⟩)
    refine Fr.l_mv rfl rfl (Fr.w_none rfl) (by simp only [Fr.ev_tmp, Fr.ev_const, Fr.up_get, Nat.reduceLT, Nat.reduceEqDiff, ↓reduceIte, f6_5, f6_6]; try rfl) ?_
    refine Fr.l_val rfl (Fr.w_none rfl) (by go_simp; first | done | (with_reducible rfl) | (with_reducible exact ⟨rfl, rfl⟩) | (with_reducible exact ⟨⟨rfl, rfl⟩, rfl⟩)) ?_
    refine Fr.l_val rfl (Fr.w_none rfl) (by go_simp; first | done | (with_reducible rfl) | (with_reducible exact ⟨rfl, rfl⟩) | (with_reducible exact ⟨⟨rfl, rfl⟩, rfl⟩)) ?_
    refine Fr.l_as rfl rfl (Fr.w_none rfl) (by simp only [Fr.ev_tmp, Fr.ev_const, Fr.up_get, Nat.reduceLT, Nat.reduceEqDiff, ↓reduceIte, f6_5, f6_6]; try rfl) ?_
    refine Fr.l_as rfl rfl (Fr.w_none rfl) (by simp only [Fr.ev_tmp, Fr.ev_const, Fr.up_get, Nat.reduceLT, Nat.reduceEqDiff, ↓reduceIte, f6_5, f6_6]; try rfl) ?_
    refine Fr.l_nil ?_
    have hw8 : BelowC W w8 := BelowC.call hw7 hc8
    refine Fr.name' ?_
    intro f8 hf8
    have f8_1 : f8 1 = .slice ab m dn := by rw [hf8]; simp only [Fr.up_get, Nat.reduceEqDiff, ↓reduceIte, f6_1]
    have f8_5 : f8 5 = .pointer (some ⟨P, 0, none⟩) := by rw [hf8]; simp only [Fr.up_get, Nat.reduceEqDiff, ↓reduceIte, f6_5]
    have f8_6 : f8 6 = .float .f32 L := by rw [hf8]; simp only [Fr.up_get, Nat.reduceEqDiff, ↓reduceIte, f6_6]
    have f8_15 : f8 15 = .float .f32 U := by rw [hf8]; simp only [Fr.up_get, Nat.reduceEqDiff, ↓reduceIte]
    have f8_16 : f8 16 = .int .i64 J := by rw [hf8]; simp only [Fr.up_get, Nat.reduceEqDiff, ↓reduceIte]
    have f8_17 : f8 17 = .float .f32 U := by rw [hf8]; simp only [Fr.up_get, Nat.reduceEqDiff, ↓reduceIte]
    have f8_18 : f8 18 = .int .i64 J := by rw [hf8]; simp only [Fr.up_get, Nat.reduceEqDiff, ↓reduceIte]
    clear hf8
    refine Fr.wp_code (c' := (Fr.fs (Fr.sn (Fr.sn (Fr.sn (Fr.sn (Fr.sn (Fr.sn (Fr.sn (Fr.sn (Fr.sn (Fr.sn (B10)))))))))))).seq (Fr.sn (Fr.sn (Fr.sn (Fr.sn (Fr.sn (Fr.sn (Fr.sn (Fr.sn (Fr.sn (Fr.sn (Fr.sn (B10))))))))))))) (by kernel_rfl) ?_
    refine b17 f8_15 f8_16 f8_17 f8_18 HKR.out hw8 ?_
    intro w9 g9 hw9 hA9
    refine Fr.wp_code (c' := (Fr.fs (Fr.sn (Fr.sn (Fr.sn (Fr.sn (Fr.sn (Fr.sn (Fr.sn (Fr.sn (Fr.sn (Fr.sn (Fr.sn (B10))))))))))))).seq (Fr.sn (Fr.sn (Fr.sn (Fr.sn (Fr.sn (Fr.sn (Fr.sn (Fr.sn (Fr.sn (Fr.sn (Fr.sn (Fr.sn (B10)))))))))))))) (by kernel_rfl) ?_
    refine b19 (a := a) (b := b) (c := c) (d := d) (x := x) (P := P) ((hA9 5 (by decide)).trans f8_5) ((hA9 6 (by decide)).trans f8_6) ((hA9 16 (by decide)).trans f8_16) ((hA9 17 (by decide)).trans f8_17) q0 q1 q2 q3 q4 HKR.out (fun h => (HFR.out h).2) hw9 ?_
    intro w10 g10 hw10 hK10
    have f10_1 := (hK10 1 (by decide) (by decide)).trans ((hA9 1 (by decide)).trans f8_1)
    have f10_5 := (hK10 5 (by decide) (by decide)).trans ((hA9 5 (by decide)).trans f8_5)
    clear f6_1 f6_5 f6_6 f8_1 f8_5 f8_6 f8_15 f8_16 f8_17 f8_18 hA9 hK10 hc7 hc8 hw6 hw7 hw8 hw9
    have h75 := mul75 HBF.out
    have hfv := fval_F' h75.1
    have hfd := fdn_F' h75.1
    have H75 := Lib.hid h75
    clear h75
    conv => arg 2; whnf
    refine wp_seq ?_
    refine wp_region_lit ?_
    refine Fr.l_val rfl (Fr.w_none rfl) (by go_simp; first | done | (with_reducible rfl) | (with_reducible exact ⟨rfl, rfl⟩) | (with_reducible exact ⟨⟨rfl, rfl⟩, rfl⟩)) ?_
    refine Fr.l_val rfl (Fr.w_none rfl) (by go_simp; first | done | (with_reducible rfl) | (with_reducible exact ⟨rfl, rfl⟩) | (with_reducible exact ⟨⟨rfl, rfl⟩, rfl⟩)) ?_
    refine Fr.l_val rfl (Fr.w_none rfl) (by go_simp; first | done | (with_reducible rfl) | (with_reducible exact ⟨rfl, rfl⟩) | (with_reducible exact ⟨⟨rfl, rfl⟩, rfl⟩)) ?_
    refine Fr.l_val rfl (Fr.w_none rfl) (by go_simp; first | done | (with_reducible rfl) | (with_reducible exact ⟨rfl, rfl⟩) | (with_reducible exact ⟨⟨rfl, rfl⟩, rfl⟩)) ?_
    refine Fr.l_val rfl (Fr.w_none rfl) (by go_simp; first | done | (with_reducible rfl) | (with_reducible exact ⟨rfl, rfl⟩) | (with_reducible exact ⟨⟨rfl, rfl⟩, rfl⟩)) ?_
    refine Fr.l_val rfl (Fr.w_none rfl) (by go_simp; first | done | (with_reducible rfl) | (with_reducible exact ⟨rfl, rfl⟩) | (with_reducible exact ⟨⟨rfl, rfl⟩, rfl⟩)) ?_
    refine Fr.l_as rfl rfl (Fr.w_none rfl) (by simp only [Fr.ev_tmp, Fr.ev_const, Fr.up_get, Nat.reduceLT, Nat.reduceEqDiff, ↓reduceIte, f10_1, f10_5]; try rfl) ?_
    refine Fr.l_nil ?_
    have hcn := own_lit w10 w10.heap.size 22 (size := 1) 2 #[.float .f32 a, .float .f32 (cop .mul a 1061158912)] (Nat.le_refl _) (by decide) rfl
    have hw11 : BelowC W (w10.alloc (.cells #[.float .f32 a, .float .f32 (cop .mul a 1061158912)] 22)) := Below.alloc hw10 hw10.size _
    have hfs := fs_of_own (xs := [a, cop .mul a 1061158912]) hcn
    obtain ⟨G, hG⟩ : ∃ p, p = w10.heap.size := ⟨_, rfl⟩
    refine Fr.nameW ?_
    intro w11 hw11e
    rw [← hw11e] at hw11 hfs
    rw [← hG] at hfs ⊢
    clear hw11e hG hcn
    have HFs := Lib.hid hfs
    clear hfs
    refine wp_seq ?_
    refine wp_region_lit ?_
    refine Fr.l_val rfl (Fr.w_none rfl) (by go_simp; first | done | (with_reducible rfl) | (with_reducible exact ⟨rfl, rfl⟩) | (with_reducible exact ⟨⟨rfl, rfl⟩, rfl⟩)) ?_
    refine Fr.l_mv rfl rfl (Fr.w_none rfl) (by simp only [Fr.ev_tmp, Fr.ev_const, Fr.up_get, Nat.reduceLT, Nat.reduceEqDiff, ↓reduceIte, f10_1, f10_5]; try rfl) ?_
    (refine Fr.l_call rfl (Fr.w_none rfl) (by go_simp; first | done | (with_reducible rfl) | (with_reducible exact ⟨rfl, rfl⟩) | (with_reducible exact ⟨⟨rfl, rfl⟩, rfl⟩)) ?_; refine (implCone_any a b c d x [a, cop .mul a 1061158912] _ _ HBF.out.ha.1.2 HBF.out.hb.1.2 HBF.out.hc.1.2 HBF.out.hd.1.2 HFs.out).mono ?_; rintro e w12 ⟨u1, xs1, rfl, ho1, hS1, hz1, hc12⟩; refine ⟨_, rfl, ?_⟩)
    refine Fr.l_mv rfl rfl (Fr.w_none rfl) (by simp only [Fr.ev_tmp, Fr.ev_const, Fr.up_get, Nat.reduceLT, Nat.reduceEqDiff, ↓reduceIte, f10_1, f10_5]; try rfl) ?_
    refine Fr.l_val rfl (Fr.w_none rfl) (by go_simp; first | done | (with_reducible rfl) | (with_reducible exact ⟨rfl, rfl⟩) | (with_reducible exact ⟨⟨rfl, rfl⟩, rfl⟩)) ?_
    refine Fr.l_val rfl (Fr.w_none rfl) (by go_simp; first | done | (with_reducible rfl) | (with_reducible exact ⟨rfl, rfl⟩) | (with_reducible exact ⟨⟨rfl, rfl⟩, rfl⟩)) ?_
    refine Fr.l_as rfl rfl (Fr.w_none rfl) (by simp only [Fr.ev_tmp, Fr.ev_const, Fr.up_get, Nat.reduceLT, Nat.reduceEqDiff, ↓reduceIte, f10_1, f10_5]; try rfl) ?_
    refine Fr.l_as rfl rfl (Fr.w_none rfl) (by simp only [Fr.ev_tmp, Fr.ev_const, Fr.up_get, Nat.reduceLT, Nat.reduceEqDiff, ↓reduceIte, f10_1, f10_5]; try rfl) ?_
    refine Fr.l_nil ?_
    have hw12 : BelowC W w12 := BelowC.call hw11 hc12
    refine wp_seq ?_
    refine wp_region_lit ?_
    refine Fr.l_val rfl (Fr.w_none rfl) (by go_simp; first | done | (with_reducible rfl) | (with_reducible exact ⟨rfl, rfl⟩) | (with_reducible exact ⟨⟨rfl, rfl⟩, rfl⟩)) ?_
    refine Fr.l_mv rfl rfl (Fr.w_none rfl) (by simp only [Fr.ev_tmp, Fr.ev_const, Fr.up_get, Nat.reduceLT, Nat.reduceEqDiff, ↓reduceIte, f10_1, f10_5]; try rfl) ?_
    (refine Fr.l_call rfl (Fr.w_none rfl) (by go_simp; first | done | (with_reducible rfl) | (with_reducible exact ⟨rfl, rfl⟩) | (with_reducible exact ⟨⟨rfl, rfl⟩, rfl⟩)) ?_; refine (specCone_any a b c d x [a, cop .mul a 1061158912] _ _ HBF.out.ha.1.2 HBF.out.hb.1.2 HBF.out.hc.1.2 HBF.out.hd.1.2 (HFs.out.below hc12)).mono ?_; rintro e w13 ⟨u2, xs2, rfl, ho2, hS2, hz2, hc13⟩; refine ⟨_, rfl, ?_⟩)
    refine Fr.l_mv rfl rfl (Fr.w_none rfl) (by simp only [Fr.ev_tmp, Fr.ev_const, Fr.up_get, Nat.reduceLT, Nat.reduceEqDiff, ↓reduceIte, f10_1, f10_5]; try rfl) ?_
    refine Fr.l_val rfl (Fr.w_none rfl) (by go_simp; first | done | (with_reducible rfl) | (with_reducible exact ⟨rfl, rfl⟩) | (with_reducible exact ⟨⟨rfl, rfl⟩, rfl⟩)) ?_
    refine Fr.l_val rfl (Fr.w_none rfl) (by go_simp; first | done | (with_reducible rfl) | (with_reducible exact ⟨rfl, rfl⟩) | (with_reducible exact ⟨⟨rfl, rfl⟩, rfl⟩)) ?_
    refine Fr.l_as rfl rfl (Fr.w_none rfl) (by simp only [Fr.ev_tmp, Fr.ev_const, Fr.up_get, Nat.reduceLT, Nat.reduceEqDiff, ↓reduceIte, f10_1, f10_5]; try rfl) ?_
    refine Fr.l_as rfl rfl (Fr.w_none rfl) (by simp only [Fr.ev_tmp, Fr.ev_const, Fr.up_get, Nat.reduceLT, Nat.reduceEqDiff, ↓reduceIte, f10_1, f10_5]; try rfl) ?_
    refine Fr.l_nil ?_
    have hw13 : BelowC W w13 := BelowC.call hw12 hc13
    refine Fr.name' ?_
    intro f13 hf13
    have f13_1 : f13 1 = .slice ab m dn := by rw [hf13]; simp only [Fr.up_get, Nat.reduceEqDiff, ↓reduceIte, f10_1]
    have f13_5 : f13 5 = .pointer (some ⟨P, 0, none⟩) := by rw [hf13]; simp only [Fr.up_get, Nat.reduceEqDiff, ↓reduceIte, f10_5]
    have f13_23 : f13 23 = u1 := by rw [hf13]; simp only [Fr.up_get, Nat.reduceEqDiff, ↓reduceIte]
    have f13_24 : f13 24 = .int .i64 (coneK a b c d x [a, cop .mul a 1061158912]) := by rw [hf13]; simp only [Fr.up_get, Nat.reduceEqDiff, ↓reduceIte]
    have f13_25 : f13 25 = u2 := by rw [hf13]; simp only [Fr.up_get, Nat.reduceEqDiff, ↓reduceIte]
    have f13_26 : f13 26 = .int .i64 (coneK a b c d x [a, cop .mul a 1061158912]) := by rw [hf13]; simp only [Fr.up_get, Nat.reduceEqDiff, ↓reduceIte]
    clear hf13
    have fs1 := (fs_of_own ho1).below hc13
    have fs2 := fs_of_own ho2
    have hS12 := hS1.trans hS2.symm
    have hlc : coneK a b c d x [a, cop .mul a 1061158912] = 0 → xs2.length = 2 := fun h => by
      rw [hS2.1]
      unfold coneR
      rw [if_pos h]
      rfl
    refine Fr.wp_code (c' := (Fr.fs (Fr.sn (Fr.sn (Fr.sn (Fr.sn (Fr.sn (Fr.sn (Fr.sn (Fr.sn (Fr.sn (Fr.sn (Fr.sn (Fr.sn (Fr.sn (Fr.sn (Fr.sn (B10))))))))))))))))).seq (Fr.sn (Fr.sn (Fr.sn (Fr.sn (Fr.sn (Fr.sn (Fr.sn (Fr.sn (Fr.sn (Fr.sn (Fr.sn (Fr.sn (Fr.sn (Fr.sn (Fr.sn (Fr.sn (B10)))))))))))))))))) (by kernel_rfl) ?_
    refine b28 f13_23 f13_24 f13_25 f13_26 fs1 fs2 hS12 hlc hw13 ?_
    intro w14 g14 hw14 hA14
    refine Fr.wp_code (c' := (Fr.fs (Fr.sn (Fr.sn (Fr.sn (Fr.sn (Fr.sn (Fr.sn (Fr.sn (Fr.sn (Fr.sn (Fr.sn (Fr.sn (Fr.sn (Fr.sn (Fr.sn (Fr.sn (Fr.sn (B10)))))))))))))))))).seq (Fr.sn (Fr.sn (Fr.sn (Fr.sn (Fr.sn (Fr.sn (Fr.sn (Fr.sn (Fr.sn (Fr.sn (Fr.sn (Fr.sn (Fr.sn (Fr.sn (Fr.sn (Fr.sn (Fr.sn (B10))))))))))))))))))) (by kernel_rfl) ?_
    refine b30 (a := a) (b := b) (c := c) (d := d) (x := x) (P := P) ((hA14 1 (by decide)).trans f13_1) ((hA14 5 (by decide)).trans f13_5) hBD (bytes_go H2.out HBW.out) q0 q1 q2 q3 q4 hw14 ?_
    rintro w15 g15 ⟨a2, b2, c2, d2, x2⟩ gl cap hw15 l27 hBD2 hBs
    clear f13_1 f13_5 f13_23 f13_24 f13_25 f13_26 f10_1 f10_5 f1_1 f1_5 fs1 fs2 hS12 hlc ho1 ho2 hS1 hS2 hz1 hz2 hA14 hw10 hw11 hw12 hw13 hw14 hc12 hc13 q0 q1 q2 q3 q4 hfv hfd
    have hBF2 := beltF x2 hBD2
    have HBF2 := Lib.hid hBF2
    have HBs := Lib.hid hBs
    have hok1 : okB5 (a, b, c, d, x) = true := HBF.out.ok
    have hok2 : okB5 (a2, b2, c2, d2, x2) = true := hBF2.ok
    obtain ⟨t1, t2⟩ := through_two hok1 hok2
    obtain ⟨l1, l2, l3⟩ := long_two hok1 hok2
    have hlp : lenB5 (a, b, c, d, x) = L := HLe.out.symm
    obtain ⟨L2, hL2e⟩ : ∃ y, y = lengthC a2 b2 c2 x2 := ⟨_, rfl⟩
    have hlq : lenB5 (a2, b2, c2, d2, x2) = L2 := hL2e.symm
    rw [hlp, hlq] at l2 l3
    have CT := Lib.hid (fun (w0 : World) (v : Value) (h : Bs w0 v [(a, b, c, d, x), (a2, b2, c2, d2, x2)]) => by have := implThrough_any _ v 1077936128 (by decide) w0 h; rw [t1, t2] at this; exact this)
    have CS := Lib.hid (fun (w0 : World) (v : Value) (h : Bs w0 v [(a, b, c, d, x), (a2, b2, c2, d2, x2)]) => by have := specThrough_any _ v 1077936128 (by decide) w0 h; rw [t1, t2] at this; exact this)
    have CG := Lib.hid (fun (w0 : World) (v : Value) (h : Bs w0 v [(a, b, c, d, x), (a2, b2, c2, d2, x2)]) => by have := implLongest_any _ v w0 h; rw [l1, l2, l3] at this; exact this)
    have CL2 := Lib.hid (fun w0 => specLen_yes (a := a2) (b := b2) (c := c2) (d := d2) (x := x2) w0 hBF2.ok hBF2.hl.1)
    have HL2 := Lib.hid hBF2.hl
    rw [← hL2e] at CL2 HL2
    have CO := Lib.hid (fun w0 => speedOut_yes (a := a) (b := b) (c := c) (d := d) (x := x) w0 HBF.out.ok)
    clear t1 t2 l1 l2 l3 hlp hlq hL2e hBF2 hok1 hok2
    obtain ⟨av, cp, hav, _, _, hbs⟩ := id hBs
    cases hav
    obtain ⟨_, _, hbg, _, hat⟩ := hbs (by simp)
    cases hbg
    obtain ⟨y0, y1, y2, y3, y4⟩ := hat 0 _ rfl
    obtain ⟨s0, s1, s2, s3, s4⟩ := hat 1 _ rfl
    simp only [Nat.zero_mul, Nat.one_mul, Nat.zero_add, Nat.reduceAdd] at y0 y1 y2 y3 y4 s0 s1 s2 s3 s4
    have Qy0 := BelowC.cell y0 (World.block_lt_of_cell? w15 _ y0)
    have Qy1 := BelowC.cell y1 (World.block_lt_of_cell? w15 _ y1)
    have Qy2 := BelowC.cell y2 (World.block_lt_of_cell? w15 _ y2)
    have Qy3 := BelowC.cell y3 (World.block_lt_of_cell? w15 _ y3)
    have Qy4 := BelowC.cell y4 (World.block_lt_of_cell? w15 _ y4)
    have Qs0 := BelowC.cell s0 (World.block_lt_of_cell? w15 _ s0)
    have Qs1 := BelowC.cell s1 (World.block_lt_of_cell? w15 _ s1)
    have Qs2 := BelowC.cell s2 (World.block_lt_of_cell? w15 _ s2)
    have Qs3 := BelowC.cell s3 (World.block_lt_of_cell? w15 _ s3)
    have Qs4 := BelowC.cell s4 (World.block_lt_of_cell? w15 _ s4)
    clear y0 y1 y2 y3 y4 s0 s1 s2 s3 s4 hat hbs hBs
    have hx0 : BelowC w15 w15 := Below.refl _ _
    conv => arg 2; whnf
    refine wp_seq ?_
    refine wp_region_lit ?_
    refine Fr.l_mv rfl rfl (Fr.w_none rfl) (by simp only [Fr.ev_tmp, Fr.ev_const, Fr.up_get, Nat.reduceLT, Nat.reduceEqDiff, ↓reduceIte, l27]; try rfl) ?_
    (refine Fr.l_call rfl (Fr.w_none rfl) (by go_simp; first | done | (with_reducible rfl) | (with_reducible exact ⟨rfl, rfl⟩) | (with_reducible exact ⟨⟨rfl, rfl⟩, rfl⟩)) ?_; refine (CT.out _ _ HBs.out).mono ?_; rintro e w16 ⟨u3, xs3, rfl, ho3, hS3, hz3, hc16⟩; refine ⟨_, rfl, ?_⟩)
    refine Fr.l_mv rfl rfl (Fr.w_none rfl) (by simp only [Fr.ev_tmp, Fr.ev_const, Fr.up_get, Nat.reduceLT, Nat.reduceEqDiff, ↓reduceIte, l27]; try rfl) ?_
    refine Fr.l_val rfl (Fr.w_none rfl) (by go_simp; first | done | (with_reducible rfl) | (with_reducible exact ⟨rfl, rfl⟩) | (with_reducible exact ⟨⟨rfl, rfl⟩, rfl⟩)) ?_
    refine Fr.l_val rfl (Fr.w_none rfl) (by go_simp; first | done | (with_reducible rfl) | (with_reducible exact ⟨rfl, rfl⟩) | (with_reducible exact ⟨⟨rfl, rfl⟩, rfl⟩)) ?_
    refine Fr.l_as rfl rfl (Fr.w_none rfl) (by simp only [Fr.ev_tmp, Fr.ev_const, Fr.up_get, Nat.reduceLT, Nat.reduceEqDiff, ↓reduceIte, l27]; try rfl) ?_
    refine Fr.l_as rfl rfl (Fr.w_none rfl) (by simp only [Fr.ev_tmp, Fr.ev_const, Fr.up_get, Nat.reduceLT, Nat.reduceEqDiff, ↓reduceIte, l27]; try rfl) ?_
    refine Fr.l_nil ?_
    have hx1 : BelowC w15 w16 := BelowC.call hx0 hc16
    refine wp_seq ?_
    refine wp_region_lit ?_
    refine Fr.l_mv rfl rfl (Fr.w_none rfl) (by simp only [Fr.ev_tmp, Fr.ev_const, Fr.up_get, Nat.reduceLT, Nat.reduceEqDiff, ↓reduceIte, l27]; try rfl) ?_
    (refine Fr.l_call rfl (Fr.w_none rfl) (by go_simp; first | done | (with_reducible rfl) | (with_reducible exact ⟨rfl, rfl⟩) | (with_reducible exact ⟨⟨rfl, rfl⟩, rfl⟩)) ?_; refine (CS.out _ _ (HBs.out.below hx1)).mono ?_; rintro e w17 ⟨u4, xs4, rfl, ho4, hS4, hz4, hc17⟩; refine ⟨_, rfl, ?_⟩)
    refine Fr.l_mv rfl rfl (Fr.w_none rfl) (by simp only [Fr.ev_tmp, Fr.ev_const, Fr.up_get, Nat.reduceLT, Nat.reduceEqDiff, ↓reduceIte, l27]; try rfl) ?_
    refine Fr.l_val rfl (Fr.w_none rfl) (by go_simp; first | done | (with_reducible rfl) | (with_reducible exact ⟨rfl, rfl⟩) | (with_reducible exact ⟨⟨rfl, rfl⟩, rfl⟩)) ?_
    refine Fr.l_val rfl (Fr.w_none rfl) (by go_simp; first | done | (with_reducible rfl) | (with_reducible exact ⟨rfl, rfl⟩) | (with_reducible exact ⟨⟨rfl, rfl⟩, rfl⟩)) ?_
    refine Fr.l_as rfl rfl (Fr.w_none rfl) (by simp only [Fr.ev_tmp, Fr.ev_const, Fr.up_get, Nat.reduceLT, Nat.reduceEqDiff, ↓reduceIte, l27]; try rfl) ?_
    refine Fr.l_as rfl rfl (Fr.w_none rfl) (by simp only [Fr.ev_tmp, Fr.ev_const, Fr.up_get, Nat.reduceLT, Nat.reduceEqDiff, ↓reduceIte, l27]; try rfl) ?_
    refine Fr.l_nil ?_
    have hx2 : BelowC w15 w17 := BelowC.call hx1 hc17
    refine wp_seq ?_
    refine wp_region_lit ?_
    refine Fr.l_mv rfl rfl (Fr.w_none rfl) (by simp only [Fr.ev_tmp, Fr.ev_const, Fr.up_get, Nat.reduceLT, Nat.reduceEqDiff, ↓reduceIte, l27]; try rfl) ?_
    (refine Fr.l_call rfl (Fr.w_none rfl) (by go_simp; first | done | (with_reducible rfl) | (with_reducible exact ⟨rfl, rfl⟩) | (with_reducible exact ⟨⟨rfl, rfl⟩, rfl⟩)) ?_; refine (CG.out _ _ (HBs.out.below hx2)).mono ?_; rintro e w18 ⟨mo, rfl, hmo, hmol, hc18⟩; refine ⟨_, rfl, ?_⟩)
    refine Fr.l_mv rfl rfl (Fr.w_none rfl) (by simp only [Fr.ev_tmp, Fr.ev_const, Fr.up_get, Nat.reduceLT, Nat.reduceEqDiff, ↓reduceIte, l27]; try rfl) ?_
    refine Fr.l_val rfl (Fr.w_none rfl) (by go_simp; first | done | (with_reducible rfl) | (with_reducible exact ⟨rfl, rfl⟩) | (with_reducible exact ⟨⟨rfl, rfl⟩, rfl⟩)) ?_
    refine Fr.l_val rfl (Fr.w_none rfl) (by go_simp; first | done | (with_reducible rfl) | (with_reducible exact ⟨rfl, rfl⟩) | (with_reducible exact ⟨⟨rfl, rfl⟩, rfl⟩)) ?_
    refine Fr.l_val rfl (Fr.w_none rfl) (by go_simp; first | done | (with_reducible rfl) | (with_reducible exact ⟨rfl, rfl⟩) | (with_reducible exact ⟨⟨rfl, rfl⟩, rfl⟩)) ?_
    refine Fr.l_as rfl rfl (Fr.w_none rfl) (by simp only [Fr.ev_tmp, Fr.ev_const, Fr.up_get, Nat.reduceLT, Nat.reduceEqDiff, ↓reduceIte, l27]; try rfl) ?_
    refine Fr.l_as rfl rfl (Fr.w_none rfl) (by simp only [Fr.ev_tmp, Fr.ev_const, Fr.up_get, Nat.reduceLT, Nat.reduceEqDiff, ↓reduceIte, l27]; try rfl) ?_
    refine Fr.l_as rfl rfl (Fr.w_none rfl) (by simp only [Fr.ev_tmp, Fr.ev_const, Fr.up_get, Nat.reduceLT, Nat.reduceEqDiff, ↓reduceIte, l27]; try rfl) ?_
    refine Fr.l_nil ?_
    have hx3 : BelowC w15 w18 := BelowC.call hx2 hc18
    refine wp_seq ?_
    refine wp_region_lit ?_
    refine Fr.l_mv rfl rfl (Fr.w_none rfl) (by simp only [Fr.ev_tmp, Fr.ev_const, Fr.up_get, Nat.reduceLT, Nat.reduceEqDiff, ↓reduceIte, l27]; try rfl) ?_
    refine Fr.l_val rfl (Fr.w_none rfl) (by go_simp; first | done | (with_reducible rfl) | (with_reducible exact ⟨rfl, rfl⟩) | (with_reducible exact ⟨⟨rfl, rfl⟩, rfl⟩)) ?_
    refine Fr.l_val rfl (Fr.w_none rfl) (by go_simp; first | done | (with_reducible rfl) | (with_reducible exact ⟨rfl, rfl⟩) | (with_reducible exact ⟨⟨rfl, rfl⟩, rfl⟩)) ?_
    (refine Fr.l_call rfl (Fr.w_none rfl) (by go_simp; first | done | (with_reducible rfl) | (with_reducible exact ⟨rfl, rfl⟩) | (with_reducible exact ⟨⟨rfl, rfl⟩, rfl⟩)) ?_; refine (CL.out _).mono ?_; rintro e w19 ⟨rfl, hc19⟩; refine ⟨_, rfl, ?_⟩)
    refine Fr.l_mv rfl rfl (Fr.w_none rfl) (by simp only [Fr.ev_tmp, Fr.ev_const, Fr.up_get, Nat.reduceLT, Nat.reduceEqDiff, ↓reduceIte, l27]; try rfl) ?_
    refine Fr.l_val rfl (Fr.w_none rfl) (by go_simp; first | done | (with_reducible rfl) | (with_reducible exact ⟨rfl, rfl⟩) | (with_reducible exact ⟨⟨rfl, rfl⟩, rfl⟩)) ?_
    refine Fr.l_val rfl (Fr.w_none rfl) (by go_simp; first | done | (with_reducible rfl) | (with_reducible exact ⟨rfl, rfl⟩) | (with_reducible exact ⟨⟨rfl, rfl⟩, rfl⟩)) ?_
    refine Fr.l_as rfl rfl (Fr.w_none rfl) (by simp only [Fr.ev_tmp, Fr.ev_const, Fr.up_get, Nat.reduceLT, Nat.reduceEqDiff, ↓reduceIte, l27]; try rfl) ?_
    refine Fr.l_as rfl rfl (Fr.w_none rfl) (by simp only [Fr.ev_tmp, Fr.ev_const, Fr.up_get, Nat.reduceLT, Nat.reduceEqDiff, ↓reduceIte, l27]; try rfl) ?_
    refine Fr.l_nil ?_
    have hx4 : BelowC w15 w19 := BelowC.call hx3 hc19
    refine wp_seq ?_
    refine wp_region_lit ?_
    refine Fr.l_mv rfl rfl (Fr.w_none rfl) (by simp only [Fr.ev_tmp, Fr.ev_const, Fr.up_get, Nat.reduceLT, Nat.reduceEqDiff, ↓reduceIte, l27]; try rfl) ?_
    refine Fr.l_val rfl (Fr.w_none rfl) (by go_simp; first | done | (with_reducible rfl) | (with_reducible exact ⟨rfl, rfl⟩) | (with_reducible exact ⟨⟨rfl, rfl⟩, rfl⟩)) ?_
    refine Fr.l_val rfl (Fr.w_none rfl) (by go_simp; first | done | (with_reducible rfl) | (with_reducible exact ⟨rfl, rfl⟩) | (with_reducible exact ⟨⟨rfl, rfl⟩, rfl⟩)) ?_
    (refine Fr.l_call rfl (Fr.w_none rfl) (by go_simp; first | done | (with_reducible rfl) | (with_reducible exact ⟨rfl, rfl⟩) | (with_reducible exact ⟨⟨rfl, rfl⟩, rfl⟩)) ?_; refine (CL2.out _).mono ?_; rintro e w20 ⟨rfl, hc20⟩; refine ⟨_, rfl, ?_⟩)
    refine Fr.l_mv rfl rfl (Fr.w_none rfl) (by simp only [Fr.ev_tmp, Fr.ev_const, Fr.up_get, Nat.reduceLT, Nat.reduceEqDiff, ↓reduceIte, l27]; try rfl) ?_
    refine Fr.l_val rfl (Fr.w_none rfl) (by go_simp; first | done | (with_reducible rfl) | (with_reducible exact ⟨rfl, rfl⟩) | (with_reducible exact ⟨⟨rfl, rfl⟩, rfl⟩)) ?_
    refine Fr.l_val rfl (Fr.w_none rfl) (by go_simp; first | done | (with_reducible rfl) | (with_reducible exact ⟨rfl, rfl⟩) | (with_reducible exact ⟨⟨rfl, rfl⟩, rfl⟩)) ?_
    refine Fr.l_as rfl rfl (Fr.w_none rfl) (by simp only [Fr.ev_tmp, Fr.ev_const, Fr.up_get, Nat.reduceLT, Nat.reduceEqDiff, ↓reduceIte, l27]; try rfl) ?_
    refine Fr.l_as rfl rfl (Fr.w_none rfl) (by simp only [Fr.ev_tmp, Fr.ev_const, Fr.up_get, Nat.reduceLT, Nat.reduceEqDiff, ↓reduceIte, l27]; try rfl) ?_
    refine Fr.l_nil ?_
    have hx5 : BelowC w15 w20 := BelowC.call hx4 hc20
    refine Fr.name' ?_
    intro f20 hf20
    have k27 : f20 27 = .slice (some ⟨gl, 0, none⟩) 2 cap := by rw [hf20]; simp only [Fr.up_get, Nat.reduceEqDiff, ↓reduceIte, l27]
    have k28 : f20 28 = u3 := by rw [hf20]; simp only [Fr.up_get, Nat.reduceEqDiff, ↓reduceIte]
    have k29 : f20 29 = .int .i64 0 := by rw [hf20]; simp only [Fr.up_get, Nat.reduceEqDiff, ↓reduceIte]
    have k30 : f20 30 = u4 := by rw [hf20]; simp only [Fr.up_get, Nat.reduceEqDiff, ↓reduceIte]
    have k31 : f20 31 = .int .i64 0 := by rw [hf20]; simp only [Fr.up_get, Nat.reduceEqDiff, ↓reduceIte]
    have k32 : f20 32 = .int .i64 (if flt .f32 L L2 then 1 else 0) := by rw [hf20]; simp only [Fr.up_get, Nat.reduceEqDiff, ↓reduceIte]
    have k33 : f20 33 = .float .f32 mo := by rw [hf20]; simp only [Fr.up_get, Nat.reduceEqDiff, ↓reduceIte]
    have k34 : f20 34 = .int .i64 0 := by rw [hf20]; simp only [Fr.up_get, Nat.reduceEqDiff, ↓reduceIte]
    have k35 : f20 35 = .float .f32 L := by rw [hf20]; simp only [Fr.up_get, Nat.reduceEqDiff, ↓reduceIte]
    have k36 : f20 36 = .int .i64 0 := by rw [hf20]; simp only [Fr.up_get, Nat.reduceEqDiff, ↓reduceIte]
    have k37 : f20 37 = .float .f32 L2 := by rw [hf20]; simp only [Fr.up_get, Nat.reduceEqDiff, ↓reduceIte]
    have k38 : f20 38 = .int .i64 0 := by rw [hf20]; simp only [Fr.up_get, Nat.reduceEqDiff, ↓reduceIte]
    clear hf20
    have e1 := below_then hc18 (below_then hc19 hc20)
    have e2 := below_then hc17 e1
    have fs3 := (fs_of_own ho3).below e2
    have fs4 := (fs_of_own ho4).below e1
    have hS34 := hS3.trans hS4.symm
    have hl4 : xs4.length = 3 := by rw [hS4.1, scanO_len]
    have ho4' := ho4
    rw [hl4] at ho4'
    obtain ⟨gm, km, rfl, _, _⟩ := own_some ho4' (by omega)
    have hx41 : xs4[1]? = some xs4[1] := List.getElem?_eq_getElem (by omega)
    have hcell := (own_cell (own_after ho4' e1) (cellF_at hx41))
    have hsm := hS4.2 1 _ _ hx41 (scan_one _ _ _)
    refine Fr.wp_code (c' := (Fr.fs (Fr.sn (Fr.sn (Fr.sn (Fr.sn (Fr.sn (Fr.sn (Fr.sn (Fr.sn (Fr.sn (Fr.sn (Fr.sn (Fr.sn (Fr.sn (Fr.sn (Fr.sn (Fr.sn (Fr.sn (Fr.sn (Fr.sn (Fr.sn (Fr.sn (Fr.sn (B10)))))))))))))))))))))))).seq (Fr.sn (Fr.sn (Fr.sn (Fr.sn (Fr.sn (Fr.sn (Fr.sn (Fr.sn (Fr.sn (Fr.sn (Fr.sn (Fr.sn (Fr.sn (Fr.sn (Fr.sn (Fr.sn (Fr.sn (Fr.sn (Fr.sn (Fr.sn (Fr.sn (Fr.sn (Fr.sn (B10))))))))))))))))))))))))) (by kernel_rfl) ?_
    refine b36 k28 k29 k30 k31 k32 k33 k34 k35 k36 k37 k38 fs3 fs4 hS34 hl4 HL.out HL2.out hmo (Below.refl _ _) ?_
    intro w21 g21 hw21 hA21
    have m27 := (hA21 27 (by decide)).trans k27
    have m30 := (hA21 30 (by decide)).trans k30
    have hy21 : BelowC w15 w21 := BelowC.call hx5 hw21
    have qm1 := (Below.cell hw21 (p := ⟨gm, 1, none⟩) (World.block_lt_of_cell? w20 _ hcell)).trans hcell
    have HSM := Lib.hid hsm
    clear hcell hsm hA21 k27 k28 k29 k30 k31 k32 k33 k34 k35 k36 k37 k38 fs3 fs4 hS34 ho4' ho4 ho3 hS3 hS4 hx0 hx1 hx2 hx3 hx4 hx5 e1 e2
    obtain ⟨y, hy⟩ : ∃ y, y = xs4[1] := ⟨_, rfl⟩
    rw [← hy] at qm1 HSM
    clear hy
    conv => arg 2; whnf
    refine wp_seq ?_
    refine wp_region_lit ?_
    refine Fr.l_mv rfl rfl (Fr.w_none rfl) (by simp only [Fr.ev_tmp, Fr.ev_const, Fr.up_get, Nat.reduceLT, Nat.reduceEqDiff, ↓reduceIte, m27, m30]; try rfl) ?_
    refine Fr.l_val rfl (Fr.w_none rfl) (by go_simp; first | done | (with_reducible rfl) | (with_reducible exact ⟨rfl, rfl⟩) | (with_reducible exact ⟨⟨rfl, rfl⟩, rfl⟩)) ?_
    refine Fr.l_val rfl (Fr.w_none rfl) (by go_simp; first | done | (with_reducible rfl) | (with_reducible exact ⟨rfl, rfl⟩) | (with_reducible exact ⟨⟨rfl, rfl⟩, rfl⟩)) ?_
    (refine Fr.l_call rfl (Fr.w_none rfl) (by go_simp; first | done | (with_reducible rfl) | (with_reducible exact ⟨rfl, rfl⟩) | (with_reducible exact ⟨⟨rfl, rfl⟩, rfl⟩)) ?_; refine (CO.out _).mono ?_; rintro e w22 ⟨r, rfl, hr, hc22⟩; refine ⟨_, rfl, ?_⟩)
    refine Fr.l_mv rfl rfl (Fr.w_none rfl) (by simp only [Fr.ev_tmp, Fr.ev_const, Fr.up_get, Nat.reduceLT, Nat.reduceEqDiff, ↓reduceIte, m27, m30]; try rfl) ?_
    refine Fr.l_val rfl (Fr.w_none rfl) (by go_simp; first | done | (with_reducible rfl) | (with_reducible exact ⟨rfl, rfl⟩) | (with_reducible exact ⟨⟨rfl, rfl⟩, rfl⟩)) ?_
    refine Fr.l_val rfl (Fr.w_none rfl) (by go_simp; first | done | (with_reducible rfl) | (with_reducible exact ⟨rfl, rfl⟩) | (with_reducible exact ⟨⟨rfl, rfl⟩, rfl⟩)) ?_
    refine Fr.l_as rfl rfl (Fr.w_none rfl) (by simp only [Fr.ev_tmp, Fr.ev_const, Fr.up_get, Nat.reduceLT, Nat.reduceEqDiff, ↓reduceIte, m27, m30]; try rfl) ?_
    refine Fr.l_as rfl rfl (Fr.w_none rfl) (by simp only [Fr.ev_tmp, Fr.ev_const, Fr.up_get, Nat.reduceLT, Nat.reduceEqDiff, ↓reduceIte, m27, m30]; try rfl) ?_
    refine Fr.l_nil ?_
    have hsr : sameB r y = true := teq_cn (hr.trans ((outC_cn a b x _ _ 0 (cn_cn _).symm).trans ((cn_outC a b x _ 0).symm.trans HSM.out.symm)))
    have qm2 := (Below.cell hc22 (p := ⟨gm, 1, none⟩) (World.block_lt_of_cell? w21 _ qm1)).trans qm1
    clear qm1 hr
    refine wp_seq ?_
    refine wp_region_lit ?_
    refine Fr.l_ops ?_
    intro OPS hO
    have d2 : (OPS[2]?).bind (·.dst) = some 304 := by rw [hO]; kernel_rfl
    clear hO
    refine Fr.l_mv rfl rfl (Fr.w_none rfl) (by simp only [Fr.ev_tmp, Fr.ev_const, Fr.up_get, Nat.reduceLT, Nat.reduceEqDiff, ↓reduceIte, m27, m30]; try rfl) ?_
    refine Fr.l_val rfl (Fr.w_none rfl) (by go_simp; first | done | (with_reducible rfl) | (with_reducible exact ⟨rfl, rfl⟩) | (with_reducible exact ⟨⟨rfl, rfl⟩, rfl⟩)) ?_
    refine Fr.l_mv rfl rfl (Fr.w_none rfl) (by simp only [Fr.ev_tmp, Fr.ev_const, Fr.up_get, Nat.reduceLT, Nat.reduceEqDiff, ↓reduceIte, m27, m30]; try rfl) ?_
    refine Fr.l_mv rfl rfl (Fr.w_yes rfl d2 (by decide) (by simp only [Fr.ev_tmp, Fr.ev_const, Fr.up_get, Nat.reduceLT, Nat.reduceEqDiff, ↓reduceIte])) (by simp only [Fr.ev_tmp, Fr.ev_const, Fr.up_get, Nat.reduceLT, Nat.reduceEqDiff, ↓reduceIte, m27, m30]; try rfl) ?_
    refine Fr.l_mv rfl rfl (Fr.w_yes rfl d2 (by decide) (by simp only [Fr.ev_tmp, Fr.ev_const, Fr.up_get, Nat.reduceLT, Nat.reduceEqDiff, ↓reduceIte])) (by simp only [Fr.ev_tmp, Fr.ev_const, Fr.up_get, Nat.reduceLT, Nat.reduceEqDiff, ↓reduceIte, m27, m30]; try rfl) ?_
    refine Fr.l_val rfl (Fr.w_yes rfl d2 (by decide) (by simp only [Fr.ev_tmp, Fr.ev_const, Fr.up_get, Nat.reduceLT, Nat.reduceEqDiff, ↓reduceIte])) (by go_simp; first | done | (with_reducible rfl) | (with_reducible exact ⟨rfl, rfl⟩) | (with_reducible exact ⟨⟨rfl, rfl⟩, rfl⟩)) ?_
    refine Fr.l_val rfl (Fr.w_yes rfl d2 (by decide) (by simp only [Fr.ev_tmp, Fr.ev_const, Fr.up_get, Nat.reduceLT, Nat.reduceEqDiff, ↓reduceIte])) (by go_simp; first | done | (with_reducible rfl) | (with_reducible exact ⟨rfl, rfl⟩) | (with_reducible exact ⟨⟨rfl, rfl⟩, rfl⟩)) ?_
    (refine Fr.l_call rfl (Fr.w_yes rfl d2 (by decide) (by simp only [Fr.ev_tmp, Fr.ev_const, Fr.up_get, Nat.reduceLT, Nat.reduceEqDiff, ↓reduceIte])) (by go_simp; first | done | (with_reducible rfl) | (with_reducible exact ⟨rfl, rfl⟩) | (with_reducible exact ⟨⟨rfl, rfl⟩, rfl⟩)) ?_; refine (specSame_any _ _ _).mono ?_; rintro e w23 ⟨rfl, rfl⟩; refine ⟨_, rfl, ?_⟩)
    rw [hsr]
    refine Fr.l_val rfl (Fr.w_none rfl) (by go_simp; first | done | (with_reducible rfl) | (with_reducible exact ⟨rfl, rfl⟩) | (with_reducible exact ⟨⟨rfl, rfl⟩, rfl⟩)) ?_
    refine Fr.l_as rfl rfl (Fr.w_none rfl) (by simp only [Fr.ev_tmp, Fr.ev_const, Fr.up_get, Nat.reduceLT, Nat.reduceEqDiff, ↓reduceIte, m27, m30]; try rfl) ?_
    refine Fr.l_nil ?_
    refine wp_ret ?_
    refine Fr.ret (t := 4) rfl (by decide) ?_
    refine ⟨?_, below_then HBW.out (below_then hw15 (below_then hy21 hc22))⟩
    simp only [Fr.up_get, ↓reduceIte]
  · refine wp_seq ?_
    refine wp_region_lit ?_
    refine Fr.l_as rfl rfl (Fr.w_none rfl) (by simp only [Fr.ev_tmp, Fr.ev_const, Fr.up_get, Nat.reduceLT, Nat.reduceEqDiff, ↓reduceIte, t0, t1]; try rfl) ?_
    refine Fr.l_nil ?_
    refine wp_seq ?_
    refine wp_seq ?_
    refine wp_region_lit ?_
    refine Fr.l_mv rfl rfl (Fr.w_none rfl) (by simp only [Fr.ev_tmp, Fr.ev_const, Fr.up_get, Nat.reduceLT, Nat.reduceEqDiff, ↓reduceIte, t0, t1]; try rfl) ?_
    refine Fr.l_mv rfl rfl (Fr.w_none rfl) (by simp only [Fr.ev_tmp, Fr.ev_const, Fr.up_get, Nat.reduceLT, Nat.reduceEqDiff, ↓reduceIte, t0, t1]; try rfl) ?_
    (refine Fr.l_call rfl (Fr.w_none rfl) (by go_simp; first | done | (with_reducible rfl) | (with_reducible exact ⟨rfl, rfl⟩) | (with_reducible exact ⟨⟨rfl, rfl⟩, rfl⟩)) ?_; refine (a2Long_any _ _ _ _ _ _ _ hn2 hm2).mono ?_; rintro e w0 ⟨rfl, rfl⟩; refine ⟨_, rfl, ?_⟩)
    rw [hL]
    refine Fr.l_nil ?_
    refine Fr.l_cond (t := true) (by simp only [Fr.ev_tmp, Fr.ev_const, Fr.up_get, Nat.reduceLT, Nat.reduceEqDiff, ↓reduceIte]; try rfl) (fun _ => ?_) (fun h => absurd h (by decide))
    refine wp_seq ?_
    refine wp_region_lit ?_
    refine Fr.l_as rfl rfl (Fr.w_none rfl) (by simp only [Fr.ev_tmp, Fr.ev_const, Fr.up_get, Nat.reduceLT, Nat.reduceEqDiff, ↓reduceIte]; try rfl) ?_
    refine Fr.l_nil ?_
    refine wp_ret ?_
    refine Fr.then_ret ?_
    refine Fr.ret (t := 4) rfl (by decide) ?_
    refine ⟨?_, Below.refl _ _⟩
    simp only [Fr.up_get, ↓reduceIte]

end Go.Proofs.Ytljigmplmlhdnaa.yBeltsFound

