/- The great law on trains: the guard on factors. (written by wip/gen/trains.py.) -/
import Derived.Test.YtkgfepakedieaaaGreatDoorTs1
namespace Go.Proofs.YtkgfepakedieaaaGreatDoor.yTrains
open Go.RowKit
set_option linter.unusedVariables false
set_option linter.unusedSimpArgs false

set_option maxRecDepth 100000 in
set_option maxHeartbeats 16000000 in
theorem e31 {N D N2 D2 G1 G2 q1 q2 C1 C2 : Nat} {W w : World} {Q : Exit → Act → World → Prop} {R : Code} {f : Nat → Value} (f18 : f 18 = .int .i64 (N : Nat)) (f19 : f 19 = .int .i64 (D : Nat)) (f29 : f 29 = .int .i64 (N2 : Nat)) (f30 : f 30 = .int .i64 (D2 : Nat)) (f39 : f 39 = .float .f32 G2) (f40 : f 40 = .int .i64 0) (f41 : f 41 = .float .f32 G1) (f42 : f 42 = .int .i64 0) (f43 : f 43 = .float .f32 G1) (f44 : f 44 = .int .i64 0)
    (hv1 : ∀ w, fval .quo .f64 (floatOfInt .f64 (N : Int)) (floatOfInt .f64 (D : Int)) w = q1) (hd1 : fdn .quo .f64 (floatOfInt .f64 (N : Int)) (floatOfInt .f64 (D : Int)) = 0) (hc1 : ∀ w, c32 q1 w = C1) (hn1 : c32n q1 = 0) (hF1 : F (cop .sub G1 C1)) (hN1 : nearB G1 C1 897988541 0 = true)
    (hv2 : ∀ w, fval .quo .f64 (floatOfInt .f64 (N2 : Int)) (floatOfInt .f64 (D2 : Int)) w = q2) (hd2 : fdn .quo .f64 (floatOfInt .f64 (N2 : Int)) (floatOfInt .f64 (D2 : Int)) = 0) (hc2 : ∀ w, c32 q2 w = C2) (hn2 : c32n q2 = 0) (hF2 : F (cop .sub G2 C2)) (hN2 : nearB G2 C2 906377149 0 = true)
    (hw : BelowC W w)
    (k : ∀ (w' : World) (g : Nat → Value), BelowC W w' → Fr.Agree 327 f g → Code.wp Tryz.prog R Q ⟨Fr.ft 366 g, []⟩ w') :
    Code.wp Tryz.prog ((Fr.fs (Fr.sn (Fr.sn (Fr.sn (Fr.sn (Fr.sn (Fr.sn (Fr.sn (Fr.sn (Fr.sn (Fr.sn (Fr.sn (Fr.sn (Fr.sn (Fr.sn (Fr.sn (Fr.sn (Fr.sn (Fr.sn (Fr.sn (Fr.sn (Fr.sn (Fr.sn (Fr.sn (Fr.sn (B3)))))))))))))))))))))))))).seq R) Q ⟨Fr.ft 366 f, []⟩ w := by
  have HF1 := Lib.hid hF1
  clear hF1
  have HN1 := Lib.hid hN1
  clear hN1
  have HF2 := Lib.hid hF2
  clear hF2
  have HN2 := Lib.hid hN2
  clear hN2
  have HK := Lib.hid k
  clear k
  conv => arg 2; arg 1; whnf
  have E1 := @Fr.ev_tmp 366
  have E2 := @Fr.ev_const 366
  have E3 := @Fr.up_get
  have E4 := @Fr.ev_func 366
  have E5 := @Fr.ev_global 366
  refine wp_seq ?_
  refine wp_seq ?_
  refine wp_region_lit ?_
  refine Fr.l_ops ?_
  intro OPS hO
  have d2 : (OPS[2]?).bind (·.dst) = some 329 := by rw [hO]; kernel_rfl
  have d7 : (OPS[7]?).bind (·.dst) = some 334 := by rw [hO]; kernel_rfl
  have d11 : (OPS[11]?).bind (·.dst) = some 338 := by rw [hO]; kernel_rfl
  have d17 : (OPS[17]?).bind (·.dst) = some 344 := by rw [hO]; kernel_rfl
  have d28 : (OPS[28]?).bind (·.dst) = some 355 := by rw [hO]; kernel_rfl
  clear hO
  refine Fr.l_mv rfl rfl (Fr.w_none rfl) (by simp only [Fr.ev_tmp, Fr.ev_const, Fr.up_get, Nat.reduceLT, Nat.reduceEqDiff, ↓reduceIte, f18, f19, f29, f30, f39, f40, f41, f42, f43, f44]; try rfl) ?_
  refine Fr.l_val rfl (Fr.w_none rfl) (by go_simp; first | done | (with_reducible rfl) | (with_reducible exact ⟨rfl, rfl⟩) | (with_reducible exact ⟨⟨rfl, rfl⟩, rfl⟩)) ?_
  refine Fr.l_mv rfl rfl (Fr.w_none rfl) (by simp only [Fr.ev_tmp, Fr.ev_const, Fr.up_get, Nat.reduceLT, Nat.reduceEqDiff, ↓reduceIte, f18, f19, f29, f30, f39, f40, f41, f42, f43, f44]; try rfl) ?_
  refine Fr.l_mv rfl rfl (Fr.w_yes rfl d2 (by decide) (by simp only [Fr.ev_tmp, Fr.ev_const, Fr.up_get, Nat.reduceLT, Nat.reduceEqDiff, ↓reduceIte])) (by simp only [Fr.ev_tmp, Fr.ev_const, Fr.up_get, Nat.reduceLT, Nat.reduceEqDiff, ↓reduceIte, f18, f19, f29, f30, f39, f40, f41, f42, f43, f44]; try rfl) ?_
  refine Fr.l_mv rfl rfl (Fr.w_yes rfl d2 (by decide) (by simp only [Fr.ev_tmp, Fr.ev_const, Fr.up_get, Nat.reduceLT, Nat.reduceEqDiff, ↓reduceIte])) (by simp only [Fr.ev_tmp, Fr.ev_const, Fr.up_get, Nat.reduceLT, Nat.reduceEqDiff, ↓reduceIte, f18, f19, f29, f30, f39, f40, f41, f42, f43, f44]; try rfl) ?_
  refine Fr.l_val rfl (Fr.w_yes rfl d2 (by decide) (by simp only [Fr.ev_tmp, Fr.ev_const, Fr.up_get, Nat.reduceLT, Nat.reduceEqDiff, ↓reduceIte])) (by go_simp; first | done | (with_reducible rfl) | (with_reducible exact ⟨rfl, rfl⟩) | (with_reducible exact ⟨⟨rfl, rfl⟩, rfl⟩)) ?_
  refine Fr.l_val rfl (Fr.w_none rfl) (by go_simp; first | done | (with_reducible rfl) | (with_reducible exact ⟨rfl, rfl⟩) | (with_reducible exact ⟨⟨rfl, rfl⟩, rfl⟩)) ?_
  refine Fr.l_mv rfl rfl (Fr.w_none rfl) (by simp only [Fr.ev_tmp, Fr.ev_const, Fr.up_get, Nat.reduceLT, Nat.reduceEqDiff, ↓reduceIte, f18, f19, f29, f30, f39, f40, f41, f42, f43, f44]; try rfl) ?_
  refine Fr.l_mv rfl rfl (Fr.w_yes rfl d7 (by decide) (by simp only [Fr.ev_tmp, Fr.ev_const, Fr.up_get, Nat.reduceLT, Nat.reduceEqDiff, ↓reduceIte])) (by simp only [Fr.ev_tmp, Fr.ev_const, Fr.up_get, Nat.reduceLT, Nat.reduceEqDiff, ↓reduceIte, f18, f19, f29, f30, f39, f40, f41, f42, f43, f44]; try rfl) ?_
  refine Fr.l_val rfl (Fr.w_yes rfl d7 (by decide) (by simp only [Fr.ev_tmp, Fr.ev_const, Fr.up_get, Nat.reduceLT, Nat.reduceEqDiff, ↓reduceIte])) (by go_simp; first | done | (with_reducible rfl) | (with_reducible exact ⟨rfl, rfl⟩) | (with_reducible exact ⟨⟨rfl, rfl⟩, rfl⟩)) ?_
  refine Fr.l_val rfl (Fr.w_none rfl) (by go_simp; first | done | (with_reducible rfl) | (with_reducible exact ⟨rfl, rfl⟩) | (with_reducible exact ⟨⟨rfl, rfl⟩, rfl⟩)) ?_
  refine Fr.l_mv rfl rfl (Fr.w_none rfl) (by simp only [Fr.ev_tmp, Fr.ev_const, Fr.up_get, Nat.reduceLT, Nat.reduceEqDiff, ↓reduceIte, f18, f19, f29, f30, f39, f40, f41, f42, f43, f44]; try rfl) ?_
  refine Fr.l_mv rfl rfl (Fr.w_yes rfl d11 (by decide) (by simp only [Fr.ev_tmp, Fr.ev_const, Fr.up_get, Nat.reduceLT, Nat.reduceEqDiff, ↓reduceIte])) (by simp only [Fr.ev_tmp, Fr.ev_const, Fr.up_get, Nat.reduceLT, Nat.reduceEqDiff, ↓reduceIte, f18, f19, f29, f30, f39, f40, f41, f42, f43, f44]; try rfl) ?_
  refine Fr.l_mv rfl rfl (Fr.w_yes rfl d11 (by decide) (by simp only [Fr.ev_tmp, Fr.ev_const, Fr.up_get, Nat.reduceLT, Nat.reduceEqDiff, ↓reduceIte])) (by simp only [Fr.ev_tmp, Fr.ev_const, Fr.up_get, Nat.reduceLT, Nat.reduceEqDiff, ↓reduceIte, f18, f19, f29, f30, f39, f40, f41, f42, f43, f44]; try rfl) ?_
  (refine Fr.l_call rfl (Fr.w_yes rfl d11 (by decide) (by simp only [Fr.ev_tmp, Fr.ev_const, Fr.up_get, Nat.reduceLT, Nat.reduceEqDiff, ↓reduceIte])) (by go_simp; first | done | (with_reducible rfl) | (with_reducible exact ⟨rfl, rfl⟩) | (with_reducible exact ⟨⟨rfl, rfl⟩, rfl⟩)) ?_; refine (specSame_any _ _ _).mono ?_; rintro e w341 ⟨rfl, rfl⟩; refine ⟨_, rfl, ?_⟩)
  rw [sameB_refl]
  refine Fr.l_val rfl (Fr.w_yes rfl d11 (by decide) (by simp only [Fr.ev_tmp, Fr.ev_const, Fr.up_get, Nat.reduceLT, Nat.reduceEqDiff, ↓reduceIte])) (by go_simp; first | done | (with_reducible rfl) | (with_reducible exact ⟨rfl, rfl⟩) | (with_reducible exact ⟨⟨rfl, rfl⟩, rfl⟩)) ?_
  refine Fr.l_val rfl (Fr.w_none rfl) (by go_simp; first | done | (with_reducible rfl) | (with_reducible exact ⟨rfl, rfl⟩) | (with_reducible exact ⟨⟨rfl, rfl⟩, rfl⟩)) ?_
  refine Fr.l_mv rfl rfl (Fr.w_none rfl) (by simp only [Fr.ev_tmp, Fr.ev_const, Fr.up_get, Nat.reduceLT, Nat.reduceEqDiff, ↓reduceIte, f18, f19, f29, f30, f39, f40, f41, f42, f43, f44]; try rfl) ?_
  refine Fr.l_mv rfl rfl (Fr.w_yes rfl d17 (by decide) (by simp only [Fr.ev_tmp, Fr.ev_const, Fr.up_get, Nat.reduceLT, Nat.reduceEqDiff, ↓reduceIte])) (by simp only [Fr.ev_tmp, Fr.ev_const, Fr.up_get, Nat.reduceLT, Nat.reduceEqDiff, ↓reduceIte, f18, f19, f29, f30, f39, f40, f41, f42, f43, f44]; try rfl) ?_
  refine Fr.l_mv rfl rfl (Fr.w_yes rfl d17 (by decide) (by simp only [Fr.ev_tmp, Fr.ev_const, Fr.up_get, Nat.reduceLT, Nat.reduceEqDiff, ↓reduceIte])) (by simp only [Fr.ev_tmp, Fr.ev_const, Fr.up_get, Nat.reduceLT, Nat.reduceEqDiff, ↓reduceIte, f18, f19, f29, f30, f39, f40, f41, f42, f43, f44]; try rfl) ?_
  refine Fr.l_val rfl (Fr.w_yes rfl d17 (by decide) (by simp only [Fr.ev_tmp, Fr.ev_const, Fr.up_get, Nat.reduceLT, Nat.reduceEqDiff, ↓reduceIte])) (by go_simp; first | done | (with_reducible rfl) | (with_reducible exact ⟨rfl, rfl⟩) | (with_reducible exact ⟨⟨rfl, rfl⟩, rfl⟩)) ?_
  refine Fr.l_mv rfl rfl (Fr.w_yes rfl d17 (by decide) (by simp only [Fr.ev_tmp, Fr.ev_const, Fr.up_get, Nat.reduceLT, Nat.reduceEqDiff, ↓reduceIte])) (by simp only [Fr.ev_tmp, Fr.ev_const, Fr.up_get, Nat.reduceLT, Nat.reduceEqDiff, ↓reduceIte, f18, f19, f29, f30, f39, f40, f41, f42, f43, f44]; try rfl) ?_
  refine Fr.l_val rfl (Fr.w_yes rfl d17 (by decide) (by simp only [Fr.ev_tmp, Fr.ev_const, Fr.up_get, Nat.reduceLT, Nat.reduceEqDiff, ↓reduceIte])) (by go_simp; first | done | (with_reducible rfl) | (with_reducible exact ⟨rfl, rfl⟩) | (with_reducible exact ⟨⟨rfl, rfl⟩, rfl⟩)) ?_
  refine Fr.l_val rfl (Fr.w_yes rfl d17 (by decide) (by simp only [Fr.ev_tmp, Fr.ev_const, Fr.up_get, Nat.reduceLT, Nat.reduceEqDiff, ↓reduceIte])) (by go_simp; first | done | (with_reducible rfl) | (with_reducible exact ⟨rfl, rfl⟩) | (with_reducible exact ⟨⟨rfl, rfl⟩, rfl⟩)) ?_
  refine Fr.l_val rfl (Fr.w_yes rfl d17 (by decide) (by simp only [Fr.ev_tmp, Fr.ev_const, Fr.up_get, Nat.reduceLT, Nat.reduceEqDiff, ↓reduceIte])) (by go_simp; first | done | (with_reducible rfl) | (with_reducible exact ⟨rfl, rfl⟩) | (with_reducible exact ⟨⟨rfl, rfl⟩, rfl⟩)) ?_
  (refine Fr.l_call rfl (Fr.w_yes rfl d17 (by decide) (by simp only [Fr.ev_tmp, Fr.ev_const, Fr.up_get, Nat.reduceLT, Nat.reduceEqDiff, ↓reduceIte])) (by go_simp; first | done | (with_reducible rfl) | (with_reducible exact ⟨rfl, rfl⟩) | (with_reducible exact ⟨⟨rfl, rfl⟩, rfl⟩)) ?_; refine (a2Near_any _ _ _ _ _ HF1.out).mono ?_; rintro e w352 ⟨rfl, hb352⟩; refine ⟨_, rfl, ?_⟩)
  rw [HN1.out]; replace hw := BelowC.call hw hb352
  refine Fr.l_val rfl (Fr.w_yes rfl d17 (by decide) (by simp only [Fr.ev_tmp, Fr.ev_const, Fr.up_get, Nat.reduceLT, Nat.reduceEqDiff, ↓reduceIte])) (by go_simp; first | done | (with_reducible rfl) | (with_reducible exact ⟨rfl, rfl⟩) | (with_reducible exact ⟨⟨rfl, rfl⟩, rfl⟩)) ?_
  refine Fr.l_val rfl (Fr.w_none rfl) (by go_simp; first | done | (with_reducible rfl) | (with_reducible exact ⟨rfl, rfl⟩) | (with_reducible exact ⟨⟨rfl, rfl⟩, rfl⟩)) ?_
  refine Fr.l_mv rfl rfl (Fr.w_none rfl) (by simp only [Fr.ev_tmp, Fr.ev_const, Fr.up_get, Nat.reduceLT, Nat.reduceEqDiff, ↓reduceIte, f18, f19, f29, f30, f39, f40, f41, f42, f43, f44]; try rfl) ?_
  refine Fr.l_mv rfl rfl (Fr.w_yes rfl d28 (by decide) (by simp only [Fr.ev_tmp, Fr.ev_const, Fr.up_get, Nat.reduceLT, Nat.reduceEqDiff, ↓reduceIte])) (by simp only [Fr.ev_tmp, Fr.ev_const, Fr.up_get, Nat.reduceLT, Nat.reduceEqDiff, ↓reduceIte, f18, f19, f29, f30, f39, f40, f41, f42, f43, f44]; try rfl) ?_
  refine Fr.l_mv rfl rfl (Fr.w_yes rfl d28 (by decide) (by simp only [Fr.ev_tmp, Fr.ev_const, Fr.up_get, Nat.reduceLT, Nat.reduceEqDiff, ↓reduceIte])) (by simp only [Fr.ev_tmp, Fr.ev_const, Fr.up_get, Nat.reduceLT, Nat.reduceEqDiff, ↓reduceIte, f18, f19, f29, f30, f39, f40, f41, f42, f43, f44]; try rfl) ?_
  refine Fr.l_val rfl (Fr.w_yes rfl d28 (by decide) (by simp only [Fr.ev_tmp, Fr.ev_const, Fr.up_get, Nat.reduceLT, Nat.reduceEqDiff, ↓reduceIte])) (by go_simp; first | done | (with_reducible rfl) | (with_reducible exact ⟨rfl, rfl⟩) | (with_reducible exact ⟨⟨rfl, rfl⟩, rfl⟩)) ?_
  refine Fr.l_mv rfl rfl (Fr.w_yes rfl d28 (by decide) (by simp only [Fr.ev_tmp, Fr.ev_const, Fr.up_get, Nat.reduceLT, Nat.reduceEqDiff, ↓reduceIte])) (by simp only [Fr.ev_tmp, Fr.ev_const, Fr.up_get, Nat.reduceLT, Nat.reduceEqDiff, ↓reduceIte, f18, f19, f29, f30, f39, f40, f41, f42, f43, f44]; try rfl) ?_
  refine Fr.l_val rfl (Fr.w_yes rfl d28 (by decide) (by simp only [Fr.ev_tmp, Fr.ev_const, Fr.up_get, Nat.reduceLT, Nat.reduceEqDiff, ↓reduceIte])) (by go_simp; first | done | (with_reducible rfl) | (with_reducible exact ⟨rfl, rfl⟩) | (with_reducible exact ⟨⟨rfl, rfl⟩, rfl⟩)) ?_
  refine Fr.l_val rfl (Fr.w_yes rfl d28 (by decide) (by simp only [Fr.ev_tmp, Fr.ev_const, Fr.up_get, Nat.reduceLT, Nat.reduceEqDiff, ↓reduceIte])) (by go_simp; first | done | (with_reducible rfl) | (with_reducible exact ⟨rfl, rfl⟩) | (with_reducible exact ⟨⟨rfl, rfl⟩, rfl⟩)) ?_
  refine Fr.l_val rfl (Fr.w_yes rfl d28 (by decide) (by simp only [Fr.ev_tmp, Fr.ev_const, Fr.up_get, Nat.reduceLT, Nat.reduceEqDiff, ↓reduceIte])) (by go_simp; first | done | (with_reducible rfl) | (with_reducible exact ⟨rfl, rfl⟩) | (with_reducible exact ⟨⟨rfl, rfl⟩, rfl⟩)) ?_
  (refine Fr.l_call rfl (Fr.w_yes rfl d28 (by decide) (by simp only [Fr.ev_tmp, Fr.ev_const, Fr.up_get, Nat.reduceLT, Nat.reduceEqDiff, ↓reduceIte])) (by go_simp; first | done | (with_reducible rfl) | (with_reducible exact ⟨rfl, rfl⟩) | (with_reducible exact ⟨⟨rfl, rfl⟩, rfl⟩)) ?_; refine (a2Near_any _ _ _ _ _ HF2.out).mono ?_; rintro e w363 ⟨rfl, hb363⟩; refine ⟨_, rfl, ?_⟩)
  rw [HN2.out]; replace hw := BelowC.call hw hb363
  refine Fr.l_val rfl (Fr.w_yes rfl d28 (by decide) (by simp only [Fr.ev_tmp, Fr.ev_const, Fr.up_get, Nat.reduceLT, Nat.reduceEqDiff, ↓reduceIte])) (by go_simp; first | done | (with_reducible rfl) | (with_reducible exact ⟨rfl, rfl⟩) | (with_reducible exact ⟨⟨rfl, rfl⟩, rfl⟩)) ?_
  refine Fr.l_val rfl (Fr.w_none rfl) (by go_simp; first | done | (with_reducible rfl) | (with_reducible exact ⟨rfl, rfl⟩) | (with_reducible exact ⟨⟨rfl, rfl⟩, rfl⟩)) ?_
  refine Fr.l_nil ?_
  refine Fr.l_cond (t := false) (by simp only [Fr.ev_tmp, Fr.ev_const, Fr.up_get, Nat.reduceLT, Nat.reduceEqDiff, ↓reduceIte]; try rfl) (fun h => absurd h (by decide)) (fun _ => ?_)
  refine wp_skip ?_
  refine HK.out _ _ hw ?_
  repeat (refine Fr.Agree.up (by decide) ?_)
  exact Fr.Agree.refl _ _

end Go.Proofs.YtkgfepakedieaaaGreatDoor.yTrains
