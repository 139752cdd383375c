/- The great law on trains: the guard on texts and on turning round. (written by wip/gen/trains.py.) -/
import Derived.Test.YtkgfepakedieaaaGreatDoorTcZ
import Derived.Test.YtkgfepakedieaaaGreatDoorTrZ
import Derived.Test.YtkgfepakedieaaaGreatDoorFr
import Derived.Test.YtkgfepakedieaaaGreatDoorNuZ
import Derived.Test.YtkgfepakedieaaaGreatDoorCtZs
import Derived.Test.YtkgfepakedieaaaGreatDoorZfZ
namespace Go.Proofs.YtkgfepakedieaaaGreatDoor.yTrains
open Go.RowKit
set_option linter.unusedVariables false
set_option linter.unusedSimpArgs false

noncomputable def B3 : Code := (Tryz.f3.body).getD .skip

set_option maxRecDepth 100000 in
set_option maxHeartbeats 16000000 in
theorem e11 {ps : List T3} {a5 a10 : Option Addr} {k5 k10 r : Nat} {v12 v14 v16 : Value} {W w : World} {Q : Exit → Act → World → Prop} {R : Code} {f : Nat → Value} (f5 : f 5 = .slice a5 ps.length k5) (f7 : f 7 = .float .f32 r) (f8 : f 8 = .float .f32 (cn r)) (f9 : f 9 = .int .i64 0) (f10 : f 10 = .slice a10 ps.length k10) (f11 : f 11 = .int .i64 0) (f12 : f 12 = v12) (f13 : f 13 = .int .i64 0) (f14 : f 14 = v14) (f15 : f 15 = .int .i64 0) (f16 : f 16 = v16) (f17 : f 17 = .int .i64 0)
    (T5 : Tr W (.slice a5 ps.length k5) ps) (T10 : Tr W (.slice a10 ps.length k10) ps) (T12 : Tr W v12 (backT ps)) (T14 : Tr W v14 (backT ps)) (T16 : Tr W v16 ps) (hB : trainB ps = true) (hr : r < 2 ^ 32) (hw : BelowC W w)
    (k : ∀ (w' : World) (g : Nat → Value), BelowC W w' → Fr.Agree 81 f g → Code.wp Tryz.prog R Q ⟨Fr.ft 366 g, []⟩ w') :
    Code.wp Tryz.prog ((Fr.fs (Fr.sn (Fr.sn (Fr.sn (Fr.sn (Fr.sn (Fr.sn (Fr.sn (Fr.sn (Fr.sn (Fr.sn (B3)))))))))))).seq R) Q ⟨Fr.ft 366 f, []⟩ w := by
  have H5 := Lib.hid T5
  clear T5
  have H10 := Lib.hid T10
  clear T10
  have H12 := Lib.hid T12
  clear T12
  have H14 := Lib.hid T14
  clear T14
  have H16 := Lib.hid T16
  clear T16
  have HB := Lib.hid hB
  clear hB
  have HK := Lib.hid k
  clear k
  conv => arg 2; arg 1; whnf
  have E1 := @Fr.ev_tmp 366
  have E2 := @Fr.ev_const 366
  have E3 := @Fr.up_get
  have E4 := @Fr.ev_func 366
  have E5 := @Fr.ev_global 366
  refine wp_seq ?_
  refine wp_seq ?_
  have hS : sameB (cn r) r = true := sameB_of_cn (cn_cn r)
  have HS := Lib.hid hS
  clear hS
  have hs8 : (numText r).size = 8 := numText_sizeY r
  refine wp_region_lit ?_
  refine Fr.l_ops ?_
  intro OPS hO
  have d2 : (OPS[2]?).bind (·.dst) = some 83 := by rw [hO]; kernel_rfl
  have d8 : (OPS[8]?).bind (·.dst) = some 89 := by rw [hO]; kernel_rfl
  have d14 : (OPS[14]?).bind (·.dst) = some 95 := by rw [hO]; kernel_rfl
  have d20 : (OPS[20]?).bind (·.dst) = some 101 := by rw [hO]; kernel_rfl
  have d24 : (OPS[24]?).bind (·.dst) = some 105 := by rw [hO]; kernel_rfl
  have d31 : (OPS[31]?).bind (·.dst) = some 112 := by rw [hO]; kernel_rfl
  have d37 : (OPS[37]?).bind (·.dst) = some 118 := by rw [hO]; kernel_rfl
  have d43 : (OPS[43]?).bind (·.dst) = some 124 := by rw [hO]; kernel_rfl
  have d48 : (OPS[48]?).bind (·.dst) = some 129 := by rw [hO]; kernel_rfl
  have d53 : (OPS[53]?).bind (·.dst) = some 134 := by rw [hO]; kernel_rfl
  have d57 : (OPS[57]?).bind (·.dst) = some 138 := by rw [hO]; kernel_rfl
  have d63 : (OPS[63]?).bind (·.dst) = some 144 := by rw [hO]; kernel_rfl
  have d67 : (OPS[67]?).bind (·.dst) = some 148 := by rw [hO]; kernel_rfl
  have d73 : (OPS[73]?).bind (·.dst) = some 154 := by rw [hO]; kernel_rfl
  have d80 : (OPS[80]?).bind (·.dst) = some 161 := by rw [hO]; kernel_rfl
  clear hO
  refine Fr.l_mv rfl rfl (Fr.w_none rfl) (by simp only [Fr.ev_tmp, Fr.ev_const, Fr.up_get, Nat.reduceLT, Nat.reduceEqDiff, ↓reduceIte, f5, f7, f8, f9, f10, f11, f12, f13, f14, f15, f16, f17]; try rfl) ?_
  refine Fr.l_val rfl (Fr.w_none rfl) (by go_simp; first | done | (with_reducible rfl) | (with_reducible exact ⟨rfl, rfl⟩) | (with_reducible exact ⟨⟨rfl, rfl⟩, rfl⟩)) ?_
  refine Fr.l_mv rfl rfl (Fr.w_none rfl) (by simp only [Fr.ev_tmp, Fr.ev_const, Fr.up_get, Nat.reduceLT, Nat.reduceEqDiff, ↓reduceIte, f5, f7, f8, f9, f10, f11, f12, f13, f14, f15, f16, f17]; try rfl) ?_
  refine Fr.l_mv rfl rfl (Fr.w_yes rfl d2 (by decide) (by simp only [Fr.ev_tmp, Fr.ev_const, Fr.up_get, Nat.reduceLT, Nat.reduceEqDiff, ↓reduceIte])) (by simp only [Fr.ev_tmp, Fr.ev_const, Fr.up_get, Nat.reduceLT, Nat.reduceEqDiff, ↓reduceIte, f5, f7, f8, f9, f10, f11, f12, f13, f14, f15, f16, f17]; try rfl) ?_
  refine Fr.l_mv rfl rfl (Fr.w_yes rfl d2 (by decide) (by simp only [Fr.ev_tmp, Fr.ev_const, Fr.up_get, Nat.reduceLT, Nat.reduceEqDiff, ↓reduceIte])) (by simp only [Fr.ev_tmp, Fr.ev_const, Fr.up_get, Nat.reduceLT, Nat.reduceEqDiff, ↓reduceIte, f5, f7, f8, f9, f10, f11, f12, f13, f14, f15, f16, f17]; try rfl) ?_
  (refine Fr.l_call rfl (Fr.w_yes rfl d2 (by decide) (by simp only [Fr.ev_tmp, Fr.ev_const, Fr.up_get, Nat.reduceLT, Nat.reduceEqDiff, ↓reduceIte])) (by go_simp; first | done | (with_reducible rfl) | (with_reducible exact ⟨rfl, rfl⟩) | (with_reducible exact ⟨⟨rfl, rfl⟩, rfl⟩)) ?_; refine (specSame_any _ _ _).mono ?_; rintro e w86 ⟨rfl, rfl⟩; refine ⟨_, rfl, ?_⟩)
  rw [HS.out]
  refine Fr.l_val rfl (Fr.w_yes rfl d2 (by decide) (by simp only [Fr.ev_tmp, Fr.ev_const, Fr.up_get, Nat.reduceLT, Nat.reduceEqDiff, ↓reduceIte])) (by go_simp; first | done | (with_reducible rfl) | (with_reducible exact ⟨rfl, rfl⟩) | (with_reducible exact ⟨⟨rfl, rfl⟩, rfl⟩)) ?_
  refine Fr.l_val rfl (Fr.w_none rfl) (by go_simp; first | done | (with_reducible rfl) | (with_reducible exact ⟨rfl, rfl⟩) | (with_reducible exact ⟨⟨rfl, rfl⟩, rfl⟩)) ?_
  refine Fr.l_mv rfl rfl (Fr.w_none rfl) (by simp only [Fr.ev_tmp, Fr.ev_const, Fr.up_get, Nat.reduceLT, Nat.reduceEqDiff, ↓reduceIte, f5, f7, f8, f9, f10, f11, f12, f13, f14, f15, f16, f17]; try rfl) ?_
  refine Fr.l_mv rfl rfl (Fr.w_yes rfl d8 (by decide) (by simp only [Fr.ev_tmp, Fr.ev_const, Fr.up_get, Nat.reduceLT, Nat.reduceEqDiff, ↓reduceIte])) (by simp only [Fr.ev_tmp, Fr.ev_const, Fr.up_get, Nat.reduceLT, Nat.reduceEqDiff, ↓reduceIte, f5, f7, f8, f9, f10, f11, f12, f13, f14, f15, f16, f17]; try rfl) ?_
  refine Fr.l_mv rfl rfl (Fr.w_yes rfl d8 (by decide) (by simp only [Fr.ev_tmp, Fr.ev_const, Fr.up_get, Nat.reduceLT, Nat.reduceEqDiff, ↓reduceIte])) (by simp only [Fr.ev_tmp, Fr.ev_const, Fr.up_get, Nat.reduceLT, Nat.reduceEqDiff, ↓reduceIte, f5, f7, f8, f9, f10, f11, f12, f13, f14, f15, f16, f17]; try rfl) ?_
  (refine Fr.l_call rfl (Fr.w_yes rfl d8 (by decide) (by simp only [Fr.ev_tmp, Fr.ev_const, Fr.up_get, Nat.reduceLT, Nat.reduceEqDiff, ↓reduceIte])) (by go_simp; first | done | (with_reducible rfl) | (with_reducible exact ⟨rfl, rfl⟩) | (with_reducible exact ⟨⟨rfl, rfl⟩, rfl⟩)) ?_; refine (implSame_any _ _ _).mono ?_; rintro e w92 ⟨rfl, rfl⟩; refine ⟨_, rfl, ?_⟩)
  rw [HS.out]
  refine Fr.l_val rfl (Fr.w_yes rfl d8 (by decide) (by simp only [Fr.ev_tmp, Fr.ev_const, Fr.up_get, Nat.reduceLT, Nat.reduceEqDiff, ↓reduceIte])) (by go_simp; first | done | (with_reducible rfl) | (with_reducible exact ⟨rfl, rfl⟩) | (with_reducible exact ⟨⟨rfl, rfl⟩, rfl⟩)) ?_
  refine Fr.l_val rfl (Fr.w_none rfl) (by go_simp; first | done | (with_reducible rfl) | (with_reducible exact ⟨rfl, rfl⟩) | (with_reducible exact ⟨⟨rfl, rfl⟩, rfl⟩)) ?_
  refine Fr.l_mv rfl rfl (Fr.w_none rfl) (by simp only [Fr.ev_tmp, Fr.ev_const, Fr.up_get, Nat.reduceLT, Nat.reduceEqDiff, ↓reduceIte, f5, f7, f8, f9, f10, f11, f12, f13, f14, f15, f16, f17]; try rfl) ?_
  refine Fr.l_mv rfl rfl (Fr.w_yes rfl d14 (by decide) (by simp only [Fr.ev_tmp, Fr.ev_const, Fr.up_get, Nat.reduceLT, Nat.reduceEqDiff, ↓reduceIte])) (by simp only [Fr.ev_tmp, Fr.ev_const, Fr.up_get, Nat.reduceLT, Nat.reduceEqDiff, ↓reduceIte, f5, f7, f8, f9, f10, f11, f12, f13, f14, f15, f16, f17]; try rfl) ?_
  (refine Fr.l_call rfl (Fr.w_yes rfl d14 (by decide) (by simp only [Fr.ev_tmp, Fr.ev_const, Fr.up_get, Nat.reduceLT, Nat.reduceEqDiff, ↓reduceIte])) (by go_simp; first | done | (with_reducible rfl) | (with_reducible exact ⟨rfl, rfl⟩) | (with_reducible exact ⟨⟨rfl, rfl⟩, rfl⟩)) ?_; refine (implNumberText_any _ hr _).mono ?_; rintro e w97 ⟨rfl, hb97⟩; refine ⟨_, rfl, ?_⟩)
  replace hw := BelowC.call hw hb97
  refine Fr.l_val rfl (Fr.w_yes rfl d14 (by decide) (by simp only [Fr.ev_tmp, Fr.ev_const, Fr.up_get, Nat.reduceLT, Nat.reduceEqDiff, ↓reduceIte])) (by go_simp; first | done | (with_reducible rfl) | (with_reducible exact ⟨rfl, rfl⟩) | (with_reducible exact ⟨⟨rfl, rfl⟩, rfl⟩)) ?_
  refine Fr.l_val rfl (Fr.w_yes rfl d14 (by decide) (by simp only [Fr.ev_tmp, Fr.ev_const, Fr.up_get, Nat.reduceLT, Nat.reduceEqDiff, ↓reduceIte])) (by go_simp; first | done | (with_reducible rfl) | (with_reducible exact ⟨rfl, rfl⟩) | (with_reducible exact ⟨⟨rfl, rfl⟩, rfl⟩)) ?_
  refine Fr.l_val rfl (Fr.w_none rfl) (by go_simp; first | done | (with_reducible rfl) | (with_reducible exact ⟨rfl, rfl⟩) | (with_reducible exact ⟨⟨rfl, rfl⟩, rfl⟩)) ?_
  refine Fr.l_mv rfl rfl (Fr.w_none rfl) (by simp only [Fr.ev_tmp, Fr.ev_const, Fr.up_get, Nat.reduceLT, Nat.reduceEqDiff, ↓reduceIte, f5, f7, f8, f9, f10, f11, f12, f13, f14, f15, f16, f17]; try rfl) ?_
  refine Fr.l_mv rfl rfl (Fr.w_yes rfl d20 (by decide) (by simp only [Fr.ev_tmp, Fr.ev_const, Fr.up_get, Nat.reduceLT, Nat.reduceEqDiff, ↓reduceIte])) (by simp only [Fr.ev_tmp, Fr.ev_const, Fr.up_get, Nat.reduceLT, Nat.reduceEqDiff, ↓reduceIte, f5, f7, f8, f9, f10, f11, f12, f13, f14, f15, f16, f17]; try rfl) ?_
  refine Fr.l_val rfl (Fr.w_yes rfl d20 (by decide) (by simp only [Fr.ev_tmp, Fr.ev_const, Fr.up_get, Nat.reduceLT, Nat.reduceEqDiff, ↓reduceIte])) (by go_simp; first | done | (with_reducible rfl) | (with_reducible exact ⟨rfl, rfl⟩) | (with_reducible exact ⟨⟨rfl, rfl⟩, rfl⟩)) ?_
  refine Fr.l_val rfl (Fr.w_none rfl) (by go_simp; first | done | (with_reducible rfl) | (with_reducible exact ⟨rfl, rfl⟩) | (with_reducible exact ⟨⟨rfl, rfl⟩, rfl⟩)) ?_
  refine Fr.l_mv rfl rfl (Fr.w_none rfl) (by simp only [Fr.ev_tmp, Fr.ev_const, Fr.up_get, Nat.reduceLT, Nat.reduceEqDiff, ↓reduceIte, f5, f7, f8, f9, f10, f11, f12, f13, f14, f15, f16, f17]; try rfl) ?_
  refine Fr.l_mv rfl rfl (Fr.w_yes rfl d24 (by decide) (by simp only [Fr.ev_tmp, Fr.ev_const, Fr.up_get, Nat.reduceLT, Nat.reduceEqDiff, ↓reduceIte])) (by simp only [Fr.ev_tmp, Fr.ev_const, Fr.up_get, Nat.reduceLT, Nat.reduceEqDiff, ↓reduceIte, f5, f7, f8, f9, f10, f11, f12, f13, f14, f15, f16, f17]; try rfl) ?_
  refine Fr.l_val rfl (Fr.w_yes rfl d24 (by decide) (by simp only [Fr.ev_tmp, Fr.ev_const, Fr.up_get, Nat.reduceLT, Nat.reduceEqDiff, ↓reduceIte])) (by go_simp; first | done | (with_reducible rfl) | (with_reducible exact ⟨rfl, rfl⟩) | (with_reducible exact ⟨⟨rfl, rfl⟩, rfl⟩)) ?_
  refine Fr.l_mv rfl rfl (Fr.w_yes rfl d24 (by decide) (by simp only [Fr.ev_tmp, Fr.ev_const, Fr.up_get, Nat.reduceLT, Nat.reduceEqDiff, ↓reduceIte])) (by simp only [Fr.ev_tmp, Fr.ev_const, Fr.up_get, Nat.reduceLT, Nat.reduceEqDiff, ↓reduceIte, f5, f7, f8, f9, f10, f11, f12, f13, f14, f15, f16, f17]; try rfl) ?_
  refine Fr.l_val rfl (Fr.w_yes rfl d24 (by decide) (by simp only [Fr.ev_tmp, Fr.ev_const, Fr.up_get, Nat.reduceLT, Nat.reduceEqDiff, ↓reduceIte])) (by go_simp; first | done | (with_reducible rfl) | (with_reducible exact ⟨rfl, rfl⟩) | (with_reducible exact ⟨⟨rfl, rfl⟩, rfl⟩)) ?_
  refine Fr.l_val rfl (Fr.w_yes rfl d24 (by decide) (by simp only [Fr.ev_tmp, Fr.ev_const, Fr.up_get, Nat.reduceLT, Nat.reduceEqDiff, ↓reduceIte])) (by go_simp; first | done | (with_reducible rfl) | (with_reducible exact ⟨rfl, rfl⟩) | (with_reducible exact ⟨⟨rfl, rfl⟩, rfl⟩)) ?_
  refine Fr.l_val rfl (Fr.w_none rfl) (by go_simp; first | done | (with_reducible rfl) | (with_reducible exact ⟨rfl, rfl⟩) | (with_reducible exact ⟨⟨rfl, rfl⟩, rfl⟩)) ?_
  refine Fr.l_mv rfl rfl (Fr.w_none rfl) (by simp only [Fr.ev_tmp, Fr.ev_const, Fr.up_get, Nat.reduceLT, Nat.reduceEqDiff, ↓reduceIte, f5, f7, f8, f9, f10, f11, f12, f13, f14, f15, f16, f17]; try rfl) ?_
  refine Fr.l_mv rfl rfl (Fr.w_yes rfl d31 (by decide) (by simp only [Fr.ev_tmp, Fr.ev_const, Fr.up_get, Nat.reduceLT, Nat.reduceEqDiff, ↓reduceIte])) (by simp only [Fr.ev_tmp, Fr.ev_const, Fr.up_get, Nat.reduceLT, Nat.reduceEqDiff, ↓reduceIte, f5, f7, f8, f9, f10, f11, f12, f13, f14, f15, f16, f17]; try rfl) ?_
  refine Fr.l_mv rfl rfl (Fr.w_yes rfl d31 (by decide) (by simp only [Fr.ev_tmp, Fr.ev_const, Fr.up_get, Nat.reduceLT, Nat.reduceEqDiff, ↓reduceIte])) (by simp only [Fr.ev_tmp, Fr.ev_const, Fr.up_get, Nat.reduceLT, Nat.reduceEqDiff, ↓reduceIte, f5, f7, f8, f9, f10, f11, f12, f13, f14, f15, f16, f17]; try rfl) ?_
  (refine Fr.l_call rfl (Fr.w_yes rfl d31 (by decide) (by simp only [Fr.ev_tmp, Fr.ev_const, Fr.up_get, Nat.reduceLT, Nat.reduceEqDiff, ↓reduceIte])) (by go_simp; first | done | (with_reducible rfl) | (with_reducible exact ⟨rfl, rfl⟩) | (with_reducible exact ⟨⟨rfl, rfl⟩, rfl⟩)) ?_; refine (specSameTrain_any ps ps _ _ _ (H10.out.below (BelowC.out hw)) (H5.out.below (BelowC.out hw))).mono ?_; rintro e w115 ⟨rfl, hb115⟩; refine ⟨_, rfl, ?_⟩)
  rw [sameTB_refl]; replace hw := BelowC.call hw hb115
  refine Fr.l_val rfl (Fr.w_yes rfl d31 (by decide) (by simp only [Fr.ev_tmp, Fr.ev_const, Fr.up_get, Nat.reduceLT, Nat.reduceEqDiff, ↓reduceIte])) (by go_simp; first | done | (with_reducible rfl) | (with_reducible exact ⟨rfl, rfl⟩) | (with_reducible exact ⟨⟨rfl, rfl⟩, rfl⟩)) ?_
  refine Fr.l_val rfl (Fr.w_none rfl) (by go_simp; first | done | (with_reducible rfl) | (with_reducible exact ⟨rfl, rfl⟩) | (with_reducible exact ⟨⟨rfl, rfl⟩, rfl⟩)) ?_
  refine Fr.l_mv rfl rfl (Fr.w_none rfl) (by simp only [Fr.ev_tmp, Fr.ev_const, Fr.up_get, Nat.reduceLT, Nat.reduceEqDiff, ↓reduceIte, f5, f7, f8, f9, f10, f11, f12, f13, f14, f15, f16, f17]; try rfl) ?_
  refine Fr.l_mv rfl rfl (Fr.w_yes rfl d37 (by decide) (by simp only [Fr.ev_tmp, Fr.ev_const, Fr.up_get, Nat.reduceLT, Nat.reduceEqDiff, ↓reduceIte])) (by simp only [Fr.ev_tmp, Fr.ev_const, Fr.up_get, Nat.reduceLT, Nat.reduceEqDiff, ↓reduceIte, f5, f7, f8, f9, f10, f11, f12, f13, f14, f15, f16, f17]; try rfl) ?_
  refine Fr.l_mv rfl rfl (Fr.w_yes rfl d37 (by decide) (by simp only [Fr.ev_tmp, Fr.ev_const, Fr.up_get, Nat.reduceLT, Nat.reduceEqDiff, ↓reduceIte])) (by simp only [Fr.ev_tmp, Fr.ev_const, Fr.up_get, Nat.reduceLT, Nat.reduceEqDiff, ↓reduceIte, f5, f7, f8, f9, f10, f11, f12, f13, f14, f15, f16, f17]; try rfl) ?_
  (refine Fr.l_call rfl (Fr.w_yes rfl d37 (by decide) (by simp only [Fr.ev_tmp, Fr.ev_const, Fr.up_get, Nat.reduceLT, Nat.reduceEqDiff, ↓reduceIte])) (by go_simp; first | done | (with_reducible rfl) | (with_reducible exact ⟨rfl, rfl⟩) | (with_reducible exact ⟨⟨rfl, rfl⟩, rfl⟩)) ?_; refine (implSameTrain_any ps ps _ _ _ (H10.out.below (BelowC.out hw)) (H5.out.below (BelowC.out hw))).mono ?_; rintro e w121 ⟨rfl, hb121⟩; refine ⟨_, rfl, ?_⟩)
  rw [sameTB_refl]; replace hw := BelowC.call hw hb121
  refine Fr.l_val rfl (Fr.w_yes rfl d37 (by decide) (by simp only [Fr.ev_tmp, Fr.ev_const, Fr.up_get, Nat.reduceLT, Nat.reduceEqDiff, ↓reduceIte])) (by go_simp; first | done | (with_reducible rfl) | (with_reducible exact ⟨rfl, rfl⟩) | (with_reducible exact ⟨⟨rfl, rfl⟩, rfl⟩)) ?_
  refine Fr.l_val rfl (Fr.w_none rfl) (by go_simp; first | done | (with_reducible rfl) | (with_reducible exact ⟨rfl, rfl⟩) | (with_reducible exact ⟨⟨rfl, rfl⟩, rfl⟩)) ?_
  refine Fr.l_mv rfl rfl (Fr.w_none rfl) (by simp only [Fr.ev_tmp, Fr.ev_const, Fr.up_get, Nat.reduceLT, Nat.reduceEqDiff, ↓reduceIte, f5, f7, f8, f9, f10, f11, f12, f13, f14, f15, f16, f17]; try rfl) ?_
  refine Fr.l_mv rfl rfl (Fr.w_yes rfl d43 (by decide) (by simp only [Fr.ev_tmp, Fr.ev_const, Fr.up_get, Nat.reduceLT, Nat.reduceEqDiff, ↓reduceIte])) (by simp only [Fr.ev_tmp, Fr.ev_const, Fr.up_get, Nat.reduceLT, Nat.reduceEqDiff, ↓reduceIte, f5, f7, f8, f9, f10, f11, f12, f13, f14, f15, f16, f17]; try rfl) ?_
  (refine Fr.l_call rfl (Fr.w_yes rfl d43 (by decide) (by simp only [Fr.ev_tmp, Fr.ev_const, Fr.up_get, Nat.reduceLT, Nat.reduceEqDiff, ↓reduceIte])) (by go_simp; first | done | (with_reducible rfl) | (with_reducible exact ⟨rfl, rfl⟩) | (with_reducible exact ⟨⟨rfl, rfl⟩, rfl⟩)) ?_; refine (implValidTrain_any ps _ _ (H5.out.below (BelowC.out hw))).mono ?_; rintro e w126 ⟨rfl, hb126⟩; refine ⟨_, rfl, ?_⟩)
  rw [HB.out]; replace hw := BelowC.call hw hb126
  refine Fr.l_val rfl (Fr.w_yes rfl d43 (by decide) (by simp only [Fr.ev_tmp, Fr.ev_const, Fr.up_get, Nat.reduceLT, Nat.reduceEqDiff, ↓reduceIte])) (by go_simp; first | done | (with_reducible rfl) | (with_reducible exact ⟨rfl, rfl⟩) | (with_reducible exact ⟨⟨rfl, rfl⟩, rfl⟩)) ?_
  refine Fr.l_val rfl (Fr.w_none rfl) (by go_simp; first | done | (with_reducible rfl) | (with_reducible exact ⟨rfl, rfl⟩) | (with_reducible exact ⟨⟨rfl, rfl⟩, rfl⟩)) ?_
  refine Fr.l_mv rfl rfl (Fr.w_none rfl) (by simp only [Fr.ev_tmp, Fr.ev_const, Fr.up_get, Nat.reduceLT, Nat.reduceEqDiff, ↓reduceIte, f5, f7, f8, f9, f10, f11, f12, f13, f14, f15, f16, f17]; try rfl) ?_
  refine Fr.l_mv rfl rfl (Fr.w_yes rfl d48 (by decide) (by simp only [Fr.ev_tmp, Fr.ev_const, Fr.up_get, Nat.reduceLT, Nat.reduceEqDiff, ↓reduceIte])) (by simp only [Fr.ev_tmp, Fr.ev_const, Fr.up_get, Nat.reduceLT, Nat.reduceEqDiff, ↓reduceIte, f5, f7, f8, f9, f10, f11, f12, f13, f14, f15, f16, f17]; try rfl) ?_
  refine Fr.l_mv rfl rfl (Fr.w_yes rfl d48 (by decide) (by simp only [Fr.ev_tmp, Fr.ev_const, Fr.up_get, Nat.reduceLT, Nat.reduceEqDiff, ↓reduceIte])) (by simp only [Fr.ev_tmp, Fr.ev_const, Fr.up_get, Nat.reduceLT, Nat.reduceEqDiff, ↓reduceIte, f5, f7, f8, f9, f10, f11, f12, f13, f14, f15, f16, f17]; try rfl) ?_
  refine Fr.l_val rfl (Fr.w_yes rfl d48 (by decide) (by simp only [Fr.ev_tmp, Fr.ev_const, Fr.up_get, Nat.reduceLT, Nat.reduceEqDiff, ↓reduceIte])) (by go_simp; first | done | (with_reducible rfl) | (with_reducible exact ⟨rfl, rfl⟩) | (with_reducible exact ⟨⟨rfl, rfl⟩, rfl⟩)) ?_
  refine Fr.l_val rfl (Fr.w_none rfl) (by go_simp; first | done | (with_reducible rfl) | (with_reducible exact ⟨rfl, rfl⟩) | (with_reducible exact ⟨⟨rfl, rfl⟩, rfl⟩)) ?_
  refine Fr.l_mv rfl rfl (Fr.w_none rfl) (by simp only [Fr.ev_tmp, Fr.ev_const, Fr.up_get, Nat.reduceLT, Nat.reduceEqDiff, ↓reduceIte, f5, f7, f8, f9, f10, f11, f12, f13, f14, f15, f16, f17]; try rfl) ?_
  refine Fr.l_mv rfl rfl (Fr.w_yes rfl d53 (by decide) (by simp only [Fr.ev_tmp, Fr.ev_const, Fr.up_get, Nat.reduceLT, Nat.reduceEqDiff, ↓reduceIte])) (by simp only [Fr.ev_tmp, Fr.ev_const, Fr.up_get, Nat.reduceLT, Nat.reduceEqDiff, ↓reduceIte, f5, f7, f8, f9, f10, f11, f12, f13, f14, f15, f16, f17]; try rfl) ?_
  refine Fr.l_val rfl (Fr.w_yes rfl d53 (by decide) (by simp only [Fr.ev_tmp, Fr.ev_const, Fr.up_get, Nat.reduceLT, Nat.reduceEqDiff, ↓reduceIte])) (by go_simp; first | done | (with_reducible rfl) | (with_reducible exact ⟨rfl, rfl⟩) | (with_reducible exact ⟨⟨rfl, rfl⟩, rfl⟩)) ?_
  refine Fr.l_val rfl (Fr.w_none rfl) (by go_simp; first | done | (with_reducible rfl) | (with_reducible exact ⟨rfl, rfl⟩) | (with_reducible exact ⟨⟨rfl, rfl⟩, rfl⟩)) ?_
  refine Fr.l_mv rfl rfl (Fr.w_none rfl) (by simp only [Fr.ev_tmp, Fr.ev_const, Fr.up_get, Nat.reduceLT, Nat.reduceEqDiff, ↓reduceIte, f5, f7, f8, f9, f10, f11, f12, f13, f14, f15, f16, f17]; try rfl) ?_
  refine Fr.l_mv rfl rfl (Fr.w_yes rfl d57 (by decide) (by simp only [Fr.ev_tmp, Fr.ev_const, Fr.up_get, Nat.reduceLT, Nat.reduceEqDiff, ↓reduceIte])) (by simp only [Fr.ev_tmp, Fr.ev_const, Fr.up_get, Nat.reduceLT, Nat.reduceEqDiff, ↓reduceIte, f5, f7, f8, f9, f10, f11, f12, f13, f14, f15, f16, f17]; try rfl) ?_
  refine Fr.l_mv rfl rfl (Fr.w_yes rfl d57 (by decide) (by simp only [Fr.ev_tmp, Fr.ev_const, Fr.up_get, Nat.reduceLT, Nat.reduceEqDiff, ↓reduceIte])) (by simp only [Fr.ev_tmp, Fr.ev_const, Fr.up_get, Nat.reduceLT, Nat.reduceEqDiff, ↓reduceIte, f5, f7, f8, f9, f10, f11, f12, f13, f14, f15, f16, f17]; try rfl) ?_
  (refine Fr.l_call rfl (Fr.w_yes rfl d57 (by decide) (by simp only [Fr.ev_tmp, Fr.ev_const, Fr.up_get, Nat.reduceLT, Nat.reduceEqDiff, ↓reduceIte])) (by go_simp; first | done | (with_reducible rfl) | (with_reducible exact ⟨rfl, rfl⟩) | (with_reducible exact ⟨⟨rfl, rfl⟩, rfl⟩)) ?_; refine (specSameTrain_any (backT ps) (backT ps) _ _ _ (H12.out.below (BelowC.out hw)) (H14.out.below (BelowC.out hw))).mono ?_; rintro e w141 ⟨rfl, hb141⟩; refine ⟨_, rfl, ?_⟩)
  rw [sameTB_refl]; replace hw := BelowC.call hw hb141
  refine Fr.l_val rfl (Fr.w_yes rfl d57 (by decide) (by simp only [Fr.ev_tmp, Fr.ev_const, Fr.up_get, Nat.reduceLT, Nat.reduceEqDiff, ↓reduceIte])) (by go_simp; first | done | (with_reducible rfl) | (with_reducible exact ⟨rfl, rfl⟩) | (with_reducible exact ⟨⟨rfl, rfl⟩, rfl⟩)) ?_
  refine Fr.l_val rfl (Fr.w_none rfl) (by go_simp; first | done | (with_reducible rfl) | (with_reducible exact ⟨rfl, rfl⟩) | (with_reducible exact ⟨⟨rfl, rfl⟩, rfl⟩)) ?_
  refine Fr.l_mv rfl rfl (Fr.w_none rfl) (by simp only [Fr.ev_tmp, Fr.ev_const, Fr.up_get, Nat.reduceLT, Nat.reduceEqDiff, ↓reduceIte, f5, f7, f8, f9, f10, f11, f12, f13, f14, f15, f16, f17]; try rfl) ?_
  refine Fr.l_mv rfl rfl (Fr.w_yes rfl d63 (by decide) (by simp only [Fr.ev_tmp, Fr.ev_const, Fr.up_get, Nat.reduceLT, Nat.reduceEqDiff, ↓reduceIte])) (by simp only [Fr.ev_tmp, Fr.ev_const, Fr.up_get, Nat.reduceLT, Nat.reduceEqDiff, ↓reduceIte, f5, f7, f8, f9, f10, f11, f12, f13, f14, f15, f16, f17]; try rfl) ?_
  refine Fr.l_val rfl (Fr.w_yes rfl d63 (by decide) (by simp only [Fr.ev_tmp, Fr.ev_const, Fr.up_get, Nat.reduceLT, Nat.reduceEqDiff, ↓reduceIte])) (by go_simp; first | done | (with_reducible rfl) | (with_reducible exact ⟨rfl, rfl⟩) | (with_reducible exact ⟨⟨rfl, rfl⟩, rfl⟩)) ?_
  refine Fr.l_val rfl (Fr.w_none rfl) (by go_simp; first | done | (with_reducible rfl) | (with_reducible exact ⟨rfl, rfl⟩) | (with_reducible exact ⟨⟨rfl, rfl⟩, rfl⟩)) ?_
  refine Fr.l_mv rfl rfl (Fr.w_none rfl) (by simp only [Fr.ev_tmp, Fr.ev_const, Fr.up_get, Nat.reduceLT, Nat.reduceEqDiff, ↓reduceIte, f5, f7, f8, f9, f10, f11, f12, f13, f14, f15, f16, f17]; try rfl) ?_
  refine Fr.l_mv rfl rfl (Fr.w_yes rfl d67 (by decide) (by simp only [Fr.ev_tmp, Fr.ev_const, Fr.up_get, Nat.reduceLT, Nat.reduceEqDiff, ↓reduceIte])) (by simp only [Fr.ev_tmp, Fr.ev_const, Fr.up_get, Nat.reduceLT, Nat.reduceEqDiff, ↓reduceIte, f5, f7, f8, f9, f10, f11, f12, f13, f14, f15, f16, f17]; try rfl) ?_
  refine Fr.l_mv rfl rfl (Fr.w_yes rfl d67 (by decide) (by simp only [Fr.ev_tmp, Fr.ev_const, Fr.up_get, Nat.reduceLT, Nat.reduceEqDiff, ↓reduceIte])) (by simp only [Fr.ev_tmp, Fr.ev_const, Fr.up_get, Nat.reduceLT, Nat.reduceEqDiff, ↓reduceIte, f5, f7, f8, f9, f10, f11, f12, f13, f14, f15, f16, f17]; try rfl) ?_
  (refine Fr.l_call rfl (Fr.w_yes rfl d67 (by decide) (by simp only [Fr.ev_tmp, Fr.ev_const, Fr.up_get, Nat.reduceLT, Nat.reduceEqDiff, ↓reduceIte])) (by go_simp; first | done | (with_reducible rfl) | (with_reducible exact ⟨rfl, rfl⟩) | (with_reducible exact ⟨⟨rfl, rfl⟩, rfl⟩)) ?_; refine (specSameTrain_any ps ps _ _ _ (H16.out.below (BelowC.out hw)) (H5.out.below (BelowC.out hw))).mono ?_; rintro e w151 ⟨rfl, hb151⟩; refine ⟨_, rfl, ?_⟩)
  rw [sameTB_refl]; replace hw := BelowC.call hw hb151
  refine Fr.l_val rfl (Fr.w_yes rfl d67 (by decide) (by simp only [Fr.ev_tmp, Fr.ev_const, Fr.up_get, Nat.reduceLT, Nat.reduceEqDiff, ↓reduceIte])) (by go_simp; first | done | (with_reducible rfl) | (with_reducible exact ⟨rfl, rfl⟩) | (with_reducible exact ⟨⟨rfl, rfl⟩, rfl⟩)) ?_
  refine Fr.l_val rfl (Fr.w_none rfl) (by go_simp; first | done | (with_reducible rfl) | (with_reducible exact ⟨rfl, rfl⟩) | (with_reducible exact ⟨⟨rfl, rfl⟩, rfl⟩)) ?_
  refine Fr.l_mv rfl rfl (Fr.w_none rfl) (by simp only [Fr.ev_tmp, Fr.ev_const, Fr.up_get, Nat.reduceLT, Nat.reduceEqDiff, ↓reduceIte, f5, f7, f8, f9, f10, f11, f12, f13, f14, f15, f16, f17]; try rfl) ?_
  refine Fr.l_mv rfl rfl (Fr.w_yes rfl d73 (by decide) (by simp only [Fr.ev_tmp, Fr.ev_const, Fr.up_get, Nat.reduceLT, Nat.reduceEqDiff, ↓reduceIte])) (by simp only [Fr.ev_tmp, Fr.ev_const, Fr.up_get, Nat.reduceLT, Nat.reduceEqDiff, ↓reduceIte, f5, f7, f8, f9, f10, f11, f12, f13, f14, f15, f16, f17]; try rfl) ?_
  (refine Fr.l_call rfl (Fr.w_yes rfl d73 (by decide) (by simp only [Fr.ev_tmp, Fr.ev_const, Fr.up_get, Nat.reduceLT, Nat.reduceEqDiff, ↓reduceIte])) (by go_simp; first | done | (with_reducible rfl) | (with_reducible exact ⟨rfl, rfl⟩) | (with_reducible exact ⟨⟨rfl, rfl⟩, rfl⟩)) ?_; refine (impl_IsPart_any _ _).mono ?_; rintro e w156 ⟨rfl, rfl⟩; refine ⟨_, rfl, ?_⟩)
  refine Fr.l_mv rfl rfl (Fr.w_yes rfl d73 (by decide) (by simp only [Fr.ev_tmp, Fr.ev_const, Fr.up_get, Nat.reduceLT, Nat.reduceEqDiff, ↓reduceIte])) (by simp only [Fr.ev_tmp, Fr.ev_const, Fr.up_get, Nat.reduceLT, Nat.reduceEqDiff, ↓reduceIte, f5, f7, f8, f9, f10, f11, f12, f13, f14, f15, f16, f17]; try rfl) ?_
  (refine Fr.l_call rfl (Fr.w_yes rfl d73 (by decide) (by simp only [Fr.ev_tmp, Fr.ev_const, Fr.up_get, Nat.reduceLT, Nat.reduceEqDiff, ↓reduceIte])) (by go_simp; first | done | (with_reducible rfl) | (with_reducible exact ⟨rfl, rfl⟩) | (with_reducible exact ⟨⟨rfl, rfl⟩, rfl⟩)) ?_; refine (spec_IsPart_any _ _).mono ?_; rintro e w158 ⟨rfl, rfl⟩; refine ⟨_, rfl, ?_⟩)
  refine Fr.l_val rfl (Fr.w_yes rfl d73 (by decide) (by simp only [Fr.ev_tmp, Fr.ev_const, Fr.up_get, Nat.reduceLT, Nat.reduceEqDiff, ↓reduceIte])) (by go_simp; first | done | (with_reducible rfl) | (with_reducible exact ⟨rfl, rfl⟩) | (with_reducible exact ⟨⟨rfl, rfl⟩, rfl⟩)) ?_
  refine Fr.l_val rfl (Fr.w_none rfl) (by go_simp; first | done | (with_reducible rfl) | (with_reducible exact ⟨rfl, rfl⟩) | (with_reducible exact ⟨⟨rfl, rfl⟩, rfl⟩)) ?_
  refine Fr.l_mv rfl rfl (Fr.w_none rfl) (by simp only [Fr.ev_tmp, Fr.ev_const, Fr.up_get, Nat.reduceLT, Nat.reduceEqDiff, ↓reduceIte, f5, f7, f8, f9, f10, f11, f12, f13, f14, f15, f16, f17]; try rfl) ?_
  refine Fr.l_mv rfl rfl (Fr.w_yes rfl d80 (by decide) (by simp only [Fr.ev_tmp, Fr.ev_const, Fr.up_get, Nat.reduceLT, Nat.reduceEqDiff, ↓reduceIte])) (by simp only [Fr.ev_tmp, Fr.ev_const, Fr.up_get, Nat.reduceLT, Nat.reduceEqDiff, ↓reduceIte, f5, f7, f8, f9, f10, f11, f12, f13, f14, f15, f16, f17]; try rfl) ?_
  (refine Fr.l_call rfl (Fr.w_yes rfl d80 (by decide) (by simp only [Fr.ev_tmp, Fr.ev_const, Fr.up_get, Nat.reduceLT, Nat.reduceEqDiff, ↓reduceIte])) (by go_simp; first | done | (with_reducible rfl) | (with_reducible exact ⟨rfl, rfl⟩) | (with_reducible exact ⟨⟨rfl, rfl⟩, rfl⟩)) ?_; refine (impl_IsPlain_any _ _).mono ?_; rintro e w163 ⟨rfl, rfl⟩; refine ⟨_, rfl, ?_⟩)
  refine Fr.l_mv rfl rfl (Fr.w_yes rfl d80 (by decide) (by simp only [Fr.ev_tmp, Fr.ev_const, Fr.up_get, Nat.reduceLT, Nat.reduceEqDiff, ↓reduceIte])) (by simp only [Fr.ev_tmp, Fr.ev_const, Fr.up_get, Nat.reduceLT, Nat.reduceEqDiff, ↓reduceIte, f5, f7, f8, f9, f10, f11, f12, f13, f14, f15, f16, f17]; try rfl) ?_
  (refine Fr.l_call rfl (Fr.w_yes rfl d80 (by decide) (by simp only [Fr.ev_tmp, Fr.ev_const, Fr.up_get, Nat.reduceLT, Nat.reduceEqDiff, ↓reduceIte])) (by go_simp; first | done | (with_reducible rfl) | (with_reducible exact ⟨rfl, rfl⟩) | (with_reducible exact ⟨⟨rfl, rfl⟩, rfl⟩)) ?_; refine (spec_IsPlain_any _ _).mono ?_; rintro e w165 ⟨rfl, rfl⟩; refine ⟨_, rfl, ?_⟩)
  refine Fr.l_val rfl (Fr.w_yes rfl d80 (by decide) (by simp only [Fr.ev_tmp, Fr.ev_const, Fr.up_get, Nat.reduceLT, Nat.reduceEqDiff, ↓reduceIte])) (by go_simp; first | done | (with_reducible rfl) | (with_reducible exact ⟨rfl, rfl⟩) | (with_reducible exact ⟨⟨rfl, rfl⟩, rfl⟩)) ?_
  refine Fr.l_val rfl (Fr.w_none rfl) (by go_simp; first | done | (with_reducible rfl) | (with_reducible exact ⟨rfl, rfl⟩) | (with_reducible exact ⟨⟨rfl, rfl⟩, rfl⟩)) ?_
  refine Fr.l_nil ?_
  refine Fr.l_cond (t := false) (by simp only [Fr.ev_tmp, Fr.ev_const, Fr.up_get, Nat.reduceLT, Nat.reduceEqDiff, ↓reduceIte]; try rfl) (fun h => absurd h (by decide)) (fun _ => ?_)
  refine wp_skip ?_
  refine HK.out _ _ hw ?_
  repeat (refine Fr.Agree.up (by decide) ?_)
  exact Fr.Agree.refl _ _

end Go.Proofs.YtkgfepakedieaaaGreatDoor.yTrains
