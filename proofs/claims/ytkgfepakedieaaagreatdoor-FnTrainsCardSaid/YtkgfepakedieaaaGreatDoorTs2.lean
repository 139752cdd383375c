/- The great law on trains: the guard on ratios. (written by wip/gen/trains.py.) -/
import Derived.Test.YtkgfepakedieaaaGreatDoorTs1
namespace Go.Proofs.YtkgfepakedieaaaGreatDoor.yTrains
open Go.RowKit
set_option linter.unusedVariables false
set_option linter.unusedSimpArgs false

set_option maxRecDepth 100000 in
set_option maxHeartbeats 16000000 in
theorem e21 {n m N D : Nat} {x y z : Bool} {a5 a6 a27 : Option Addr} {k5 k6 k27 : Nat} {W w : World} {Q : Exit → Act → World → Prop} {R : Code} {f : Nat → Value} (f5 : f 5 = .slice a5 n k5) (f6 : f 6 = .slice a6 m k6) (f18 : f 18 = .int .i64 (N : Nat)) (f19 : f 19 = .int .i64 (D : Nat)) (f20 : f 20 = .int .i64 0) (f21 : f 21 = .int .i64 (D : Nat)) (f22 : f 22 = .int .i64 (N : Nat)) (f23 : f 23 = .int .i64 0) (f26 : f 26 = .int .i64 0) (f27 : f 27 = .slice a27 (n + m) k27) (f28 : f 28 = .int .i64 0) (f31 : f 31 = .int .i64 0) (f32 : f 32 = .bool x) (f33 : f 33 = .int .i64 0) (f34 : f 34 = .bool y) (f35 : f 35 = .int .i64 0) (f36 : f 36 = .bool z) (f37 : f 37 = .int .i64 0)
    (hn : n ≤ 8) (hm : m ≤ 8) (hN : 1 ≤ N) (hD : 1 ≤ D) (hz : (x == y) = !z) (hx : x = ((n : Int) % 2 == 1)) (hw : BelowC W w)
    (k : ∀ (w' : World) (g : Nat → Value), BelowC W w' → Fr.Agree 213 f g → Code.wp Tryz.prog R Q ⟨Fr.ft 366 g, []⟩ w') :
    Code.wp Tryz.prog ((Fr.fs (Fr.sn (Fr.sn (Fr.sn (Fr.sn (Fr.sn (Fr.sn (Fr.sn (Fr.sn (Fr.sn (Fr.sn (Fr.sn (Fr.sn (Fr.sn (Fr.sn (Fr.sn (Fr.sn (Fr.sn (Fr.sn (Fr.sn (B3))))))))))))))))))))).seq R) Q ⟨Fr.ft 366 f, []⟩ w := by
  have hN1 : ¬ (N : Int) < 1 := by omega
  have hD1 : ¬ (D : Int) < 1 := by omega
  have hwr : IntKind.i64.wrap ((n : Int) + (m : Int)) = (n : Int) + (m : Int) := by rw [IntKind.wrap_i64]; omega
  have htm : (n : Int).tmod 2 = (n : Int) % 2 := Int.tmod_eq_emod_of_nonneg (by omega)
  have hw2 : IntKind.i64.wrap ((n : Int) % 2) = (n : Int) % 2 := by rw [IntKind.wrap_i64]; omega
  have hx2 : (((n : Int) % 2) == 1) = x := hx.symm
  clear hx hn hm hN hD
  have HK := Lib.hid k
  clear k
  conv => arg 2; arg 1; whnf
  have E1 := @Fr.ev_tmp 366
  have E2 := @Fr.ev_const 366
  have E3 := @Fr.up_get
  have E4 := @Fr.ev_func 366
  have E5 := @Fr.ev_global 366
  refine wp_seq ?_
  refine wp_seq ?_
  refine wp_region_lit ?_
  refine Fr.l_ops ?_
  intro OPS hO
  have d2 : (OPS[2]?).bind (·.dst) = some 215 := by rw [hO]; kernel_rfl
  have d6 : (OPS[6]?).bind (·.dst) = some 219 := by rw [hO]; kernel_rfl
  have d11 : (OPS[11]?).bind (·.dst) = some 224 := by rw [hO]; kernel_rfl
  have d16 : (OPS[16]?).bind (·.dst) = some 229 := by rw [hO]; kernel_rfl
  have d20 : (OPS[20]?).bind (·.dst) = some 233 := by rw [hO]; kernel_rfl
  have d24 : (OPS[24]?).bind (·.dst) = some 237 := by rw [hO]; kernel_rfl
  have d28 : (OPS[28]?).bind (·.dst) = some 241 := by rw [hO]; kernel_rfl
  have d32 : (OPS[32]?).bind (·.dst) = some 245 := by rw [hO]; kernel_rfl
  have d42 : (OPS[42]?).bind (·.dst) = some 255 := by rw [hO]; kernel_rfl
  have d46 : (OPS[46]?).bind (·.dst) = some 259 := by rw [hO]; kernel_rfl
  have d50 : (OPS[50]?).bind (·.dst) = some 263 := by rw [hO]; kernel_rfl
  have d54 : (OPS[54]?).bind (·.dst) = some 267 := by rw [hO]; kernel_rfl
  have d58 : (OPS[58]?).bind (·.dst) = some 271 := by rw [hO]; kernel_rfl
  have d65 : (OPS[65]?).bind (·.dst) = some 278 := by rw [hO]; kernel_rfl
  clear hO
  refine Fr.l_mv rfl rfl (Fr.w_none rfl) (by simp only [Fr.ev_tmp, Fr.ev_const, Fr.up_get, Nat.reduceLT, Nat.reduceEqDiff, ↓reduceIte, f5, f6, f18, f19, f20, f21, f22, f23, f26, f27, f28, f31, f32, f33, f34, f35, f36, f37]; try rfl) ?_
  refine Fr.l_val rfl (Fr.w_none rfl) (by go_simp; first | done | (with_reducible rfl) | (with_reducible exact ⟨rfl, rfl⟩) | (with_reducible exact ⟨⟨rfl, rfl⟩, rfl⟩)) ?_
  refine Fr.l_mv rfl rfl (Fr.w_none rfl) (by simp only [Fr.ev_tmp, Fr.ev_const, Fr.up_get, Nat.reduceLT, Nat.reduceEqDiff, ↓reduceIte, f5, f6, f18, f19, f20, f21, f22, f23, f26, f27, f28, f31, f32, f33, f34, f35, f36, f37]; try rfl) ?_
  refine Fr.l_mv rfl rfl (Fr.w_yes rfl d2 (by decide) (by simp only [Fr.ev_tmp, Fr.ev_const, Fr.up_get, Nat.reduceLT, Nat.reduceEqDiff, ↓reduceIte])) (by simp only [Fr.ev_tmp, Fr.ev_const, Fr.up_get, Nat.reduceLT, Nat.reduceEqDiff, ↓reduceIte, f5, f6, f18, f19, f20, f21, f22, f23, f26, f27, f28, f31, f32, f33, f34, f35, f36, f37]; try rfl) ?_
  refine Fr.l_val rfl (Fr.w_yes rfl d2 (by decide) (by simp only [Fr.ev_tmp, Fr.ev_const, Fr.up_get, Nat.reduceLT, Nat.reduceEqDiff, ↓reduceIte])) (by go_simp; first | done | (with_reducible rfl) | (with_reducible exact ⟨rfl, rfl⟩) | (with_reducible exact ⟨⟨rfl, rfl⟩, rfl⟩)) ?_
  refine Fr.l_val rfl (Fr.w_none rfl) (by go_simp; first | done | (with_reducible rfl) | (with_reducible exact ⟨rfl, rfl⟩) | (with_reducible exact ⟨⟨rfl, rfl⟩, rfl⟩)) ?_
  refine Fr.l_mv rfl rfl (Fr.w_none rfl) (by simp only [Fr.ev_tmp, Fr.ev_const, Fr.up_get, Nat.reduceLT, Nat.reduceEqDiff, ↓reduceIte, f5, f6, f18, f19, f20, f21, f22, f23, f26, f27, f28, f31, f32, f33, f34, f35, f36, f37]; try rfl) ?_
  refine Fr.l_mv rfl rfl (Fr.w_yes rfl d6 (by decide) (by simp only [Fr.ev_tmp, Fr.ev_const, Fr.up_get, Nat.reduceLT, Nat.reduceEqDiff, ↓reduceIte])) (by simp only [Fr.ev_tmp, Fr.ev_const, Fr.up_get, Nat.reduceLT, Nat.reduceEqDiff, ↓reduceIte, f5, f6, f18, f19, f20, f21, f22, f23, f26, f27, f28, f31, f32, f33, f34, f35, f36, f37]; try rfl) ?_
  refine Fr.l_mv rfl rfl (Fr.w_yes rfl d6 (by decide) (by simp only [Fr.ev_tmp, Fr.ev_const, Fr.up_get, Nat.reduceLT, Nat.reduceEqDiff, ↓reduceIte])) (by simp only [Fr.ev_tmp, Fr.ev_const, Fr.up_get, Nat.reduceLT, Nat.reduceEqDiff, ↓reduceIte, f5, f6, f18, f19, f20, f21, f22, f23, f26, f27, f28, f31, f32, f33, f34, f35, f36, f37]; try rfl) ?_
  refine Fr.l_val rfl (Fr.w_yes rfl d6 (by decide) (by simp only [Fr.ev_tmp, Fr.ev_const, Fr.up_get, Nat.reduceLT, Nat.reduceEqDiff, ↓reduceIte])) (by go_simp; first | done | (with_reducible rfl) | (with_reducible exact ⟨rfl, rfl⟩) | (with_reducible exact ⟨⟨rfl, rfl⟩, rfl⟩)) ?_
  refine Fr.l_val rfl (Fr.w_none rfl) (by go_simp; first | done | (with_reducible rfl) | (with_reducible exact ⟨rfl, rfl⟩) | (with_reducible exact ⟨⟨rfl, rfl⟩, rfl⟩)) ?_
  refine Fr.l_mv rfl rfl (Fr.w_none rfl) (by simp only [Fr.ev_tmp, Fr.ev_const, Fr.up_get, Nat.reduceLT, Nat.reduceEqDiff, ↓reduceIte, f5, f6, f18, f19, f20, f21, f22, f23, f26, f27, f28, f31, f32, f33, f34, f35, f36, f37]; try rfl) ?_
  refine Fr.l_mv rfl rfl (Fr.w_yes rfl d11 (by decide) (by simp only [Fr.ev_tmp, Fr.ev_const, Fr.up_get, Nat.reduceLT, Nat.reduceEqDiff, ↓reduceIte])) (by simp only [Fr.ev_tmp, Fr.ev_const, Fr.up_get, Nat.reduceLT, Nat.reduceEqDiff, ↓reduceIte, f5, f6, f18, f19, f20, f21, f22, f23, f26, f27, f28, f31, f32, f33, f34, f35, f36, f37]; try rfl) ?_
  refine Fr.l_mv rfl rfl (Fr.w_yes rfl d11 (by decide) (by simp only [Fr.ev_tmp, Fr.ev_const, Fr.up_get, Nat.reduceLT, Nat.reduceEqDiff, ↓reduceIte])) (by simp only [Fr.ev_tmp, Fr.ev_const, Fr.up_get, Nat.reduceLT, Nat.reduceEqDiff, ↓reduceIte, f5, f6, f18, f19, f20, f21, f22, f23, f26, f27, f28, f31, f32, f33, f34, f35, f36, f37]; try rfl) ?_
  refine Fr.l_val rfl (Fr.w_yes rfl d11 (by decide) (by simp only [Fr.ev_tmp, Fr.ev_const, Fr.up_get, Nat.reduceLT, Nat.reduceEqDiff, ↓reduceIte])) (by go_simp; first | done | (with_reducible rfl) | (with_reducible exact ⟨rfl, rfl⟩) | (with_reducible exact ⟨⟨rfl, rfl⟩, rfl⟩)) ?_
  refine Fr.l_val rfl (Fr.w_none rfl) (by go_simp; first | done | (with_reducible rfl) | (with_reducible exact ⟨rfl, rfl⟩) | (with_reducible exact ⟨⟨rfl, rfl⟩, rfl⟩)) ?_
  refine Fr.l_mv rfl rfl (Fr.w_none rfl) (by simp only [Fr.ev_tmp, Fr.ev_const, Fr.up_get, Nat.reduceLT, Nat.reduceEqDiff, ↓reduceIte, f5, f6, f18, f19, f20, f21, f22, f23, f26, f27, f28, f31, f32, f33, f34, f35, f36, f37]; try rfl) ?_
  refine Fr.l_mv rfl rfl (Fr.w_yes rfl d16 (by decide) (by simp only [Fr.ev_tmp, Fr.ev_const, Fr.up_get, Nat.reduceLT, Nat.reduceEqDiff, ↓reduceIte])) (by simp only [Fr.ev_tmp, Fr.ev_const, Fr.up_get, Nat.reduceLT, Nat.reduceEqDiff, ↓reduceIte, f5, f6, f18, f19, f20, f21, f22, f23, f26, f27, f28, f31, f32, f33, f34, f35, f36, f37]; try rfl) ?_
  refine Fr.l_val rfl (Fr.w_yes rfl d16 (by decide) (by simp only [Fr.ev_tmp, Fr.ev_const, Fr.up_get, Nat.reduceLT, Nat.reduceEqDiff, ↓reduceIte])) (by go_simp; first | done | (with_reducible rfl) | (with_reducible exact ⟨rfl, rfl⟩) | (with_reducible exact ⟨⟨rfl, rfl⟩, rfl⟩)) ?_
  refine Fr.l_val rfl (Fr.w_none rfl) (by go_simp; first | done | (with_reducible rfl) | (with_reducible exact ⟨rfl, rfl⟩) | (with_reducible exact ⟨⟨rfl, rfl⟩, rfl⟩)) ?_
  refine Fr.l_mv rfl rfl (Fr.w_none rfl) (by simp only [Fr.ev_tmp, Fr.ev_const, Fr.up_get, Nat.reduceLT, Nat.reduceEqDiff, ↓reduceIte, f5, f6, f18, f19, f20, f21, f22, f23, f26, f27, f28, f31, f32, f33, f34, f35, f36, f37]; try rfl) ?_
  refine Fr.l_mv rfl rfl (Fr.w_yes rfl d20 (by decide) (by simp only [Fr.ev_tmp, Fr.ev_const, Fr.up_get, Nat.reduceLT, Nat.reduceEqDiff, ↓reduceIte])) (by simp only [Fr.ev_tmp, Fr.ev_const, Fr.up_get, Nat.reduceLT, Nat.reduceEqDiff, ↓reduceIte, f5, f6, f18, f19, f20, f21, f22, f23, f26, f27, f28, f31, f32, f33, f34, f35, f36, f37]; try rfl) ?_
  refine Fr.l_val rfl (Fr.w_yes rfl d20 (by decide) (by simp only [Fr.ev_tmp, Fr.ev_const, Fr.up_get, Nat.reduceLT, Nat.reduceEqDiff, ↓reduceIte])) (by go_simp; first | done | (with_reducible rfl) | (with_reducible exact ⟨rfl, rfl⟩) | (with_reducible exact ⟨⟨rfl, rfl⟩, rfl⟩)) ?_
  refine Fr.l_val rfl (Fr.w_none rfl) (by go_simp; first | done | (with_reducible rfl) | (with_reducible exact ⟨rfl, rfl⟩) | (with_reducible exact ⟨⟨rfl, rfl⟩, rfl⟩)) ?_
  refine Fr.l_mv rfl rfl (Fr.w_none rfl) (by simp only [Fr.ev_tmp, Fr.ev_const, Fr.up_get, Nat.reduceLT, Nat.reduceEqDiff, ↓reduceIte, f5, f6, f18, f19, f20, f21, f22, f23, f26, f27, f28, f31, f32, f33, f34, f35, f36, f37]; try rfl) ?_
  refine Fr.l_mv rfl rfl (Fr.w_yes rfl d24 (by decide) (by simp only [Fr.ev_tmp, Fr.ev_const, Fr.up_get, Nat.reduceLT, Nat.reduceEqDiff, ↓reduceIte])) (by simp only [Fr.ev_tmp, Fr.ev_const, Fr.up_get, Nat.reduceLT, Nat.reduceEqDiff, ↓reduceIte, f5, f6, f18, f19, f20, f21, f22, f23, f26, f27, f28, f31, f32, f33, f34, f35, f36, f37]; try rfl) ?_
  refine Fr.l_val rfl (Fr.w_yes rfl d24 (by decide) (by simp only [Fr.ev_tmp, Fr.ev_const, Fr.up_get, Nat.reduceLT, Nat.reduceEqDiff, ↓reduceIte])) (by go_simp; first | done | (with_reducible rfl) | (with_reducible exact ⟨rfl, rfl⟩) | (with_reducible exact ⟨⟨rfl, rfl⟩, rfl⟩)) ?_
  refine Fr.l_val rfl (Fr.w_none rfl) (by go_simp; first | done | (with_reducible rfl) | (with_reducible exact ⟨rfl, rfl⟩) | (with_reducible exact ⟨⟨rfl, rfl⟩, rfl⟩)) ?_
  refine Fr.l_mv rfl rfl (Fr.w_none rfl) (by simp only [Fr.ev_tmp, Fr.ev_const, Fr.up_get, Nat.reduceLT, Nat.reduceEqDiff, ↓reduceIte, f5, f6, f18, f19, f20, f21, f22, f23, f26, f27, f28, f31, f32, f33, f34, f35, f36, f37]; try rfl) ?_
  refine Fr.l_mv rfl rfl (Fr.w_yes rfl d28 (by decide) (by simp only [Fr.ev_tmp, Fr.ev_const, Fr.up_get, Nat.reduceLT, Nat.reduceEqDiff, ↓reduceIte])) (by simp only [Fr.ev_tmp, Fr.ev_const, Fr.up_get, Nat.reduceLT, Nat.reduceEqDiff, ↓reduceIte, f5, f6, f18, f19, f20, f21, f22, f23, f26, f27, f28, f31, f32, f33, f34, f35, f36, f37]; try rfl) ?_
  refine Fr.l_val rfl (Fr.w_yes rfl d28 (by decide) (by simp only [Fr.ev_tmp, Fr.ev_const, Fr.up_get, Nat.reduceLT, Nat.reduceEqDiff, ↓reduceIte])) (by go_simp; first | done | (with_reducible rfl) | (with_reducible exact ⟨rfl, rfl⟩) | (with_reducible exact ⟨⟨rfl, rfl⟩, rfl⟩)) ?_
  refine Fr.l_val rfl (Fr.w_none rfl) (by go_simp; first | done | (with_reducible rfl) | (with_reducible exact ⟨rfl, rfl⟩) | (with_reducible exact ⟨⟨rfl, rfl⟩, rfl⟩)) ?_
  refine Fr.l_mv rfl rfl (Fr.w_none rfl) (by simp only [Fr.ev_tmp, Fr.ev_const, Fr.up_get, Nat.reduceLT, Nat.reduceEqDiff, ↓reduceIte, f5, f6, f18, f19, f20, f21, f22, f23, f26, f27, f28, f31, f32, f33, f34, f35, f36, f37]; try rfl) ?_
  refine Fr.l_mv rfl rfl (Fr.w_yes rfl d32 (by decide) (by simp only [Fr.ev_tmp, Fr.ev_const, Fr.up_get, Nat.reduceLT, Nat.reduceEqDiff, ↓reduceIte])) (by simp only [Fr.ev_tmp, Fr.ev_const, Fr.up_get, Nat.reduceLT, Nat.reduceEqDiff, ↓reduceIte, f5, f6, f18, f19, f20, f21, f22, f23, f26, f27, f28, f31, f32, f33, f34, f35, f36, f37]; try rfl) ?_
  refine Fr.l_val rfl (Fr.w_yes rfl d32 (by decide) (by simp only [Fr.ev_tmp, Fr.ev_const, Fr.up_get, Nat.reduceLT, Nat.reduceEqDiff, ↓reduceIte])) (by go_simp; first | done | (with_reducible rfl) | (with_reducible exact ⟨rfl, rfl⟩) | (with_reducible exact ⟨⟨rfl, rfl⟩, rfl⟩)) ?_
  refine Fr.l_mv rfl rfl (Fr.w_yes rfl d32 (by decide) (by simp only [Fr.ev_tmp, Fr.ev_const, Fr.up_get, Nat.reduceLT, Nat.reduceEqDiff, ↓reduceIte])) (by simp only [Fr.ev_tmp, Fr.ev_const, Fr.up_get, Nat.reduceLT, Nat.reduceEqDiff, ↓reduceIte, f5, f6, f18, f19, f20, f21, f22, f23, f26, f27, f28, f31, f32, f33, f34, f35, f36, f37]; try rfl) ?_
  refine Fr.l_val rfl (Fr.w_yes rfl d32 (by decide) (by simp only [Fr.ev_tmp, Fr.ev_const, Fr.up_get, Nat.reduceLT, Nat.reduceEqDiff, ↓reduceIte])) (by go_simp; first | done | (with_reducible rfl) | (with_reducible exact ⟨rfl, rfl⟩) | (with_reducible exact ⟨⟨rfl, rfl⟩, rfl⟩)) ?_
  refine Fr.l_mv rfl rfl (Fr.w_yes rfl d32 (by decide) (by simp only [Fr.ev_tmp, Fr.ev_const, Fr.up_get, Nat.reduceLT, Nat.reduceEqDiff, ↓reduceIte])) (by simp only [Fr.ev_tmp, Fr.ev_const, Fr.up_get, Nat.reduceLT, Nat.reduceEqDiff, ↓reduceIte, f5, f6, f18, f19, f20, f21, f22, f23, f26, f27, f28, f31, f32, f33, f34, f35, f36, f37]; try rfl) ?_
  refine Fr.l_val rfl (Fr.w_yes rfl d32 (by decide) (by simp only [Fr.ev_tmp, Fr.ev_const, Fr.up_get, Nat.reduceLT, Nat.reduceEqDiff, ↓reduceIte])) (by go_simp; first | done | (with_reducible rfl) | (with_reducible exact ⟨rfl, rfl⟩) | (with_reducible exact ⟨⟨rfl, rfl⟩, rfl⟩)) ?_
  refine Fr.l_val rfl (Fr.w_yes rfl d32 (by decide) (by simp only [Fr.ev_tmp, Fr.ev_const, Fr.up_get, Nat.reduceLT, Nat.reduceEqDiff, ↓reduceIte])) (by go_simp; first | done | (with_reducible rfl) | (with_reducible exact ⟨rfl, rfl⟩) | (with_reducible exact ⟨⟨rfl, rfl⟩, rfl⟩)) ?_
  refine Fr.l_val rfl (Fr.w_yes rfl d32 (by decide) (by simp only [Fr.ev_tmp, Fr.ev_const, Fr.up_get, Nat.reduceLT, Nat.reduceEqDiff, ↓reduceIte])) (by go_simp; first | done | (with_reducible rfl) | (with_reducible exact ⟨rfl, rfl⟩) | (with_reducible exact ⟨⟨rfl, rfl⟩, rfl⟩)) ?_
  refine Fr.l_val rfl (Fr.w_none rfl) (by go_simp; first | done | (with_reducible rfl) | (with_reducible exact ⟨rfl, rfl⟩) | (with_reducible exact ⟨⟨rfl, rfl⟩, rfl⟩)) ?_
  refine Fr.l_mv rfl rfl (Fr.w_none rfl) (by simp only [Fr.ev_tmp, Fr.ev_const, Fr.up_get, Nat.reduceLT, Nat.reduceEqDiff, ↓reduceIte, f5, f6, f18, f19, f20, f21, f22, f23, f26, f27, f28, f31, f32, f33, f34, f35, f36, f37]; try rfl) ?_
  refine Fr.l_mv rfl rfl (Fr.w_yes rfl d42 (by decide) (by simp only [Fr.ev_tmp, Fr.ev_const, Fr.up_get, Nat.reduceLT, Nat.reduceEqDiff, ↓reduceIte])) (by simp only [Fr.ev_tmp, Fr.ev_const, Fr.up_get, Nat.reduceLT, Nat.reduceEqDiff, ↓reduceIte, f5, f6, f18, f19, f20, f21, f22, f23, f26, f27, f28, f31, f32, f33, f34, f35, f36, f37]; try rfl) ?_
  refine Fr.l_val rfl (Fr.w_yes rfl d42 (by decide) (by simp only [Fr.ev_tmp, Fr.ev_const, Fr.up_get, Nat.reduceLT, Nat.reduceEqDiff, ↓reduceIte])) (by go_simp; first | done | (with_reducible rfl) | (with_reducible exact ⟨rfl, rfl⟩) | (with_reducible exact ⟨⟨rfl, rfl⟩, rfl⟩)) ?_
  refine Fr.l_val rfl (Fr.w_none rfl) (by go_simp; first | done | (with_reducible rfl) | (with_reducible exact ⟨rfl, rfl⟩) | (with_reducible exact ⟨⟨rfl, rfl⟩, rfl⟩)) ?_
  refine Fr.l_mv rfl rfl (Fr.w_none rfl) (by simp only [Fr.ev_tmp, Fr.ev_const, Fr.up_get, Nat.reduceLT, Nat.reduceEqDiff, ↓reduceIte, f5, f6, f18, f19, f20, f21, f22, f23, f26, f27, f28, f31, f32, f33, f34, f35, f36, f37]; try rfl) ?_
  refine Fr.l_mv rfl rfl (Fr.w_yes rfl d46 (by decide) (by simp only [Fr.ev_tmp, Fr.ev_const, Fr.up_get, Nat.reduceLT, Nat.reduceEqDiff, ↓reduceIte])) (by simp only [Fr.ev_tmp, Fr.ev_const, Fr.up_get, Nat.reduceLT, Nat.reduceEqDiff, ↓reduceIte, f5, f6, f18, f19, f20, f21, f22, f23, f26, f27, f28, f31, f32, f33, f34, f35, f36, f37]; try rfl) ?_
  refine Fr.l_val rfl (Fr.w_yes rfl d46 (by decide) (by simp only [Fr.ev_tmp, Fr.ev_const, Fr.up_get, Nat.reduceLT, Nat.reduceEqDiff, ↓reduceIte])) (by go_simp; first | done | (with_reducible rfl) | (with_reducible exact ⟨rfl, rfl⟩) | (with_reducible exact ⟨⟨rfl, rfl⟩, rfl⟩)) ?_
  refine Fr.l_val rfl (Fr.w_none rfl) (by go_simp; first | done | (with_reducible rfl) | (with_reducible exact ⟨rfl, rfl⟩) | (with_reducible exact ⟨⟨rfl, rfl⟩, rfl⟩)) ?_
  refine Fr.l_mv rfl rfl (Fr.w_none rfl) (by simp only [Fr.ev_tmp, Fr.ev_const, Fr.up_get, Nat.reduceLT, Nat.reduceEqDiff, ↓reduceIte, f5, f6, f18, f19, f20, f21, f22, f23, f26, f27, f28, f31, f32, f33, f34, f35, f36, f37]; try rfl) ?_
  refine Fr.l_mv rfl rfl (Fr.w_yes rfl d50 (by decide) (by simp only [Fr.ev_tmp, Fr.ev_const, Fr.up_get, Nat.reduceLT, Nat.reduceEqDiff, ↓reduceIte])) (by simp only [Fr.ev_tmp, Fr.ev_const, Fr.up_get, Nat.reduceLT, Nat.reduceEqDiff, ↓reduceIte, f5, f6, f18, f19, f20, f21, f22, f23, f26, f27, f28, f31, f32, f33, f34, f35, f36, f37]; try rfl) ?_
  refine Fr.l_val rfl (Fr.w_yes rfl d50 (by decide) (by simp only [Fr.ev_tmp, Fr.ev_const, Fr.up_get, Nat.reduceLT, Nat.reduceEqDiff, ↓reduceIte])) (by go_simp; first | done | (with_reducible rfl) | (with_reducible exact ⟨rfl, rfl⟩) | (with_reducible exact ⟨⟨rfl, rfl⟩, rfl⟩)) ?_
  refine Fr.l_val rfl (Fr.w_none rfl) (by go_simp; first | done | (with_reducible rfl) | (with_reducible exact ⟨rfl, rfl⟩) | (with_reducible exact ⟨⟨rfl, rfl⟩, rfl⟩)) ?_
  refine Fr.l_mv rfl rfl (Fr.w_none rfl) (by simp only [Fr.ev_tmp, Fr.ev_const, Fr.up_get, Nat.reduceLT, Nat.reduceEqDiff, ↓reduceIte, f5, f6, f18, f19, f20, f21, f22, f23, f26, f27, f28, f31, f32, f33, f34, f35, f36, f37]; try rfl) ?_
  refine Fr.l_mv rfl rfl (Fr.w_yes rfl d54 (by decide) (by simp only [Fr.ev_tmp, Fr.ev_const, Fr.up_get, Nat.reduceLT, Nat.reduceEqDiff, ↓reduceIte])) (by simp only [Fr.ev_tmp, Fr.ev_const, Fr.up_get, Nat.reduceLT, Nat.reduceEqDiff, ↓reduceIte, f5, f6, f18, f19, f20, f21, f22, f23, f26, f27, f28, f31, f32, f33, f34, f35, f36, f37]; try rfl) ?_
  refine Fr.l_val rfl (Fr.w_yes rfl d54 (by decide) (by simp only [Fr.ev_tmp, Fr.ev_const, Fr.up_get, Nat.reduceLT, Nat.reduceEqDiff, ↓reduceIte])) (by go_simp; first | done | (with_reducible rfl) | (with_reducible exact ⟨rfl, rfl⟩) | (with_reducible exact ⟨⟨rfl, rfl⟩, rfl⟩)) ?_
  refine Fr.l_val rfl (Fr.w_none rfl) (by go_simp; first | done | (with_reducible rfl) | (with_reducible exact ⟨rfl, rfl⟩) | (with_reducible exact ⟨⟨rfl, rfl⟩, rfl⟩)) ?_
  refine Fr.l_mv rfl rfl (Fr.w_none rfl) (by simp only [Fr.ev_tmp, Fr.ev_const, Fr.up_get, Nat.reduceLT, Nat.reduceEqDiff, ↓reduceIte, f5, f6, f18, f19, f20, f21, f22, f23, f26, f27, f28, f31, f32, f33, f34, f35, f36, f37]; try rfl) ?_
  refine Fr.l_mv rfl rfl (Fr.w_yes rfl d58 (by decide) (by simp only [Fr.ev_tmp, Fr.ev_const, Fr.up_get, Nat.reduceLT, Nat.reduceEqDiff, ↓reduceIte])) (by simp only [Fr.ev_tmp, Fr.ev_const, Fr.up_get, Nat.reduceLT, Nat.reduceEqDiff, ↓reduceIte, f5, f6, f18, f19, f20, f21, f22, f23, f26, f27, f28, f31, f32, f33, f34, f35, f36, f37]; try rfl) ?_
  refine Fr.l_mv rfl rfl (Fr.w_yes rfl d58 (by decide) (by simp only [Fr.ev_tmp, Fr.ev_const, Fr.up_get, Nat.reduceLT, Nat.reduceEqDiff, ↓reduceIte])) (by simp only [Fr.ev_tmp, Fr.ev_const, Fr.up_get, Nat.reduceLT, Nat.reduceEqDiff, ↓reduceIte, f5, f6, f18, f19, f20, f21, f22, f23, f26, f27, f28, f31, f32, f33, f34, f35, f36, f37]; try rfl) ?_
  refine Fr.l_mv rfl rfl (Fr.w_yes rfl d58 (by decide) (by simp only [Fr.ev_tmp, Fr.ev_const, Fr.up_get, Nat.reduceLT, Nat.reduceEqDiff, ↓reduceIte])) (by simp only [Fr.ev_tmp, Fr.ev_const, Fr.up_get, Nat.reduceLT, Nat.reduceEqDiff, ↓reduceIte, f5, f6, f18, f19, f20, f21, f22, f23, f26, f27, f28, f31, f32, f33, f34, f35, f36, f37]; try rfl) ?_
  refine Fr.l_val rfl (Fr.w_yes rfl d58 (by decide) (by simp only [Fr.ev_tmp, Fr.ev_const, Fr.up_get, Nat.reduceLT, Nat.reduceEqDiff, ↓reduceIte])) (by go_simp; first | done | (with_reducible rfl) | (with_reducible exact ⟨rfl, rfl⟩) | (with_reducible exact ⟨⟨rfl, rfl⟩, rfl⟩)) ?_
  refine Fr.l_val rfl (Fr.w_yes rfl d58 (by decide) (by simp only [Fr.ev_tmp, Fr.ev_const, Fr.up_get, Nat.reduceLT, Nat.reduceEqDiff, ↓reduceIte])) (by go_simp; first | done | (with_reducible rfl) | (with_reducible exact ⟨rfl, rfl⟩) | (with_reducible exact ⟨⟨rfl, rfl⟩, rfl⟩)) ?_
  refine Fr.l_val rfl (Fr.w_none rfl) (by go_simp; first | done | (with_reducible rfl) | (with_reducible exact ⟨rfl, rfl⟩) | (with_reducible exact ⟨⟨rfl, rfl⟩, rfl⟩)) ?_
  refine Fr.l_mv rfl rfl (Fr.w_none rfl) (by simp only [Fr.ev_tmp, Fr.ev_const, Fr.up_get, Nat.reduceLT, Nat.reduceEqDiff, ↓reduceIte, f5, f6, f18, f19, f20, f21, f22, f23, f26, f27, f28, f31, f32, f33, f34, f35, f36, f37]; try rfl) ?_
  refine Fr.l_mv rfl rfl (Fr.w_yes rfl d65 (by decide) (by simp only [Fr.ev_tmp, Fr.ev_const, Fr.up_get, Nat.reduceLT, Nat.reduceEqDiff, ↓reduceIte])) (by simp only [Fr.ev_tmp, Fr.ev_const, Fr.up_get, Nat.reduceLT, Nat.reduceEqDiff, ↓reduceIte, f5, f6, f18, f19, f20, f21, f22, f23, f26, f27, f28, f31, f32, f33, f34, f35, f36, f37]; try rfl) ?_
  refine Fr.l_mv rfl rfl (Fr.w_yes rfl d65 (by decide) (by simp only [Fr.ev_tmp, Fr.ev_const, Fr.up_get, Nat.reduceLT, Nat.reduceEqDiff, ↓reduceIte])) (by simp only [Fr.ev_tmp, Fr.ev_const, Fr.up_get, Nat.reduceLT, Nat.reduceEqDiff, ↓reduceIte, f5, f6, f18, f19, f20, f21, f22, f23, f26, f27, f28, f31, f32, f33, f34, f35, f36, f37]; try rfl) ?_
  refine Fr.l_val rfl (Fr.w_yes rfl d65 (by decide) (by simp only [Fr.ev_tmp, Fr.ev_const, Fr.up_get, Nat.reduceLT, Nat.reduceEqDiff, ↓reduceIte])) (by go_simp; first | done | (with_reducible rfl) | (with_reducible exact ⟨rfl, rfl⟩) | (with_reducible exact ⟨⟨rfl, rfl⟩, rfl⟩)) ?_
  refine Fr.l_val rfl (Fr.w_yes rfl d65 (by decide) (by simp only [Fr.ev_tmp, Fr.ev_const, Fr.up_get, Nat.reduceLT, Nat.reduceEqDiff, ↓reduceIte])) (by go_simp; first | done | (with_reducible rfl) | (with_reducible exact ⟨rfl, rfl⟩) | (with_reducible exact ⟨⟨rfl, rfl⟩, rfl⟩)) ?_
  refine Fr.l_val rfl (Fr.w_yes rfl d65 (by decide) (by simp only [Fr.ev_tmp, Fr.ev_const, Fr.up_get, Nat.reduceLT, Nat.reduceEqDiff, ↓reduceIte])) (by go_simp; first | done | (with_reducible rfl) | (with_reducible exact ⟨rfl, rfl⟩) | (with_reducible exact ⟨⟨rfl, rfl⟩, rfl⟩)) ?_
  refine Fr.l_val rfl (Fr.w_yes rfl d65 (by decide) (by simp only [Fr.ev_tmp, Fr.ev_const, Fr.up_get, Nat.reduceLT, Nat.reduceEqDiff, ↓reduceIte])) (by go_simp; first | done | (with_reducible rfl) | (with_reducible exact ⟨rfl, rfl⟩) | (with_reducible exact ⟨⟨rfl, rfl⟩, rfl⟩)) ?_
  refine Fr.l_val rfl (Fr.w_none rfl) (by go_simp; first | done | (with_reducible rfl) | (with_reducible exact ⟨rfl, rfl⟩) | (with_reducible exact ⟨⟨rfl, rfl⟩, rfl⟩)) ?_
  refine Fr.l_nil ?_
  refine Fr.l_cond (t := false) (by simp only [Fr.ev_tmp, Fr.ev_const, Fr.up_get, Nat.reduceLT, Nat.reduceEqDiff, ↓reduceIte]; try rfl) (fun h => absurd h (by decide)) (fun _ => ?_)
  refine wp_skip ?_
  refine HK.out _ _ hw ?_
  repeat (refine Fr.Agree.up (by decide) ?_)
  exact Fr.Agree.refl _ _

end Go.Proofs.YtkgfepakedieaaaGreatDoor.yTrains
