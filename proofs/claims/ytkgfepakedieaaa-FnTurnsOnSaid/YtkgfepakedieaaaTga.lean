/- The great law's walk, an element: the comparison of what both sides say. (written by wip/gen/turnson2.py.) -/
import Derived.Test.YtkgfepakedieaaaTurnA
import Derived.Test.YtkgfepakedieaaaCtSg
import Derived.Test.YtkgfepakedieaaaFr
import Derived.Test.YtkgfepakedieaaaLexF
import Derived.BigQuiet
import Derived.Test.YtkgfepakedieaaaCtSf
namespace Go.Proofs.Ytkgfepakedieaaa.yTurnsOn
open Go.RowKit
set_option linter.unusedVariables false
set_option linter.unusedSimpArgs false

noncomputable def B7 : Code := (Try.f7.body).getD .skip
theorem wp_code {P : Program} {c c' : Code} {Q : Exit → Act → World → Prop} {a : Act} {w : World} (h : c = c') (k : Code.wp P c' Q a w) : Code.wp P c Q a w := by
  rw [h]
  exact k
theorem same_below {P : Program} {f : FuncId} {args : Array Value} {w : World} {v : Value}
    (h : Calls P f args w fun e w' => e = .returned v ∧ ∃ k, w' = w.drewN k) : Calls P f args w fun e w' => e = .returned v ∧ Below w.heap.size w w' :=
  h.mono fun _ _ ⟨he, k, hk⟩ => ⟨he, by rw [hk]; exact below_drewN (Below.refl _ _) k⟩

set_option maxRecDepth 100000 in
set_option maxHeartbeats 16000000 in
theorem e15 {ps : List T3} {z1 z2 z3 z4 z5 z6 : List Nat} {gT kT g1 k1 g2 k2 g3 k3 g4 k4 g5 k5 g6 k6 p q l3 : Nat} {W : World} {Q : Exit → Act → World → Prop} {R : Code} {f : Nat → Value}
    (f5 : f 5 = .slice (some ⟨gT, 0, none⟩) ps.length kT) (f6 : f 6 = .float .f32 p) (f7 : f 7 = .float .f32 q) (f8 : f 8 = .slice (some ⟨g1, 0, none⟩) (ps.length + 1) k1) (f9 : f 9 = .int .i64 0) (f10 : f 10 = .slice (some ⟨g2, 0, none⟩) (ps.length + 1) k2) (f11 : f 11 = .int .i64 0) (f12 : f 12 = .slice (some ⟨g3, 0, none⟩) (ps.length + 1) k3) (f13 : f 13 = .int .i64 0) (f14 : f 14 = .slice (some ⟨g4, 0, none⟩) (ps.length + 1) k4) (f15 : f 15 = .int .i64 0) (f16 : f 16 = .slice (some ⟨g5, 0, none⟩) (ps.length + 1) k5) (f17 : f 17 = .int .i64 0) (f18 : f 18 = .slice (some ⟨g6, 0, none⟩) (ps.length + 1) k6) (f19 : f 19 = .int .i64 0) (f20 : f 20 = .float .f32 (effC ps)) (f21 : f 21 = .int .i64 0) (f22 : f 22 = .float .f32 (effC ps)) (f23 : f 23 = .int .i64 0) (f24 : f 24 = .float .f32 l3) (f25 : f 25 = .int .i64 0)
    (Z1 : Fs W (.slice (some ⟨g1, 0, none⟩) (ps.length + 1) k1) z1) (Z2 : Fs W (.slice (some ⟨g2, 0, none⟩) (ps.length + 1) k2) z2) (Z3 : Fs W (.slice (some ⟨g3, 0, none⟩) (ps.length + 1) k3) z3) (Z4 : Fs W (.slice (some ⟨g4, 0, none⟩) (ps.length + 1) k4) z4) (Z5 : Fs W (.slice (some ⟨g5, 0, none⟩) (ps.length + 1) k5) z5) (Z6 : Fs W (.slice (some ⟨g6, 0, none⟩) (ps.length + 1) k6) z6)
    (SS : SameF z1 z2) (ST : SameF z3 z4) (SP : SameF z5 z6) (hl : ps.length ≤ 4) (hse : sameB (effC ps) (effC ps) = true)
    (e0 : fle .f32 0 (effC ps) = true) (e1 : flt .f32 1065353216 (effC ps) = false)
    (c60 : W.cell? ⟨g6, 0, none⟩ = some (.float .f32 (powAt p q ps 0))) (c6n : W.cell? ⟨g6, ps.length, none⟩ = some (.float .f32 (powAt p q ps ps.length)))
    (hsz : cn l3 = cop .sub (powAt p q ps 0) (powAt p q ps ps.length))
    (k : ∀ (w' : World) (g : Nat → Value), BelowC W w' → Fr.Agree 114 f g → g 220 = .bool false → Code.wp Try.prog R Q ⟨Fr.ft 557 g, []⟩ w') :
    Code.wp Try.prog ((Fr.fs (Fr.sn (Fr.sn (Fr.sn (Fr.sn (Fr.sn (Fr.sn (Fr.sn (Fr.sn (Fr.sn (Fr.sn (Fr.sn (Fr.sn (Fr.sn (Fr.sn (B7)))))))))))))))).seq R) Q ⟨Fr.ft 557 f, []⟩ W := by
  have B1 := Lib.hid (fun (w0 : World) (h : BelowC W w0) => same_below (a2Same_any z1 z2 (.slice (some ⟨g1, 0, none⟩) (ps.length + 1) k1) (.slice (some ⟨g2, 0, none⟩) (ps.length + 1) k2) w0 (Z1.below h) (Z2.below h) SS))
  have B2 := Lib.hid (fun (w0 : World) (h : BelowC W w0) => same_below (a2Same_any z3 z4 (.slice (some ⟨g3, 0, none⟩) (ps.length + 1) k3) (.slice (some ⟨g4, 0, none⟩) (ps.length + 1) k4) w0 (Z3.below h) (Z4.below h) ST))
  have B3 := Lib.hid (fun (w0 : World) (h : BelowC W w0) => same_below (a2Same_any z5 z6 (.slice (some ⟨g5, 0, none⟩) (ps.length + 1) k5) (.slice (some ⟨g6, 0, none⟩) (ps.length + 1) k6) w0 (Z5.below h) (Z6.below h) SP))
  have hq1 : IntKind.i64.wrap ((ps.length : Int) + 1) = (ps.length : Int) + 1 := by rw [IntKind.wrap_i64]; omega
  have hlen0 : (0 : Int) < (ps.length : Int) + 1 := by omega
  have hlenn : (ps.length : Int) < (ps.length : Int) + 1 := by omega
  have HK := Lib.hid k
  have HZ := Lib.hid hsz
  clear Z1 Z2 Z3 Z4 Z5 Z6 SS ST SP k hl hsz
  conv => arg 2; arg 1; whnf
  have q60 := BelowC.cell c60 (World.block_lt_of_cell? W _ c60)
  have q6n := BelowC.cell c6n (World.block_lt_of_cell? W _ c6n)
  have hdn := @BelowC.drewN W
  clear c60 c6n
  have E1 := @Fr.ev_tmp 557
  have E2 := @Fr.ev_const 557
  have E3 := @Fr.up_get
  have E4 := @Fr.ev_func 557
  have E5 := @Fr.ev_global 557
  refine wp_seq ?_
  refine wp_seq ?_
  refine Loose.wp_regionF (BelowC W) (Loose.Tab [(29, fun _ v => v = .bool true), (30, fun _ v => v = .bool true)]) (by kernel_rfl) (by kernel_rfl) (BelowC.start W) ?_
  refine Loose.wpL_ops ?_
  intro OPS hO
  have d3 : (OPS[3]?).bind (·.dst) = some 117 := by rw [hO]; kernel_rfl
  have d7 : (OPS[7]?).bind (·.dst) = some 121 := by rw [hO]; kernel_rfl
  have d13 : (OPS[13]?).bind (·.dst) = some 127 := by rw [hO]; kernel_rfl
  have d21 : (OPS[21]?).bind (·.dst) = some 135 := by rw [hO]; kernel_rfl
  have d26 : (OPS[26]?).bind (·.dst) = some 140 := by rw [hO]; kernel_rfl
  have d30 : (OPS[30]?).bind (·.dst) = some 144 := by rw [hO]; kernel_rfl
  have d36 : (OPS[36]?).bind (·.dst) = some 150 := by rw [hO]; kernel_rfl
  have d43 : (OPS[43]?).bind (·.dst) = some 157 := by rw [hO]; kernel_rfl
  have d48 : (OPS[48]?).bind (·.dst) = some 162 := by rw [hO]; kernel_rfl
  have d52 : (OPS[52]?).bind (·.dst) = some 166 := by rw [hO]; kernel_rfl
  have d58 : (OPS[58]?).bind (·.dst) = some 172 := by rw [hO]; kernel_rfl
  have d65 : (OPS[65]?).bind (·.dst) = some 179 := by rw [hO]; kernel_rfl
  have d70 : (OPS[70]?).bind (·.dst) = some 184 := by rw [hO]; kernel_rfl
  have d74 : (OPS[74]?).bind (·.dst) = some 188 := by rw [hO]; kernel_rfl
  have d80 : (OPS[80]?).bind (·.dst) = some 194 := by rw [hO]; kernel_rfl
  have d85 : (OPS[85]?).bind (·.dst) = some 199 := by rw [hO]; kernel_rfl
  have d89 : (OPS[89]?).bind (·.dst) = some 203 := by rw [hO]; kernel_rfl
  have d93 : (OPS[93]?).bind (·.dst) = some 207 := by rw [hO]; kernel_rfl
  clear hO
  refine Fr.d_mv rfl rfl (Fr.w_none rfl) (by simp only [Fr.ev_tmp, Fr.ev_const, Fr.up_get, Nat.reduceLT, Nat.reduceEqDiff, ↓reduceIte, f5, f6, f7, f8, f9, f10, f11, f12, f13, f14, f15, f16, f17, f18, f19, f20, f21, f22, f23, f24, f25]; try rfl) ?_
  refine Fr.d_mv rfl rfl (Fr.w_none rfl) (by simp only [Fr.ev_tmp, Fr.ev_const, Fr.up_get, Nat.reduceLT, Nat.reduceEqDiff, ↓reduceIte, f5, f6, f7, f8, f9, f10, f11, f12, f13, f14, f15, f16, f17, f18, f19, f20, f21, f22, f23, f24, f25]; try rfl) ?_
  refine Fr.d_det rfl (Fr.w_none rfl) (by intro wq hwq; go_simp; first | done | (with_reducible rfl)) ?_
  refine Fr.d_mv rfl rfl (Fr.w_none rfl) (by simp only [Fr.ev_tmp, Fr.ev_const, Fr.up_get, Nat.reduceLT, Nat.reduceEqDiff, ↓reduceIte, f5, f6, f7, f8, f9, f10, f11, f12, f13, f14, f15, f16, f17, f18, f19, f20, f21, f22, f23, f24, f25]; try rfl) ?_
  refine Fr.d_mv rfl rfl (Fr.w_yes rfl d3 (by decide) (by simp only [Fr.ev_tmp, Fr.ev_const, Fr.up_get, Nat.reduceLT, Nat.reduceEqDiff, ↓reduceIte])) (by simp only [Fr.ev_tmp, Fr.ev_const, Fr.up_get, Nat.reduceLT, Nat.reduceEqDiff, ↓reduceIte, f5, f6, f7, f8, f9, f10, f11, f12, f13, f14, f15, f16, f17, f18, f19, f20, f21, f22, f23, f24, f25]; try rfl) ?_
  refine Fr.d_det rfl (Fr.w_yes rfl d3 (by decide) (by simp only [Fr.ev_tmp, Fr.ev_const, Fr.up_get, Nat.reduceLT, Nat.reduceEqDiff, ↓reduceIte])) (by intro wq hwq; go_simp; first | done | (with_reducible rfl)) ?_
  refine Fr.d_det rfl (Fr.w_none rfl) (by intro wq hwq; go_simp; first | done | (with_reducible rfl)) ?_
  refine Fr.d_mv rfl rfl (Fr.w_none rfl) (by simp only [Fr.ev_tmp, Fr.ev_const, Fr.up_get, Nat.reduceLT, Nat.reduceEqDiff, ↓reduceIte, f5, f6, f7, f8, f9, f10, f11, f12, f13, f14, f15, f16, f17, f18, f19, f20, f21, f22, f23, f24, f25]; try rfl) ?_
  refine Fr.d_mv rfl rfl (Fr.w_yes rfl d7 (by decide) (by simp only [Fr.ev_tmp, Fr.ev_const, Fr.up_get, Nat.reduceLT, Nat.reduceEqDiff, ↓reduceIte])) (by simp only [Fr.ev_tmp, Fr.ev_const, Fr.up_get, Nat.reduceLT, Nat.reduceEqDiff, ↓reduceIte, f5, f6, f7, f8, f9, f10, f11, f12, f13, f14, f15, f16, f17, f18, f19, f20, f21, f22, f23, f24, f25]; try rfl) ?_
  refine Fr.d_mv rfl rfl (Fr.w_yes rfl d7 (by decide) (by simp only [Fr.ev_tmp, Fr.ev_const, Fr.up_get, Nat.reduceLT, Nat.reduceEqDiff, ↓reduceIte])) (by simp only [Fr.ev_tmp, Fr.ev_const, Fr.up_get, Nat.reduceLT, Nat.reduceEqDiff, ↓reduceIte, f5, f6, f7, f8, f9, f10, f11, f12, f13, f14, f15, f16, f17, f18, f19, f20, f21, f22, f23, f24, f25]; try rfl) ?_
  (refine Fr.d_call rfl (Fr.w_yes rfl d7 (by decide) (by simp only [Fr.ev_tmp, Fr.ev_const, Fr.up_get, Nat.reduceLT, Nat.reduceEqDiff, ↓reduceIte])) (by intro wq hwq; go_simp; first | done | (with_reducible exact ⟨rfl, rfl⟩) | (with_reducible rfl)) rfl (by intro w1 h1; refine (B1.out w1 h1).mono ?_; rintro e w2 ⟨rfl, h2⟩; exact ⟨_, rfl, rfl, h1.call h2⟩) ?_; rintro v rfl)
  refine Fr.d_det rfl (Fr.w_yes rfl d7 (by decide) (by simp only [Fr.ev_tmp, Fr.ev_const, Fr.up_get, Nat.reduceLT, Nat.reduceEqDiff, ↓reduceIte])) (by intro wq hwq; go_simp; first | done | (with_reducible rfl)) ?_
  refine Fr.d_det rfl (Fr.w_none rfl) (by intro wq hwq; go_simp; first | done | (with_reducible rfl)) ?_
  refine Fr.d_mv rfl rfl (Fr.w_none rfl) (by simp only [Fr.ev_tmp, Fr.ev_const, Fr.up_get, Nat.reduceLT, Nat.reduceEqDiff, ↓reduceIte, f5, f6, f7, f8, f9, f10, f11, f12, f13, f14, f15, f16, f17, f18, f19, f20, f21, f22, f23, f24, f25]; try rfl) ?_
  refine Fr.d_mv rfl rfl (Fr.w_yes rfl d13 (by decide) (by simp only [Fr.ev_tmp, Fr.ev_const, Fr.up_get, Nat.reduceLT, Nat.reduceEqDiff, ↓reduceIte])) (by simp only [Fr.ev_tmp, Fr.ev_const, Fr.up_get, Nat.reduceLT, Nat.reduceEqDiff, ↓reduceIte, f5, f6, f7, f8, f9, f10, f11, f12, f13, f14, f15, f16, f17, f18, f19, f20, f21, f22, f23, f24, f25]; try rfl) ?_
  refine Fr.d_det rfl (Fr.w_yes rfl d13 (by decide) (by simp only [Fr.ev_tmp, Fr.ev_const, Fr.up_get, Nat.reduceLT, Nat.reduceEqDiff, ↓reduceIte])) (by intro wq hwq; go_simp; first | done | (with_reducible rfl)) ?_
  refine Fr.d_mv rfl rfl (Fr.w_yes rfl d13 (by decide) (by simp only [Fr.ev_tmp, Fr.ev_const, Fr.up_get, Nat.reduceLT, Nat.reduceEqDiff, ↓reduceIte])) (by simp only [Fr.ev_tmp, Fr.ev_const, Fr.up_get, Nat.reduceLT, Nat.reduceEqDiff, ↓reduceIte, f5, f6, f7, f8, f9, f10, f11, f12, f13, f14, f15, f16, f17, f18, f19, f20, f21, f22, f23, f24, f25]; try rfl) ?_
  refine Fr.d_det rfl (Fr.w_yes rfl d13 (by decide) (by simp only [Fr.ev_tmp, Fr.ev_const, Fr.up_get, Nat.reduceLT, Nat.reduceEqDiff, ↓reduceIte])) (by intro wq hwq; go_simp; first | done | (with_reducible rfl)) ?_
  refine Fr.d_det rfl (Fr.w_yes rfl d13 (by decide) (by simp only [Fr.ev_tmp, Fr.ev_const, Fr.up_get, Nat.reduceLT, Nat.reduceEqDiff, ↓reduceIte])) (by intro wq hwq; go_simp; first | done | (with_reducible rfl)) ?_
  refine Fr.d_det rfl (Fr.w_yes rfl d13 (by decide) (by simp only [Fr.ev_tmp, Fr.ev_const, Fr.up_get, Nat.reduceLT, Nat.reduceEqDiff, ↓reduceIte])) (by intro wq hwq; go_simp; first | done | (with_reducible rfl)) ?_
  refine Fr.d_det rfl (Fr.w_none rfl) (by intro wq hwq; go_simp; first | done | (with_reducible rfl)) ?_
  refine Fr.d_mv rfl rfl (Fr.w_none rfl) (by simp only [Fr.ev_tmp, Fr.ev_const, Fr.up_get, Nat.reduceLT, Nat.reduceEqDiff, ↓reduceIte, f5, f6, f7, f8, f9, f10, f11, f12, f13, f14, f15, f16, f17, f18, f19, f20, f21, f22, f23, f24, f25]; try rfl) ?_
  refine Fr.d_mv rfl rfl (Fr.w_yes rfl d21 (by decide) (by simp only [Fr.ev_tmp, Fr.ev_const, Fr.up_get, Nat.reduceLT, Nat.reduceEqDiff, ↓reduceIte])) (by simp only [Fr.ev_tmp, Fr.ev_const, Fr.up_get, Nat.reduceLT, Nat.reduceEqDiff, ↓reduceIte, f5, f6, f7, f8, f9, f10, f11, f12, f13, f14, f15, f16, f17, f18, f19, f20, f21, f22, f23, f24, f25]; try rfl) ?_
  refine Fr.d_mv rfl rfl (Fr.w_yes rfl d21 (by decide) (by simp only [Fr.ev_tmp, Fr.ev_const, Fr.up_get, Nat.reduceLT, Nat.reduceEqDiff, ↓reduceIte])) (by simp only [Fr.ev_tmp, Fr.ev_const, Fr.up_get, Nat.reduceLT, Nat.reduceEqDiff, ↓reduceIte, f5, f6, f7, f8, f9, f10, f11, f12, f13, f14, f15, f16, f17, f18, f19, f20, f21, f22, f23, f24, f25]; try rfl) ?_
  refine Fr.d_det rfl (Fr.w_yes rfl d21 (by decide) (by simp only [Fr.ev_tmp, Fr.ev_const, Fr.up_get, Nat.reduceLT, Nat.reduceEqDiff, ↓reduceIte])) (by intro wq hwq; go_simp; first | done | (with_reducible rfl)) ?_
  refine Fr.d_det rfl (Fr.w_none rfl) (by intro wq hwq; go_simp; first | done | (with_reducible rfl)) ?_
  refine Fr.d_mv rfl rfl (Fr.w_none rfl) (by simp only [Fr.ev_tmp, Fr.ev_const, Fr.up_get, Nat.reduceLT, Nat.reduceEqDiff, ↓reduceIte, f5, f6, f7, f8, f9, f10, f11, f12, f13, f14, f15, f16, f17, f18, f19, f20, f21, f22, f23, f24, f25]; try rfl) ?_
  refine Fr.d_mv rfl rfl (Fr.w_yes rfl d26 (by decide) (by simp only [Fr.ev_tmp, Fr.ev_const, Fr.up_get, Nat.reduceLT, Nat.reduceEqDiff, ↓reduceIte])) (by simp only [Fr.ev_tmp, Fr.ev_const, Fr.up_get, Nat.reduceLT, Nat.reduceEqDiff, ↓reduceIte, f5, f6, f7, f8, f9, f10, f11, f12, f13, f14, f15, f16, f17, f18, f19, f20, f21, f22, f23, f24, f25]; try rfl) ?_
  refine Fr.d_det rfl (Fr.w_yes rfl d26 (by decide) (by simp only [Fr.ev_tmp, Fr.ev_const, Fr.up_get, Nat.reduceLT, Nat.reduceEqDiff, ↓reduceIte])) (by intro wq hwq; go_simp; first | done | (with_reducible rfl)) ?_
  refine Fr.d_det rfl (Fr.w_none rfl) (by intro wq hwq; go_simp; first | done | (with_reducible rfl)) ?_
  refine Fr.d_mv rfl rfl (Fr.w_none rfl) (by simp only [Fr.ev_tmp, Fr.ev_const, Fr.up_get, Nat.reduceLT, Nat.reduceEqDiff, ↓reduceIte, f5, f6, f7, f8, f9, f10, f11, f12, f13, f14, f15, f16, f17, f18, f19, f20, f21, f22, f23, f24, f25]; try rfl) ?_
  refine Fr.d_mv rfl rfl (Fr.w_yes rfl d30 (by decide) (by simp only [Fr.ev_tmp, Fr.ev_const, Fr.up_get, Nat.reduceLT, Nat.reduceEqDiff, ↓reduceIte])) (by simp only [Fr.ev_tmp, Fr.ev_const, Fr.up_get, Nat.reduceLT, Nat.reduceEqDiff, ↓reduceIte, f5, f6, f7, f8, f9, f10, f11, f12, f13, f14, f15, f16, f17, f18, f19, f20, f21, f22, f23, f24, f25]; try rfl) ?_
  refine Fr.d_mv rfl rfl (Fr.w_yes rfl d30 (by decide) (by simp only [Fr.ev_tmp, Fr.ev_const, Fr.up_get, Nat.reduceLT, Nat.reduceEqDiff, ↓reduceIte])) (by simp only [Fr.ev_tmp, Fr.ev_const, Fr.up_get, Nat.reduceLT, Nat.reduceEqDiff, ↓reduceIte, f5, f6, f7, f8, f9, f10, f11, f12, f13, f14, f15, f16, f17, f18, f19, f20, f21, f22, f23, f24, f25]; try rfl) ?_
  (refine Fr.d_call rfl (Fr.w_yes rfl d30 (by decide) (by simp only [Fr.ev_tmp, Fr.ev_const, Fr.up_get, Nat.reduceLT, Nat.reduceEqDiff, ↓reduceIte])) (by intro wq hwq; go_simp; first | done | (with_reducible exact ⟨rfl, rfl⟩) | (with_reducible rfl)) rfl (by intro w1 h1; refine (B2.out w1 h1).mono ?_; rintro e w2 ⟨rfl, h2⟩; exact ⟨_, rfl, rfl, h1.call h2⟩) ?_; rintro v rfl)
  refine Fr.d_det rfl (Fr.w_yes rfl d30 (by decide) (by simp only [Fr.ev_tmp, Fr.ev_const, Fr.up_get, Nat.reduceLT, Nat.reduceEqDiff, ↓reduceIte])) (by intro wq hwq; go_simp; first | done | (with_reducible rfl)) ?_
  refine Fr.d_det rfl (Fr.w_none rfl) (by intro wq hwq; go_simp; first | done | (with_reducible rfl)) ?_
  refine Fr.d_mv rfl rfl (Fr.w_none rfl) (by simp only [Fr.ev_tmp, Fr.ev_const, Fr.up_get, Nat.reduceLT, Nat.reduceEqDiff, ↓reduceIte, f5, f6, f7, f8, f9, f10, f11, f12, f13, f14, f15, f16, f17, f18, f19, f20, f21, f22, f23, f24, f25]; try rfl) ?_
  refine Fr.d_mv rfl rfl (Fr.w_yes rfl d36 (by decide) (by simp only [Fr.ev_tmp, Fr.ev_const, Fr.up_get, Nat.reduceLT, Nat.reduceEqDiff, ↓reduceIte])) (by simp only [Fr.ev_tmp, Fr.ev_const, Fr.up_get, Nat.reduceLT, Nat.reduceEqDiff, ↓reduceIte, f5, f6, f7, f8, f9, f10, f11, f12, f13, f14, f15, f16, f17, f18, f19, f20, f21, f22, f23, f24, f25]; try rfl) ?_
  refine Fr.d_det rfl (Fr.w_yes rfl d36 (by decide) (by simp only [Fr.ev_tmp, Fr.ev_const, Fr.up_get, Nat.reduceLT, Nat.reduceEqDiff, ↓reduceIte])) (by intro wq hwq; go_simp; first | done | (with_reducible rfl)) ?_
  refine Fr.d_mv rfl rfl (Fr.w_yes rfl d36 (by decide) (by simp only [Fr.ev_tmp, Fr.ev_const, Fr.up_get, Nat.reduceLT, Nat.reduceEqDiff, ↓reduceIte])) (by simp only [Fr.ev_tmp, Fr.ev_const, Fr.up_get, Nat.reduceLT, Nat.reduceEqDiff, ↓reduceIte, f5, f6, f7, f8, f9, f10, f11, f12, f13, f14, f15, f16, f17, f18, f19, f20, f21, f22, f23, f24, f25]; try rfl) ?_
  refine Fr.d_det rfl (Fr.w_yes rfl d36 (by decide) (by simp only [Fr.ev_tmp, Fr.ev_const, Fr.up_get, Nat.reduceLT, Nat.reduceEqDiff, ↓reduceIte])) (by intro wq hwq; go_simp; first | done | (with_reducible rfl)) ?_
  refine Fr.d_det rfl (Fr.w_yes rfl d36 (by decide) (by simp only [Fr.ev_tmp, Fr.ev_const, Fr.up_get, Nat.reduceLT, Nat.reduceEqDiff, ↓reduceIte])) (by intro wq hwq; go_simp; first | done | (with_reducible rfl)) ?_
  refine Fr.d_det rfl (Fr.w_none rfl) (by intro wq hwq; go_simp; first | done | (with_reducible rfl)) ?_
  refine Fr.d_mv rfl rfl (Fr.w_none rfl) (by simp only [Fr.ev_tmp, Fr.ev_const, Fr.up_get, Nat.reduceLT, Nat.reduceEqDiff, ↓reduceIte, f5, f6, f7, f8, f9, f10, f11, f12, f13, f14, f15, f16, f17, f18, f19, f20, f21, f22, f23, f24, f25]; try rfl) ?_
  refine Fr.d_mv rfl rfl (Fr.w_yes rfl d43 (by decide) (by simp only [Fr.ev_tmp, Fr.ev_const, Fr.up_get, Nat.reduceLT, Nat.reduceEqDiff, ↓reduceIte])) (by simp only [Fr.ev_tmp, Fr.ev_const, Fr.up_get, Nat.reduceLT, Nat.reduceEqDiff, ↓reduceIte, f5, f6, f7, f8, f9, f10, f11, f12, f13, f14, f15, f16, f17, f18, f19, f20, f21, f22, f23, f24, f25]; try rfl) ?_
  refine Fr.d_mv rfl rfl (Fr.w_yes rfl d43 (by decide) (by simp only [Fr.ev_tmp, Fr.ev_const, Fr.up_get, Nat.reduceLT, Nat.reduceEqDiff, ↓reduceIte])) (by simp only [Fr.ev_tmp, Fr.ev_const, Fr.up_get, Nat.reduceLT, Nat.reduceEqDiff, ↓reduceIte, f5, f6, f7, f8, f9, f10, f11, f12, f13, f14, f15, f16, f17, f18, f19, f20, f21, f22, f23, f24, f25]; try rfl) ?_
  refine Fr.d_det rfl (Fr.w_yes rfl d43 (by decide) (by simp only [Fr.ev_tmp, Fr.ev_const, Fr.up_get, Nat.reduceLT, Nat.reduceEqDiff, ↓reduceIte])) (by intro wq hwq; go_simp; first | done | (with_reducible rfl)) ?_
  refine Fr.d_det rfl (Fr.w_none rfl) (by intro wq hwq; go_simp; first | done | (with_reducible rfl)) ?_
  refine Fr.d_mv rfl rfl (Fr.w_none rfl) (by simp only [Fr.ev_tmp, Fr.ev_const, Fr.up_get, Nat.reduceLT, Nat.reduceEqDiff, ↓reduceIte, f5, f6, f7, f8, f9, f10, f11, f12, f13, f14, f15, f16, f17, f18, f19, f20, f21, f22, f23, f24, f25]; try rfl) ?_
  refine Fr.d_mv rfl rfl (Fr.w_yes rfl d48 (by decide) (by simp only [Fr.ev_tmp, Fr.ev_const, Fr.up_get, Nat.reduceLT, Nat.reduceEqDiff, ↓reduceIte])) (by simp only [Fr.ev_tmp, Fr.ev_const, Fr.up_get, Nat.reduceLT, Nat.reduceEqDiff, ↓reduceIte, f5, f6, f7, f8, f9, f10, f11, f12, f13, f14, f15, f16, f17, f18, f19, f20, f21, f22, f23, f24, f25]; try rfl) ?_
  refine Fr.d_det rfl (Fr.w_yes rfl d48 (by decide) (by simp only [Fr.ev_tmp, Fr.ev_const, Fr.up_get, Nat.reduceLT, Nat.reduceEqDiff, ↓reduceIte])) (by intro wq hwq; go_simp; first | done | (with_reducible rfl)) ?_
  refine Fr.d_det rfl (Fr.w_none rfl) (by intro wq hwq; go_simp; first | done | (with_reducible rfl)) ?_
  refine Fr.d_mv rfl rfl (Fr.w_none rfl) (by simp only [Fr.ev_tmp, Fr.ev_const, Fr.up_get, Nat.reduceLT, Nat.reduceEqDiff, ↓reduceIte, f5, f6, f7, f8, f9, f10, f11, f12, f13, f14, f15, f16, f17, f18, f19, f20, f21, f22, f23, f24, f25]; try rfl) ?_
  refine Fr.d_mv rfl rfl (Fr.w_yes rfl d52 (by decide) (by simp only [Fr.ev_tmp, Fr.ev_const, Fr.up_get, Nat.reduceLT, Nat.reduceEqDiff, ↓reduceIte])) (by simp only [Fr.ev_tmp, Fr.ev_const, Fr.up_get, Nat.reduceLT, Nat.reduceEqDiff, ↓reduceIte, f5, f6, f7, f8, f9, f10, f11, f12, f13, f14, f15, f16, f17, f18, f19, f20, f21, f22, f23, f24, f25]; try rfl) ?_
  refine Fr.d_mv rfl rfl (Fr.w_yes rfl d52 (by decide) (by simp only [Fr.ev_tmp, Fr.ev_const, Fr.up_get, Nat.reduceLT, Nat.reduceEqDiff, ↓reduceIte])) (by simp only [Fr.ev_tmp, Fr.ev_const, Fr.up_get, Nat.reduceLT, Nat.reduceEqDiff, ↓reduceIte, f5, f6, f7, f8, f9, f10, f11, f12, f13, f14, f15, f16, f17, f18, f19, f20, f21, f22, f23, f24, f25]; try rfl) ?_
  (refine Fr.d_call rfl (Fr.w_yes rfl d52 (by decide) (by simp only [Fr.ev_tmp, Fr.ev_const, Fr.up_get, Nat.reduceLT, Nat.reduceEqDiff, ↓reduceIte])) (by intro wq hwq; go_simp; first | done | (with_reducible exact ⟨rfl, rfl⟩) | (with_reducible rfl)) rfl (by intro w1 h1; refine (B3.out w1 h1).mono ?_; rintro e w2 ⟨rfl, h2⟩; exact ⟨_, rfl, rfl, h1.call h2⟩) ?_; rintro v rfl)
  refine Fr.d_det rfl (Fr.w_yes rfl d52 (by decide) (by simp only [Fr.ev_tmp, Fr.ev_const, Fr.up_get, Nat.reduceLT, Nat.reduceEqDiff, ↓reduceIte])) (by intro wq hwq; go_simp; first | done | (with_reducible rfl)) ?_
  refine Fr.d_det rfl (Fr.w_none rfl) (by intro wq hwq; go_simp; first | done | (with_reducible rfl)) ?_
  refine Fr.d_mv rfl rfl (Fr.w_none rfl) (by simp only [Fr.ev_tmp, Fr.ev_const, Fr.up_get, Nat.reduceLT, Nat.reduceEqDiff, ↓reduceIte, f5, f6, f7, f8, f9, f10, f11, f12, f13, f14, f15, f16, f17, f18, f19, f20, f21, f22, f23, f24, f25]; try rfl) ?_
  refine Fr.d_mv rfl rfl (Fr.w_yes rfl d58 (by decide) (by simp only [Fr.ev_tmp, Fr.ev_const, Fr.up_get, Nat.reduceLT, Nat.reduceEqDiff, ↓reduceIte])) (by simp only [Fr.ev_tmp, Fr.ev_const, Fr.up_get, Nat.reduceLT, Nat.reduceEqDiff, ↓reduceIte, f5, f6, f7, f8, f9, f10, f11, f12, f13, f14, f15, f16, f17, f18, f19, f20, f21, f22, f23, f24, f25]; try rfl) ?_
  refine Fr.d_det rfl (Fr.w_yes rfl d58 (by decide) (by simp only [Fr.ev_tmp, Fr.ev_const, Fr.up_get, Nat.reduceLT, Nat.reduceEqDiff, ↓reduceIte])) (by intro wq hwq; go_simp; first | done | (with_reducible rfl)) ?_
  refine Fr.d_mv rfl rfl (Fr.w_yes rfl d58 (by decide) (by simp only [Fr.ev_tmp, Fr.ev_const, Fr.up_get, Nat.reduceLT, Nat.reduceEqDiff, ↓reduceIte])) (by simp only [Fr.ev_tmp, Fr.ev_const, Fr.up_get, Nat.reduceLT, Nat.reduceEqDiff, ↓reduceIte, f5, f6, f7, f8, f9, f10, f11, f12, f13, f14, f15, f16, f17, f18, f19, f20, f21, f22, f23, f24, f25]; try rfl) ?_
  refine Fr.d_det rfl (Fr.w_yes rfl d58 (by decide) (by simp only [Fr.ev_tmp, Fr.ev_const, Fr.up_get, Nat.reduceLT, Nat.reduceEqDiff, ↓reduceIte])) (by intro wq hwq; go_simp; first | done | (with_reducible rfl)) ?_
  refine Fr.d_det rfl (Fr.w_yes rfl d58 (by decide) (by simp only [Fr.ev_tmp, Fr.ev_const, Fr.up_get, Nat.reduceLT, Nat.reduceEqDiff, ↓reduceIte])) (by intro wq hwq; go_simp; first | done | (with_reducible rfl)) ?_
  refine Fr.d_det rfl (Fr.w_none rfl) (by intro wq hwq; go_simp; first | done | (with_reducible rfl)) ?_
  refine Fr.d_mv rfl rfl (Fr.w_none rfl) (by simp only [Fr.ev_tmp, Fr.ev_const, Fr.up_get, Nat.reduceLT, Nat.reduceEqDiff, ↓reduceIte, f5, f6, f7, f8, f9, f10, f11, f12, f13, f14, f15, f16, f17, f18, f19, f20, f21, f22, f23, f24, f25]; try rfl) ?_
  refine Fr.d_mv rfl rfl (Fr.w_yes rfl d65 (by decide) (by simp only [Fr.ev_tmp, Fr.ev_const, Fr.up_get, Nat.reduceLT, Nat.reduceEqDiff, ↓reduceIte])) (by simp only [Fr.ev_tmp, Fr.ev_const, Fr.up_get, Nat.reduceLT, Nat.reduceEqDiff, ↓reduceIte, f5, f6, f7, f8, f9, f10, f11, f12, f13, f14, f15, f16, f17, f18, f19, f20, f21, f22, f23, f24, f25]; try rfl) ?_
  refine Fr.d_mv rfl rfl (Fr.w_yes rfl d65 (by decide) (by simp only [Fr.ev_tmp, Fr.ev_const, Fr.up_get, Nat.reduceLT, Nat.reduceEqDiff, ↓reduceIte])) (by simp only [Fr.ev_tmp, Fr.ev_const, Fr.up_get, Nat.reduceLT, Nat.reduceEqDiff, ↓reduceIte, f5, f6, f7, f8, f9, f10, f11, f12, f13, f14, f15, f16, f17, f18, f19, f20, f21, f22, f23, f24, f25]; try rfl) ?_
  refine Fr.d_det rfl (Fr.w_yes rfl d65 (by decide) (by simp only [Fr.ev_tmp, Fr.ev_const, Fr.up_get, Nat.reduceLT, Nat.reduceEqDiff, ↓reduceIte])) (by intro wq hwq; go_simp; first | done | (with_reducible rfl)) ?_
  refine Fr.d_det rfl (Fr.w_none rfl) (by intro wq hwq; go_simp; first | done | (with_reducible rfl)) ?_
  refine Fr.d_mv rfl rfl (Fr.w_none rfl) (by simp only [Fr.ev_tmp, Fr.ev_const, Fr.up_get, Nat.reduceLT, Nat.reduceEqDiff, ↓reduceIte, f5, f6, f7, f8, f9, f10, f11, f12, f13, f14, f15, f16, f17, f18, f19, f20, f21, f22, f23, f24, f25]; try rfl) ?_
  refine Fr.d_mv rfl rfl (Fr.w_yes rfl d70 (by decide) (by simp only [Fr.ev_tmp, Fr.ev_const, Fr.up_get, Nat.reduceLT, Nat.reduceEqDiff, ↓reduceIte])) (by simp only [Fr.ev_tmp, Fr.ev_const, Fr.up_get, Nat.reduceLT, Nat.reduceEqDiff, ↓reduceIte, f5, f6, f7, f8, f9, f10, f11, f12, f13, f14, f15, f16, f17, f18, f19, f20, f21, f22, f23, f24, f25]; try rfl) ?_
  refine Fr.d_det rfl (Fr.w_yes rfl d70 (by decide) (by simp only [Fr.ev_tmp, Fr.ev_const, Fr.up_get, Nat.reduceLT, Nat.reduceEqDiff, ↓reduceIte])) (by intro wq hwq; go_simp; first | done | (with_reducible rfl)) ?_
  refine Fr.d_det rfl (Fr.w_none rfl) (by intro wq hwq; go_simp; first | done | (with_reducible rfl)) ?_
  refine Fr.d_mv rfl rfl (Fr.w_none rfl) (by simp only [Fr.ev_tmp, Fr.ev_const, Fr.up_get, Nat.reduceLT, Nat.reduceEqDiff, ↓reduceIte, f5, f6, f7, f8, f9, f10, f11, f12, f13, f14, f15, f16, f17, f18, f19, f20, f21, f22, f23, f24, f25]; try rfl) ?_
  refine Fr.d_mv rfl rfl (Fr.w_yes rfl d74 (by decide) (by simp only [Fr.ev_tmp, Fr.ev_const, Fr.up_get, Nat.reduceLT, Nat.reduceEqDiff, ↓reduceIte])) (by simp only [Fr.ev_tmp, Fr.ev_const, Fr.up_get, Nat.reduceLT, Nat.reduceEqDiff, ↓reduceIte, f5, f6, f7, f8, f9, f10, f11, f12, f13, f14, f15, f16, f17, f18, f19, f20, f21, f22, f23, f24, f25]; try rfl) ?_
  refine Fr.d_mv rfl rfl (Fr.w_yes rfl d74 (by decide) (by simp only [Fr.ev_tmp, Fr.ev_const, Fr.up_get, Nat.reduceLT, Nat.reduceEqDiff, ↓reduceIte])) (by simp only [Fr.ev_tmp, Fr.ev_const, Fr.up_get, Nat.reduceLT, Nat.reduceEqDiff, ↓reduceIte, f5, f6, f7, f8, f9, f10, f11, f12, f13, f14, f15, f16, f17, f18, f19, f20, f21, f22, f23, f24, f25]; try rfl) ?_
  (refine Fr.d_call rfl (Fr.w_yes rfl d74 (by decide) (by simp only [Fr.ev_tmp, Fr.ev_const, Fr.up_get, Nat.reduceLT, Nat.reduceEqDiff, ↓reduceIte])) (by intro wq hwq; go_simp; first | done | (with_reducible exact ⟨rfl, rfl⟩) | (with_reducible rfl)) rfl (by intro w1 h1; refine (specSame_any _ _ _).mono ?_; rintro e w2 ⟨rfl, rfl⟩; exact ⟨_, rfl, congrArg Value.bool (hse), h1⟩) ?_; rintro v rfl)
  refine Fr.d_det rfl (Fr.w_yes rfl d74 (by decide) (by simp only [Fr.ev_tmp, Fr.ev_const, Fr.up_get, Nat.reduceLT, Nat.reduceEqDiff, ↓reduceIte])) (by intro wq hwq; go_simp; first | done | (with_reducible rfl)) ?_
  refine Fr.d_det rfl (Fr.w_none rfl) (by intro wq hwq; go_simp; first | done | (with_reducible rfl)) ?_
  refine Fr.d_mv rfl rfl (Fr.w_none rfl) (by simp only [Fr.ev_tmp, Fr.ev_const, Fr.up_get, Nat.reduceLT, Nat.reduceEqDiff, ↓reduceIte, f5, f6, f7, f8, f9, f10, f11, f12, f13, f14, f15, f16, f17, f18, f19, f20, f21, f22, f23, f24, f25]; try rfl) ?_
  refine Fr.d_mv rfl rfl (Fr.w_yes rfl d80 (by decide) (by simp only [Fr.ev_tmp, Fr.ev_const, Fr.up_get, Nat.reduceLT, Nat.reduceEqDiff, ↓reduceIte])) (by simp only [Fr.ev_tmp, Fr.ev_const, Fr.up_get, Nat.reduceLT, Nat.reduceEqDiff, ↓reduceIte, f5, f6, f7, f8, f9, f10, f11, f12, f13, f14, f15, f16, f17, f18, f19, f20, f21, f22, f23, f24, f25]; try rfl) ?_
  refine Fr.d_det rfl (Fr.w_yes rfl d80 (by decide) (by simp only [Fr.ev_tmp, Fr.ev_const, Fr.up_get, Nat.reduceLT, Nat.reduceEqDiff, ↓reduceIte])) (by intro wq hwq; go_simp; first | done | (with_reducible rfl)) ?_
  refine Fr.d_det rfl (Fr.w_yes rfl d80 (by decide) (by simp only [Fr.ev_tmp, Fr.ev_const, Fr.up_get, Nat.reduceLT, Nat.reduceEqDiff, ↓reduceIte])) (by intro wq hwq; go_simp; first | done | (with_reducible rfl)) ?_
  refine Fr.d_det rfl (Fr.w_none rfl) (by intro wq hwq; go_simp; first | done | (with_reducible rfl)) ?_
  refine Fr.d_mv rfl rfl (Fr.w_none rfl) (by simp only [Fr.ev_tmp, Fr.ev_const, Fr.up_get, Nat.reduceLT, Nat.reduceEqDiff, ↓reduceIte, f5, f6, f7, f8, f9, f10, f11, f12, f13, f14, f15, f16, f17, f18, f19, f20, f21, f22, f23, f24, f25]; try rfl) ?_
  refine Fr.d_mv rfl rfl (Fr.w_yes rfl d85 (by decide) (by simp only [Fr.ev_tmp, Fr.ev_const, Fr.up_get, Nat.reduceLT, Nat.reduceEqDiff, ↓reduceIte])) (by simp only [Fr.ev_tmp, Fr.ev_const, Fr.up_get, Nat.reduceLT, Nat.reduceEqDiff, ↓reduceIte, f5, f6, f7, f8, f9, f10, f11, f12, f13, f14, f15, f16, f17, f18, f19, f20, f21, f22, f23, f24, f25]; try rfl) ?_
  refine Fr.d_det rfl (Fr.w_yes rfl d85 (by decide) (by simp only [Fr.ev_tmp, Fr.ev_const, Fr.up_get, Nat.reduceLT, Nat.reduceEqDiff, ↓reduceIte])) (by intro wq hwq; go_simp; first | done | (with_reducible rfl)) ?_
  refine Fr.d_det rfl (Fr.w_none rfl) (by intro wq hwq; go_simp; first | done | (with_reducible rfl)) ?_
  refine Fr.d_mv rfl rfl (Fr.w_none rfl) (by simp only [Fr.ev_tmp, Fr.ev_const, Fr.up_get, Nat.reduceLT, Nat.reduceEqDiff, ↓reduceIte, f5, f6, f7, f8, f9, f10, f11, f12, f13, f14, f15, f16, f17, f18, f19, f20, f21, f22, f23, f24, f25]; try rfl) ?_
  refine Fr.d_mv rfl rfl (Fr.w_yes rfl d89 (by decide) (by simp only [Fr.ev_tmp, Fr.ev_const, Fr.up_get, Nat.reduceLT, Nat.reduceEqDiff, ↓reduceIte])) (by simp only [Fr.ev_tmp, Fr.ev_const, Fr.up_get, Nat.reduceLT, Nat.reduceEqDiff, ↓reduceIte, f5, f6, f7, f8, f9, f10, f11, f12, f13, f14, f15, f16, f17, f18, f19, f20, f21, f22, f23, f24, f25]; try rfl) ?_
  refine Fr.d_det rfl (Fr.w_yes rfl d89 (by decide) (by simp only [Fr.ev_tmp, Fr.ev_const, Fr.up_get, Nat.reduceLT, Nat.reduceEqDiff, ↓reduceIte])) (by intro wq hwq; go_simp; first | done | (with_reducible rfl)) ?_
  refine Fr.d_det rfl (Fr.w_none rfl) (by intro wq hwq; go_simp; first | done | (with_reducible rfl)) ?_
  refine Fr.d_mv rfl rfl (Fr.w_none rfl) (by simp only [Fr.ev_tmp, Fr.ev_const, Fr.up_get, Nat.reduceLT, Nat.reduceEqDiff, ↓reduceIte, f5, f6, f7, f8, f9, f10, f11, f12, f13, f14, f15, f16, f17, f18, f19, f20, f21, f22, f23, f24, f25]; try rfl) ?_
  refine Fr.d_mv rfl rfl (Fr.w_yes rfl d93 (by decide) (by simp only [Fr.ev_tmp, Fr.ev_const, Fr.up_get, Nat.reduceLT, Nat.reduceEqDiff, ↓reduceIte])) (by simp only [Fr.ev_tmp, Fr.ev_const, Fr.up_get, Nat.reduceLT, Nat.reduceEqDiff, ↓reduceIte, f5, f6, f7, f8, f9, f10, f11, f12, f13, f14, f15, f16, f17, f18, f19, f20, f21, f22, f23, f24, f25]; try rfl) ?_
  refine Fr.d_mv rfl rfl (Fr.w_yes rfl d93 (by decide) (by simp only [Fr.ev_tmp, Fr.ev_const, Fr.up_get, Nat.reduceLT, Nat.reduceEqDiff, ↓reduceIte])) (by simp only [Fr.ev_tmp, Fr.ev_const, Fr.up_get, Nat.reduceLT, Nat.reduceEqDiff, ↓reduceIte, f5, f6, f7, f8, f9, f10, f11, f12, f13, f14, f15, f16, f17, f18, f19, f20, f21, f22, f23, f24, f25]; try rfl) ?_
  refine Fr.d_det rfl (Fr.w_yes rfl d93 (by decide) (by simp only [Fr.ev_tmp, Fr.ev_const, Fr.up_get, Nat.reduceLT, Nat.reduceEqDiff, ↓reduceIte])) (by intro wq hwq; go_simp; first | done | (with_reducible rfl)) ?_
  refine Fr.d_det rfl (Fr.w_yes rfl d93 (by decide) (by simp only [Fr.ev_tmp, Fr.ev_const, Fr.up_get, Nat.reduceLT, Nat.reduceEqDiff, ↓reduceIte])) (by intro wq hwq; go_simp; first | done | (with_reducible rfl)) ?_
  refine Fr.d_mv rfl rfl (Fr.w_yes rfl d93 (by decide) (by simp only [Fr.ev_tmp, Fr.ev_const, Fr.up_get, Nat.reduceLT, Nat.reduceEqDiff, ↓reduceIte])) (by simp only [Fr.ev_tmp, Fr.ev_const, Fr.up_get, Nat.reduceLT, Nat.reduceEqDiff, ↓reduceIte, f5, f6, f7, f8, f9, f10, f11, f12, f13, f14, f15, f16, f17, f18, f19, f20, f21, f22, f23, f24, f25]; try rfl) ?_
  refine Fr.d_mv rfl rfl (Fr.w_yes rfl d93 (by decide) (by simp only [Fr.ev_tmp, Fr.ev_const, Fr.up_get, Nat.reduceLT, Nat.reduceEqDiff, ↓reduceIte])) (by simp only [Fr.ev_tmp, Fr.ev_const, Fr.up_get, Nat.reduceLT, Nat.reduceEqDiff, ↓reduceIte, f5, f6, f7, f8, f9, f10, f11, f12, f13, f14, f15, f16, f17, f18, f19, f20, f21, f22, f23, f24, f25]; try rfl) ?_
  refine Fr.d_det rfl (Fr.w_yes rfl d93 (by decide) (by simp only [Fr.ev_tmp, Fr.ev_const, Fr.up_get, Nat.reduceLT, Nat.reduceEqDiff, ↓reduceIte])) (by intro wq hwq; go_simp; first | done | (with_reducible rfl)) ?_
  refine Fr.d_det rfl (Fr.w_yes rfl d93 (by decide) (by simp only [Fr.ev_tmp, Fr.ev_const, Fr.up_get, Nat.reduceLT, Nat.reduceEqDiff, ↓reduceIte])) (by intro wq hwq; go_simp; first | done | (with_reducible rfl)) ?_
  refine Fr.d_det rfl (Fr.w_yes rfl d93 (by decide) (by simp only [Fr.ev_tmp, Fr.ev_const, Fr.up_get, Nat.reduceLT, Nat.reduceEqDiff, ↓reduceIte])) (by intro wq hwq; go_simp; first | done | (with_reducible rfl)) ?_
  (refine Fr.d_flt (hd := hdn) rfl (Fr.w_yes rfl d93 (by decide) (by simp only [Fr.ev_tmp, Fr.ev_const, Fr.up_get, Nat.reduceLT, Nat.reduceEqDiff, ↓reduceIte])) (by intro wq hwq; go_simp; first | done | (with_reducible exact ⟨rfl, rfl⟩) | (with_reducible rfl)) ?_; intro r hr hl)
  (refine Fr.d_call rfl (Fr.w_yes rfl d93 (by decide) (by simp only [Fr.ev_tmp, Fr.ev_const, Fr.up_get, Nat.reduceLT, Nat.reduceEqDiff, ↓reduceIte])) (by intro wq hwq; go_simp; first | done | (with_reducible exact ⟨rfl, rfl⟩) | (with_reducible rfl)) rfl (by intro w1 h1; refine (specSame_any _ _ _).mono ?_; rintro e w2 ⟨rfl, rfl⟩; exact ⟨_, rfl, congrArg Value.bool (teq_cn (HZ.out.trans hr.symm)), h1⟩) ?_; rintro v rfl)
  refine Fr.d_det rfl (Fr.w_yes rfl d93 (by decide) (by simp only [Fr.ev_tmp, Fr.ev_const, Fr.up_get, Nat.reduceLT, Nat.reduceEqDiff, ↓reduceIte])) (by intro wq hwq; go_simp; first | done | (with_reducible rfl)) ?_
  refine Fr.d_det rfl (Fr.w_none rfl) (by intro wq hwq; go_simp; first | done | (with_reducible rfl)) ?_
  refine Loose.done ?_
  intro w' hw'
  refine Fr.l_cond (t := false) (by simp only [Fr.ev_tmp, Fr.up_get, Nat.reduceLT, ↓reduceIte]) (fun h => absurd h (by decide)) (fun _ => ?_)
  refine wp_skip ?_
  refine HK.out w' _ hw' ?_ ?_
  · repeat (refine Fr.Agree.up (by decide) ?_)
    exact Fr.Agree.refl _ _
  · simp only [Fr.up_get, ↓reduceIte]

end Go.Proofs.Ytkgfepakedieaaa.yTurnsOn

/-! The great law's walk, an element: the loop along the axles. (written by wip/gen/turnson3.py.) -/
namespace Go.Proofs.Ytkgfepakedieaaa.yTurnsOn
open Go.RowKit
set_option linter.unusedVariables false
set_option linter.unusedSimpArgs false

set_option maxRecDepth 100000 in
set_option maxHeartbeats 16000000 in
theorem e17 {ps : List T3} {p q g2 k2 g4 k4 g6 k6 : Nat} {W w : World} {Q : Exit → Act → World → Prop} {R : Code} {f : Nat → Value}
    (f10 : f 10 = .slice (some ⟨g2, 0, none⟩) (ps.length + 1) k2) (f14 : f 14 = .slice (some ⟨g4, 0, none⟩) (ps.length + 1) k4) (f18 : f 18 = .slice (some ⟨g6, 0, none⟩) (ps.length + 1) k6)
    (hp : Rg (-2) 3 p) (hq : Rg (-2) 3 q) (hl : ps.length ≤ 4) (hg : ∀ x ∈ ps, PG x)
    (c6 : ∀ i, i ≤ ps.length → W.cell? ⟨g6, i, none⟩ = some (.float .f32 (powAt p q ps i)))
    (c24 : ∀ i, i ≤ ps.length → ∃ x y, W.cell? ⟨g2, i, none⟩ = some (.float .f32 x) ∧ W.cell? ⟨g4, i, none⟩ = some (.float .f32 y) ∧ cop .mul x y = powAt p q ps i)
    (hw : BelowC W w)
    (k : ∀ (w' : World) (g : Nat → Value), BelowC W w' → Fr.Kp 0 26 f g → Code.wp Try.prog R Q ⟨Fr.ft 557 g, []⟩ w') :
    Code.wp Try.prog ((Fr.fs (Fr.sn (Fr.sn (Fr.sn (Fr.sn (Fr.sn (Fr.sn (Fr.sn (Fr.sn (Fr.sn (Fr.sn (Fr.sn (Fr.sn (Fr.sn (Fr.sn (Fr.sn (B7))))))))))))))))).seq R) Q ⟨Fr.ft 557 f, []⟩ w := by
  have HK := Lib.hid k
  have HC6 := Lib.hid c6
  have HC24 := Lib.hid c24
  have HG := Lib.hid hg
  clear k c6 c24 hg
  conv => arg 2; arg 1; whnf
  have E1 := @Fr.ev_tmp 557
  have E2 := @Fr.ev_const 557
  have E3 := @Fr.up_get
  have E4 := @Fr.ev_func 557
  have E5 := @Fr.ev_global 557
  have hdn := @BelowC.drewN W
  refine wp_seq ?_
  refine wp_seq ?_
  refine wp_region_lit ?_
  refine Fr.l_as rfl rfl (Fr.w_none rfl) (by simp only [Fr.ev_tmp, Fr.ev_const, Fr.up_get, Nat.reduceLT, Nat.reduceEqDiff, ↓reduceIte]; try rfl) ?_
  refine Fr.l_nil ?_
  refine wp_block ?_
  refine Fr.l_loop (fun g w' => ∃ i : Nat, i ≤ ps.length + 1 ∧ g 26 = .int .i64 (i : Int) ∧ Fr.Kp 0 26 f g ∧ BelowC W w') 26 (by decide) (fun v => (ps.length + 1 - (intOf v).toNat)) ?_ ?_
  · exact ⟨0, by omega, (by simp only [Fr.up_get, ↓reduceIte]; rfl), (by (repeat (refine Fr.Kp.up (by decide) ?_)); exact Fr.Kp.refl _ _ _), hw⟩
  rintro g wr ⟨i, hi, h26, hK, hb⟩
  have h10 := (hK 10 (by decide) (by decide)).trans f10
  have h14 := (hK 14 (by decide) (by decide)).trans f14
  have h18 := (hK 18 (by decide) (by decide)).trans f18
  refine wp_seq ?_
  refine wp_seq ?_
  by_cases hlt : i ≤ ps.length
  · have hlt' : (i : Int) < (ps.length : Int) + 1 := by omega
    have hwi : IntKind.i64.wrap ((i : Int) + 1) = (i : Int) + 1 := by rw [IntKind.wrap_i64]; omega
    obtain ⟨z2, z4, c2, c4, hz⟩ := HC24.out i hlt
    have hF := axle hp hq hl HG.out hlt
    have hFx := hF.1
    have q6 := BelowC.cell (HC6.out i hlt) (World.block_lt_of_cell? W _ (HC6.out i hlt))
    have q2 := BelowC.cell c2 (World.block_lt_of_cell? W _ c2)
    have q4 := BelowC.cell c4 (World.block_lt_of_cell? W _ c4)
    have HZ := Lib.hid hz
    have HF := Lib.hid hF
    have HFx := Lib.hid hFx
    clear hz hF hFx c2 c4
    obtain ⟨x, hx⟩ : ∃ x, x = powAt p q ps i := ⟨_, rfl⟩
    rw [← hx] at q6 HZ HF HFx
    have HX := Lib.hid hx
    clear hx
    refine wp_region_lit ?_
    refine Fr.l_mv rfl rfl (Fr.w_none rfl) (by simp only [Fr.ev_tmp, Fr.ev_const, Fr.up_get, Nat.reduceLT, Nat.reduceEqDiff, ↓reduceIte, h10, h14, h18, h26]; try rfl) ?_
    refine Fr.l_mv rfl rfl (Fr.w_none rfl) (by simp only [Fr.ev_tmp, Fr.ev_const, Fr.up_get, Nat.reduceLT, Nat.reduceEqDiff, ↓reduceIte, h10, h14, h18, h26]; try rfl) ?_
    refine Fr.l_val rfl (Fr.w_none rfl) (by go_simp; first | done | (with_reducible rfl) | (with_reducible exact ⟨rfl, rfl⟩) | (with_reducible exact ⟨⟨rfl, rfl⟩, rfl⟩)) ?_
    refine Fr.l_val rfl (Fr.w_none rfl) (by go_simp; first | done | (with_reducible rfl) | (with_reducible exact ⟨rfl, rfl⟩) | (with_reducible exact ⟨⟨rfl, rfl⟩, rfl⟩)) ?_
    refine Fr.l_nil ?_
    refine Fr.l_cond (t := true) (by simp only [Fr.ev_tmp, Fr.ev_const, Fr.up_get, Nat.reduceLT, Nat.reduceEqDiff, ↓reduceIte]; try rfl) (fun _ => ?_) (fun h => absurd h (by decide))
    refine wp_skip ?_
    refine wp_seq ?_
    refine wp_block ?_
    refine wp_seq ?_
    refine wp_seq ?_
    refine Loose.wp_regionF (BelowC W) (Loose.Tab [(30, fun _ v => v = .bool true), (31, fun _ v => v = .bool true)]) (by kernel_rfl) (by kernel_rfl) (Fr.belowC_drew hb) ?_
    refine Loose.wpL_ops ?_
    intro OPS hO
    have d15 : (OPS[15]?).bind (·.dst) = some 242 := by rw [hO]; kernel_rfl
    clear hO
    refine Fr.d_mv rfl rfl (Fr.w_none rfl) (by simp only [Fr.ev_tmp, Fr.ev_const, Fr.up_get, Nat.reduceLT, Nat.reduceEqDiff, ↓reduceIte, h10, h14, h18, h26]; try rfl) ?_
    refine Fr.d_mv rfl rfl (Fr.w_none rfl) (by simp only [Fr.ev_tmp, Fr.ev_const, Fr.up_get, Nat.reduceLT, Nat.reduceEqDiff, ↓reduceIte, h10, h14, h18, h26]; try rfl) ?_
    refine Fr.d_det rfl (Fr.w_none rfl) (by intro wq hwq; go_simp; first | done | (with_reducible rfl) | (with_reducible exact ⟨rfl, rfl⟩)) ?_
    refine Fr.d_det rfl (Fr.w_none rfl) (by intro wq hwq; go_simp; first | done | (with_reducible rfl) | (with_reducible exact ⟨rfl, rfl⟩)) ?_
    refine Fr.d_mv rfl rfl (Fr.w_none rfl) (by simp only [Fr.ev_tmp, Fr.ev_const, Fr.up_get, Nat.reduceLT, Nat.reduceEqDiff, ↓reduceIte, h10, h14, h18, h26]; try rfl) ?_
    refine Fr.d_mv rfl rfl (Fr.w_none rfl) (by simp only [Fr.ev_tmp, Fr.ev_const, Fr.up_get, Nat.reduceLT, Nat.reduceEqDiff, ↓reduceIte, h10, h14, h18, h26]; try rfl) ?_
    refine Fr.d_det rfl (Fr.w_none rfl) (by intro wq hwq; go_simp; first | done | (with_reducible rfl) | (with_reducible exact ⟨rfl, rfl⟩)) ?_
    refine Fr.d_det rfl (Fr.w_none rfl) (by intro wq hwq; go_simp; first | done | (with_reducible rfl) | (with_reducible exact ⟨rfl, rfl⟩)) ?_
    refine Fr.d_mv rfl rfl (Fr.w_none rfl) (by simp only [Fr.ev_tmp, Fr.ev_const, Fr.up_get, Nat.reduceLT, Nat.reduceEqDiff, ↓reduceIte, h10, h14, h18, h26]; try rfl) ?_
    refine Fr.d_mv rfl rfl (Fr.w_none rfl) (by simp only [Fr.ev_tmp, Fr.ev_const, Fr.up_get, Nat.reduceLT, Nat.reduceEqDiff, ↓reduceIte, h10, h14, h18, h26]; try rfl) ?_
    refine Fr.d_det rfl (Fr.w_none rfl) (by intro wq hwq; go_simp; first | done | (with_reducible rfl) | (with_reducible exact ⟨rfl, rfl⟩)) ?_
    refine Fr.d_det rfl (Fr.w_none rfl) (by intro wq hwq; go_simp; first | done | (with_reducible rfl) | (with_reducible exact ⟨rfl, rfl⟩)) ?_
    (refine Fr.d_flt (hd := hdn) rfl (Fr.w_none rfl) (by intro wq hwq; go_simp; first | done | (with_reducible rfl) | (with_reducible exact ⟨rfl, rfl⟩)) ?_; intro rA hrA hlA)
    (refine Fr.d_call rfl (Fr.w_none rfl) (by intro wq hwq; go_simp; first | done | (with_reducible rfl) | (with_reducible exact ⟨rfl, rfl⟩)) rfl (by intro w1 h1; refine (specSame_any _ _ _).mono ?_; rintro e w2 ⟨rfl, rfl⟩; exact ⟨_, rfl, congrArg Value.bool (teq_cn ((cn_F HFx.out).trans (HZ.out.symm.trans hrA.symm))), h1⟩) ?_; rintro v rfl)
    refine Fr.d_det rfl (Fr.w_none rfl) (by intro wq hwq; go_simp; first | done | (with_reducible rfl) | (with_reducible exact ⟨rfl, rfl⟩)) ?_
    refine Fr.d_mv rfl rfl (Fr.w_none rfl) (by simp only [Fr.ev_tmp, Fr.ev_const, Fr.up_get, Nat.reduceLT, Nat.reduceEqDiff, ↓reduceIte, h10, h14, h18, h26]; try rfl) ?_
    refine Fr.d_mv rfl rfl (Fr.w_yes rfl d15 (by decide) (by simp only [Fr.ev_tmp, Fr.ev_const, Fr.up_get, Nat.reduceLT, Nat.reduceEqDiff, ↓reduceIte])) (by simp only [Fr.ev_tmp, Fr.ev_const, Fr.up_get, Nat.reduceLT, Nat.reduceEqDiff, ↓reduceIte, h10, h14, h18, h26]; try rfl) ?_
    refine Fr.d_mv rfl rfl (Fr.w_yes rfl d15 (by decide) (by simp only [Fr.ev_tmp, Fr.ev_const, Fr.up_get, Nat.reduceLT, Nat.reduceEqDiff, ↓reduceIte])) (by simp only [Fr.ev_tmp, Fr.ev_const, Fr.up_get, Nat.reduceLT, Nat.reduceEqDiff, ↓reduceIte, h10, h14, h18, h26]; try rfl) ?_
    refine Fr.d_det rfl (Fr.w_yes rfl d15 (by decide) (by simp only [Fr.ev_tmp, Fr.ev_const, Fr.up_get, Nat.reduceLT, Nat.reduceEqDiff, ↓reduceIte])) (by intro wq hwq; go_simp; first | done | (with_reducible rfl) | (with_reducible exact ⟨rfl, rfl⟩)) ?_
    refine Fr.d_det rfl (Fr.w_yes rfl d15 (by decide) (by simp only [Fr.ev_tmp, Fr.ev_const, Fr.up_get, Nat.reduceLT, Nat.reduceEqDiff, ↓reduceIte])) (by intro wq hwq; go_simp; first | done | (with_reducible rfl) | (with_reducible exact ⟨rfl, rfl⟩)) ?_
    (refine Fr.d_call rfl (Fr.w_yes rfl d15 (by decide) (by simp only [Fr.ev_tmp, Fr.ev_const, Fr.up_get, Nat.reduceLT, Nat.reduceEqDiff, ↓reduceIte])) (by intro wq hwq; go_simp; first | done | (with_reducible rfl) | (with_reducible exact ⟨rfl, rfl⟩)) rfl (by intro w1 h1; refine (a2Finite_any _ _ HFx.out).mono ?_; rintro e w2 ⟨rfl, h2⟩; exact ⟨_, rfl, rfl, h1.call h2⟩) ?_; rintro v rfl)
    refine Fr.d_det rfl (Fr.w_yes rfl d15 (by decide) (by simp only [Fr.ev_tmp, Fr.ev_const, Fr.up_get, Nat.reduceLT, Nat.reduceEqDiff, ↓reduceIte])) (by intro wq hwq; go_simp; first | done | (with_reducible rfl) | (with_reducible exact ⟨rfl, rfl⟩)) ?_
    refine Fr.d_det rfl (Fr.w_none rfl) (by intro wq hwq; go_simp; first | done | (with_reducible rfl) | (with_reducible exact ⟨rfl, rfl⟩)) ?_
    refine Loose.done ?_
    intro w' hw'
    refine Fr.l_cond (t := false) (by simp only [Fr.ev_tmp, Fr.ev_const, Fr.up_get, Nat.reduceLT, Nat.reduceEqDiff, ↓reduceIte]; try rfl) (fun h => absurd h (by decide)) (fun _ => ?_)
    refine wp_skip ?_
    refine wp_seq ?_
    obtain _ | j := i
    · have h26 : g 26 = .int .i64 0 := h26
      have hwi : IntKind.i64.wrap (1 : Int) = 1 := by decide
      refine wp_region_lit ?_
      refine Fr.l_mv rfl rfl (Fr.w_none rfl) (by simp only [Fr.ev_tmp, Fr.ev_const, Fr.up_get, Nat.reduceLT, Nat.reduceEqDiff, ↓reduceIte, h10, h14, h18, h26]; try rfl) ?_
      refine Fr.l_val rfl (Fr.w_none rfl) (by go_simp; first | done | (with_reducible rfl) | (with_reducible exact ⟨rfl, rfl⟩) | (with_reducible exact ⟨⟨rfl, rfl⟩, rfl⟩)) ?_
      refine Fr.l_nil ?_
      refine Fr.l_cond (t := false) (by simp only [Fr.ev_tmp, Fr.ev_const, Fr.up_get, Nat.reduceLT, Nat.reduceEqDiff, ↓reduceIte]; try rfl) (fun h => absurd h (by decide)) (fun _ => ?_)
      refine wp_skip ?_
      refine wp_region_lit ?_
      refine Fr.l_mv rfl rfl (Fr.w_none rfl) (by simp only [Fr.ev_tmp, Fr.ev_const, Fr.up_get, Nat.reduceLT, Nat.reduceEqDiff, ↓reduceIte, h10, h14, h18, h26]; try rfl) ?_
      refine Fr.l_val rfl (Fr.w_none rfl) (by go_simp; first | done | (with_reducible rfl) | (with_reducible exact ⟨rfl, rfl⟩) | (with_reducible exact ⟨⟨rfl, rfl⟩, rfl⟩)) ?_
      refine Fr.l_as rfl rfl (Fr.w_none rfl) (by simp only [Fr.ev_tmp, Fr.ev_const, Fr.up_get, Nat.reduceLT, Nat.reduceEqDiff, ↓reduceIte, h10, h14, h18, h26]; try rfl) ?_
      refine Fr.l_nil ?_
      refine Fr.then_ok ⟨_, rfl, ⟨1, by omega, (by simp only [Fr.up_get, ↓reduceIte]; rfl), (by (repeat (refine Fr.Kp.up (by decide) ?_)); exact hK), hw'⟩, ?_⟩
      simp only [Fr.up_get, ↓reduceIte, h26, intOf]
      omega
    · have h26 : g 26 = .int .i64 ((j : Int) + 1) := by rw [h26]; simp
      have hwi : IntKind.i64.wrap ((j : Int) + 1 + 1) = (j : Int) + 1 + 1 := by rw [IntKind.wrap_i64]; omega
      have hwj : IntKind.i64.wrap (j : Int) = (j : Int) := by rw [IntKind.wrap_i64]; omega
      have hj0 : (0 : Int) < (j : Int) + 1 := by omega
      have hj3 : (0 : Int) ≤ (j : Int) + 1 := by omega
      have hj1 : (j : Int) < (ps.length : Int) + 1 := by omega
      have hj2 : (j : Int) + 1 < (ps.length : Int) + 1 := by omega
      have hF0 := axle hp hq hl HG.out (i := j) (by omega)
      have hG := axle_gain hp hq hl HG.out (i := j) (by omega)
      rw [← HX.out] at hG
      have q60 := BelowC.cell (HC6.out j (by omega)) (World.block_lt_of_cell? W _ (HC6.out j (by omega)))
      obtain ⟨y, hy⟩ : ∃ y, y = powAt p q ps j := ⟨_, rfl⟩
      rw [← hy] at hF0 hG q60
      clear hy
      have hs1 : S x = S y := by rw [HF.out.2, hF0.2]
      have M1 := fun (w : World) (ts : Array TypeId) (t : TypeId) => run_max_abs (P := Try.prog) w ts t HFx.out
      have M0 := fun (w : World) (ts : Array TypeId) (t : TypeId) => run_max_abs (P := Try.prog) w ts t hF0.1
      have hfv := fval_F hG.1
      have hfd := fdn_F hG.1
      have hgn := hG.2
      have up0 : flt .f32 0 x = true → flt .f32 y 0 = false := fun h => by
        rw [ltF zero_F.1 HFx.out, decide_eq_true_eq, V_zero] at h
        rw [ltF hF0.1 zero_F.1, V_zero]
        have hA := A_nn x
        have hA' := A_nn y
        cases hs : S x
        · rw [V_pos (by rw [← hs1]; exact hs)]
          exact decide_eq_false (Rat.not_lt.2 hA')
        · rw [V_neg hs] at h
          exfalso
          grind
      have dn0 : flt .f32 x 0 = true → flt .f32 0 y = false := fun h => by
        rw [ltF HFx.out zero_F.1, decide_eq_true_eq, V_zero] at h
        rw [ltF zero_F.1 hF0.1, V_zero]
        have hA := A_nn x
        have hA' := A_nn y
        cases hs : S x
        · rw [V_pos hs] at h
          exfalso
          grind
        · rw [V_neg (by rw [← hs1]; exact hs)]
          exact decide_eq_false (by grind)
      have no2 : flt .f32 0 x = true → flt .f32 x 0 = true → False := fun h h' => by
        rw [ltF zero_F.1 HFx.out, decide_eq_true_eq] at h
        rw [ltF HFx.out zero_F.1, decide_eq_true_eq] at h'
        exact Rat.not_lt.2 (Rat.le_of_lt h) h'
      have UP := Lib.hid up0
      have DN := Lib.hid dn0
      have NO := Lib.hid no2
      have HF0 := Lib.hid hF0
      clear hs1 hF0 hG up0 dn0 no2
      refine wp_region_lit ?_
      refine Fr.l_mv rfl rfl (Fr.w_none rfl) (by simp only [Fr.ev_tmp, Fr.ev_const, Fr.up_get, Nat.reduceLT, Nat.reduceEqDiff, ↓reduceIte, h10, h14, h18, h26]; try rfl) ?_
      refine Fr.l_val rfl (Fr.w_none rfl) (by go_simp; first | done | (with_reducible rfl) | (with_reducible exact ⟨rfl, rfl⟩) | (with_reducible exact ⟨⟨rfl, rfl⟩, rfl⟩)) ?_
      refine Fr.l_nil ?_
      refine Fr.l_cond (t := true) (by simp only [Fr.ev_tmp, Fr.ev_const, Fr.up_get, Nat.reduceLT, Nat.reduceEqDiff, ↓reduceIte]; try rfl) (fun _ => ?_) (fun h => absurd h (by decide))
      refine wp_seq ?_
      refine Loose.wp_regionF (BelowC W) (Loose.Tab []) (by kernel_rfl) (by kernel_rfl) (Fr.belowC_drew hw') ?_
      refine Loose.wpL_ops ?_
      intro OPS hO
      clear hO
      refine Fr.d_mv rfl rfl (Fr.w_none rfl) (by simp only [Fr.ev_tmp, Fr.ev_const, Fr.up_get, Nat.reduceLT, Nat.reduceEqDiff, ↓reduceIte, h10, h14, h18, h26]; try rfl) ?_
      refine Fr.d_mv rfl rfl (Fr.w_none rfl) (by simp only [Fr.ev_tmp, Fr.ev_const, Fr.up_get, Nat.reduceLT, Nat.reduceEqDiff, ↓reduceIte, h10, h14, h18, h26]; try rfl) ?_
      refine Fr.d_det rfl (Fr.w_none rfl) (by intro wq hwq; go_simp; first | done | (with_reducible rfl) | (with_reducible exact ⟨rfl, rfl⟩)) ?_
      refine Fr.d_det rfl (Fr.w_none rfl) (by intro wq hwq; go_simp; first | done | (with_reducible rfl) | (with_reducible exact ⟨rfl, rfl⟩)) ?_
      refine Fr.d_det rfl (Fr.w_none rfl) (by intro wq hwq; go_simp; first | done | (with_reducible rfl) | (with_reducible exact ⟨rfl, rfl⟩)) ?_
      refine Fr.d_mv rfl rfl (Fr.w_none rfl) (by simp only [Fr.ev_tmp, Fr.ev_const, Fr.up_get, Nat.reduceLT, Nat.reduceEqDiff, ↓reduceIte, h10, h14, h18, h26]; try rfl) ?_
      refine Fr.d_mv rfl rfl (Fr.w_none rfl) (by simp only [Fr.ev_tmp, Fr.ev_const, Fr.up_get, Nat.reduceLT, Nat.reduceEqDiff, ↓reduceIte, h10, h14, h18, h26]; try rfl) ?_
      refine Fr.d_det rfl (Fr.w_none rfl) (by intro wq hwq; go_simp; first | done | (with_reducible rfl) | (with_reducible exact ⟨rfl, rfl⟩)) ?_
      refine Fr.d_det rfl (Fr.w_none rfl) (by intro wq hwq; go_simp; first | done | (with_reducible rfl) | (with_reducible exact ⟨rfl, rfl⟩)) ?_
      refine Fr.d_det rfl (Fr.w_none rfl) (by intro wq hwq; go_simp; first | done | (with_reducible rfl) | (with_reducible exact ⟨rfl, rfl⟩)) ?_
      refine Fr.d_det rfl (Fr.w_none rfl) (by intro wq hwq; go_simp; first | done | (with_reducible rfl) | (with_reducible exact ⟨rfl, rfl⟩)) ?_
      refine Fr.d_det rfl (Fr.w_none rfl) (by intro wq hwq; go_simp; first | done | (with_reducible rfl) | (with_reducible exact ⟨rfl, rfl⟩)) ?_
      refine Fr.d_as rfl rfl (Fr.w_none rfl) (by simp only [Fr.ev_tmp, Fr.ev_const, Fr.up_get, Nat.reduceLT, Nat.reduceEqDiff, ↓reduceIte, h10, h14, h18, h26]; try rfl) ?_
      refine Loose.done ?_
      intro w2 hw2
      refine wp_seq ?_
      refine Loose.wp_regionF (BelowC W) (Loose.Tab []) (by kernel_rfl) (by kernel_rfl) (Fr.belowC_drew hw2) ?_
      refine Loose.wpL_ops ?_
      intro OPS hO
      clear hO
      refine Fr.d_mv rfl rfl (Fr.w_none rfl) (by simp only [Fr.ev_tmp, Fr.ev_const, Fr.up_get, Nat.reduceLT, Nat.reduceEqDiff, ↓reduceIte, h10, h14, h18, h26]; try rfl) ?_
      refine Fr.d_mv rfl rfl (Fr.w_none rfl) (by simp only [Fr.ev_tmp, Fr.ev_const, Fr.up_get, Nat.reduceLT, Nat.reduceEqDiff, ↓reduceIte, h10, h14, h18, h26]; try rfl) ?_
      refine Fr.d_det rfl (Fr.w_none rfl) (by intro wq hwq; go_simp; first | done | (with_reducible rfl) | (with_reducible exact ⟨rfl, rfl⟩)) ?_
      refine Fr.d_det rfl (Fr.w_none rfl) (by intro wq hwq; go_simp; first | done | (with_reducible rfl) | (with_reducible exact ⟨rfl, rfl⟩)) ?_
      refine Fr.d_mv rfl rfl (Fr.w_none rfl) (by simp only [Fr.ev_tmp, Fr.ev_const, Fr.up_get, Nat.reduceLT, Nat.reduceEqDiff, ↓reduceIte, h10, h14, h18, h26]; try rfl) ?_
      refine Fr.d_mv rfl rfl (Fr.w_none rfl) (by simp only [Fr.ev_tmp, Fr.ev_const, Fr.up_get, Nat.reduceLT, Nat.reduceEqDiff, ↓reduceIte, h10, h14, h18, h26]; try rfl) ?_
      refine Fr.d_det rfl (Fr.w_none rfl) (by intro wq hwq; go_simp; first | done | (with_reducible rfl) | (with_reducible exact ⟨rfl, rfl⟩)) ?_
      refine Fr.d_det rfl (Fr.w_none rfl) (by intro wq hwq; go_simp; first | done | (with_reducible rfl) | (with_reducible exact ⟨rfl, rfl⟩)) ?_
      refine Fr.d_det rfl (Fr.w_none rfl) (by intro wq hwq; go_simp; first | done | (with_reducible rfl) | (with_reducible exact ⟨rfl, rfl⟩)) ?_
      refine Fr.d_det rfl (Fr.w_none rfl) (by intro wq hwq; go_simp; first | done | (with_reducible rfl) | (with_reducible exact ⟨rfl, rfl⟩)) ?_
      refine Fr.d_as rfl rfl (Fr.w_none rfl) (by simp only [Fr.ev_tmp, Fr.ev_const, Fr.up_get, Nat.reduceLT, Nat.reduceEqDiff, ↓reduceIte, h10, h14, h18, h26]; try rfl) ?_
      refine Loose.done ?_
      intro w3 hw3
      refine wp_seq ?_
      cases h1 : flt .f32 0 x <;> cases h2 : flt .f32 x 0
      · have h3 : True := trivial
        have q6w := q6 _ hw3
        have q60w := q60 _ hw3
        refine wp_region_lit ?_
        refine Fr.l_ops ?_
        intro OPS hO
        have d4 : (OPS[4]?).bind (·.dst) = some 278 := by rw [hO]; kernel_rfl
        have d10 : (OPS[10]?).bind (·.dst) = some 284 := by rw [hO]; kernel_rfl
        have d19 : (OPS[19]?).bind (·.dst) = some 293 := by rw [hO]; kernel_rfl
        have d25 : (OPS[25]?).bind (·.dst) = some 299 := by rw [hO]; kernel_rfl
        clear hO
        refine Fr.l_mv rfl rfl (Fr.w_none rfl) (by simp only [Fr.ev_tmp, Fr.ev_const, Fr.up_get, Nat.reduceLT, Nat.reduceEqDiff, ↓reduceIte, h10, h14, h18, h26]; try rfl) ?_
        refine Fr.l_mv rfl rfl (Fr.w_none rfl) (by simp only [Fr.ev_tmp, Fr.ev_const, Fr.up_get, Nat.reduceLT, Nat.reduceEqDiff, ↓reduceIte, h10, h14, h18, h26]; try rfl) ?_
        refine Fr.l_val rfl (Fr.w_none rfl) (by go_simp; first | done | (with_reducible rfl) | (with_reducible exact ⟨rfl, rfl⟩) | (with_reducible exact ⟨⟨rfl, rfl⟩, rfl⟩)) ?_
        refine Fr.l_val rfl (Fr.w_none rfl) (by go_simp; first | done | (with_reducible rfl) | (with_reducible exact ⟨rfl, rfl⟩) | (with_reducible exact ⟨⟨rfl, rfl⟩, rfl⟩)) ?_
        refine Fr.l_mv rfl rfl (Fr.w_none rfl) (by simp only [Fr.ev_tmp, Fr.ev_const, Fr.up_get, Nat.reduceLT, Nat.reduceEqDiff, ↓reduceIte, h10, h14, h18, h26]; try rfl) ?_
        refine Fr.l_mv rfl rfl (Fr.w_yes rfl d4 (by decide) (by simp only [Fr.ev_tmp, Fr.ev_const, Fr.up_get, Nat.reduceLT, Nat.reduceEqDiff, ↓reduceIte])) (by simp only [Fr.ev_tmp, Fr.ev_const, Fr.up_get, Nat.reduceLT, Nat.reduceEqDiff, ↓reduceIte, h10, h14, h18, h26]; try rfl) ?_
        refine Fr.l_mv rfl rfl (Fr.w_yes rfl d4 (by decide) (by simp only [Fr.ev_tmp, Fr.ev_const, Fr.up_get, Nat.reduceLT, Nat.reduceEqDiff, ↓reduceIte])) (by simp only [Fr.ev_tmp, Fr.ev_const, Fr.up_get, Nat.reduceLT, Nat.reduceEqDiff, ↓reduceIte, h10, h14, h18, h26]; try rfl) ?_
        refine Fr.l_val rfl (Fr.w_yes rfl d4 (by decide) (by simp only [Fr.ev_tmp, Fr.ev_const, Fr.up_get, Nat.reduceLT, Nat.reduceEqDiff, ↓reduceIte])) (by go_simp; first | done | (with_reducible rfl) | (with_reducible exact ⟨rfl, rfl⟩) | (with_reducible exact ⟨⟨rfl, rfl⟩, rfl⟩)) ?_
        refine Fr.l_val rfl (Fr.w_yes rfl d4 (by decide) (by simp only [Fr.ev_tmp, Fr.ev_const, Fr.up_get, Nat.reduceLT, Nat.reduceEqDiff, ↓reduceIte])) (by go_simp; first | done | (with_reducible rfl) | (with_reducible exact ⟨rfl, rfl⟩) | (with_reducible exact ⟨⟨rfl, rfl⟩, rfl⟩)) ?_
        refine Fr.l_val rfl (Fr.w_yes rfl d4 (by decide) (by simp only [Fr.ev_tmp, Fr.ev_const, Fr.up_get, Nat.reduceLT, Nat.reduceEqDiff, ↓reduceIte])) (by go_simp; first | done | (with_reducible rfl) | (with_reducible exact ⟨rfl, rfl⟩) | (with_reducible exact ⟨⟨rfl, rfl⟩, rfl⟩)) ?_
        refine Fr.l_mv rfl rfl (Fr.w_yes rfl d4 (by decide) (by simp only [Fr.ev_tmp, Fr.ev_const, Fr.up_get, Nat.reduceLT, Nat.reduceEqDiff, ↓reduceIte])) (by simp only [Fr.ev_tmp, Fr.ev_const, Fr.up_get, Nat.reduceLT, Nat.reduceEqDiff, ↓reduceIte, h10, h14, h18, h26]; try rfl) ?_
        refine Fr.l_pass rfl (Fr.w_no rfl d10 (by decide) (by first | (left; simp only [Fr.ev_tmp, Fr.ev_const, Fr.up_get, Nat.reduceLT, Nat.reduceEqDiff, ↓reduceIte, Bool.not_true, Bool.not_false]; done) | (right; simp only [Fr.ev_tmp, Fr.ev_const, Fr.up_get, Nat.reduceLT, Nat.reduceEqDiff, ↓reduceIte, Bool.not_true, Bool.not_false]; done))) ?_
        refine Fr.l_pass rfl (Fr.w_no rfl d10 (by decide) (by first | (left; simp only [Fr.ev_tmp, Fr.ev_const, Fr.up_get, Nat.reduceLT, Nat.reduceEqDiff, ↓reduceIte, Bool.not_true, Bool.not_false]; done) | (right; simp only [Fr.ev_tmp, Fr.ev_const, Fr.up_get, Nat.reduceLT, Nat.reduceEqDiff, ↓reduceIte, Bool.not_true, Bool.not_false]; done))) ?_
        refine Fr.l_pass rfl (Fr.w_no rfl d10 (by decide) (by first | (left; simp only [Fr.ev_tmp, Fr.ev_const, Fr.up_get, Nat.reduceLT, Nat.reduceEqDiff, ↓reduceIte, Bool.not_true, Bool.not_false]; done) | (right; simp only [Fr.ev_tmp, Fr.ev_const, Fr.up_get, Nat.reduceLT, Nat.reduceEqDiff, ↓reduceIte, Bool.not_true, Bool.not_false]; done))) ?_
        refine Fr.l_pass rfl (Fr.w_no rfl d10 (by decide) (by first | (left; simp only [Fr.ev_tmp, Fr.ev_const, Fr.up_get, Nat.reduceLT, Nat.reduceEqDiff, ↓reduceIte, Bool.not_true, Bool.not_false]; done) | (right; simp only [Fr.ev_tmp, Fr.ev_const, Fr.up_get, Nat.reduceLT, Nat.reduceEqDiff, ↓reduceIte, Bool.not_true, Bool.not_false]; done))) ?_
        refine Fr.l_pass rfl (Fr.w_no rfl d10 (by decide) (by first | (left; simp only [Fr.ev_tmp, Fr.ev_const, Fr.up_get, Nat.reduceLT, Nat.reduceEqDiff, ↓reduceIte, Bool.not_true, Bool.not_false]; done) | (right; simp only [Fr.ev_tmp, Fr.ev_const, Fr.up_get, Nat.reduceLT, Nat.reduceEqDiff, ↓reduceIte, Bool.not_true, Bool.not_false]; done))) ?_
        refine Fr.l_pass rfl (Fr.w_no rfl d10 (by decide) (by first | (left; simp only [Fr.ev_tmp, Fr.ev_const, Fr.up_get, Nat.reduceLT, Nat.reduceEqDiff, ↓reduceIte, Bool.not_true, Bool.not_false]; done) | (right; simp only [Fr.ev_tmp, Fr.ev_const, Fr.up_get, Nat.reduceLT, Nat.reduceEqDiff, ↓reduceIte, Bool.not_true, Bool.not_false]; done))) ?_
        refine Fr.l_val rfl (Fr.w_yes rfl d4 (by decide) (by simp only [Fr.ev_tmp, Fr.ev_const, Fr.up_get, Nat.reduceLT, Nat.reduceEqDiff, ↓reduceIte])) (by go_simp; first | done | (with_reducible rfl) | (with_reducible exact ⟨rfl, rfl⟩) | (with_reducible exact ⟨⟨rfl, rfl⟩, rfl⟩)) ?_
        refine Fr.l_val rfl (Fr.w_none rfl) (by go_simp; first | done | (with_reducible rfl) | (with_reducible exact ⟨rfl, rfl⟩) | (with_reducible exact ⟨⟨rfl, rfl⟩, rfl⟩)) ?_
        refine Fr.l_mv rfl rfl (Fr.w_none rfl) (by simp only [Fr.ev_tmp, Fr.ev_const, Fr.up_get, Nat.reduceLT, Nat.reduceEqDiff, ↓reduceIte, h10, h14, h18, h26]; try rfl) ?_
        refine Fr.l_mv rfl rfl (Fr.w_yes rfl d19 (by decide) (by simp only [Fr.ev_tmp, Fr.ev_const, Fr.up_get, Nat.reduceLT, Nat.reduceEqDiff, ↓reduceIte])) (by simp only [Fr.ev_tmp, Fr.ev_const, Fr.up_get, Nat.reduceLT, Nat.reduceEqDiff, ↓reduceIte, h10, h14, h18, h26]; try rfl) ?_
        refine Fr.l_mv rfl rfl (Fr.w_yes rfl d19 (by decide) (by simp only [Fr.ev_tmp, Fr.ev_const, Fr.up_get, Nat.reduceLT, Nat.reduceEqDiff, ↓reduceIte])) (by simp only [Fr.ev_tmp, Fr.ev_const, Fr.up_get, Nat.reduceLT, Nat.reduceEqDiff, ↓reduceIte, h10, h14, h18, h26]; try rfl) ?_
        refine Fr.l_val rfl (Fr.w_yes rfl d19 (by decide) (by simp only [Fr.ev_tmp, Fr.ev_const, Fr.up_get, Nat.reduceLT, Nat.reduceEqDiff, ↓reduceIte])) (by go_simp; first | done | (with_reducible rfl) | (with_reducible exact ⟨rfl, rfl⟩) | (with_reducible exact ⟨⟨rfl, rfl⟩, rfl⟩)) ?_
        refine Fr.l_val rfl (Fr.w_yes rfl d19 (by decide) (by simp only [Fr.ev_tmp, Fr.ev_const, Fr.up_get, Nat.reduceLT, Nat.reduceEqDiff, ↓reduceIte])) (by go_simp; first | done | (with_reducible rfl) | (with_reducible exact ⟨rfl, rfl⟩) | (with_reducible exact ⟨⟨rfl, rfl⟩, rfl⟩)) ?_
        refine Fr.l_val rfl (Fr.w_yes rfl d19 (by decide) (by simp only [Fr.ev_tmp, Fr.ev_const, Fr.up_get, Nat.reduceLT, Nat.reduceEqDiff, ↓reduceIte])) (by go_simp; first | done | (with_reducible rfl) | (with_reducible exact ⟨rfl, rfl⟩) | (with_reducible exact ⟨⟨rfl, rfl⟩, rfl⟩)) ?_
        refine Fr.l_mv rfl rfl (Fr.w_yes rfl d19 (by decide) (by simp only [Fr.ev_tmp, Fr.ev_const, Fr.up_get, Nat.reduceLT, Nat.reduceEqDiff, ↓reduceIte])) (by simp only [Fr.ev_tmp, Fr.ev_const, Fr.up_get, Nat.reduceLT, Nat.reduceEqDiff, ↓reduceIte, h10, h14, h18, h26]; try rfl) ?_
        refine Fr.l_pass rfl (Fr.w_no rfl d25 (by decide) (by first | (left; simp only [Fr.ev_tmp, Fr.ev_const, Fr.up_get, Nat.reduceLT, Nat.reduceEqDiff, ↓reduceIte, Bool.not_true, Bool.not_false]; done) | (right; simp only [Fr.ev_tmp, Fr.ev_const, Fr.up_get, Nat.reduceLT, Nat.reduceEqDiff, ↓reduceIte, Bool.not_true, Bool.not_false]; done))) ?_
        refine Fr.l_pass rfl (Fr.w_no rfl d25 (by decide) (by first | (left; simp only [Fr.ev_tmp, Fr.ev_const, Fr.up_get, Nat.reduceLT, Nat.reduceEqDiff, ↓reduceIte, Bool.not_true, Bool.not_false]; done) | (right; simp only [Fr.ev_tmp, Fr.ev_const, Fr.up_get, Nat.reduceLT, Nat.reduceEqDiff, ↓reduceIte, Bool.not_true, Bool.not_false]; done))) ?_
        refine Fr.l_pass rfl (Fr.w_no rfl d25 (by decide) (by first | (left; simp only [Fr.ev_tmp, Fr.ev_const, Fr.up_get, Nat.reduceLT, Nat.reduceEqDiff, ↓reduceIte, Bool.not_true, Bool.not_false]; done) | (right; simp only [Fr.ev_tmp, Fr.ev_const, Fr.up_get, Nat.reduceLT, Nat.reduceEqDiff, ↓reduceIte, Bool.not_true, Bool.not_false]; done))) ?_
        refine Fr.l_pass rfl (Fr.w_no rfl d25 (by decide) (by first | (left; simp only [Fr.ev_tmp, Fr.ev_const, Fr.up_get, Nat.reduceLT, Nat.reduceEqDiff, ↓reduceIte, Bool.not_true, Bool.not_false]; done) | (right; simp only [Fr.ev_tmp, Fr.ev_const, Fr.up_get, Nat.reduceLT, Nat.reduceEqDiff, ↓reduceIte, Bool.not_true, Bool.not_false]; done))) ?_
        refine Fr.l_pass rfl (Fr.w_no rfl d25 (by decide) (by first | (left; simp only [Fr.ev_tmp, Fr.ev_const, Fr.up_get, Nat.reduceLT, Nat.reduceEqDiff, ↓reduceIte, Bool.not_true, Bool.not_false]; done) | (right; simp only [Fr.ev_tmp, Fr.ev_const, Fr.up_get, Nat.reduceLT, Nat.reduceEqDiff, ↓reduceIte, Bool.not_true, Bool.not_false]; done))) ?_
        refine Fr.l_pass rfl (Fr.w_no rfl d25 (by decide) (by first | (left; simp only [Fr.ev_tmp, Fr.ev_const, Fr.up_get, Nat.reduceLT, Nat.reduceEqDiff, ↓reduceIte, Bool.not_true, Bool.not_false]; done) | (right; simp only [Fr.ev_tmp, Fr.ev_const, Fr.up_get, Nat.reduceLT, Nat.reduceEqDiff, ↓reduceIte, Bool.not_true, Bool.not_false]; done))) ?_
        refine Fr.l_val rfl (Fr.w_yes rfl d19 (by decide) (by simp only [Fr.ev_tmp, Fr.ev_const, Fr.up_get, Nat.reduceLT, Nat.reduceEqDiff, ↓reduceIte])) (by go_simp; first | done | (with_reducible rfl) | (with_reducible exact ⟨rfl, rfl⟩) | (with_reducible exact ⟨⟨rfl, rfl⟩, rfl⟩)) ?_
        refine Fr.l_val rfl (Fr.w_none rfl) (by go_simp; first | done | (with_reducible rfl) | (with_reducible exact ⟨rfl, rfl⟩) | (with_reducible exact ⟨⟨rfl, rfl⟩, rfl⟩)) ?_
        refine Fr.l_nil ?_
        refine Fr.l_cond (t := false) (by simp only [Fr.ev_tmp, Fr.ev_const, Fr.up_get, Nat.reduceLT, Nat.reduceEqDiff, ↓reduceIte]; try rfl) (fun h => absurd h (by decide)) (fun _ => ?_)
        refine wp_skip ?_
        refine wp_region_lit ?_
        refine Fr.l_mv rfl rfl (Fr.w_none rfl) (by simp only [Fr.ev_tmp, Fr.ev_const, Fr.up_get, Nat.reduceLT, Nat.reduceEqDiff, ↓reduceIte, h10, h14, h18, h26]; try rfl) ?_
        refine Fr.l_val rfl (Fr.w_none rfl) (by go_simp; first | done | (with_reducible rfl) | (with_reducible exact ⟨rfl, rfl⟩) | (with_reducible exact ⟨⟨rfl, rfl⟩, rfl⟩)) ?_
        refine Fr.l_as rfl rfl (Fr.w_none rfl) (by simp only [Fr.ev_tmp, Fr.ev_const, Fr.up_get, Nat.reduceLT, Nat.reduceEqDiff, ↓reduceIte, h10, h14, h18, h26]; try rfl) ?_
        refine Fr.l_nil ?_
        refine Fr.then_ok ⟨_, rfl, ⟨j + 2, by omega, (by simp only [Fr.up_get, ↓reduceIte]; rfl), (by (repeat (refine Fr.Kp.up (by decide) ?_)); exact hK), hw3⟩, ?_⟩
        simp only [Fr.up_get, ↓reduceIte, h26, intOf]
        omega
      · have h3 := DN.out h2
        have q6w := q6 _ hw3
        have q60w := q60 _ hw3
        refine wp_region_lit ?_
        refine Fr.l_ops ?_
        intro OPS hO
        have d4 : (OPS[4]?).bind (·.dst) = some 278 := by rw [hO]; kernel_rfl
        have d10 : (OPS[10]?).bind (·.dst) = some 284 := by rw [hO]; kernel_rfl
        have d19 : (OPS[19]?).bind (·.dst) = some 293 := by rw [hO]; kernel_rfl
        have d25 : (OPS[25]?).bind (·.dst) = some 299 := by rw [hO]; kernel_rfl
        clear hO
        refine Fr.l_mv rfl rfl (Fr.w_none rfl) (by simp only [Fr.ev_tmp, Fr.ev_const, Fr.up_get, Nat.reduceLT, Nat.reduceEqDiff, ↓reduceIte, h10, h14, h18, h26]; try rfl) ?_
        refine Fr.l_mv rfl rfl (Fr.w_none rfl) (by simp only [Fr.ev_tmp, Fr.ev_const, Fr.up_get, Nat.reduceLT, Nat.reduceEqDiff, ↓reduceIte, h10, h14, h18, h26]; try rfl) ?_
        refine Fr.l_val rfl (Fr.w_none rfl) (by go_simp; first | done | (with_reducible rfl) | (with_reducible exact ⟨rfl, rfl⟩) | (with_reducible exact ⟨⟨rfl, rfl⟩, rfl⟩)) ?_
        refine Fr.l_val rfl (Fr.w_none rfl) (by go_simp; first | done | (with_reducible rfl) | (with_reducible exact ⟨rfl, rfl⟩) | (with_reducible exact ⟨⟨rfl, rfl⟩, rfl⟩)) ?_
        refine Fr.l_mv rfl rfl (Fr.w_none rfl) (by simp only [Fr.ev_tmp, Fr.ev_const, Fr.up_get, Nat.reduceLT, Nat.reduceEqDiff, ↓reduceIte, h10, h14, h18, h26]; try rfl) ?_
        refine Fr.l_mv rfl rfl (Fr.w_yes rfl d4 (by decide) (by simp only [Fr.ev_tmp, Fr.ev_const, Fr.up_get, Nat.reduceLT, Nat.reduceEqDiff, ↓reduceIte])) (by simp only [Fr.ev_tmp, Fr.ev_const, Fr.up_get, Nat.reduceLT, Nat.reduceEqDiff, ↓reduceIte, h10, h14, h18, h26]; try rfl) ?_
        refine Fr.l_mv rfl rfl (Fr.w_yes rfl d4 (by decide) (by simp only [Fr.ev_tmp, Fr.ev_const, Fr.up_get, Nat.reduceLT, Nat.reduceEqDiff, ↓reduceIte])) (by simp only [Fr.ev_tmp, Fr.ev_const, Fr.up_get, Nat.reduceLT, Nat.reduceEqDiff, ↓reduceIte, h10, h14, h18, h26]; try rfl) ?_
        refine Fr.l_val rfl (Fr.w_yes rfl d4 (by decide) (by simp only [Fr.ev_tmp, Fr.ev_const, Fr.up_get, Nat.reduceLT, Nat.reduceEqDiff, ↓reduceIte])) (by go_simp; first | done | (with_reducible rfl) | (with_reducible exact ⟨rfl, rfl⟩) | (with_reducible exact ⟨⟨rfl, rfl⟩, rfl⟩)) ?_
        refine Fr.l_val rfl (Fr.w_yes rfl d4 (by decide) (by simp only [Fr.ev_tmp, Fr.ev_const, Fr.up_get, Nat.reduceLT, Nat.reduceEqDiff, ↓reduceIte])) (by go_simp; first | done | (with_reducible rfl) | (with_reducible exact ⟨rfl, rfl⟩) | (with_reducible exact ⟨⟨rfl, rfl⟩, rfl⟩)) ?_
        refine Fr.l_val rfl (Fr.w_yes rfl d4 (by decide) (by simp only [Fr.ev_tmp, Fr.ev_const, Fr.up_get, Nat.reduceLT, Nat.reduceEqDiff, ↓reduceIte])) (by go_simp; first | done | (with_reducible rfl) | (with_reducible exact ⟨rfl, rfl⟩) | (with_reducible exact ⟨⟨rfl, rfl⟩, rfl⟩)) ?_
        refine Fr.l_mv rfl rfl (Fr.w_yes rfl d4 (by decide) (by simp only [Fr.ev_tmp, Fr.ev_const, Fr.up_get, Nat.reduceLT, Nat.reduceEqDiff, ↓reduceIte])) (by simp only [Fr.ev_tmp, Fr.ev_const, Fr.up_get, Nat.reduceLT, Nat.reduceEqDiff, ↓reduceIte, h10, h14, h18, h26]; try rfl) ?_
        refine Fr.l_pass rfl (Fr.w_no rfl d10 (by decide) (by first | (left; simp only [Fr.ev_tmp, Fr.ev_const, Fr.up_get, Nat.reduceLT, Nat.reduceEqDiff, ↓reduceIte, Bool.not_true, Bool.not_false]; done) | (right; simp only [Fr.ev_tmp, Fr.ev_const, Fr.up_get, Nat.reduceLT, Nat.reduceEqDiff, ↓reduceIte, Bool.not_true, Bool.not_false]; done))) ?_
        refine Fr.l_pass rfl (Fr.w_no rfl d10 (by decide) (by first | (left; simp only [Fr.ev_tmp, Fr.ev_const, Fr.up_get, Nat.reduceLT, Nat.reduceEqDiff, ↓reduceIte, Bool.not_true, Bool.not_false]; done) | (right; simp only [Fr.ev_tmp, Fr.ev_const, Fr.up_get, Nat.reduceLT, Nat.reduceEqDiff, ↓reduceIte, Bool.not_true, Bool.not_false]; done))) ?_
        refine Fr.l_pass rfl (Fr.w_no rfl d10 (by decide) (by first | (left; simp only [Fr.ev_tmp, Fr.ev_const, Fr.up_get, Nat.reduceLT, Nat.reduceEqDiff, ↓reduceIte, Bool.not_true, Bool.not_false]; done) | (right; simp only [Fr.ev_tmp, Fr.ev_const, Fr.up_get, Nat.reduceLT, Nat.reduceEqDiff, ↓reduceIte, Bool.not_true, Bool.not_false]; done))) ?_
        refine Fr.l_pass rfl (Fr.w_no rfl d10 (by decide) (by first | (left; simp only [Fr.ev_tmp, Fr.ev_const, Fr.up_get, Nat.reduceLT, Nat.reduceEqDiff, ↓reduceIte, Bool.not_true, Bool.not_false]; done) | (right; simp only [Fr.ev_tmp, Fr.ev_const, Fr.up_get, Nat.reduceLT, Nat.reduceEqDiff, ↓reduceIte, Bool.not_true, Bool.not_false]; done))) ?_
        refine Fr.l_pass rfl (Fr.w_no rfl d10 (by decide) (by first | (left; simp only [Fr.ev_tmp, Fr.ev_const, Fr.up_get, Nat.reduceLT, Nat.reduceEqDiff, ↓reduceIte, Bool.not_true, Bool.not_false]; done) | (right; simp only [Fr.ev_tmp, Fr.ev_const, Fr.up_get, Nat.reduceLT, Nat.reduceEqDiff, ↓reduceIte, Bool.not_true, Bool.not_false]; done))) ?_
        refine Fr.l_pass rfl (Fr.w_no rfl d10 (by decide) (by first | (left; simp only [Fr.ev_tmp, Fr.ev_const, Fr.up_get, Nat.reduceLT, Nat.reduceEqDiff, ↓reduceIte, Bool.not_true, Bool.not_false]; done) | (right; simp only [Fr.ev_tmp, Fr.ev_const, Fr.up_get, Nat.reduceLT, Nat.reduceEqDiff, ↓reduceIte, Bool.not_true, Bool.not_false]; done))) ?_
        refine Fr.l_val rfl (Fr.w_yes rfl d4 (by decide) (by simp only [Fr.ev_tmp, Fr.ev_const, Fr.up_get, Nat.reduceLT, Nat.reduceEqDiff, ↓reduceIte])) (by go_simp; first | done | (with_reducible rfl) | (with_reducible exact ⟨rfl, rfl⟩) | (with_reducible exact ⟨⟨rfl, rfl⟩, rfl⟩)) ?_
        refine Fr.l_val rfl (Fr.w_none rfl) (by go_simp; first | done | (with_reducible rfl) | (with_reducible exact ⟨rfl, rfl⟩) | (with_reducible exact ⟨⟨rfl, rfl⟩, rfl⟩)) ?_
        refine Fr.l_mv rfl rfl (Fr.w_none rfl) (by simp only [Fr.ev_tmp, Fr.ev_const, Fr.up_get, Nat.reduceLT, Nat.reduceEqDiff, ↓reduceIte, h10, h14, h18, h26]; try rfl) ?_
        refine Fr.l_mv rfl rfl (Fr.w_yes rfl d19 (by decide) (by simp only [Fr.ev_tmp, Fr.ev_const, Fr.up_get, Nat.reduceLT, Nat.reduceEqDiff, ↓reduceIte])) (by simp only [Fr.ev_tmp, Fr.ev_const, Fr.up_get, Nat.reduceLT, Nat.reduceEqDiff, ↓reduceIte, h10, h14, h18, h26]; try rfl) ?_
        refine Fr.l_mv rfl rfl (Fr.w_yes rfl d19 (by decide) (by simp only [Fr.ev_tmp, Fr.ev_const, Fr.up_get, Nat.reduceLT, Nat.reduceEqDiff, ↓reduceIte])) (by simp only [Fr.ev_tmp, Fr.ev_const, Fr.up_get, Nat.reduceLT, Nat.reduceEqDiff, ↓reduceIte, h10, h14, h18, h26]; try rfl) ?_
        refine Fr.l_val rfl (Fr.w_yes rfl d19 (by decide) (by simp only [Fr.ev_tmp, Fr.ev_const, Fr.up_get, Nat.reduceLT, Nat.reduceEqDiff, ↓reduceIte])) (by go_simp; first | done | (with_reducible rfl) | (with_reducible exact ⟨rfl, rfl⟩) | (with_reducible exact ⟨⟨rfl, rfl⟩, rfl⟩)) ?_
        refine Fr.l_val rfl (Fr.w_yes rfl d19 (by decide) (by simp only [Fr.ev_tmp, Fr.ev_const, Fr.up_get, Nat.reduceLT, Nat.reduceEqDiff, ↓reduceIte])) (by go_simp; first | done | (with_reducible rfl) | (with_reducible exact ⟨rfl, rfl⟩) | (with_reducible exact ⟨⟨rfl, rfl⟩, rfl⟩)) ?_
        refine Fr.l_val rfl (Fr.w_yes rfl d19 (by decide) (by simp only [Fr.ev_tmp, Fr.ev_const, Fr.up_get, Nat.reduceLT, Nat.reduceEqDiff, ↓reduceIte])) (by go_simp; first | done | (with_reducible rfl) | (with_reducible exact ⟨rfl, rfl⟩) | (with_reducible exact ⟨⟨rfl, rfl⟩, rfl⟩)) ?_
        refine Fr.l_mv rfl rfl (Fr.w_yes rfl d19 (by decide) (by simp only [Fr.ev_tmp, Fr.ev_const, Fr.up_get, Nat.reduceLT, Nat.reduceEqDiff, ↓reduceIte])) (by simp only [Fr.ev_tmp, Fr.ev_const, Fr.up_get, Nat.reduceLT, Nat.reduceEqDiff, ↓reduceIte, h10, h14, h18, h26]; try rfl) ?_
        refine Fr.l_mv rfl rfl (Fr.w_yes rfl d25 (by decide) (by simp only [Fr.ev_tmp, Fr.ev_const, Fr.up_get, Nat.reduceLT, Nat.reduceEqDiff, ↓reduceIte])) (by simp only [Fr.ev_tmp, Fr.ev_const, Fr.up_get, Nat.reduceLT, Nat.reduceEqDiff, ↓reduceIte, h10, h14, h18, h26]; try rfl) ?_
        refine Fr.l_mv rfl rfl (Fr.w_yes rfl d25 (by decide) (by simp only [Fr.ev_tmp, Fr.ev_const, Fr.up_get, Nat.reduceLT, Nat.reduceEqDiff, ↓reduceIte])) (by simp only [Fr.ev_tmp, Fr.ev_const, Fr.up_get, Nat.reduceLT, Nat.reduceEqDiff, ↓reduceIte, h10, h14, h18, h26]; try rfl) ?_
        refine Fr.l_val rfl (Fr.w_yes rfl d25 (by decide) (by simp only [Fr.ev_tmp, Fr.ev_const, Fr.up_get, Nat.reduceLT, Nat.reduceEqDiff, ↓reduceIte])) (by go_simp; first | done | (with_reducible rfl) | (with_reducible exact ⟨rfl, rfl⟩) | (with_reducible exact ⟨⟨rfl, rfl⟩, rfl⟩)) ?_
        refine Fr.l_val rfl (Fr.w_yes rfl d25 (by decide) (by simp only [Fr.ev_tmp, Fr.ev_const, Fr.up_get, Nat.reduceLT, Nat.reduceEqDiff, ↓reduceIte])) (by go_simp; first | done | (with_reducible rfl) | (with_reducible exact ⟨rfl, rfl⟩) | (with_reducible exact ⟨⟨rfl, rfl⟩, rfl⟩)) ?_
        refine Fr.l_val rfl (Fr.w_yes rfl d25 (by decide) (by simp only [Fr.ev_tmp, Fr.ev_const, Fr.up_get, Nat.reduceLT, Nat.reduceEqDiff, ↓reduceIte])) (by go_simp; first | done | (with_reducible rfl) | (with_reducible exact ⟨rfl, rfl⟩) | (with_reducible exact ⟨⟨rfl, rfl⟩, rfl⟩)) ?_
        refine Fr.l_val rfl (Fr.w_yes rfl d25 (by decide) (by simp only [Fr.ev_tmp, Fr.ev_const, Fr.up_get, Nat.reduceLT, Nat.reduceEqDiff, ↓reduceIte])) (by go_simp; first | done | (with_reducible rfl) | (with_reducible exact ⟨rfl, rfl⟩) | (with_reducible exact ⟨⟨rfl, rfl⟩, rfl⟩)) ?_
        refine Fr.l_val rfl (Fr.w_yes rfl d19 (by decide) (by simp only [Fr.ev_tmp, Fr.ev_const, Fr.up_get, Nat.reduceLT, Nat.reduceEqDiff, ↓reduceIte])) (by go_simp; first | done | (with_reducible rfl) | (with_reducible exact ⟨rfl, rfl⟩) | (with_reducible exact ⟨⟨rfl, rfl⟩, rfl⟩)) ?_
        refine Fr.l_val rfl (Fr.w_none rfl) (by go_simp; first | done | (with_reducible rfl) | (with_reducible exact ⟨rfl, rfl⟩) | (with_reducible exact ⟨⟨rfl, rfl⟩, rfl⟩)) ?_
        refine Fr.l_nil ?_
        refine Fr.l_cond (t := false) (by simp only [Fr.ev_tmp, Fr.ev_const, Fr.up_get, Nat.reduceLT, Nat.reduceEqDiff, ↓reduceIte]; try rfl) (fun h => absurd h (by decide)) (fun _ => ?_)
        refine wp_skip ?_
        refine wp_region_lit ?_
        refine Fr.l_mv rfl rfl (Fr.w_none rfl) (by simp only [Fr.ev_tmp, Fr.ev_const, Fr.up_get, Nat.reduceLT, Nat.reduceEqDiff, ↓reduceIte, h10, h14, h18, h26]; try rfl) ?_
        refine Fr.l_val rfl (Fr.w_none rfl) (by go_simp; first | done | (with_reducible rfl) | (with_reducible exact ⟨rfl, rfl⟩) | (with_reducible exact ⟨⟨rfl, rfl⟩, rfl⟩)) ?_
        refine Fr.l_as rfl rfl (Fr.w_none rfl) (by simp only [Fr.ev_tmp, Fr.ev_const, Fr.up_get, Nat.reduceLT, Nat.reduceEqDiff, ↓reduceIte, h10, h14, h18, h26]; try rfl) ?_
        refine Fr.l_nil ?_
        refine Fr.then_ok ⟨_, rfl, ⟨j + 2, by omega, (by simp only [Fr.up_get, ↓reduceIte]; rfl), (by (repeat (refine Fr.Kp.up (by decide) ?_)); exact hK), hw3⟩, ?_⟩
        simp only [Fr.up_get, ↓reduceIte, h26, intOf]
        omega
      · have h3 := UP.out h1
        have q6w := q6 _ hw3
        have q60w := q60 _ hw3
        refine wp_region_lit ?_
        refine Fr.l_ops ?_
        intro OPS hO
        have d4 : (OPS[4]?).bind (·.dst) = some 278 := by rw [hO]; kernel_rfl
        have d10 : (OPS[10]?).bind (·.dst) = some 284 := by rw [hO]; kernel_rfl
        have d19 : (OPS[19]?).bind (·.dst) = some 293 := by rw [hO]; kernel_rfl
        have d25 : (OPS[25]?).bind (·.dst) = some 299 := by rw [hO]; kernel_rfl
        clear hO
        refine Fr.l_mv rfl rfl (Fr.w_none rfl) (by simp only [Fr.ev_tmp, Fr.ev_const, Fr.up_get, Nat.reduceLT, Nat.reduceEqDiff, ↓reduceIte, h10, h14, h18, h26]; try rfl) ?_
        refine Fr.l_mv rfl rfl (Fr.w_none rfl) (by simp only [Fr.ev_tmp, Fr.ev_const, Fr.up_get, Nat.reduceLT, Nat.reduceEqDiff, ↓reduceIte, h10, h14, h18, h26]; try rfl) ?_
        refine Fr.l_val rfl (Fr.w_none rfl) (by go_simp; first | done | (with_reducible rfl) | (with_reducible exact ⟨rfl, rfl⟩) | (with_reducible exact ⟨⟨rfl, rfl⟩, rfl⟩)) ?_
        refine Fr.l_val rfl (Fr.w_none rfl) (by go_simp; first | done | (with_reducible rfl) | (with_reducible exact ⟨rfl, rfl⟩) | (with_reducible exact ⟨⟨rfl, rfl⟩, rfl⟩)) ?_
        refine Fr.l_mv rfl rfl (Fr.w_none rfl) (by simp only [Fr.ev_tmp, Fr.ev_const, Fr.up_get, Nat.reduceLT, Nat.reduceEqDiff, ↓reduceIte, h10, h14, h18, h26]; try rfl) ?_
        refine Fr.l_mv rfl rfl (Fr.w_yes rfl d4 (by decide) (by simp only [Fr.ev_tmp, Fr.ev_const, Fr.up_get, Nat.reduceLT, Nat.reduceEqDiff, ↓reduceIte])) (by simp only [Fr.ev_tmp, Fr.ev_const, Fr.up_get, Nat.reduceLT, Nat.reduceEqDiff, ↓reduceIte, h10, h14, h18, h26]; try rfl) ?_
        refine Fr.l_mv rfl rfl (Fr.w_yes rfl d4 (by decide) (by simp only [Fr.ev_tmp, Fr.ev_const, Fr.up_get, Nat.reduceLT, Nat.reduceEqDiff, ↓reduceIte])) (by simp only [Fr.ev_tmp, Fr.ev_const, Fr.up_get, Nat.reduceLT, Nat.reduceEqDiff, ↓reduceIte, h10, h14, h18, h26]; try rfl) ?_
        refine Fr.l_val rfl (Fr.w_yes rfl d4 (by decide) (by simp only [Fr.ev_tmp, Fr.ev_const, Fr.up_get, Nat.reduceLT, Nat.reduceEqDiff, ↓reduceIte])) (by go_simp; first | done | (with_reducible rfl) | (with_reducible exact ⟨rfl, rfl⟩) | (with_reducible exact ⟨⟨rfl, rfl⟩, rfl⟩)) ?_
        refine Fr.l_val rfl (Fr.w_yes rfl d4 (by decide) (by simp only [Fr.ev_tmp, Fr.ev_const, Fr.up_get, Nat.reduceLT, Nat.reduceEqDiff, ↓reduceIte])) (by go_simp; first | done | (with_reducible rfl) | (with_reducible exact ⟨rfl, rfl⟩) | (with_reducible exact ⟨⟨rfl, rfl⟩, rfl⟩)) ?_
        refine Fr.l_val rfl (Fr.w_yes rfl d4 (by decide) (by simp only [Fr.ev_tmp, Fr.ev_const, Fr.up_get, Nat.reduceLT, Nat.reduceEqDiff, ↓reduceIte])) (by go_simp; first | done | (with_reducible rfl) | (with_reducible exact ⟨rfl, rfl⟩) | (with_reducible exact ⟨⟨rfl, rfl⟩, rfl⟩)) ?_
        refine Fr.l_mv rfl rfl (Fr.w_yes rfl d4 (by decide) (by simp only [Fr.ev_tmp, Fr.ev_const, Fr.up_get, Nat.reduceLT, Nat.reduceEqDiff, ↓reduceIte])) (by simp only [Fr.ev_tmp, Fr.ev_const, Fr.up_get, Nat.reduceLT, Nat.reduceEqDiff, ↓reduceIte, h10, h14, h18, h26]; try rfl) ?_
        refine Fr.l_mv rfl rfl (Fr.w_yes rfl d10 (by decide) (by simp only [Fr.ev_tmp, Fr.ev_const, Fr.up_get, Nat.reduceLT, Nat.reduceEqDiff, ↓reduceIte])) (by simp only [Fr.ev_tmp, Fr.ev_const, Fr.up_get, Nat.reduceLT, Nat.reduceEqDiff, ↓reduceIte, h10, h14, h18, h26]; try rfl) ?_
        refine Fr.l_mv rfl rfl (Fr.w_yes rfl d10 (by decide) (by simp only [Fr.ev_tmp, Fr.ev_const, Fr.up_get, Nat.reduceLT, Nat.reduceEqDiff, ↓reduceIte])) (by simp only [Fr.ev_tmp, Fr.ev_const, Fr.up_get, Nat.reduceLT, Nat.reduceEqDiff, ↓reduceIte, h10, h14, h18, h26]; try rfl) ?_
        refine Fr.l_val rfl (Fr.w_yes rfl d10 (by decide) (by simp only [Fr.ev_tmp, Fr.ev_const, Fr.up_get, Nat.reduceLT, Nat.reduceEqDiff, ↓reduceIte])) (by go_simp; first | done | (with_reducible rfl) | (with_reducible exact ⟨rfl, rfl⟩) | (with_reducible exact ⟨⟨rfl, rfl⟩, rfl⟩)) ?_
        refine Fr.l_val rfl (Fr.w_yes rfl d10 (by decide) (by simp only [Fr.ev_tmp, Fr.ev_const, Fr.up_get, Nat.reduceLT, Nat.reduceEqDiff, ↓reduceIte])) (by go_simp; first | done | (with_reducible rfl) | (with_reducible exact ⟨rfl, rfl⟩) | (with_reducible exact ⟨⟨rfl, rfl⟩, rfl⟩)) ?_
        refine Fr.l_val rfl (Fr.w_yes rfl d10 (by decide) (by simp only [Fr.ev_tmp, Fr.ev_const, Fr.up_get, Nat.reduceLT, Nat.reduceEqDiff, ↓reduceIte])) (by go_simp; first | done | (with_reducible rfl) | (with_reducible exact ⟨rfl, rfl⟩) | (with_reducible exact ⟨⟨rfl, rfl⟩, rfl⟩)) ?_
        refine Fr.l_val rfl (Fr.w_yes rfl d10 (by decide) (by simp only [Fr.ev_tmp, Fr.ev_const, Fr.up_get, Nat.reduceLT, Nat.reduceEqDiff, ↓reduceIte])) (by go_simp; first | done | (with_reducible rfl) | (with_reducible exact ⟨rfl, rfl⟩) | (with_reducible exact ⟨⟨rfl, rfl⟩, rfl⟩)) ?_
        refine Fr.l_val rfl (Fr.w_yes rfl d4 (by decide) (by simp only [Fr.ev_tmp, Fr.ev_const, Fr.up_get, Nat.reduceLT, Nat.reduceEqDiff, ↓reduceIte])) (by go_simp; first | done | (with_reducible rfl) | (with_reducible exact ⟨rfl, rfl⟩) | (with_reducible exact ⟨⟨rfl, rfl⟩, rfl⟩)) ?_
        refine Fr.l_val rfl (Fr.w_none rfl) (by go_simp; first | done | (with_reducible rfl) | (with_reducible exact ⟨rfl, rfl⟩) | (with_reducible exact ⟨⟨rfl, rfl⟩, rfl⟩)) ?_
        refine Fr.l_mv rfl rfl (Fr.w_none rfl) (by simp only [Fr.ev_tmp, Fr.ev_const, Fr.up_get, Nat.reduceLT, Nat.reduceEqDiff, ↓reduceIte, h10, h14, h18, h26]; try rfl) ?_
        refine Fr.l_mv rfl rfl (Fr.w_yes rfl d19 (by decide) (by simp only [Fr.ev_tmp, Fr.ev_const, Fr.up_get, Nat.reduceLT, Nat.reduceEqDiff, ↓reduceIte])) (by simp only [Fr.ev_tmp, Fr.ev_const, Fr.up_get, Nat.reduceLT, Nat.reduceEqDiff, ↓reduceIte, h10, h14, h18, h26]; try rfl) ?_
        refine Fr.l_mv rfl rfl (Fr.w_yes rfl d19 (by decide) (by simp only [Fr.ev_tmp, Fr.ev_const, Fr.up_get, Nat.reduceLT, Nat.reduceEqDiff, ↓reduceIte])) (by simp only [Fr.ev_tmp, Fr.ev_const, Fr.up_get, Nat.reduceLT, Nat.reduceEqDiff, ↓reduceIte, h10, h14, h18, h26]; try rfl) ?_
        refine Fr.l_val rfl (Fr.w_yes rfl d19 (by decide) (by simp only [Fr.ev_tmp, Fr.ev_const, Fr.up_get, Nat.reduceLT, Nat.reduceEqDiff, ↓reduceIte])) (by go_simp; first | done | (with_reducible rfl) | (with_reducible exact ⟨rfl, rfl⟩) | (with_reducible exact ⟨⟨rfl, rfl⟩, rfl⟩)) ?_
        refine Fr.l_val rfl (Fr.w_yes rfl d19 (by decide) (by simp only [Fr.ev_tmp, Fr.ev_const, Fr.up_get, Nat.reduceLT, Nat.reduceEqDiff, ↓reduceIte])) (by go_simp; first | done | (with_reducible rfl) | (with_reducible exact ⟨rfl, rfl⟩) | (with_reducible exact ⟨⟨rfl, rfl⟩, rfl⟩)) ?_
        refine Fr.l_val rfl (Fr.w_yes rfl d19 (by decide) (by simp only [Fr.ev_tmp, Fr.ev_const, Fr.up_get, Nat.reduceLT, Nat.reduceEqDiff, ↓reduceIte])) (by go_simp; first | done | (with_reducible rfl) | (with_reducible exact ⟨rfl, rfl⟩) | (with_reducible exact ⟨⟨rfl, rfl⟩, rfl⟩)) ?_
        refine Fr.l_mv rfl rfl (Fr.w_yes rfl d19 (by decide) (by simp only [Fr.ev_tmp, Fr.ev_const, Fr.up_get, Nat.reduceLT, Nat.reduceEqDiff, ↓reduceIte])) (by simp only [Fr.ev_tmp, Fr.ev_const, Fr.up_get, Nat.reduceLT, Nat.reduceEqDiff, ↓reduceIte, h10, h14, h18, h26]; try rfl) ?_
        refine Fr.l_pass rfl (Fr.w_no rfl d25 (by decide) (by first | (left; simp only [Fr.ev_tmp, Fr.ev_const, Fr.up_get, Nat.reduceLT, Nat.reduceEqDiff, ↓reduceIte, Bool.not_true, Bool.not_false]; done) | (right; simp only [Fr.ev_tmp, Fr.ev_const, Fr.up_get, Nat.reduceLT, Nat.reduceEqDiff, ↓reduceIte, Bool.not_true, Bool.not_false]; done))) ?_
        refine Fr.l_pass rfl (Fr.w_no rfl d25 (by decide) (by first | (left; simp only [Fr.ev_tmp, Fr.ev_const, Fr.up_get, Nat.reduceLT, Nat.reduceEqDiff, ↓reduceIte, Bool.not_true, Bool.not_false]; done) | (right; simp only [Fr.ev_tmp, Fr.ev_const, Fr.up_get, Nat.reduceLT, Nat.reduceEqDiff, ↓reduceIte, Bool.not_true, Bool.not_false]; done))) ?_
        refine Fr.l_pass rfl (Fr.w_no rfl d25 (by decide) (by first | (left; simp only [Fr.ev_tmp, Fr.ev_const, Fr.up_get, Nat.reduceLT, Nat.reduceEqDiff, ↓reduceIte, Bool.not_true, Bool.not_false]; done) | (right; simp only [Fr.ev_tmp, Fr.ev_const, Fr.up_get, Nat.reduceLT, Nat.reduceEqDiff, ↓reduceIte, Bool.not_true, Bool.not_false]; done))) ?_
        refine Fr.l_pass rfl (Fr.w_no rfl d25 (by decide) (by first | (left; simp only [Fr.ev_tmp, Fr.ev_const, Fr.up_get, Nat.reduceLT, Nat.reduceEqDiff, ↓reduceIte, Bool.not_true, Bool.not_false]; done) | (right; simp only [Fr.ev_tmp, Fr.ev_const, Fr.up_get, Nat.reduceLT, Nat.reduceEqDiff, ↓reduceIte, Bool.not_true, Bool.not_false]; done))) ?_
        refine Fr.l_pass rfl (Fr.w_no rfl d25 (by decide) (by first | (left; simp only [Fr.ev_tmp, Fr.ev_const, Fr.up_get, Nat.reduceLT, Nat.reduceEqDiff, ↓reduceIte, Bool.not_true, Bool.not_false]; done) | (right; simp only [Fr.ev_tmp, Fr.ev_const, Fr.up_get, Nat.reduceLT, Nat.reduceEqDiff, ↓reduceIte, Bool.not_true, Bool.not_false]; done))) ?_
        refine Fr.l_pass rfl (Fr.w_no rfl d25 (by decide) (by first | (left; simp only [Fr.ev_tmp, Fr.ev_const, Fr.up_get, Nat.reduceLT, Nat.reduceEqDiff, ↓reduceIte, Bool.not_true, Bool.not_false]; done) | (right; simp only [Fr.ev_tmp, Fr.ev_const, Fr.up_get, Nat.reduceLT, Nat.reduceEqDiff, ↓reduceIte, Bool.not_true, Bool.not_false]; done))) ?_
        refine Fr.l_val rfl (Fr.w_yes rfl d19 (by decide) (by simp only [Fr.ev_tmp, Fr.ev_const, Fr.up_get, Nat.reduceLT, Nat.reduceEqDiff, ↓reduceIte])) (by go_simp; first | done | (with_reducible rfl) | (with_reducible exact ⟨rfl, rfl⟩) | (with_reducible exact ⟨⟨rfl, rfl⟩, rfl⟩)) ?_
        refine Fr.l_val rfl (Fr.w_none rfl) (by go_simp; first | done | (with_reducible rfl) | (with_reducible exact ⟨rfl, rfl⟩) | (with_reducible exact ⟨⟨rfl, rfl⟩, rfl⟩)) ?_
        refine Fr.l_nil ?_
        refine Fr.l_cond (t := false) (by simp only [Fr.ev_tmp, Fr.ev_const, Fr.up_get, Nat.reduceLT, Nat.reduceEqDiff, ↓reduceIte]; try rfl) (fun h => absurd h (by decide)) (fun _ => ?_)
        refine wp_skip ?_
        refine wp_region_lit ?_
        refine Fr.l_mv rfl rfl (Fr.w_none rfl) (by simp only [Fr.ev_tmp, Fr.ev_const, Fr.up_get, Nat.reduceLT, Nat.reduceEqDiff, ↓reduceIte, h10, h14, h18, h26]; try rfl) ?_
        refine Fr.l_val rfl (Fr.w_none rfl) (by go_simp; first | done | (with_reducible rfl) | (with_reducible exact ⟨rfl, rfl⟩) | (with_reducible exact ⟨⟨rfl, rfl⟩, rfl⟩)) ?_
        refine Fr.l_as rfl rfl (Fr.w_none rfl) (by simp only [Fr.ev_tmp, Fr.ev_const, Fr.up_get, Nat.reduceLT, Nat.reduceEqDiff, ↓reduceIte, h10, h14, h18, h26]; try rfl) ?_
        refine Fr.l_nil ?_
        refine Fr.then_ok ⟨_, rfl, ⟨j + 2, by omega, (by simp only [Fr.up_get, ↓reduceIte]; rfl), (by (repeat (refine Fr.Kp.up (by decide) ?_)); exact hK), hw3⟩, ?_⟩
        simp only [Fr.up_get, ↓reduceIte, h26, intOf]
        omega
      · exact (NO.out h1 h2).elim
  · obtain rfl : i = ps.length + 1 := by omega
    refine wp_region_lit ?_
    refine Fr.l_mv rfl rfl (Fr.w_none rfl) (by simp only [Fr.ev_tmp, Fr.ev_const, Fr.up_get, Nat.reduceLT, Nat.reduceEqDiff, ↓reduceIte, h10, h14, h18, h26]; try rfl) ?_
    refine Fr.l_mv rfl rfl (Fr.w_none rfl) (by simp only [Fr.ev_tmp, Fr.ev_const, Fr.up_get, Nat.reduceLT, Nat.reduceEqDiff, ↓reduceIte, h10, h14, h18, h26]; try rfl) ?_
    refine Fr.l_val rfl (Fr.w_none rfl) (by go_simp; first | done | (with_reducible rfl) | (with_reducible exact ⟨rfl, rfl⟩) | (with_reducible exact ⟨⟨rfl, rfl⟩, rfl⟩)) ?_
    refine Fr.l_val rfl (Fr.w_none rfl) (by go_simp; first | done | (with_reducible rfl) | (with_reducible exact ⟨rfl, rfl⟩) | (with_reducible exact ⟨⟨rfl, rfl⟩, rfl⟩)) ?_
    refine Fr.l_nil ?_
    refine Fr.l_cond (t := false) (by simp only [Fr.ev_tmp, Fr.ev_const, Fr.up_get, Nat.reduceLT, Nat.reduceEqDiff, ↓reduceIte]; try rfl) (fun h => absurd h (by decide)) (fun _ => ?_)
    refine wp_exit ?_
    refine Fr.then_exit (Fr.then_exit ?_)
    refine Fr.inb_exit ?_
    refine HK.out _ _ hb (by (repeat (refine Fr.Kp.up (by decide) ?_)); exact hK)

end Go.Proofs.Ytkgfepakedieaaa.yTurnsOn

/-! The great law's walk, an element: the power at the end. (written by wip/gen/turnson3.py.) -/
namespace Go.Proofs.Ytkgfepakedieaaa.yTurnsOn
open Go.RowKit
set_option linter.unusedVariables false
set_option linter.unusedSimpArgs false

set_option maxRecDepth 100000 in
set_option maxHeartbeats 16000000 in
theorem e16 {ps : List T3} {p q gT kT g6 k6 : Nat} {W w : World} {Q : Exit → Act → World → Prop} {R : Code} {f : Nat → Value}
    (f5 : f 5 = .slice (some ⟨gT, 0, none⟩) ps.length kT) (f18 : f 18 = .slice (some ⟨g6, 0, none⟩) (ps.length + 1) k6) (f22 : f 22 = .float .f32 (effC ps))
    (hF : F (cop .mul (powAt p q ps 0) (effC ps))) (hS : F (cop .sub (powAt p q ps ps.length) (cop .mul (powAt p q ps 0) (effC ps)))) (hN : nearB (powAt p q ps ps.length) (cop .mul (powAt p q ps 0) (effC ps)) 925353388 897988541 = true)
    (c60 : W.cell? ⟨g6, 0, none⟩ = some (.float .f32 (powAt p q ps 0))) (c6n : W.cell? ⟨g6, ps.length, none⟩ = some (.float .f32 (powAt p q ps ps.length))) (hw : BelowC W w)
    (k : ∀ (w' : World) (g : Nat → Value), BelowC W w' → Fr.Agree 308 f g → Code.wp Try.prog R Q ⟨Fr.ft 557 g, []⟩ w') :
    Code.wp Try.prog ((Fr.fs (Fr.sn (Fr.sn (Fr.sn (Fr.sn (Fr.sn (Fr.sn (Fr.sn (Fr.sn (Fr.sn (Fr.sn (Fr.sn (Fr.sn (Fr.sn (Fr.sn (Fr.sn (Fr.sn (B7)))))))))))))))))).seq R) Q ⟨Fr.ft 557 f, []⟩ w := by
  have HK := Lib.hid k
  have HF := Lib.hid hF
  have HS := Lib.hid hS
  have HN := Lib.hid hN
  clear k hF hS hN
  conv => arg 2; arg 1; whnf
  have E1 := @Fr.ev_tmp 557
  have E2 := @Fr.ev_const 557
  have E3 := @Fr.up_get
  have E4 := @Fr.ev_func 557
  have E5 := @Fr.ev_global 557
  have hdn := @BelowC.drewN W
  have q60 := BelowC.cell c60 (World.block_lt_of_cell? W _ c60)
  have q6n := BelowC.cell c6n (World.block_lt_of_cell? W _ c6n)
  have hlen0 : (0 : Int) < (ps.length : Int) + 1 := by omega
  have hlenn : (ps.length : Int) < (ps.length : Int) + 1 := by omega
  clear c60 c6n
  refine wp_seq ?_
  refine wp_seq ?_
  refine Loose.wp_regionF (BelowC W) (Loose.Tab [(32, fun _ v => v = .bool true)]) (by kernel_rfl) (by kernel_rfl) (Fr.belowC_drew hw) ?_
  refine Loose.wpL_ops ?_
  intro OPS hO
  clear hO
  refine Fr.d_mv rfl rfl (Fr.w_none rfl) (by simp only [Fr.ev_tmp, Fr.ev_const, Fr.up_get, Nat.reduceLT, Nat.reduceEqDiff, ↓reduceIte, f5, f18, f22]; try rfl) ?_
  refine Fr.d_mv rfl rfl (Fr.w_none rfl) (by simp only [Fr.ev_tmp, Fr.ev_const, Fr.up_get, Nat.reduceLT, Nat.reduceEqDiff, ↓reduceIte, f5, f18, f22]; try rfl) ?_
  refine Fr.d_det rfl (Fr.w_none rfl) (by intro wq hwq; go_simp; first | done | (with_reducible rfl) | (with_reducible exact ⟨rfl, rfl⟩)) ?_
  refine Fr.d_det rfl (Fr.w_none rfl) (by intro wq hwq; go_simp; first | done | (with_reducible rfl) | (with_reducible exact ⟨rfl, rfl⟩)) ?_
  refine Fr.d_det rfl (Fr.w_none rfl) (by intro wq hwq; go_simp; first | done | (with_reducible rfl) | (with_reducible exact ⟨rfl, rfl⟩)) ?_
  refine Fr.d_mv rfl rfl (Fr.w_none rfl) (by simp only [Fr.ev_tmp, Fr.ev_const, Fr.up_get, Nat.reduceLT, Nat.reduceEqDiff, ↓reduceIte, f5, f18, f22]; try rfl) ?_
  refine Fr.d_det rfl (Fr.w_none rfl) (by intro wq hwq; go_simp; first | done | (with_reducible rfl) | (with_reducible exact ⟨rfl, rfl⟩)) ?_
  refine Fr.d_det rfl (Fr.w_none rfl) (by intro wq hwq; go_simp; first | done | (with_reducible rfl) | (with_reducible exact ⟨rfl, rfl⟩)) ?_
  refine Fr.d_mv rfl rfl (Fr.w_none rfl) (by simp only [Fr.ev_tmp, Fr.ev_const, Fr.up_get, Nat.reduceLT, Nat.reduceEqDiff, ↓reduceIte, f5, f18, f22]; try rfl) ?_
  (refine Fr.d_flt (hd := hdn) rfl (Fr.w_none rfl) (by intro wq hwq; go_simp; first | done | (with_reducible rfl) | (with_reducible exact ⟨rfl, rfl⟩)) ?_; intro rA hrA hlA)
  (refine Fr.d_call rfl (Fr.w_none rfl) (by intro wq hwq; go_simp; first | done | (with_reducible rfl) | (with_reducible exact ⟨rfl, rfl⟩)) rfl (by intro w1 h1; refine (a2Near_any _ _ _ _ _ (by rw [F_of_cn hrA HF.out]; exact HS.out)).mono ?_; rintro e w2 ⟨rfl, h2⟩; exact ⟨_, rfl, congrArg Value.bool (by rw [F_of_cn hrA HF.out]; exact HN.out), h1.call h2⟩) ?_; rintro v rfl)
  refine Fr.d_det rfl (Fr.w_none rfl) (by intro wq hwq; go_simp; first | done | (with_reducible rfl) | (with_reducible exact ⟨rfl, rfl⟩)) ?_
  refine Loose.done ?_
  intro w' hw'
  refine Fr.l_cond (t := false) (by simp only [Fr.ev_tmp, Fr.ev_const, Fr.up_get, Nat.reduceLT, Nat.reduceEqDiff, ↓reduceIte]; try rfl) (fun h => absurd h (by decide)) (fun _ => ?_)
  refine wp_skip ?_
  refine HK.out w' _ hw' ?_
  repeat (refine Fr.Agree.up (by decide) ?_)
  exact Fr.Agree.refl _ _

set_option maxRecDepth 100000 in
set_option maxHeartbeats 16000000 in
theorem e18 {ps : List T3} {gT kT m l : Nat} {w : World} {Q : Exit → Act → World → Prop} {R : Code} {f : Nat → Value}
    (f5 : f 5 = .slice (some ⟨gT, 0, none⟩) ps.length kT) (f29 : f 29 = .int .i64 (m : Int)) (f30 : f 30 = .float .f32 l) (f31 : f 31 = .int .i64 0) (hm : m < ps.length)
    (ct : w.cell? ⟨gT, m * 3 + 2, none⟩ = some (.float .f32 l))
    (k : ∀ (w' : World) (g : Nat → Value), w' = w → Fr.Agree 326 f g → Code.wp Try.prog R Q ⟨Fr.ft 557 g, []⟩ w') :
    Code.wp Try.prog ((Fr.fs (Fr.sn (Fr.sn (Fr.sn (Fr.sn (Fr.sn (Fr.sn (Fr.sn (Fr.sn (Fr.sn (Fr.sn (Fr.sn (Fr.sn (Fr.sn (Fr.sn (Fr.sn (Fr.sn (Fr.sn (Fr.sn (B7)))))))))))))))))))).seq R) Q ⟨Fr.ft 557 f, []⟩ w := by
  have HK := Lib.hid k
  clear k
  have hm0 : (0 : Int) ≤ (m : Int) := by omega
  have hm1 : (m : Int) < (ps.length : Int) := by omega
  have hm2 : ¬ (m : Int) < 0 := by omega
  have hm3 : ¬ (ps.length : Int) ≤ (m : Int) := by omega
  conv => arg 2; arg 1; whnf
  have E1 := @Fr.ev_tmp 557
  have E2 := @Fr.ev_const 557
  have E3 := @Fr.up_get
  have E4 := @Fr.ev_func 557
  have E5 := @Fr.ev_global 557
  refine wp_seq ?_
  refine wp_seq ?_
  refine wp_region_lit ?_
  refine Fr.l_ops ?_
  intro OPS hO
  have d2 : (OPS[2]?).bind (·.dst) = some 328 := by rw [hO]; kernel_rfl
  have d6 : (OPS[6]?).bind (·.dst) = some 332 := by rw [hO]; kernel_rfl
  have d12 : (OPS[12]?).bind (·.dst) = some 338 := by rw [hO]; kernel_rfl
  clear hO
  refine Fr.l_mv rfl rfl (Fr.w_none rfl) (by simp only [Fr.ev_tmp, Fr.ev_const, Fr.up_get, Nat.reduceLT, Nat.reduceEqDiff, ↓reduceIte, f5, f29, f30, f31]; try rfl) ?_
  refine Fr.l_val rfl (Fr.w_none rfl) (by go_simp; first | done | (with_reducible rfl) | (with_reducible exact ⟨rfl, rfl⟩) | (with_reducible exact ⟨⟨rfl, rfl⟩, rfl⟩)) ?_
  refine Fr.l_mv rfl rfl (Fr.w_none rfl) (by simp only [Fr.ev_tmp, Fr.ev_const, Fr.up_get, Nat.reduceLT, Nat.reduceEqDiff, ↓reduceIte, f5, f29, f30, f31]; try rfl) ?_
  refine Fr.l_mv rfl rfl (Fr.w_yes rfl d2 (by decide) (by simp only [Fr.ev_tmp, Fr.ev_const, Fr.up_get, Nat.reduceLT, Nat.reduceEqDiff, ↓reduceIte])) (by simp only [Fr.ev_tmp, Fr.ev_const, Fr.up_get, Nat.reduceLT, Nat.reduceEqDiff, ↓reduceIte, f5, f29, f30, f31]; try rfl) ?_
  refine Fr.l_val rfl (Fr.w_yes rfl d2 (by decide) (by simp only [Fr.ev_tmp, Fr.ev_const, Fr.up_get, Nat.reduceLT, Nat.reduceEqDiff, ↓reduceIte])) (by go_simp; first | done | (with_reducible rfl) | (with_reducible exact ⟨rfl, rfl⟩) | (with_reducible exact ⟨⟨rfl, rfl⟩, rfl⟩)) ?_
  refine Fr.l_val rfl (Fr.w_none rfl) (by go_simp; first | done | (with_reducible rfl) | (with_reducible exact ⟨rfl, rfl⟩) | (with_reducible exact ⟨⟨rfl, rfl⟩, rfl⟩)) ?_
  refine Fr.l_mv rfl rfl (Fr.w_none rfl) (by simp only [Fr.ev_tmp, Fr.ev_const, Fr.up_get, Nat.reduceLT, Nat.reduceEqDiff, ↓reduceIte, f5, f29, f30, f31]; try rfl) ?_
  refine Fr.l_mv rfl rfl (Fr.w_yes rfl d6 (by decide) (by simp only [Fr.ev_tmp, Fr.ev_const, Fr.up_get, Nat.reduceLT, Nat.reduceEqDiff, ↓reduceIte])) (by simp only [Fr.ev_tmp, Fr.ev_const, Fr.up_get, Nat.reduceLT, Nat.reduceEqDiff, ↓reduceIte, f5, f29, f30, f31]; try rfl) ?_
  refine Fr.l_mv rfl rfl (Fr.w_yes rfl d6 (by decide) (by simp only [Fr.ev_tmp, Fr.ev_const, Fr.up_get, Nat.reduceLT, Nat.reduceEqDiff, ↓reduceIte])) (by simp only [Fr.ev_tmp, Fr.ev_const, Fr.up_get, Nat.reduceLT, Nat.reduceEqDiff, ↓reduceIte, f5, f29, f30, f31]; try rfl) ?_
  refine Fr.l_val rfl (Fr.w_yes rfl d6 (by decide) (by simp only [Fr.ev_tmp, Fr.ev_const, Fr.up_get, Nat.reduceLT, Nat.reduceEqDiff, ↓reduceIte])) (by go_simp; first | done | (with_reducible rfl) | (with_reducible exact ⟨rfl, rfl⟩) | (with_reducible exact ⟨⟨rfl, rfl⟩, rfl⟩)) ?_
  refine Fr.l_val rfl (Fr.w_yes rfl d6 (by decide) (by simp only [Fr.ev_tmp, Fr.ev_const, Fr.up_get, Nat.reduceLT, Nat.reduceEqDiff, ↓reduceIte])) (by go_simp; first | done | (with_reducible rfl) | (with_reducible exact ⟨rfl, rfl⟩) | (with_reducible exact ⟨⟨rfl, rfl⟩, rfl⟩)) ?_
  refine Fr.l_val rfl (Fr.w_none rfl) (by go_simp; first | done | (with_reducible rfl) | (with_reducible exact ⟨rfl, rfl⟩) | (with_reducible exact ⟨⟨rfl, rfl⟩, rfl⟩)) ?_
  refine Fr.l_mv rfl rfl (Fr.w_none rfl) (by simp only [Fr.ev_tmp, Fr.ev_const, Fr.up_get, Nat.reduceLT, Nat.reduceEqDiff, ↓reduceIte, f5, f29, f30, f31]; try rfl) ?_
  refine Fr.l_mv rfl rfl (Fr.w_yes rfl d12 (by decide) (by simp only [Fr.ev_tmp, Fr.ev_const, Fr.up_get, Nat.reduceLT, Nat.reduceEqDiff, ↓reduceIte])) (by simp only [Fr.ev_tmp, Fr.ev_const, Fr.up_get, Nat.reduceLT, Nat.reduceEqDiff, ↓reduceIte, f5, f29, f30, f31]; try rfl) ?_
  refine Fr.l_mv rfl rfl (Fr.w_yes rfl d12 (by decide) (by simp only [Fr.ev_tmp, Fr.ev_const, Fr.up_get, Nat.reduceLT, Nat.reduceEqDiff, ↓reduceIte])) (by simp only [Fr.ev_tmp, Fr.ev_const, Fr.up_get, Nat.reduceLT, Nat.reduceEqDiff, ↓reduceIte, f5, f29, f30, f31]; try rfl) ?_
  refine Fr.l_mv rfl rfl (Fr.w_yes rfl d12 (by decide) (by simp only [Fr.ev_tmp, Fr.ev_const, Fr.up_get, Nat.reduceLT, Nat.reduceEqDiff, ↓reduceIte])) (by simp only [Fr.ev_tmp, Fr.ev_const, Fr.up_get, Nat.reduceLT, Nat.reduceEqDiff, ↓reduceIte, f5, f29, f30, f31]; try rfl) ?_
  refine Fr.l_val rfl (Fr.w_yes rfl d12 (by decide) (by simp only [Fr.ev_tmp, Fr.ev_const, Fr.up_get, Nat.reduceLT, Nat.reduceEqDiff, ↓reduceIte])) (by go_simp; first | done | (with_reducible rfl) | (with_reducible exact ⟨rfl, rfl⟩) | (with_reducible exact ⟨⟨rfl, rfl⟩, rfl⟩)) ?_
  refine Fr.l_val rfl (Fr.w_yes rfl d12 (by decide) (by simp only [Fr.ev_tmp, Fr.ev_const, Fr.up_get, Nat.reduceLT, Nat.reduceEqDiff, ↓reduceIte])) (by go_simp; first | done | (with_reducible rfl) | (with_reducible exact ⟨rfl, rfl⟩) | (with_reducible exact ⟨⟨rfl, rfl⟩, rfl⟩)) ?_
  refine Fr.l_val rfl (Fr.w_yes rfl d12 (by decide) (by simp only [Fr.ev_tmp, Fr.ev_const, Fr.up_get, Nat.reduceLT, Nat.reduceEqDiff, ↓reduceIte])) (by go_simp; first | done | (with_reducible rfl) | (with_reducible exact ⟨rfl, rfl⟩) | (with_reducible exact ⟨⟨rfl, rfl⟩, rfl⟩)) ?_
  (refine Fr.l_call rfl (Fr.w_yes rfl d12 (by decide) (by simp only [Fr.ev_tmp, Fr.ev_const, Fr.up_get, Nat.reduceLT, Nat.reduceEqDiff, ↓reduceIte])) (by go_simp; first | done | (with_reducible rfl) | (with_reducible exact ⟨rfl, rfl⟩) | (with_reducible exact ⟨⟨rfl, rfl⟩, rfl⟩)) ?_; refine ((specSame_any _ _ _)).mono ?_; rintro e w2 ⟨rfl, rfl⟩; refine ⟨_, rfl, ?_⟩)
  rw [teq_refl]
  refine Fr.l_val rfl (Fr.w_yes rfl d12 (by decide) (by simp only [Fr.ev_tmp, Fr.ev_const, Fr.up_get, Nat.reduceLT, Nat.reduceEqDiff, ↓reduceIte])) (by go_simp; first | done | (with_reducible rfl) | (with_reducible exact ⟨rfl, rfl⟩) | (with_reducible exact ⟨⟨rfl, rfl⟩, rfl⟩)) ?_
  refine Fr.l_val rfl (Fr.w_none rfl) (by go_simp; first | done | (with_reducible rfl) | (with_reducible exact ⟨rfl, rfl⟩) | (with_reducible exact ⟨⟨rfl, rfl⟩, rfl⟩)) ?_
  refine Fr.l_nil ?_
  refine Fr.l_cond (t := false) (by simp only [Fr.ev_tmp, Fr.ev_const, Fr.up_get, Nat.reduceLT, Nat.reduceEqDiff, ↓reduceIte]; try rfl) (fun h => absurd h (by decide)) (fun _ => ?_)
  refine wp_skip ?_
  refine HK.out _ _ rfl ?_
  repeat (refine Fr.Agree.up (by decide) ?_)
  exact Fr.Agree.refl _ _

end Go.Proofs.Ytkgfepakedieaaa.yTurnsOn

/-! The great law's walk, an element: the loop along the pairs. (written by wip/gen/turnson3.py.) -/
namespace Go.Proofs.Ytkgfepakedieaaa.yTurnsOn
open Go.RowKit
set_option linter.unusedVariables false
set_option linter.unusedSimpArgs false

set_option maxRecDepth 100000 in
set_option maxHeartbeats 16000000 in
theorem e19 {ps : List T3} {gT kT m l : Nat} {w : World} {Q : Exit → Act → World → Prop} {R : Code} {f : Nat → Value}
    (f5 : f 5 = .slice (some ⟨gT, 0, none⟩) ps.length kT) (f29 : f 29 = .int .i64 (m : Int)) (f30 : f 30 = .float .f32 l)
    (ct : ∀ i, (hi : i < ps.length) → w.cell? ⟨gT, i * 3 + 2, none⟩ = some (.float .f32 ps[i].2.2))
    (hmo : ∀ i, (hi : i < ps.length) → flt .f32 l ps[i].2.2 = false ∧ (i < m → fle .f32 l ps[i].2.2 = false ∧ feq .f32 ps[i].2.2 l = false)) (hlen : ps.length ≤ 4)
    (k : ∀ (w' : World) (g : Nat → Value), BelowC w w' → Fr.Kp 0 32 f g → Code.wp Try.prog R Q ⟨Fr.ft 557 g, []⟩ w') :
    Code.wp Try.prog ((Fr.fs (Fr.sn (Fr.sn (Fr.sn (Fr.sn (Fr.sn (Fr.sn (Fr.sn (Fr.sn (Fr.sn (Fr.sn (Fr.sn (Fr.sn (Fr.sn (Fr.sn (Fr.sn (Fr.sn (Fr.sn (Fr.sn (Fr.sn (B7))))))))))))))))))))).seq R) Q ⟨Fr.ft 557 f, []⟩ w := by
  have HK := Lib.hid k
  have HC := Lib.hid ct
  have HM := Lib.hid hmo
  clear k ct hmo
  conv => arg 2; arg 1; whnf
  have E1 := @Fr.ev_tmp 557
  have E2 := @Fr.ev_const 557
  have E3 := @Fr.up_get
  have E4 := @Fr.ev_func 557
  have E5 := @Fr.ev_global 557
  refine wp_seq ?_
  refine wp_seq ?_
  refine wp_region_lit ?_
  refine Fr.l_as rfl rfl (Fr.w_none rfl) (by simp only [Fr.ev_tmp, Fr.ev_const, Fr.up_get, Nat.reduceLT, Nat.reduceEqDiff, ↓reduceIte]; try rfl) ?_
  refine Fr.l_nil ?_
  refine wp_block ?_
  refine Fr.l_loop (fun g w' => ∃ i : Nat, i ≤ ps.length ∧ g 32 = .int .i64 (i : Int) ∧ Fr.Kp 0 32 f g ∧ BelowC w w') 32 (by decide) (fun v => (ps.length - (intOf v).toNat)) ?_ ?_
  · exact ⟨0, by omega, (by simp only [Fr.up_get, ↓reduceIte]; rfl), (by (repeat (refine Fr.Kp.up (by decide) ?_)); exact Fr.Kp.refl _ _ _), Below.refl _ _⟩
  rintro g wr ⟨i, hi, h32, hK, hb⟩
  have h5 := (hK 5 (by decide) (by decide)).trans f5
  have h29 := (hK 29 (by decide) (by decide)).trans f29
  have h30 := (hK 30 (by decide) (by decide)).trans f30
  refine wp_seq ?_
  refine wp_seq ?_
  by_cases hlt : i < ps.length
  · have hlt' : (i : Int) < (ps.length : Int) := by omega
    have hwi : IntKind.i64.wrap ((i : Int) + 1) = (i : Int) + 1 := by rw [IntKind.wrap_i64]; omega
    have q := BelowC.cell (HC.out i hlt) (World.block_lt_of_cell? w _ (HC.out i hlt)) wr hb
    obtain ⟨m1, m2⟩ := HM.out i hlt
    have M2 := Lib.hid m2
    obtain ⟨x, hx⟩ : ∃ x, x = ps[i].2.2 := ⟨_, rfl⟩
    rw [← hx] at q m1 M2
    clear hx m2
    refine wp_region_lit ?_
    refine Fr.l_mv rfl rfl (Fr.w_none rfl) (by simp only [Fr.ev_tmp, Fr.ev_const, Fr.up_get, Nat.reduceLT, Nat.reduceEqDiff, ↓reduceIte, h5, h29, h30, h32]; try rfl) ?_
    refine Fr.l_mv rfl rfl (Fr.w_none rfl) (by simp only [Fr.ev_tmp, Fr.ev_const, Fr.up_get, Nat.reduceLT, Nat.reduceEqDiff, ↓reduceIte, h5, h29, h30, h32]; try rfl) ?_
    refine Fr.l_val rfl (Fr.w_none rfl) (by go_simp; first | done | (with_reducible rfl) | (with_reducible exact ⟨rfl, rfl⟩) | (with_reducible exact ⟨⟨rfl, rfl⟩, rfl⟩)) ?_
    refine Fr.l_val rfl (Fr.w_none rfl) (by go_simp; first | done | (with_reducible rfl) | (with_reducible exact ⟨rfl, rfl⟩) | (with_reducible exact ⟨⟨rfl, rfl⟩, rfl⟩)) ?_
    refine Fr.l_nil ?_
    refine Fr.l_cond (t := true) (by simp only [Fr.ev_tmp, Fr.ev_const, Fr.up_get, Nat.reduceLT, Nat.reduceEqDiff, ↓reduceIte]; try rfl) (fun _ => ?_) (fun h => absurd h (by decide))
    refine wp_skip ?_
    refine wp_seq ?_
    refine wp_block ?_
    refine wp_seq ?_
    by_cases him : i < m
    · have him1 : (i : Int) < (m : Int) := by omega
      obtain ⟨m3, m4⟩ := M2.out him
      refine wp_region_lit ?_
      refine Fr.l_ops ?_
      intro OPS hO
      have d7 : (OPS[7]?).bind (·.dst) = some 361 := by rw [hO]; kernel_rfl
      have d11 : (OPS[11]?).bind (·.dst) = some 365 := by rw [hO]; kernel_rfl
      clear hO
      refine Fr.l_mv rfl rfl (Fr.w_none rfl) (by simp only [Fr.ev_tmp, Fr.ev_const, Fr.up_get, Nat.reduceLT, Nat.reduceEqDiff, ↓reduceIte, h5, h29, h30, h32]; try rfl) ?_
      refine Fr.l_mv rfl rfl (Fr.w_none rfl) (by simp only [Fr.ev_tmp, Fr.ev_const, Fr.up_get, Nat.reduceLT, Nat.reduceEqDiff, ↓reduceIte, h5, h29, h30, h32]; try rfl) ?_
      refine Fr.l_val rfl (Fr.w_none rfl) (by go_simp; first | done | (with_reducible rfl) | (with_reducible exact ⟨rfl, rfl⟩) | (with_reducible exact ⟨⟨rfl, rfl⟩, rfl⟩)) ?_
      refine Fr.l_val rfl (Fr.w_none rfl) (by go_simp; first | done | (with_reducible rfl) | (with_reducible exact ⟨rfl, rfl⟩) | (with_reducible exact ⟨⟨rfl, rfl⟩, rfl⟩)) ?_
      refine Fr.l_val rfl (Fr.w_none rfl) (by go_simp; first | done | (with_reducible rfl) | (with_reducible exact ⟨rfl, rfl⟩) | (with_reducible exact ⟨⟨rfl, rfl⟩, rfl⟩)) ?_
      refine Fr.l_mv rfl rfl (Fr.w_none rfl) (by simp only [Fr.ev_tmp, Fr.ev_const, Fr.up_get, Nat.reduceLT, Nat.reduceEqDiff, ↓reduceIte, h5, h29, h30, h32]; try rfl) ?_
      refine Fr.l_val rfl (Fr.w_none rfl) (by go_simp; first | done | (with_reducible rfl) | (with_reducible exact ⟨rfl, rfl⟩) | (with_reducible exact ⟨⟨rfl, rfl⟩, rfl⟩)) ?_
      refine Fr.l_mv rfl rfl (Fr.w_none rfl) (by simp only [Fr.ev_tmp, Fr.ev_const, Fr.up_get, Nat.reduceLT, Nat.reduceEqDiff, ↓reduceIte, h5, h29, h30, h32]; try rfl) ?_
      refine Fr.l_mv rfl rfl (Fr.w_yes rfl d7 (by decide) (by simp only [Fr.ev_tmp, Fr.ev_const, Fr.up_get, Nat.reduceLT, Nat.reduceEqDiff, ↓reduceIte])) (by simp only [Fr.ev_tmp, Fr.ev_const, Fr.up_get, Nat.reduceLT, Nat.reduceEqDiff, ↓reduceIte, h5, h29, h30, h32]; try rfl) ?_
      refine Fr.l_mv rfl rfl (Fr.w_yes rfl d7 (by decide) (by simp only [Fr.ev_tmp, Fr.ev_const, Fr.up_get, Nat.reduceLT, Nat.reduceEqDiff, ↓reduceIte])) (by simp only [Fr.ev_tmp, Fr.ev_const, Fr.up_get, Nat.reduceLT, Nat.reduceEqDiff, ↓reduceIte, h5, h29, h30, h32]; try rfl) ?_
      refine Fr.l_val rfl (Fr.w_yes rfl d7 (by decide) (by simp only [Fr.ev_tmp, Fr.ev_const, Fr.up_get, Nat.reduceLT, Nat.reduceEqDiff, ↓reduceIte])) (by go_simp; first | done | (with_reducible rfl) | (with_reducible exact ⟨rfl, rfl⟩) | (with_reducible exact ⟨⟨rfl, rfl⟩, rfl⟩)) ?_
      refine Fr.l_mv rfl rfl (Fr.w_yes rfl d7 (by decide) (by simp only [Fr.ev_tmp, Fr.ev_const, Fr.up_get, Nat.reduceLT, Nat.reduceEqDiff, ↓reduceIte])) (by simp only [Fr.ev_tmp, Fr.ev_const, Fr.up_get, Nat.reduceLT, Nat.reduceEqDiff, ↓reduceIte, h5, h29, h30, h32]; try rfl) ?_
      refine Fr.l_mv rfl rfl (Fr.w_yes rfl d11 (by decide) (by simp only [Fr.ev_tmp, Fr.ev_const, Fr.up_get, Nat.reduceLT, Nat.reduceEqDiff, ↓reduceIte])) (by simp only [Fr.ev_tmp, Fr.ev_const, Fr.up_get, Nat.reduceLT, Nat.reduceEqDiff, ↓reduceIte, h5, h29, h30, h32]; try rfl) ?_
      refine Fr.l_mv rfl rfl (Fr.w_yes rfl d11 (by decide) (by simp only [Fr.ev_tmp, Fr.ev_const, Fr.up_get, Nat.reduceLT, Nat.reduceEqDiff, ↓reduceIte])) (by simp only [Fr.ev_tmp, Fr.ev_const, Fr.up_get, Nat.reduceLT, Nat.reduceEqDiff, ↓reduceIte, h5, h29, h30, h32]; try rfl) ?_
      refine Fr.l_val rfl (Fr.w_yes rfl d11 (by decide) (by simp only [Fr.ev_tmp, Fr.ev_const, Fr.up_get, Nat.reduceLT, Nat.reduceEqDiff, ↓reduceIte])) (by go_simp; first | done | (with_reducible rfl) | (with_reducible exact ⟨rfl, rfl⟩) | (with_reducible exact ⟨⟨rfl, rfl⟩, rfl⟩)) ?_
      refine Fr.l_val rfl (Fr.w_yes rfl d11 (by decide) (by simp only [Fr.ev_tmp, Fr.ev_const, Fr.up_get, Nat.reduceLT, Nat.reduceEqDiff, ↓reduceIte])) (by go_simp; first | done | (with_reducible rfl) | (with_reducible exact ⟨rfl, rfl⟩) | (with_reducible exact ⟨⟨rfl, rfl⟩, rfl⟩)) ?_
      refine Fr.l_val rfl (Fr.w_yes rfl d11 (by decide) (by simp only [Fr.ev_tmp, Fr.ev_const, Fr.up_get, Nat.reduceLT, Nat.reduceEqDiff, ↓reduceIte])) (by go_simp; first | done | (with_reducible rfl) | (with_reducible exact ⟨rfl, rfl⟩) | (with_reducible exact ⟨⟨rfl, rfl⟩, rfl⟩)) ?_
      refine Fr.l_mv rfl rfl (Fr.w_yes rfl d11 (by decide) (by simp only [Fr.ev_tmp, Fr.ev_const, Fr.up_get, Nat.reduceLT, Nat.reduceEqDiff, ↓reduceIte])) (by simp only [Fr.ev_tmp, Fr.ev_const, Fr.up_get, Nat.reduceLT, Nat.reduceEqDiff, ↓reduceIte, h5, h29, h30, h32]; try rfl) ?_
      refine Fr.l_val rfl (Fr.w_yes rfl d11 (by decide) (by simp only [Fr.ev_tmp, Fr.ev_const, Fr.up_get, Nat.reduceLT, Nat.reduceEqDiff, ↓reduceIte])) (by go_simp; first | done | (with_reducible rfl) | (with_reducible exact ⟨rfl, rfl⟩) | (with_reducible exact ⟨⟨rfl, rfl⟩, rfl⟩)) ?_
      refine Fr.l_val rfl (Fr.w_yes rfl d7 (by decide) (by simp only [Fr.ev_tmp, Fr.ev_const, Fr.up_get, Nat.reduceLT, Nat.reduceEqDiff, ↓reduceIte])) (by go_simp; first | done | (with_reducible rfl) | (with_reducible exact ⟨rfl, rfl⟩) | (with_reducible exact ⟨⟨rfl, rfl⟩, rfl⟩)) ?_
      refine Fr.l_val rfl (Fr.w_none rfl) (by go_simp; first | done | (with_reducible rfl) | (with_reducible exact ⟨rfl, rfl⟩) | (with_reducible exact ⟨⟨rfl, rfl⟩, rfl⟩)) ?_
      refine Fr.l_nil ?_
      refine Fr.l_cond (t := false) (by simp only [Fr.ev_tmp, Fr.ev_const, Fr.up_get, Nat.reduceLT, Nat.reduceEqDiff, ↓reduceIte]; try rfl) (fun h => absurd h (by decide)) (fun _ => ?_)
      refine wp_skip ?_
      refine wp_region_lit ?_
      refine Fr.l_mv rfl rfl (Fr.w_none rfl) (by simp only [Fr.ev_tmp, Fr.ev_const, Fr.up_get, Nat.reduceLT, Nat.reduceEqDiff, ↓reduceIte, h5, h29, h30, h32]; try rfl) ?_
      refine Fr.l_val rfl (Fr.w_none rfl) (by go_simp; first | done | (with_reducible rfl) | (with_reducible exact ⟨rfl, rfl⟩) | (with_reducible exact ⟨⟨rfl, rfl⟩, rfl⟩)) ?_
      refine Fr.l_as rfl rfl (Fr.w_none rfl) (by simp only [Fr.ev_tmp, Fr.ev_const, Fr.up_get, Nat.reduceLT, Nat.reduceEqDiff, ↓reduceIte, h5, h29, h30, h32]; try rfl) ?_
      refine Fr.l_nil ?_
      refine Fr.then_ok ⟨_, rfl, ⟨i + 1, by omega, (by simp only [Fr.up_get, ↓reduceIte]; rfl), (by (repeat (refine Fr.Kp.up (by decide) ?_)); exact hK), hb⟩, ?_⟩
      simp only [Fr.up_get, ↓reduceIte, h32, intOf]
      omega
    · have him1 : ¬ (i : Int) < (m : Int) := by omega
      refine wp_region_lit ?_
      refine Fr.l_ops ?_
      intro OPS hO
      have d7 : (OPS[7]?).bind (·.dst) = some 361 := by rw [hO]; kernel_rfl
      have d11 : (OPS[11]?).bind (·.dst) = some 365 := by rw [hO]; kernel_rfl
      clear hO
      refine Fr.l_mv rfl rfl (Fr.w_none rfl) (by simp only [Fr.ev_tmp, Fr.ev_const, Fr.up_get, Nat.reduceLT, Nat.reduceEqDiff, ↓reduceIte, h5, h29, h30, h32]; try rfl) ?_
      refine Fr.l_mv rfl rfl (Fr.w_none rfl) (by simp only [Fr.ev_tmp, Fr.ev_const, Fr.up_get, Nat.reduceLT, Nat.reduceEqDiff, ↓reduceIte, h5, h29, h30, h32]; try rfl) ?_
      refine Fr.l_val rfl (Fr.w_none rfl) (by go_simp; first | done | (with_reducible rfl) | (with_reducible exact ⟨rfl, rfl⟩) | (with_reducible exact ⟨⟨rfl, rfl⟩, rfl⟩)) ?_
      refine Fr.l_val rfl (Fr.w_none rfl) (by go_simp; first | done | (with_reducible rfl) | (with_reducible exact ⟨rfl, rfl⟩) | (with_reducible exact ⟨⟨rfl, rfl⟩, rfl⟩)) ?_
      refine Fr.l_val rfl (Fr.w_none rfl) (by go_simp; first | done | (with_reducible rfl) | (with_reducible exact ⟨rfl, rfl⟩) | (with_reducible exact ⟨⟨rfl, rfl⟩, rfl⟩)) ?_
      refine Fr.l_mv rfl rfl (Fr.w_none rfl) (by simp only [Fr.ev_tmp, Fr.ev_const, Fr.up_get, Nat.reduceLT, Nat.reduceEqDiff, ↓reduceIte, h5, h29, h30, h32]; try rfl) ?_
      refine Fr.l_val rfl (Fr.w_none rfl) (by go_simp; first | done | (with_reducible rfl) | (with_reducible exact ⟨rfl, rfl⟩) | (with_reducible exact ⟨⟨rfl, rfl⟩, rfl⟩)) ?_
      refine Fr.l_mv rfl rfl (Fr.w_none rfl) (by simp only [Fr.ev_tmp, Fr.ev_const, Fr.up_get, Nat.reduceLT, Nat.reduceEqDiff, ↓reduceIte, h5, h29, h30, h32]; try rfl) ?_
      refine Fr.l_mv rfl rfl (Fr.w_yes rfl d7 (by decide) (by simp only [Fr.ev_tmp, Fr.ev_const, Fr.up_get, Nat.reduceLT, Nat.reduceEqDiff, ↓reduceIte])) (by simp only [Fr.ev_tmp, Fr.ev_const, Fr.up_get, Nat.reduceLT, Nat.reduceEqDiff, ↓reduceIte, h5, h29, h30, h32]; try rfl) ?_
      refine Fr.l_mv rfl rfl (Fr.w_yes rfl d7 (by decide) (by simp only [Fr.ev_tmp, Fr.ev_const, Fr.up_get, Nat.reduceLT, Nat.reduceEqDiff, ↓reduceIte])) (by simp only [Fr.ev_tmp, Fr.ev_const, Fr.up_get, Nat.reduceLT, Nat.reduceEqDiff, ↓reduceIte, h5, h29, h30, h32]; try rfl) ?_
      refine Fr.l_val rfl (Fr.w_yes rfl d7 (by decide) (by simp only [Fr.ev_tmp, Fr.ev_const, Fr.up_get, Nat.reduceLT, Nat.reduceEqDiff, ↓reduceIte])) (by go_simp; first | done | (with_reducible rfl) | (with_reducible exact ⟨rfl, rfl⟩) | (with_reducible exact ⟨⟨rfl, rfl⟩, rfl⟩)) ?_
      refine Fr.l_mv rfl rfl (Fr.w_yes rfl d7 (by decide) (by simp only [Fr.ev_tmp, Fr.ev_const, Fr.up_get, Nat.reduceLT, Nat.reduceEqDiff, ↓reduceIte])) (by simp only [Fr.ev_tmp, Fr.ev_const, Fr.up_get, Nat.reduceLT, Nat.reduceEqDiff, ↓reduceIte, h5, h29, h30, h32]; try rfl) ?_
      refine Fr.l_pass rfl (Fr.w_no rfl d11 (by decide) (by first | (left; simp only [Fr.ev_tmp, Fr.ev_const, Fr.up_get, Nat.reduceLT, Nat.reduceEqDiff, ↓reduceIte, Bool.not_true, Bool.not_false]; done) | (right; simp only [Fr.ev_tmp, Fr.ev_const, Fr.up_get, Nat.reduceLT, Nat.reduceEqDiff, ↓reduceIte, Bool.not_true, Bool.not_false]; done))) ?_
      refine Fr.l_pass rfl (Fr.w_no rfl d11 (by decide) (by first | (left; simp only [Fr.ev_tmp, Fr.ev_const, Fr.up_get, Nat.reduceLT, Nat.reduceEqDiff, ↓reduceIte, Bool.not_true, Bool.not_false]; done) | (right; simp only [Fr.ev_tmp, Fr.ev_const, Fr.up_get, Nat.reduceLT, Nat.reduceEqDiff, ↓reduceIte, Bool.not_true, Bool.not_false]; done))) ?_
      refine Fr.l_pass rfl (Fr.w_no rfl d11 (by decide) (by first | (left; simp only [Fr.ev_tmp, Fr.ev_const, Fr.up_get, Nat.reduceLT, Nat.reduceEqDiff, ↓reduceIte, Bool.not_true, Bool.not_false]; done) | (right; simp only [Fr.ev_tmp, Fr.ev_const, Fr.up_get, Nat.reduceLT, Nat.reduceEqDiff, ↓reduceIte, Bool.not_true, Bool.not_false]; done))) ?_
      refine Fr.l_pass rfl (Fr.w_no rfl d11 (by decide) (by first | (left; simp only [Fr.ev_tmp, Fr.ev_const, Fr.up_get, Nat.reduceLT, Nat.reduceEqDiff, ↓reduceIte, Bool.not_true, Bool.not_false]; done) | (right; simp only [Fr.ev_tmp, Fr.ev_const, Fr.up_get, Nat.reduceLT, Nat.reduceEqDiff, ↓reduceIte, Bool.not_true, Bool.not_false]; done))) ?_
      refine Fr.l_pass rfl (Fr.w_no rfl d11 (by decide) (by first | (left; simp only [Fr.ev_tmp, Fr.ev_const, Fr.up_get, Nat.reduceLT, Nat.reduceEqDiff, ↓reduceIte, Bool.not_true, Bool.not_false]; done) | (right; simp only [Fr.ev_tmp, Fr.ev_const, Fr.up_get, Nat.reduceLT, Nat.reduceEqDiff, ↓reduceIte, Bool.not_true, Bool.not_false]; done))) ?_
      refine Fr.l_pass rfl (Fr.w_no rfl d11 (by decide) (by first | (left; simp only [Fr.ev_tmp, Fr.ev_const, Fr.up_get, Nat.reduceLT, Nat.reduceEqDiff, ↓reduceIte, Bool.not_true, Bool.not_false]; done) | (right; simp only [Fr.ev_tmp, Fr.ev_const, Fr.up_get, Nat.reduceLT, Nat.reduceEqDiff, ↓reduceIte, Bool.not_true, Bool.not_false]; done))) ?_
      refine Fr.l_pass rfl (Fr.w_no rfl d11 (by decide) (by first | (left; simp only [Fr.ev_tmp, Fr.ev_const, Fr.up_get, Nat.reduceLT, Nat.reduceEqDiff, ↓reduceIte, Bool.not_true, Bool.not_false]; done) | (right; simp only [Fr.ev_tmp, Fr.ev_const, Fr.up_get, Nat.reduceLT, Nat.reduceEqDiff, ↓reduceIte, Bool.not_true, Bool.not_false]; done))) ?_
      refine Fr.l_val rfl (Fr.w_yes rfl d7 (by decide) (by simp only [Fr.ev_tmp, Fr.ev_const, Fr.up_get, Nat.reduceLT, Nat.reduceEqDiff, ↓reduceIte])) (by go_simp; first | done | (with_reducible rfl) | (with_reducible exact ⟨rfl, rfl⟩) | (with_reducible exact ⟨⟨rfl, rfl⟩, rfl⟩)) ?_
      refine Fr.l_val rfl (Fr.w_none rfl) (by go_simp; first | done | (with_reducible rfl) | (with_reducible exact ⟨rfl, rfl⟩) | (with_reducible exact ⟨⟨rfl, rfl⟩, rfl⟩)) ?_
      refine Fr.l_nil ?_
      refine Fr.l_cond (t := false) (by simp only [Fr.ev_tmp, Fr.ev_const, Fr.up_get, Nat.reduceLT, Nat.reduceEqDiff, ↓reduceIte]; try rfl) (fun h => absurd h (by decide)) (fun _ => ?_)
      refine wp_skip ?_
      refine wp_region_lit ?_
      refine Fr.l_mv rfl rfl (Fr.w_none rfl) (by simp only [Fr.ev_tmp, Fr.ev_const, Fr.up_get, Nat.reduceLT, Nat.reduceEqDiff, ↓reduceIte, h5, h29, h30, h32]; try rfl) ?_
      refine Fr.l_val rfl (Fr.w_none rfl) (by go_simp; first | done | (with_reducible rfl) | (with_reducible exact ⟨rfl, rfl⟩) | (with_reducible exact ⟨⟨rfl, rfl⟩, rfl⟩)) ?_
      refine Fr.l_as rfl rfl (Fr.w_none rfl) (by simp only [Fr.ev_tmp, Fr.ev_const, Fr.up_get, Nat.reduceLT, Nat.reduceEqDiff, ↓reduceIte, h5, h29, h30, h32]; try rfl) ?_
      refine Fr.l_nil ?_
      refine Fr.then_ok ⟨_, rfl, ⟨i + 1, by omega, (by simp only [Fr.up_get, ↓reduceIte]; rfl), (by (repeat (refine Fr.Kp.up (by decide) ?_)); exact hK), hb⟩, ?_⟩
      simp only [Fr.up_get, ↓reduceIte, h32, intOf]
      omega
  · obtain rfl : i = ps.length := by omega
    refine wp_region_lit ?_
    refine Fr.l_mv rfl rfl (Fr.w_none rfl) (by simp only [Fr.ev_tmp, Fr.ev_const, Fr.up_get, Nat.reduceLT, Nat.reduceEqDiff, ↓reduceIte, h5, h29, h30, h32]; try rfl) ?_
    refine Fr.l_mv rfl rfl (Fr.w_none rfl) (by simp only [Fr.ev_tmp, Fr.ev_const, Fr.up_get, Nat.reduceLT, Nat.reduceEqDiff, ↓reduceIte, h5, h29, h30, h32]; try rfl) ?_
    refine Fr.l_val rfl (Fr.w_none rfl) (by go_simp; first | done | (with_reducible rfl) | (with_reducible exact ⟨rfl, rfl⟩) | (with_reducible exact ⟨⟨rfl, rfl⟩, rfl⟩)) ?_
    refine Fr.l_val rfl (Fr.w_none rfl) (by go_simp; first | done | (with_reducible rfl) | (with_reducible exact ⟨rfl, rfl⟩) | (with_reducible exact ⟨⟨rfl, rfl⟩, rfl⟩)) ?_
    refine Fr.l_nil ?_
    refine Fr.l_cond (t := false) (by simp only [Fr.ev_tmp, Fr.ev_const, Fr.up_get, Nat.reduceLT, Nat.reduceEqDiff, ↓reduceIte]; try rfl) (fun h => absurd h (by decide)) (fun _ => ?_)
    refine wp_exit ?_
    refine Fr.then_exit (Fr.then_exit ?_)
    refine Fr.inb_exit ?_
    refine HK.out _ _ hb (by (repeat (refine Fr.Kp.up (by decide) ?_)); exact hK)

end Go.Proofs.Ytkgfepakedieaaa.yTurnsOn

/-! The great law's walk, an element: the train without a loss; the distances. (written by wip/gen/turnson3.py.) -/
namespace Go.Proofs.Ytkgfepakedieaaa.yTurnsOn
open Go.RowKit
set_option linter.unusedVariables false
set_option linter.unusedSimpArgs false

set_option maxRecDepth 100000 in
set_option maxHeartbeats 16000000 in
theorem e21 {ps : List T3} {gT kT gW kW m : Nat} {W w : World} {a : Int} {Q : Exit → Act → World → Prop} {R : Code} {f : Nat → Value}
    (f5 : f 5 = .slice (some ⟨gT, 0, none⟩) ps.length kT) (f29 : f 29 = .int .i64 (m : Int)) (f33 : f 33 = .slice (some ⟨gW, 0, none⟩) ps.length kW) (f34 : f 34 = .int .i64 0) (hm : m < ps.length)
    (cw : W.cell? ⟨gW, m * 3, none⟩ = some (.int .i16 a)) (cl : W.cell? ⟨gW, m * 3 + 2, none⟩ = some (.float .f32 0)) (ct : W.cell? ⟨gT, m * 3, none⟩ = some (.int .i16 a)) (hw : BelowC W w)
    (k : ∀ (w' : World) (g : Nat → Value), BelowC W w' → Fr.Agree 381 f g → Code.wp Try.prog R Q ⟨Fr.ft 557 g, []⟩ w') :
    Code.wp Try.prog ((Fr.fs (Fr.sn (Fr.sn (Fr.sn (Fr.sn (Fr.sn (Fr.sn (Fr.sn (Fr.sn (Fr.sn (Fr.sn (Fr.sn (Fr.sn (Fr.sn (Fr.sn (Fr.sn (Fr.sn (Fr.sn (Fr.sn (Fr.sn (Fr.sn (Fr.sn (B7))))))))))))))))))))))).seq R) Q ⟨Fr.ft 557 f, []⟩ w := by
  have HK := Lib.hid k
  clear k
  have hm0 : (0 : Int) ≤ (m : Int) := by omega
  have hm1 : (m : Int) < (ps.length : Int) := by omega
  have q1 := BelowC.cell cw (World.block_lt_of_cell? W _ cw)
  have q2 := BelowC.cell cl (World.block_lt_of_cell? W _ cl)
  have q3 := BelowC.cell ct (World.block_lt_of_cell? W _ ct)
  have hz : feq .f32 0 0 = true := by decide +kernel
  clear cw cl ct
  conv => arg 2; arg 1; whnf
  have E1 := @Fr.ev_tmp 557
  have E2 := @Fr.ev_const 557
  have E3 := @Fr.up_get
  have E4 := @Fr.ev_func 557
  have E5 := @Fr.ev_global 557
  refine wp_seq ?_
  refine wp_seq ?_
  refine Loose.wp_regionF (BelowC W) (Loose.Tab []) (by kernel_rfl) (by kernel_rfl) (Fr.belowC_drew hw) ?_
  refine Loose.wpL_ops ?_
  intro OPS hO
  have d2 : (OPS[2]?).bind (·.dst) = some 383 := by rw [hO]; kernel_rfl
  have d9 : (OPS[9]?).bind (·.dst) = some 390 := by rw [hO]; kernel_rfl
  have d17 : (OPS[17]?).bind (·.dst) = some 398 := by rw [hO]; kernel_rfl
  clear hO
  refine Fr.d_mv rfl rfl (Fr.w_none rfl) (by simp only [Fr.ev_tmp, Fr.ev_const, Fr.up_get, Nat.reduceLT, Nat.reduceEqDiff, ↓reduceIte, f5, f29, f33, f34]; try rfl) ?_
  refine Fr.d_det rfl (Fr.w_none rfl) (by intro wq hwq; go_simp; first | done | (with_reducible rfl) | (with_reducible exact ⟨rfl, rfl⟩)) ?_
  refine Fr.d_mv rfl rfl (Fr.w_none rfl) (by simp only [Fr.ev_tmp, Fr.ev_const, Fr.up_get, Nat.reduceLT, Nat.reduceEqDiff, ↓reduceIte, f5, f29, f33, f34]; try rfl) ?_
  refine Fr.d_mv rfl rfl (Fr.w_yes rfl d2 (by decide) (by simp only [Fr.ev_tmp, Fr.ev_const, Fr.up_get, Nat.reduceLT, Nat.reduceEqDiff, ↓reduceIte])) (by simp only [Fr.ev_tmp, Fr.ev_const, Fr.up_get, Nat.reduceLT, Nat.reduceEqDiff, ↓reduceIte, f5, f29, f33, f34]; try rfl) ?_
  refine Fr.d_det rfl (Fr.w_yes rfl d2 (by decide) (by simp only [Fr.ev_tmp, Fr.ev_const, Fr.up_get, Nat.reduceLT, Nat.reduceEqDiff, ↓reduceIte])) (by intro wq hwq; go_simp; first | done | (with_reducible rfl) | (with_reducible exact ⟨rfl, rfl⟩)) ?_
  refine Fr.d_mv rfl rfl (Fr.w_yes rfl d2 (by decide) (by simp only [Fr.ev_tmp, Fr.ev_const, Fr.up_get, Nat.reduceLT, Nat.reduceEqDiff, ↓reduceIte])) (by simp only [Fr.ev_tmp, Fr.ev_const, Fr.up_get, Nat.reduceLT, Nat.reduceEqDiff, ↓reduceIte, f5, f29, f33, f34]; try rfl) ?_
  refine Fr.d_det rfl (Fr.w_yes rfl d2 (by decide) (by simp only [Fr.ev_tmp, Fr.ev_const, Fr.up_get, Nat.reduceLT, Nat.reduceEqDiff, ↓reduceIte])) (by intro wq hwq; go_simp; first | done | (with_reducible rfl) | (with_reducible exact ⟨rfl, rfl⟩)) ?_
  refine Fr.d_det rfl (Fr.w_yes rfl d2 (by decide) (by simp only [Fr.ev_tmp, Fr.ev_const, Fr.up_get, Nat.reduceLT, Nat.reduceEqDiff, ↓reduceIte])) (by intro wq hwq; go_simp; first | done | (with_reducible rfl) | (with_reducible exact ⟨rfl, rfl⟩)) ?_
  refine Fr.d_det rfl (Fr.w_none rfl) (by intro wq hwq; go_simp; first | done | (with_reducible rfl) | (with_reducible exact ⟨rfl, rfl⟩)) ?_
  refine Fr.d_mv rfl rfl (Fr.w_none rfl) (by simp only [Fr.ev_tmp, Fr.ev_const, Fr.up_get, Nat.reduceLT, Nat.reduceEqDiff, ↓reduceIte, f5, f29, f33, f34]; try rfl) ?_
  refine Fr.d_mv rfl rfl (Fr.w_yes rfl d9 (by decide) (by simp only [Fr.ev_tmp, Fr.ev_const, Fr.up_get, Nat.reduceLT, Nat.reduceEqDiff, ↓reduceIte])) (by simp only [Fr.ev_tmp, Fr.ev_const, Fr.up_get, Nat.reduceLT, Nat.reduceEqDiff, ↓reduceIte, f5, f29, f33, f34]; try rfl) ?_
  refine Fr.d_mv rfl rfl (Fr.w_yes rfl d9 (by decide) (by simp only [Fr.ev_tmp, Fr.ev_const, Fr.up_get, Nat.reduceLT, Nat.reduceEqDiff, ↓reduceIte])) (by simp only [Fr.ev_tmp, Fr.ev_const, Fr.up_get, Nat.reduceLT, Nat.reduceEqDiff, ↓reduceIte, f5, f29, f33, f34]; try rfl) ?_
  refine Fr.d_det rfl (Fr.w_yes rfl d9 (by decide) (by simp only [Fr.ev_tmp, Fr.ev_const, Fr.up_get, Nat.reduceLT, Nat.reduceEqDiff, ↓reduceIte])) (by intro wq hwq; go_simp; first | done | (with_reducible rfl) | (with_reducible exact ⟨rfl, rfl⟩)) ?_
  refine Fr.d_det rfl (Fr.w_yes rfl d9 (by decide) (by simp only [Fr.ev_tmp, Fr.ev_const, Fr.up_get, Nat.reduceLT, Nat.reduceEqDiff, ↓reduceIte])) (by intro wq hwq; go_simp; first | done | (with_reducible rfl) | (with_reducible exact ⟨rfl, rfl⟩)) ?_
  refine Fr.d_det rfl (Fr.w_yes rfl d9 (by decide) (by simp only [Fr.ev_tmp, Fr.ev_const, Fr.up_get, Nat.reduceLT, Nat.reduceEqDiff, ↓reduceIte])) (by intro wq hwq; go_simp; first | done | (with_reducible rfl) | (with_reducible exact ⟨rfl, rfl⟩)) ?_
  refine Fr.d_det rfl (Fr.w_yes rfl d9 (by decide) (by simp only [Fr.ev_tmp, Fr.ev_const, Fr.up_get, Nat.reduceLT, Nat.reduceEqDiff, ↓reduceIte])) (by intro wq hwq; go_simp; first | done | (with_reducible rfl) | (with_reducible exact ⟨rfl, rfl⟩)) ?_
  refine Fr.d_det rfl (Fr.w_none rfl) (by intro wq hwq; go_simp; first | done | (with_reducible rfl) | (with_reducible exact ⟨rfl, rfl⟩)) ?_
  refine Fr.d_mv rfl rfl (Fr.w_none rfl) (by simp only [Fr.ev_tmp, Fr.ev_const, Fr.up_get, Nat.reduceLT, Nat.reduceEqDiff, ↓reduceIte, f5, f29, f33, f34]; try rfl) ?_
  refine Fr.d_mv rfl rfl (Fr.w_yes rfl d17 (by decide) (by simp only [Fr.ev_tmp, Fr.ev_const, Fr.up_get, Nat.reduceLT, Nat.reduceEqDiff, ↓reduceIte])) (by simp only [Fr.ev_tmp, Fr.ev_const, Fr.up_get, Nat.reduceLT, Nat.reduceEqDiff, ↓reduceIte, f5, f29, f33, f34]; try rfl) ?_
  refine Fr.d_mv rfl rfl (Fr.w_yes rfl d17 (by decide) (by simp only [Fr.ev_tmp, Fr.ev_const, Fr.up_get, Nat.reduceLT, Nat.reduceEqDiff, ↓reduceIte])) (by simp only [Fr.ev_tmp, Fr.ev_const, Fr.up_get, Nat.reduceLT, Nat.reduceEqDiff, ↓reduceIte, f5, f29, f33, f34]; try rfl) ?_
  refine Fr.d_det rfl (Fr.w_yes rfl d17 (by decide) (by simp only [Fr.ev_tmp, Fr.ev_const, Fr.up_get, Nat.reduceLT, Nat.reduceEqDiff, ↓reduceIte])) (by intro wq hwq; go_simp; first | done | (with_reducible rfl) | (with_reducible exact ⟨rfl, rfl⟩)) ?_
  refine Fr.d_det rfl (Fr.w_yes rfl d17 (by decide) (by simp only [Fr.ev_tmp, Fr.ev_const, Fr.up_get, Nat.reduceLT, Nat.reduceEqDiff, ↓reduceIte])) (by intro wq hwq; go_simp; first | done | (with_reducible rfl) | (with_reducible exact ⟨rfl, rfl⟩)) ?_
  refine Fr.d_det rfl (Fr.w_yes rfl d17 (by decide) (by simp only [Fr.ev_tmp, Fr.ev_const, Fr.up_get, Nat.reduceLT, Nat.reduceEqDiff, ↓reduceIte])) (by intro wq hwq; go_simp; first | done | (with_reducible rfl) | (with_reducible exact ⟨rfl, rfl⟩)) ?_
  refine Fr.d_mv rfl rfl (Fr.w_yes rfl d17 (by decide) (by simp only [Fr.ev_tmp, Fr.ev_const, Fr.up_get, Nat.reduceLT, Nat.reduceEqDiff, ↓reduceIte])) (by simp only [Fr.ev_tmp, Fr.ev_const, Fr.up_get, Nat.reduceLT, Nat.reduceEqDiff, ↓reduceIte, f5, f29, f33, f34]; try rfl) ?_
  refine Fr.d_mv rfl rfl (Fr.w_yes rfl d17 (by decide) (by simp only [Fr.ev_tmp, Fr.ev_const, Fr.up_get, Nat.reduceLT, Nat.reduceEqDiff, ↓reduceIte])) (by simp only [Fr.ev_tmp, Fr.ev_const, Fr.up_get, Nat.reduceLT, Nat.reduceEqDiff, ↓reduceIte, f5, f29, f33, f34]; try rfl) ?_
  refine Fr.d_det rfl (Fr.w_yes rfl d17 (by decide) (by simp only [Fr.ev_tmp, Fr.ev_const, Fr.up_get, Nat.reduceLT, Nat.reduceEqDiff, ↓reduceIte])) (by intro wq hwq; go_simp; first | done | (with_reducible rfl) | (with_reducible exact ⟨rfl, rfl⟩)) ?_
  refine Fr.d_det rfl (Fr.w_yes rfl d17 (by decide) (by simp only [Fr.ev_tmp, Fr.ev_const, Fr.up_get, Nat.reduceLT, Nat.reduceEqDiff, ↓reduceIte])) (by intro wq hwq; go_simp; first | done | (with_reducible rfl) | (with_reducible exact ⟨rfl, rfl⟩)) ?_
  refine Fr.d_det rfl (Fr.w_yes rfl d17 (by decide) (by simp only [Fr.ev_tmp, Fr.ev_const, Fr.up_get, Nat.reduceLT, Nat.reduceEqDiff, ↓reduceIte])) (by intro wq hwq; go_simp; first | done | (with_reducible rfl) | (with_reducible exact ⟨rfl, rfl⟩)) ?_
  refine Fr.d_det rfl (Fr.w_yes rfl d17 (by decide) (by simp only [Fr.ev_tmp, Fr.ev_const, Fr.up_get, Nat.reduceLT, Nat.reduceEqDiff, ↓reduceIte])) (by intro wq hwq; go_simp; first | done | (with_reducible rfl) | (with_reducible exact ⟨rfl, rfl⟩)) ?_
  refine Fr.d_det rfl (Fr.w_none rfl) (by intro wq hwq; go_simp; first | done | (with_reducible rfl) | (with_reducible exact ⟨rfl, rfl⟩)) ?_
  refine Loose.done ?_
  intro w' hw'
  refine Fr.l_cond (t := false) (by simp only [Fr.ev_tmp, Fr.ev_const, Fr.up_get, Nat.reduceLT, Nat.reduceEqDiff, ↓reduceIte]; try rfl) (fun h => absurd h (by decide)) (fun _ => ?_)
  refine wp_skip ?_
  refine HK.out w' _ hw' ?_
  repeat (refine Fr.Agree.up (by decide) ?_)
  exact Fr.Agree.refl _ _

set_option maxRecDepth 100000 in
set_option maxHeartbeats 16000000 in
theorem e25 {ps : List T3} {gT kT gD kD r : Nat} {w : World} {Q : Exit → Act → World → Prop} {R : Code} {f : Nat → Value}
    (f5 : f 5 = .slice (some ⟨gT, 0, none⟩) ps.length kT) (f22 : f 22 = .float .f32 (effC ps)) (f35 : f 35 = .float .f32 r) (f36 : f 36 = .int .i64 0) (f38 : f 38 = .slice (some ⟨gD, 0, none⟩) ps.length kD) (f39 : f 39 = .int .i64 0)
    (hfl : ∀ w, flt .f32 r (fval .mul .f32 (effC ps) 1065353199 w) = false)
    (k : ∀ (w' : World) (g : Nat → Value), BelowC w w' → Fr.Agree 427 f g → Code.wp Try.prog R Q ⟨Fr.ft 557 g, []⟩ w') :
    Code.wp Try.prog ((Fr.fs (Fr.sn (Fr.sn (Fr.sn (Fr.sn (Fr.sn (Fr.sn (Fr.sn (Fr.sn (Fr.sn (Fr.sn (Fr.sn (Fr.sn (Fr.sn (Fr.sn (Fr.sn (Fr.sn (Fr.sn (Fr.sn (Fr.sn (Fr.sn (Fr.sn (Fr.sn (Fr.sn (Fr.sn (Fr.sn (B7))))))))))))))))))))))))))).seq R) Q ⟨Fr.ft 557 f, []⟩ w := by
  have HK := Lib.hid k
  clear k
  conv => arg 2; arg 1; whnf
  have E1 := @Fr.ev_tmp 557
  have E2 := @Fr.ev_const 557
  have E3 := @Fr.up_get
  have E4 := @Fr.ev_func 557
  have E5 := @Fr.ev_global 557
  refine wp_seq ?_
  refine wp_seq ?_
  refine wp_region_lit ?_
  refine Fr.l_ops ?_
  intro OPS hO
  have d2 : (OPS[2]?).bind (·.dst) = some 429 := by rw [hO]; kernel_rfl
  have d8 : (OPS[8]?).bind (·.dst) = some 435 := by rw [hO]; kernel_rfl
  have d12 : (OPS[12]?).bind (·.dst) = some 439 := by rw [hO]; kernel_rfl
  clear hO
  refine Fr.l_mv rfl rfl (Fr.w_none rfl) (by simp only [Fr.ev_tmp, Fr.ev_const, Fr.up_get, Nat.reduceLT, Nat.reduceEqDiff, ↓reduceIte, f5, f22, f35, f36, f38, f39]; try rfl) ?_
  refine Fr.l_val rfl (Fr.w_none rfl) (by go_simp; first | done | (with_reducible rfl) | (with_reducible exact ⟨rfl, rfl⟩) | (with_reducible exact ⟨⟨rfl, rfl⟩, rfl⟩)) ?_
  refine Fr.l_mv rfl rfl (Fr.w_none rfl) (by simp only [Fr.ev_tmp, Fr.ev_const, Fr.up_get, Nat.reduceLT, Nat.reduceEqDiff, ↓reduceIte, f5, f22, f35, f36, f38, f39]; try rfl) ?_
  refine Fr.l_mv rfl rfl (Fr.w_yes rfl d2 (by decide) (by simp only [Fr.ev_tmp, Fr.ev_const, Fr.up_get, Nat.reduceLT, Nat.reduceEqDiff, ↓reduceIte])) (by simp only [Fr.ev_tmp, Fr.ev_const, Fr.up_get, Nat.reduceLT, Nat.reduceEqDiff, ↓reduceIte, f5, f22, f35, f36, f38, f39]; try rfl) ?_
  refine Fr.l_mv rfl rfl (Fr.w_yes rfl d2 (by decide) (by simp only [Fr.ev_tmp, Fr.ev_const, Fr.up_get, Nat.reduceLT, Nat.reduceEqDiff, ↓reduceIte])) (by simp only [Fr.ev_tmp, Fr.ev_const, Fr.up_get, Nat.reduceLT, Nat.reduceEqDiff, ↓reduceIte, f5, f22, f35, f36, f38, f39]; try rfl) ?_
  refine Fr.l_val rfl (Fr.w_yes rfl d2 (by decide) (by simp only [Fr.ev_tmp, Fr.ev_const, Fr.up_get, Nat.reduceLT, Nat.reduceEqDiff, ↓reduceIte])) (by go_simp; first | done | (with_reducible rfl) | (with_reducible exact ⟨rfl, rfl⟩) | (with_reducible exact ⟨⟨rfl, rfl⟩, rfl⟩)) ?_
  refine Fr.l_val rfl (Fr.w_yes rfl d2 (by decide) (by simp only [Fr.ev_tmp, Fr.ev_const, Fr.up_get, Nat.reduceLT, Nat.reduceEqDiff, ↓reduceIte])) (by go_simp; first | done | (with_reducible rfl) | (with_reducible exact ⟨rfl, rfl⟩) | (with_reducible exact ⟨⟨rfl, rfl⟩, rfl⟩)) ?_
  refine Fr.l_val rfl (Fr.w_none rfl) (by go_simp; first | done | (with_reducible rfl) | (with_reducible exact ⟨rfl, rfl⟩) | (with_reducible exact ⟨⟨rfl, rfl⟩, rfl⟩)) ?_
  refine Fr.l_mv rfl rfl (Fr.w_none rfl) (by simp only [Fr.ev_tmp, Fr.ev_const, Fr.up_get, Nat.reduceLT, Nat.reduceEqDiff, ↓reduceIte, f5, f22, f35, f36, f38, f39]; try rfl) ?_
  refine Fr.l_mv rfl rfl (Fr.w_yes rfl d8 (by decide) (by simp only [Fr.ev_tmp, Fr.ev_const, Fr.up_get, Nat.reduceLT, Nat.reduceEqDiff, ↓reduceIte])) (by simp only [Fr.ev_tmp, Fr.ev_const, Fr.up_get, Nat.reduceLT, Nat.reduceEqDiff, ↓reduceIte, f5, f22, f35, f36, f38, f39]; try rfl) ?_
  refine Fr.l_val rfl (Fr.w_yes rfl d8 (by decide) (by simp only [Fr.ev_tmp, Fr.ev_const, Fr.up_get, Nat.reduceLT, Nat.reduceEqDiff, ↓reduceIte])) (by go_simp; first | done | (with_reducible rfl) | (with_reducible exact ⟨rfl, rfl⟩) | (with_reducible exact ⟨⟨rfl, rfl⟩, rfl⟩)) ?_
  refine Fr.l_val rfl (Fr.w_none rfl) (by go_simp; first | done | (with_reducible rfl) | (with_reducible exact ⟨rfl, rfl⟩) | (with_reducible exact ⟨⟨rfl, rfl⟩, rfl⟩)) ?_
  refine Fr.l_mv rfl rfl (Fr.w_none rfl) (by simp only [Fr.ev_tmp, Fr.ev_const, Fr.up_get, Nat.reduceLT, Nat.reduceEqDiff, ↓reduceIte, f5, f22, f35, f36, f38, f39]; try rfl) ?_
  refine Fr.l_mv rfl rfl (Fr.w_yes rfl d12 (by decide) (by simp only [Fr.ev_tmp, Fr.ev_const, Fr.up_get, Nat.reduceLT, Nat.reduceEqDiff, ↓reduceIte])) (by simp only [Fr.ev_tmp, Fr.ev_const, Fr.up_get, Nat.reduceLT, Nat.reduceEqDiff, ↓reduceIte, f5, f22, f35, f36, f38, f39]; try rfl) ?_
  refine Fr.l_val rfl (Fr.w_yes rfl d12 (by decide) (by simp only [Fr.ev_tmp, Fr.ev_const, Fr.up_get, Nat.reduceLT, Nat.reduceEqDiff, ↓reduceIte])) (by go_simp; first | done | (with_reducible rfl) | (with_reducible exact ⟨rfl, rfl⟩) | (with_reducible exact ⟨⟨rfl, rfl⟩, rfl⟩)) ?_
  refine Fr.l_mv rfl rfl (Fr.w_yes rfl d12 (by decide) (by simp only [Fr.ev_tmp, Fr.ev_const, Fr.up_get, Nat.reduceLT, Nat.reduceEqDiff, ↓reduceIte])) (by simp only [Fr.ev_tmp, Fr.ev_const, Fr.up_get, Nat.reduceLT, Nat.reduceEqDiff, ↓reduceIte, f5, f22, f35, f36, f38, f39]; try rfl) ?_
  refine Fr.l_val rfl (Fr.w_yes rfl d12 (by decide) (by simp only [Fr.ev_tmp, Fr.ev_const, Fr.up_get, Nat.reduceLT, Nat.reduceEqDiff, ↓reduceIte])) (by go_simp; first | done | (with_reducible rfl) | (with_reducible exact ⟨rfl, rfl⟩) | (with_reducible exact ⟨⟨rfl, rfl⟩, rfl⟩)) ?_
  refine Fr.l_val rfl (Fr.w_yes rfl d12 (by decide) (by simp only [Fr.ev_tmp, Fr.ev_const, Fr.up_get, Nat.reduceLT, Nat.reduceEqDiff, ↓reduceIte])) (by go_simp; first | done | (with_reducible rfl) | (with_reducible exact ⟨rfl, rfl⟩) | (with_reducible exact ⟨⟨rfl, rfl⟩, rfl⟩)) ?_
  refine Fr.l_val rfl (Fr.w_none rfl) (by go_simp; first | done | (with_reducible rfl) | (with_reducible exact ⟨rfl, rfl⟩) | (with_reducible exact ⟨⟨rfl, rfl⟩, rfl⟩)) ?_
  refine Fr.l_nil ?_
  refine Fr.l_cond (t := false) (by simp only [Fr.ev_tmp, Fr.ev_const, Fr.up_get, Nat.reduceLT, Nat.reduceEqDiff, ↓reduceIte]; try rfl) (fun h => absurd h (by decide)) (fun _ => ?_)
  refine wp_skip ?_
  refine HK.out _ _ (below_drewN (Below.refl _ _) _) ?_
  repeat (refine Fr.Agree.up (by decide) ?_)
  exact Fr.Agree.refl _ _

end Go.Proofs.Ytkgfepakedieaaa.yTurnsOn

