/- The great law's walk, an element: the loop along the pairs, with their turns. (written by wip/gen/turnson3.py.) -/
import Derived.Test.YtkgfepakedieaaaTurnA
import Derived.Test.YtkgfepakedieaaaCtSf
import Derived.Test.YtkgfepakedieaaaTga
import Derived.Test.YtkgfepakedieaaaCtR
import Derived.Test.YtkgfepakedieaaaCtZb
import Derived.Test.YtkgfepakedieaaaCtAb
import Derived.Test.YtkgfepakedieaaaCtTd
namespace Go.Proofs.Ytkgfepakedieaaa.yTurnsOn
open Go.RowKit
set_option linter.unusedVariables false
set_option linter.unusedSimpArgs false
noncomputable def C6 : Code := Fr.sn (Fr.sn (Fr.sn (Fr.sn (Fr.bb (Fr.fs (Fr.sn (Fr.lp (Fr.bb (Fr.sn (Fr.fs (Fr.sn (Fr.sn (Fr.sn (Fr.sn (Fr.sn (Fr.sn (Fr.sn (Fr.sn (Fr.sn (Fr.sn (Fr.sn (Fr.sn (Fr.sn (Fr.sn (Fr.sn (Fr.sn (Fr.sn (Fr.sn (Fr.sn (Fr.sn (Fr.sn (Fr.sn (Fr.sn (Fr.sn (Fr.sn (Fr.sn (B7)))))))))))))))))))))))))))))))))))))

set_option maxRecDepth 100000 in
set_option maxHeartbeats 16000000 in
theorem e54 {ps : List T3} {gT kT i a b n : Nat} {w : World} {Q : Exit → Act → World → Prop} {f : Nat → Value}
    (f5 : f 5 = .slice (some ⟨gT, 0, none⟩) ps.length kT) (f40 : f 40 = .int .i64 (i : Int)) (f45 : f 45 = .int .i64 (n : Int)) (hi : i < ps.length) (hn1 : 1 ≤ n) (hn : n ≤ 200) (ha : 1 ≤ a) (ha1 : a ≤ 200) (hb1 : 1 ≤ b) (hb2 : b ≤ 200)
    (ca : w.cell? ⟨gT, i * 3, none⟩ = some (.int .i16 (a : Int))) (cb : w.cell? ⟨gT, i * 3 + 1, none⟩ = some (.int .i16 (b : Int)))
    (hno : ∀ k, 1 ≤ k → k < n → (k * a) % b ≠ 0)
    (k : ∀ (w' : World) (g : Nat → Value), BelowC w w' → Fr.Kp 0 47 f g → Q .normal ⟨Fr.ft 557 g, []⟩ w') :
    Code.wp Try.prog C6 Q ⟨Fr.ft 557 f, []⟩ w := by
  have HK := Lib.hid k
  have HN := Lib.hid hno
  clear k hno
  have qa := BelowC.cell ca (World.block_lt_of_cell? w _ ca)
  have qb := BelowC.cell cb (World.block_lt_of_cell? w _ cb)
  have hi0 : (i : Int) < (ps.length : Int) := by omega
  have hwa : IntKind.i64.wrap (a : Int) = (a : Int) := by rw [IntKind.wrap_i64]; omega
  have hwb : IntKind.i64.wrap (b : Int) = (b : Int) := by rw [IntKind.wrap_i64]; omega
  have hb0 : ¬ (b : Int) = 0 := by omega
  have hb00 : ¬ b = 0 := by omega
  clear ca cb
  conv => arg 2; whnf
  have E1 := @Fr.ev_tmp 557
  have E2 := @Fr.ev_const 557
  have E3 := @Fr.up_get
  have E4 := @Fr.ev_func 557
  have E5 := @Fr.ev_global 557
  refine wp_seq ?_
  refine wp_region_lit ?_
  refine Fr.l_as rfl rfl (Fr.w_none rfl) (by simp only [Fr.ev_tmp, Fr.ev_const, Fr.up_get, Nat.reduceLT, Nat.reduceEqDiff, ↓reduceIte]; try rfl) ?_
  refine Fr.l_nil ?_
  refine wp_block ?_
  refine Fr.l_loop (fun g w' => ∃ k : Nat, 1 ≤ k ∧ k ≤ n ∧ g 47 = .int .i64 (k : Int) ∧ Fr.Kp 0 47 f g ∧ BelowC w w') 47 (by decide) (fun v => (n - (intOf v).toNat)) ?_ ?_
  · exact ⟨1, by omega, by omega, (by simp only [Fr.up_get, ↓reduceIte]; rfl), (by (repeat (refine Fr.Kp.up (by decide) ?_)); exact Fr.Kp.refl _ _ _), Below.refl _ _⟩
  rintro g wr ⟨k, hk1, hk, h47, hK, hb⟩
  have h5 := (hK 5 (by decide) (by decide)).trans f5
  have h40 := (hK 40 (by decide) (by decide)).trans f40
  have h45 := (hK 45 (by decide) (by decide)).trans f45
  refine wp_seq ?_
  refine wp_seq ?_
  by_cases hlt : k < n
  · have hlt' : (k : Int) < (n : Int) := by omega
    have hwi : IntKind.i64.wrap ((k : Int) + 1) = (k : Int) + 1 := by rw [IntKind.wrap_i64]; omega
    have hka : k * a ≤ 200 * 200 := Nat.mul_le_mul (by omega) ha1
    have hkm : IntKind.i64.wrap ((k : Int) * (a : Int)) = (k : Int) * (a : Int) := by
      have e : (k : Int) * (a : Int) = ((k * a : Nat) : Int) := by simp
      rw [e, IntKind.wrap_i64]; omega
    have hm := HN.out k hk1 hlt
    have hr : Int.tmod ((k : Int) * (a : Int)) (b : Int) = ((k * a % b : Nat) : Int) := by
      rw [show (k : Int) * (a : Int) = ((k * a : Nat) : Int) by simp]
      rfl
    have hr2 : IntKind.i64.wrap (((k * a % b : Nat) : Int)) = ((k * a % b : Nat) : Int) := by
      have := Nat.mod_lt (k * a) (show 0 < b by omega)
      rw [IntKind.wrap_i64]; omega
    have hr3 : ¬ ((k * a % b : Nat) : Int) = 0 := by omega
    obtain ⟨z, hz⟩ : ∃ z : Int, z = ((k * a % b : Nat) : Int) := ⟨_, rfl⟩
    rw [← hz] at hr hr2 hr3
    have hr4 : (z == 0) = false := by simpa using hr3
    clear hm hz
    refine wp_region_lit ?_
    refine Fr.l_mv rfl rfl (Fr.w_none rfl) (by simp only [Fr.ev_tmp, Fr.ev_const, Fr.up_get, Nat.reduceLT, Nat.reduceEqDiff, ↓reduceIte, h5, h40, h45, h47]; try rfl) ?_
    refine Fr.l_mv rfl rfl (Fr.w_none rfl) (by simp only [Fr.ev_tmp, Fr.ev_const, Fr.up_get, Nat.reduceLT, Nat.reduceEqDiff, ↓reduceIte, h5, h40, h45, h47]; try rfl) ?_
    refine Fr.l_val rfl (Fr.w_none rfl) (by go_simp; first | done | (with_reducible rfl) | (with_reducible exact ⟨rfl, rfl⟩) | (with_reducible exact ⟨⟨rfl, rfl⟩, rfl⟩)) ?_
    refine Fr.l_nil ?_
    refine Fr.l_cond (t := true) (by simp only [Fr.ev_tmp, Fr.ev_const, Fr.up_get, Nat.reduceLT, Nat.reduceEqDiff, ↓reduceIte]; try rfl) (fun _ => ?_) (fun h => absurd h (by decide))
    refine wp_skip ?_
    refine wp_seq ?_
    refine wp_block ?_
    refine wp_seq ?_
    refine Loose.wp_regionF (BelowC w) (Loose.Tab []) (by kernel_rfl) (by kernel_rfl) (Fr.belowC_drew hb) ?_
    refine Loose.wpL_ops ?_
    intro OPS hO
    clear hO
    refine Fr.d_mv rfl rfl (Fr.w_none rfl) (by simp only [Fr.ev_tmp, Fr.ev_const, Fr.up_get, Nat.reduceLT, Nat.reduceEqDiff, ↓reduceIte, h5, h40, h45, h47]; try rfl) ?_
    refine Fr.d_mv rfl rfl (Fr.w_none rfl) (by simp only [Fr.ev_tmp, Fr.ev_const, Fr.up_get, Nat.reduceLT, Nat.reduceEqDiff, ↓reduceIte, h5, h40, h45, h47]; try rfl) ?_
    refine Fr.d_mv rfl rfl (Fr.w_none rfl) (by simp only [Fr.ev_tmp, Fr.ev_const, Fr.up_get, Nat.reduceLT, Nat.reduceEqDiff, ↓reduceIte, h5, h40, h45, h47]; try rfl) ?_
    refine Fr.d_det rfl (Fr.w_none rfl) (by intro wq hwq; go_simp; first | done | (with_reducible rfl) | (with_reducible exact ⟨rfl, rfl⟩)) ?_
    refine Fr.d_det rfl (Fr.w_none rfl) (by intro wq hwq; go_simp; first | done | (with_reducible rfl) | (with_reducible exact ⟨rfl, rfl⟩)) ?_
    refine Fr.d_det rfl (Fr.w_none rfl) (by intro wq hwq; go_simp; first | done | (with_reducible rfl) | (with_reducible exact ⟨rfl, rfl⟩)) ?_
    refine Fr.d_det rfl (Fr.w_none rfl) (by intro wq hwq; go_simp; first | done | (with_reducible rfl) | (with_reducible exact ⟨rfl, rfl⟩)) ?_
    refine Fr.d_det rfl (Fr.w_none rfl) (by intro wq hwq; go_simp; first | done | (with_reducible rfl) | (with_reducible exact ⟨rfl, rfl⟩)) ?_
    refine Fr.d_mv rfl rfl (Fr.w_none rfl) (by simp only [Fr.ev_tmp, Fr.ev_const, Fr.up_get, Nat.reduceLT, Nat.reduceEqDiff, ↓reduceIte, h5, h40, h45, h47]; try rfl) ?_
    refine Fr.d_mv rfl rfl (Fr.w_none rfl) (by simp only [Fr.ev_tmp, Fr.ev_const, Fr.up_get, Nat.reduceLT, Nat.reduceEqDiff, ↓reduceIte, h5, h40, h45, h47]; try rfl) ?_
    refine Fr.d_det rfl (Fr.w_none rfl) (by intro wq hwq; go_simp; first | done | (with_reducible rfl) | (with_reducible exact ⟨rfl, rfl⟩)) ?_
    refine Fr.d_det rfl (Fr.w_none rfl) (by intro wq hwq; go_simp; first | done | (with_reducible rfl) | (with_reducible exact ⟨rfl, rfl⟩)) ?_
    refine Fr.d_det rfl (Fr.w_none rfl) (by intro wq hwq; go_simp; first | done | (with_reducible rfl) | (with_reducible exact ⟨rfl, rfl⟩)) ?_
    refine Fr.d_det rfl (Fr.w_none rfl) (by intro wq hwq; go_simp; first | done | (with_reducible rfl) | (with_reducible exact ⟨rfl, rfl⟩)) ?_
    refine Fr.d_det rfl (Fr.w_none rfl) (by intro wq hwq; go_simp; first | done | (with_reducible rfl) | (with_reducible exact ⟨rfl, rfl⟩)) ?_
    refine Fr.d_det rfl (Fr.w_none rfl) (by intro wq hwq; go_simp; first | done | (with_reducible rfl) | (with_reducible exact ⟨rfl, rfl⟩)) ?_
    refine Loose.done ?_
    intro w' hw'
    refine Fr.l_cond (t := false) (by simp only [Fr.ev_tmp, Fr.ev_const, Fr.up_get, Nat.reduceLT, Nat.reduceEqDiff, ↓reduceIte]; try rfl) (fun h => absurd h (by decide)) (fun _ => ?_)
    refine wp_skip ?_
    refine wp_region_lit ?_
    refine Fr.l_mv rfl rfl (Fr.w_none rfl) (by simp only [Fr.ev_tmp, Fr.ev_const, Fr.up_get, Nat.reduceLT, Nat.reduceEqDiff, ↓reduceIte, h5, h40, h45, h47]; try rfl) ?_
    refine Fr.l_val rfl (Fr.w_none rfl) (by go_simp; first | done | (with_reducible rfl) | (with_reducible exact ⟨rfl, rfl⟩) | (with_reducible exact ⟨⟨rfl, rfl⟩, rfl⟩)) ?_
    refine Fr.l_as rfl rfl (Fr.w_none rfl) (by simp only [Fr.ev_tmp, Fr.ev_const, Fr.up_get, Nat.reduceLT, Nat.reduceEqDiff, ↓reduceIte, h5, h40, h45, h47]; try rfl) ?_
    refine Fr.l_nil ?_
    refine Fr.then_ok ⟨_, rfl, ⟨k + 1, by omega, by omega, (by simp only [Fr.up_get, ↓reduceIte]; rfl), (by (repeat (refine Fr.Kp.up (by decide) ?_)); exact hK), hw'⟩, ?_⟩
    simp only [Fr.up_get, ↓reduceIte, h47, intOf]
    omega
  · obtain rfl : k = n := by omega
    refine wp_region_lit ?_
    refine Fr.l_mv rfl rfl (Fr.w_none rfl) (by simp only [Fr.ev_tmp, Fr.ev_const, Fr.up_get, Nat.reduceLT, Nat.reduceEqDiff, ↓reduceIte, h5, h40, h45, h47]; try rfl) ?_
    refine Fr.l_mv rfl rfl (Fr.w_none rfl) (by simp only [Fr.ev_tmp, Fr.ev_const, Fr.up_get, Nat.reduceLT, Nat.reduceEqDiff, ↓reduceIte, h5, h40, h45, h47]; try rfl) ?_
    refine Fr.l_val rfl (Fr.w_none rfl) (by go_simp; first | done | (with_reducible rfl) | (with_reducible exact ⟨rfl, rfl⟩) | (with_reducible exact ⟨⟨rfl, rfl⟩, rfl⟩)) ?_
    refine Fr.l_nil ?_
    refine Fr.l_cond (t := false) (by simp only [Fr.ev_tmp, Fr.ev_const, Fr.up_get, Nat.reduceLT, Nat.reduceEqDiff, ↓reduceIte]; try rfl) (fun h => absurd h (by decide)) (fun _ => ?_)
    refine wp_exit ?_
    refine Fr.then_exit (Fr.then_exit ?_)
    refine Fr.inb_exit ?_
    exact HK.out _ _ hb (by (repeat (refine Fr.Kp.up (by decide) ?_)); exact hK)

end Go.Proofs.Ytkgfepakedieaaa.yTurnsOn

/-! The great law's walk, an element: the loop along the pairs, with their turns, the outer one. (written by wip/gen/turnson3.py.) -/
namespace Go.Proofs.Ytkgfepakedieaaa.yTurnsOn
open Go.RowKit
set_option linter.unusedVariables false
set_option linter.unusedSimpArgs false

set_option maxRecDepth 100000 in
set_option maxHeartbeats 16000000 in
theorem e26 {ps : List T3} {gT kT gD kD md : Nat} {w : World} {Q : Exit → Act → World → Prop} {R : Code} {f : Nat → Value}
    (f5 : f 5 = .slice (some ⟨gT, 0, none⟩) ps.length kT) (f37 : f 37 = .float .f32 md) (f38 : f 38 = .slice (some ⟨gD, 0, none⟩) ps.length kD)
    (hTr : Tr w (.slice (some ⟨gT, 0, none⟩) ps.length kT) ps) (hM : moduleB md = true) (hB : trainB ps = true) (hlen : ps.length ≤ 4)
    (hT : ∀ i (hi : i < ps.length), ∃ a b n d : Nat, 6 ≤ a ∧ a ≤ 200 ∧ 6 ≤ b ∧ b ≤ 200 ∧ meetC ps (i : Int) = (n : Int) ∧ 1 ≤ n ∧ n ≤ b ∧ (n * a) % b = 0 ∧ (∀ k, 1 ≤ k → k < n → (k * a) % b ≠ 0) ∧
      w.cell? ⟨gT, i * 3, none⟩ = some (.int .i16 (a : Int)) ∧ w.cell? ⟨gT, i * 3 + 1, none⟩ = some (.int .i16 (b : Int)) ∧ w.cell? ⟨gD, i, none⟩ = some (.float .f32 d) ∧ cn d = cop .add (radC (a : Int) md) (radC (b : Int) md) ∧ F (radC (a : Int) md))
    (k : ∀ (w' : World) (g : Nat → Value), BelowC w w' → Fr.Kp 0 26 f g → Code.wp Try.prog R Q ⟨Fr.ft 557 g, []⟩ w') :
    Code.wp Try.prog ((Fr.fs (Fr.sn (Fr.sn (Fr.sn (Fr.sn (Fr.sn (Fr.sn (Fr.sn (Fr.sn (Fr.sn (Fr.sn (Fr.sn (Fr.sn (Fr.sn (Fr.sn (Fr.sn (Fr.sn (Fr.sn (Fr.sn (Fr.sn (Fr.sn (Fr.sn (Fr.sn (Fr.sn (Fr.sn (Fr.sn (Fr.sn (B7)))))))))))))))))))))))))))).seq R) Q ⟨Fr.ft 557 f, []⟩ w := by
  have HK := Lib.hid k
  have HT := Lib.hid hT
  have HTr := Lib.hid hTr
  have HM := Lib.hid hM
  have HB := Lib.hid hB
  clear k hT hTr hM hB
  have hdn := @BelowC.drewN w
  conv => arg 2; arg 1; whnf
  have E1 := @Fr.ev_tmp 557
  have E2 := @Fr.ev_const 557
  have E3 := @Fr.up_get
  have E4 := @Fr.ev_func 557
  have E5 := @Fr.ev_global 557
  refine wp_seq ?_
  refine wp_seq ?_
  refine wp_region_lit ?_
  refine Fr.l_as rfl rfl (Fr.w_none rfl) (by simp only [Fr.ev_tmp, Fr.ev_const, Fr.up_get, Nat.reduceLT, Nat.reduceEqDiff, ↓reduceIte]; try rfl) ?_
  refine Fr.l_nil ?_
  refine wp_block ?_
  refine Fr.l_loop (fun g w' => ∃ i : Nat, i ≤ ps.length ∧ g 40 = .int .i64 (i : Int) ∧ Fr.Kp 0 40 f g ∧ BelowC w w') 40 (by decide) (fun v => (ps.length - (intOf v).toNat)) ?_ ?_
  · exact ⟨0, by omega, (by simp only [Fr.up_get, ↓reduceIte]; rfl), (by (repeat (refine Fr.Kp.up (by decide) ?_)); exact Fr.Kp.refl _ _ _), Below.refl _ _⟩
  rintro g wr ⟨i, hi, h40, hK, hb⟩
  have h5 := (hK 5 (by decide) (by decide)).trans f5
  have h37 := (hK 37 (by decide) (by decide)).trans f37
  have h38 := (hK 38 (by decide) (by decide)).trans f38
  refine wp_seq ?_
  refine wp_seq ?_
  by_cases hlt : i < ps.length
  · have hlt' : (i : Int) < (ps.length : Int) := by omega
    have hwi : IntKind.i64.wrap ((i : Int) + 1) = (i : Int) + 1 := by rw [IntKind.wrap_i64]; omega
    obtain ⟨a, b, n, d, ha1, ha2, hb1, hb2, hme, hn1, hn2, hnm, hno, ca, cb, cd, hd, hFa⟩ := HT.out i hlt
    have qa := BelowC.cell ca (World.block_lt_of_cell? w _ ca)
    have qb := BelowC.cell cb (World.block_lt_of_cell? w _ cb)
    have qd := BelowC.cell cd (World.block_lt_of_cell? w _ cd)
    have qa1 := qa _ hb
    have hwa : IntKind.i64.wrap (a : Int) = (a : Int) := by rw [IntKind.wrap_i64]; omega
    have hwb : IntKind.i64.wrap (b : Int) = (b : Int) := by rw [IntKind.wrap_i64]; omega
    have hna : n * a ≤ 200 * 200 := Nat.mul_le_mul (by omega) ha2
    have hkm : IntKind.i64.wrap ((n : Int) * (a : Int)) = (n : Int) * (a : Int) := by
      have e : (n : Int) * (a : Int) = ((n * a : Nat) : Int) := by simp
      rw [e, IntKind.wrap_i64]; omega
    have hr : Int.tmod ((n : Int) * (a : Int)) (b : Int) = 0 := by
      rw [show (n : Int) * (a : Int) = ((n * a : Nat) : Int) by simp]
      show ((n * a % b : Nat) : Int) = 0
      rw [hnm]
      rfl
    have hw0 : IntKind.i64.wrap 0 = 0 := by decide
    have hb0 : ¬ (b : Int) = 0 := by omega
    have hb00 : ¬ b = 0 := by omega
    have hn0 : ¬ (n : Int) < 1 := by omega
    have hKa : radK (a : Int) md = 0 := by simp [radK, radB, withinB, HM.out]; omega
    have hKb : radK (b : Int) md = 0 := by simp [radK, radB, withinB, HM.out]; omega
    have hVa : radV (a : Int) md = radC (a : Int) md := if_pos (by simp [radB, withinB, HM.out]; omega)
    have hVb : radV (b : Int) md = radC (b : Int) md := if_pos (by simp [radB, withinB, HM.out]; omega)
    have hpk : pairK ps (i : Int) = 0 := by simp [pairK, withinB, HB.out]; omega
    have hfe : feq .f32 (radC (a : Int) md) (radC (a : Int) md) = true := by rw [eqF hFa hFa]; exact decide_eq_true rfl
    have HFa := Lib.hid hFa
    have HD := Lib.hid hd
    have HKa := Lib.hid hKa
    have HKb := Lib.hid hKb
    have HVa := Lib.hid hVa
    have HVb := Lib.hid hVb
    have HPK := Lib.hid hpk
    have HME := Lib.hid hme
    have HNO := Lib.hid hno
    clear hFa hd hKa hKb hVa hVb hpk hme hno hnm ca cb cd
    refine wp_region_lit ?_
    refine Fr.l_mv rfl rfl (Fr.w_none rfl) (by simp only [Fr.ev_tmp, Fr.ev_const, Fr.up_get, Nat.reduceLT, Nat.reduceEqDiff, ↓reduceIte, h5, h37, h38, h40]; try rfl) ?_
    refine Fr.l_mv rfl rfl (Fr.w_none rfl) (by simp only [Fr.ev_tmp, Fr.ev_const, Fr.up_get, Nat.reduceLT, Nat.reduceEqDiff, ↓reduceIte, h5, h37, h38, h40]; try rfl) ?_
    refine Fr.l_val rfl (Fr.w_none rfl) (by go_simp; first | done | (with_reducible rfl) | (with_reducible exact ⟨rfl, rfl⟩) | (with_reducible exact ⟨⟨rfl, rfl⟩, rfl⟩)) ?_
    refine Fr.l_val rfl (Fr.w_none rfl) (by go_simp; first | done | (with_reducible rfl) | (with_reducible exact ⟨rfl, rfl⟩) | (with_reducible exact ⟨⟨rfl, rfl⟩, rfl⟩)) ?_
    refine Fr.l_nil ?_
    refine Fr.l_cond (t := true) (by simp only [Fr.ev_tmp, Fr.ev_const, Fr.up_get, Nat.reduceLT, Nat.reduceEqDiff, ↓reduceIte]; try rfl) (fun _ => ?_) (fun h => absurd h (by decide))
    refine wp_skip ?_
    refine wp_seq ?_
    refine wp_block ?_
    refine wp_seq ?_
    refine wp_region_lit ?_
    refine Fr.l_mv rfl rfl (Fr.w_none rfl) (by simp only [Fr.ev_tmp, Fr.ev_const, Fr.up_get, Nat.reduceLT, Nat.reduceEqDiff, ↓reduceIte, h5, h37, h38, h40]; try rfl) ?_
    refine Fr.l_mv rfl rfl (Fr.w_none rfl) (by simp only [Fr.ev_tmp, Fr.ev_const, Fr.up_get, Nat.reduceLT, Nat.reduceEqDiff, ↓reduceIte, h5, h37, h38, h40]; try rfl) ?_
    refine Fr.l_val rfl (Fr.w_none rfl) (by go_simp; first | done | (with_reducible rfl) | (with_reducible exact ⟨rfl, rfl⟩) | (with_reducible exact ⟨⟨rfl, rfl⟩, rfl⟩)) ?_
    refine Fr.l_val rfl (Fr.w_none rfl) (by go_simp; first | done | (with_reducible rfl) | (with_reducible exact ⟨rfl, rfl⟩) | (with_reducible exact ⟨⟨rfl, rfl⟩, rfl⟩)) ?_
    refine Fr.l_val rfl (Fr.w_none rfl) (by go_simp; first | done | (with_reducible rfl) | (with_reducible exact ⟨rfl, rfl⟩) | (with_reducible exact ⟨⟨rfl, rfl⟩, rfl⟩)) ?_
    refine Fr.l_val rfl (Fr.w_none rfl) (by go_simp; first | done | (with_reducible rfl) | (with_reducible exact ⟨rfl, rfl⟩) | (with_reducible exact ⟨⟨rfl, rfl⟩, rfl⟩)) ?_
    refine Fr.l_mv rfl rfl (Fr.w_none rfl) (by simp only [Fr.ev_tmp, Fr.ev_const, Fr.up_get, Nat.reduceLT, Nat.reduceEqDiff, ↓reduceIte, h5, h37, h38, h40]; try rfl) ?_
    (refine Fr.l_call rfl (Fr.w_none rfl) (by go_simp; first | done | (with_reducible rfl) | (with_reducible exact ⟨rfl, rfl⟩) | (with_reducible exact ⟨⟨rfl, rfl⟩, rfl⟩)) ?_; refine (implRadiusOf_any _ _ _).mono ?_; rintro e wa ⟨ra, ka, rfl, ha, hla, rfl⟩; refine ⟨_, rfl, ?_⟩)
    rw [HKa.out]
    have Ha := Lib.hid (ha.trans HVa.out)
    clear ha
    obtain rfl : ra = radC (a : Int) md := F_of_cn Ha.out HFa.out
    refine Fr.l_mv rfl rfl (Fr.w_none rfl) (by simp only [Fr.ev_tmp, Fr.ev_const, Fr.up_get, Nat.reduceLT, Nat.reduceEqDiff, ↓reduceIte, h5, h37, h38, h40]; try rfl) ?_
    refine Fr.l_val rfl (Fr.w_none rfl) (by go_simp; first | done | (with_reducible rfl) | (with_reducible exact ⟨rfl, rfl⟩) | (with_reducible exact ⟨⟨rfl, rfl⟩, rfl⟩)) ?_
    refine Fr.l_val rfl (Fr.w_none rfl) (by go_simp; first | done | (with_reducible rfl) | (with_reducible exact ⟨rfl, rfl⟩) | (with_reducible exact ⟨⟨rfl, rfl⟩, rfl⟩)) ?_
    refine Fr.l_as rfl rfl (Fr.w_none rfl) (by simp only [Fr.ev_tmp, Fr.ev_const, Fr.up_get, Nat.reduceLT, Nat.reduceEqDiff, ↓reduceIte, h5, h37, h38, h40]; try rfl) ?_
    refine Fr.l_as rfl rfl (Fr.w_none rfl) (by simp only [Fr.ev_tmp, Fr.ev_const, Fr.up_get, Nat.reduceLT, Nat.reduceEqDiff, ↓reduceIte, h5, h37, h38, h40]; try rfl) ?_
    refine Fr.l_nil ?_
    have hv2 : BelowC w (wr.drewN ka) := BelowC.drewN _ _ hb
    have qb1 := qb _ hv2
    refine wp_seq ?_
    refine wp_region_lit ?_
    refine Fr.l_mv rfl rfl (Fr.w_none rfl) (by simp only [Fr.ev_tmp, Fr.ev_const, Fr.up_get, Nat.reduceLT, Nat.reduceEqDiff, ↓reduceIte, h5, h37, h38, h40]; try rfl) ?_
    refine Fr.l_mv rfl rfl (Fr.w_none rfl) (by simp only [Fr.ev_tmp, Fr.ev_const, Fr.up_get, Nat.reduceLT, Nat.reduceEqDiff, ↓reduceIte, h5, h37, h38, h40]; try rfl) ?_
    refine Fr.l_val rfl (Fr.w_none rfl) (by go_simp; first | done | (with_reducible rfl) | (with_reducible exact ⟨rfl, rfl⟩) | (with_reducible exact ⟨⟨rfl, rfl⟩, rfl⟩)) ?_
    refine Fr.l_val rfl (Fr.w_none rfl) (by go_simp; first | done | (with_reducible rfl) | (with_reducible exact ⟨rfl, rfl⟩) | (with_reducible exact ⟨⟨rfl, rfl⟩, rfl⟩)) ?_
    refine Fr.l_val rfl (Fr.w_none rfl) (by go_simp; first | done | (with_reducible rfl) | (with_reducible exact ⟨rfl, rfl⟩) | (with_reducible exact ⟨⟨rfl, rfl⟩, rfl⟩)) ?_
    refine Fr.l_val rfl (Fr.w_none rfl) (by go_simp; first | done | (with_reducible rfl) | (with_reducible exact ⟨rfl, rfl⟩) | (with_reducible exact ⟨⟨rfl, rfl⟩, rfl⟩)) ?_
    refine Fr.l_mv rfl rfl (Fr.w_none rfl) (by simp only [Fr.ev_tmp, Fr.ev_const, Fr.up_get, Nat.reduceLT, Nat.reduceEqDiff, ↓reduceIte, h5, h37, h38, h40]; try rfl) ?_
    (refine Fr.l_call rfl (Fr.w_none rfl) (by go_simp; first | done | (with_reducible rfl) | (with_reducible exact ⟨rfl, rfl⟩) | (with_reducible exact ⟨⟨rfl, rfl⟩, rfl⟩)) ?_; refine (implRadiusOf_any _ _ _).mono ?_; rintro e wb ⟨rb, kb, rfl, hb, hlb, rfl⟩; refine ⟨_, rfl, ?_⟩)
    rw [HKb.out]
    have Hb := Lib.hid (hb.trans HVb.out)
    clear hb
    refine Fr.l_mv rfl rfl (Fr.w_none rfl) (by simp only [Fr.ev_tmp, Fr.ev_const, Fr.up_get, Nat.reduceLT, Nat.reduceEqDiff, ↓reduceIte, h5, h37, h38, h40]; try rfl) ?_
    refine Fr.l_val rfl (Fr.w_none rfl) (by go_simp; first | done | (with_reducible rfl) | (with_reducible exact ⟨rfl, rfl⟩) | (with_reducible exact ⟨⟨rfl, rfl⟩, rfl⟩)) ?_
    refine Fr.l_val rfl (Fr.w_none rfl) (by go_simp; first | done | (with_reducible rfl) | (with_reducible exact ⟨rfl, rfl⟩) | (with_reducible exact ⟨⟨rfl, rfl⟩, rfl⟩)) ?_
    refine Fr.l_as rfl rfl (Fr.w_none rfl) (by simp only [Fr.ev_tmp, Fr.ev_const, Fr.up_get, Nat.reduceLT, Nat.reduceEqDiff, ↓reduceIte, h5, h37, h38, h40]; try rfl) ?_
    refine Fr.l_as rfl rfl (Fr.w_none rfl) (by simp only [Fr.ev_tmp, Fr.ev_const, Fr.up_get, Nat.reduceLT, Nat.reduceEqDiff, ↓reduceIte, h5, h37, h38, h40]; try rfl) ?_
    refine Fr.l_nil ?_
    have hv3 : BelowC w (wr.drewN (ka + kb)) := BelowC.drewN _ _ hb
    refine wp_seq ?_
    refine wp_region_lit ?_
    refine Fr.l_mv rfl rfl (Fr.w_none rfl) (by simp only [Fr.ev_tmp, Fr.ev_const, Fr.up_get, Nat.reduceLT, Nat.reduceEqDiff, ↓reduceIte, h5, h37, h38, h40]; try rfl) ?_
    refine Fr.l_mv rfl rfl (Fr.w_none rfl) (by simp only [Fr.ev_tmp, Fr.ev_const, Fr.up_get, Nat.reduceLT, Nat.reduceEqDiff, ↓reduceIte, h5, h37, h38, h40]; try rfl) ?_
    (refine Fr.l_call rfl (Fr.w_none rfl) (by go_simp; first | done | (with_reducible rfl) | (with_reducible exact ⟨rfl, rfl⟩) | (with_reducible exact ⟨⟨rfl, rfl⟩, rfl⟩)) ?_; refine (implTurnsToMeet_any ps _ _ _ (HTr.out.below hv3)).mono ?_; rintro e w4 ⟨rfl, hb4⟩; refine ⟨_, rfl, ?_⟩)
    rw [HME.out, HPK.out]
    refine Fr.l_mv rfl rfl (Fr.w_none rfl) (by simp only [Fr.ev_tmp, Fr.ev_const, Fr.up_get, Nat.reduceLT, Nat.reduceEqDiff, ↓reduceIte, h5, h37, h38, h40]; try rfl) ?_
    refine Fr.l_val rfl (Fr.w_none rfl) (by go_simp; first | done | (with_reducible rfl) | (with_reducible exact ⟨rfl, rfl⟩) | (with_reducible exact ⟨⟨rfl, rfl⟩, rfl⟩)) ?_
    refine Fr.l_val rfl (Fr.w_none rfl) (by go_simp; first | done | (with_reducible rfl) | (with_reducible exact ⟨rfl, rfl⟩) | (with_reducible exact ⟨⟨rfl, rfl⟩, rfl⟩)) ?_
    refine Fr.l_as rfl rfl (Fr.w_none rfl) (by simp only [Fr.ev_tmp, Fr.ev_const, Fr.up_get, Nat.reduceLT, Nat.reduceEqDiff, ↓reduceIte, h5, h37, h38, h40]; try rfl) ?_
    refine Fr.l_as rfl rfl (Fr.w_none rfl) (by simp only [Fr.ev_tmp, Fr.ev_const, Fr.up_get, Nat.reduceLT, Nat.reduceEqDiff, ↓reduceIte, h5, h37, h38, h40]; try rfl) ?_
    refine Fr.l_nil ?_
    have hv5 : BelowC w w4 := BelowC.call hv3 hb4
    refine wp_seq ?_
    refine wp_seq ?_
    refine Loose.wp_regionF (BelowC w) (Loose.Tab [(30, fun _ v => v = .bool true)]) (by kernel_rfl) (by kernel_rfl) (Fr.belowC_drew hv5) ?_
    refine Loose.wpL_ops ?_
    intro OPS hO
    have d2 : (OPS[2]?).bind (·.dst) = some 482 := by rw [hO]; kernel_rfl
    have d6 : (OPS[6]?).bind (·.dst) = some 486 := by rw [hO]; kernel_rfl
    have d17 : (OPS[17]?).bind (·.dst) = some 497 := by rw [hO]; kernel_rfl
    have d30 : (OPS[30]?).bind (·.dst) = some 510 := by rw [hO]; kernel_rfl
    have d34 : (OPS[34]?).bind (·.dst) = some 514 := by rw [hO]; kernel_rfl
    have d38 : (OPS[38]?).bind (·.dst) = some 518 := by rw [hO]; kernel_rfl
    clear hO
    refine Fr.d_mv rfl rfl (Fr.w_none rfl) (by simp only [Fr.ev_tmp, Fr.ev_const, Fr.up_get, Nat.reduceLT, Nat.reduceEqDiff, ↓reduceIte, h5, h37, h38, h40]; try rfl) ?_
    refine Fr.d_det rfl (Fr.w_none rfl) (by intro wq hwq; go_simp; first | done | (with_reducible rfl) | (with_reducible exact ⟨rfl, rfl⟩)) ?_
    refine Fr.d_mv rfl rfl (Fr.w_none rfl) (by simp only [Fr.ev_tmp, Fr.ev_const, Fr.up_get, Nat.reduceLT, Nat.reduceEqDiff, ↓reduceIte, h5, h37, h38, h40]; try rfl) ?_
    refine Fr.d_mv rfl rfl (Fr.w_yes rfl d2 (by decide) (by simp only [Fr.ev_tmp, Fr.ev_const, Fr.up_get, Nat.reduceLT, Nat.reduceEqDiff, ↓reduceIte])) (by simp only [Fr.ev_tmp, Fr.ev_const, Fr.up_get, Nat.reduceLT, Nat.reduceEqDiff, ↓reduceIte, h5, h37, h38, h40]; try rfl) ?_
    refine Fr.d_det rfl (Fr.w_yes rfl d2 (by decide) (by simp only [Fr.ev_tmp, Fr.ev_const, Fr.up_get, Nat.reduceLT, Nat.reduceEqDiff, ↓reduceIte])) (by intro wq hwq; go_simp; first | done | (with_reducible rfl) | (with_reducible exact ⟨rfl, rfl⟩)) ?_
    refine Fr.d_det rfl (Fr.w_none rfl) (by intro wq hwq; go_simp; first | done | (with_reducible rfl) | (with_reducible exact ⟨rfl, rfl⟩)) ?_
    refine Fr.d_mv rfl rfl (Fr.w_none rfl) (by simp only [Fr.ev_tmp, Fr.ev_const, Fr.up_get, Nat.reduceLT, Nat.reduceEqDiff, ↓reduceIte, h5, h37, h38, h40]; try rfl) ?_
    refine Fr.d_mv rfl rfl (Fr.w_yes rfl d6 (by decide) (by simp only [Fr.ev_tmp, Fr.ev_const, Fr.up_get, Nat.reduceLT, Nat.reduceEqDiff, ↓reduceIte])) (by simp only [Fr.ev_tmp, Fr.ev_const, Fr.up_get, Nat.reduceLT, Nat.reduceEqDiff, ↓reduceIte, h5, h37, h38, h40]; try rfl) ?_
    refine Fr.d_mv rfl rfl (Fr.w_yes rfl d6 (by decide) (by simp only [Fr.ev_tmp, Fr.ev_const, Fr.up_get, Nat.reduceLT, Nat.reduceEqDiff, ↓reduceIte])) (by simp only [Fr.ev_tmp, Fr.ev_const, Fr.up_get, Nat.reduceLT, Nat.reduceEqDiff, ↓reduceIte, h5, h37, h38, h40]; try rfl) ?_
    refine Fr.d_det rfl (Fr.w_yes rfl d6 (by decide) (by simp only [Fr.ev_tmp, Fr.ev_const, Fr.up_get, Nat.reduceLT, Nat.reduceEqDiff, ↓reduceIte])) (by intro wq hwq; go_simp; first | done | (with_reducible rfl) | (with_reducible exact ⟨rfl, rfl⟩)) ?_
    refine Fr.d_det rfl (Fr.w_yes rfl d6 (by decide) (by simp only [Fr.ev_tmp, Fr.ev_const, Fr.up_get, Nat.reduceLT, Nat.reduceEqDiff, ↓reduceIte])) (by intro wq hwq; go_simp; first | done | (with_reducible rfl) | (with_reducible exact ⟨rfl, rfl⟩)) ?_
    refine Fr.d_mv rfl rfl (Fr.w_yes rfl d6 (by decide) (by simp only [Fr.ev_tmp, Fr.ev_const, Fr.up_get, Nat.reduceLT, Nat.reduceEqDiff, ↓reduceIte])) (by simp only [Fr.ev_tmp, Fr.ev_const, Fr.up_get, Nat.reduceLT, Nat.reduceEqDiff, ↓reduceIte, h5, h37, h38, h40]; try rfl) ?_
    refine Fr.d_mv rfl rfl (Fr.w_yes rfl d6 (by decide) (by simp only [Fr.ev_tmp, Fr.ev_const, Fr.up_get, Nat.reduceLT, Nat.reduceEqDiff, ↓reduceIte])) (by simp only [Fr.ev_tmp, Fr.ev_const, Fr.up_get, Nat.reduceLT, Nat.reduceEqDiff, ↓reduceIte, h5, h37, h38, h40]; try rfl) ?_
    (refine Fr.d_flt (hd := hdn) rfl (Fr.w_yes rfl d6 (by decide) (by simp only [Fr.ev_tmp, Fr.ev_const, Fr.up_get, Nat.reduceLT, Nat.reduceEqDiff, ↓reduceIte])) (by intro wq hwq; go_simp; first | done | (with_reducible rfl) | (with_reducible exact ⟨rfl, rfl⟩)) ?_; intro rA hrA hlA)
    (refine Fr.d_call rfl (Fr.w_yes rfl d6 (by decide) (by simp only [Fr.ev_tmp, Fr.ev_const, Fr.up_get, Nat.reduceLT, Nat.reduceEqDiff, ↓reduceIte])) (by intro wq hwq; go_simp; first | done | (with_reducible rfl) | (with_reducible exact ⟨rfl, rfl⟩)) rfl (by intro w1 h1; refine (specSame_any _ _ _).mono ?_; rintro e w2 ⟨rfl, rfl⟩; exact ⟨_, rfl, congrArg Value.bool (teq_cn (HD.out.trans (hrA.trans (cop_congr rfl (Hb.out.trans (cn_cop _ _ _).symm))).symm)), h1⟩) ?_; rintro v rfl)
    refine Fr.d_det rfl (Fr.w_yes rfl d6 (by decide) (by simp only [Fr.ev_tmp, Fr.ev_const, Fr.up_get, Nat.reduceLT, Nat.reduceEqDiff, ↓reduceIte])) (by intro wq hwq; go_simp; first | done | (with_reducible rfl) | (with_reducible exact ⟨rfl, rfl⟩)) ?_
    refine Fr.d_det rfl (Fr.w_none rfl) (by intro wq hwq; go_simp; first | done | (with_reducible rfl) | (with_reducible exact ⟨rfl, rfl⟩)) ?_
    refine Fr.d_mv rfl rfl (Fr.w_none rfl) (by simp only [Fr.ev_tmp, Fr.ev_const, Fr.up_get, Nat.reduceLT, Nat.reduceEqDiff, ↓reduceIte, h5, h37, h38, h40]; try rfl) ?_
    refine Fr.d_mv rfl rfl (Fr.w_yes rfl d17 (by decide) (by simp only [Fr.ev_tmp, Fr.ev_const, Fr.up_get, Nat.reduceLT, Nat.reduceEqDiff, ↓reduceIte])) (by simp only [Fr.ev_tmp, Fr.ev_const, Fr.up_get, Nat.reduceLT, Nat.reduceEqDiff, ↓reduceIte, h5, h37, h38, h40]; try rfl) ?_
    refine Fr.d_mv rfl rfl (Fr.w_yes rfl d17 (by decide) (by simp only [Fr.ev_tmp, Fr.ev_const, Fr.up_get, Nat.reduceLT, Nat.reduceEqDiff, ↓reduceIte])) (by simp only [Fr.ev_tmp, Fr.ev_const, Fr.up_get, Nat.reduceLT, Nat.reduceEqDiff, ↓reduceIte, h5, h37, h38, h40]; try rfl) ?_
    refine Fr.d_mv rfl rfl (Fr.w_yes rfl d17 (by decide) (by simp only [Fr.ev_tmp, Fr.ev_const, Fr.up_get, Nat.reduceLT, Nat.reduceEqDiff, ↓reduceIte])) (by simp only [Fr.ev_tmp, Fr.ev_const, Fr.up_get, Nat.reduceLT, Nat.reduceEqDiff, ↓reduceIte, h5, h37, h38, h40]; try rfl) ?_
    refine Fr.d_det rfl (Fr.w_yes rfl d17 (by decide) (by simp only [Fr.ev_tmp, Fr.ev_const, Fr.up_get, Nat.reduceLT, Nat.reduceEqDiff, ↓reduceIte])) (by intro wq hwq; go_simp; first | done | (with_reducible rfl) | (with_reducible exact ⟨rfl, rfl⟩)) ?_
    refine Fr.d_det rfl (Fr.w_yes rfl d17 (by decide) (by simp only [Fr.ev_tmp, Fr.ev_const, Fr.up_get, Nat.reduceLT, Nat.reduceEqDiff, ↓reduceIte])) (by intro wq hwq; go_simp; first | done | (with_reducible rfl) | (with_reducible exact ⟨rfl, rfl⟩)) ?_
    refine Fr.d_det rfl (Fr.w_yes rfl d17 (by decide) (by simp only [Fr.ev_tmp, Fr.ev_const, Fr.up_get, Nat.reduceLT, Nat.reduceEqDiff, ↓reduceIte])) (by intro wq hwq; go_simp; first | done | (with_reducible rfl) | (with_reducible exact ⟨rfl, rfl⟩)) ?_
    refine Fr.d_det rfl (Fr.w_yes rfl d17 (by decide) (by simp only [Fr.ev_tmp, Fr.ev_const, Fr.up_get, Nat.reduceLT, Nat.reduceEqDiff, ↓reduceIte])) (by intro wq hwq; go_simp; first | done | (with_reducible rfl) | (with_reducible exact ⟨rfl, rfl⟩)) ?_
    refine Fr.d_mv rfl rfl (Fr.w_yes rfl d17 (by decide) (by simp only [Fr.ev_tmp, Fr.ev_const, Fr.up_get, Nat.reduceLT, Nat.reduceEqDiff, ↓reduceIte])) (by simp only [Fr.ev_tmp, Fr.ev_const, Fr.up_get, Nat.reduceLT, Nat.reduceEqDiff, ↓reduceIte, h5, h37, h38, h40]; try rfl) ?_
    (refine Fr.d_flt (hd := hdn) rfl (Fr.w_yes rfl d17 (by decide) (by simp only [Fr.ev_tmp, Fr.ev_const, Fr.up_get, Nat.reduceLT, Nat.reduceEqDiff, ↓reduceIte])) (by intro wq hwq; go_simp; first | done | (with_reducible rfl) | (with_reducible exact ⟨rfl, rfl⟩)) ?_; intro rB hrB hlB)
    (refine Fr.d_flt (hd := hdn) rfl (Fr.w_yes rfl d17 (by decide) (by simp only [Fr.ev_tmp, Fr.ev_const, Fr.up_get, Nat.reduceLT, Nat.reduceEqDiff, ↓reduceIte])) (by intro wq hwq; go_simp; first | done | (with_reducible rfl) | (with_reducible exact ⟨rfl, rfl⟩)) ?_; intro rC hrC hlC)
    obtain rfl : rC = radC (a : Int) md := F_of_cn (hrC.trans (by rw [← cop_cn_l, hrB]; rfl)) HFa.out
    refine Fr.d_det rfl (Fr.w_yes rfl d17 (by decide) (by simp only [Fr.ev_tmp, Fr.ev_const, Fr.up_get, Nat.reduceLT, Nat.reduceEqDiff, ↓reduceIte])) (by intro wq hwq; go_simp; first | done | (with_reducible rfl) | (with_reducible exact ⟨rfl, rfl⟩)) ?_
    refine Fr.d_det rfl (Fr.w_none rfl) (by intro wq hwq; go_simp; first | done | (with_reducible rfl) | (with_reducible exact ⟨rfl, rfl⟩)) ?_
    refine Fr.d_mv rfl rfl (Fr.w_none rfl) (by simp only [Fr.ev_tmp, Fr.ev_const, Fr.up_get, Nat.reduceLT, Nat.reduceEqDiff, ↓reduceIte, h5, h37, h38, h40]; try rfl) ?_
    refine Fr.d_mv rfl rfl (Fr.w_yes rfl d30 (by decide) (by simp only [Fr.ev_tmp, Fr.ev_const, Fr.up_get, Nat.reduceLT, Nat.reduceEqDiff, ↓reduceIte])) (by simp only [Fr.ev_tmp, Fr.ev_const, Fr.up_get, Nat.reduceLT, Nat.reduceEqDiff, ↓reduceIte, h5, h37, h38, h40]; try rfl) ?_
    refine Fr.d_det rfl (Fr.w_yes rfl d30 (by decide) (by simp only [Fr.ev_tmp, Fr.ev_const, Fr.up_get, Nat.reduceLT, Nat.reduceEqDiff, ↓reduceIte])) (by intro wq hwq; go_simp; first | done | (with_reducible rfl) | (with_reducible exact ⟨rfl, rfl⟩)) ?_
    refine Fr.d_det rfl (Fr.w_none rfl) (by intro wq hwq; go_simp; first | done | (with_reducible rfl) | (with_reducible exact ⟨rfl, rfl⟩)) ?_
    refine Fr.d_mv rfl rfl (Fr.w_none rfl) (by simp only [Fr.ev_tmp, Fr.ev_const, Fr.up_get, Nat.reduceLT, Nat.reduceEqDiff, ↓reduceIte, h5, h37, h38, h40]; try rfl) ?_
    refine Fr.d_mv rfl rfl (Fr.w_yes rfl d34 (by decide) (by simp only [Fr.ev_tmp, Fr.ev_const, Fr.up_get, Nat.reduceLT, Nat.reduceEqDiff, ↓reduceIte])) (by simp only [Fr.ev_tmp, Fr.ev_const, Fr.up_get, Nat.reduceLT, Nat.reduceEqDiff, ↓reduceIte, h5, h37, h38, h40]; try rfl) ?_
    refine Fr.d_det rfl (Fr.w_yes rfl d34 (by decide) (by simp only [Fr.ev_tmp, Fr.ev_const, Fr.up_get, Nat.reduceLT, Nat.reduceEqDiff, ↓reduceIte])) (by intro wq hwq; go_simp; first | done | (with_reducible rfl) | (with_reducible exact ⟨rfl, rfl⟩)) ?_
    refine Fr.d_det rfl (Fr.w_none rfl) (by intro wq hwq; go_simp; first | done | (with_reducible rfl) | (with_reducible exact ⟨rfl, rfl⟩)) ?_
    refine Fr.d_mv rfl rfl (Fr.w_none rfl) (by simp only [Fr.ev_tmp, Fr.ev_const, Fr.up_get, Nat.reduceLT, Nat.reduceEqDiff, ↓reduceIte, h5, h37, h38, h40]; try rfl) ?_
    refine Fr.d_mv rfl rfl (Fr.w_yes rfl d38 (by decide) (by simp only [Fr.ev_tmp, Fr.ev_const, Fr.up_get, Nat.reduceLT, Nat.reduceEqDiff, ↓reduceIte])) (by simp only [Fr.ev_tmp, Fr.ev_const, Fr.up_get, Nat.reduceLT, Nat.reduceEqDiff, ↓reduceIte, h5, h37, h38, h40]; try rfl) ?_
    refine Fr.d_mv rfl rfl (Fr.w_yes rfl d38 (by decide) (by simp only [Fr.ev_tmp, Fr.ev_const, Fr.up_get, Nat.reduceLT, Nat.reduceEqDiff, ↓reduceIte])) (by simp only [Fr.ev_tmp, Fr.ev_const, Fr.up_get, Nat.reduceLT, Nat.reduceEqDiff, ↓reduceIte, h5, h37, h38, h40]; try rfl) ?_
    refine Fr.d_mv rfl rfl (Fr.w_yes rfl d38 (by decide) (by simp only [Fr.ev_tmp, Fr.ev_const, Fr.up_get, Nat.reduceLT, Nat.reduceEqDiff, ↓reduceIte])) (by simp only [Fr.ev_tmp, Fr.ev_const, Fr.up_get, Nat.reduceLT, Nat.reduceEqDiff, ↓reduceIte, h5, h37, h38, h40]; try rfl) ?_
    refine Fr.d_det rfl (Fr.w_yes rfl d38 (by decide) (by simp only [Fr.ev_tmp, Fr.ev_const, Fr.up_get, Nat.reduceLT, Nat.reduceEqDiff, ↓reduceIte])) (by intro wq hwq; go_simp; first | done | (with_reducible rfl) | (with_reducible exact ⟨rfl, rfl⟩)) ?_
    refine Fr.d_det rfl (Fr.w_yes rfl d38 (by decide) (by simp only [Fr.ev_tmp, Fr.ev_const, Fr.up_get, Nat.reduceLT, Nat.reduceEqDiff, ↓reduceIte])) (by intro wq hwq; go_simp; first | done | (with_reducible rfl) | (with_reducible exact ⟨rfl, rfl⟩)) ?_
    refine Fr.d_det rfl (Fr.w_yes rfl d38 (by decide) (by simp only [Fr.ev_tmp, Fr.ev_const, Fr.up_get, Nat.reduceLT, Nat.reduceEqDiff, ↓reduceIte])) (by intro wq hwq; go_simp; first | done | (with_reducible rfl) | (with_reducible exact ⟨rfl, rfl⟩)) ?_
    refine Fr.d_det rfl (Fr.w_yes rfl d38 (by decide) (by simp only [Fr.ev_tmp, Fr.ev_const, Fr.up_get, Nat.reduceLT, Nat.reduceEqDiff, ↓reduceIte])) (by intro wq hwq; go_simp; first | done | (with_reducible rfl) | (with_reducible exact ⟨rfl, rfl⟩)) ?_
    refine Fr.d_det rfl (Fr.w_yes rfl d38 (by decide) (by simp only [Fr.ev_tmp, Fr.ev_const, Fr.up_get, Nat.reduceLT, Nat.reduceEqDiff, ↓reduceIte])) (by intro wq hwq; go_simp; first | done | (with_reducible rfl) | (with_reducible exact ⟨rfl, rfl⟩)) ?_
    refine Fr.d_mv rfl rfl (Fr.w_yes rfl d38 (by decide) (by simp only [Fr.ev_tmp, Fr.ev_const, Fr.up_get, Nat.reduceLT, Nat.reduceEqDiff, ↓reduceIte])) (by simp only [Fr.ev_tmp, Fr.ev_const, Fr.up_get, Nat.reduceLT, Nat.reduceEqDiff, ↓reduceIte, h5, h37, h38, h40]; try rfl) ?_
    refine Fr.d_mv rfl rfl (Fr.w_yes rfl d38 (by decide) (by simp only [Fr.ev_tmp, Fr.ev_const, Fr.up_get, Nat.reduceLT, Nat.reduceEqDiff, ↓reduceIte])) (by simp only [Fr.ev_tmp, Fr.ev_const, Fr.up_get, Nat.reduceLT, Nat.reduceEqDiff, ↓reduceIte, h5, h37, h38, h40]; try rfl) ?_
    refine Fr.d_det rfl (Fr.w_yes rfl d38 (by decide) (by simp only [Fr.ev_tmp, Fr.ev_const, Fr.up_get, Nat.reduceLT, Nat.reduceEqDiff, ↓reduceIte])) (by intro wq hwq; go_simp; first | done | (with_reducible rfl) | (with_reducible exact ⟨rfl, rfl⟩)) ?_
    refine Fr.d_det rfl (Fr.w_yes rfl d38 (by decide) (by simp only [Fr.ev_tmp, Fr.ev_const, Fr.up_get, Nat.reduceLT, Nat.reduceEqDiff, ↓reduceIte])) (by intro wq hwq; go_simp; first | done | (with_reducible rfl) | (with_reducible exact ⟨rfl, rfl⟩)) ?_
    refine Fr.d_det rfl (Fr.w_yes rfl d38 (by decide) (by simp only [Fr.ev_tmp, Fr.ev_const, Fr.up_get, Nat.reduceLT, Nat.reduceEqDiff, ↓reduceIte])) (by intro wq hwq; go_simp; first | done | (with_reducible rfl) | (with_reducible exact ⟨rfl, rfl⟩)) ?_
    refine Fr.d_det rfl (Fr.w_yes rfl d38 (by decide) (by simp only [Fr.ev_tmp, Fr.ev_const, Fr.up_get, Nat.reduceLT, Nat.reduceEqDiff, ↓reduceIte])) (by intro wq hwq; go_simp; first | done | (with_reducible rfl) | (with_reducible exact ⟨rfl, rfl⟩)) ?_
    refine Fr.d_det rfl (Fr.w_yes rfl d38 (by decide) (by simp only [Fr.ev_tmp, Fr.ev_const, Fr.up_get, Nat.reduceLT, Nat.reduceEqDiff, ↓reduceIte])) (by intro wq hwq; go_simp; first | done | (with_reducible rfl) | (with_reducible exact ⟨rfl, rfl⟩)) ?_
    refine Fr.d_det rfl (Fr.w_yes rfl d38 (by decide) (by simp only [Fr.ev_tmp, Fr.ev_const, Fr.up_get, Nat.reduceLT, Nat.reduceEqDiff, ↓reduceIte])) (by intro wq hwq; go_simp; first | done | (with_reducible rfl) | (with_reducible exact ⟨rfl, rfl⟩)) ?_
    refine Fr.d_det rfl (Fr.w_none rfl) (by intro wq hwq; go_simp; first | done | (with_reducible rfl) | (with_reducible exact ⟨rfl, rfl⟩)) ?_
    refine Loose.done ?_
    intro w' hw'
    refine Fr.l_cond (t := false) (by simp only [Fr.ev_tmp, Fr.ev_const, Fr.up_get, Nat.reduceLT, Nat.reduceEqDiff, ↓reduceIte]; try rfl) (fun h => absurd h (by decide)) (fun _ => ?_)
    refine wp_skip ?_
    refine Fr.wp_code (c' := C6) (by kernel_rfl) ?_
    refine e54 (ps := ps) (gT := gT) (kT := kT) (i := i) (a := a) (b := b) (n := n) ?_ ?_ ?_ hlt hn1 (by omega) (by omega) ha2 (by omega) hb2 (qa _ hw') (qb _ hw') HNO.out ?_
    · simp only [Fr.up_get, Nat.reduceEqDiff, ↓reduceIte, h5]
    · simp only [Fr.up_get, Nat.reduceEqDiff, ↓reduceIte, h40]
    · simp only [Fr.up_get, Nat.reduceEqDiff, ↓reduceIte]
    intro w6 g6 hb6 hK6
    refine Fr.inb_ok ?_
    have hk40 := (hK6 40 (by decide) (by decide)).trans (show _ = Value.int .i64 (i : Int) by simp only [Fr.up_get, Nat.reduceEqDiff, ↓reduceIte, h40])
    have hK7 : Fr.Kp 0 40 f g6 := Fr.Kp.trans (by (repeat (refine Fr.Kp.up (by decide) ?_)); exact hK) (hK6.mono (Nat.le_refl _) (by decide))
    have hb7 : BelowC w w6 := BelowC.call hw' hb6
    clear hK6
    refine wp_region_lit ?_
    refine Fr.l_mv rfl rfl (Fr.w_none rfl) (by simp only [Fr.ev_tmp, Fr.ev_const, Fr.up_get, Nat.reduceLT, Nat.reduceEqDiff, ↓reduceIte, hk40]; try rfl) ?_
    refine Fr.l_val rfl (Fr.w_none rfl) (by go_simp; first | done | (with_reducible rfl) | (with_reducible exact ⟨rfl, rfl⟩) | (with_reducible exact ⟨⟨rfl, rfl⟩, rfl⟩)) ?_
    refine Fr.l_as rfl rfl (Fr.w_none rfl) (by simp only [Fr.ev_tmp, Fr.ev_const, Fr.up_get, Nat.reduceLT, Nat.reduceEqDiff, ↓reduceIte, hk40]; try rfl) ?_
    refine Fr.l_nil ?_
    refine Fr.then_ok ⟨_, rfl, ⟨i + 1, by omega, (by simp only [Fr.up_get, ↓reduceIte]; rfl), (by (repeat (refine Fr.Kp.up (by decide) ?_)); exact hK7), hb7⟩, ?_⟩
    simp only [Fr.up_get, ↓reduceIte, h40, intOf]
    omega
  · obtain rfl : i = ps.length := by omega
    refine wp_region_lit ?_
    refine Fr.l_mv rfl rfl (Fr.w_none rfl) (by simp only [Fr.ev_tmp, Fr.ev_const, Fr.up_get, Nat.reduceLT, Nat.reduceEqDiff, ↓reduceIte, h5, h37, h38, h40]; try rfl) ?_
    refine Fr.l_mv rfl rfl (Fr.w_none rfl) (by simp only [Fr.ev_tmp, Fr.ev_const, Fr.up_get, Nat.reduceLT, Nat.reduceEqDiff, ↓reduceIte, h5, h37, h38, h40]; try rfl) ?_
    refine Fr.l_val rfl (Fr.w_none rfl) (by go_simp; first | done | (with_reducible rfl) | (with_reducible exact ⟨rfl, rfl⟩) | (with_reducible exact ⟨⟨rfl, rfl⟩, rfl⟩)) ?_
    refine Fr.l_val rfl (Fr.w_none rfl) (by go_simp; first | done | (with_reducible rfl) | (with_reducible exact ⟨rfl, rfl⟩) | (with_reducible exact ⟨⟨rfl, rfl⟩, rfl⟩)) ?_
    refine Fr.l_nil ?_
    refine Fr.l_cond (t := false) (by simp only [Fr.ev_tmp, Fr.ev_const, Fr.up_get, Nat.reduceLT, Nat.reduceEqDiff, ↓reduceIte]; try rfl) (fun h => absurd h (by decide)) (fun _ => ?_)
    refine wp_exit ?_
    refine Fr.then_exit (Fr.then_exit ?_)
    refine Fr.inb_exit ?_
    exact HK.out _ _ hb (by (repeat (refine Fr.Kp.up (by decide) ?_)); exact hK.mono (Nat.le_refl _) (by decide))

end Go.Proofs.Ytkgfepakedieaaa.yTurnsOn

/-! The great law's walk, an element: from the loop along the axles to the end. (written by wip/gen/turnson3.py.) -/
namespace Go.Proofs.Ytkgfepakedieaaa.yTurnsOn
open Go.RowKit
set_option linter.unusedVariables false
set_option linter.unusedSimpArgs false

set_option maxRecDepth 100000 in
set_option maxHeartbeats 16000000 in
theorem tail {ps : List T3} {p q m d : Nat} {b : Option Addr} {gT kT g2 k2 g4 k4 g6 k6 base : Nat} {W w : World} {Q : Exit → Act → World → Prop} {f : Nat → Value}
    (f1 : f 1 = .slice b m d) (f5 : f 5 = .slice (some ⟨gT, 0, none⟩) ps.length kT) (f10 : f 10 = .slice (some ⟨g2, 0, none⟩) (ps.length + 1) k2) (f14 : f 14 = .slice (some ⟨g4, 0, none⟩) (ps.length + 1) k4) (f18 : f 18 = .slice (some ⟨g6, 0, none⟩) (ps.length + 1) k6) (f22 : f 22 = .float .f32 (effC ps))
    (hp : Rg (-2) 3 p) (hq : Rg (-2) 3 q) (hl : 1 ≤ ps.length ∧ ps.length ≤ 4) (hg : ∀ x ∈ ps, PG x) (hB : trainB ps = true)
    (c6 : ∀ i, i ≤ ps.length → W.cell? ⟨g6, i, none⟩ = some (.float .f32 (powAt p q ps i)))
    (c24 : ∀ i, i ≤ ps.length → ∃ x y, W.cell? ⟨g2, i, none⟩ = some (.float .f32 x) ∧ W.cell? ⟨g4, i, none⟩ = some (.float .f32 y) ∧ cop .mul x y = powAt p q ps i)
    (hT : Tr W (.slice (some ⟨gT, 0, none⟩) ps.length kT) ps) (hO : W.ownsRow base 54 3 (.slice (some ⟨gT, 0, none⟩) ps.length kT) ps.length (cellsT ps)) (hM : BytesAt W W.heap.size b m)
    (hw : BelowC W w)
    (k : ∀ (w' : World) (g : Nat → Value), BelowC W w' → g 4 = .bool true → Q .ret ⟨Fr.ft 557 g, []⟩ w') :
    Code.wp Try.prog (Fr.sn (Fr.sn (Fr.sn (Fr.sn (Fr.sn (Fr.sn (Fr.sn (Fr.sn (Fr.sn (Fr.sn (Fr.sn (Fr.sn (Fr.sn (Fr.sn (Fr.sn (B7)))))))))))))))) Q ⟨Fr.ft 557 f, []⟩ w := by
  have HK := Lib.hid k
  have HG := Lib.hid hg
  have HB := Lib.hid hB
  have HTr := Lib.hid hT
  have HO := Lib.hid hO
  have HBy := Lib.hid hM
  have HC6 := Lib.hid c6
  have hwm := worst_lt ps ps.length (by omega)
  obtain ⟨wm, hwm'⟩ : ∃ x, x = worst ps ps.length := ⟨_, rfl⟩
  obtain ⟨lm, hlm'⟩ : ∃ x, x = lossAt ps (worst ps ps.length) := ⟨_, rfl⟩
  have HWF := Lib.hid (fun i (hi : i < ps.length) => worst_feq hg hi)
  have hlw : lm = ps[worst ps ps.length].2.2 := by rw [hlm']; exact lossAt_eq (List.getElem?_eq_getElem hwm)
  have HWc := Lib.hid (fun (W' : World) (v : Value) (hv : Tr W' v ps) => worst_yes hv hB)
  have HEf := Lib.hid (fun (W' : World) (v : Value) (hv : Tr W' v (setL ps (worst ps ps.length) 0)) => eff_yes hv (setL_B hB hwm hg) (by rw [setL_len]; exact hl.2) (setL_pg hg hwm))
  have HBt := Lib.hid (better hl.2 hg hwm)
  have HEn := Lib.hid (end_near hp hq hl.2 hg)
  rw [← hlm', ← hwm'] at HWc HWF
  rw [← hwm'] at HEf HBt
  have hlw2 : ∃ h : wm < ps.length, lm = ps[wm].2.2 := by subst hwm'; exact ⟨hwm, hlw⟩
  obtain ⟨hwl, hlw3⟩ := hlw2
  have HLW := Lib.hid hlw3
  clear hwm' hlm' hlw hlw3 hwm k hT hO hM
  -- the loop along the axles
  refine Fr.wp_code (c' := (Fr.fs (Fr.sn (Fr.sn (Fr.sn (Fr.sn (Fr.sn (Fr.sn (Fr.sn (Fr.sn (Fr.sn (Fr.sn (Fr.sn (Fr.sn (Fr.sn (Fr.sn (Fr.sn (B7))))))))))))))))).seq (Fr.sn (Fr.sn (Fr.sn (Fr.sn (Fr.sn (Fr.sn (Fr.sn (Fr.sn (Fr.sn (Fr.sn (Fr.sn (Fr.sn (Fr.sn (Fr.sn (Fr.sn (Fr.sn (B7)))))))))))))))))) (by kernel_rfl) ?_
  refine e17 (ps := ps) (p := p) (q := q) (W := W) f10 f14 f18 hp hq hl.2 hg c6 c24 hw ?_
  intro w1 g1 hb1 hK1
  clear c24
  have h5 := (hK1 5 (by decide) (by decide)).trans f5
  have h18 := (hK1 18 (by decide) (by decide)).trans f18
  have h22 := (hK1 22 (by decide) (by decide)).trans f22
  have h1 := (hK1 1 (by decide) (by decide)).trans f1
  clear f1 f5 f10 f14 f18 f22 hw c6 hg hB
  refine Fr.wp_code (c' := (Fr.fs (Fr.sn (Fr.sn (Fr.sn (Fr.sn (Fr.sn (Fr.sn (Fr.sn (Fr.sn (Fr.sn (Fr.sn (Fr.sn (Fr.sn (Fr.sn (Fr.sn (Fr.sn (Fr.sn (B7)))))))))))))))))).seq (Fr.sn (Fr.sn (Fr.sn (Fr.sn (Fr.sn (Fr.sn (Fr.sn (Fr.sn (Fr.sn (Fr.sn (Fr.sn (Fr.sn (Fr.sn (Fr.sn (Fr.sn (Fr.sn (Fr.sn (B7))))))))))))))))))) (by kernel_rfl) ?_
  refine e16 (ps := ps) (p := p) (q := q) (W := W) h5 h18 h22 HEn.out.2.2 HEn.out.1 HEn.out.2.1 (HC6.out 0 (by omega)) (HC6.out _ (Nat.le_refl _)) hb1 ?_
  intro w2 g2 hb2 hA2
  replace h5 := (hA2 5 (by decide)).trans h5
  replace h22 := (hA2 22 (by decide)).trans h22
  replace h1 := (hA2 1 (by decide)).trans h1
  clear h18 hA2 hK1
  conv => arg 2; whnf
  have E1 := @Fr.ev_tmp 557
  have E2 := @Fr.ev_const 557
  have E3 := @Fr.up_get
  have E4 := @Fr.ev_func 557
  have E5 := @Fr.ev_global 557
  refine wp_seq ?_
  refine wp_region_lit ?_
  refine Fr.l_mv rfl rfl (Fr.w_none rfl) (by simp only [Fr.ev_tmp, Fr.ev_const, Fr.up_get, Nat.reduceLT, Nat.reduceEqDiff, ↓reduceIte, h5]; try rfl) ?_
  (refine Fr.l_call rfl (Fr.w_none rfl) (by go_simp; first | done | (with_reducible rfl) | (with_reducible exact ⟨rfl, rfl⟩) | (with_reducible exact ⟨⟨rfl, rfl⟩, rfl⟩)) ?_; refine (HWc.out _ _ (HTr.out.below hb2)).mono ?_; rintro e w3 ⟨rfl, hb3⟩; refine ⟨_, rfl, ?_⟩)
  refine Fr.l_mv rfl rfl (Fr.w_none rfl) (by simp only [Fr.ev_tmp, Fr.ev_const, Fr.up_get, Nat.reduceLT, Nat.reduceEqDiff, ↓reduceIte, h5]; try rfl) ?_
  refine Fr.l_val rfl (Fr.w_none rfl) (by go_simp; first | done | (with_reducible rfl) | (with_reducible exact ⟨rfl, rfl⟩) | (with_reducible exact ⟨⟨rfl, rfl⟩, rfl⟩)) ?_
  refine Fr.l_val rfl (Fr.w_none rfl) (by go_simp; first | done | (with_reducible rfl) | (with_reducible exact ⟨rfl, rfl⟩) | (with_reducible exact ⟨⟨rfl, rfl⟩, rfl⟩)) ?_
  refine Fr.l_val rfl (Fr.w_none rfl) (by go_simp; first | done | (with_reducible rfl) | (with_reducible exact ⟨rfl, rfl⟩) | (with_reducible exact ⟨⟨rfl, rfl⟩, rfl⟩)) ?_
  refine Fr.l_as rfl rfl (Fr.w_none rfl) (by simp only [Fr.ev_tmp, Fr.ev_const, Fr.up_get, Nat.reduceLT, Nat.reduceEqDiff, ↓reduceIte, h5]; try rfl) ?_
  refine Fr.l_as rfl rfl (Fr.w_none rfl) (by simp only [Fr.ev_tmp, Fr.ev_const, Fr.up_get, Nat.reduceLT, Nat.reduceEqDiff, ↓reduceIte, h5]; try rfl) ?_
  refine Fr.l_as rfl rfl (Fr.w_none rfl) (by simp only [Fr.ev_tmp, Fr.ev_const, Fr.up_get, Nat.reduceLT, Nat.reduceEqDiff, ↓reduceIte, h5]; try rfl) ?_
  refine Fr.l_nil ?_
  refine Fr.name ?_
  intro f3 hf3
  have i5 : f3 5 = .slice (some ⟨gT, 0, none⟩) ps.length kT := by rw [hf3]; simp only [Fr.up_get, Nat.reduceEqDiff, ↓reduceIte, h5]
  have i22 : f3 22 = .float .f32 (effC ps) := by rw [hf3]; simp only [Fr.up_get, Nat.reduceEqDiff, ↓reduceIte, h22]
  have i1 : f3 1 = .slice b m d := by rw [hf3]; simp only [Fr.up_get, Nat.reduceEqDiff, ↓reduceIte, h1]
  have i29 : f3 29 = .int .i64 (wm : Int) := by rw [hf3]; simp only [Fr.up_get, Nat.reduceEqDiff, ↓reduceIte]
  have i30 : f3 30 = .float .f32 lm := by rw [hf3]; simp only [Fr.up_get, Nat.reduceEqDiff, ↓reduceIte]
  have i31 : f3 31 = .int .i64 0 := by rw [hf3]; simp only [Fr.up_get, Nat.reduceEqDiff, ↓reduceIte]
  clear hf3 h1 h5 h22
  have hb3' : BelowC W w3 := BelowC.call hb2 hb3
  have CT : ∀ w', BelowC W w' → ∀ i, (hi : i < ps.length) → w'.cell? ⟨gT, i * 3, none⟩ = some (.int .i16 ps[i].1) ∧ w'.cell? ⟨gT, i * 3 + 1, none⟩ = some (.int .i16 ps[i].2.1) ∧ w'.cell? ⟨gT, i * 3 + 2, none⟩ = some (.float .f32 ps[i].2.2) := fun w' hw' i hi => by
    have o := own_after HO.out hw'
    obtain ⟨c1, c2, c3⟩ := cellsT_at hi
    exact ⟨own_cell o c1, own_cell o c2, own_cell o c3⟩
  have HCT := Lib.hid CT
  clear CT
  refine Fr.wp_code (c' := (Fr.fs (Fr.sn (Fr.sn (Fr.sn (Fr.sn (Fr.sn (Fr.sn (Fr.sn (Fr.sn (Fr.sn (Fr.sn (Fr.sn (Fr.sn (Fr.sn (Fr.sn (Fr.sn (Fr.sn (Fr.sn (Fr.sn (B7)))))))))))))))))))).seq (Fr.sn (Fr.sn (Fr.sn (Fr.sn (Fr.sn (Fr.sn (Fr.sn (Fr.sn (Fr.sn (Fr.sn (Fr.sn (Fr.sn (Fr.sn (Fr.sn (Fr.sn (Fr.sn (Fr.sn (Fr.sn (Fr.sn (B7))))))))))))))))))))) (by kernel_rfl) ?_
  refine e18 (ps := ps) i5 i29 i30 i31 hwl (by rw [HLW.out]; exact (HCT.out _ hb3' wm hwl).2.2) ?_
  rintro w4 g4 rfl hA4
  replace i5 := (hA4 5 (by decide)).trans i5
  replace i22 := (hA4 22 (by decide)).trans i22
  replace i1 := (hA4 1 (by decide)).trans i1
  replace i29 := (hA4 29 (by decide)).trans i29
  replace i30 := (hA4 30 (by decide)).trans i30
  clear i31 hA4
  refine Fr.wp_code (c' := (Fr.fs (Fr.sn (Fr.sn (Fr.sn (Fr.sn (Fr.sn (Fr.sn (Fr.sn (Fr.sn (Fr.sn (Fr.sn (Fr.sn (Fr.sn (Fr.sn (Fr.sn (Fr.sn (Fr.sn (Fr.sn (Fr.sn (Fr.sn (B7))))))))))))))))))))).seq (Fr.sn (Fr.sn (Fr.sn (Fr.sn (Fr.sn (Fr.sn (Fr.sn (Fr.sn (Fr.sn (Fr.sn (Fr.sn (Fr.sn (Fr.sn (Fr.sn (Fr.sn (Fr.sn (Fr.sn (Fr.sn (Fr.sn (Fr.sn (B7)))))))))))))))))))))) (by kernel_rfl) ?_
  refine e19 (ps := ps) (m := wm) (l := lm) i5 i29 i30 (fun i hi => (HCT.out _ hb3' i hi).2.2) (fun i hi => HWF.out i hi) hl.2 ?_
  intro w5 g5 hb5 hK5
  replace i5 := (hK5 5 (by decide) (by decide)).trans i5
  replace i22 := (hK5 22 (by decide) (by decide)).trans i22
  replace i1 := (hK5 1 (by decide) (by decide)).trans i1
  replace i29 := (hK5 29 (by decide) (by decide)).trans i29
  have hb5' : BelowC W w5 := BelowC.call hb3' hb5
  clear hK5 i30
  conv => arg 2; whnf
  refine wp_seq ?_
  refine wp_region_lit ?_
  refine Fr.l_mv rfl rfl (Fr.w_none rfl) (by simp only [Fr.ev_tmp, Fr.ev_const, Fr.up_get, Nat.reduceLT, Nat.reduceEqDiff, ↓reduceIte, i5, i29]; try rfl) ?_
  refine Fr.l_mv rfl rfl (Fr.w_none rfl) (by simp only [Fr.ev_tmp, Fr.ev_const, Fr.up_get, Nat.reduceLT, Nat.reduceEqDiff, ↓reduceIte, i5, i29]; try rfl) ?_
  (refine Fr.l_call rfl (Fr.w_none rfl) (by go_simp; first | done | (with_reducible rfl) | (with_reducible exact ⟨rfl, rfl⟩) | (with_reducible exact ⟨⟨rfl, rfl⟩, rfl⟩)) ?_; refine (implWithLoss_ok ps _ wm 0 _ (HTr.out.below hb5') HB.out hwl (by decide +kernel)).mono ?_; rintro e w6 ⟨u6, rfl, ho6, hb6⟩; refine ⟨_, rfl, ?_⟩)
  refine Fr.l_mv rfl rfl (Fr.w_none rfl) (by simp only [Fr.ev_tmp, Fr.ev_const, Fr.up_get, Nat.reduceLT, Nat.reduceEqDiff, ↓reduceIte, i5, i29]; try rfl) ?_
  refine Fr.l_val rfl (Fr.w_none rfl) (by go_simp; first | done | (with_reducible rfl) | (with_reducible exact ⟨rfl, rfl⟩) | (with_reducible exact ⟨⟨rfl, rfl⟩, rfl⟩)) ?_
  refine Fr.l_val rfl (Fr.w_none rfl) (by go_simp; first | done | (with_reducible rfl) | (with_reducible exact ⟨rfl, rfl⟩) | (with_reducible exact ⟨⟨rfl, rfl⟩, rfl⟩)) ?_
  refine Fr.l_as rfl rfl (Fr.w_none rfl) (by simp only [Fr.ev_tmp, Fr.ev_const, Fr.up_get, Nat.reduceLT, Nat.reduceEqDiff, ↓reduceIte, i5, i29]; try rfl) ?_
  refine Fr.l_as rfl rfl (Fr.w_none rfl) (by simp only [Fr.ev_tmp, Fr.ev_const, Fr.up_get, Nat.reduceLT, Nat.reduceEqDiff, ↓reduceIte, i5, i29]; try rfl) ?_
  refine Fr.l_nil ?_
  have hb6' : BelowC W w6 := BelowC.call hb5' hb6
  obtain ⟨gW, kW, rfl, _, _⟩ := own_some ho6 (by omega)
  refine Fr.name ?_
  intro f6 hf6
  have j5 : f6 5 = .slice (some ⟨gT, 0, none⟩) ps.length kT := by rw [hf6]; simp only [Fr.up_get, Nat.reduceEqDiff, ↓reduceIte, i5]
  have j22 : f6 22 = .float .f32 (effC ps) := by rw [hf6]; simp only [Fr.up_get, Nat.reduceEqDiff, ↓reduceIte, i22]
  have j1 : f6 1 = .slice b m d := by rw [hf6]; simp only [Fr.up_get, Nat.reduceEqDiff, ↓reduceIte, i1]
  have j29 : f6 29 = .int .i64 (wm : Int) := by rw [hf6]; simp only [Fr.up_get, Nat.reduceEqDiff, ↓reduceIte, i29]
  have j33 : f6 33 = .slice (some ⟨gW, 0, none⟩) ps.length kW := by rw [hf6]; simp only [Fr.up_get, Nat.reduceEqDiff, ↓reduceIte]
  have j34 : f6 34 = .int .i64 0 := by rw [hf6]; simp only [Fr.up_get, Nat.reduceEqDiff, ↓reduceIte]
  clear hf6 i1 i5 i22 i29
  have hse := setL_at hwl 0
  obtain ⟨x1, _, x3⟩ := cellsT_get _ _ _ hse
  have hTrW : Tr w6 (.slice (some ⟨gW, 0, none⟩) ps.length kW) (setL ps wm 0) := by
    have hk : ∀ z ∈ setL ps wm 0, TOk z := fun z hz => by
      have hz' := setL_pg HG.out hwl z hz
      obtain ⟨⟨k0, k1⟩, ⟨k2, k3⟩, _⟩ := pg_teeth hz'
      exact ⟨⟨by omega, by omega⟩, ⟨by omega, by omega⟩, hz'.2.2⟩
    have h := tr_of_row (ps := setL ps wm 0) (v := .slice (some ⟨gW, 0, none⟩) ps.length kW) (by rw [setL_len]; exact ho6) hk
    exact h
  have HTrW := Lib.hid hTrW
  have xx1 := own_cell ho6 x1
  have xx3 := own_cell ho6 x3
  clear hTrW hse x1 x3 ho6
  refine Fr.wp_code (c' := (Fr.fs (Fr.sn (Fr.sn (Fr.sn (Fr.sn (Fr.sn (Fr.sn (Fr.sn (Fr.sn (Fr.sn (Fr.sn (Fr.sn (Fr.sn (Fr.sn (Fr.sn (Fr.sn (Fr.sn (Fr.sn (Fr.sn (Fr.sn (Fr.sn (Fr.sn (B7))))))))))))))))))))))).seq (Fr.sn (Fr.sn (Fr.sn (Fr.sn (Fr.sn (Fr.sn (Fr.sn (Fr.sn (Fr.sn (Fr.sn (Fr.sn (Fr.sn (Fr.sn (Fr.sn (Fr.sn (Fr.sn (Fr.sn (Fr.sn (Fr.sn (Fr.sn (Fr.sn (Fr.sn (B7)))))))))))))))))))))))) (by kernel_rfl) ?_
  refine e21 (ps := ps) (W := w6) j5 j29 j33 j34 hwl xx1 xx3 ((HCT.out _ hb6' wm hwl).1) (Below.refl _ _) ?_
  intro w7 g7 hb7 hA7
  replace j5 := (hA7 5 (by decide)).trans j5
  replace j22 := (hA7 22 (by decide)).trans j22
  replace j1 := (hA7 1 (by decide)).trans j1
  replace j33 := (hA7 33 (by decide)).trans j33
  have hb7' : BelowC W w7 := BelowC.call hb6' hb7
  clear xx1 xx3 hA7 j29 j34
  conv => arg 2; whnf
  refine wp_seq ?_
  refine wp_region_lit ?_
  refine Fr.l_mv rfl rfl (Fr.w_none rfl) (by simp only [Fr.ev_tmp, Fr.ev_const, Fr.up_get, Nat.reduceLT, Nat.reduceEqDiff, ↓reduceIte, j33]; try rfl) ?_
  (refine Fr.l_call rfl (Fr.w_none rfl) (by go_simp; first | done | (with_reducible rfl) | (with_reducible exact ⟨rfl, rfl⟩) | (with_reducible exact ⟨⟨rfl, rfl⟩, rfl⟩)) ?_; refine (HEf.out _ _ (HTrW.out.below hb7)).mono ?_; rintro e w8 ⟨rfl, hb8⟩; refine ⟨_, rfl, ?_⟩)
  refine Fr.l_mv rfl rfl (Fr.w_none rfl) (by simp only [Fr.ev_tmp, Fr.ev_const, Fr.up_get, Nat.reduceLT, Nat.reduceEqDiff, ↓reduceIte, j33]; try rfl) ?_
  refine Fr.l_val rfl (Fr.w_none rfl) (by go_simp; first | done | (with_reducible rfl) | (with_reducible exact ⟨rfl, rfl⟩) | (with_reducible exact ⟨⟨rfl, rfl⟩, rfl⟩)) ?_
  refine Fr.l_val rfl (Fr.w_none rfl) (by go_simp; first | done | (with_reducible rfl) | (with_reducible exact ⟨rfl, rfl⟩) | (with_reducible exact ⟨⟨rfl, rfl⟩, rfl⟩)) ?_
  refine Fr.l_as rfl rfl (Fr.w_none rfl) (by simp only [Fr.ev_tmp, Fr.ev_const, Fr.up_get, Nat.reduceLT, Nat.reduceEqDiff, ↓reduceIte, j33]; try rfl) ?_
  refine Fr.l_as rfl rfl (Fr.w_none rfl) (by simp only [Fr.ev_tmp, Fr.ev_const, Fr.up_get, Nat.reduceLT, Nat.reduceEqDiff, ↓reduceIte, j33]; try rfl) ?_
  refine Fr.l_nil ?_
  have hb8' : BelowC W w8 := BelowC.call hb7' hb8
  refine wp_seq ?_
  refine wp_region_lit ?_
  refine Fr.l_mv rfl rfl (Fr.w_none rfl) (by simp only [Fr.ev_tmp, Fr.ev_const, Fr.up_get, Nat.reduceLT, Nat.reduceEqDiff, ↓reduceIte, j1]; try rfl) ?_
  (refine Fr.l_call rfl (Fr.w_none rfl) (by go_simp; first | done | (with_reducible rfl) | (with_reducible exact ⟨rfl, rfl⟩) | (with_reducible exact ⟨⟨rfl, rfl⟩, rfl⟩)) ?_; refine (a2At_any _ _ _ _ _ _ (bytes_go HBy.out hb8') (by omega) (by omega) (by omega)).mono ?_; rintro e w9 ⟨x, rfl, ⟨hx0, hx1⟩, rfl⟩; refine ⟨_, rfl, ?_⟩)
  have hw1 : IntKind.i64.wrap (1 + x) = 1 + x := by rw [IntKind.wrap_i64]; omega
  obtain ⟨hmF, hmM⟩ := mod_ok hx0 hx1
  have hfv := fval_F (show F (cop .quo (floatOfInt .f32 (1 + x)) 1082130432) from hmF)
  have hfd := fdn_F (show F (cop .quo (floatOfInt .f32 (1 + x)) 1082130432) from hmF)
  have HMF := Lib.hid hmF
  have HMM := Lib.hid hmM
  clear hmF hmM
  refine Fr.l_val rfl (Fr.w_none rfl) (by go_simp; first | done | (with_reducible rfl) | (with_reducible exact ⟨rfl, rfl⟩) | (with_reducible exact ⟨⟨rfl, rfl⟩, rfl⟩)) ?_
  refine Fr.l_val rfl (Fr.w_none rfl) (by go_simp; first | done | (with_reducible rfl) | (with_reducible exact ⟨rfl, rfl⟩) | (with_reducible exact ⟨⟨rfl, rfl⟩, rfl⟩)) ?_
  refine Fr.l_val rfl (Fr.w_none rfl) (by go_simp; first | done | (with_reducible rfl) | (with_reducible exact ⟨rfl, rfl⟩) | (with_reducible exact ⟨⟨rfl, rfl⟩, rfl⟩)) ?_
  refine Fr.l_as rfl rfl (Fr.w_none rfl) (by simp only [Fr.ev_tmp, Fr.ev_const, Fr.up_get, Nat.reduceLT, Nat.reduceEqDiff, ↓reduceIte, j1]; try rfl) ?_
  refine Fr.l_nil ?_
  refine Fr.name ?_
  intro f9 hf9
  have k5 : f9 5 = .slice (some ⟨gT, 0, none⟩) ps.length kT := by rw [hf9]; simp only [Fr.up_get, Nat.reduceEqDiff, ↓reduceIte, j5]
  have k22 : f9 22 = .float .f32 (effC ps) := by rw [hf9]; simp only [Fr.up_get, Nat.reduceEqDiff, ↓reduceIte, j22]
  have k35 : f9 35 = .float .f32 (effC (setL ps wm 0)) := by rw [hf9]; simp only [Fr.up_get, Nat.reduceEqDiff, ↓reduceIte]
  have k36 : f9 36 = .int .i64 0 := by rw [hf9]; simp only [Fr.up_get, Nat.reduceEqDiff, ↓reduceIte]
  have k37 : f9 37 = .float .f32 (modC x) := by rw [hf9]; simp only [Fr.up_get, Nat.reduceEqDiff, ↓reduceIte]; rfl
  clear hf9 j1 j5 j22 j33 hfv hfd
  obtain ⟨md, hmd⟩ : ∃ y, y = modC x := ⟨_, rfl⟩
  rw [← hmd] at k37 HMF HMM
  clear hmd hw1
  refine wp_seq ?_
  refine wp_region_lit ?_
  refine Fr.l_mv rfl rfl (Fr.w_none rfl) (by simp only [Fr.ev_tmp, Fr.ev_const, Fr.up_get, Nat.reduceLT, Nat.reduceEqDiff, ↓reduceIte, k5, k37]; try rfl) ?_
  refine Fr.l_mv rfl rfl (Fr.w_none rfl) (by simp only [Fr.ev_tmp, Fr.ev_const, Fr.up_get, Nat.reduceLT, Nat.reduceEqDiff, ↓reduceIte, k5, k37]; try rfl) ?_
  (refine Fr.l_call rfl (Fr.w_none rfl) (by go_simp; first | done | (with_reducible rfl) | (with_reducible exact ⟨rfl, rfl⟩) | (with_reducible exact ⟨⟨rfl, rfl⟩, rfl⟩)) ?_; refine (implDist_ok ps _ md _ (HTr.out.below hb8') HB.out HMM.out).mono ?_; rintro e w10 ⟨u10, xs, rfl, ho10, hS10, hz10, hb10⟩; refine ⟨_, rfl, ?_⟩)
  refine Fr.l_mv rfl rfl (Fr.w_none rfl) (by simp only [Fr.ev_tmp, Fr.ev_const, Fr.up_get, Nat.reduceLT, Nat.reduceEqDiff, ↓reduceIte, k5, k37]; try rfl) ?_
  refine Fr.l_val rfl (Fr.w_none rfl) (by go_simp; first | done | (with_reducible rfl) | (with_reducible exact ⟨rfl, rfl⟩) | (with_reducible exact ⟨⟨rfl, rfl⟩, rfl⟩)) ?_
  refine Fr.l_val rfl (Fr.w_none rfl) (by go_simp; first | done | (with_reducible rfl) | (with_reducible exact ⟨rfl, rfl⟩) | (with_reducible exact ⟨⟨rfl, rfl⟩, rfl⟩)) ?_
  refine Fr.l_as rfl rfl (Fr.w_none rfl) (by simp only [Fr.ev_tmp, Fr.ev_const, Fr.up_get, Nat.reduceLT, Nat.reduceEqDiff, ↓reduceIte, k5, k37]; try rfl) ?_
  refine Fr.l_as rfl rfl (Fr.w_none rfl) (by simp only [Fr.ev_tmp, Fr.ev_const, Fr.up_get, Nat.reduceLT, Nat.reduceEqDiff, ↓reduceIte, k5, k37]; try rfl) ?_
  refine Fr.l_nil ?_
  have hb10' : BelowC W w10 := BelowC.call hb8' hb10
  have hxl : xs.length = ps.length := by rw [hS10.1, List.length_map]
  have HO10 := Lib.hid ho10
  have ho11 := ho10
  rw [hxl] at ho11
  obtain ⟨gD, kD, rfl, _, _⟩ := own_some ho11 (by omega)
  have HXL := Lib.hid hxl
  have HS10 := Lib.hid hS10
  have HO11 := Lib.hid ho11
  clear ho10 ho11 hxl hS10 HO10
  refine Fr.name ?_
  intro f10 hf10
  have l5 : f10 5 = .slice (some ⟨gT, 0, none⟩) ps.length kT := by rw [hf10]; simp only [Fr.up_get, Nat.reduceEqDiff, ↓reduceIte, k5]
  have l22 : f10 22 = .float .f32 (effC ps) := by rw [hf10]; simp only [Fr.up_get, Nat.reduceEqDiff, ↓reduceIte, k22]
  have l35 : f10 35 = .float .f32 (effC (setL ps wm 0)) := by rw [hf10]; simp only [Fr.up_get, Nat.reduceEqDiff, ↓reduceIte, k35]
  have l36 : f10 36 = .int .i64 0 := by rw [hf10]; simp only [Fr.up_get, Nat.reduceEqDiff, ↓reduceIte, k36]
  have l37 : f10 37 = .float .f32 md := by rw [hf10]; simp only [Fr.up_get, Nat.reduceEqDiff, ↓reduceIte, k37]
  have l38 : f10 38 = .slice (some ⟨gD, 0, none⟩) ps.length kD := by rw [hf10]; simp only [Fr.up_get, Nat.reduceEqDiff, ↓reduceIte]
  have l39 : f10 39 = .int .i64 0 := by rw [hf10]; simp only [Fr.up_get, Nat.reduceEqDiff, ↓reduceIte]
  clear hf10 k5 k22 k35 k36 k37
  refine Fr.wp_code (c' := (Fr.fs (Fr.sn (Fr.sn (Fr.sn (Fr.sn (Fr.sn (Fr.sn (Fr.sn (Fr.sn (Fr.sn (Fr.sn (Fr.sn (Fr.sn (Fr.sn (Fr.sn (Fr.sn (Fr.sn (Fr.sn (Fr.sn (Fr.sn (Fr.sn (Fr.sn (Fr.sn (Fr.sn (Fr.sn (Fr.sn (B7))))))))))))))))))))))))))).seq (Fr.sn (Fr.sn (Fr.sn (Fr.sn (Fr.sn (Fr.sn (Fr.sn (Fr.sn (Fr.sn (Fr.sn (Fr.sn (Fr.sn (Fr.sn (Fr.sn (Fr.sn (Fr.sn (Fr.sn (Fr.sn (Fr.sn (Fr.sn (Fr.sn (Fr.sn (Fr.sn (Fr.sn (Fr.sn (Fr.sn (B7)))))))))))))))))))))))))))) (by kernel_rfl) ?_
  refine e25 (ps := ps) l5 l22 l35 l36 l38 l39 (fun w => by rw [← flt_cn_r, cn_fval]; exact HBt.out) ?_
  intro w11 g11 hb11 hA11
  replace l5 := (hA11 5 (by decide)).trans l5
  replace l37 := (hA11 37 (by decide)).trans l37
  replace l38 := (hA11 38 (by decide)).trans l38
  have hb11' : BelowC W w11 := BelowC.call hb10' hb11
  clear hA11 l22 l35 l36 l39
  refine Fr.wp_code (c' := (Fr.fs (Fr.sn (Fr.sn (Fr.sn (Fr.sn (Fr.sn (Fr.sn (Fr.sn (Fr.sn (Fr.sn (Fr.sn (Fr.sn (Fr.sn (Fr.sn (Fr.sn (Fr.sn (Fr.sn (Fr.sn (Fr.sn (Fr.sn (Fr.sn (Fr.sn (Fr.sn (Fr.sn (Fr.sn (Fr.sn (Fr.sn (B7)))))))))))))))))))))))))))).seq (Fr.sn (Fr.sn (Fr.sn (Fr.sn (Fr.sn (Fr.sn (Fr.sn (Fr.sn (Fr.sn (Fr.sn (Fr.sn (Fr.sn (Fr.sn (Fr.sn (Fr.sn (Fr.sn (Fr.sn (Fr.sn (Fr.sn (Fr.sn (Fr.sn (Fr.sn (Fr.sn (Fr.sn (Fr.sn (Fr.sn (Fr.sn (B7))))))))))))))))))))))))))))) (by kernel_rfl) ?_
  refine e26 (ps := ps) (md := md) l5 l37 l38 (HTr.out.below hb11') HMM.out HB.out hl.2 ?_ ?_
  · intro i hi
    obtain ⟨a, b, n, ha, hb, a1, a2, b1, b2, hn, n1, n2, n3, n4⟩ := pairAt HG.out hi
    obtain ⟨c1, c2, _⟩ := HCT.out _ hb11' i hi
    have hxi : i < xs.length := by rw [HXL.out]; exact hi
    have hx : xs[i]? = some xs[i] := List.getElem?_eq_getElem hxi
    have hy : (ps.map (distC md))[i]? = some (distC md ps[i]) := by rw [List.getElem?_map, List.getElem?_eq_getElem hi]; rfl
    have hd := HS10.out.2 i _ _ hx hy
    refine ⟨a, b, n, xs[i], a1, a2, b1, b2, ?_, n1, n2, n3, n4, ?_, ?_, own_cell (own_after HO11.out hb11) (cellF_at hx), ?_, rad_F (by omega) (by omega) HMF.out HMM.out⟩
    · rw [hn]
      exact meet_eq HB.out hi ha hb
    · rw [← ha]; exact c1
    · rw [← hb]; exact c2
    · rw [hd]
      unfold distC
      rw [ha, hb]
      exact cn_cop _ _ _
  intro w12 g12 hb12 hK12
  have hb12' : BelowC W w12 := BelowC.call hb11' hb12
  conv => arg 2; whnf
  refine wp_seq ?_
  refine wp_region_lit ?_
  refine Fr.l_as rfl rfl (Fr.w_none rfl) (by simp only [Fr.ev_tmp, Fr.ev_const, Fr.up_get, Nat.reduceLT, Nat.reduceEqDiff, ↓reduceIte]; try rfl) ?_
  refine Fr.l_nil ?_
  refine wp_ret ?_
  refine HK.out _ _ hb12' ?_
  simp only [Fr.up_get, ↓reduceIte]

end Go.Proofs.Ytkgfepakedieaaa.yTurnsOn

/-! The great law's walk: speeds, torques and powers along a drawn train. (written by wip/gen/turnson3.py.) -/
namespace Go.Proofs.Ytkgfepakedieaaa.yTurnsOn
open Go.RowKit
set_option linter.unusedVariables false
set_option linter.unusedSimpArgs false

set_option maxRecDepth 100000 in
set_option maxHeartbeats 16000000 in
theorem walk0 (a b : Option Addr) (n c m d : Nat) (w : World) (h1 : BytesAt w w.heap.size a n) (h2 : BytesAt w w.heap.size b m) :
    Calls Try.prog 7 #[.slice a n c, .slice b m d] w fun e w' => e = .returned (.bool true) ∧ Below w.heap.size w w' := by
  have H1 := Lib.hid h1
  have H2 := Lib.hid h2
  have hn2 := h1.1
  have hm2 := h2.1
  clear h1 h2
  refine Fr.enter (n := 557) Try.func7 rfl rfl (by simp) ?_
  intro f0 hf0
  have t0 : f0 0 = .slice a n c := hf0 0 (by simp)
  have t1 : f0 1 = .slice b m d := hf0 1 (by simp)
  clear hf0
  have E1 := @Fr.ev_tmp 557
  have E2 := @Fr.ev_const 557
  have E3 := @Fr.up_get
  have E4 := @Fr.ev_func 557
  have E5 := @Fr.ev_global 557
  cases hL : (decide (3000 < (n : Int)) || decide (3000 < (m : Int)))
  · have hm3 : m ≤ 3000 := by
      simp only [Bool.or_eq_false_iff, decide_eq_false_iff_not] at hL
      omega
    refine wp_seq ?_
    refine wp_region_lit ?_
    refine Fr.l_as rfl rfl (Fr.w_none rfl) (by simp only [Fr.ev_tmp, Fr.ev_const, Fr.up_get, Nat.reduceLT, Nat.reduceEqDiff, ↓reduceIte, t0, t1]; try rfl) ?_
    refine Fr.l_nil ?_
    refine wp_seq ?_
    refine wp_seq ?_
    refine wp_region_lit ?_
    refine Fr.l_mv rfl rfl (Fr.w_none rfl) (by simp only [Fr.ev_tmp, Fr.ev_const, Fr.up_get, Nat.reduceLT, Nat.reduceEqDiff, ↓reduceIte, t0, t1]; try rfl) ?_
    refine Fr.l_mv rfl rfl (Fr.w_none rfl) (by simp only [Fr.ev_tmp, Fr.ev_const, Fr.up_get, Nat.reduceLT, Nat.reduceEqDiff, ↓reduceIte, t0, t1]; try rfl) ?_
    (refine Fr.l_call rfl (Fr.w_none rfl) (by go_simp; first | done | (with_reducible rfl) | (with_reducible exact ⟨rfl, rfl⟩) | (with_reducible exact ⟨⟨rfl, rfl⟩, rfl⟩)) ?_; refine (a2Long_any _ _ _ _ _ _ _ hn2 hm2).mono ?_; rintro e w0 ⟨rfl, rfl⟩; refine ⟨_, rfl, ?_⟩)
    rw [hL]
    refine Fr.l_nil ?_
    refine Fr.l_cond (t := false) (by simp only [Fr.ev_tmp, Fr.ev_const, Fr.up_get, Nat.reduceLT, Nat.reduceEqDiff, ↓reduceIte]; try rfl) (fun h => absurd h (by decide)) (fun _ => ?_)
    refine wp_skip ?_
    clear hL
    refine wp_seq ?_
    refine wp_region_lit ?_
    refine Fr.l_mv rfl rfl (Fr.w_none rfl) (by simp only [Fr.ev_tmp, Fr.ev_const, Fr.up_get, Nat.reduceLT, Nat.reduceEqDiff, ↓reduceIte, t0, t1]; try rfl) ?_
    (refine Fr.l_call rfl (Fr.w_none rfl) (by go_simp; first | done | (with_reducible rfl) | (with_reducible exact ⟨rfl, rfl⟩) | (with_reducible exact ⟨⟨rfl, rfl⟩, rfl⟩)) ?_; refine (a2Train_any _ _ _ _ H1.out).mono ?_; rintro e w1 ⟨uT, ps, rfl, hoT, hlT, hpT, hb1⟩; refine ⟨_, rfl, ?_⟩)
    refine Fr.l_as rfl rfl (Fr.w_none rfl) (by simp only [Fr.ev_tmp, Fr.ev_const, Fr.up_get, Nat.reduceLT, Nat.reduceEqDiff, ↓reduceIte, t0, t1]; try rfl) ?_
    refine Fr.l_nil ?_
    refine wp_seq ?_
    refine wp_region_lit ?_
    refine Fr.l_mv rfl rfl (Fr.w_none rfl) (by simp only [Fr.ev_tmp, Fr.ev_const, Fr.up_get, Nat.reduceLT, Nat.reduceEqDiff, ↓reduceIte, t0, t1]; try rfl) ?_
    (refine Fr.l_call rfl (Fr.w_none rfl) (by go_simp; first | done | (with_reducible rfl) | (with_reducible exact ⟨rfl, rfl⟩) | (with_reducible exact ⟨⟨rfl, rfl⟩, rfl⟩)) ?_; refine (a2Number_any _ _ _ _ (bytes_go H2.out hb1)).mono ?_; rintro e w2 ⟨r, x, rfl, hr, hrl, x0, x1, hb2⟩; refine ⟨_, rfl, ?_⟩)
    have hb := below_then hb1 hb2
    refine Fr.l_as rfl rfl (Fr.w_none rfl) (by simp only [Fr.ev_tmp, Fr.ev_const, Fr.up_get, Nat.reduceLT, Nat.reduceEqDiff, ↓reduceIte, t0, t1]; try rfl) ?_
    refine Fr.l_nil ?_
    refine wp_seq ?_
    refine wp_region_lit ?_
    refine Fr.l_val rfl (Fr.w_none rfl) (by go_simp; first | done | (with_reducible rfl) | (with_reducible exact ⟨rfl, rfl⟩) | (with_reducible exact ⟨⟨rfl, rfl⟩, rfl⟩)) ?_
    refine Fr.l_mv rfl rfl (Fr.w_none rfl) (by simp only [Fr.ev_tmp, Fr.ev_const, Fr.up_get, Nat.reduceLT, Nat.reduceEqDiff, ↓reduceIte, t0, t1]; try rfl) ?_
    (refine wpList_append_bytes rfl (.tmp 55) (.tmp 56) rfl _ b m d (by rw [Fr.eval_fr]; simp only [Fr.ev_tmp, Fr.up_get, Nat.reduceLT, Nat.reduceEqDiff, ↓reduceIte]) (by rw [Fr.eval_fr]; simp only [Fr.ev_tmp, Fr.up_get, Nat.reduceLT, Nat.reduceEqDiff, ↓reduceIte]) (bytes_go H2.out hb) (by omega) ?_; intro a5 c5 w3 hB5 hb3; rw [Fr.put_fr]; replace hb := below_then hb hb3)
    (refine Fr.l_call rfl (Fr.w_none rfl) (by go_simp; first | done | (with_reducible rfl) | (with_reducible exact ⟨rfl, rfl⟩) | (with_reducible exact ⟨⟨rfl, rfl⟩, rfl⟩)) ?_; refine (a2Number_any _ _ _ _ hB5).mono ?_; rintro e w4 ⟨s, y, rfl, hs, hsl, y0, y1, hb4⟩; refine ⟨_, rfl, ?_⟩)
    replace hb := below_then hb hb4
    refine Fr.l_as rfl rfl (Fr.w_none rfl) (by simp only [Fr.ev_tmp, Fr.ev_const, Fr.up_get, Nat.reduceLT, Nat.reduceEqDiff, ↓reduceIte, t0, t1]; try rfl) ?_
    refine Fr.l_nil ?_
    obtain ⟨hpR, hpP⟩ := fewR x0 x1
    obtain ⟨hqR, hqP⟩ := fewR y0 y1
    obtain rfl : r = fewC x := F_of_cn hr hpR.1
    obtain rfl : s = fewC y := F_of_cn hs hqR.1
    clear hr hs hB5 hrl hsl
    obtain ⟨p, hp⟩ : ∃ p, p = fewC x := ⟨_, rfl⟩
    obtain ⟨q, hq⟩ : ∃ q, q = fewC y := ⟨_, rfl⟩
    rw [← hp] at hpR hpP ⊢
    rw [← hq] at hqR hqP ⊢
    clear hp hq x0 x1 y0 y1
    have s1 := hb1.size
    have hoT := own_after (own_after (own_after hoT hb2) hb3) hb4
    -- the facts on the train
    have hTB : trainB ps = true := by
      simp only [trainB, withinB, Bool.and_eq_true, decide_eq_true_eq, List.all_eq_true]
      exact ⟨by omega, fun z hz => (hpT z hz).1⟩
    have hTK : ∀ z ∈ ps, TOk z := fun z hz => by
      obtain ⟨⟨k0, k1⟩, ⟨k2, k3⟩, _⟩ := pg_teeth (hpT z hz)
      exact ⟨⟨by omega, by omega⟩, ⟨by omega, by omega⟩, (hpT z hz).2.2⟩
    have hTr : Tr w4 uT ps := tr_of_row hoT hTK
    obtain ⟨gT, kT, rfl, hgT, hgTs⟩ := own_some hoT (by omega)
    have hpl : p < 2 ^ 32 := hpR.1.2
    have hql : q < 2 ^ 32 := hqR.1.2
    have hkp : askK ps p = 0 := by simp [askK, hTB, hpP]
    have hkq : askK ps q = 0 := by simp [askK, hTB, hqP]
    have hk2 : ask2K ps p q = 0 := by simp [ask2K, hTB, hpP, hqP]
    have eS : speedsR ps p = _ := if_pos hkp
    have eT : torquesR ps q = _ := if_pos hkq
    have eP : powersR ps p q = _ := if_pos hk2
    have HTr := Lib.hid hTr
    have HoT := Lib.hid hoT
    have HpT := Lib.hid hpT
    have HB := Lib.hid hTB
    have HTK := Lib.hid hTK
    clear hTr hoT hpT hTB hTK hpP hqP hb1 hb2 hb3 hb4
    have C1 := Lib.hid (fun w0 h0 => by have := implSpeedsOf_any ps (.slice (some ⟨gT, 0, none⟩) ps.length kT) p hpl w0 h0; rw [hkp, eS] at this; exact this)
    have C2 := Lib.hid (fun w0 h0 => by have := specSpeedsOf_any ps (.slice (some ⟨gT, 0, none⟩) ps.length kT) p hpl w0 h0; rw [hkp, eS] at this; exact this)
    have C3 := Lib.hid (fun w0 h0 => by have := implTorquesOf_any ps (.slice (some ⟨gT, 0, none⟩) ps.length kT) q hql w0 h0; rw [hkq, eT] at this; exact this)
    have C4 := Lib.hid (fun w0 h0 => by have := specTorquesOf_any ps (.slice (some ⟨gT, 0, none⟩) ps.length kT) q hql w0 h0; rw [hkq, eT] at this; exact this)
    have C5 := Lib.hid (fun w0 h0 => by have := implPowersOf_any ps (.slice (some ⟨gT, 0, none⟩) ps.length kT) p q hpl hql w0 h0; rw [hk2, eP] at this; exact this)
    have C6 := Lib.hid (fun w0 h0 => by have := specPowersOf_any ps (.slice (some ⟨gT, 0, none⟩) ps.length kT) p q hpl hql w0 h0; rw [hk2, eP] at this; exact this)
    have C7 := Lib.hid (fun w0 h0 => by have := implLostPower_any ps (.slice (some ⟨gT, 0, none⟩) ps.length kT) p q hpl hql w0 h0; rw [hk2] at this; exact this)
    clear eS eT eP hkp hkq
    refine wp_seq ?_
    refine wp_region_lit ?_
    refine Fr.l_mv rfl rfl (Fr.w_none rfl) (by simp only [Fr.ev_tmp, Fr.ev_const, Fr.up_get, Nat.reduceLT, Nat.reduceEqDiff, ↓reduceIte]; try rfl) ?_
    refine Fr.l_mv rfl rfl (Fr.w_none rfl) (by simp only [Fr.ev_tmp, Fr.ev_const, Fr.up_get, Nat.reduceLT, Nat.reduceEqDiff, ↓reduceIte]; try rfl) ?_
    (refine Fr.l_call rfl (Fr.w_none rfl) (by go_simp; first | done | (with_reducible rfl) | (with_reducible exact ⟨rfl, rfl⟩) | (with_reducible exact ⟨⟨rfl, rfl⟩, rfl⟩)) ?_; refine (C1.out _ HTr.out).mono ?_; rintro e w5 ⟨v1, z1, rfl, ho1, hS1, hz1, hb5⟩; refine ⟨_, rfl, ?_⟩)
    refine Fr.l_mv rfl rfl (Fr.w_none rfl) (by simp only [Fr.ev_tmp, Fr.ev_const, Fr.up_get, Nat.reduceLT, Nat.reduceEqDiff, ↓reduceIte]; try rfl) ?_
    refine Fr.l_val rfl (Fr.w_none rfl) (by go_simp; first | done | (with_reducible rfl) | (with_reducible exact ⟨rfl, rfl⟩) | (with_reducible exact ⟨⟨rfl, rfl⟩, rfl⟩)) ?_
    refine Fr.l_val rfl (Fr.w_none rfl) (by go_simp; first | done | (with_reducible rfl) | (with_reducible exact ⟨rfl, rfl⟩) | (with_reducible exact ⟨⟨rfl, rfl⟩, rfl⟩)) ?_
    refine Fr.l_as rfl rfl (Fr.w_none rfl) (by simp only [Fr.ev_tmp, Fr.ev_const, Fr.up_get, Nat.reduceLT, Nat.reduceEqDiff, ↓reduceIte]; try rfl) ?_
    refine Fr.l_as rfl rfl (Fr.w_none rfl) (by simp only [Fr.ev_tmp, Fr.ev_const, Fr.up_get, Nat.reduceLT, Nat.reduceEqDiff, ↓reduceIte]; try rfl) ?_
    refine Fr.l_nil ?_
    refine wp_seq ?_
    refine wp_region_lit ?_
    refine Fr.l_mv rfl rfl (Fr.w_none rfl) (by simp only [Fr.ev_tmp, Fr.ev_const, Fr.up_get, Nat.reduceLT, Nat.reduceEqDiff, ↓reduceIte]; try rfl) ?_
    refine Fr.l_mv rfl rfl (Fr.w_none rfl) (by simp only [Fr.ev_tmp, Fr.ev_const, Fr.up_get, Nat.reduceLT, Nat.reduceEqDiff, ↓reduceIte]; try rfl) ?_
    (refine Fr.l_call rfl (Fr.w_none rfl) (by go_simp; first | done | (with_reducible rfl) | (with_reducible exact ⟨rfl, rfl⟩) | (with_reducible exact ⟨⟨rfl, rfl⟩, rfl⟩)) ?_; refine (C2.out _ (HTr.out.below hb5)).mono ?_; rintro e w6 ⟨v2, z2, rfl, ho2, hS2, hz2, hb6⟩; refine ⟨_, rfl, ?_⟩)
    have hbb := below_then hb5 hb6
    refine Fr.l_mv rfl rfl (Fr.w_none rfl) (by simp only [Fr.ev_tmp, Fr.ev_const, Fr.up_get, Nat.reduceLT, Nat.reduceEqDiff, ↓reduceIte]; try rfl) ?_
    refine Fr.l_val rfl (Fr.w_none rfl) (by go_simp; first | done | (with_reducible rfl) | (with_reducible exact ⟨rfl, rfl⟩) | (with_reducible exact ⟨⟨rfl, rfl⟩, rfl⟩)) ?_
    refine Fr.l_val rfl (Fr.w_none rfl) (by go_simp; first | done | (with_reducible rfl) | (with_reducible exact ⟨rfl, rfl⟩) | (with_reducible exact ⟨⟨rfl, rfl⟩, rfl⟩)) ?_
    refine Fr.l_as rfl rfl (Fr.w_none rfl) (by simp only [Fr.ev_tmp, Fr.ev_const, Fr.up_get, Nat.reduceLT, Nat.reduceEqDiff, ↓reduceIte]; try rfl) ?_
    refine Fr.l_as rfl rfl (Fr.w_none rfl) (by simp only [Fr.ev_tmp, Fr.ev_const, Fr.up_get, Nat.reduceLT, Nat.reduceEqDiff, ↓reduceIte]; try rfl) ?_
    refine Fr.l_nil ?_
    refine wp_seq ?_
    refine wp_region_lit ?_
    refine Fr.l_mv rfl rfl (Fr.w_none rfl) (by simp only [Fr.ev_tmp, Fr.ev_const, Fr.up_get, Nat.reduceLT, Nat.reduceEqDiff, ↓reduceIte]; try rfl) ?_
    refine Fr.l_mv rfl rfl (Fr.w_none rfl) (by simp only [Fr.ev_tmp, Fr.ev_const, Fr.up_get, Nat.reduceLT, Nat.reduceEqDiff, ↓reduceIte]; try rfl) ?_
    (refine Fr.l_call rfl (Fr.w_none rfl) (by go_simp; first | done | (with_reducible rfl) | (with_reducible exact ⟨rfl, rfl⟩) | (with_reducible exact ⟨⟨rfl, rfl⟩, rfl⟩)) ?_; refine (C3.out _ (HTr.out.below hbb)).mono ?_; rintro e w7 ⟨v3, z3, rfl, ho3, hS3, hz3, hb7⟩; refine ⟨_, rfl, ?_⟩)
    replace hbb := below_then hbb hb7
    refine Fr.l_mv rfl rfl (Fr.w_none rfl) (by simp only [Fr.ev_tmp, Fr.ev_const, Fr.up_get, Nat.reduceLT, Nat.reduceEqDiff, ↓reduceIte]; try rfl) ?_
    refine Fr.l_val rfl (Fr.w_none rfl) (by go_simp; first | done | (with_reducible rfl) | (with_reducible exact ⟨rfl, rfl⟩) | (with_reducible exact ⟨⟨rfl, rfl⟩, rfl⟩)) ?_
    refine Fr.l_val rfl (Fr.w_none rfl) (by go_simp; first | done | (with_reducible rfl) | (with_reducible exact ⟨rfl, rfl⟩) | (with_reducible exact ⟨⟨rfl, rfl⟩, rfl⟩)) ?_
    refine Fr.l_as rfl rfl (Fr.w_none rfl) (by simp only [Fr.ev_tmp, Fr.ev_const, Fr.up_get, Nat.reduceLT, Nat.reduceEqDiff, ↓reduceIte]; try rfl) ?_
    refine Fr.l_as rfl rfl (Fr.w_none rfl) (by simp only [Fr.ev_tmp, Fr.ev_const, Fr.up_get, Nat.reduceLT, Nat.reduceEqDiff, ↓reduceIte]; try rfl) ?_
    refine Fr.l_nil ?_
    refine wp_seq ?_
    refine wp_region_lit ?_
    refine Fr.l_mv rfl rfl (Fr.w_none rfl) (by simp only [Fr.ev_tmp, Fr.ev_const, Fr.up_get, Nat.reduceLT, Nat.reduceEqDiff, ↓reduceIte]; try rfl) ?_
    refine Fr.l_mv rfl rfl (Fr.w_none rfl) (by simp only [Fr.ev_tmp, Fr.ev_const, Fr.up_get, Nat.reduceLT, Nat.reduceEqDiff, ↓reduceIte]; try rfl) ?_
    (refine Fr.l_call rfl (Fr.w_none rfl) (by go_simp; first | done | (with_reducible rfl) | (with_reducible exact ⟨rfl, rfl⟩) | (with_reducible exact ⟨⟨rfl, rfl⟩, rfl⟩)) ?_; refine (C4.out _ (HTr.out.below hbb)).mono ?_; rintro e w8 ⟨v4, z4, rfl, ho4, hS4, hz4, hb8⟩; refine ⟨_, rfl, ?_⟩)
    replace hbb := below_then hbb hb8
    refine Fr.l_mv rfl rfl (Fr.w_none rfl) (by simp only [Fr.ev_tmp, Fr.ev_const, Fr.up_get, Nat.reduceLT, Nat.reduceEqDiff, ↓reduceIte]; try rfl) ?_
    refine Fr.l_val rfl (Fr.w_none rfl) (by go_simp; first | done | (with_reducible rfl) | (with_reducible exact ⟨rfl, rfl⟩) | (with_reducible exact ⟨⟨rfl, rfl⟩, rfl⟩)) ?_
    refine Fr.l_val rfl (Fr.w_none rfl) (by go_simp; first | done | (with_reducible rfl) | (with_reducible exact ⟨rfl, rfl⟩) | (with_reducible exact ⟨⟨rfl, rfl⟩, rfl⟩)) ?_
    refine Fr.l_as rfl rfl (Fr.w_none rfl) (by simp only [Fr.ev_tmp, Fr.ev_const, Fr.up_get, Nat.reduceLT, Nat.reduceEqDiff, ↓reduceIte]; try rfl) ?_
    refine Fr.l_as rfl rfl (Fr.w_none rfl) (by simp only [Fr.ev_tmp, Fr.ev_const, Fr.up_get, Nat.reduceLT, Nat.reduceEqDiff, ↓reduceIte]; try rfl) ?_
    refine Fr.l_nil ?_
    refine wp_seq ?_
    refine wp_region_lit ?_
    refine Fr.l_mv rfl rfl (Fr.w_none rfl) (by simp only [Fr.ev_tmp, Fr.ev_const, Fr.up_get, Nat.reduceLT, Nat.reduceEqDiff, ↓reduceIte]; try rfl) ?_
    refine Fr.l_mv rfl rfl (Fr.w_none rfl) (by simp only [Fr.ev_tmp, Fr.ev_const, Fr.up_get, Nat.reduceLT, Nat.reduceEqDiff, ↓reduceIte]; try rfl) ?_
    refine Fr.l_mv rfl rfl (Fr.w_none rfl) (by simp only [Fr.ev_tmp, Fr.ev_const, Fr.up_get, Nat.reduceLT, Nat.reduceEqDiff, ↓reduceIte]; try rfl) ?_
    (refine Fr.l_call rfl (Fr.w_none rfl) (by go_simp; first | done | (with_reducible rfl) | (with_reducible exact ⟨rfl, rfl⟩) | (with_reducible exact ⟨⟨rfl, rfl⟩, rfl⟩)) ?_; refine (C5.out _ (HTr.out.below hbb)).mono ?_; rintro e w9 ⟨v5, z5, rfl, ho5, hS5, hz5, hb9⟩; refine ⟨_, rfl, ?_⟩)
    replace hbb := below_then hbb hb9
    refine Fr.l_mv rfl rfl (Fr.w_none rfl) (by simp only [Fr.ev_tmp, Fr.ev_const, Fr.up_get, Nat.reduceLT, Nat.reduceEqDiff, ↓reduceIte]; try rfl) ?_
    refine Fr.l_val rfl (Fr.w_none rfl) (by go_simp; first | done | (with_reducible rfl) | (with_reducible exact ⟨rfl, rfl⟩) | (with_reducible exact ⟨⟨rfl, rfl⟩, rfl⟩)) ?_
    refine Fr.l_val rfl (Fr.w_none rfl) (by go_simp; first | done | (with_reducible rfl) | (with_reducible exact ⟨rfl, rfl⟩) | (with_reducible exact ⟨⟨rfl, rfl⟩, rfl⟩)) ?_
    refine Fr.l_as rfl rfl (Fr.w_none rfl) (by simp only [Fr.ev_tmp, Fr.ev_const, Fr.up_get, Nat.reduceLT, Nat.reduceEqDiff, ↓reduceIte]; try rfl) ?_
    refine Fr.l_as rfl rfl (Fr.w_none rfl) (by simp only [Fr.ev_tmp, Fr.ev_const, Fr.up_get, Nat.reduceLT, Nat.reduceEqDiff, ↓reduceIte]; try rfl) ?_
    refine Fr.l_nil ?_
    refine wp_seq ?_
    refine wp_region_lit ?_
    refine Fr.l_mv rfl rfl (Fr.w_none rfl) (by simp only [Fr.ev_tmp, Fr.ev_const, Fr.up_get, Nat.reduceLT, Nat.reduceEqDiff, ↓reduceIte]; try rfl) ?_
    refine Fr.l_mv rfl rfl (Fr.w_none rfl) (by simp only [Fr.ev_tmp, Fr.ev_const, Fr.up_get, Nat.reduceLT, Nat.reduceEqDiff, ↓reduceIte]; try rfl) ?_
    refine Fr.l_mv rfl rfl (Fr.w_none rfl) (by simp only [Fr.ev_tmp, Fr.ev_const, Fr.up_get, Nat.reduceLT, Nat.reduceEqDiff, ↓reduceIte]; try rfl) ?_
    (refine Fr.l_call rfl (Fr.w_none rfl) (by go_simp; first | done | (with_reducible rfl) | (with_reducible exact ⟨rfl, rfl⟩) | (with_reducible exact ⟨⟨rfl, rfl⟩, rfl⟩)) ?_; refine (C6.out _ (HTr.out.below hbb)).mono ?_; rintro e w10 ⟨v6, z6, rfl, ho6, hS6, hz6, hb10⟩; refine ⟨_, rfl, ?_⟩)
    replace hbb := below_then hbb hb10
    refine Fr.l_mv rfl rfl (Fr.w_none rfl) (by simp only [Fr.ev_tmp, Fr.ev_const, Fr.up_get, Nat.reduceLT, Nat.reduceEqDiff, ↓reduceIte]; try rfl) ?_
    refine Fr.l_val rfl (Fr.w_none rfl) (by go_simp; first | done | (with_reducible rfl) | (with_reducible exact ⟨rfl, rfl⟩) | (with_reducible exact ⟨⟨rfl, rfl⟩, rfl⟩)) ?_
    refine Fr.l_val rfl (Fr.w_none rfl) (by go_simp; first | done | (with_reducible rfl) | (with_reducible exact ⟨rfl, rfl⟩) | (with_reducible exact ⟨⟨rfl, rfl⟩, rfl⟩)) ?_
    refine Fr.l_as rfl rfl (Fr.w_none rfl) (by simp only [Fr.ev_tmp, Fr.ev_const, Fr.up_get, Nat.reduceLT, Nat.reduceEqDiff, ↓reduceIte]; try rfl) ?_
    refine Fr.l_as rfl rfl (Fr.w_none rfl) (by simp only [Fr.ev_tmp, Fr.ev_const, Fr.up_get, Nat.reduceLT, Nat.reduceEqDiff, ↓reduceIte]; try rfl) ?_
    refine Fr.l_nil ?_
    refine wp_seq ?_
    refine wp_region_lit ?_
    refine Fr.l_mv rfl rfl (Fr.w_none rfl) (by simp only [Fr.ev_tmp, Fr.ev_const, Fr.up_get, Nat.reduceLT, Nat.reduceEqDiff, ↓reduceIte]; try rfl) ?_
    (refine Fr.l_call rfl (Fr.w_none rfl) (by go_simp; first | done | (with_reducible rfl) | (with_reducible exact ⟨rfl, rfl⟩) | (with_reducible exact ⟨⟨rfl, rfl⟩, rfl⟩)) ?_; refine (implEfficiencyOf_any ps _ _ (HTr.out.below hbb)).mono ?_; rintro e w11 ⟨l1, rfl, hl1, hl1b, hb11⟩; refine ⟨_, rfl, ?_⟩)
    replace hbb := below_then hbb hb11
    refine Fr.l_mv rfl rfl (Fr.w_none rfl) (by simp only [Fr.ev_tmp, Fr.ev_const, Fr.up_get, Nat.reduceLT, Nat.reduceEqDiff, ↓reduceIte]; try rfl) ?_
    refine Fr.l_val rfl (Fr.w_none rfl) (by go_simp; first | done | (with_reducible rfl) | (with_reducible exact ⟨rfl, rfl⟩) | (with_reducible exact ⟨⟨rfl, rfl⟩, rfl⟩)) ?_
    refine Fr.l_val rfl (Fr.w_none rfl) (by go_simp; first | done | (with_reducible rfl) | (with_reducible exact ⟨rfl, rfl⟩) | (with_reducible exact ⟨⟨rfl, rfl⟩, rfl⟩)) ?_
    refine Fr.l_as rfl rfl (Fr.w_none rfl) (by simp only [Fr.ev_tmp, Fr.ev_const, Fr.up_get, Nat.reduceLT, Nat.reduceEqDiff, ↓reduceIte]; try rfl) ?_
    refine Fr.l_as rfl rfl (Fr.w_none rfl) (by simp only [Fr.ev_tmp, Fr.ev_const, Fr.up_get, Nat.reduceLT, Nat.reduceEqDiff, ↓reduceIte]; try rfl) ?_
    refine Fr.l_nil ?_
    refine wp_seq ?_
    refine wp_region_lit ?_
    refine Fr.l_mv rfl rfl (Fr.w_none rfl) (by simp only [Fr.ev_tmp, Fr.ev_const, Fr.up_get, Nat.reduceLT, Nat.reduceEqDiff, ↓reduceIte]; try rfl) ?_
    (refine Fr.l_call rfl (Fr.w_none rfl) (by go_simp; first | done | (with_reducible rfl) | (with_reducible exact ⟨rfl, rfl⟩) | (with_reducible exact ⟨⟨rfl, rfl⟩, rfl⟩)) ?_; refine (specEfficiencyOf_any ps _ _ (HTr.out.below hbb)).mono ?_; rintro e w12 ⟨l2, rfl, hl2, hl2b, hb12⟩; refine ⟨_, rfl, ?_⟩)
    replace hbb := below_then hbb hb12
    refine Fr.l_mv rfl rfl (Fr.w_none rfl) (by simp only [Fr.ev_tmp, Fr.ev_const, Fr.up_get, Nat.reduceLT, Nat.reduceEqDiff, ↓reduceIte]; try rfl) ?_
    refine Fr.l_val rfl (Fr.w_none rfl) (by go_simp; first | done | (with_reducible rfl) | (with_reducible exact ⟨rfl, rfl⟩) | (with_reducible exact ⟨⟨rfl, rfl⟩, rfl⟩)) ?_
    refine Fr.l_val rfl (Fr.w_none rfl) (by go_simp; first | done | (with_reducible rfl) | (with_reducible exact ⟨rfl, rfl⟩) | (with_reducible exact ⟨⟨rfl, rfl⟩, rfl⟩)) ?_
    refine Fr.l_as rfl rfl (Fr.w_none rfl) (by simp only [Fr.ev_tmp, Fr.ev_const, Fr.up_get, Nat.reduceLT, Nat.reduceEqDiff, ↓reduceIte]; try rfl) ?_
    refine Fr.l_as rfl rfl (Fr.w_none rfl) (by simp only [Fr.ev_tmp, Fr.ev_const, Fr.up_get, Nat.reduceLT, Nat.reduceEqDiff, ↓reduceIte]; try rfl) ?_
    refine Fr.l_nil ?_
    refine wp_seq ?_
    refine wp_region_lit ?_
    refine Fr.l_mv rfl rfl (Fr.w_none rfl) (by simp only [Fr.ev_tmp, Fr.ev_const, Fr.up_get, Nat.reduceLT, Nat.reduceEqDiff, ↓reduceIte]; try rfl) ?_
    refine Fr.l_mv rfl rfl (Fr.w_none rfl) (by simp only [Fr.ev_tmp, Fr.ev_const, Fr.up_get, Nat.reduceLT, Nat.reduceEqDiff, ↓reduceIte]; try rfl) ?_
    refine Fr.l_mv rfl rfl (Fr.w_none rfl) (by simp only [Fr.ev_tmp, Fr.ev_const, Fr.up_get, Nat.reduceLT, Nat.reduceEqDiff, ↓reduceIte]; try rfl) ?_
    (refine Fr.l_call rfl (Fr.w_none rfl) (by go_simp; first | done | (with_reducible rfl) | (with_reducible exact ⟨rfl, rfl⟩) | (with_reducible exact ⟨⟨rfl, rfl⟩, rfl⟩)) ?_; refine (C7.out _ (HTr.out.below hbb)).mono ?_; rintro e w13 ⟨l3, rfl, hl3, hl3b, hb13⟩; refine ⟨_, rfl, ?_⟩)
    replace hbb := below_then hbb hb13
    refine Fr.l_mv rfl rfl (Fr.w_none rfl) (by simp only [Fr.ev_tmp, Fr.ev_const, Fr.up_get, Nat.reduceLT, Nat.reduceEqDiff, ↓reduceIte]; try rfl) ?_
    refine Fr.l_val rfl (Fr.w_none rfl) (by go_simp; first | done | (with_reducible rfl) | (with_reducible exact ⟨rfl, rfl⟩) | (with_reducible exact ⟨⟨rfl, rfl⟩, rfl⟩)) ?_
    refine Fr.l_val rfl (Fr.w_none rfl) (by go_simp; first | done | (with_reducible rfl) | (with_reducible exact ⟨rfl, rfl⟩) | (with_reducible exact ⟨⟨rfl, rfl⟩, rfl⟩)) ?_
    refine Fr.l_as rfl rfl (Fr.w_none rfl) (by simp only [Fr.ev_tmp, Fr.ev_const, Fr.up_get, Nat.reduceLT, Nat.reduceEqDiff, ↓reduceIte]; try rfl) ?_
    refine Fr.l_as rfl rfl (Fr.w_none rfl) (by simp only [Fr.ev_tmp, Fr.ev_const, Fr.up_get, Nat.reduceLT, Nat.reduceEqDiff, ↓reduceIte]; try rfl) ?_
    refine Fr.l_nil ?_
    have D11 := below_then hb12 hb13
    have D10 := below_then hb11 D11
    have D9 := below_then hb10 D10
    have D8 := below_then hb9 D9
    have D7 := below_then hb8 D8
    have D6 := below_then hb7 D7
    have D5 := below_then hb6 D6
    have O1 := own_after ho1 D5
    have O2 := own_after ho2 D6
    have O3 := own_after ho3 D7
    have O4 := own_after ho4 D8
    have O5 := own_after ho5 D9
    have O6 := own_after ho6 D10
    have L1 : z1.length = ps.length + 1 := by rw [hS1.1, scanR_len]
    have L2 : z2.length = ps.length + 1 := by rw [hS2.1, scanR_len]
    have L3 : z3.length = ps.length + 1 := by rw [hS3.1, scanR_len]
    have L4 : z4.length = ps.length + 1 := by rw [hS4.1, scanR_len]
    have L5 : z5.length = ps.length + 1 := by rw [hS5.1, powS_len]
    have L6 : z6.length = ps.length + 1 := by rw [hS6.1, powS_len]
    have Z1 := fs_of_own O1
    have Z2 := fs_of_own O2
    have Z3 := fs_of_own O3
    have Z4 := fs_of_own O4
    have Z5 := fs_of_own O5
    have Z6 := fs_of_own O6
    rw [L1] at O1
    rw [L2] at O2
    rw [L3] at O3
    rw [L4] at O4
    rw [L5] at O5
    rw [L6] at O6
    obtain ⟨g1, k1, rfl, _, _⟩ := own_some O1 (by omega)
    obtain ⟨g2, k2, rfl, _, G2⟩ := own_some O2 (by omega)
    obtain ⟨g3, k3, rfl, _, _⟩ := own_some O3 (by omega)
    obtain ⟨g4, k4, rfl, _, G4⟩ := own_some O4 (by omega)
    obtain ⟨g5, k5, rfl, _, _⟩ := own_some O5 (by omega)
    obtain ⟨g6, k6, rfl, _, G6⟩ := own_some O6 (by omega)
    have SS := Lib.hid (hS1.trans hS2.symm)
    have ST := Lib.hid (hS3.trans hS4.symm)
    have SP := Lib.hid (hS5.trans hS6.symm)
    have HZ1 := Lib.hid Z1
    have HZ2 := Lib.hid Z2
    have HZ3 := Lib.hid Z3
    have HZ4 := Lib.hid Z4
    have HZ5 := Lib.hid Z5
    have HZ6 := Lib.hid Z6
    have HO2 := Lib.hid O2
    have HO4 := Lib.hid O4
    have HO6 := Lib.hid O6
    have HS2 := Lib.hid hS2
    have HS4 := Lib.hid hS4
    have HS6 := Lib.hid hS6
    have HL2 := Lib.hid L2
    have HL4 := Lib.hid L4
    have HL6 := Lib.hid L6
    have hTr13 := HTr.out.below hbb
    have HT13 := Lib.hid hTr13
    have HoT13 := Lib.hid (own_after HoT.out hbb)
    have hbW := below_then hb hbb
    have s13 := hbW.size
    have HW := Lib.hid hbW
    -- the part that is kept
    obtain ⟨eF, e0, e1⟩ := eff_range hlT.2 HpT.out
    have hl1' : cn l1 = effC ps := by rw [hl1, HB.out]; rfl
    have hl2' : cn l2 = effC ps := by rw [hl2, HB.out]; rfl
    obtain rfl : l1 = effC ps := F_of_cn hl1' eF
    obtain rfl : l2 = effC ps := F_of_cn hl2' eF
    have hok : okK (trainB ps) = 0 := by rw [HB.out]; rfl
    rw [hok]
    have hse : sameB (effC ps) (effC ps) = true := teq_refl _
    -- the first and the last power
    have hz60 : z6[0]? = some (powAt p q ps 0) := by
      have h0 : z6[0]? = some z6[0] := List.getElem?_eq_getElem (by omega)
      have := F_of_cn ((hS6.2 0 _ _ h0 (powS_get p q ps _ 0 (by omega))).trans (cn_cop _ _ _)) (axle hpR hqR hlT.2 HpT.out (Nat.zero_le _)).1
      rw [h0, this]
      rfl
    have hz6n : z6[ps.length]? = some (powAt p q ps ps.length) := by
      have h0 : z6[ps.length]? = some z6[ps.length] := List.getElem?_eq_getElem (by omega)
      have := F_of_cn ((hS6.2 _ _ _ h0 (powS_get p q ps _ ps.length (by omega))).trans (cn_cop _ _ _)) (axle hpR hqR hlT.2 HpT.out (Nat.le_refl _)).1
      rw [h0, this]
      rfl
    have c60 := own_cell O6 (cellF_at hz60)
    have c6n := own_cell O6 (cellF_at hz6n)
    have hlost : cn l3 = cop .sub (powAt p q ps 0) (powAt p q ps ps.length) := by rw [hl3, lostC, if_pos hk2]
    have hlen0 : (0 : Int) < (ps.length : Int) + 1 := by omega
    have hlenn : (ps.length : Int) < (ps.length : Int) + 1 := by omega
    have HZ1' := Lib.hid Z1
    have P6 : ∀ i, i ≤ ps.length → z6[i]? = some (powAt p q ps i) := fun i hi => by
      have h0 : z6[i]? = some z6[i] := List.getElem?_eq_getElem (by omega)
      have := F_of_cn ((hS6.2 i _ _ h0 (powS_get p q ps _ i (by omega))).trans (cn_cop _ _ _)) (axle hpR hqR hlT.2 HpT.out hi).1
      rw [h0, this]
      rfl
    have C6' : ∀ i, i ≤ ps.length → w13.cell? ⟨g6, i, none⟩ = some (.float .f32 (powAt p q ps i)) := fun i hi => own_cell O6 (cellF_at (P6 i hi))
    have C24 : ∀ i, i ≤ ps.length → ∃ x y, w13.cell? ⟨g2, i, none⟩ = some (.float .f32 x) ∧ w13.cell? ⟨g4, i, none⟩ = some (.float .f32 y) ∧ cop .mul x y = powAt p q ps i := fun i hi => by
      have h2 : z2[i]? = some z2[i] := List.getElem?_eq_getElem (by omega)
      have h4 : z4[i]? = some z4[i] := List.getElem?_eq_getElem (by omega)
      refine ⟨_, _, own_cell O2 (cellF_at h2), own_cell O4 (cellF_at h4), ?_⟩
      have e2 := hS2.2 i _ _ h2 (scanR_get _ _ _ _ _ (by omega))
      have e4 := hS4.2 i _ _ h4 (scanR_get _ _ _ _ _ (by omega))
      exact cop_congr e2 e4
    have HC6 := Lib.hid C6'
    have HC24 := Lib.hid C24
    clear P6 C6' C24
    clear D11 D10 D9 D8 D7 D6 D5 ho1 ho2 ho3 ho4 ho5 ho6 O1 O2 O3 O4 O5 O6 Z1 Z2 Z3 Z4 Z5 Z6 hS1 hS2 hS3 hS4 hS5 hS6 L1 L2 L3 L4 L5 L6 hl1 hl2 hl1' hl2' hl3 hz60 hz6n hTr13 hbW hb5 hb6 hb7 hb8 hb9 hb10 hb11 hb12 hb13 hbb hk2 hok HoT HTr HTK hl1b hl2b hl3b hpl hql hz1 hz2 hz3 hz4 hz5 hz6
    clear C1 C2 C3 C4 C5 C6 C7
    have hFs := ends_sub hpR hqR hlT.2 HpT.out
    have hb13' : BelowC w13 w13 := Below.refl _ _
    have hlost' : cn l3 = cop .sub (powAt p q ps 0) (powAt p q ps ps.length) := hlost
    refine Fr.name ?_
    intro f hf
    have f1 : f 1 = .slice b m d := by rw [hf]; simp only [Fr.up_get, Nat.reduceEqDiff, ↓reduceIte, t1]
    have f5 : f 5 = .slice (some ⟨gT, 0, none⟩) ps.length kT := by rw [hf]; simp only [Fr.up_get, Nat.reduceEqDiff, ↓reduceIte]
    have f6 : f 6 = .float .f32 p := by rw [hf]; simp only [Fr.up_get, Nat.reduceEqDiff, ↓reduceIte]
    have f7 : f 7 = .float .f32 q := by rw [hf]; simp only [Fr.up_get, Nat.reduceEqDiff, ↓reduceIte]
    have f8 : f 8 = .slice (some ⟨g1, 0, none⟩) (ps.length + 1) k1 := by rw [hf]; simp only [Fr.up_get, Nat.reduceEqDiff, ↓reduceIte]
    have f9 : f 9 = .int .i64 0 := by rw [hf]; simp only [Fr.up_get, Nat.reduceEqDiff, ↓reduceIte]
    have f10 : f 10 = .slice (some ⟨g2, 0, none⟩) (ps.length + 1) k2 := by rw [hf]; simp only [Fr.up_get, Nat.reduceEqDiff, ↓reduceIte]
    have f11 : f 11 = .int .i64 0 := by rw [hf]; simp only [Fr.up_get, Nat.reduceEqDiff, ↓reduceIte]
    have f12 : f 12 = .slice (some ⟨g3, 0, none⟩) (ps.length + 1) k3 := by rw [hf]; simp only [Fr.up_get, Nat.reduceEqDiff, ↓reduceIte]
    have f13 : f 13 = .int .i64 0 := by rw [hf]; simp only [Fr.up_get, Nat.reduceEqDiff, ↓reduceIte]
    have f14 : f 14 = .slice (some ⟨g4, 0, none⟩) (ps.length + 1) k4 := by rw [hf]; simp only [Fr.up_get, Nat.reduceEqDiff, ↓reduceIte]
    have f15 : f 15 = .int .i64 0 := by rw [hf]; simp only [Fr.up_get, Nat.reduceEqDiff, ↓reduceIte]
    have f16 : f 16 = .slice (some ⟨g5, 0, none⟩) (ps.length + 1) k5 := by rw [hf]; simp only [Fr.up_get, Nat.reduceEqDiff, ↓reduceIte]
    have f17 : f 17 = .int .i64 0 := by rw [hf]; simp only [Fr.up_get, Nat.reduceEqDiff, ↓reduceIte]
    have f18 : f 18 = .slice (some ⟨g6, 0, none⟩) (ps.length + 1) k6 := by rw [hf]; simp only [Fr.up_get, Nat.reduceEqDiff, ↓reduceIte]
    have f19 : f 19 = .int .i64 0 := by rw [hf]; simp only [Fr.up_get, Nat.reduceEqDiff, ↓reduceIte]
    have f20 : f 20 = .float .f32 (effC ps) := by rw [hf]; simp only [Fr.up_get, Nat.reduceEqDiff, ↓reduceIte]
    have f21 : f 21 = .int .i64 0 := by rw [hf]; simp only [Fr.up_get, Nat.reduceEqDiff, ↓reduceIte]
    have f22 : f 22 = .float .f32 (effC ps) := by rw [hf]; simp only [Fr.up_get, Nat.reduceEqDiff, ↓reduceIte]
    have f23 : f 23 = .int .i64 0 := by rw [hf]; simp only [Fr.up_get, Nat.reduceEqDiff, ↓reduceIte]
    have f24 : f 24 = .float .f32 l3 := by rw [hf]; simp only [Fr.up_get, Nat.reduceEqDiff, ↓reduceIte]
    have f25 : f 25 = .int .i64 0 := by rw [hf]; simp only [Fr.up_get, Nat.reduceEqDiff, ↓reduceIte]
    clear hf t0 t1
    refine Fr.wp_code (c' := (Fr.fs (Fr.sn (Fr.sn (Fr.sn (Fr.sn (Fr.sn (Fr.sn (Fr.sn (Fr.sn (Fr.sn (Fr.sn (Fr.sn (Fr.sn (Fr.sn (Fr.sn (B7)))))))))))))))).seq (Fr.sn (Fr.sn (Fr.sn (Fr.sn (Fr.sn (Fr.sn (Fr.sn (Fr.sn (Fr.sn (Fr.sn (Fr.sn (Fr.sn (Fr.sn (Fr.sn (Fr.sn (B7))))))))))))))))) (by kernel_rfl) ?_
    refine e15 (ps := ps) (p := p) (q := q) f5 f6 f7 f8 f9 f10 f11 f12 f13 f14 f15 f16 f17 f18 f19 f20 f21 f22 f23 f24 f25 HZ1.out HZ2.out HZ3.out HZ4.out HZ5.out HZ6.out SS.out ST.out SP.out hlT.2 hse e0 e1 c60 c6n hlost' ?_
    intro w14 g14 hb14 hA14 _
    refine tail (ps := ps) (p := p) (q := q) (W := w13) ((hA14 1 (by decide)).trans f1) ((hA14 5 (by decide)).trans f5) ((hA14 10 (by decide)).trans f10) ((hA14 14 (by decide)).trans f14) ((hA14 18 (by decide)).trans f18) ((hA14 22 (by decide)).trans f22) hpR hqR hlT HpT.out HB.out HC6.out HC24.out HT13.out HoT13.out (bytes_go H2.out HW.out) hb14 ?_
    intro w15 g15 hb15 h15
    refine Fr.ret (t := 4) rfl (by decide) ?_
    rw [h15]
    exact ⟨rfl, below_then HW.out hb15⟩
  · refine wp_seq ?_
    refine wp_region_lit ?_
    refine Fr.l_as rfl rfl (Fr.w_none rfl) (by simp only [Fr.ev_tmp, Fr.ev_const, Fr.up_get, Nat.reduceLT, Nat.reduceEqDiff, ↓reduceIte, t0, t1]; try rfl) ?_
    refine Fr.l_nil ?_
    refine wp_seq ?_
    refine wp_seq ?_
    refine wp_region_lit ?_
    refine Fr.l_mv rfl rfl (Fr.w_none rfl) (by simp only [Fr.ev_tmp, Fr.ev_const, Fr.up_get, Nat.reduceLT, Nat.reduceEqDiff, ↓reduceIte, t0, t1]; try rfl) ?_
    refine Fr.l_mv rfl rfl (Fr.w_none rfl) (by simp only [Fr.ev_tmp, Fr.ev_const, Fr.up_get, Nat.reduceLT, Nat.reduceEqDiff, ↓reduceIte, t0, t1]; try rfl) ?_
    (refine Fr.l_call rfl (Fr.w_none rfl) (by go_simp; first | done | (with_reducible rfl) | (with_reducible exact ⟨rfl, rfl⟩) | (with_reducible exact ⟨⟨rfl, rfl⟩, rfl⟩)) ?_; refine (a2Long_any _ _ _ _ _ _ _ hn2 hm2).mono ?_; rintro e w0 ⟨rfl, rfl⟩; refine ⟨_, rfl, ?_⟩)
    rw [hL]
    refine Fr.l_nil ?_
    refine Fr.l_cond (t := true) (by simp only [Fr.ev_tmp, Fr.ev_const, Fr.up_get, Nat.reduceLT, Nat.reduceEqDiff, ↓reduceIte]; try rfl) (fun _ => ?_) (fun h => absurd h (by decide))
    refine wp_seq ?_
    refine wp_region_lit ?_
    refine Fr.l_as rfl rfl (Fr.w_none rfl) (by simp only [Fr.ev_tmp, Fr.ev_const, Fr.up_get, Nat.reduceLT, Nat.reduceEqDiff, ↓reduceIte]; try rfl) ?_
    refine Fr.l_nil ?_
    refine wp_ret ?_
    refine Fr.then_ret ?_
    refine Fr.ret (t := 4) rfl (by decide) ?_
    refine ⟨?_, Below.refl _ _⟩
    simp only [Fr.up_get, ↓reduceIte]

end Go.Proofs.Ytkgfepakedieaaa.yTurnsOn

