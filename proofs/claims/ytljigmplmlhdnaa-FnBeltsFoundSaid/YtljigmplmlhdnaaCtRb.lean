/- Contracts: a radius is sought with which a belt has a length. -/
import Derived.Test.YtljigmplmlhdnaaCtRa
namespace Go.Proofs.Ytljigmplmlhdnaa
open Go.RowKit

theorem lengthC_cnB (e c m : Nat) (x : Bool) : lengthC e (cn m) c x = lengthC e m c x := by simp [lengthC, reachC, flt_cn_r]
/-- No longer than told, with a radius. -/
def rfP (e c : Nat) (x : Bool) (len m : Nat) : Bool := fle .f32 (lengthC e m c x) len
theorem rfP_cn (e c : Nat) (x : Bool) (len m : Nat) : rfP e c x len (cn m) = rfP e c x len m := by simp [rfP, lengthC_cnB]
def hiC (c e : Nat) : Nat := if flt .f32 1149239296 (cop .sub c e) then 1149239296 else cop .sub c e
def rfK (a b c d e : Nat) (x : Bool) (len : Nat) : Int :=
  if beltB a b c d then (if lengthB e && amountB len then (if flt .f32 (hiC c e) 1031798784 || flt .f32 len (lengthC e 1031798784 c x) then 6 else 0) else 2) else 1
def rfV (a b c d e : Nat) (x : Bool) (len : Nat) : Nat := if rfK a b c d e x len = 0 then (iterS (rfP e c x len) (cn 1031798784, hiC c e) 40).1 else 0

set_option maxHeartbeats 1000000 in
theorem lengthAt2_any (g g1 a b c d e : Nat) (x : Bool) (m : Nat) (w : World) (h : BeltAt w g 0 a b c d x) (hg : g < w.heap.size) (h1 : w.cell? ⟨g1, 0, none⟩ = some (.float .f32 e)) (hg1 : g1 < w.heap.size) :
    Calls Try.prog 67 #[.float .f32 m, .pointer (some ⟨g, 0, none⟩), .pointer (some ⟨g1, 0, none⟩)] w fun e' w' => ∃ r, e' = .returned (.float .f32 r) ∧ cn r = lengthC e m c x ∧ r < 2 ^ 32 ∧ Below w.heap.size w w' := by
  obtain ⟨c0, c1, c2, c3, c4⟩ := h
  go_enter Try.func67, Try.ntmps67
  go_wp2_with (go_at_call 54; refine (length_any _ 0 e m c d x _ (beltAt_box w 31 e m c d x)).mono ?_; (rintro e2 w2 ⟨r, n, rfl, hr, hl, rfl⟩; have HR := Lib.hid hr; clear hr))
  go_ret
  exact ⟨_, rfl, HR.out, hl, by (repeat' (first | (with_reducible exact Below.refl _ _) | (with_reducible assumption) | (with_reducible refine Below.alloc ?_ ?_ _) | (with_reducible refine below_drewN ?_ _) | (with_reducible refine Below.drew ?_) | (with_reducible refine Below.setCell ?_ ?_ _) | (with_reducible exact Nat.le_refl _) | omega | (simp only [World.size_alloc, World.size_setCell, World.size_drew, World.heap_drewN]; omega) | (simp; omega)))⟩

set_option maxHeartbeats 1000000 in
theorem isLow2_any (g ge g1 g2 a b c d e : Nat) (x : Bool) (len m : Nat) (w : World) (h : BeltAt w g 0 a b c d x) (hg : g < w.heap.size) (he : w.cell? ⟨ge, 0, none⟩ = some (.float .f32 e)) (hge : ge < w.heap.size)
    (h1 : w.cell? ⟨g1, 0, none⟩ = some (.func (Fn.func 67) #[] #[.pointer (some ⟨g, 0, none⟩), .pointer (some ⟨ge, 0, none⟩)])) (hg1 : g1 < w.heap.size) (h2 : w.cell? ⟨g2, 0, none⟩ = some (.float .f32 len)) (hg2 : g2 < w.heap.size) :
    Calls Try.prog 69 #[.float .f32 m, .pointer (some ⟨g1, 0, none⟩), .pointer (some ⟨g2, 0, none⟩)] w fun e' w' => e' = .returned (.bool (rfP e c x len m)) ∧ Below w.heap.size w w' := by
  have q1 := BelowC.cell h1 hg1
  have qe := BelowC.cell he hge
  have q2 := BelowC.cell h2 hg2
  have hdn := @BelowC.drewN w
  have HB := Lib.hid h
  have HE := Lib.hid he
  clear h h1 h2 he
  go_enter Try.func69, Try.ntmps69
  go_wp2
  refine Loose.wp_region (BelowC w) (Loose.Tab [(67, fun _ v => ∃ r, v = .float .f32 r ∧ cn r = lengthC e m c x ∧ r < 2 ^ 32)]) (by kernel_rfl) (by kernel_rfl) (BelowC.start w) ?_
  repeat (apply Loose.det; (focus rfl); (focus (intro wq hwq; go_simp; first | done | (with_reducible rfl))); (simp only [Act.put, List.setIfInBounds_toArray, List.set_cons_zero, List.set_cons_succ]))
  (apply Loose.callT; (focus rfl); (focus (intro wq hwq; go_simp; first | done | (with_reducible exact ⟨rfl, rfl⟩) | (with_reducible rfl))); (focus rfl); (focus (intro w1 h1; refine (lengthAt2_any g ge a b c d e x m _ (HB.out.belowW hg h1) (Nat.lt_of_lt_of_le hg h1.size) (qe _ h1) (Nat.lt_of_lt_of_le hge h1.size)).mono ?_; rintro e2 w2 ⟨r, rfl, hr, hl, h2⟩; exact ⟨_, rfl, ⟨r, rfl, hr, hl⟩, h1.call h2⟩)); (rintro v ⟨r, rfl, hr, hl⟩; simp only [Act.put, List.setIfInBounds_toArray, List.set_cons_zero, List.set_cons_succ]))
  repeat (apply Loose.det; (focus rfl); (focus (intro wq hwq; go_simp; first | done | (with_reducible rfl))); (simp only [Act.put, List.setIfInBounds_toArray, List.set_cons_zero, List.set_cons_succ]))
  refine Loose.done ?_
  intro w9 h9
  go_wp2
  go_ret
  exact ⟨by rw [rfP, ← hr, fle_cn_l]; rfl, h9⟩

set_option maxHeartbeats 1000000 in
theorem search2_any (g ge g1 g2 a b c d e : Nat) (x : Bool) (len lo hi : Nat) (hlo : lo < 2 ^ 32) (hhi : hi < 2 ^ 32) (w : World) (h : BeltAt w g 0 a b c d x) (hg : g < w.heap.size) (he : w.cell? ⟨ge, 0, none⟩ = some (.float .f32 e)) (hge : ge < w.heap.size)
    (h1 : w.cell? ⟨g1, 0, none⟩ = some (.func (Fn.func 67) #[] #[.pointer (some ⟨g, 0, none⟩), .pointer (some ⟨ge, 0, none⟩)])) (hg1 : g1 < w.heap.size) (h2 : w.cell? ⟨g2, 0, none⟩ = some (.float .f32 len)) (hg2 : g2 < w.heap.size) :
    Calls Try.prog 64 #[.float .f32 lo, .float .f32 hi, .func (Fn.func 69) #[] #[.pointer (some ⟨g1, 0, none⟩), .pointer (some ⟨g2, 0, none⟩)]] w fun e' w' => ∃ r, e' = .returned (.float .f32 r) ∧ cn r = (iterS (rfP e c x len) (cn lo, cn hi) 40).1 ∧ r < 2 ^ 32 ∧ Below w.heap.size w w' := by
  have HB := Lib.hid h
  have H1 := Lib.hid h1
  have H2 := Lib.hid h2
  have HE := Lib.hid he
  clear h h1 h2 he
  go_enter Try.func64, Try.ntmps64
  go_wp2
  go_loopw [0, 1, 8] (fun s t k wr => ∃ (j l r : Nat), j ≤ 40 ∧ k = .int .i64 (j : Int) ∧ s = .float .f32 l ∧ t = .float .f32 r ∧ Hid ((cn l, cn r) = iterS (rfP e c x len) (cn lo, cn hi) j) ∧ l < 2 ^ 32 ∧ r < 2 ^ 32 ∧ Below w.heap.size w wr)
    (fun _ _ k _ => (40 - intOf k).toNat)
  case atStart => exact ⟨0, lo, hi, by omega, rfl, rfl, rfl, Lib.hid rfl, hlo, hhi, Below.refl _ _⟩
  case round =>
    obtain ⟨j, l, r, hj, rfl, rfl, rfl, hI, hll, hrl, hb⟩ := hrel
    have hs := hb.size
    by_cases hlt : j < 40
    · have hm : midC (cn l) (cn r) = midC l r := midC_cn l r
      have hst : iterS (rfP e c x len) (cn lo, cn hi) (j + 1) = if rfP e c x len (midC l r) then (midC l r, cn r) else (cn l, midC l r) := by
        show stepS _ (iterS _ _ j) = _
        rw [← hI.out, stepS, hm]
      have HS := Lib.hid hst
      clear hst hm
      cases hP : rfP e c x len (midC l r)
      · go_wp2_with (first | (go_at_call 87; refine (halved_any _ _ _).mono ?_; (rintro e2 w2 ⟨m, n, rfl, hm, hml, rfl⟩; have HM := Lib.hid hm; clear hm)) | (go_at_call 69; refine (isLow2_any g ge g1 g2 a b c d e x len m _ ((HB.out.belowB hg hb).drewN n) (by simp; omega) ((Below.cell hb (p := ⟨ge, 0, none⟩) hge).trans HE.out) (by simp; omega) ((Below.cell hb (p := ⟨g1, 0, none⟩) hg1).trans H1.out) (by simp; omega) ((Below.cell hb (p := ⟨g2, 0, none⟩) hg2).trans H2.out) (by simp; omega)).mono ?_; (rintro e2 w3 ⟨rfl, hb3⟩; rw [← rfP_cn, HM.out, hP])))
        exact ⟨⟨j + 1, l, m, by omega, rfl, rfl, rfl, Lib.hid (by rw [HS.out, hP, HM.out]; rfl), hll, hml, below_then (below_drewN hb n) hb3⟩, by simp [intOf]; omega⟩
      · go_wp2_with (first | (go_at_call 87; refine (halved_any _ _ _).mono ?_; (rintro e2 w2 ⟨m, n, rfl, hm, hml, rfl⟩; have HM := Lib.hid hm; clear hm)) | (go_at_call 69; refine (isLow2_any g ge g1 g2 a b c d e x len m _ ((HB.out.belowB hg hb).drewN n) (by simp; omega) ((Below.cell hb (p := ⟨ge, 0, none⟩) hge).trans HE.out) (by simp; omega) ((Below.cell hb (p := ⟨g1, 0, none⟩) hg1).trans H1.out) (by simp; omega) ((Below.cell hb (p := ⟨g2, 0, none⟩) hg2).trans H2.out) (by simp; omega)).mono ?_; (rintro e2 w3 ⟨rfl, hb3⟩; rw [← rfP_cn, HM.out, hP])))
        exact ⟨⟨j + 1, m, r, by omega, rfl, rfl, rfl, Lib.hid (by rw [HS.out, hP, HM.out]; rfl), hml, hrl, below_then (below_drewN hb n) hb3⟩, by simp [intOf]; omega⟩
    · obtain rfl : j = 40 := by omega
      go_wp2
      go_ret
      exact ⟨_, rfl, by rw [← hI.out], hll, hb⟩

theorem hiC_lt (c e : Nat) : hiC c e < 2 ^ 32 := by
  unfold hiC
  split
  · omega
  · unfold cop
    cases h : floatBits .sub .f32 c e with
    | some r =>
      have := floatBits_wf h
      simpa [Lit.wf] using this
    | none => decide

/-- What lies in memory when RadiusFor has looked at the belt. -/
structure RfW (w w1 : World) (a b c d e : Nat) (x : Bool) (len : Nat) : Prop where
  belt : BeltAt w1 w.heap.size 0 a b c d x
  num : w1.cell? ⟨w.heap.size + 1, 0, none⟩ = some (.float .f32 e)
  long : w1.cell? ⟨w.heap.size + 1 + 1, 0, none⟩ = some (.float .f32 len)
  fn : w1.cell? ⟨w.heap.size + 1 + 1 + 1, 0, none⟩ = some (.func (Fn.func 67) #[] #[.pointer (some ⟨w.heap.size, 0, none⟩), .pointer (some ⟨w.heap.size + 1, 0, none⟩)])
  size : w.heap.size + 1 + 1 + 1 + 1 ≤ w1.heap.size
  below : Below w.heap.size w w1

set_option maxHeartbeats 1000000 in
theorem rfW_of {w w1 : World} {n a b c d e : Nat} {x : Bool} {len : Nat} (hb1 : Below (((((w.alloc (.cells #[.float .f32 a, .float .f32 b, .float .f32 c, .float .f32 d, .bool x] 31)).alloc (.cells #[.float .f32 e] 22)).alloc (.cells #[.float .f32 len] 22)).alloc (.cells #[.func (Fn.func 67) #[] #[.pointer (some ⟨w.heap.size, 0, none⟩), .pointer (some ⟨w.heap.size + 1, 0, none⟩)]] 82)).drewN n).heap.size (((((w.alloc (.cells #[.float .f32 a, .float .f32 b, .float .f32 c, .float .f32 d, .bool x] 31)).alloc (.cells #[.float .f32 e] 22)).alloc (.cells #[.float .f32 len] 22)).alloc (.cells #[.func (Fn.func 67) #[] #[.pointer (some ⟨w.heap.size, 0, none⟩), .pointer (some ⟨w.heap.size + 1, 0, none⟩)]] 82)).drewN n) w1) : RfW w w1 a b c d e x len := by
  obtain ⟨hc1, hf1, hz1⟩ := below_reads hb1
  exact ⟨⟨(hc1 w.heap.size 0 (by simp <;> omega)).trans (by go_simp), (hc1 w.heap.size 1 (by simp <;> omega)).trans (by go_simp), (hc1 w.heap.size 2 (by simp <;> omega)).trans (by go_simp), (hc1 w.heap.size 3 (by simp <;> omega)).trans (by go_simp), (hc1 w.heap.size 4 (by simp <;> omega)).trans (by go_simp)⟩,
    (hc1 (w.heap.size + 1) 0 (by simp <;> omega)).trans (by go_simp), (hc1 (w.heap.size + 1 + 1) 0 (by simp <;> omega)).trans (by go_simp), (hc1 (w.heap.size + 1 + 1 + 1) 0 (by simp <;> omega)).trans (by go_simp), by simpa using hz1, below_then (by (repeat' (first | (with_reducible exact Below.refl _ _) | (with_reducible assumption) | (with_reducible refine Below.alloc ?_ ?_ _) | (with_reducible refine below_drewN ?_ _) | (with_reducible refine Below.drew ?_) | (with_reducible refine Below.setCell ?_ ?_ _) | (with_reducible exact Nat.le_refl _) | omega | (simp only [World.size_alloc, World.size_setCell, World.size_drew, World.heap_drewN]; omega) | (simp; omega)))) hb1⟩

set_option maxHeartbeats 4000000 in
theorem implRadiusFor_any (a b c d e : Nat) (x : Bool) (len : Nat) (hlen : len < 2 ^ 32) (w : World) :
    Calls Try.prog 31 #[.agg #[.float .f32 a, .float .f32 b, .float .f32 c, .float .f32 d, .bool x], .float .f32 e, .float .f32 len] w fun e' w' => ∃ r, e' = .returned (.tuple #[.float .f32 r, .int .i64 (rfK a b c d e x len)]) ∧ cn r = rfV a b c d e x len ∧ r < 2 ^ 32 ∧ Below w.heap.size w w' := by
  go_enter Try.func31, Try.ntmps31
  cases e0 : flt .f32 1149239296 (cop .sub c e)
  · have hz : ∀ W, flt .f32 1149239296 (fval .sub .f32 c e W) = false := fun W => by rw [flt_fval_r]; exact e0
    go_wp2_with fail
    have hcn := cn_fval .sub c e ((((w.alloc (.cells #[.float .f32 a, .float .f32 b, .float .f32 c, .float .f32 d, .bool x] 31)).alloc (.cells #[.float .f32 e] 22)).alloc (.cells #[.float .f32 len] 22)).alloc (.cells #[.func (Fn.func 67) #[] #[.pointer (some ⟨w.heap.size, 0, none⟩), .pointer (some ⟨w.heap.size + 1, 0, none⟩)]] 82))
    have hl0 : fval .sub .f32 c e ((((w.alloc (.cells #[.float .f32 a, .float .f32 b, .float .f32 c, .float .f32 d, .bool x] 31)).alloc (.cells #[.float .f32 e] 22)).alloc (.cells #[.float .f32 len] 22)).alloc (.cells #[.func (Fn.func 67) #[] #[.pointer (some ⟨w.heap.size, 0, none⟩), .pointer (some ⟨w.heap.size + 1, 0, none⟩)]] 82)) < 2 ^ 32 := Loose.op_lt' _
    generalize fval .sub .f32 c e ((((w.alloc (.cells #[.float .f32 a, .float .f32 b, .float .f32 c, .float .f32 d, .bool x] 31)).alloc (.cells #[.float .f32 e] 22)).alloc (.cells #[.float .f32 len] 22)).alloc (.cells #[.func (Fn.func 67) #[] #[.pointer (some ⟨w.heap.size, 0, none⟩), .pointer (some ⟨w.heap.size + 1, 0, none⟩)]] 82)) = r0 at *
    have hcn2 : cn r0 = hiC c e := by rw [hcn, hiC, e0]; rfl
    have HC := Lib.hid hcn2
    clear hcn hcn2 e0 hz
    refine (implValidBelt_any _ _ _ _ _ _).mono ?_
    rintro e2 w1 ⟨rfl, hb1⟩
    have hR := rfW_of hb1
    have HR := Lib.hid hR
    have hbw := hR.below
    have hs1 := hR.size
    have hnum := hR.num
    have hlong := hR.long
    clear hb1 hR
    cases hB1 : beltB a b c d
    · go_wp2
      go_ret2
      exact ⟨0, by simp [rfK, hB1], by simp [rfV, rfK, hB1, cnA_zero], by omega, hbw⟩
    · cases hE : lengthB e
      · go_wp2_with (first | (go_at_call 68; refine (impl_isRadius_any _ _).mono ?_; rintro e w' ⟨rfl, rfl⟩) | (go_at_call 63; refine (impl_isAmount_any _ _).mono ?_; rintro e w' ⟨rfl, rfl⟩))
        go_ret2
        exact ⟨0, by simp [rfK, hB1, hE], by simp [rfV, rfK, hB1, hE, cnA_zero], by omega, hbw⟩
      · cases hA : amountB len
        · go_wp2_with (first | (go_at_call 68; refine (impl_isRadius_any _ _).mono ?_; rintro e w' ⟨rfl, rfl⟩) | (go_at_call 63; refine (impl_isAmount_any _ _).mono ?_; rintro e w' ⟨rfl, rfl⟩))
          go_ret2
          exact ⟨0, by simp [rfK, hB1, hE, hA], by simp [rfV, rfK, hB1, hE, hA, cnA_zero], by omega, hbw⟩
        · have qf := BelowC.cell HR.out.fn (show w.heap.size + 1 + 1 + 1 < w1.heap.size by omega)
          have ql := BelowC.cell hlong (show w.heap.size + 1 + 1 < w1.heap.size by omega)
          have qe := BelowC.cell hnum (show w.heap.size + 1 < w1.heap.size by omega)
          have hdn := @BelowC.drewN w1
          have hlo : flt .f32 r0 1031798784 = flt .f32 (hiC c e) 1031798784 := by rw [← flt_cn_l, HC.out]
          have hup : ∀ r, cn r = lengthC e 1031798784 c x → flt .f32 len r = flt .f32 len (lengthC e 1031798784 c x) := fun r hr => by rw [← flt_cn_r, hr]
          have HUp := Lib.hid hup
          clear hup
          cases e1 : flt .f32 (hiC c e) 1031798784
          · rw [e1] at hlo
            cases e2 : flt .f32 len (lengthC e 1031798784 c x)
            · have hK : rfK a b c d e x len = 0 := by simp [rfK, hB1, hE, hA, e1, e2]
              have hV : rfV a b c d e x len = _ := if_pos hK
              have HK := Lib.hid hK
              have HV := Lib.hid hV
              have E2 := Lib.hid e2
              clear e1 e2 hK hV
              go_wp2_with (first | (go_at_call 68; refine (impl_isRadius_any _ _).mono ?_; rintro e w' ⟨rfl, rfl⟩) | (go_at_call 63; refine (impl_isAmount_any _ _).mono ?_; rintro e w' ⟨rfl, rfl⟩))
              refine Loose.wp_region (BelowC w1) (Loose.Tab [(67, fun _ v => ∃ r, v = .float .f32 r ∧ cn r = lengthC e 1031798784 c x ∧ r < 2 ^ 32)]) (by kernel_rfl) (by kernel_rfl) (BelowC.start w1) ?_
              repeat (first | (apply Loose.det; (focus rfl); (focus (intro wq hwq; go_simp; first | done | (with_reducible rfl))); (simp only [Act.put, List.setIfInBounds_toArray, List.set_cons_zero, List.set_cons_succ])) | (apply Loose.pass; (focus rfl); (simp only [Act.put, List.setIfInBounds_toArray, List.set_cons_zero, List.set_cons_succ])))
              (apply Loose.callT; (focus rfl); (focus (intro wq hwq; go_simp; first | done | (with_reducible exact ⟨rfl, rfl⟩) | (with_reducible rfl))); (focus rfl); (focus (intro w1 h1; refine (lengthAt2_any w.heap.size (w.heap.size + 1) a b c d e x _ _ (HR.out.belt.belowW (by omega) h1) (Nat.lt_of_lt_of_le (by omega) h1.size) (qe _ h1) (Nat.lt_of_lt_of_le (by omega) h1.size)).mono ?_; rintro e2 w2 ⟨r, rfl, hr, hl, h2⟩; exact ⟨_, rfl, ⟨r, rfl, hr, hl⟩, h1.call h2⟩)); (rintro v ⟨r, rfl, hr, hl⟩; (have hy := (HUp.out r hr).trans E2.out); simp only [Act.put, List.setIfInBounds_toArray, List.set_cons_zero, List.set_cons_succ]))
              repeat (first | (apply Loose.det; (focus rfl); (focus (intro wq hwq; go_simp; first | done | (with_reducible rfl))); (simp only [Act.put, List.setIfInBounds_toArray, List.set_cons_zero, List.set_cons_succ])) | (apply Loose.pass; (focus rfl); (simp only [Act.put, List.setIfInBounds_toArray, List.set_cons_zero, List.set_cons_succ])))
              refine Loose.done ?_
              intro w9 h9
              have hb9 := hbw.trans (h9.out.mono (by omega))
              have hs9 := h9.out.size
              go_wp2_with fail
              refine (search2_any w.heap.size (w.heap.size + 1) (w.heap.size + 1 + 1 + 1) (w.heap.size + 1 + 1) a b c d e x len 1031798784 r0 (by omega) hl0 _ (HR.out.belt.belowW (by omega) h9) (by omega) (qe _ h9) (by omega) (qf _ h9) (by omega) (ql _ h9) (by omega)).mono ?_
              rintro e2 w10 ⟨rS, rfl, hrS, hlS, hbS⟩
              have HS := Lib.hid hrS
              clear hrS qf ql qe
              go_wp2
              go_ret2
              exact ⟨rS, by rw [HK.out]; rfl, by rw [HV.out, HS.out, HC.out], hlS, below_then hb9 hbS⟩
            · have hK : rfK a b c d e x len = 6 := by simp [rfK, hB1, hE, hA, e1, e2]
              have HK := Lib.hid hK
              have E2 := Lib.hid e2
              clear e1 e2 hK
              go_wp2_with (first | (go_at_call 68; refine (impl_isRadius_any _ _).mono ?_; rintro e w' ⟨rfl, rfl⟩) | (go_at_call 63; refine (impl_isAmount_any _ _).mono ?_; rintro e w' ⟨rfl, rfl⟩))
              refine Loose.wp_region (BelowC w1) (Loose.Tab [(67, fun _ v => ∃ r, v = .float .f32 r ∧ cn r = lengthC e 1031798784 c x ∧ r < 2 ^ 32)]) (by kernel_rfl) (by kernel_rfl) (BelowC.start w1) ?_
              repeat (first | (apply Loose.det; (focus rfl); (focus (intro wq hwq; go_simp; first | done | (with_reducible rfl))); (simp only [Act.put, List.setIfInBounds_toArray, List.set_cons_zero, List.set_cons_succ])) | (apply Loose.pass; (focus rfl); (simp only [Act.put, List.setIfInBounds_toArray, List.set_cons_zero, List.set_cons_succ])))
              (apply Loose.callT; (focus rfl); (focus (intro wq hwq; go_simp; first | done | (with_reducible exact ⟨rfl, rfl⟩) | (with_reducible rfl))); (focus rfl); (focus (intro w1 h1; refine (lengthAt2_any w.heap.size (w.heap.size + 1) a b c d e x _ _ (HR.out.belt.belowW (by omega) h1) (Nat.lt_of_lt_of_le (by omega) h1.size) (qe _ h1) (Nat.lt_of_lt_of_le (by omega) h1.size)).mono ?_; rintro e2 w2 ⟨r, rfl, hr, hl, h2⟩; exact ⟨_, rfl, ⟨r, rfl, hr, hl⟩, h1.call h2⟩)); (rintro v ⟨r, rfl, hr, hl⟩; (have hy := (HUp.out r hr).trans E2.out); simp only [Act.put, List.setIfInBounds_toArray, List.set_cons_zero, List.set_cons_succ]))
              repeat (first | (apply Loose.det; (focus rfl); (focus (intro wq hwq; go_simp; first | done | (with_reducible rfl))); (simp only [Act.put, List.setIfInBounds_toArray, List.set_cons_zero, List.set_cons_succ])) | (apply Loose.pass; (focus rfl); (simp only [Act.put, List.setIfInBounds_toArray, List.set_cons_zero, List.set_cons_succ])))
              refine Loose.done ?_
              intro w9 h9
              have hb9 := hbw.trans (h9.out.mono (by omega))
              go_wp2
              go_ret2
              exact ⟨0, by rw [HK.out]; rfl, by rw [rfV, if_neg (by rw [HK.out]; decide)]; exact cnA_zero, by omega, hb9⟩
          · rw [e1] at hlo
            have hK : rfK a b c d e x len = 6 := by simp [rfK, hB1, hE, hA, e1]
            have HK := Lib.hid hK
            clear e1 hK
            go_wp2_with (first | (go_at_call 68; refine (impl_isRadius_any _ _).mono ?_; rintro e w' ⟨rfl, rfl⟩) | (go_at_call 63; refine (impl_isAmount_any _ _).mono ?_; rintro e w' ⟨rfl, rfl⟩))
            refine Loose.wp_region (BelowC w1) (Loose.Tab [(67, fun _ v => ∃ r, v = .float .f32 r ∧ cn r = lengthC e 1031798784 c x ∧ r < 2 ^ 32)]) (by kernel_rfl) (by kernel_rfl) (BelowC.start w1) ?_
            repeat (first | (apply Loose.det; (focus rfl); (focus (intro wq hwq; go_simp; first | done | (with_reducible rfl))); (simp only [Act.put, List.setIfInBounds_toArray, List.set_cons_zero, List.set_cons_succ])) | (apply Loose.pass; (focus rfl); (simp only [Act.put, List.setIfInBounds_toArray, List.set_cons_zero, List.set_cons_succ])))
            refine Loose.done ?_
            intro w9 h9
            have hb9 := hbw.trans (h9.out.mono (by omega))
            go_wp2
            go_ret2
            exact ⟨0, by rw [HK.out]; rfl, by rw [rfV, if_neg (by rw [HK.out]; decide)]; exact cnA_zero, by omega, hb9⟩
  · have hz : ∀ W, flt .f32 1149239296 (fval .sub .f32 c e W) = true := fun W => by rw [flt_fval_r]; exact e0
    have hcn2 : cn 1149239296 = hiC c e := by rw [hiC, e0, if_pos rfl]; decide +kernel
    have HC := Lib.hid hcn2
    go_wp2_with fail
    clear hcn2 e0 hz
    refine (implValidBelt_any _ _ _ _ _ _).mono ?_
    rintro e2 w1 ⟨rfl, hb1⟩
    have hR := rfW_of hb1
    have HR := Lib.hid hR
    have hbw := hR.below
    have hs1 := hR.size
    have hnum := hR.num
    have hlong := hR.long
    clear hb1 hR
    cases hB1 : beltB a b c d
    · go_wp2
      go_ret2
      exact ⟨0, by simp [rfK, hB1], by simp [rfV, rfK, hB1, cnA_zero], by omega, hbw⟩
    · cases hE : lengthB e
      · go_wp2_with (first | (go_at_call 68; refine (impl_isRadius_any _ _).mono ?_; rintro e w' ⟨rfl, rfl⟩) | (go_at_call 63; refine (impl_isAmount_any _ _).mono ?_; rintro e w' ⟨rfl, rfl⟩))
        go_ret2
        exact ⟨0, by simp [rfK, hB1, hE], by simp [rfV, rfK, hB1, hE, cnA_zero], by omega, hbw⟩
      · cases hA : amountB len
        · go_wp2_with (first | (go_at_call 68; refine (impl_isRadius_any _ _).mono ?_; rintro e w' ⟨rfl, rfl⟩) | (go_at_call 63; refine (impl_isAmount_any _ _).mono ?_; rintro e w' ⟨rfl, rfl⟩))
          go_ret2
          exact ⟨0, by simp [rfK, hB1, hE, hA], by simp [rfV, rfK, hB1, hE, hA, cnA_zero], by omega, hbw⟩
        · have qf := BelowC.cell HR.out.fn (show w.heap.size + 1 + 1 + 1 < w1.heap.size by omega)
          have ql := BelowC.cell hlong (show w.heap.size + 1 + 1 < w1.heap.size by omega)
          have qe := BelowC.cell hnum (show w.heap.size + 1 < w1.heap.size by omega)
          have hdn := @BelowC.drewN w1
          have hlo : flt .f32 1149239296 1031798784 = flt .f32 (hiC c e) 1031798784 := by rw [← flt_cn_l, HC.out]
          have hup : ∀ r, cn r = lengthC e 1031798784 c x → flt .f32 len r = flt .f32 len (lengthC e 1031798784 c x) := fun r hr => by rw [← flt_cn_r, hr]
          have HUp := Lib.hid hup
          clear hup
          cases e1 : flt .f32 (hiC c e) 1031798784
          · rw [e1] at hlo
            cases e2 : flt .f32 len (lengthC e 1031798784 c x)
            · have hK : rfK a b c d e x len = 0 := by simp [rfK, hB1, hE, hA, e1, e2]
              have hV : rfV a b c d e x len = _ := if_pos hK
              have HK := Lib.hid hK
              have HV := Lib.hid hV
              have E2 := Lib.hid e2
              clear e1 e2 hK hV
              go_wp2_with (first | (go_at_call 68; refine (impl_isRadius_any _ _).mono ?_; rintro e w' ⟨rfl, rfl⟩) | (go_at_call 63; refine (impl_isAmount_any _ _).mono ?_; rintro e w' ⟨rfl, rfl⟩))
              refine Loose.wp_region (BelowC w1) (Loose.Tab [(67, fun _ v => ∃ r, v = .float .f32 r ∧ cn r = lengthC e 1031798784 c x ∧ r < 2 ^ 32)]) (by kernel_rfl) (by kernel_rfl) (BelowC.start w1) ?_
              repeat (first | (apply Loose.det; (focus rfl); (focus (intro wq hwq; go_simp; first | done | (with_reducible rfl))); (simp only [Act.put, List.setIfInBounds_toArray, List.set_cons_zero, List.set_cons_succ])) | (apply Loose.pass; (focus rfl); (simp only [Act.put, List.setIfInBounds_toArray, List.set_cons_zero, List.set_cons_succ])))
              (apply Loose.callT; (focus rfl); (focus (intro wq hwq; go_simp; first | done | (with_reducible exact ⟨rfl, rfl⟩) | (with_reducible rfl))); (focus rfl); (focus (intro w1 h1; refine (lengthAt2_any w.heap.size (w.heap.size + 1) a b c d e x _ _ (HR.out.belt.belowW (by omega) h1) (Nat.lt_of_lt_of_le (by omega) h1.size) (qe _ h1) (Nat.lt_of_lt_of_le (by omega) h1.size)).mono ?_; rintro e2 w2 ⟨r, rfl, hr, hl, h2⟩; exact ⟨_, rfl, ⟨r, rfl, hr, hl⟩, h1.call h2⟩)); (rintro v ⟨r, rfl, hr, hl⟩; (have hy := (HUp.out r hr).trans E2.out); simp only [Act.put, List.setIfInBounds_toArray, List.set_cons_zero, List.set_cons_succ]))
              repeat (first | (apply Loose.det; (focus rfl); (focus (intro wq hwq; go_simp; first | done | (with_reducible rfl))); (simp only [Act.put, List.setIfInBounds_toArray, List.set_cons_zero, List.set_cons_succ])) | (apply Loose.pass; (focus rfl); (simp only [Act.put, List.setIfInBounds_toArray, List.set_cons_zero, List.set_cons_succ])))
              refine Loose.done ?_
              intro w9 h9
              have hb9 := hbw.trans (h9.out.mono (by omega))
              have hs9 := h9.out.size
              go_wp2_with fail
              refine (search2_any w.heap.size (w.heap.size + 1) (w.heap.size + 1 + 1 + 1) (w.heap.size + 1 + 1) a b c d e x len 1031798784 1149239296 (by omega) (by omega) _ (HR.out.belt.belowW (by omega) h9) (by omega) (qe _ h9) (by omega) (qf _ h9) (by omega) (ql _ h9) (by omega)).mono ?_
              rintro e2 w10 ⟨rS, rfl, hrS, hlS, hbS⟩
              have HS := Lib.hid hrS
              clear hrS qf ql qe
              go_wp2
              go_ret2
              exact ⟨rS, by rw [HK.out]; rfl, by rw [HV.out, HS.out, HC.out], hlS, below_then hb9 hbS⟩
            · have hK : rfK a b c d e x len = 6 := by simp [rfK, hB1, hE, hA, e1, e2]
              have HK := Lib.hid hK
              have E2 := Lib.hid e2
              clear e1 e2 hK
              go_wp2_with (first | (go_at_call 68; refine (impl_isRadius_any _ _).mono ?_; rintro e w' ⟨rfl, rfl⟩) | (go_at_call 63; refine (impl_isAmount_any _ _).mono ?_; rintro e w' ⟨rfl, rfl⟩))
              refine Loose.wp_region (BelowC w1) (Loose.Tab [(67, fun _ v => ∃ r, v = .float .f32 r ∧ cn r = lengthC e 1031798784 c x ∧ r < 2 ^ 32)]) (by kernel_rfl) (by kernel_rfl) (BelowC.start w1) ?_
              repeat (first | (apply Loose.det; (focus rfl); (focus (intro wq hwq; go_simp; first | done | (with_reducible rfl))); (simp only [Act.put, List.setIfInBounds_toArray, List.set_cons_zero, List.set_cons_succ])) | (apply Loose.pass; (focus rfl); (simp only [Act.put, List.setIfInBounds_toArray, List.set_cons_zero, List.set_cons_succ])))
              (apply Loose.callT; (focus rfl); (focus (intro wq hwq; go_simp; first | done | (with_reducible exact ⟨rfl, rfl⟩) | (with_reducible rfl))); (focus rfl); (focus (intro w1 h1; refine (lengthAt2_any w.heap.size (w.heap.size + 1) a b c d e x _ _ (HR.out.belt.belowW (by omega) h1) (Nat.lt_of_lt_of_le (by omega) h1.size) (qe _ h1) (Nat.lt_of_lt_of_le (by omega) h1.size)).mono ?_; rintro e2 w2 ⟨r, rfl, hr, hl, h2⟩; exact ⟨_, rfl, ⟨r, rfl, hr, hl⟩, h1.call h2⟩)); (rintro v ⟨r, rfl, hr, hl⟩; (have hy := (HUp.out r hr).trans E2.out); simp only [Act.put, List.setIfInBounds_toArray, List.set_cons_zero, List.set_cons_succ]))
              repeat (first | (apply Loose.det; (focus rfl); (focus (intro wq hwq; go_simp; first | done | (with_reducible rfl))); (simp only [Act.put, List.setIfInBounds_toArray, List.set_cons_zero, List.set_cons_succ])) | (apply Loose.pass; (focus rfl); (simp only [Act.put, List.setIfInBounds_toArray, List.set_cons_zero, List.set_cons_succ])))
              refine Loose.done ?_
              intro w9 h9
              have hb9 := hbw.trans (h9.out.mono (by omega))
              go_wp2
              go_ret2
              exact ⟨0, by rw [HK.out]; rfl, by rw [rfV, if_neg (by rw [HK.out]; decide)]; exact cnA_zero, by omega, hb9⟩
          · rw [e1] at hlo
            have hK : rfK a b c d e x len = 6 := by simp [rfK, hB1, hE, hA, e1]
            have HK := Lib.hid hK
            clear e1 hK
            go_wp2_with (first | (go_at_call 68; refine (impl_isRadius_any _ _).mono ?_; rintro e w' ⟨rfl, rfl⟩) | (go_at_call 63; refine (impl_isAmount_any _ _).mono ?_; rintro e w' ⟨rfl, rfl⟩))
            refine Loose.wp_region (BelowC w1) (Loose.Tab [(67, fun _ v => ∃ r, v = .float .f32 r ∧ cn r = lengthC e 1031798784 c x ∧ r < 2 ^ 32)]) (by kernel_rfl) (by kernel_rfl) (BelowC.start w1) ?_
            repeat (first | (apply Loose.det; (focus rfl); (focus (intro wq hwq; go_simp; first | done | (with_reducible rfl))); (simp only [Act.put, List.setIfInBounds_toArray, List.set_cons_zero, List.set_cons_succ])) | (apply Loose.pass; (focus rfl); (simp only [Act.put, List.setIfInBounds_toArray, List.set_cons_zero, List.set_cons_succ])))
            refine Loose.done ?_
            intro w9 h9
            have hb9 := hbw.trans (h9.out.mono (by omega))
            go_wp2
            go_ret2
            exact ⟨0, by rw [HK.out]; rfl, by rw [rfV, if_neg (by rw [HK.out]; decide)]; exact cnA_zero, by omega, hb9⟩

end Go.Proofs.Ytljigmplmlhdnaa
