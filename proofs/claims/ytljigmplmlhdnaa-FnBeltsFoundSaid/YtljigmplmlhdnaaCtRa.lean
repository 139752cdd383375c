/- Contracts: a distance is sought with which a belt has a length. -/
import Derived.Test.YtljigmplmlhdnaaCtK
import Derived.Test.YtljigmplmlhdnaaLoB
import Derived.Test.YtljigmplmlhdnaaCtL
import Derived.Test.YtljigmplmlhdnaaCtX
namespace Go.Proofs.Ytljigmplmlhdnaa
open Go.RowKit

theorem BeltAt.belowB {w w' : World} {B p o a b c d : Nat} {x : Bool} (h : BeltAt w p o a b c d x) (hp : p < B) (hb : Below B w w') : BeltAt w' p o a b c d x := by
  obtain ⟨h0, h1, h2, h3, h4⟩ := h
  exact ⟨(Below.cell hb (p := ⟨p, _, none⟩) hp).trans h0, (Below.cell hb (p := ⟨p, _, none⟩) hp).trans h1, (Below.cell hb (p := ⟨p, _, none⟩) hp).trans h2, (Below.cell hb (p := ⟨p, _, none⟩) hp).trans h3, (Below.cell hb (p := ⟨p, _, none⟩) hp).trans h4⟩
theorem BeltAt.belowW {w w' : World} {p o a b c d : Nat} {x : Bool} (h : BeltAt w p o a b c d x) (hp : p < w.heap.size) (hb : BelowC w w') : BeltAt w' p o a b c d x := h.belowB hp hb

/-- The middle of two numbers; halvings. -/
def midC (lo hi : Nat) : Nat := cop .quo (cop .add lo hi) 1073741824
def stepS (p : Nat → Bool) (x : Nat × Nat) : Nat × Nat := if p (midC x.1 x.2) then (midC x.1 x.2, x.2) else (x.1, midC x.1 x.2)
def iterS (p : Nat → Bool) (x : Nat × Nat) : Nat → Nat × Nat
  | 0 => x
  | k + 1 => stepS p (iterS p x k)
theorem midC_cn (lo hi : Nat) : midC (cn lo) (cn hi) = midC lo hi := by simp [midC]
theorem lengthC_cn (a b m : Nat) (x : Bool) : lengthC a b (cn m) x = lengthC a b m x := by simp [lengthC]
/-- No longer than told, with a distance. -/
def apartP (a b : Nat) (x : Bool) (len m : Nat) : Bool := fle .f32 (lengthC a b m x) len
theorem apartP_cn (a b : Nat) (x : Bool) (len m : Nat) : apartP a b x len (cn m) = apartP a b x len m := by simp [apartP, lengthC_cn]

set_option maxHeartbeats 400000 in
theorem halved_any (a b : Nat) (w : World) :
    Calls Try.prog 87 #[.float .f32 a, .float .f32 b] w fun e w' => ∃ r n, e = .returned (.float .f32 r) ∧ cn r = midC a b ∧ r < 2 ^ 32 ∧ w.drewN n = w' := by
  go_enter Try.func87, Try.ntmps87
  go_wp2
  all_goals (go_ret; exact ⟨_, _, rfl, by simp [midC], Loose.op_lt' _, rfl⟩)

set_option maxHeartbeats 1000000 in
theorem lengthAt_any (g a b c d : Nat) (x : Bool) (m : Nat) (w : World) (h : BeltAt w g 0 a b c d x) (hg : g < w.heap.size) :
    Calls Try.prog 62 #[.float .f32 m, .pointer (some ⟨g, 0, none⟩)] w fun e w' => ∃ r, e = .returned (.float .f32 r) ∧ cn r = lengthC a b m x ∧ r < 2 ^ 32 ∧ Below w.heap.size w w' := by
  obtain ⟨c0, c1, c2, c3, c4⟩ := h
  go_enter Try.func62, Try.ntmps62
  go_wp2_with (go_at_call 54; refine (length_any _ 0 a b m d x _ (beltAt_box w 31 a b m d x)).mono ?_; (rintro e w2 ⟨r, n, rfl, hr, hl, rfl⟩; have HR := Lib.hid hr; clear hr))
  go_ret
  exact ⟨_, rfl, HR.out, hl, by (repeat' (first | (with_reducible exact Below.refl _ _) | (with_reducible assumption) | (with_reducible refine Below.alloc ?_ ?_ _) | (with_reducible refine below_drewN ?_ _) | (with_reducible refine Below.drew ?_) | (with_reducible refine Below.setCell ?_ ?_ _) | (with_reducible exact Nat.le_refl _) | omega | (simp only [World.size_alloc, World.size_setCell, World.size_drew, World.heap_drewN]; omega) | (simp; omega)))⟩

set_option maxHeartbeats 1000000 in
theorem isLow_any (g g1 g2 a b c d : Nat) (x : Bool) (len m : Nat) (w : World) (h : BeltAt w g 0 a b c d x) (hg : g < w.heap.size)
    (h1 : w.cell? ⟨g1, 0, none⟩ = some (.func (Fn.func 62) #[] #[.pointer (some ⟨g, 0, none⟩)])) (hg1 : g1 < w.heap.size) (h2 : w.cell? ⟨g2, 0, none⟩ = some (.float .f32 len)) (hg2 : g2 < w.heap.size) :
    Calls Try.prog 65 #[.float .f32 m, .pointer (some ⟨g1, 0, none⟩), .pointer (some ⟨g2, 0, none⟩)] w fun e w' => e = .returned (.bool (apartP a b x len m)) ∧ Below w.heap.size w w' := by
  have q1 := BelowC.cell h1 hg1
  have q2 := BelowC.cell h2 hg2
  have hdn := @BelowC.drewN w
  have HB := Lib.hid h
  clear h h1 h2
  go_enter Try.func65, Try.ntmps65
  go_wp2
  refine Loose.wp_region (BelowC w) (Loose.Tab [(62, fun _ v => ∃ r, v = .float .f32 r ∧ cn r = lengthC a b m x ∧ r < 2 ^ 32)]) (by kernel_rfl) (by kernel_rfl) (BelowC.start w) ?_
  repeat (apply Loose.det; (focus rfl); (focus (intro wq hwq; go_simp; first | done | (with_reducible rfl))); (simp only [Act.put, List.setIfInBounds_toArray, List.set_cons_zero, List.set_cons_succ]))
  (apply Loose.callT; (focus rfl); (focus (intro wq hwq; go_simp; first | done | (with_reducible exact ⟨rfl, rfl⟩) | (with_reducible rfl))); (focus rfl); (focus (intro w1 h1; refine (lengthAt_any g a b c d x m _ (HB.out.belowW hg h1) (Nat.lt_of_lt_of_le hg h1.size)).mono ?_; rintro e w2 ⟨r, rfl, hr, hl, h2⟩; exact ⟨_, rfl, ⟨r, rfl, hr, hl⟩, h1.call h2⟩)); (rintro v ⟨r, rfl, hr, hl⟩; simp only [Act.put, List.setIfInBounds_toArray, List.set_cons_zero, List.set_cons_succ]))
  repeat (apply Loose.det; (focus rfl); (focus (intro wq hwq; go_simp; first | done | (with_reducible rfl))); (simp only [Act.put, List.setIfInBounds_toArray, List.set_cons_zero, List.set_cons_succ]))
  refine Loose.done ?_
  intro w9 h9
  go_wp2
  go_ret
  exact ⟨by rw [apartP, ← hr, fle_cn_l]; rfl, h9⟩

set_option maxHeartbeats 1000000 in
theorem search_any (g g1 g2 a b c d : Nat) (x : Bool) (len lo hi : Nat) (hlo : lo < 2 ^ 32) (hhi : hi < 2 ^ 32) (w : World) (h : BeltAt w g 0 a b c d x) (hg : g < w.heap.size)
    (h1 : w.cell? ⟨g1, 0, none⟩ = some (.func (Fn.func 62) #[] #[.pointer (some ⟨g, 0, none⟩)])) (hg1 : g1 < w.heap.size) (h2 : w.cell? ⟨g2, 0, none⟩ = some (.float .f32 len)) (hg2 : g2 < w.heap.size) :
    Calls Try.prog 64 #[.float .f32 lo, .float .f32 hi, .func (Fn.func 65) #[] #[.pointer (some ⟨g1, 0, none⟩), .pointer (some ⟨g2, 0, none⟩)]] w fun e w' => ∃ r, e = .returned (.float .f32 r) ∧ cn r = (iterS (apartP a b x len) (cn lo, cn hi) 40).1 ∧ r < 2 ^ 32 ∧ Below w.heap.size w w' := by
  have HB := Lib.hid h
  have H1 := Lib.hid h1
  have H2 := Lib.hid h2
  clear h h1 h2
  go_enter Try.func64, Try.ntmps64
  go_wp2
  go_loopw [0, 1, 8] (fun s t k wr => ∃ (j l r : Nat), j ≤ 40 ∧ k = .int .i64 (j : Int) ∧ s = .float .f32 l ∧ t = .float .f32 r ∧ Hid ((cn l, cn r) = iterS (apartP a b x len) (cn lo, cn hi) j) ∧ l < 2 ^ 32 ∧ r < 2 ^ 32 ∧ Below w.heap.size w wr)
    (fun _ _ k _ => (40 - intOf k).toNat)
  case atStart => exact ⟨0, lo, hi, by omega, rfl, rfl, rfl, Lib.hid rfl, hlo, hhi, Below.refl _ _⟩
  case round =>
    obtain ⟨j, l, r, hj, rfl, rfl, rfl, hI, hll, hrl, hb⟩ := hrel
    have hs := hb.size
    by_cases hlt : j < 40
    · have hm : midC (cn l) (cn r) = midC l r := midC_cn l r
      have hst : iterS (apartP a b x len) (cn lo, cn hi) (j + 1) = if apartP a b x len (midC l r) then (midC l r, cn r) else (cn l, midC l r) := by
        show stepS _ (iterS _ _ j) = _
        rw [← hI.out, stepS, hm]
      have HS := Lib.hid hst
      clear hst hm
      cases hP : apartP a b x len (midC l r)
      · go_wp2_with (first | (go_at_call 87; refine (halved_any _ _ _).mono ?_; (rintro e w2 ⟨m, n, rfl, hm, hml, rfl⟩; have HM := Lib.hid hm; clear hm)) | (go_at_call 65; refine (isLow_any g g1 g2 a b c d x len m _ ((HB.out.belowB hg hb).drewN n) (by simp; omega) ((Below.cell hb (p := ⟨g1, 0, none⟩) hg1).trans H1.out) (by simp; omega) ((Below.cell hb (p := ⟨g2, 0, none⟩) hg2).trans H2.out) (by simp; omega)).mono ?_; (rintro e w3 ⟨rfl, hb3⟩; rw [← apartP_cn, HM.out, hP])))
        exact ⟨⟨j + 1, l, m, by omega, rfl, rfl, rfl, Lib.hid (by rw [HS.out, hP, HM.out]; rfl), hll, hml, below_then (below_drewN hb n) hb3⟩, by simp [intOf]; omega⟩
      · go_wp2_with (first | (go_at_call 87; refine (halved_any _ _ _).mono ?_; (rintro e w2 ⟨m, n, rfl, hm, hml, rfl⟩; have HM := Lib.hid hm; clear hm)) | (go_at_call 65; refine (isLow_any g g1 g2 a b c d x len m _ ((HB.out.belowB hg hb).drewN n) (by simp; omega) ((Below.cell hb (p := ⟨g1, 0, none⟩) hg1).trans H1.out) (by simp; omega) ((Below.cell hb (p := ⟨g2, 0, none⟩) hg2).trans H2.out) (by simp; omega)).mono ?_; (rintro e w3 ⟨rfl, hb3⟩; rw [← apartP_cn, HM.out, hP])))
        exact ⟨⟨j + 1, m, r, by omega, rfl, rfl, rfl, Lib.hid (by rw [HS.out, hP, HM.out]; rfl), hml, hrl, below_then (below_drewN hb n) hb3⟩, by simp [intOf]; omega⟩
    · obtain rfl : j = 40 := by omega
      go_wp2
      go_ret
      exact ⟨_, rfl, by rw [← hI.out], hll, hb⟩

@[go_sem] theorem run_store_func (P : Program) (w : World) (a : Addr) (m : Mode) (f : Fn) (ts bs : Array Value) : (store a (.func f ts bs) m).run P w = stored P w a (.func f ts bs) m := run_store P w a _ m rfl

def lowC (a b : Nat) : Nat := cop .add a b
def apartK (a b d : Nat) (x : Bool) (len : Nat) : Int :=
  if beltB a b (lowC a b) d then (if amountB len then (if flt .f32 len (lengthC a b (lowC a b) x) || flt .f32 (lengthC a b 1199570944 x) len then 6 else 0) else 2) else 1
def apartV (a b d : Nat) (x : Bool) (len : Nat) : Nat := if apartK a b d x len = 0 then (iterS (apartP a b x len) (lowC a b, cn 1199570944) 40).1 else 0
def lengthA (a b : Nat) (x : Bool) (args : Array Value) : Nat := match args[0]? with
  | some (Value.float _ m) => lengthC a b m x
  | _ => 0
theorem beltB_cn (a b c d : Nat) : beltB a b (cn c) d = beltB a b c d := by simp [beltB, betB, fle_cn_l, fle_cn_r]
theorem cnA_zero : cn 0 = 0 := by decide +kernel

set_option maxHeartbeats 2000000 in
theorem implApartFor_any (a b c d : Nat) (x : Bool) (len : Nat) (hlen : len < 2 ^ 32) (w : World) :
    Calls Try.prog 29 #[.agg #[.float .f32 a, .float .f32 b, .float .f32 c, .float .f32 d, .bool x], .float .f32 len] w fun e w' => ∃ r, e = .returned (.tuple #[.float .f32 r, .int .i64 (apartK a b d x len)]) ∧ cn r = apartV a b d x len ∧ r < 2 ^ 32 ∧ Below w.heap.size w w' := by
  go_enter Try.func29, Try.ntmps29
  go_wp2_with fail
  refine (implValidBelt_any _ _ _ _ _ _).mono ?_
  rintro e w1 ⟨rfl, hb1⟩
  have hcn := cn_fval .add a b (((w.alloc (.cells #[.float .f32 a, .float .f32 b, .float .f32 c, .float .f32 d, .bool x] 31)).alloc (.cells #[.float .f32 len] 22)).alloc (.cells #[.func (Fn.func 62) #[] #[.pointer (some ⟨w.heap.size, 0, none⟩)]] 82))
  have hl0 : fval .add .f32 a b (((w.alloc (.cells #[.float .f32 a, .float .f32 b, .float .f32 c, .float .f32 d, .bool x] 31)).alloc (.cells #[.float .f32 len] 22)).alloc (.cells #[.func (Fn.func 62) #[] #[.pointer (some ⟨w.heap.size, 0, none⟩)]] 82)) < 2 ^ 32 := Loose.op_lt' _
  generalize fval .add .f32 a b (((w.alloc (.cells #[.float .f32 a, .float .f32 b, .float .f32 c, .float .f32 d, .bool x] 31)).alloc (.cells #[.float .f32 len] 22)).alloc (.cells #[.func (Fn.func 62) #[] #[.pointer (some ⟨w.heap.size, 0, none⟩)]] 82)) = r0 at *
  obtain ⟨hc1, hf1, hz1⟩ := below_reads hb1
  have hs1 : w.heap.size + 1 + 1 + 1 ≤ w1.heap.size := by simpa using hz1
  have hBt : BeltAt w1 w.heap.size 0 a b r0 d x := ⟨(hc1 w.heap.size 0 (by simp <;> omega)).trans (by go_simp), (hc1 w.heap.size 1 (by simp <;> omega)).trans (by go_simp), (hc1 w.heap.size 2 (by simp <;> omega)).trans (by go_simp), (hc1 w.heap.size 3 (by simp <;> omega)).trans (by go_simp), (hc1 w.heap.size 4 (by simp <;> omega)).trans (by go_simp)⟩
  have hFn : w1.cell? ⟨w.heap.size + 1 + 1, 0, none⟩ = some (.func (Fn.func 62) #[] #[.pointer (some ⟨w.heap.size, 0, none⟩)]) := (hc1 (w.heap.size + 1 + 1) 0 (by simp <;> omega)).trans (by go_simp)
  have hLn : w1.cell? ⟨w.heap.size + 1, 0, none⟩ = some (.float .f32 len) := (hc1 (w.heap.size + 1) 0 (by simp <;> omega)).trans (by go_simp)
  have hbw : Below w.heap.size w w1 := below_then (by (repeat' (first | (with_reducible exact Below.refl _ _) | (with_reducible assumption) | (with_reducible refine Below.alloc ?_ ?_ _) | (with_reducible refine below_drewN ?_ _) | (with_reducible refine Below.drew ?_) | (with_reducible refine Below.setCell ?_ ?_ _) | (with_reducible exact Nat.le_refl _) | omega | (simp only [World.size_alloc, World.size_setCell, World.size_drew, World.heap_drewN]; omega) | (simp; omega)))) hb1
  have hbe : beltB a b r0 d = beltB a b (lowC a b) d := by rw [← beltB_cn a b r0 d, hcn]; rfl
  rw [hbe]
  have HC := Lib.hid hcn
  clear hc1 hf1 hz1 hb1 hbe hcn
  cases hB1 : beltB a b (lowC a b) d
  · go_wp2
    go_ret2
    exact ⟨0, by simp [apartK, hB1], by simp [apartV, apartK, hB1, cnA_zero], by omega, hbw⟩
  · cases hA : amountB len
    · go_wp2_with (go_at_call 63; refine (impl_isAmount_any _ _).mono ?_; rintro e w' ⟨rfl, rfl⟩)
      go_ret2
      exact ⟨0, by simp [apartK, hB1, hA], by simp [apartV, apartK, hB1, hA, cnA_zero], by omega, hbw⟩
    · have q1 := BelowC.cell hFn (show w.heap.size + 1 + 1 < w1.heap.size by omega)
      have q2 := BelowC.cell hLn (show w.heap.size + 1 < w1.heap.size by omega)
      have hdn := @BelowC.drewN w1
      have HB := Lib.hid hBt
      have hlow : ∀ r, cn r = lengthC a b r0 x → flt .f32 len r = flt .f32 len (lengthC a b (lowC a b) x) := fun r hr => by
        rw [← flt_cn_r, hr, ← lengthC_cn a b r0, HC.out]
        rfl
      have hup : ∀ r, cn r = lengthC a b 1199570944 x → flt .f32 r len = flt .f32 (lengthC a b 1199570944 x) len := fun r hr => by rw [← flt_cn_l, hr]
      have HLow := Lib.hid hlow
      have HUp := Lib.hid hup
      clear hlow hup
      cases e1 : flt .f32 len (lengthC a b (lowC a b) x)
      · have E1 := Lib.hid e1
        clear e1
        cases e2 : flt .f32 (lengthC a b 1199570944 x) len
        · have hK : apartK a b d x len = 0 := by simp [apartK, hB1, hA, E1.out, e2]
          have hV : apartV a b d x len = _ := if_pos hK
          have HK := Lib.hid hK
          have HV := Lib.hid hV
          have E2 := Lib.hid e2
          clear e2 hK hV
          go_wp2_with (go_at_call 63; refine (impl_isAmount_any _ _).mono ?_; rintro e w' ⟨rfl, rfl⟩)
          refine Loose.wp_region (BelowC w1) (Loose.Tab [(62, fun args v => ∃ r, v = .float .f32 r ∧ cn r = lengthA a b x args ∧ r < 2 ^ 32)]) (by kernel_rfl) (by kernel_rfl) (BelowC.start w1) ?_
          repeat (first | (apply Loose.det; (focus rfl); (focus (intro wq hwq; go_simp; first | done | (with_reducible rfl))); (simp only [Act.put, List.setIfInBounds_toArray, List.set_cons_zero, List.set_cons_succ])) | (apply Loose.pass; (focus rfl); (simp only [Act.put, List.setIfInBounds_toArray, List.set_cons_zero, List.set_cons_succ])))
          (apply Loose.callT; (focus rfl); (focus (intro wq hwq; go_simp; first | done | (with_reducible exact ⟨rfl, rfl⟩) | (with_reducible rfl))); (focus rfl); (focus (intro w1 h1; refine (lengthAt_any w.heap.size a b r0 d x _ _ (HB.out.belowW (by omega) h1) (Nat.lt_of_lt_of_le (by omega) h1.size)).mono ?_; rintro e w2 ⟨r, rfl, hr, hl, h2⟩; exact ⟨_, rfl, ⟨r, rfl, hr, hl⟩, h1.call h2⟩)); (rintro v ⟨r, rfl, hr, hl⟩; (have hz := (HLow.out r hr).trans E1.out); simp only [Act.put, List.setIfInBounds_toArray, List.set_cons_zero, List.set_cons_succ]))
          repeat (first | (apply Loose.det; (focus rfl); (focus (intro wq hwq; go_simp; first | done | (with_reducible rfl))); (simp only [Act.put, List.setIfInBounds_toArray, List.set_cons_zero, List.set_cons_succ])) | (apply Loose.pass; (focus rfl); (simp only [Act.put, List.setIfInBounds_toArray, List.set_cons_zero, List.set_cons_succ])))
          (apply Loose.callT; (focus rfl); (focus (intro wq hwq; go_simp; first | done | (with_reducible exact ⟨rfl, rfl⟩) | (with_reducible rfl))); (focus rfl); (focus (intro w1 h1; refine (lengthAt_any w.heap.size a b r0 d x _ _ (HB.out.belowW (by omega) h1) (Nat.lt_of_lt_of_le (by omega) h1.size)).mono ?_; rintro e w2 ⟨r, rfl, hr, hl, h2⟩; exact ⟨_, rfl, ⟨r, rfl, hr, hl⟩, h1.call h2⟩)); (rintro v ⟨r, rfl, hr, hl⟩; (have hy := (HUp.out r hr).trans E2.out); simp only [Act.put, List.setIfInBounds_toArray, List.set_cons_zero, List.set_cons_succ]))
          repeat (first | (apply Loose.det; (focus rfl); (focus (intro wq hwq; go_simp; first | done | (with_reducible rfl))); (simp only [Act.put, List.setIfInBounds_toArray, List.set_cons_zero, List.set_cons_succ])) | (apply Loose.pass; (focus rfl); (simp only [Act.put, List.setIfInBounds_toArray, List.set_cons_zero, List.set_cons_succ])))
          refine Loose.done ?_
          intro w9 h9
          have hb9 := hbw.trans (h9.out.mono (by omega))
          have hs9 := h9.out.size
          go_wp2_with fail
          refine (search_any w.heap.size (w.heap.size + 1 + 1) (w.heap.size + 1) a b r0 d x len r0 1199570944 hl0 (by omega) _ (HB.out.belowW (by omega) h9) (by omega) (q1 _ h9) (by omega) (q2 _ h9) (by omega)).mono ?_
          rintro e w10 ⟨rS, rfl, hrS, hlS, hbS⟩
          have HS := Lib.hid hrS
          clear hrS q1 q2
          go_wp2
          go_ret2
          exact ⟨rS, by rw [HK.out]; rfl, by rw [HV.out, HS.out, HC.out]; rfl, hlS, below_then hb9 hbS⟩
        · have hK : apartK a b d x len = 6 := by simp [apartK, hB1, hA, e2]
          have HK := Lib.hid hK
          have E2 := Lib.hid e2
          clear e2 hK
          go_wp2_with (go_at_call 63; refine (impl_isAmount_any _ _).mono ?_; rintro e w' ⟨rfl, rfl⟩)
          refine Loose.wp_region (BelowC w1) (Loose.Tab [(62, fun args v => ∃ r, v = .float .f32 r ∧ cn r = lengthA a b x args ∧ r < 2 ^ 32)]) (by kernel_rfl) (by kernel_rfl) (BelowC.start w1) ?_
          repeat (first | (apply Loose.det; (focus rfl); (focus (intro wq hwq; go_simp; first | done | (with_reducible rfl))); (simp only [Act.put, List.setIfInBounds_toArray, List.set_cons_zero, List.set_cons_succ])) | (apply Loose.pass; (focus rfl); (simp only [Act.put, List.setIfInBounds_toArray, List.set_cons_zero, List.set_cons_succ])))
          (apply Loose.callT; (focus rfl); (focus (intro wq hwq; go_simp; first | done | (with_reducible exact ⟨rfl, rfl⟩) | (with_reducible rfl))); (focus rfl); (focus (intro w1 h1; refine (lengthAt_any w.heap.size a b r0 d x _ _ (HB.out.belowW (by omega) h1) (Nat.lt_of_lt_of_le (by omega) h1.size)).mono ?_; rintro e w2 ⟨r, rfl, hr, hl, h2⟩; exact ⟨_, rfl, ⟨r, rfl, hr, hl⟩, h1.call h2⟩)); (rintro v ⟨r, rfl, hr, hl⟩; (have hz := (HLow.out r hr).trans E1.out); simp only [Act.put, List.setIfInBounds_toArray, List.set_cons_zero, List.set_cons_succ]))
          repeat (first | (apply Loose.det; (focus rfl); (focus (intro wq hwq; go_simp; first | done | (with_reducible rfl))); (simp only [Act.put, List.setIfInBounds_toArray, List.set_cons_zero, List.set_cons_succ])) | (apply Loose.pass; (focus rfl); (simp only [Act.put, List.setIfInBounds_toArray, List.set_cons_zero, List.set_cons_succ])))
          (apply Loose.callT; (focus rfl); (focus (intro wq hwq; go_simp; first | done | (with_reducible exact ⟨rfl, rfl⟩) | (with_reducible rfl))); (focus rfl); (focus (intro w1 h1; refine (lengthAt_any w.heap.size a b r0 d x _ _ (HB.out.belowW (by omega) h1) (Nat.lt_of_lt_of_le (by omega) h1.size)).mono ?_; rintro e w2 ⟨r, rfl, hr, hl, h2⟩; exact ⟨_, rfl, ⟨r, rfl, hr, hl⟩, h1.call h2⟩)); (rintro v ⟨r, rfl, hr, hl⟩; (have hy := (HUp.out r hr).trans E2.out); simp only [Act.put, List.setIfInBounds_toArray, List.set_cons_zero, List.set_cons_succ]))
          repeat (first | (apply Loose.det; (focus rfl); (focus (intro wq hwq; go_simp; first | done | (with_reducible rfl))); (simp only [Act.put, List.setIfInBounds_toArray, List.set_cons_zero, List.set_cons_succ])) | (apply Loose.pass; (focus rfl); (simp only [Act.put, List.setIfInBounds_toArray, List.set_cons_zero, List.set_cons_succ])))
          refine Loose.done ?_
          intro w9 h9
          have hb9 := hbw.trans (h9.out.mono (by omega))
          go_wp2
          go_ret2
          exact ⟨0, by rw [HK.out]; rfl, by rw [apartV, if_neg (by rw [HK.out]; decide)]; exact cnA_zero, by omega, hb9⟩
      · have hK : apartK a b d x len = 6 := by simp [apartK, hB1, hA, e1]
        have HK := Lib.hid hK
        have E1 := Lib.hid e1
        clear e1 hK
        go_wp2_with (go_at_call 63; refine (impl_isAmount_any _ _).mono ?_; rintro e w' ⟨rfl, rfl⟩)
        refine Loose.wp_region (BelowC w1) (Loose.Tab [(62, fun args v => ∃ r, v = .float .f32 r ∧ cn r = lengthA a b x args ∧ r < 2 ^ 32)]) (by kernel_rfl) (by kernel_rfl) (BelowC.start w1) ?_
        repeat (first | (apply Loose.det; (focus rfl); (focus (intro wq hwq; go_simp; first | done | (with_reducible rfl))); (simp only [Act.put, List.setIfInBounds_toArray, List.set_cons_zero, List.set_cons_succ])) | (apply Loose.pass; (focus rfl); (simp only [Act.put, List.setIfInBounds_toArray, List.set_cons_zero, List.set_cons_succ])))
        (apply Loose.callT; (focus rfl); (focus (intro wq hwq; go_simp; first | done | (with_reducible exact ⟨rfl, rfl⟩) | (with_reducible rfl))); (focus rfl); (focus (intro w1 h1; refine (lengthAt_any w.heap.size a b r0 d x _ _ (HB.out.belowW (by omega) h1) (Nat.lt_of_lt_of_le (by omega) h1.size)).mono ?_; rintro e w2 ⟨r, rfl, hr, hl, h2⟩; exact ⟨_, rfl, ⟨r, rfl, hr, hl⟩, h1.call h2⟩)); (rintro v ⟨r, rfl, hr, hl⟩; (have hz := (HLow.out r hr).trans E1.out); simp only [Act.put, List.setIfInBounds_toArray, List.set_cons_zero, List.set_cons_succ]))
        repeat (first | (apply Loose.det; (focus rfl); (focus (intro wq hwq; go_simp; first | done | (with_reducible rfl))); (simp only [Act.put, List.setIfInBounds_toArray, List.set_cons_zero, List.set_cons_succ])) | (apply Loose.pass; (focus rfl); (simp only [Act.put, List.setIfInBounds_toArray, List.set_cons_zero, List.set_cons_succ])))
        refine Loose.done ?_
        intro w9 h9
        have hb9 := hbw.trans (h9.out.mono (by omega))
        go_wp2
        go_ret2
        exact ⟨0, by rw [HK.out]; rfl, by rw [apartV, if_neg (by rw [HK.out]; decide)]; exact cnA_zero, by omega, hb9⟩

set_option maxHeartbeats 400000 in
theorem l02Long_any (a : Nat) (w : World) :
    Calls Try.prog 60 #[.float .f32 a] w fun e w' => e = .returned (.bool (amountB a)) ∧ w = w' := by
  go_enter Try.func60, Try.ntmps60
  go_wp2
  all_goals (go_ret; exact ⟨by simp_all [amountB, betB], rfl⟩)

set_option maxHeartbeats 1000000 in
theorem l02With_any (a b c d : Nat) (x : Bool) (m : Nat) (w : World) :
    Calls Try.prog 61 #[.agg #[.float .f32 a, .float .f32 b, .float .f32 c, .float .f32 d, .bool x], .float .f32 m] w fun e w' => ∃ r, e = .returned (.float .f32 r) ∧ cn r = lengthC a b m x ∧ r < 2 ^ 32 ∧ Below w.heap.size w w' := by
  go_enter Try.func61, Try.ntmps61
  go_wp2_with (go_at_call 51; refine (l02Length_any _ 0 a b m d x _ (beltAt_box w 31 a b m d x)).mono ?_; (rintro e w2 ⟨r, n, rfl, hr, hl, rfl⟩; have HR := Lib.hid hr; clear hr))
  go_ret
  exact ⟨_, rfl, HR.out, hl, by (repeat' (first | (with_reducible exact Below.refl _ _) | (with_reducible assumption) | (with_reducible refine Below.alloc ?_ ?_ _) | (with_reducible refine below_drewN ?_ _) | (with_reducible refine Below.drew ?_) | (with_reducible refine Below.setCell ?_ ?_ _) | (with_reducible exact Nat.le_refl _) | omega | (simp only [World.size_alloc, World.size_setCell, World.size_drew, World.heap_drewN]; omega) | (simp; omega)))⟩

set_option maxHeartbeats 4000000 in
theorem specApartFor_any (a b c d : Nat) (x : Bool) (len : Nat) (hlen : len < 2 ^ 32) (w : World) :
    Calls Try.prog 28 #[.agg #[.float .f32 a, .float .f32 b, .float .f32 c, .float .f32 d, .bool x], .float .f32 len] w fun e w' => ∃ r, e = .returned (.tuple #[.float .f32 r, .int .i64 (apartK a b d x len)]) ∧ cn r = apartV a b d x len ∧ r < 2 ^ 32 ∧ Below w.heap.size w w' := by
  go_enter Try.func28, Try.ntmps28
  go_wp2_with fail
  have hcn := cn_fval .add a b (w.alloc (.cells #[.float .f32 a, .float .f32 b, .float .f32 c, .float .f32 d, .bool x] 31))
  have hl0 : fval .add .f32 a b (w.alloc (.cells #[.float .f32 a, .float .f32 b, .float .f32 c, .float .f32 d, .bool x] 31)) < 2 ^ 32 := Loose.op_lt' _
  generalize fval .add .f32 a b (w.alloc (.cells #[.float .f32 a, .float .f32 b, .float .f32 c, .float .f32 d, .bool x] 31)) = r0 at *
  refine (l02Ok_any _ 0 a b r0 d x _ (by first | exact beltAt_box w 31 a b r0 d x | exact (beltAt_box w 31 a b r0 d x).drewN _)).mono ?_
  rintro e w1 ⟨rfl, n1, hn1⟩
  have hb1 := below_of_drewN hn1
  clear hn1
  obtain ⟨hc1, hf1, hz1⟩ := below_reads hb1
  have hs1 : w.heap.size + 1 ≤ w1.heap.size := by simpa using hz1
  have hBt : BeltAt w1 w.heap.size 0 a b r0 d x := ⟨(hc1 w.heap.size 0 (by simp <;> omega)).trans (by go_simp), (hc1 w.heap.size 1 (by simp <;> omega)).trans (by go_simp), (hc1 w.heap.size 2 (by simp <;> omega)).trans (by go_simp), (hc1 w.heap.size 3 (by simp <;> omega)).trans (by go_simp), (hc1 w.heap.size 4 (by simp <;> omega)).trans (by go_simp)⟩
  have hbw : Below w.heap.size w w1 := below_then (by (repeat' (first | (with_reducible exact Below.refl _ _) | (with_reducible assumption) | (with_reducible refine Below.alloc ?_ ?_ _) | (with_reducible refine below_drewN ?_ _) | (with_reducible refine Below.drew ?_) | (with_reducible refine Below.setCell ?_ ?_ _) | (with_reducible exact Nat.le_refl _) | omega | (simp only [World.size_alloc, World.size_setCell, World.size_drew, World.heap_drewN]; omega) | (simp; omega)))) hb1
  have hbe : beltB a b r0 d = beltB a b (lowC a b) d := by rw [← beltB_cn a b r0 d, hcn]; rfl
  rw [hbe]
  have HC := Lib.hid hcn
  have HB := Lib.hid hBt
  clear hc1 hf1 hz1 hb1 hbe hcn
  cases hB1 : beltB a b (lowC a b) d
  · go_wp2
    go_ret2
    exact ⟨0, by simp [apartK, hB1], by simp [apartV, apartK, hB1, cnA_zero], by omega, hbw⟩
  · cases hA : amountB len
    · go_wp2_with (go_at_call 60; refine (l02Long_any _ _).mono ?_; rintro e w' ⟨rfl, rfl⟩)
      go_ret2
      exact ⟨0, by simp [apartK, hB1, hA], by simp [apartV, apartK, hB1, hA, cnA_zero], by omega, hbw⟩
    · have hlow : ∀ r, cn r = lengthC a b r0 x → flt .f32 len r = flt .f32 len (lengthC a b (lowC a b) x) := fun r hr => by
        rw [← flt_cn_r, hr, ← lengthC_cn a b r0, HC.out]
        rfl
      have hup : ∀ r, cn r = lengthC a b 1199570944 x → flt .f32 r len = flt .f32 (lengthC a b 1199570944 x) len := fun r hr => by rw [← flt_cn_l, hr]
      have HLow := Lib.hid hlow
      have HUp := Lib.hid hup
      clear hlow hup
      obtain ⟨z0, z1, z2, z3, z4⟩ := hBt
      cases e1 : flt .f32 len (lengthC a b (lowC a b) x)
      · have E1 := Lib.hid e1
        clear e1
        cases e2 : flt .f32 (lengthC a b 1199570944 x) len
        · have hK : apartK a b d x len = 0 := by simp [apartK, hB1, hA, E1.out, e2]
          have hV : apartV a b d x len = _ := if_pos hK
          have HK := Lib.hid hK
          have HV := Lib.hid hV
          have E2 := Lib.hid e2
          clear e2 hK hV
          go_wp2_with (first | (go_at_call 60; refine (l02Long_any _ _).mono ?_; rintro e w' ⟨rfl, rfl⟩) | (go_at_call 61; first | (have zz := z0; clear zz; refine (l02With_any a b r0 d x _ _).mono ?_; rintro e w2 ⟨rA, rfl, hrA, hlA, hbA⟩; have hzA := (HLow.out rA hrA).trans E1.out; obtain ⟨y0, y1, y2, y3, y4⟩ := HB.out.belowB (show w.heap.size < w1.heap.size by omega) hbA; clear hrA z0 z1 z2 z3 z4) | (refine (l02With_any a b r0 d x _ _).mono ?_; rintro e w3 ⟨rB, rfl, hrB, hlB, hbB⟩; have hzB := (HUp.out rB hrB).trans E2.out; clear hrB)))
          have hbC := below_then (below_then hbw hbA) hbB
          have HB3 := Lib.hid (HB.out.belowB (show w.heap.size < w1.heap.size by omega) (below_then hbA hbB))
          have hsA := hbA.size
          have hsB := hbB.size
          clear y0 y1 y2 y3 y4 hzA hzB
          go_loopw [6, 7, 8] (fun s t k wr => ∃ (j l r : Nat), j ≤ 40 ∧ k = .int .i64 (j : Int) ∧ s = .float .f32 l ∧ t = .float .f32 r ∧ Hid ((cn l, cn r) = iterS (apartP a b x len) (lowC a b, cn 1199570944) j) ∧ l < 2 ^ 32 ∧ r < 2 ^ 32 ∧ Below w3.heap.size w3 wr)
            (fun _ _ k _ => (40 - intOf k).toNat)
          case atStart => exact ⟨0, r0, 1199570944, by omega, rfl, rfl, rfl, Lib.hid (by rw [HC.out]; rfl), hl0, by omega, Below.refl _ _⟩
          case round =>
            obtain ⟨j, l, r, hj, rfl, rfl, rfl, hI, hll, hrl, hb⟩ := hrel
            have hs := hb.size
            by_cases hlt : j < 40
            · have hst : iterS (apartP a b x len) (lowC a b, cn 1199570944) (j + 1) = if apartP a b x len (midC l r) then (midC l r, cn r) else (cn l, midC l r) := by
                show stepS _ (iterS _ _ j) = _
                rw [← hI.out, stepS, midC_cn l r]
              have HS := Lib.hid hst
              have hz : ∀ y m, cn y = lengthC a b m x → cn m = midC l r → fle .f32 y len = apartP a b x len (midC l r) := fun y m h1 h2 => by
                rw [← fle_cn_l, h1, ← lengthC_cn, h2]
                rfl
              have HZ := Lib.hid hz
              clear hst hz
              obtain ⟨y0, y1, y2, y3, y4⟩ := HB3.out.belowB (show w.heap.size < w3.heap.size by omega) hb
              cases hP : apartP a b x len (midC l r)
              · go_wp2_with (go_at_call 61; refine (l02With_any a b r0 d x _ _).mono ?_; (rintro e w4 ⟨y, rfl, hy, hyl, hb4⟩; have hzy := (HZ.out y _ hy (by simp [midC])).trans hP; clear hy))
                exact ⟨⟨j + 1, l, _, by omega, rfl, rfl, rfl, Lib.hid (by rw [HS.out, hP]; simp [midC]), hll, Loose.op_lt' _, below_then (by (repeat' (first | (with_reducible exact Below.refl _ _) | (with_reducible assumption) | (with_reducible refine Below.alloc ?_ ?_ _) | (with_reducible refine below_drewN ?_ _) | (with_reducible refine Below.drew ?_) | (with_reducible refine Below.setCell ?_ ?_ _) | (with_reducible exact Nat.le_refl _) | omega | (simp only [World.size_alloc, World.size_setCell, World.size_drew, World.heap_drewN]; omega) | (simp; omega)))) hb4⟩, by simp [intOf]; omega⟩
              · go_wp2_with (go_at_call 61; refine (l02With_any a b r0 d x _ _).mono ?_; (rintro e w4 ⟨y, rfl, hy, hyl, hb4⟩; have hzy := (HZ.out y _ hy (by simp [midC])).trans hP; clear hy))
                exact ⟨⟨j + 1, _, r, by omega, rfl, rfl, rfl, Lib.hid (by rw [HS.out, hP]; simp [midC]), Loose.op_lt' _, hrl, below_then (by (repeat' (first | (with_reducible exact Below.refl _ _) | (with_reducible assumption) | (with_reducible refine Below.alloc ?_ ?_ _) | (with_reducible refine below_drewN ?_ _) | (with_reducible refine Below.drew ?_) | (with_reducible refine Below.setCell ?_ ?_ _) | (with_reducible exact Nat.le_refl _) | omega | (simp only [World.size_alloc, World.size_setCell, World.size_drew, World.heap_drewN]; omega) | (simp; omega)))) hb4⟩, by simp [intOf]; omega⟩
            · obtain rfl : j = 40 := by omega
              go_wp2
              go_ret2
              exact ⟨_, by rw [HK.out]; rfl, by rw [HV.out, ← hI.out], hll, hbC.trans (hb.mono (by omega))⟩
        · have hK : apartK a b d x len = 6 := by simp [apartK, hB1, hA, e2]
          have HK := Lib.hid hK
          have E2 := Lib.hid e2
          clear e2 hK
          go_wp2_with (first | (go_at_call 60; refine (l02Long_any _ _).mono ?_; rintro e w' ⟨rfl, rfl⟩) | (go_at_call 61; first | (have zz := z0; clear zz; refine (l02With_any a b r0 d x _ _).mono ?_; rintro e w2 ⟨rA, rfl, hrA, hlA, hbA⟩; have hzA := (HLow.out rA hrA).trans E1.out; obtain ⟨y0, y1, y2, y3, y4⟩ := HB.out.belowB (show w.heap.size < w1.heap.size by omega) hbA; clear hrA z0 z1 z2 z3 z4) | (refine (l02With_any a b r0 d x _ _).mono ?_; rintro e w3 ⟨rB, rfl, hrB, hlB, hbB⟩; have hzB := (HUp.out rB hrB).trans E2.out; clear hrB)))
          go_ret2
          exact ⟨0, by rw [HK.out]; rfl, by rw [apartV, if_neg (by rw [HK.out]; decide)]; exact cnA_zero, by omega, below_then (below_then hbw hbA) hbB⟩
      · have hK : apartK a b d x len = 6 := by simp [apartK, hB1, hA, e1]
        have HK := Lib.hid hK
        have E1 := Lib.hid e1
        clear e1 hK
        go_wp2_with (first | (go_at_call 60; refine (l02Long_any _ _).mono ?_; rintro e w' ⟨rfl, rfl⟩) | (go_at_call 61; refine (l02With_any a b r0 d x r0 _).mono ?_; (rintro e w2 ⟨rA, rfl, hrA, hlA, hbA⟩; have hzA := (HLow.out rA hrA).trans E1.out; clear hrA)))
        go_ret2
        exact ⟨0, by rw [HK.out]; rfl, by rw [apartV, if_neg (by rw [HK.out]; decide)]; exact cnA_zero, by omega, below_then hbw hbA⟩

end Go.Proofs.Ytljigmplmlhdnaa
