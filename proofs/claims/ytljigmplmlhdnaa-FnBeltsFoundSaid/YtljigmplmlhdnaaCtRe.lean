/- Contracts: a radius is sought with which a belt has a length (the reference). -/
import Derived.Test.YtljigmplmlhdnaaCtRb
namespace Go.Proofs.Ytljigmplmlhdnaa
open Go.RowKit

def forK (c e : Nat) (x : Bool) (len : Nat) : Int := if lengthB e && amountB len then (if flt .f32 (hiC c e) 1031798784 || flt .f32 len (lengthC e 1031798784 c x) then 6 else 0) else 2
def forV (c e : Nat) (x : Bool) (len : Nat) : Nat := if forK c e x len = 0 then (iterS (rfP e c x len) (cn 1031798784, hiC c e) 40).1 else 0
theorem rfK_yes {a b c d e : Nat} {x : Bool} {len : Nat} (h : beltB a b c d = true) : rfK a b c d e x len = forK c e x len := by simp [rfK, forK, h]
theorem rfV_yes {a b c d e : Nat} {x : Bool} {len : Nat} (h : beltB a b c d = true) : rfV a b c d e x len = forV c e x len := by rw [rfV, forV, rfK_yes h]

set_option maxHeartbeats 1000000 in
theorem l02Other_any (a b c d : Nat) (x : Bool) (m n : Nat) (w : World) :
    Calls Try.prog 88 #[.agg #[.float .f32 a, .float .f32 b, .float .f32 c, .float .f32 d, .bool x], .float .f32 m, .float .f32 n] w fun e w' => ∃ r, e = .returned (.float .f32 r) ∧ cn r = lengthC m n c x ∧ r < 2 ^ 32 ∧ Below w.heap.size w w' := by
  go_enter Try.func88, Try.ntmps88
  go_wp2_with (go_at_call 51; refine (l02Length_any _ 0 m n c d x _ (beltAt_box w 31 m n c d x)).mono ?_; (rintro e w2 ⟨r, k, rfl, hr, hl, rfl⟩; have HR := Lib.hid hr; clear hr))
  go_ret
  exact ⟨_, rfl, HR.out, hl, by (repeat' (first | (with_reducible exact Below.refl _ _) | (with_reducible assumption) | (with_reducible refine Below.alloc ?_ ?_ _) | (with_reducible refine below_drewN ?_ _) | (with_reducible refine Below.drew ?_) | (with_reducible refine Below.setCell ?_ ?_ _) | (with_reducible exact Nat.le_refl _) | omega | (simp only [World.size_alloc, World.size_setCell, World.size_drew, World.heap_drewN]; omega) | (simp; omega)))⟩

set_option maxHeartbeats 4000000 in
theorem l02For_any (p a b c d e : Nat) (x : Bool) (len : Nat) (hlen : len < 2 ^ 32) (w : World) (h : BeltAt w p 0 a b c d x) (hp : p < w.heap.size) :
    Calls Try.prog 66 #[.pointer (some ⟨p, 0, none⟩), .float .f32 e, .float .f32 len] w fun e' w' => ∃ r, e' = .returned (.tuple #[.float .f32 r, .int .i64 (forK c e x len)]) ∧ cn r = forV c e x len ∧ r < 2 ^ 32 ∧ Below w.heap.size w w' := by
  have HB := Lib.hid h
  obtain ⟨z0, z1, z2, z3, z4⟩ := h
  go_enter Try.func66, Try.ntmps66
  cases hE : lengthB e
  · go_wp2_with (first | (go_at_call 80; refine (l02Radius_any _ _).mono ?_; rintro e w' ⟨rfl, rfl⟩) | (go_at_call 60; refine (l02Long_any _ _).mono ?_; rintro e w' ⟨rfl, rfl⟩))
    go_ret2
    exact ⟨0, by simp [forK, hE], by simp [forV, forK, hE, cnA_zero], by omega, by (repeat' (first | (with_reducible exact Below.refl _ _) | (with_reducible assumption) | (with_reducible refine Below.alloc ?_ ?_ _) | (with_reducible refine below_drewN ?_ _) | (with_reducible refine Below.drew ?_) | (with_reducible refine Below.setCell ?_ ?_ _) | (with_reducible exact Nat.le_refl _) | omega | (simp only [World.size_alloc, World.size_setCell, World.size_drew, World.heap_drewN]; omega) | (simp; omega)))⟩
  · cases hA : amountB len
    · go_wp2_with (first | (go_at_call 80; refine (l02Radius_any _ _).mono ?_; rintro e w' ⟨rfl, rfl⟩) | (go_at_call 60; refine (l02Long_any _ _).mono ?_; rintro e w' ⟨rfl, rfl⟩))
      go_ret2
      exact ⟨0, by simp [forK, hE, hA], by simp [forV, forK, hE, hA, cnA_zero], by omega, by (repeat' (first | (with_reducible exact Below.refl _ _) | (with_reducible assumption) | (with_reducible refine Below.alloc ?_ ?_ _) | (with_reducible refine below_drewN ?_ _) | (with_reducible refine Below.drew ?_) | (with_reducible refine Below.setCell ?_ ?_ _) | (with_reducible exact Nat.le_refl _) | omega | (simp only [World.size_alloc, World.size_setCell, World.size_drew, World.heap_drewN]; omega) | (simp; omega)))⟩
    · have hup : ∀ r, cn r = lengthC e 1031798784 c x → flt .f32 len r = flt .f32 len (lengthC e 1031798784 c x) := fun r hr => by rw [← flt_cn_r, hr]
      have HUp := Lib.hid hup
      clear hup
      cases e0 : flt .f32 1149239296 (cop .sub c e)
      · have hz : ∀ W, flt .f32 1149239296 (fval .sub .f32 c e W) = false := fun W => by rw [flt_fval_r]; exact e0
        have HC := Lib.hid (show cop .sub c e = hiC c e by rw [hiC, e0]; rfl)
        have hlo : ∀ W, flt .f32 (fval .sub .f32 c e W) 1031798784 = flt .f32 (hiC c e) 1031798784 := fun W => by rw [flt_fval_l, HC.out]
        clear e0
        cases e1 : flt .f32 (hiC c e) 1031798784
        · rw [e1] at hlo
          cases e2 : flt .f32 len (lengthC e 1031798784 c x)
          · have hK : forK c e x len = 0 := by simp [forK, hE, hA, e1, e2]
            have hV : forV c e x len = _ := if_pos hK
            have HK := Lib.hid hK
            have HV := Lib.hid hV
            have E2 := Lib.hid e2
            clear e1 e2 hK hV
            go_wp2_with (first | (go_at_call 80; refine (l02Radius_any _ _).mono ?_; rintro e w' ⟨rfl, rfl⟩) | (go_at_call 60; refine (l02Long_any _ _).mono ?_; rintro e w' ⟨rfl, rfl⟩) | (go_at_call 88; refine (l02Other_any a b c d x _ _ _).mono ?_; (rintro e2 w2 ⟨rA, rfl, hrA, hlA, hbA⟩; have hy := (HUp.out rA hrA).trans E2.out; clear hrA)))
            have hbB := below_then (by (repeat' (first | (with_reducible exact Below.refl _ _) | (with_reducible assumption) | (with_reducible refine Below.alloc ?_ ?_ _) | (with_reducible refine below_drewN ?_ _) | (with_reducible refine Below.drew ?_) | (with_reducible refine Below.setCell ?_ ?_ _) | (with_reducible exact Nat.le_refl _) | omega | (simp only [World.size_alloc, World.size_setCell, World.size_drew, World.heap_drewN]; omega) | (simp; omega))) : Below w.heap.size w _) hbA
            have HB3 := Lib.hid (HB.out.belowB hp hbB)
            have hsB := hbB.size
            clear hlo hy z0 z1 z2 z3 z4
            go_loopw [8, 9, 10] (fun s t k wr => ∃ (j l r : Nat), j ≤ 40 ∧ k = .int .i64 (j : Int) ∧ s = .float .f32 l ∧ t = .float .f32 r ∧ Hid ((cn l, cn r) = iterS (rfP e c x len) (cn 1031798784, hiC c e) j) ∧ l < 2 ^ 32 ∧ r < 2 ^ 32 ∧ Below w2.heap.size w2 wr)
              (fun _ _ k _ => (40 - intOf k).toNat)
            case atStart => exact ⟨0, 1031798784, (fval .sub .f32 c e w), by omega, rfl, rfl, rfl, Lib.hid (by rw [(show cn (fval .sub .f32 c e w) = hiC c e by rw [cn_fval]; exact HC.out)]; rfl), by omega, (Loose.op_lt' _), Below.refl _ _⟩
            case round =>
              obtain ⟨j, l, r, hj, rfl, rfl, rfl, hI, hll, hrl, hb⟩ := hrel
              have hs := hb.size
              by_cases hlt : j < 40
              · have hst : iterS (rfP e c x len) (cn 1031798784, hiC c e) (j + 1) = if rfP e c x len (midC l r) then (midC l r, cn r) else (cn l, midC l r) := by
                  show stepS _ (iterS _ _ j) = _
                  rw [← hI.out, stepS, midC_cn l r]
                have HS := Lib.hid hst
                have hz2 : ∀ y m, cn y = lengthC e m c x → cn m = midC l r → fle .f32 y len = rfP e c x len (midC l r) := fun y m h1 h2 => by
                  rw [← fle_cn_l, h1, ← lengthC_cnB, h2]
                  rfl
                have HZ := Lib.hid hz2
                clear hst hz2
                obtain ⟨y0, y1, y2, y3, y4⟩ := HB3.out.belowB (Nat.lt_of_lt_of_le hp hsB) hb
                cases hP : rfP e c x len (midC l r)
                · go_wp2_with (go_at_call 88; refine (l02Other_any a b c d x _ _ _).mono ?_; (rintro e2 w4 ⟨y, rfl, hy, hyl, hb4⟩; have hzy := (HZ.out y _ hy (by simp [midC])).trans hP; clear hy))
                  exact ⟨⟨j + 1, l, _, by omega, rfl, rfl, rfl, Lib.hid (by rw [HS.out, hP]; simp [midC]), hll, Loose.op_lt' _, below_then (by (repeat' (first | (with_reducible exact Below.refl _ _) | (with_reducible assumption) | (with_reducible refine Below.alloc ?_ ?_ _) | (with_reducible refine below_drewN ?_ _) | (with_reducible refine Below.drew ?_) | (with_reducible refine Below.setCell ?_ ?_ _) | (with_reducible exact Nat.le_refl _) | omega | (simp only [World.size_alloc, World.size_setCell, World.size_drew, World.heap_drewN]; omega) | (simp; omega)))) hb4⟩, by simp [intOf]; omega⟩
                · go_wp2_with (go_at_call 88; refine (l02Other_any a b c d x _ _ _).mono ?_; (rintro e2 w4 ⟨y, rfl, hy, hyl, hb4⟩; have hzy := (HZ.out y _ hy (by simp [midC])).trans hP; clear hy))
                  exact ⟨⟨j + 1, _, r, by omega, rfl, rfl, rfl, Lib.hid (by rw [HS.out, hP]; simp [midC]), Loose.op_lt' _, hrl, below_then (by (repeat' (first | (with_reducible exact Below.refl _ _) | (with_reducible assumption) | (with_reducible refine Below.alloc ?_ ?_ _) | (with_reducible refine below_drewN ?_ _) | (with_reducible refine Below.drew ?_) | (with_reducible refine Below.setCell ?_ ?_ _) | (with_reducible exact Nat.le_refl _) | omega | (simp only [World.size_alloc, World.size_setCell, World.size_drew, World.heap_drewN]; omega) | (simp; omega)))) hb4⟩, by simp [intOf]; omega⟩
              · obtain rfl : j = 40 := by omega
                go_wp2
                go_ret2
                exact ⟨_, by rw [HK.out]; rfl, by rw [HV.out, ← hI.out], hll, hbB.trans (hb.mono (by omega))⟩
          · have hK : forK c e x len = 6 := by simp [forK, hE, hA, e1, e2]
            have HK := Lib.hid hK
            have E2 := Lib.hid e2
            clear e1 e2 hK
            go_wp2_with (first | (go_at_call 80; refine (l02Radius_any _ _).mono ?_; rintro e w' ⟨rfl, rfl⟩) | (go_at_call 60; refine (l02Long_any _ _).mono ?_; rintro e w' ⟨rfl, rfl⟩) | (go_at_call 88; refine (l02Other_any a b c d x _ _ _).mono ?_; (rintro e2 w2 ⟨rA, rfl, hrA, hlA, hbA⟩; have hy := (HUp.out rA hrA).trans E2.out; clear hrA)))
            go_ret2
            exact ⟨0, by rw [HK.out]; rfl, by rw [forV, if_neg (by rw [HK.out]; decide)]; exact cnA_zero, by omega, below_then (by (repeat' (first | (with_reducible exact Below.refl _ _) | (with_reducible assumption) | (with_reducible refine Below.alloc ?_ ?_ _) | (with_reducible refine below_drewN ?_ _) | (with_reducible refine Below.drew ?_) | (with_reducible refine Below.setCell ?_ ?_ _) | (with_reducible exact Nat.le_refl _) | omega | (simp only [World.size_alloc, World.size_setCell, World.size_drew, World.heap_drewN]; omega) | (simp; omega)))) hbA⟩
        · rw [e1] at hlo
          have hK : forK c e x len = 6 := by simp [forK, hE, hA, e1]
          have HK := Lib.hid hK
          clear e1 hK
          go_wp2_with (first | (go_at_call 80; refine (l02Radius_any _ _).mono ?_; rintro e w' ⟨rfl, rfl⟩) | (go_at_call 60; refine (l02Long_any _ _).mono ?_; rintro e w' ⟨rfl, rfl⟩))
          go_ret2
          exact ⟨0, by rw [HK.out]; rfl, by rw [forV, if_neg (by rw [HK.out]; decide)]; exact cnA_zero, by omega, by (repeat' (first | (with_reducible exact Below.refl _ _) | (with_reducible assumption) | (with_reducible refine Below.alloc ?_ ?_ _) | (with_reducible refine below_drewN ?_ _) | (with_reducible refine Below.drew ?_) | (with_reducible refine Below.setCell ?_ ?_ _) | (with_reducible exact Nat.le_refl _) | omega | (simp only [World.size_alloc, World.size_setCell, World.size_drew, World.heap_drewN]; omega) | (simp; omega)))⟩
      · have hz : ∀ W, flt .f32 1149239296 (fval .sub .f32 c e W) = true := fun W => by rw [flt_fval_r]; exact e0
        have HC := Lib.hid (show cn 1149239296 = hiC c e by rw [hiC, e0, if_pos rfl]; decide +kernel)
        have hlo : flt .f32 1149239296 1031798784 = flt .f32 (hiC c e) 1031798784 := by rw [← flt_cn_l, HC.out]
        clear e0
        cases e1 : flt .f32 (hiC c e) 1031798784
        · rw [e1] at hlo
          cases e2 : flt .f32 len (lengthC e 1031798784 c x)
          · have hK : forK c e x len = 0 := by simp [forK, hE, hA, e1, e2]
            have hV : forV c e x len = _ := if_pos hK
            have HK := Lib.hid hK
            have HV := Lib.hid hV
            have E2 := Lib.hid e2
            clear e1 e2 hK hV
            go_wp2_with (first | (go_at_call 80; refine (l02Radius_any _ _).mono ?_; rintro e w' ⟨rfl, rfl⟩) | (go_at_call 60; refine (l02Long_any _ _).mono ?_; rintro e w' ⟨rfl, rfl⟩) | (go_at_call 88; refine (l02Other_any a b c d x _ _ _).mono ?_; (rintro e2 w2 ⟨rA, rfl, hrA, hlA, hbA⟩; have hy := (HUp.out rA hrA).trans E2.out; clear hrA)))
            have hbB := below_then (by (repeat' (first | (with_reducible exact Below.refl _ _) | (with_reducible assumption) | (with_reducible refine Below.alloc ?_ ?_ _) | (with_reducible refine below_drewN ?_ _) | (with_reducible refine Below.drew ?_) | (with_reducible refine Below.setCell ?_ ?_ _) | (with_reducible exact Nat.le_refl _) | omega | (simp only [World.size_alloc, World.size_setCell, World.size_drew, World.heap_drewN]; omega) | (simp; omega))) : Below w.heap.size w _) hbA
            have HB3 := Lib.hid (HB.out.belowB hp hbB)
            have hsB := hbB.size
            clear hlo hy z0 z1 z2 z3 z4
            go_loopw [8, 9, 10] (fun s t k wr => ∃ (j l r : Nat), j ≤ 40 ∧ k = .int .i64 (j : Int) ∧ s = .float .f32 l ∧ t = .float .f32 r ∧ Hid ((cn l, cn r) = iterS (rfP e c x len) (cn 1031798784, hiC c e) j) ∧ l < 2 ^ 32 ∧ r < 2 ^ 32 ∧ Below w2.heap.size w2 wr)
              (fun _ _ k _ => (40 - intOf k).toNat)
            case atStart => exact ⟨0, 1031798784, 1149239296, by omega, rfl, rfl, rfl, Lib.hid (by rw [HC.out]; rfl), by omega, (by omega), Below.refl _ _⟩
            case round =>
              obtain ⟨j, l, r, hj, rfl, rfl, rfl, hI, hll, hrl, hb⟩ := hrel
              have hs := hb.size
              by_cases hlt : j < 40
              · have hst : iterS (rfP e c x len) (cn 1031798784, hiC c e) (j + 1) = if rfP e c x len (midC l r) then (midC l r, cn r) else (cn l, midC l r) := by
                  show stepS _ (iterS _ _ j) = _
                  rw [← hI.out, stepS, midC_cn l r]
                have HS := Lib.hid hst
                have hz2 : ∀ y m, cn y = lengthC e m c x → cn m = midC l r → fle .f32 y len = rfP e c x len (midC l r) := fun y m h1 h2 => by
                  rw [← fle_cn_l, h1, ← lengthC_cnB, h2]
                  rfl
                have HZ := Lib.hid hz2
                clear hst hz2
                obtain ⟨y0, y1, y2, y3, y4⟩ := HB3.out.belowB (Nat.lt_of_lt_of_le hp hsB) hb
                cases hP : rfP e c x len (midC l r)
                · go_wp2_with (go_at_call 88; refine (l02Other_any a b c d x _ _ _).mono ?_; (rintro e2 w4 ⟨y, rfl, hy, hyl, hb4⟩; have hzy := (HZ.out y _ hy (by simp [midC])).trans hP; clear hy))
                  exact ⟨⟨j + 1, l, _, by omega, rfl, rfl, rfl, Lib.hid (by rw [HS.out, hP]; simp [midC]), hll, Loose.op_lt' _, below_then (by (repeat' (first | (with_reducible exact Below.refl _ _) | (with_reducible assumption) | (with_reducible refine Below.alloc ?_ ?_ _) | (with_reducible refine below_drewN ?_ _) | (with_reducible refine Below.drew ?_) | (with_reducible refine Below.setCell ?_ ?_ _) | (with_reducible exact Nat.le_refl _) | omega | (simp only [World.size_alloc, World.size_setCell, World.size_drew, World.heap_drewN]; omega) | (simp; omega)))) hb4⟩, by simp [intOf]; omega⟩
                · go_wp2_with (go_at_call 88; refine (l02Other_any a b c d x _ _ _).mono ?_; (rintro e2 w4 ⟨y, rfl, hy, hyl, hb4⟩; have hzy := (HZ.out y _ hy (by simp [midC])).trans hP; clear hy))
                  exact ⟨⟨j + 1, _, r, by omega, rfl, rfl, rfl, Lib.hid (by rw [HS.out, hP]; simp [midC]), Loose.op_lt' _, hrl, below_then (by (repeat' (first | (with_reducible exact Below.refl _ _) | (with_reducible assumption) | (with_reducible refine Below.alloc ?_ ?_ _) | (with_reducible refine below_drewN ?_ _) | (with_reducible refine Below.drew ?_) | (with_reducible refine Below.setCell ?_ ?_ _) | (with_reducible exact Nat.le_refl _) | omega | (simp only [World.size_alloc, World.size_setCell, World.size_drew, World.heap_drewN]; omega) | (simp; omega)))) hb4⟩, by simp [intOf]; omega⟩
              · obtain rfl : j = 40 := by omega
                go_wp2
                go_ret2
                exact ⟨_, by rw [HK.out]; rfl, by rw [HV.out, ← hI.out], hll, hbB.trans (hb.mono (by omega))⟩
          · have hK : forK c e x len = 6 := by simp [forK, hE, hA, e1, e2]
            have HK := Lib.hid hK
            have E2 := Lib.hid e2
            clear e1 e2 hK
            go_wp2_with (first | (go_at_call 80; refine (l02Radius_any _ _).mono ?_; rintro e w' ⟨rfl, rfl⟩) | (go_at_call 60; refine (l02Long_any _ _).mono ?_; rintro e w' ⟨rfl, rfl⟩) | (go_at_call 88; refine (l02Other_any a b c d x _ _ _).mono ?_; (rintro e2 w2 ⟨rA, rfl, hrA, hlA, hbA⟩; have hy := (HUp.out rA hrA).trans E2.out; clear hrA)))
            go_ret2
            exact ⟨0, by rw [HK.out]; rfl, by rw [forV, if_neg (by rw [HK.out]; decide)]; exact cnA_zero, by omega, below_then (by (repeat' (first | (with_reducible exact Below.refl _ _) | (with_reducible assumption) | (with_reducible refine Below.alloc ?_ ?_ _) | (with_reducible refine below_drewN ?_ _) | (with_reducible refine Below.drew ?_) | (with_reducible refine Below.setCell ?_ ?_ _) | (with_reducible exact Nat.le_refl _) | omega | (simp only [World.size_alloc, World.size_setCell, World.size_drew, World.heap_drewN]; omega) | (simp; omega)))) hbA⟩
        · rw [e1] at hlo
          have hK : forK c e x len = 6 := by simp [forK, hE, hA, e1]
          have HK := Lib.hid hK
          clear e1 hK
          go_wp2_with (first | (go_at_call 80; refine (l02Radius_any _ _).mono ?_; rintro e w' ⟨rfl, rfl⟩) | (go_at_call 60; refine (l02Long_any _ _).mono ?_; rintro e w' ⟨rfl, rfl⟩))
          go_ret2
          exact ⟨0, by rw [HK.out]; rfl, by rw [forV, if_neg (by rw [HK.out]; decide)]; exact cnA_zero, by omega, by (repeat' (first | (with_reducible exact Below.refl _ _) | (with_reducible assumption) | (with_reducible refine Below.alloc ?_ ?_ _) | (with_reducible refine below_drewN ?_ _) | (with_reducible refine Below.drew ?_) | (with_reducible refine Below.setCell ?_ ?_ _) | (with_reducible exact Nat.le_refl _) | omega | (simp only [World.size_alloc, World.size_setCell, World.size_drew, World.heap_drewN]; omega) | (simp; omega)))⟩

set_option maxHeartbeats 1000000 in
theorem specRadiusFor_any (a b c d e : Nat) (x : Bool) (len : Nat) (hlen : len < 2 ^ 32) (w : World) :
    Calls Try.prog 30 #[.agg #[.float .f32 a, .float .f32 b, .float .f32 c, .float .f32 d, .bool x], .float .f32 e, .float .f32 len] w fun e' w' => ∃ r, e' = .returned (.tuple #[.float .f32 r, .int .i64 (rfK a b c d e x len)]) ∧ cn r = rfV a b c d e x len ∧ r < 2 ^ 32 ∧ Below w.heap.size w w' := by
  have HB := Lib.hid (beltAt_box w 31 a b c d x)
  go_enter Try.func30, Try.ntmps30
  cases hB : beltB a b c d
  · go_wp2_with (go_at_call 47; refine (l02Ok_any _ 0 a b c d x _ (by exact HB.out)).mono ?_; rintro e2 w1 ⟨rfl, n, rfl⟩)
    go_ret2
    exact ⟨0, by simp [rfK, hB], by simp [rfV, rfK, hB, cnA_zero], by omega, by (repeat' (first | (with_reducible exact Below.refl _ _) | (with_reducible assumption) | (with_reducible refine Below.alloc ?_ ?_ _) | (with_reducible refine below_drewN ?_ _) | (with_reducible refine Below.drew ?_) | (with_reducible refine Below.setCell ?_ ?_ _) | (with_reducible exact Nat.le_refl _) | omega | (simp only [World.size_alloc, World.size_setCell, World.size_drew, World.heap_drewN]; omega) | (simp; omega)))⟩
  · rw [rfK_yes hB, rfV_yes hB]
    go_wp2_with (first | (go_at_call 47; refine (l02Ok_any _ 0 a b c d x _ (by exact HB.out)).mono ?_; rintro e2 w1 ⟨rfl, n, rfl⟩) | (go_at_call 66; refine (l02For_any _ a b c d e x len hlen _ (HB.out.drewN _) (by simp)).mono ?_; (rintro e2 w2 ⟨r, rfl, hr, hl, hb2⟩; have HR := Lib.hid hr; clear hr)))
    go_ret2
    exact ⟨_, rfl, HR.out, hl, below_then (by (repeat' (first | (with_reducible exact Below.refl _ _) | (with_reducible assumption) | (with_reducible refine Below.alloc ?_ ?_ _) | (with_reducible refine below_drewN ?_ _) | (with_reducible refine Below.drew ?_) | (with_reducible refine Below.setCell ?_ ?_ _) | (with_reducible exact Nat.le_refl _) | omega | (simp only [World.size_alloc, World.size_setCell, World.size_drew, World.heap_drewN]; omega) | (simp; omega)))) hb2⟩

end Go.Proofs.Ytljigmplmlhdnaa
