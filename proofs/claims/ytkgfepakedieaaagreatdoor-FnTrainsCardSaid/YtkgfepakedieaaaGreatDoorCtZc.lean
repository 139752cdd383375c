/- Trains: what the program and the reference model answer about one (4): the ratio as a number. -/
import Derived.Test.YtkgfepakedieaaaGreatDoorCtY
import Derived.Laws.Cover2
import Derived.RegionTactic
import Derived.BigRegion
namespace Go.Proofs.YtkgfepakedieaaaGreatDoor
open Go.RowKit

def upC (p : T3) : Nat := cop .quo (floatOfInt .f32 p.1) (floatOfInt .f32 p.2.1)
def factC (ps : List T3) : Nat := ps.foldl (fun r p => cop .mul r (upC p)) 1065353216
theorem factC_step (ps : List T3) (j : Nat) (p : T3) (h : ps[j]? = some p) : factC (ps.take (j + 1)) = cop .mul (factC (ps.take j)) (upC p) := by
  unfold factC
  rw [List.take_add_one, h, List.foldl_append]
  rfl

set_option maxRecDepth 100000 in
set_option maxHeartbeats 400000 in
theorem l01Quotient_any (a b : Int) (w : World) :
    Calls Tryz.prog 76 #[.int .i16 a, .int .i16 b] w fun e w' => ∃ r n, e = .returned (.float .f32 r) ∧ cn r = cop .quo (floatOfInt .f32 a) (floatOfInt .f32 b) ∧ r < 2 ^ 32 ∧ w.drewN n = w' := by
  go_enter Tryz.func76, Tryz.ntmps76
  go_wp2
  all_goals (go_ret; exact ⟨_, _, rfl, by simp, Loose.op_lt' _, rfl⟩)

set_option maxRecDepth 100000 in
set_option maxHeartbeats 400000 in
theorem up_any (g o : Nat) (a b : Int) (w : World) (h0 : w.cell? ⟨g, o, none⟩ = some (.int .i16 a)) (h1 : w.cell? ⟨g, o + 1, none⟩ = some (.int .i16 b)) :
    Calls Tryz.prog 53 #[.pointer (some ⟨g, o, none⟩)] w fun e w' => ∃ r n, e = .returned (.float .f32 r) ∧ cn r = cop .quo (floatOfInt .f32 a) (floatOfInt .f32 b) ∧ r < 2 ^ 32 ∧ w.drewN n = w' := by
  go_enter Tryz.func53, Tryz.ntmps53
  go_wp2
  go_region
  all_goals go_wp2
  all_goals (go_ret; exact ⟨_, _, rfl, by simp, Loose.op_lt' _, rfl⟩)

set_option maxRecDepth 100000 in
set_option maxHeartbeats 1000000 in
theorem l01Factor_any (ps : List T3) (v : Value) (w : World) (hv : Tr w v ps) (hB : trainB ps = true) :
    Calls Tryz.prog 54 #[v] w fun e w' => ∃ r, e = .returned (.float .f32 r) ∧ cn r = factC ps ∧ r < 2 ^ 32 ∧ Below w.heap.size w w' := by
  obtain ⟨a, cap, rfl, hn, hk, hc⟩ := hv
  have hl : ps.length ≤ 8 := by
    simp [trainB, withinB] at hB
    omega
  go_enter Tryz.func54, Tryz.ntmps54
  go_wp2
  go_loopw [3, 4] (fun x k wr => ∃ (j r : Nat), j ≤ ps.length ∧ k = .int .i64 (j : Int) ∧ x = .float .f32 r ∧ Hid (cn r = factC (ps.take j)) ∧ r < 2 ^ 32 ∧ Below w.heap.size w wr)
    (fun _ k _ => (ps.length - intOf k).toNat)
  case atStart => exact ⟨0, 1065353216, by omega, rfl, rfl, Lib.hid cn_one, by omega, Below.refl _ _⟩
  case round =>
    obtain ⟨j, r0, hj, rfl, rfl, hR, hrl, hb⟩ := hrel
    by_cases hlt : j < ps.length
    · obtain ⟨b, off, rfl, hbl, hat⟩ := hc (by omega)
      have hp : ps[j]? = some ps[j] := List.getElem?_eq_getElem hlt
      obtain ⟨c0, c1, c2⟩ := hat j _ hp
      have d0 := (Below.cell hb (p := ⟨b, _, none⟩) hbl).trans c0
      have d1 := (Below.cell hb (p := ⟨b, _, none⟩) hbl).trans c1
      have e1 := factC_step ps j _ hp
      have HE := Lib.hid e1
      have hsz := hb.size
      clear hc hat c0 c1 c2 e1
      have lb := Nat.lt_of_lt_of_le hbl hsz
      have q0 := BelowC.cell d0 lb
      have q1 := BelowC.cell d1 lb
      have hdn := @BelowC.drewN wr
      go_wp2
      refine Loose.wp_region (BelowC wr) (Loose.Tab [(76, fun _ v => ∃ q, v = .float .f32 q ∧ cn q = upC ps[j] ∧ q < 2 ^ 32)]) (by kernel_rfl) (by kernel_rfl) (BelowC.start wr) ?_
      repeat' (first | (apply Loose.det; (focus rfl); (focus (intro wq hwq; go_simp; first | done | (with_reducible rfl))); (simp only [Act.put, List.setIfInBounds_toArray, List.set_cons_zero, List.set_cons_succ])) | (apply Loose.pass; (focus rfl); (simp only [Act.put, List.setIfInBounds_toArray, List.set_cons_zero, List.set_cons_succ])) | (apply Loose.flt (hd := hdn); (focus rfl); (focus (intro wq hwq; go_simp; first | done | (with_reducible exact ⟨rfl, rfl⟩) | (with_reducible rfl))); (rintro r hr hl; simp only [Act.put, List.setIfInBounds_toArray, List.set_cons_zero, List.set_cons_succ])) | (apply Loose.callT; (focus rfl); (focus (intro wq hwq; go_simp; first | done | (with_reducible exact ⟨rfl, rfl⟩) | (with_reducible rfl))); (focus rfl); (focus (intro w1 h1; refine (l01Quotient_any _ _ _).mono ?_; rintro e w2 ⟨q, n, rfl, h2, h3, rfl⟩; exact ⟨_, rfl, ⟨q, rfl, h2, h3⟩, hdn _ _ h1⟩)); (rintro v ⟨q, rfl, hq, hql⟩; simp only [Act.put, List.setIfInBounds_toArray, List.set_cons_zero, List.set_cons_succ])))
      refine Loose.done ?_
      intro w9 hb2
      have hb3 := hb.trans (hb2.mono hsz)
      go_wp2
      exact ⟨⟨j + 1, _, by omega, rfl, rfl, Lib.hid (by rw [HE.out, ← hR.out, ← hq]; simpa using hr), hl, hb3⟩, by simp [intOf]; omega⟩
    · obtain rfl : j = ps.length := by omega
      clear hc
      go_wp2
      go_ret
      exact ⟨_, rfl, by simpa using hR.out, hrl, hb⟩

set_option maxRecDepth 100000 in
set_option maxHeartbeats 1000000 in
theorem specFactorOf_any (ps : List T3) (v : Value) (w : World) (hv : Tr w v ps) :
    Calls Tryz.prog 26 #[v] w fun e w' => ∃ r, e = .returned (.tuple #[.float .f32 r, .int .i64 (okK (trainB ps))]) ∧ cn r = (if trainB ps then factC ps else 0) ∧ r < 2 ^ 32 ∧ Below w.heap.size w w' := by
  go_enter Tryz.func26, Tryz.ntmps26
  cases hB : trainB ps
  · go_wp2_with (go_at_call 39; refine (l01Ok_any ps _ _ hv).mono ?_; rintro e w' ⟨rfl, rfl⟩)
    all_goals (go_ret2; exact ⟨0, rfl, by simp [cnT_zero], by omega, Below.refl _ _⟩)
  · go_wp2_with (first | (go_at_call 39; refine (l01Ok_any ps _ _ hv).mono ?_; rintro e w' ⟨rfl, rfl⟩) | (go_at_call 54; refine (l01Factor_any ps _ _ hv hB).mono ?_; (rintro e w2 ⟨r, rfl, hr, hl, hb⟩; have HR := Lib.hid hr; clear hr)))
    all_goals (go_ret2; exact ⟨_, rfl, by simpa using HR.out, hl, hb⟩)

set_option maxRecDepth 100000 in
set_option maxHeartbeats 1000000 in
theorem implFactorOf_any (ps : List T3) (v : Value) (w : World) (hv : Tr w v ps) :
    Calls Tryz.prog 25 #[v] w fun e w' => ∃ r, e = .returned (.tuple #[.float .f32 r, .int .i64 (okK (trainB ps))]) ∧ cn r = (if trainB ps then factC ps else 0) ∧ r < 2 ^ 32 ∧ Below w.heap.size w w' := by
  obtain ⟨a, cap, rfl, hn, hk, hc⟩ := hv
  have HV : Hid (Tr w (.slice a ps.length cap) ps) := Lib.hid ⟨a, cap, rfl, hn, hk, hc⟩
  have HK := Lib.hid hk
  clear hk
  go_enter Tryz.func25, Tryz.ntmps25
  cases hB : trainB ps
  · clear hc
    go_wp2_with (go_at_call 17; refine (implValidTrain_any ps _ _ HV.out).mono ?_; rintro e w1 ⟨rfl, hb⟩)
    all_goals (go_ret2; exact ⟨0, rfl, by simp [cnT_zero], by omega, hb⟩)
  · have hl : ps.length ≤ 8 := by
      simp [trainB, withinB] at hB
      omega
    go_wp2_with (go_at_call 17; refine (implValidTrain_any ps _ _ HV.out).mono ?_; rintro e w1 ⟨rfl, hb⟩)
    go_loopw [4, 12] (fun x k wr => ∃ (j r : Nat), j ≤ ps.length ∧ k = .int .i64 (j : Int) ∧ x = .float .f32 r ∧ Hid (cn r = factC (ps.take j)) ∧ r < 2 ^ 32 ∧ Below w.heap.size w wr)
      (fun _ k _ => (ps.length - intOf k).toNat)
    case atStart => exact ⟨0, 1065353216, by omega, rfl, rfl, Lib.hid cn_one, by omega, hb⟩
    case round =>
      obtain ⟨j, r, hj, rfl, rfl, hr, hrl, hb⟩ := hrel
      by_cases hlt : j < ps.length
      · obtain ⟨b, off, rfl, hbl, hat⟩ := hc (by omega)
        have hp : ps[j]? = some ps[j] := List.getElem?_eq_getElem hlt
        obtain ⟨c0, c1, c2⟩ := hat j _ hp
        have d0 := (Below.cell hb (p := ⟨b, _, none⟩) hbl).trans c0
        have d1 := (Below.cell hb (p := ⟨b, _, none⟩) hbl).trans c1
        have d2 := (Below.cell hb (p := ⟨b, _, none⟩) hbl).trans c2
        have e1 := factC_step ps j _ hp
        have HE := Lib.hid e1
        have hsz := hb.size
        clear hc hat c0 c1 c2 e1
        have hbx : (wr.alloc (.cells #[.int .i16 ps[j].1, .int .i16 ps[j].2.1, .float .f32 ps[j].2.2] 65)).cell? ⟨wr.heap.size, 0, none⟩ = some (.int .i16 ps[j].1) ∧ (wr.alloc (.cells #[.int .i16 ps[j].1, .int .i16 ps[j].2.1, .float .f32 ps[j].2.2] 65)).cell? ⟨wr.heap.size, 0 + 1, none⟩ = some (.int .i16 ps[j].2.1) := by constructor <;> simp [World.cell?_alloc_at]
        have HBX := Lib.hid hbx
        clear hbx
        go_wp2_with (go_at_call 53; refine (up_any _ 0 ps[j].1 ps[j].2.1 _ HBX.out.1 HBX.out.2).mono ?_; (rintro e w2 ⟨q, n, rfl, hq, hql, rfl⟩; have HQ := Lib.hid hq; clear hq))
        exact ⟨⟨j + 1, _, by omega, rfl, rfl, Lib.hid (by rw [HE.out, ← hr.out, upC, ← HQ.out]; simp), Loose.op_lt' _, by (repeat' (first | (with_reducible exact Below.refl _ _) | (with_reducible assumption) | (with_reducible refine Below.alloc ?_ ?_ _) | (with_reducible refine below_drewN ?_ _) | (with_reducible refine Below.drew ?_) | (with_reducible refine Below.setCell ?_ ?_ _) | (with_reducible exact Nat.le_refl _) | omega | (simp only [World.size_alloc, World.size_setCell, World.size_drew, World.heap_drewN]; omega) | (simp; omega)))⟩, by simp [intOf]; omega⟩
      · obtain rfl : j = ps.length := by omega
        clear hc
        go_wp2
        go_ret2
        exact ⟨_, rfl, by simpa using hr.out, hrl, hb⟩

end Go.Proofs.YtkgfepakedieaaaGreatDoor
