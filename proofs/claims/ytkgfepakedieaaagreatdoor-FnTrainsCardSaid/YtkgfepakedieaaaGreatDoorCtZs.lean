/- Trains: whether two are the same. -/
import Derived.Test.YtkgfepakedieaaaGreatDoorMkZ
namespace Go.Proofs.YtkgfepakedieaaaGreatDoor
open Go.RowKit

def pairSame (p q : T3) : Bool := p.1 == q.1 && p.2.1 == q.2.1 && sameB p.2.2 q.2.2
def sameTB (ps qs : List T3) : Bool := ps.length == qs.length && (ps.zip qs).all fun x => pairSame x.1 x.2
theorem zip_at {ps qs : List T3} {j : Nat} (h1 : j < ps.length) (h2 : j < qs.length) : (ps.zip qs)[j]? = some (ps[j], qs[j]) := by
  rw [List.getElem?_eq_getElem (by simp; omega)]
  simp
theorem zip_all_step {ps qs : List T3} {j : Nat} (h1 : j < ps.length) (h2 : j < qs.length) : ((ps.zip qs).take (j + 1)).all (fun x => pairSame x.1 x.2) = (((ps.zip qs).take j).all (fun x => pairSame x.1 x.2) && pairSame ps[j] qs[j]) := by
  rw [List.take_add_one, zip_at h1 h2, List.all_append]
  simp
theorem same_no {ps qs : List T3} {j : Nat} (h1 : j < ps.length) (h2 : j < qs.length) (h : pairSame ps[j] qs[j] = false) : sameTB ps qs = false := by
  have : (ps.zip qs).all (fun x => pairSame x.1 x.2) = false := List.all_eq_false.2 ⟨(ps[j], qs[j]), List.mem_of_getElem? (zip_at h1 h2), by simp [h]⟩
  simp [sameTB, this]
theorem same_yes {ps qs : List T3} (hl : ps.length = qs.length) (h : ((ps.zip qs).take ps.length).all (fun x => pairSame x.1 x.2) = true) : sameTB ps qs = true := by
  rw [List.take_of_length_le (by simp; omega)] at h
  simp [sameTB, hl, h]

set_option maxHeartbeats 400000 in
theorem samePair_any (a b : Int) (c : Nat) (a' b' : Int) (c' : Nat) (w : World) :
    Calls Tryz.prog 43 #[.agg #[.int .i16 a, .int .i16 b, .float .f32 c], .agg #[.int .i16 a', .int .i16 b', .float .f32 c']] w fun e w' => e = .returned (.bool (pairSame (a, b, c) (a', b', c'))) ∧ Below w.heap.size w w' := by
  go_enter Tryz.func43, Tryz.ntmps43
  cases h1 : (a == a')
  · go_wp2_with (go_at_call 14; refine (implSame_any _ _ _).mono ?_; rintro e w' ⟨rfl, rfl⟩)
    all_goals (go_ret; exact ⟨by simp [pairSame, h1], by (repeat' (first | (with_reducible exact Below.refl _ _) | (with_reducible assumption) | (with_reducible refine Below.alloc ?_ ?_ _) | (with_reducible refine below_drewN ?_ _) | (with_reducible refine Below.drew ?_) | (with_reducible refine Below.setCell ?_ ?_ _) | (with_reducible exact Nat.le_refl _) | omega | (simp only [World.size_alloc, World.size_setCell, World.size_drew, World.heap_drewN]; omega) | (simp; omega)))⟩)
  · cases h2 : (b == b')
    · go_wp2_with (go_at_call 14; refine (implSame_any _ _ _).mono ?_; rintro e w' ⟨rfl, rfl⟩)
      all_goals (go_ret; exact ⟨by simp [pairSame, h1, h2], by (repeat' (first | (with_reducible exact Below.refl _ _) | (with_reducible assumption) | (with_reducible refine Below.alloc ?_ ?_ _) | (with_reducible refine below_drewN ?_ _) | (with_reducible refine Below.drew ?_) | (with_reducible refine Below.setCell ?_ ?_ _) | (with_reducible exact Nat.le_refl _) | omega | (simp only [World.size_alloc, World.size_setCell, World.size_drew, World.heap_drewN]; omega) | (simp; omega)))⟩)
    · go_wp2_with (go_at_call 14; refine (implSame_any _ _ _).mono ?_; rintro e w' ⟨rfl, rfl⟩)
      all_goals (go_ret; exact ⟨by simp [pairSame, h1, h2], by (repeat' (first | (with_reducible exact Below.refl _ _) | (with_reducible assumption) | (with_reducible refine Below.alloc ?_ ?_ _) | (with_reducible refine below_drewN ?_ _) | (with_reducible refine Below.drew ?_) | (with_reducible refine Below.setCell ?_ ?_ _) | (with_reducible exact Nat.le_refl _) | omega | (simp only [World.size_alloc, World.size_setCell, World.size_drew, World.heap_drewN]; omega) | (simp; omega)))⟩)

set_option maxHeartbeats 1000000 in
theorem equalFunc_any (ps qs : List T3) (v u : Value) (w : World) (hv : Tr w v ps) (hu : Tr w u qs) :
    Calls Tryz.prog 42 #[v, u, .func (Fn.func 43) #[] #[]] w fun e w' => e = .returned (.bool (sameTB ps qs)) ∧ Below w.heap.size w w' := by
  obtain ⟨a, cap, rfl, hn, hk, hc⟩ := hv
  obtain ⟨a', cap', rfl, hn', hk', hc'⟩ := hu
  have hn2 : ps.length ≤ 9223372036854775807 := by simpa [maxLen] using hn
  have hn3 : qs.length ≤ 9223372036854775807 := by simpa [maxLen] using hn'
  clear hk hk'
  by_cases hl : ps.length = qs.length
  · have HL := Lib.hid hl
    rw [← hl]
    clear hl hn3
    go_enter Tryz.func42, Tryz.ntmps42
    go_wp2
    go_loopw [17] (fun k wr => ∃ j : Nat, j ≤ ps.length ∧ k = .int .i64 (j : Int) ∧ Below w.heap.size w wr ∧ Hid (((ps.zip qs).take j).all (fun x => pairSame x.1 x.2) = true))
      (fun k _ => (ps.length - intOf k).toNat)
    case atStart => exact ⟨0, by omega, rfl, Below.refl _ _, Lib.hid rfl⟩
    case round =>
      obtain ⟨j, hj, rfl, hb, hal⟩ := hrel
      by_cases hlt : j < ps.length
      · obtain ⟨b, off, rfl, hbl, hat⟩ := hc (by omega)
        obtain ⟨b', off', rfl, hbl', hat'⟩ := hc' (by have := HL.out; omega)
        have hlt' : j < qs.length := by have := HL.out; omega
        obtain ⟨c0, c1, c2⟩ := hat j _ (List.getElem?_eq_getElem hlt)
        obtain ⟨c0', c1', c2'⟩ := hat' j _ (List.getElem?_eq_getElem hlt')
        have d0 := (Below.cell hb (p := ⟨b, _, none⟩) hbl).trans c0
        have d1 := (Below.cell hb (p := ⟨b, _, none⟩) hbl).trans c1
        have d2 := (Below.cell hb (p := ⟨b, _, none⟩) hbl).trans c2
        have d0' := (Below.cell hb (p := ⟨b', _, none⟩) hbl').trans c0'
        have d1' := (Below.cell hb (p := ⟨b', _, none⟩) hbl').trans c1'
        have d2' := (Below.cell hb (p := ⟨b', _, none⟩) hbl').trans c2'
        have hsz := hb.size
        have lb' : b' < wr.heap.size := by omega
        have e1 := zip_all_step hlt hlt'
        have e2 := same_no hlt hlt'
        have E1 := Lib.hid e1
        have E2 := Lib.hid e2
        clear hc hat hc' hat' c0 c1 c2 c0' c1' c2' e1 e2
        cases hB : pairSame ps[j] qs[j]
        · go_wp2_with (go_at_call 43; refine (samePair_any _ _ _ _ _ _ _).mono ?_; (rintro e w2 ⟨rfl, hb2⟩; rw [hB]))
          go_ret
          exact ⟨by rw [E2.out hB]; rfl, below_then (by (repeat' (first | (with_reducible exact Below.refl _ _) | (with_reducible assumption) | (with_reducible refine Below.alloc ?_ ?_ _) | (with_reducible refine below_drewN ?_ _) | (with_reducible refine Below.drew ?_) | (with_reducible refine Below.setCell ?_ ?_ _) | (with_reducible exact Nat.le_refl _) | omega | (simp only [World.size_alloc, World.size_setCell, World.size_drew, World.heap_drewN]; omega) | (simp; omega)))) hb2⟩
        · go_wp2_with (go_at_call 43; refine (samePair_any _ _ _ _ _ _ _).mono ?_; (rintro e w2 ⟨rfl, hb2⟩; rw [hB]))
          exact ⟨⟨j + 1, by omega, rfl, below_then (by (repeat' (first | (with_reducible exact Below.refl _ _) | (with_reducible assumption) | (with_reducible refine Below.alloc ?_ ?_ _) | (with_reducible refine below_drewN ?_ _) | (with_reducible refine Below.drew ?_) | (with_reducible refine Below.setCell ?_ ?_ _) | (with_reducible exact Nat.le_refl _) | omega | (simp only [World.size_alloc, World.size_setCell, World.size_drew, World.heap_drewN]; omega) | (simp; omega)))) hb2, Lib.hid (by rw [E1.out, hal.out, hB]; rfl)⟩, by simp [intOf]; omega⟩
      · obtain rfl : j = ps.length := by omega
        clear hc hc'
        go_wp2
        go_ret
        exact ⟨by rw [same_yes HL.out hal.out]; rfl, hb⟩
  · have hs : sameTB ps qs = false := by simp [sameTB, hl]
    rw [hs]
    clear hc hc' hs
    go_enter Tryz.func42, Tryz.ntmps42
    go_wp2
    go_ret
    exact ⟨rfl, Below.refl _ _⟩

set_option maxHeartbeats 400000 in
theorem implSameTrain_any (ps qs : List T3) (v u : Value) (w : World) (hv : Tr w v ps) (hu : Tr w u qs) :
    Calls Tryz.prog 16 #[v, u] w fun e w' => e = .returned (.bool (sameTB ps qs)) ∧ Below w.heap.size w w' := by
  go_enter Tryz.func16, Tryz.ntmps16
  go_wp2_with (go_at_call 42; refine (equalFunc_any ps qs _ _ _ hv hu).mono ?_; rintro e w2 ⟨rfl, hb2⟩)
  all_goals (go_ret; exact ⟨rfl, hb2⟩)

theorem as_bool2 {P : Program} {f : FuncId} {args : Array Value} {w : World} {b c : Bool} (hb : b = c) (h : Calls P f args w fun e w' => e = .returned (.bool b) ∧ w = w') :
    Calls P f args w fun e w' => e = .returned (.bool c) ∧ w = w' := by rw [← hb]; exact h

set_option maxHeartbeats 2000000 in
theorem l01SameTrain_any (ps qs : List T3) (v u : Value) (w : World) (hv : Tr w v ps) (hu : Tr w u qs) :
    Calls Tryz.prog 41 #[v, u] w fun e w' => e = .returned (.bool (sameTB ps qs)) ∧ Below w.heap.size w w' := by
  obtain ⟨a, cap, rfl, hn, hk, hc⟩ := hv
  obtain ⟨a', cap', rfl, hn', hk', hc'⟩ := hu
  have hn2 : ps.length ≤ 9223372036854775807 := by simpa [maxLen] using hn
  have hn3 : qs.length ≤ 9223372036854775807 := by simpa [maxLen] using hn'
  clear hk hk'
  by_cases hl : ps.length = qs.length
  · have HL := Lib.hid hl
    rw [← hl]
    clear hl hn3
    go_enter Tryz.func41, Tryz.ntmps41
    go_wp2
    go_loopw [5] (fun k wr => ∃ j : Nat, j ≤ ps.length ∧ k = .int .i64 (j : Int) ∧ Below w.heap.size w wr ∧ Hid (((ps.zip qs).take j).all (fun x => pairSame x.1 x.2) = true))
      (fun k _ => (ps.length - intOf k).toNat)
    case atStart => exact ⟨0, by omega, rfl, Below.refl _ _, Lib.hid rfl⟩
    case round =>
      obtain ⟨j, hj, rfl, hb, hal⟩ := hrel
      by_cases hlt : j < ps.length
      · obtain ⟨b, off, rfl, hbl, hat⟩ := hc (by omega)
        obtain ⟨b', off', rfl, hbl', hat'⟩ := hc' (by have := HL.out; omega)
        have hlt' : j < qs.length := by have := HL.out; omega
        obtain ⟨c0, c1, c2⟩ := hat j _ (List.getElem?_eq_getElem hlt)
        obtain ⟨c0', c1', c2'⟩ := hat' j _ (List.getElem?_eq_getElem hlt')
        have hsz := hb.size
        have lb : b < wr.heap.size := by omega
        have lb' : b' < wr.heap.size := by omega
        have q0 := BelowC.cell ((Below.cell hb (p := ⟨b, _, none⟩) hbl).trans c0) lb
        have q1 := BelowC.cell ((Below.cell hb (p := ⟨b, _, none⟩) hbl).trans c1) lb
        have q2 := BelowC.cell ((Below.cell hb (p := ⟨b, _, none⟩) hbl).trans c2) lb
        have q0' := BelowC.cell ((Below.cell hb (p := ⟨b', _, none⟩) hbl').trans c0') lb'
        have q1' := BelowC.cell ((Below.cell hb (p := ⟨b', _, none⟩) hbl').trans c1') lb'
        have q2' := BelowC.cell ((Below.cell hb (p := ⟨b', _, none⟩) hbl').trans c2') lb'
        have e1 := zip_all_step hlt hlt'
        have e2 := same_no hlt hlt'
        clear hc hat hc' hat' c0 c1 c2 c0' c1' c2'
        generalize ps[j] = p at *
        generalize qs[j] = q at *
        have E1 := Lib.hid e1
        have E2 := Lib.hid e2
        have hdn := @BelowC.drewN wr
        clear e1 e2
        cases h1 : (p.1 == q.1)
        · have n1 : (p.1 != q.1) = true := by rw [bne, h1]; rfl
          go_wp2
          refine Loose.wp_region (BelowC wr) (Loose.Tab []) (by kernel_rfl) (by kernel_rfl) (BelowC.start wr) ?_
          refine Loose.wpL_ops ?_
          intro OPS hO
          have y11 : ∀ t, yielded OPS t 11 = Loose.yb t[28]? := by rw [hO]; exact Loose.yielded_yb (by kernel_rfl)
          have y24 : ∀ t, yielded OPS t 24 = Loose.yb t[41]? := by rw [hO]; exact Loose.yielded_yb (by kernel_rfl)
          clear hO
          repeat' (first | (apply Loose.det; (focus (first | rfl | (simp only [Region.wanted, y11, y24]; rfl))); (focus (intro wq hwq; go_simp; first | done | (with_reducible rfl))); (simp only [Act.put, List.setIfInBounds_toArray, List.set_cons_zero, List.set_cons_succ])) | (apply Loose.pass; (focus (first | rfl | (simp only [Region.wanted, y11, y24]; rfl))); (simp only [Act.put, List.setIfInBounds_toArray, List.set_cons_zero, List.set_cons_succ])))
          refine Loose.done ?_
          intro w9 hb2
          go_wp2
          go_ret
          exact ⟨by rw [E2.out (by simp [pairSame, h1])]; rfl, hb.trans (hb2.out.mono hsz)⟩
        · have n1 : (p.1 != q.1) = false := by rw [bne, h1]; rfl
          cases h2 : (p.2.1 == q.2.1)
          · have n2 : (p.2.1 != q.2.1) = true := by rw [bne, h2]; rfl
            go_wp2
            refine Loose.wp_region (BelowC wr) (Loose.Tab []) (by kernel_rfl) (by kernel_rfl) (BelowC.start wr) ?_
            refine Loose.wpL_ops ?_
            intro OPS hO
            have y11 : ∀ t, yielded OPS t 11 = Loose.yb t[28]? := by rw [hO]; exact Loose.yielded_yb (by kernel_rfl)
            have y24 : ∀ t, yielded OPS t 24 = Loose.yb t[41]? := by rw [hO]; exact Loose.yielded_yb (by kernel_rfl)
            clear hO
            repeat' (first | (apply Loose.det; (focus (first | rfl | (simp only [Region.wanted, y11, y24]; rfl))); (focus (intro wq hwq; go_simp; first | done | (with_reducible rfl))); (simp only [Act.put, List.setIfInBounds_toArray, List.set_cons_zero, List.set_cons_succ])) | (apply Loose.pass; (focus (first | rfl | (simp only [Region.wanted, y11, y24]; rfl))); (simp only [Act.put, List.setIfInBounds_toArray, List.set_cons_zero, List.set_cons_succ])))
            refine Loose.done ?_
            intro w9 hb2
            go_wp2
            go_ret
            exact ⟨by rw [E2.out (by simp [pairSame, h1, h2])]; rfl, hb.trans (hb2.out.mono hsz)⟩
          · have n2 : (p.2.1 != q.2.1) = false := by rw [bne, h2]; rfl
            cases h3 : sameB p.2.2 q.2.2
            · go_wp2
              refine Loose.wp_region (BelowC wr) (Loose.Tab [(40, fun _ v => v = .bool false)]) (by kernel_rfl) (by kernel_rfl) (BelowC.start wr) ?_
              refine Loose.wpL_ops ?_
              intro OPS hO
              have y11 : ∀ t, yielded OPS t 11 = Loose.yb t[28]? := by rw [hO]; exact Loose.yielded_yb (by kernel_rfl)
              have y24 : ∀ t, yielded OPS t 24 = Loose.yb t[41]? := by rw [hO]; exact Loose.yielded_yb (by kernel_rfl)
              clear hO
              repeat' (first | (apply Loose.det; (focus (first | rfl | (simp only [Region.wanted, y11, y24]; rfl))); (focus (intro wq hwq; go_simp; first | done | (with_reducible rfl))); (simp only [Act.put, List.setIfInBounds_toArray, List.set_cons_zero, List.set_cons_succ])) | (apply Loose.pass; (focus (first | rfl | (simp only [Region.wanted, y11, y24]; rfl))); (simp only [Act.put, List.setIfInBounds_toArray, List.set_cons_zero, List.set_cons_succ])) | (apply Loose.callT; (focus (first | rfl | (simp only [Region.wanted, y11, y24 ]; rfl))); (focus (intro wq hwq; go_simp; first | done | (with_reducible exact ⟨rfl, rfl⟩) | (with_reducible rfl))); (focus rfl); (focus (intro w1 h1; refine (as_bool2 h3 (l01Same_any _ _ _)).mono ?_; rintro e w2 ⟨rfl, rfl⟩; exact ⟨_, rfl, rfl, h1⟩)); (rintro v rfl; simp only [Act.put, List.setIfInBounds_toArray, List.set_cons_zero, List.set_cons_succ])))
              refine Loose.done ?_
              intro w9 hb2
              go_wp2
              go_ret
              exact ⟨by rw [E2.out (by simp [pairSame, h3])]; rfl, hb.trans (hb2.out.mono hsz)⟩
            · go_wp2
              refine Loose.wp_region (BelowC wr) (Loose.Tab [(40, fun _ v => v = .bool true)]) (by kernel_rfl) (by kernel_rfl) (BelowC.start wr) ?_
              refine Loose.wpL_ops ?_
              intro OPS hO
              have y11 : ∀ t, yielded OPS t 11 = Loose.yb t[28]? := by rw [hO]; exact Loose.yielded_yb (by kernel_rfl)
              have y24 : ∀ t, yielded OPS t 24 = Loose.yb t[41]? := by rw [hO]; exact Loose.yielded_yb (by kernel_rfl)
              clear hO
              repeat' (first | (apply Loose.det; (focus (first | rfl | (simp only [Region.wanted, y11, y24]; rfl))); (focus (intro wq hwq; go_simp; first | done | (with_reducible rfl))); (simp only [Act.put, List.setIfInBounds_toArray, List.set_cons_zero, List.set_cons_succ])) | (apply Loose.pass; (focus (first | rfl | (simp only [Region.wanted, y11, y24]; rfl))); (simp only [Act.put, List.setIfInBounds_toArray, List.set_cons_zero, List.set_cons_succ])) | (apply Loose.callT; (focus (first | rfl | (simp only [Region.wanted, y11, y24 ]; rfl))); (focus (intro wq hwq; go_simp; first | done | (with_reducible exact ⟨rfl, rfl⟩) | (with_reducible rfl))); (focus rfl); (focus (intro w1 h1; refine (as_bool2 h3 (l01Same_any _ _ _)).mono ?_; rintro e w2 ⟨rfl, rfl⟩; exact ⟨_, rfl, rfl, h1⟩)); (rintro v rfl; simp only [Act.put, List.setIfInBounds_toArray, List.set_cons_zero, List.set_cons_succ])))
              refine Loose.done ?_
              intro w9 hb2
              go_wp2
              exact ⟨⟨j + 1, by omega, rfl, hb.trans (hb2.out.mono hsz), Lib.hid (by rw [E1.out, hal.out]; simp [pairSame, h1, h2, h3])⟩, by simp [intOf]; omega⟩
      · obtain rfl : j = ps.length := by omega
        clear hc hc'
        go_wp2
        go_ret
        exact ⟨by rw [same_yes HL.out hal.out]; rfl, hb⟩
  · have hs : sameTB ps qs = false := by simp [sameTB, hl]
    rw [hs]
    clear hc hc' hs
    go_enter Tryz.func41, Tryz.ntmps41
    go_wp2
    go_ret
    exact ⟨rfl, Below.refl _ _⟩

set_option maxHeartbeats 400000 in
theorem specSameTrain_any (ps qs : List T3) (v u : Value) (w : World) (hv : Tr w v ps) (hu : Tr w u qs) :
    Calls Tryz.prog 15 #[v, u] w fun e w' => e = .returned (.bool (sameTB ps qs)) ∧ Below w.heap.size w w' := by
  go_enter Tryz.func15, Tryz.ntmps15
  go_wp2_with (go_at_call 41; refine (l01SameTrain_any ps qs _ _ _ hv hu).mono ?_; rintro e w2 ⟨rfl, hb2⟩)
  all_goals (go_ret; exact ⟨rfl, hb2⟩)

end Go.Proofs.YtkgfepakedieaaaGreatDoor
