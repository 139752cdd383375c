/- Contracts: a belt is read from its text (the reference). -/
import Derived.Test.YtljigmplmlhdnaaDoorCtRg
namespace Go.Proofs.YtljigmplmlhdnaaDoor
open Go.RowKit

theorem arr4_get (a b c d : ByteArray) (j : Nat) (h : j < 4) : (cellsF (([a, b, c, d].take j).map readV ++ List.replicate (4 - j) 0))[j]? = some (.float .f32 0) := by
  rcases (show j = 0 ∨ j = 1 ∨ j = 2 ∨ j = 3 by omega) with rfl | rfl | rfl | rfl <;> rfl
theorem arr4_set (a b c d : ByteArray) (j : Nat) (y : ByteArray) (h : j < 4) (hy : [a, b, c, d][j]? = some y) : (cellsF (([a, b, c, d].take j).map readV ++ List.replicate (4 - j) 0)).set j (.float .f32 (readV y)) = cellsF (([a, b, c, d].take (j + 1)).map readV ++ List.replicate (4 - (j + 1)) 0) := by
  rcases (show j = 0 ∨ j = 1 ∨ j = 2 ∨ j = 3 by omega) with rfl | rfl | rfl | rfl <;> (simp at hy; subst hy; rfl)

set_option maxRecDepth 20000 in
set_option maxHeartbeats 8000000 in
theorem specReadBelt_any (s : ByteArray) (hs : s.size ≤ 1048576) (w : World) :
    Calls Tryd.prog 4 #[.string s] w fun e w' => e = .returned (.tuple #[.agg #[.float .f32 (rbV s).1, .float .f32 (rbV s).2.1, .float .f32 (rbV s).2.2.1, .float .f32 (rbV s).2.2.2.1, .bool (rbV s).2.2.2.2], .int .i64 (rbK s)]) ∧ Below w.heap.size w w' := by
  have HR0 := Lib.hid (zero5_box w 24)
  go_enter Tryd.func4, Tryd.ntmps4
  go_wp2_with fail
  refine (l01Split_any s 32 (by omega) _).mono ?_
  rintro e w1 ⟨v, rfl, hss, hb1⟩
  have hb : Below w.heap.size w w1 := below_then (by (repeat' (first | (with_reducible exact Below.refl _ _) | (with_reducible assumption) | (with_reducible refine Below.alloc ?_ ?_ _) | (with_reducible refine below_drewN ?_ _) | (with_reducible refine Below.drew ?_) | (with_reducible refine Below.setCell ?_ ?_ _) | (with_reducible exact Nat.le_refl _) | omega | (simp only [World.size_alloc, World.size_setCell, World.size_drew, World.heap_drewN]; omega) | (simp; omega)))) hb1
  have HR1 := Lib.hid (HR0.out.below hb1)
  have hsz := hb.size
  by_cases h5 : (piecesB 32 s).length = 5
  · obtain ⟨a, b, c, d, x, hp⟩ := five h5
    have hz := pieces_small (s := s) (n := 9223372036854775807) 32 (by omega)
    have hRB := rb_five hp
    rw [hp] at hss hz
    obtain ⟨g, cap, rfl, hc1, hc2, hg, hat⟩ := hss
    have hx4 : w1.cell? ⟨g, 4, none⟩ = some (.string x) := hat 4 x rfl
    have HAT := Lib.hid hat
    have HZ := Lib.hid hz
    have HP := Lib.hid hp
    have HB := Lib.hid hb
    have HRB := Lib.hid hRB
    have ho : (x.toList == [111, 112, 101, 110]) = decide (x = openB) := by
      have h7 : openB.toList = [111, 112, 101, 110] := by rw [ByteArray.toList_eq]; rfl
      rw [← str_eql, h7]
    have hc : (x.toList == [99, 114, 111, 115, 115, 101, 100]) = decide (x = crossB) := by
      have h7 : crossB.toList = [99, 114, 111, 115, 115, 101, 100] := by rw [ByteArray.toList_eq]; rfl
      rw [← str_eql, h7]
    clear hat hz hp hb hRB h5
    cases hO : (decide (x = openB) || decide (x = crossB))
    · have hK : rbOk (piecesB 32 s) = false := by
        rw [HRB.out, hO]
        simp
      have HK := Lib.hid (show rbK s = 5 by simp [rbK, hK])
      have HV := Lib.hid (show rbV s = (0, 0, 0, 0, false) by simp [rbV, hK])
      simp only [Bool.or_eq_false_iff] at hO
      obtain ⟨o1, o2⟩ := hO
      rw [o1] at ho
      rw [o2] at hc
      obtain ⟨⟨r, r0, r1, r2, r3, r4⟩, rf⟩ := HR1.out.parts
      clear hK o1 o2
      go_wp2
      have hbE := HB.out
      exact bodyPost_ret (v := .tuple #[.agg #[.float .f32 0, .float .f32 0, .float .f32 0, .float .f32 0, .bool false], .int .i64 5]) (by simp [results, Tryd.results4, go_sem, *]) rfl ⟨by rw [HK.out, HV.out], by (repeat' (first | (with_reducible exact Below.refl _ _) | (with_reducible assumption) | (with_reducible refine Below.alloc ?_ ?_ _) | (with_reducible refine below_drewN ?_ _) | (with_reducible refine Below.drew ?_) | (with_reducible refine Below.setCell ?_ ?_ _) | (with_reducible exact Nat.le_refl _) | omega | (simp only [World.size_alloc, World.size_setCell, World.size_drew, World.heap_drewN]; omega) | (simp; omega)))⟩
    · have hown := own_lit w1 w1.heap.size 31 (size := 1) 4 #[.float .f32 0, .float .f32 0, .float .f32 0, .float .f32 0] (Nat.le_refl _) (by decide) rfl
      have HOwn := Lib.hid hown
      have hO2 : (x.toList == [111, 112, 101, 110]) = true ∨ (x.toList == [99, 114, 111, 115, 115, 101, 100]) = true := by
        rw [ho, hc]
        simpa using hO
      have HHC := Lib.hid hc
      have HO2 := Lib.hid hO
      clear hown hO
      have hOO : (x.toList == [111, 112, 101, 110]) = true ∨ ((x.toList == [111, 112, 101, 110]) = false ∧ (x.toList == [99, 114, 111, 115, 115, 101, 100]) = true) := by
        cases h : (x.toList == [111, 112, 101, 110])
        · exact .inr ⟨rfl, hO2.resolve_left (by rw [h]; decide)⟩
        · exact .inl rfl
      clear hO2 ho hc
      rcases hOO with h1 | ⟨h1, h2⟩
      all_goals
        go_wp2
        try clear h2
        clear h1
        go_loopw [6] (fun k wr => ∃ j : Nat, j ≤ 4 ∧ k = .int .i64 (j : Int) ∧ wr.ownsRow w1.heap.size 31 1 (.slice (some ⟨w1.heap.size, 0, none⟩) 4 4) 4 (cellsF (([a, b, c, d].take j).map readV ++ List.replicate (4 - j) 0)) ∧ Hid (([a, b, c, d].take j).all numOk = true) ∧ Below w1.heap.size w1 wr)
          (fun k _ => (4 - intOf k).toNat)
        case atStart =>
          exact ⟨0, by omega, rfl, HOwn.out, Lib.hid rfl, by (repeat' (first | (with_reducible exact Below.refl _ _) | (with_reducible assumption) | (with_reducible refine Below.alloc ?_ ?_ _) | (with_reducible refine below_drewN ?_ _) | (with_reducible refine Below.drew ?_) | (with_reducible refine Below.setCell ?_ ?_ _) | (with_reducible exact Nat.le_refl _) | omega | (simp only [World.size_alloc, World.size_setCell, World.size_drew, World.heap_drewN]; omega) | (simp; omega)))⟩
        case round =>
          obtain ⟨j, hj, rfl, ho, hal, hbr⟩ := hrel
          by_cases hlt : j < 4
          · obtain ⟨y, hy⟩ : ∃ y, [a, b, c, d][j]? = some y := ⟨_, List.getElem?_eq_getElem (by simpa using hlt)⟩
            have hy5 : [a, b, c, d, x][j]? = some y := by
              rw [show [a, b, c, d, x] = [a, b, c, d] ++ [x] from rfl, List.getElem?_append_left (by simpa using hlt)]
              exact hy
            have hsr := hbr.size
            have dj := (Below.cell hbr (p := ⟨g, _, none⟩) hg).trans (HAT.out j y hy5)
            have hgr := Nat.lt_of_lt_of_le hg hsr
            have HZy := Lib.hid (HZ.out y (List.mem_of_getElem? hy5))
            have c0 := own_cell ho (arr4_get a b c d j hlt)
            have f0 := own_free ho j
            have HO := Lib.hid ho
            have HE := Lib.hid (arr4_set a b c d j y hlt hy)
            have hA : ([a, b, c, d].take (j + 1)).all numOk = numOk y := by
              rw [List.take_add_one, hy, List.all_append, hal.out]
              simp
            have HA := Lib.hid hA
            have HF : numOk y = false → rbOk (piecesB 32 s) = false := fun h => by
              have : [a, b, c, d].all numOk = false := List.all_eq_false.2 ⟨y, List.mem_of_getElem? hy, by simp [h]⟩
              simp only [List.all_cons, List.all_nil, Bool.and_true] at this
              rw [HRB.out]
              simp only [Bool.and_assoc] at this ⊢
              simp [this]
              simp_all
            have HF := Lib.hid HF
            clear ho hA hy hy5
            cases hN : numOk y
            · have hK := HF.out hN
              have HK := Lib.hid (show rbK s = 5 by simp [rbK, hK])
              have HV := Lib.hid (show rbV s = (0, 0, 0, 0, false) by simp [rbV, hK])
              obtain ⟨⟨r, r0, r1, r2, r3, r4⟩, rf⟩ := (HR1.out.below hbr).parts
              have hbE := HB.out.trans (hbr.mono hsz)
              have HN := Lib.hid hN
              clear hK c0 f0 hN
              go_wp2_with (go_at_call 8; refine (l01Read_any y HZy.out _).mono ?_; (rintro e w2 ⟨q, rfl, _, _, rfl⟩; rw [HN.out]))
              exact bodyPost_ret (v := .tuple #[.agg #[.float .f32 0, .float .f32 0, .float .f32 0, .float .f32 0, .bool false], .int .i64 5]) (by simp [results, Tryd.results4, go_sem, *]) rfl ⟨by rw [HK.out, HV.out], by (repeat' (first | (with_reducible exact Below.refl _ _) | (with_reducible assumption) | (with_reducible refine Below.alloc ?_ ?_ _) | (with_reducible refine below_drewN ?_ _) | (with_reducible refine Below.drew ?_) | (with_reducible refine Below.setCell ?_ ?_ _) | (with_reducible exact Nat.le_refl _) | omega | (simp only [World.size_alloc, World.size_setCell, World.size_drew, World.heap_drewN]; omega) | (simp; omega)))⟩
            · have HN := Lib.hid hN
              clear hN
              go_wp2_with (go_at_call 8; refine (l01Read_any y HZy.out _).mono ?_; (rintro e w2 ⟨q, rfl, hq, _, rfl⟩; rw [HN.out]; have HQ := Lib.hid (hq HN.out); clear hq))
              refine ⟨⟨j + 1, by omega, rfl, ?_, Lib.hid (by rw [HA.out, HN.out]), hbr.setCell (Nat.le_refl _) _⟩, by simp [intOf]; omega⟩
              have h9 := (HO.out.stored j (.float .f32 q)).1
              have hqv : q = readV y := by rw [HQ.out, readV, if_pos HN.out]
              rw [hqv] at h9 ⊢
              rw [← HE.out]
              exact h9
          · obtain rfl : j = 4 := by omega
            have hsr := hbr.size
            have d0 := own_cell ho (j := 0) (u := .float .f32 (readV a)) rfl
            have d1 := own_cell ho (j := 1) (u := .float .f32 (readV b)) rfl
            have d2 := own_cell ho (j := 2) (u := .float .f32 (readV c)) rfl
            have d3 := own_cell ho (j := 3) (u := .float .f32 (readV d)) rfl
            have dx := (Below.cell hbr (p := ⟨g, 4, none⟩) hg).trans hx4
            have hgr := Nat.lt_of_lt_of_le hg hsr
            have hAr : w1.heap.size < wr.heap.size := by
              rcases own_val ho with ⟨_, h0⟩ | ⟨g2, cap2, h2, _, hgs2, _⟩
              · simp at h0
              · injection h2 with h3
                injection h3 with h4
                injection h4 with h5
                omega
            have hN := hal.out
            simp only [List.take, List.all_cons, List.all_nil, Bool.and_true, Bool.and_eq_true] at hN
            obtain ⟨na, nb, nc, nd⟩ := hN
            have hK : rbOk (piecesB 32 s) = beltB (readV a) (readV b) (readV c) (readV d) := by rw [HRB.out, HO2.out, na, nb, nc, nd]; rfl
            have HK := Lib.hid hK
            clear ho na nb nc nd hK hx4
            go_wp2
            go_region
            rw [HHC.out]
            generalize hX : decide (x = crossB) = X at *
            have HX := Lib.hid hX
            have HBt := Lib.hid (beltAt_box wr 24 (readV a) (readV b) (readV c) (readV d) X)
            have hbA : Below wr.heap.size wr (wr.alloc (.cells #[.float .f32 (readV a), .float .f32 (readV b), .float .f32 (readV c), .float .f32 (readV d), .bool X] 24)) := (Below.refl _ _).alloc (Nat.le_refl _) _
            have hbE := HB.out.trans ((hbr.trans (hbA.mono hsr)).mono hsz)
            have HR2 := Lib.hid (HR1.out.below hbr)
            have hbR := HB.out.trans (hbr.mono hsz)
            have hwr : w.heap.size < wr.heap.size := (HR1.out.below hbr).1
            clear hX d0 d1 d2 d3 dx hbA
            cases hB : beltB (readV a) (readV b) (readV c) (readV d)
            · have hK2 : rbOk (piecesB 32 s) = false := by rw [HK.out, hB]
              have HK2 := Lib.hid (show rbK s = 5 by simp [rbK, hK2])
              have HV := Lib.hid (show rbV s = (0, 0, 0, 0, false) by simp [rbV, hK2])
              obtain ⟨⟨r, r0, r1, r2, r3, r4⟩, rf⟩ := HR2.out.parts
              clear hK2
              go_wp2_with (go_at_call 9; refine (l02Ok_any _ 0 (readV a) (readV b) (readV c) (readV d) X _ (by exact HBt.out)).mono ?_; (rintro e w3 ⟨rfl, n, rfl⟩; rw [hB]))
              exact bodyPost_ret (v := .tuple #[.agg #[.float .f32 0, .float .f32 0, .float .f32 0, .float .f32 0, .bool false], .int .i64 5]) (by simp [results, Tryd.results4, go_sem, *]) rfl ⟨by rw [HK2.out, HV.out], by (repeat' (first | (with_reducible exact Below.refl _ _) | (with_reducible assumption) | (with_reducible refine Below.alloc ?_ ?_ _) | (with_reducible refine below_drewN ?_ _) | (with_reducible refine Below.drew ?_) | (with_reducible refine Below.setCell ?_ ?_ _) | (with_reducible exact Nat.le_refl _) | omega | (simp only [World.size_alloc, World.size_setCell, World.size_drew, World.heap_drewN]; omega) | (simp; omega)))⟩
            · have hK2 : rbOk (piecesB 32 s) = true := by rw [HK.out, hB]
              have HK2 := Lib.hid (show rbK s = 0 by simp [rbK, hK2])
              have HV := Lib.hid (show rbV s = (readV a, readV b, readV c, readV d, X) by rw [rbV, if_pos hK2, HP.out, ← HX.out]; rfl)
              obtain ⟨⟨r, r0, r1, r2, r3, r4⟩, rf⟩ := HR2.out.parts
              obtain ⟨b0, b1, b2, b3, b4⟩ := HBt.out.flat
              clear hK2
              go_wp2_with (go_at_call 9; refine (l02Ok_any _ 0 (readV a) (readV b) (readV c) (readV d) X _ (by exact HBt.out)).mono ?_; (rintro e w3 ⟨rfl, n, rfl⟩; rw [hB]))
              exact bodyPost_ret (v := .tuple #[.agg #[.float .f32 (readV a), .float .f32 (readV b), .float .f32 (readV c), .float .f32 (readV d), .bool X], .int .i64 0]) (by simp [results, Tryd.results4, go_sem, *]) rfl ⟨by rw [HK2.out, HV.out], by (repeat' (first | (with_reducible exact Below.refl _ _) | (with_reducible assumption) | (with_reducible refine Below.alloc ?_ ?_ _) | (with_reducible refine below_drewN ?_ _) | (with_reducible refine Below.drew ?_) | (with_reducible refine Below.setCell ?_ ?_ _) | (with_reducible exact Nat.le_refl _) | omega | (simp only [World.size_alloc, World.size_setCell, World.size_drew, World.heap_drewN]; omega) | (simp; omega)))⟩
  · have hK := rb_not h5
    obtain ⟨g, cap, rfl, hc1, hc2, hg, hat⟩ := hss
    have HK := Lib.hid (show rbK s = 5 by simp [rbK, hK])
    have HV := Lib.hid (show rbV s = (0, 0, 0, 0, false) by simp [rbV, hK])
    have hl5 : (((piecesB 32 s).length : Int) != 5) = true := bne_iff_ne.2 (by omega)
    obtain ⟨⟨r, r0, r1, r2, r3, r4⟩, rf⟩ := HR1.out.parts
    clear hat hK h5
    go_wp2
    exact bodyPost_ret (v := .tuple #[.agg #[.float .f32 0, .float .f32 0, .float .f32 0, .float .f32 0, .bool false], .int .i64 5]) (by simp [results, Tryd.results4, go_sem, *]) rfl ⟨by rw [HK.out, HV.out], by (repeat' (first | (with_reducible exact Below.refl _ _) | (with_reducible assumption) | (with_reducible refine Below.alloc ?_ ?_ _) | (with_reducible refine below_drewN ?_ _) | (with_reducible refine Below.drew ?_) | (with_reducible refine Below.setCell ?_ ?_ _) | (with_reducible exact Nat.le_refl _) | omega | (simp only [World.size_alloc, World.size_setCell, World.size_drew, World.heap_drewN]; omega) | (simp; omega)))⟩

end Go.Proofs.YtljigmplmlhdnaaDoor
