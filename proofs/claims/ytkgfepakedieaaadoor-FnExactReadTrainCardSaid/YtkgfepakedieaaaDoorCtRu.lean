/- Contracts: a train is read from its text (the reference: the walk). -/
import Derived.Test.YtkgfepakedieaaaDoorCtRs
namespace Go.Proofs.YtkgfepakedieaaaDoor
open Go.RowKit

set_option maxRecDepth 20000 in
set_option maxHeartbeats 8000000 in
theorem specReadTrain_any (s : ByteArray) (hs : s.size ≤ 1048576) (w : World) :
    Calls Tryd.prog 10 #[.string s] w (GivesT w (rtK s) (rtR s)) := by
  obtain ⟨i0, hi, hz0, hz1, hz2⟩ := info_parts info_pair
  have hsmall := pieces_smallT (s := s) (n := 1048576) 32 hs
  have hlw : (piecesB 32 s).length ≤ 1048577 := by
    have h1 := splitL_le 32 s.data.toList
    have h2 := list_size s
    unfold piecesB
    rw [List.length_map]
    omega
  obtain ⟨ws, hws⟩ : ∃ ws, ws = piecesB 32 s := ⟨_, rfl⟩
  have HW := Lib.hid hws
  rw [← hws] at hsmall hlw
  have HSM := Lib.hid hsmall
  clear hsmall hws
  go_enter Tryd.func10, Tryd.ntmps10
  go_wp2_with fail
  refine (split_own_fresh s 32 hs _).mono ?_
  rintro e w1 ⟨g, cap, rfl, hfr, hg, hat, hb1⟩
  rw [← HW.out] at hat
  rw [← HW.out]
  have hown0 := own_lit w w.heap.size 38 (size := 3) 0 #[] (Nat.le_refl _) (by decide) rfl
  have HO0 := Lib.hid (own_after hown0 hb1)
  have hb : Below w.heap.size w w1 := below_then (by (repeat' (first | (with_reducible exact Below.refl _ _) | (with_reducible assumption) | (with_reducible refine Below.alloc ?_ ?_ _) | (with_reducible refine below_drewN ?_ _) | (with_reducible refine Below.drew ?_) | (with_reducible refine Below.setCell ?_ ?_ _) | (with_reducible exact Nat.le_refl _) | omega | (simp only [World.size_alloc, World.size_setCell, World.size_drew, World.heap_drewN]; omega) | (simp; omega)))) hb1
  have hsz := hb.size
  have hgne : w.heap.size ≠ g := by simp at hfr; omega
  have HAT := Lib.hid hat
  clear hat hown0
  go_wp2
  go_loopw [4, 6] (fun u k wr => ∃ j : Nat, j ≤ ws.length ∧ k = .int .i64 (j : Int) ∧ wr.ownsRow w.heap.size 38 3 u j (cellsT (getP parseS (ws.take j))) ∧ Hid (allP parseS (ws.take j) = true) ∧ Below w.heap.size w wr ∧ g < wr.heap.size ∧ Hid (∀ (i : Nat) x, ws[i]? = some x → wr.cell? ⟨g, i, none⟩ = some (.string x)) ∧ some g ≠ u.ownBlock)
    (fun _ k _ => (ws.length - intOf k).toNat)
  case atStart => exact ⟨0, by omega, rfl, HO0.out, Lib.hid rfl, hb, hg, HAT, by simp [Value.ownBlock]; omega⟩
  case round =>
    clear hb hsz
    obtain ⟨j, hj, rfl, ho, hal, hb, hgr, HIW, hne⟩ := hrel
    have hsz := hb.size
    by_cases hlt : j < ws.length
    · obtain ⟨y, hy⟩ : ∃ y, ws[j]? = some y := ⟨_, List.getElem?_eq_getElem hlt⟩
      have dj := HIW.out j y hy
      have hys := HSM.out y (List.mem_of_getElem? hy)
      have HO := Lib.hid ho
      have HT1 := Lib.hid (allP_take hy hal.out)
      have hF : (parseS y).isSome = false → rtK s = 5 ∧ rtR s = [] := fun h => rtS_no (by
        unfold rtS
        rw [← HW.out, allP_no hy h]
        rfl)
      have HF := Lib.hid hF
      have HG : Hid (∀ p, parseS y = some p → getP parseS (ws.take (j + 1)) = getP parseS (ws.take j) ++ [p]) := Lib.hid (fun p h => getP_take hy h)
      clear ho hF hy
      go_wp2_with fail
      refine (split_own_fresh y 58 hys _).mono ?_
      rintro e w2 ⟨g2, cap2, rfl, hfr2, hg2, hat2, k1⟩
      have hb2 := hb.trans (k1.mono hsz)
      have s2 := hb2.size
      by_cases h2 : (piecesB 58 y).length = 2
      · obtain ⟨y0, y1, e1⟩ := two h2
        rw [e1] at hat2
        have hz2s := pieces_smallT (s := y) 58 hys
        rw [e1] at hz2s
        have hy0 := hz2s y0 (by simp)
        have hy1 := hz2s y1 (by simp)
        have c0 := hat2 0 y0 rfl
        have C1 := Lib.hid (hat2 1 y1 rfl)
        have HE1 := Lib.hid e1
        rw [e1]
        clear hat2 hz2s h2
        go_wp2_with fail
        refine (split_own_fresh y0 47 hy0 _).mono ?_
        rintro e w3 ⟨g3, cap3, rfl, hfr3, hg3, hat3, k2⟩
        have hb3 := hb2.trans (k2.mono s2)
        have s3 := hb3.size
        clear c0
        by_cases h3 : (piecesB 47 y0).length = 2
        · obtain ⟨t0, t1, e2⟩ := two h3
          rw [e2] at hat3
          have hz3s := pieces_smallT (s := y0) 47 hy0
          rw [e2] at hz3s
          have ht0 := hz3s t0 (by simp)
          have ht1 := hz3s t1 (by simp)
          have c0 := hat3 0 t0 rfl
          have c1 := hat3 1 t1 rfl
          have d1 := (Below.cell k2 (p := ⟨g2, 1, none⟩) hg2).trans C1.out
          have hg23 := Nat.lt_of_lt_of_le hg2 k2.size
          obtain ⟨hend1, hend2⟩ := parseS_end HE1.out e2
          have HN1 := Lib.hid hend1
          have HN2 := Lib.hid hend2
          rw [e2]
          clear hat3 hz3s h3 hend1 hend2
          go_wp2_with fail
          refine (l01Number_any t0 (by omega) _).mono ?_
          rintro e w4 ⟨x1, rfl, hx1, rfl⟩
          go_wp2_with fail
          refine (l01Number_any t1 (by omega) _).mono ?_
          rintro e w4 ⟨x2, rfl, hx2, rfl⟩
          go_wp2_with fail
          refine (l01Read_any y1 (by omega) _).mono ?_
          rintro e w4 ⟨r, rfl, hr, hrl, rfl⟩
          have HX1 := Lib.hid hx1
          have HX2 := Lib.hid hx2
          have HR3 := Lib.hid hr
          obtain ⟨b1, hb1e⟩ : ∃ b, b = (l01Num t0).isSome := ⟨_, rfl⟩
          obtain ⟨b2, hb2e⟩ : ∃ b, b = (l01Num t1).isSome := ⟨_, rfl⟩
          obtain ⟨b3, hb3e⟩ : ∃ b, b = numOk y1 := ⟨_, rfl⟩
          rw [← hb1e, ← hb2e, ← hb3e]
          have hout : (parseS y).isSome = (b1 && b2 && b3 && withinB x1 6 200 && withinB x2 6 200) ∧ ((parseS y).isSome = true → parseS y = some (x1, x2, r)) := by
            cases e3 : l01Num t0 with
            | none =>
              rw [HN1.out (.inl e3)]
              rw [e3] at hb1e
              simp [hb1e]
            | some a =>
              cases e4 : l01Num t1 with
              | none =>
                rw [HN1.out (.inr (.inl e4))]
                rw [e4] at hb2e
                simp [hb2e]
              | some b =>
                cases e5 : numOk y1 with
                | false =>
                  rw [HN1.out (.inr (.inr e5))]
                  rw [e5] at hb3e
                  simp [hb3e]
                | true =>
                  have q1 := HX1.out a e3
                  have q2 := HX2.out b e4
                  have q3 := HR3.out e5
                  rw [HN2.out a b e3 e4 e5, q1, q2]
                  rw [e3] at hb1e
                  rw [e4] at hb2e
                  rw [e5] at hb3e
                  have q4 : readV y1 = r := by rw [readV, if_pos e5, q3]
                  rw [hb1e, hb2e, hb3e, q4]
                  cases hw : (withinB (a : Int) 6 200 && withinB (b : Int) 6 200)
                  · simp only [Option.isSome_some, Bool.and_self, Bool.true_and, hw]
                    simp
                  · simp only [Option.isSome_some, Bool.and_self, Bool.true_and, hw]
                    simp
          obtain ⟨hout1, hout2⟩ := hout
          have HO2 := Lib.hid hout2
          have HIW3 : Hid (∀ (i : Nat) x, ws[i]? = some x → w3.cell? ⟨g, i, none⟩ = some (.string x)) := Lib.hid (fun i x hx => (Below.cell k2 (p := ⟨g, i, none⟩) (Nat.lt_of_lt_of_le hgr k1.size)).trans ((Below.cell k1 (p := ⟨g, i, none⟩) hgr).trans (HIW.out i x hx)))
          have hg6 : g < w3.heap.size := Nat.lt_of_lt_of_le (Nat.lt_of_lt_of_le hgr k1.size) k2.size
          have HO3 := Lib.hid (own_after (own_after HO.out k1) k2)
          clear hx1 hx2 hr hb1e hb2e hb3e hout2 k1 k2 c0 c1 d1 hb2 s2
          cases hok : (b1 && b2 && b3 && withinB x1 6 200 && withinB x2 6 200)
          · rw [hok] at hout1
            obtain ⟨hK, hR⟩ := HF.out hout1
            have HK := Lib.hid hK
            have HR := Lib.hid hR
            clear hK hR hout1
            have hcases : b1 = false ∨ (b1 = true ∧ b2 = false) ∨ (b1 = true ∧ b2 = true ∧ b3 = false) ∨ (b1 = true ∧ b2 = true ∧ b3 = true ∧ withinB x1 6 200 = false) ∨ (b1 = true ∧ b2 = true ∧ b3 = true ∧ withinB x1 6 200 = true ∧ withinB x2 6 200 = false) := by
              cases b1
              · exact .inl rfl
              · cases b2
                · exact .inr (.inl ⟨rfl, rfl⟩)
                · cases b3
                  · exact .inr (.inr (.inl ⟨rfl, rfl, rfl⟩))
                  · cases h4 : withinB x1 6 200
                    · exact .inr (.inr (.inr (.inl ⟨rfl, rfl, rfl, rfl⟩)))
                    · rw [h4] at hok
                      exact .inr (.inr (.inr (.inr ⟨rfl, rfl, rfl, rfl, by simpa using hok⟩)))
            clear hok
            have hfin : ∀ wx, wx = w3 → (wx.alloc (.cells #[] 38)).ownsRow w.heap.size 38 3 (.slice (some ⟨wx.heap.size, 0, none⟩) 0 0) (rtR s).length (cellsT (rtR s)) := fun wx hx => by
              rw [hx, HR.out]
              exact own_base (own_lit w3 w3.heap.size 38 (size := 3) 0 #[] (Nat.le_refl _) (by decide) rfl) s3
            have HFin := Lib.hid hfin
            clear hfin
            rcases hcases with rfl | ⟨rfl, rfl⟩ | ⟨rfl, rfl, rfl⟩ | ⟨rfl, rfl, rfl, v4⟩ | ⟨rfl, rfl, rfl, v4, v5⟩
            all_goals go_wp2_with (go_at_call 25; refine (l01Teeth_any _ _).mono ?_; rintro e w' ⟨rfl, rfl⟩)
            all_goals go_ret2
            all_goals exact ⟨_, by rw [HK.out]; rfl, HFin.out _ rfl, by (repeat' (first | (with_reducible exact Below.refl _ _) | (with_reducible assumption) | (with_reducible refine Below.alloc ?_ ?_ _) | (with_reducible refine below_drewN ?_ _) | (with_reducible refine Below.drew ?_) | (with_reducible refine Below.setCell ?_ ?_ _) | (with_reducible exact Nat.le_refl _) | omega | (simp only [World.size_alloc, World.size_setCell, World.size_drew, World.heap_drewN]; omega) | (simp; omega)))⟩
          · rw [hok] at hout1
            simp only [Bool.and_eq_true] at hok
            obtain ⟨⟨⟨⟨rfl, rfl⟩, rfl⟩, v4⟩, v5⟩ := hok
            have hp := HO2.out hout1
            have HGG := Lib.hid (HG.out _ hp)
            have HTT := Lib.hid (HT1.out.trans hout1)
            have n1 : 6 ≤ x1 ∧ x1 ≤ 200 := by simpa [withinB] using v4
            have n2 : 6 ≤ x2 ∧ x2 ≤ 200 := by simpa [withinB] using v5
            have m1 : IntKind.i16.wrap x1 = x1 := wrapI16 (by omega) (by omega)
            have m2 : IntKind.i16.wrap x2 = x2 := wrapI16 (by omega) (by omega)
            clear hp hout1 n1 n2
            go_wp2_with (first | (go_at_call 25; refine (l01Teeth_any _ _).mono ?_; rintro e w' ⟨rfl, rfl⟩) | (at_builtin; refine wpList_append_lies _ rfl _ _ _ rfl w.heap.size 38 i0 _ 3 8 Tryd.underlying26 hi hz0 hz1 hz2 rfl (by decide) _ _ _ rfl (HO3.out.alloc _) ⟨w3.heap.size, 0, none⟩ 1 1 [.int .i16 x1, .int .i16 x2, .float .f32 r] rfl (by rfl) (World.news_of_block (heap_alloc_new w3 _)) (by intro u hu; simp at hu; rcases hu with rfl | rfl | rfl <;> rfl) (by decide) (by unfold maxLen; omega) (by omega) (by simp; omega) _ rfl ?_; intro g' cap' w10 hown1 hgrow hat hlt1))
            have hb10 : Below w.heap.size w w10 := (hb3.alloc s3 _).grown hgrow (by simp; omega) (fun g hg => (HO.out.lt g hg).1)
            have HOx := Lib.hid hown1
            have hg10 : g < w10.heap.size := Nat.lt_of_lt_of_le (by simp; omega) hgrow.size
            have HI10 : Hid (∀ (i : Nat) x, ws[i]? = some x → w10.cell? ⟨g, i, none⟩ = some (.string x)) := Lib.hid (fun i x hx => hgrow.cell (by rw [World.cell?_alloc_old]; exact HIW3.out i x hx; show g ≠ _; omega) hne)
            have hne10 : g ≠ g' := by
              rcases hat with h1 | h1
              · intro e
                rw [← e] at h1
                exact hne h1.symm
              · rw [h1]
                simp
                omega
            clear hown1 hgrow hat hlt1
            exact ⟨⟨j + 1, by omega, rfl, by rw [HGG.out, cellsT_appR]; exact HOx.out, HTT, hb10, hg10, HI10, by simpa [Value.ownBlock] using hne10⟩, by simp [intOf]; omega⟩
        · have hnone : parseS y = none := parseS_bad3 HE1.out h3
          obtain ⟨hK, hR⟩ := HF.out (by rw [hnone]; rfl)
          have HK := Lib.hid hK
          have HR := Lib.hid hR
          have hlne : (((piecesB 47 y0).length : Int) != 2) = true := bne_iff_ne.2 (by omega)
          clear hK hR hnone h3 hat3
          go_wp2
          all_goals go_ret2
          all_goals exact ⟨_, by rw [HK.out]; rfl, by rw [HR.out]; exact own_base (own_lit w3 w3.heap.size 38 (size := 3) 0 #[] (Nat.le_refl _) (by decide) rfl) s3, by (repeat' (first | (with_reducible exact Below.refl _ _) | (with_reducible assumption) | (with_reducible refine Below.alloc ?_ ?_ _) | (with_reducible refine below_drewN ?_ _) | (with_reducible refine Below.drew ?_) | (with_reducible refine Below.setCell ?_ ?_ _) | (with_reducible exact Nat.le_refl _) | omega | (simp only [World.size_alloc, World.size_setCell, World.size_drew, World.heap_drewN]; omega) | (simp; omega)))⟩
      · have hnone : parseS y = none := parseS_bad2 h2
        obtain ⟨hK, hR⟩ := HF.out (by rw [hnone]; rfl)
        have HK := Lib.hid hK
        have HR := Lib.hid hR
        have hlne : (((piecesB 58 y).length : Int) != 2) = true := bne_iff_ne.2 (by omega)
        clear hK hR hnone h2 hat2
        go_wp2
        all_goals go_ret2
        all_goals exact ⟨_, by rw [HK.out]; rfl, by rw [HR.out]; exact own_base (own_lit w2 w2.heap.size 38 (size := 3) 0 #[] (Nat.le_refl _) (by decide) rfl) s2, by (repeat' (first | (with_reducible exact Below.refl _ _) | (with_reducible assumption) | (with_reducible refine Below.alloc ?_ ?_ _) | (with_reducible refine below_drewN ?_ _) | (with_reducible refine Below.drew ?_) | (with_reducible refine Below.setCell ?_ ?_ _) | (with_reducible exact Nat.le_refl _) | omega | (simp only [World.size_alloc, World.size_setCell, World.size_drew, World.heap_drewN]; omega) | (simp; omega)))⟩
    · obtain rfl : j = ws.length := by omega
      have hall : allP parseS ws = true := by simpa using hal.out
      have HO := Lib.hid ho
      rw [List.take_length] at ho
      have hgl : (getP parseS ws).length = ws.length := by simp [getP]
      have HTr := Lib.hid (tr_of_row (ps := getP parseS ws) (by rw [hgl]; exact ho) getS_tok)
      have hrs : rtS s = trainB (getP parseS ws) := by
        unfold rtS
        rw [← HW.out, hall]
        rfl
      clear ho
      cases hE : trainB (getP parseS ws)
      · obtain ⟨hK, hR⟩ := rtS_no (hrs.trans hE)
        have HK := Lib.hid hK
        have HR := Lib.hid hR
        have HE := Lib.hid hE
        clear hE hK hR hrs hall
        go_wp2_with (go_at_call 14; refine (l01Ok_any (getP parseS ws) _ _ HTr.out).mono ?_; (rintro e w2 ⟨rfl, rfl⟩; rw [HE.out]))
        all_goals go_ret2
        all_goals exact ⟨_, by rw [HK.out]; rfl, by rw [HR.out]; exact own_base (own_lit wr wr.heap.size 38 (size := 3) 0 #[] (Nat.le_refl _) (by decide) rfl) hsz, by (repeat' (first | (with_reducible exact Below.refl _ _) | (with_reducible assumption) | (with_reducible refine Below.alloc ?_ ?_ _) | (with_reducible refine below_drewN ?_ _) | (with_reducible refine Below.drew ?_) | (with_reducible refine Below.setCell ?_ ?_ _) | (with_reducible exact Nat.le_refl _) | omega | (simp only [World.size_alloc, World.size_setCell, World.size_drew, World.heap_drewN]; omega) | (simp; omega)))⟩
      · obtain ⟨hK, hR⟩ := rtS_yes (hrs.trans hE)
        have HK := Lib.hid hK
        have HR := Lib.hid (show rtR s = getP parseS ws by rw [hR, ← HW.out])
        have HE := Lib.hid hE
        clear hE hK hR hrs hall
        go_wp2_with (go_at_call 14; refine (l01Ok_any (getP parseS ws) _ _ HTr.out).mono ?_; (rintro e w2 ⟨rfl, rfl⟩; rw [HE.out]))
        all_goals go_ret2
        all_goals exact ⟨_, by rw [HK.out]; rfl, by rw [HR.out, hgl]; have h9 := HO.out; rwa [List.take_length] at h9, hb⟩

end Go.Proofs.YtkgfepakedieaaaDoor
