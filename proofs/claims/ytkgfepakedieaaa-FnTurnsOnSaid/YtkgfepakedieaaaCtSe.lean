/- Contracts: a drawn train; a drawn number. -/
import Derived.Test.YtkgfepakedieaaaCtSd
import Derived.Test.YtkgfepakedieaaaCtZe
namespace Go.Proofs.Ytkgfepakedieaaa
open Go.RowKit

theorem Src.below {w w' : World} {g k B : Nat} (h : Src w g k) (hb : Below B w w') (hB : g < B) : Src w' g k := by
  obtain ⟨a, n, cap, t, z, ho, hA, ht, hz⟩ := h
  exact ⟨a, n, cap, t, z, own_below ho hb (fun b hb => by cases hb; exact hB), hA.below (hb.mono (by omega)), ht, hz⟩
theorem Moved.below {g : Nat} {w w' w2 : World} (h : Moved g w w') (hg : g < w.heap.size) (hb : Below w.heap.size w' w2) : Moved g w w2 :=
  ⟨h.1.trans (hb.mono (by omega)), fun b hb' hne => (hb.block b hb').trans (h.2 b hb' hne)⟩
theorem Moved.fresh {g : Nat} {w w' : World} (h : Moved g w w') (hg : g < w.heap.size) {P : Nat} (hP : w.heap.size ≤ P) (o : Nat) (u : Value) : Moved g w (w'.setCell ⟨P, o, none⟩ u) :=
  h.below hg ((Below.refl _ _).setCell hP _)
theorem cellsT_snoc (ps : List T3) (p : T3) : cellsT (ps ++ [p]) = cellsT ps ++ [.int .i16 p.1, .int .i16 p.2.1, .float .f32 p.2.2] := by
  rw [cellsT_app]
  rfl
theorem pair_ok {a b : Int} {l : Nat} (a0 : 6 ≤ a) (a1 : a ≤ 200) (b0 : 6 ≤ b) (b1 : b ≤ 200) (hl : partB l = true) : pairB (a, b, l) = true := by
  simp [pairB, withinB, a0, a1, b0, b1, hl]

set_option maxRecDepth 100000 in
set_option maxHeartbeats 4000000 in
theorem drawn_any (g k : Nat) (w : World) (h : Src w g k) (hk : k ≤ 1000) :
    Calls Try.prog 48 #[.pointer (some ⟨g, 0, none⟩), .int .i64 4] w fun e w' => ∃ (u : Value) (ps : List T3), e = .returned u ∧ w'.ownsRow w.heap.size 54 3 u ps.length (cellsT ps) ∧ (1 ≤ ps.length ∧ ps.length ≤ 4) ∧ (∀ p ∈ ps, pairB p = true ∧ F p.2.2) ∧ Src w' g (k + 1000) ∧ Moved g w w' := by
  have hg := h.lt
  obtain ⟨i0, hi, hz0, hz1, hz2⟩ := info_parts info_pair
  have H := Lib.hid h
  clear h
  go_enter Try.func48, Try.ntmps48
  go_wp2_with fail
  refine (pick_any g k 4 _ (H.out.after ((Below.refl _ _).alloc (Nat.le_refl _) _)) (by omega) (by omega) (by omega)).mono ?_
  rintro e w1 ⟨u, rfl, ⟨x, rfl, x0, x1⟩, hs1, hm1⟩
  have hown := hm1.own (own_lit w w.heap.size 54 (size := 3) 0 #[] (Nat.le_refl _) (by decide) rfl) (fun b hb => by cases hb; exact Nat.ne_of_gt hg)
  have hmA := (Moved.of_below hg ((Below.refl _ _).alloc (Nat.le_refl _) (.cells #[] 54))).trans hm1
  have hsA := hmA.1.size
  obtain ⟨N, rfl⟩ : ∃ N : Nat, x = (N : Int) := ⟨x.toNat, by omega⟩
  go_wp2
  go_loopw [5, 6] (fun u m wr => ∃ ps : List T3, ps.length ≤ N + 1 ∧ m = .int .i64 ((N : Int) + 1 - ps.length) ∧ wr.ownsRow w.heap.size 54 3 u ps.length (cellsT ps) ∧ Hid ((∀ p ∈ ps, pairB p = true ∧ F p.2.2) ∧ Src wr g (k + 2 + 100 * ps.length)) ∧ Moved g w wr)
    (fun _ m _ => (intOf m).toNat)
  case atStart => exact ⟨[], by simp, by simp, hown, Lib.hid ⟨by simp, hs1⟩, hmA⟩
  case round =>
    obtain ⟨ps, hl, rfl, ho, hP, hM⟩ := hrel
    have hsz := hM.1.size
    by_cases hlt : ps.length < N + 1
    · have HO := Lib.hid ho
      have HM := Lib.hid hM
      clear ho hM hown hmA
      go_wp2_with fail
      refine (wheel_any g _ _ hP.out.2 (by omega)).mono ?_
      rintro e w2 ⟨u2, rfl, ⟨a, rfl, a0, a1⟩, hs2, hm2⟩
      go_wp2_with fail
      refine (wheel_any g _ _ hs2 (by omega)).mono ?_
      rintro e w3 ⟨u3, rfl, ⟨b, rfl, b0, b1⟩, hs3, hm3⟩
      have HP0 := own_lit w3 w3.heap.size 54 (size := 3) 1 #[.int .i16 a, .int .i16 b, .float .f32 0] (Nat.le_refl _) (by decide) rfl
      have s2 := hm2.1.size
      have s3 := hm3.1.size
      have hgw : g < w3.heap.size := by omega
      go_wp2_with fail
      refine (tone_any g _ _ (hs3.after ((Below.refl _ _).alloc (Nat.le_refl _) _)) (by omega)).mono ?_
      rintro e w4 ⟨u4, rfl, ⟨l, rfl, hl1, hl2⟩, hs4, hm4⟩
      have HP4 := hm4.own HP0 (fun b hb => by cases hb; exact Nat.ne_of_gt hgw)
      have hf4 := own_free HP4
      have hP4 : w3.heap.size < w4.heap.size := (HP4.lt _ rfl).2
      have c40 := own_cell HP4 (j := 0) rfl
      have c41 := own_cell HP4 (j := 1) rfl
      have c42 := own_cell HP4 (j := 2) rfl
      have HP5 := (HP4.stored 2 (.float .f32 l)).1
      have hs5 := hs4.below ((Below.refl _ w4).setCell (p := ⟨w3.heap.size, 2, none⟩) (Nat.le_refl w3.heap.size) (.float .f32 l)) hgw
      have hmr : Moved g wr (w4.setCell ⟨w3.heap.size, 2, none⟩ (.float .f32 l)) := (((hm2.trans hm3).trans (Moved.of_below hgw ((Below.refl _ _).alloc (Nat.le_refl _) _))).trans hm4).fresh (by omega) (by omega) _ _
      have HP5 := Lib.hid HP5
      clear HP0 HP4
      go_wp2_with fail
      refine (one_any g _ 2 _ hs5 (by omega) (by omega) (by omega)).mono ?_
      rintro e w6 ⟨u6, rfl, ⟨bb, rfl⟩, hs6, hm6⟩
      have HP6 := hm6.own HP5.out (fun b hb => by cases hb; exact Nat.ne_of_gt hgw)
      have hf6 := own_free HP6
      have d0 := own_cell HP6 (j := 0) rfl
      have d1 := own_cell HP6 (j := 1) rfl
      have d2 := own_cell HP6 (j := 2) rfl
      have hP6 : w3.heap.size < w6.heap.size := (HP6.lt _ rfl).2
      have hmw := hmr.trans hm6
      have ho6 := hmw.own HO.out (fun b hb => by have := (HO.out.lt b hb).1; omega)
      have hM6 := HM.out.trans hmw
      have HPP := Lib.hid HP6
      have s6 := hmw.1.size
      have s6' := hM6.1.size
      clear HP6 hmr hf4 c40 c41 c42
      cases bb
      · clear hf6
        go_wp2_with (at_builtin; refine wpList_append_lies _ rfl _ _ _ rfl w.heap.size 54 i0 _ 3 8 Try.underlying29 hi hz0 hz1 hz2 rfl (by decide) _ _ _ rfl (ho6.alloc _) ⟨w6.heap.size, 0, none⟩ 1 1 [.int .i16 a, .int .i16 b, .float .f32 l] rfl (by rfl) (World.news_of_block (heap_alloc_new w6 _)) (by intro u hu; simp at hu; rcases hu with rfl | rfl | rfl <;> rfl) (by decide) (by unfold maxLen; omega) (by omega) (by simp; omega) _ rfl ?_; intro g' cap' w10 hown1 hgrow hat hlt1)
        have hbX : Below w.heap.size w6 w10 := ((Below.refl _ _).alloc (by omega) _).grown hgrow (by simp; omega) (fun g hg => (HO.out.lt g hg).1)
        have hon : w10.ownsRow w.heap.size 54 3 (.slice (some ⟨g', 0, none⟩) (ps.length + 1) cap') (ps ++ [(a, b, l)]).length (cellsT (ps ++ [(a, b, l)])) := by
          rw [List.length_append, cellsT_snoc]
          exact hown1
        have HON := Lib.hid hon
        have hMN := hM6.below hg hbX
        have hsN := hs6.below hbX hg
        clear hown1 hgrow hat hlt1 hon
        go_wp2
        refine ⟨⟨ps ++ [(a, b, l)], by simp; omega, by simp; omega, HON.out, Lib.hid ⟨fun p hp => ?_, hsN.mono (by simp; omega)⟩, hMN⟩, by simp [intOf]; omega⟩
        rcases List.mem_append.1 hp with hp | hp
        · exact hP.out.1 p hp
        · rw [List.mem_singleton.1 hp]
          exact ⟨pair_ok a0 a1 b0 b1 hl2, hl1⟩
      · go_wp2_with fail
        refine (pick_any g _ 5 _ hs6 (by omega) (by omega) (by omega)).mono ?_
        rintro e w7 ⟨u7, rfl, ⟨y, rfl, y0, y1⟩, hs7, hm7⟩
        have hp := partF (x := y) (N := 64) (c := 1115684864) (F_const (by decide +kernel)) (by decide +kernel) (A_const (m := 64 * 2 ^ 149) (by decide +kernel) (by decide +kernel)) y0 (by omega) (by omega) (by omega)
        have hr := fun w0 => F_of_cn (cn_fval .quo (floatOfInt .f32 y) 1115684864 w0) hp.1
        have HP7 := hm7.own HPP.out (fun b hb => by cases hb; exact Nat.ne_of_gt hgw)
        have hf7 := own_free HP7
        have e0 := own_cell HP7 (j := 0) rfl
        have e1 := own_cell HP7 (j := 1) rfl
        have e2 := own_cell HP7 (j := 2) rfl
        have hP7 : w3.heap.size < w7.heap.size := (HP7.lt _ rfl).2
        clear d0 d1 d2 hf6 HPP HP7
        obtain ⟨q, hq⟩ : ∃ q, cop .quo (floatOfInt .f32 y) 1115684864 = q := ⟨_, rfl⟩
        rw [hq] at hp hr
        have hq1 := hp.1
        have hq2 := hp.2
        have ho7 := hm7.own ho6 (fun b hb => by have := (HO.out.lt b hb).1; omega)
        have ho8 := own_setCell_other (p := ⟨w3.heap.size, 2, none⟩) (u := .float .f32 q) ho7 (fun b hb => by have := (HO.out.lt b hb).2; show b ≠ w3.heap.size; omega)
        have hM8 := (hM6.trans hm7).fresh hg (P := w3.heap.size) (by omega) 2 (.float .f32 q)
        have hs8 := hs7.below ((Below.refl _ w7).setCell (p := ⟨w3.heap.size, 2, none⟩) (Nat.le_refl w3.heap.size) (.float .f32 q)) hgw
        have s7 := hm7.1.size
        have hnew : ∀ (o : Obj) (n : Nat), (((w7.setCell ⟨w3.heap.size, 2, none⟩ (.float .f32 q)).alloc o).drewN n).heap[w7.heap.size]? = some o := fun o n => by
          have := heap_alloc_new (w7.setCell ⟨w3.heap.size, 2, none⟩ (.float .f32 q)) o
          rw [World.size_setCell] at this
          rw [World.heap_drewN]
          exact this
        clear ho7 hp
        go_wp2_with (at_builtin; (refine wpList_append_lies _ rfl _ _ _ rfl w.heap.size 54 i0 _ 3 8 Try.underlying29 hi hz0 hz1 hz2 rfl (by decide) _ _ _ rfl (own_drewN (ho8.alloc _) _) ⟨w7.heap.size, 0, none⟩ 1 1 [.int .i16 a, .int .i16 b, .float .f32 q] rfl (by rfl) (World.news_of_block (hnew _ _)) (by intro u hu; simp at hu; rcases hu with rfl | rfl | rfl <;> rfl) (by decide) (by unfold maxLen; omega) (by omega) (by simp; omega) _ rfl ?_); intro g' cap' w10 hown1 hgrow hat hlt1)
        have hbX : Below w.heap.size (w7.setCell ⟨w3.heap.size, 2, none⟩ (.float .f32 q)) w10 := (below_drewN ((Below.refl _ _).alloc (by simp; omega) _) _).grown hgrow (by simp; omega) (fun g hg => (HO.out.lt g hg).1)
        have hon : w10.ownsRow w.heap.size 54 3 (.slice (some ⟨g', 0, none⟩) (ps.length + 1) cap') (ps ++ [(a, b, q)]).length (cellsT (ps ++ [(a, b, q)])) := by
          rw [List.length_append, cellsT_snoc]
          exact hown1
        have HON := Lib.hid hon
        have hMN := hM8.below hg hbX
        have hsN := hs8.below hbX hg
        clear hown1 hgrow hat hlt1 hon
        go_wp2
        refine ⟨⟨ps ++ [(a, b, q)], by simp; omega, by simp; omega, HON.out, Lib.hid ⟨fun p hp => ?_, hsN.mono (by simp; omega)⟩, hMN⟩, by simp [intOf]; omega⟩
        rcases List.mem_append.1 hp with hp | hp
        · exact hP.out.1 p hp
        · rw [List.mem_singleton.1 hp]
          exact ⟨pair_ok a0 a1 b0 b1 hq2, hq1⟩
    · obtain hle : ps.length = N + 1 := by omega
      clear hown hmA
      go_wp2
      all_goals go_ret
      all_goals exact ⟨_, ps, rfl, ho, by omega, hP.out.1, hP.out.2.mono (by omega), hM⟩

end Go.Proofs.Ytkgfepakedieaaa
