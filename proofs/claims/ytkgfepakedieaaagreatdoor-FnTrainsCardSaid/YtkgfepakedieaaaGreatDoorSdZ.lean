/- Contracts: what the reference model draws: a wheel, a part, a number of a few quarters, a train. -/
import Derived.Test.YtkgfepakedieaaaGreatDoorCtSc
import Derived.Test.YtkgfepakedieaaaGreatDoorFlZ
import Derived.Test.YtkgfepakedieaaaGreatDoorMkZ
import Derived.Deep.RegionLaw
import Derived.Deep.AppendLies
import Derived.Test.YtkgfepakedieaaaGreatDoorCtZe
import Derived.Test.YtkgfepakedieaaaGreatDoorNeg
import Derived.Test.YtkgfepakedieaaaGreatDoorLoZ
import Derived.BigQuiet
set_option linter.unusedVariables false
set_option linter.unusedSimpArgs false
namespace Go.Proofs.YtkgfepakedieaaaGreatDoor
open Go.RowKit

def wheels : List Int := [6, 8, 10, 12, 15, 16, 20, 24, 25, 30, 37, 48, 60, 96, 127, 200]
theorem wheels_in : ∀ x ∈ wheels, 6 ≤ x ∧ x ≤ 200 := by decide
theorem wheels_cells (w : World) (t : TypeId) : ∀ (i : Nat) (x : Int), wheels[i]? = some x → (w.alloc (.cells #[.int .i64 6, .int .i64 8, .int .i64 10, .int .i64 12, .int .i64 15, .int .i64 16, .int .i64 20, .int .i64 24, .int .i64 25, .int .i64 30, .int .i64 37, .int .i64 48, .int .i64 60, .int .i64 96, .int .i64 127, .int .i64 200] t)).cell? ⟨w.heap.size, i, none⟩ = some (.int .i64 x) := by
  intro i x h
  rw [World.cell?_alloc_at (hn := rfl)]
  have hi : i < 16 := (List.getElem?_eq_some_iff.1 h).1
  have : ∀ i : Fin 16, ∀ x : Int, wheels[i.1]? = some x → (#[.int .i64 6, .int .i64 8, .int .i64 10, .int .i64 12, .int .i64 15, .int .i64 16, .int .i64 20, .int .i64 24, .int .i64 25, .int .i64 30, .int .i64 37, .int .i64 48, .int .i64 60, .int .i64 96, .int .i64 127, .int .i64 200] : Array Value)[i.1]? = some (.int .i64 x) := by
    intro i x h
    have e : (#[.int .i64 6, .int .i64 8, .int .i64 10, .int .i64 12, .int .i64 15, .int .i64 16, .int .i64 20, .int .i64 24, .int .i64 25, .int .i64 30, .int .i64 37, .int .i64 48, .int .i64 60, .int .i64 96, .int .i64 127, .int .i64 200] : Array Value) = (wheels.map fun z => Value.int .i64 z).toArray := rfl
    rw [e, List.getElem?_toArray, List.getElem?_map, h]
    rfl
  exact this ⟨i, hi⟩ x h

set_option maxRecDepth 100000 in
set_option maxHeartbeats 1000000 in
theorem wheel_any (g k : Nat) (w : World) (h : Src w g k) (hk : k ≤ 50000) :
    Calls Tryz.prog 57 #[.pointer (some ⟨g, 0, none⟩)] w (Draws w g (k + 2) fun u => ∃ x : Int, u = .int .i16 x ∧ 6 ≤ x ∧ x ≤ 200) := by
  have hg := h.lt
  have H := Lib.hid h
  clear h
  go_enter Tryz.func57, Tryz.ntmps57
  go_wp2_with fail
  refine (among_any g k w.heap.size 16 _ wheels rfl (by omega) (by omega) _ (H.out.after ((Below.refl _ _).alloc (Nat.le_refl _) _)) hk (by omega) (wheels_cells w _)).mono ?_
  rintro e w1 ⟨u, rfl, ⟨x, rfl, hx⟩, hs1, hm1⟩
  obtain ⟨x0, x1⟩ := wheels_in x hx
  have hwr : IntKind.i16.wrap x = x := by
    simp [IntKind.wrap, IntKind.bits, IntKind.signed]
    omega
  go_wp2
  all_goals go_ret
  all_goals exact ⟨_, rfl, ⟨_, rfl, x0, x1⟩, hs1, (Moved.of_below hg ((Below.refl _ _).alloc (Nat.le_refl _) _)).trans hm1⟩

def fewC (x : Int) : Nat := cop .quo (floatOfInt .f32 (x - 32)) 1082130432
set_option maxRecDepth 100000 in
set_option maxHeartbeats 1000000 in
theorem few_any (g k : Nat) (w : World) (h : Src w g k) (hk : k ≤ 50000) :
    Calls Tryz.prog 63 #[.pointer (some ⟨g, 0, none⟩)] w (Draws w g (k + 2) fun u => ∃ (r : Nat) (x : Int), u = .float .f32 r ∧ cn r = fewC x ∧ r < 2 ^ 32 ∧ 0 ≤ x ∧ x < 65) := by
  have H := Lib.hid h
  clear h
  go_enter Tryz.func63, Tryz.ntmps63
  go_wp2_with (go_at_call 56; refine (pick_any g k 65 _ H.out hk (by omega) (by omega)).mono ?_; rintro e w1 ⟨u, rfl, ⟨x, rfl, x0, x1⟩, hs1, hm1⟩)
  all_goals go_ret
  all_goals exact ⟨_, rfl, ⟨_, x, rfl, by simp [fewC], Loose.op_lt' _, x0, x1⟩, hs1.after (below_drewN (Below.refl _ _) _), hm1.drewN _⟩

set_option maxRecDepth 100000 in
set_option maxHeartbeats 2000000 in
theorem tone_any (g k : Nat) (w : World) (h : Src w g k) (hk : k ≤ 40000) :
    Calls Tryz.prog 58 #[.pointer (some ⟨g, 0, none⟩)] w (Draws w g (k + 4) fun u => ∃ r : Nat, u = .float .f32 r ∧ F r ∧ partB r = true) := by
  have H := Lib.hid h
  clear h
  go_enter Tryz.func58, Tryz.ntmps58
  go_wp2_with fail
  refine (pick_any g k 4 _ H.out (by omega) (by omega) (by omega)).mono ?_
  rintro e w1 ⟨u, rfl, ⟨x, rfl, x0, x1⟩, hs1, hm1⟩
  by_cases hx0 : x = 0
  · subst hx0
    go_wp2_with (go_at_call 56; refine (pick_any g (k + 2) 17 _ hs1 (by omega) (by omega) (by omega)).mono ?_; rintro e w2 ⟨u, rfl, ⟨y, rfl, y0, y1⟩, hs2, hm2⟩)
    all_goals go_ret
    all_goals
      have hp := partF (x := y) (N := 16) (c := 1098907648) (F_const (by decide +kernel)) (by decide +kernel) (A_const (m := 2 ^ 153) (by decide +kernel) (by decide +kernel)) y0 (by omega) (by omega) (by omega)
      have hr := fun w0 => F_of_cn (cn_fval .quo (floatOfInt .f32 y) 1098907648 w0) hp.1
      exact ⟨_, rfl, ⟨_, rfl, by rw [hr]; exact hp.1, by rw [hr]; exact hp.2⟩, hs2.after (below_drewN (Below.refl _ _) _), (hm1.trans hm2).drewN _⟩
  · by_cases hx1 : x = 1
    · subst hx1
      go_wp2_with (go_at_call 56; refine (pick_any g (k + 2) 1001 _ hs1 (by omega) (by omega) (by omega)).mono ?_; rintro e w2 ⟨u, rfl, ⟨y, rfl, y0, y1⟩, hs2, hm2⟩)
      all_goals go_ret
      all_goals
        have hp := partF (x := y) (N := 1000) (c := 1148846080) (F_const (by decide +kernel)) (by decide +kernel) (A_const (m := 1000 * 2 ^ 149) (by decide +kernel) (by decide +kernel)) y0 (by omega) (by omega) (by omega)
        have hr := fun w0 => F_of_cn (cn_fval .quo (floatOfInt .f32 y) 1148846080 w0) hp.1
        exact ⟨_, rfl, ⟨_, rfl, by rw [hr]; exact hp.1, by rw [hr]; exact hp.2⟩, hs2.after (below_drewN (Below.refl _ _) _), (hm1.trans hm2).drewN _⟩
    · go_wp2_with (go_at_call 56; refine (pick_any g (k + 2) 1048576 _ hs1 (by omega) (by omega) (by omega)).mono ?_; rintro e w2 ⟨u, rfl, ⟨y, rfl, y0, y1⟩, hs2, hm2⟩)
      all_goals go_ret
      all_goals
        have hp := partF (x := y) (N := 1048576) (c := 1233125376) (F_const (by decide +kernel)) (by decide +kernel) (A_const (m := 2 ^ 169) (by decide +kernel) (by decide +kernel)) y0 (by omega) (by omega) (by omega)
        have hr := fun w0 => F_of_cn (cn_fval .quo (floatOfInt .f32 y) 1233125376 w0) hp.1
        exact ⟨_, rfl, ⟨_, rfl, by rw [hr]; exact hp.1, by rw [hr]; exact hp.2⟩, hs2.after (below_drewN (Below.refl _ _) _), (hm1.trans hm2).drewN _⟩

end Go.Proofs.YtkgfepakedieaaaGreatDoor

/-! Contracts: a drawn train; a drawn number. -/
namespace Go.Proofs.YtkgfepakedieaaaGreatDoor
open Go.RowKit

theorem Src.below {w w' : World} {g k B : Nat} (h : Src w g k) (hb : Below B w w') (hB : g < B) : Src w' g k := by
  obtain ⟨a, n, cap, t, z, ho, hA, ht, hz⟩ := h
  exact ⟨a, n, cap, t, z, own_below ho hb (fun b hb => by cases hb; exact hB), hA.below (hb.mono (by omega)), ht, hz⟩
theorem Moved.below {g : Nat} {w w' w2 : World} (h : Moved g w w') (hg : g < w.heap.size) (hb : Below w.heap.size w' w2) : Moved g w w2 :=
  ⟨h.1.trans (hb.mono (by omega)), fun b hb' hne => (hb.block b hb').trans (h.2 b hb' hne)⟩
theorem Moved.fresh {g : Nat} {w w' : World} (h : Moved g w w') (hg : g < w.heap.size) {P : Nat} (hP : w.heap.size ≤ P) (o : Nat) (u : Value) : Moved g w (w'.setCell ⟨P, o, none⟩ u) :=
  h.below hg ((Below.refl _ _).setCell hP _)
theorem cellsT_snoc (ps : List T3) (p : T3) : cellsT (ps ++ [p]) = cellsT ps ++ [.int .i16 p.1, .int .i16 p.2.1, .float .f32 p.2.2] := by
  rw [cellsT_app]
  rfl
theorem pair_ok {a b : Int} {l : Nat} (a0 : 6 ≤ a) (a1 : a ≤ 200) (b0 : 6 ≤ b) (b1 : b ≤ 200) (hl : partB l = true) : pairB (a, b, l) = true := by
  simp [pairB, withinB, a0, a1, b0, b1, hl]

set_option maxRecDepth 100000 in
set_option maxHeartbeats 4000000 in
theorem drawn_any (g k : Nat) (w : World) (h : Src w g k) (hk : k ≤ 1000) :
    Calls Tryz.prog 28 #[.pointer (some ⟨g, 0, none⟩), .int .i64 4] w fun e w' => ∃ (u : Value) (ps : List T3), e = .returned u ∧ w'.ownsRow w.heap.size 65 3 u ps.length (cellsT ps) ∧ (1 ≤ ps.length ∧ ps.length ≤ 4) ∧ (∀ p ∈ ps, pairB p = true ∧ F p.2.2) ∧ Src w' g (k + 1000) ∧ Moved g w w' := by
  have hg := h.lt
  obtain ⟨i0, hi, hz0, hz1, hz2⟩ := info_parts info_pair
  have H := Lib.hid h
  clear h
  go_enter Tryz.func28, Tryz.ntmps28
  go_wp2_with fail
  refine (pick_any g k 4 _ (H.out.after ((Below.refl _ _).alloc (Nat.le_refl _) _)) (by omega) (by omega) (by omega)).mono ?_
  rintro e w1 ⟨u, rfl, ⟨x, rfl, x0, x1⟩, hs1, hm1⟩
  have hown := hm1.own (own_lit w w.heap.size 65 (size := 3) 0 #[] (Nat.le_refl _) (by decide) rfl) (fun b hb => by cases hb; exact Nat.ne_of_gt hg)
  have hmA := (Moved.of_below hg ((Below.refl _ _).alloc (Nat.le_refl _) (.cells #[] 65))).trans hm1
  have hsA := hmA.1.size
  obtain ⟨N, rfl⟩ : ∃ N : Nat, x = (N : Int) := ⟨x.toNat, by omega⟩
  go_wp2
  go_loopw [5, 6] (fun u m wr => ∃ ps : List T3, ps.length ≤ N + 1 ∧ m = .int .i64 ((N : Int) + 1 - ps.length) ∧ wr.ownsRow w.heap.size 65 3 u ps.length (cellsT ps) ∧ Hid ((∀ p ∈ ps, pairB p = true ∧ F p.2.2) ∧ Src wr g (k + 2 + 100 * ps.length)) ∧ Moved g w wr)
    (fun _ m _ => (intOf m).toNat)
  case atStart => exact ⟨[], by simp, by simp, hown, Lib.hid ⟨by simp, hs1⟩, hmA⟩
  case round =>
    obtain ⟨ps, hl, rfl, ho, hP, hM⟩ := hrel
    have hsz := hM.1.size
    by_cases hlt : ps.length < N + 1
    · have HO := Lib.hid ho
      have HM := Lib.hid hM
      clear ho hM hown hmA
      go_wp2_with fail
      refine (wheel_any g _ _ hP.out.2 (by omega)).mono ?_
      rintro e w2 ⟨u2, rfl, ⟨a, rfl, a0, a1⟩, hs2, hm2⟩
      go_wp2_with fail
      refine (wheel_any g _ _ hs2 (by omega)).mono ?_
      rintro e w3 ⟨u3, rfl, ⟨b, rfl, b0, b1⟩, hs3, hm3⟩
      have HP0 := own_lit w3 w3.heap.size 65 (size := 3) 1 #[.int .i16 a, .int .i16 b, .float .f32 0] (Nat.le_refl _) (by decide) rfl
      have s2 := hm2.1.size
      have s3 := hm3.1.size
      have hgw : g < w3.heap.size := by omega
      go_wp2_with fail
      refine (tone_any g _ _ (hs3.after ((Below.refl _ _).alloc (Nat.le_refl _) _)) (by omega)).mono ?_
      rintro e w4 ⟨u4, rfl, ⟨l, rfl, hl1, hl2⟩, hs4, hm4⟩
      have HP4 := hm4.own HP0 (fun b hb => by cases hb; exact Nat.ne_of_gt hgw)
      have hf4 := own_free HP4
      have hP4 : w3.heap.size < w4.heap.size := (HP4.lt _ rfl).2
      have c40 := own_cell HP4 (j := 0) rfl
      have c41 := own_cell HP4 (j := 1) rfl
      have c42 := own_cell HP4 (j := 2) rfl
      have HP5 := (HP4.stored 2 (.float .f32 l)).1
      have hs5 := hs4.below ((Below.refl _ w4).setCell (p := ⟨w3.heap.size, 2, none⟩) (Nat.le_refl w3.heap.size) (.float .f32 l)) hgw
      have hmr : Moved g wr (w4.setCell ⟨w3.heap.size, 2, none⟩ (.float .f32 l)) := (((hm2.trans hm3).trans (Moved.of_below hgw ((Below.refl _ _).alloc (Nat.le_refl _) _))).trans hm4).fresh (by omega) (by omega) _ _
      have HP5 := Lib.hid HP5
      clear HP0 HP4
      go_wp2_with fail
      refine (one_any g _ 2 _ hs5 (by omega) (by omega) (by omega)).mono ?_
      rintro e w6 ⟨u6, rfl, ⟨bb, rfl⟩, hs6, hm6⟩
      have HP6 := hm6.own HP5.out (fun b hb => by cases hb; exact Nat.ne_of_gt hgw)
      have hf6 := own_free HP6
      have d0 := own_cell HP6 (j := 0) rfl
      have d1 := own_cell HP6 (j := 1) rfl
      have d2 := own_cell HP6 (j := 2) rfl
      have hP6 : w3.heap.size < w6.heap.size := (HP6.lt _ rfl).2
      have hmw := hmr.trans hm6
      have ho6 := hmw.own HO.out (fun b hb => by have := (HO.out.lt b hb).1; omega)
      have hM6 := HM.out.trans hmw
      have HPP := Lib.hid HP6
      have s6 := hmw.1.size
      have s6' := hM6.1.size
      clear HP6 hmr hf4 c40 c41 c42
      cases bb
      · clear hf6
        go_wp2_with (at_builtin; refine wpList_append_lies _ rfl _ _ _ rfl w.heap.size 65 i0 _ 3 8 Tryz.underlying25 hi hz0 hz1 hz2 rfl (by decide) _ _ _ rfl (ho6.alloc _) ⟨w6.heap.size, 0, none⟩ 1 1 [.int .i16 a, .int .i16 b, .float .f32 l] rfl (by rfl) (World.news_of_block (heap_alloc_new w6 _)) (by intro u hu; simp at hu; rcases hu with rfl | rfl | rfl <;> rfl) (by decide) (by unfold maxLen; omega) (by omega) (by simp; omega) _ rfl ?_; intro g' cap' w10 hown1 hgrow hat hlt1)
        have hbX : Below w.heap.size w6 w10 := ((Below.refl _ _).alloc (by omega) _).grown hgrow (by simp; omega) (fun g hg => (HO.out.lt g hg).1)
        have hon : w10.ownsRow w.heap.size 65 3 (.slice (some ⟨g', 0, none⟩) (ps.length + 1) cap') (ps ++ [(a, b, l)]).length (cellsT (ps ++ [(a, b, l)])) := by
          rw [List.length_append, cellsT_snoc]
          exact hown1
        have HON := Lib.hid hon
        have hMN := hM6.below hg hbX
        have hsN := hs6.below hbX hg
        clear hown1 hgrow hat hlt1 hon
        go_wp2
        refine ⟨⟨ps ++ [(a, b, l)], by simp; omega, by simp; omega, HON.out, Lib.hid ⟨fun p hp => ?_, hsN.mono (by simp; omega)⟩, hMN⟩, by simp [intOf]; omega⟩
        rcases List.mem_append.1 hp with hp | hp
        · exact hP.out.1 p hp
        · rw [List.mem_singleton.1 hp]
          exact ⟨pair_ok a0 a1 b0 b1 hl2, hl1⟩
      · go_wp2_with fail
        refine (pick_any g _ 5 _ hs6 (by omega) (by omega) (by omega)).mono ?_
        rintro e w7 ⟨u7, rfl, ⟨y, rfl, y0, y1⟩, hs7, hm7⟩
        have hp := partF (x := y) (N := 64) (c := 1115684864) (F_const (by decide +kernel)) (by decide +kernel) (A_const (m := 64 * 2 ^ 149) (by decide +kernel) (by decide +kernel)) y0 (by omega) (by omega) (by omega)
        have hr := fun w0 => F_of_cn (cn_fval .quo (floatOfInt .f32 y) 1115684864 w0) hp.1
        have HP7 := hm7.own HPP.out (fun b hb => by cases hb; exact Nat.ne_of_gt hgw)
        have hf7 := own_free HP7
        have e0 := own_cell HP7 (j := 0) rfl
        have e1 := own_cell HP7 (j := 1) rfl
        have e2 := own_cell HP7 (j := 2) rfl
        have hP7 : w3.heap.size < w7.heap.size := (HP7.lt _ rfl).2
        clear d0 d1 d2 hf6 HPP HP7
        obtain ⟨q, hq⟩ : ∃ q, cop .quo (floatOfInt .f32 y) 1115684864 = q := ⟨_, rfl⟩
        rw [hq] at hp hr
        have hq1 := hp.1
        have hq2 := hp.2
        have ho7 := hm7.own ho6 (fun b hb => by have := (HO.out.lt b hb).1; omega)
        have ho8 := own_setCell_other (p := ⟨w3.heap.size, 2, none⟩) (u := .float .f32 q) ho7 (fun b hb => by have := (HO.out.lt b hb).2; show b ≠ w3.heap.size; omega)
        have hM8 := (hM6.trans hm7).fresh hg (P := w3.heap.size) (by omega) 2 (.float .f32 q)
        have hs8 := hs7.below ((Below.refl _ w7).setCell (p := ⟨w3.heap.size, 2, none⟩) (Nat.le_refl w3.heap.size) (.float .f32 q)) hgw
        have s7 := hm7.1.size
        have hnew : ∀ (o : Obj) (n : Nat), (((w7.setCell ⟨w3.heap.size, 2, none⟩ (.float .f32 q)).alloc o).drewN n).heap[w7.heap.size]? = some o := fun o n => by
          have := heap_alloc_new (w7.setCell ⟨w3.heap.size, 2, none⟩ (.float .f32 q)) o
          rw [World.size_setCell] at this
          rw [World.heap_drewN]
          exact this
        clear ho7 hp
        go_wp2_with (at_builtin; (refine wpList_append_lies _ rfl _ _ _ rfl w.heap.size 65 i0 _ 3 8 Tryz.underlying25 hi hz0 hz1 hz2 rfl (by decide) _ _ _ rfl (own_drewN (ho8.alloc _) _) ⟨w7.heap.size, 0, none⟩ 1 1 [.int .i16 a, .int .i16 b, .float .f32 q] rfl (by rfl) (World.news_of_block (hnew _ _)) (by intro u hu; simp at hu; rcases hu with rfl | rfl | rfl <;> rfl) (by decide) (by unfold maxLen; omega) (by omega) (by simp; omega) _ rfl ?_); intro g' cap' w10 hown1 hgrow hat hlt1)
        have hbX : Below w.heap.size (w7.setCell ⟨w3.heap.size, 2, none⟩ (.float .f32 q)) w10 := (below_drewN ((Below.refl _ _).alloc (by simp; omega) _) _).grown hgrow (by simp; omega) (fun g hg => (HO.out.lt g hg).1)
        have hon : w10.ownsRow w.heap.size 65 3 (.slice (some ⟨g', 0, none⟩) (ps.length + 1) cap') (ps ++ [(a, b, q)]).length (cellsT (ps ++ [(a, b, q)])) := by
          rw [List.length_append, cellsT_snoc]
          exact hown1
        have HON := Lib.hid hon
        have hMN := hM8.below hg hbX
        have hsN := hs8.below hbX hg
        clear hown1 hgrow hat hlt1 hon
        go_wp2
        refine ⟨⟨ps ++ [(a, b, q)], by simp; omega, by simp; omega, HON.out, Lib.hid ⟨fun p hp => ?_, hsN.mono (by simp; omega)⟩, hMN⟩, by simp [intOf]; omega⟩
        rcases List.mem_append.1 hp with hp | hp
        · exact hP.out.1 p hp
        · rw [List.mem_singleton.1 hp]
          exact ⟨pair_ok a0 a1 b0 b1 hq2, hq1⟩
    · obtain hle : ps.length = N + 1 := by omega
      clear hown hmA
      go_wp2
      all_goals go_ret
      all_goals exact ⟨_, ps, rfl, ho, by omega, hP.out.1, hP.out.2.mono (by omega), hM⟩

end Go.Proofs.YtkgfepakedieaaaGreatDoor

/-! Contracts: drawn inputs of the great laws; their helpers. -/
namespace Go.Proofs.YtkgfepakedieaaaGreatDoor
open Go.RowKit

theorem src_from (w : World) (a : Option Addr) (n cap : Nat) (h : BytesAt w w.heap.size a n) : Src (w.alloc (.cells #[.slice a n cap, .int .i64 0, .int .u64 0] 84)) w.heap.size 0 :=
  ⟨a, n, cap, 0, 0, own_lit w w.heap.size 84 (size := 3) 1 #[.slice a n cap, .int .i64 0, .int .u64 0] (Nat.le_refl _) (by decide) rfl, h.below ((Below.refl _ _).alloc (Nat.le_refl _) _), by omega, by omega⟩

set_option maxRecDepth 100000 in
set_option maxHeartbeats 1000000 in
theorem from_any (a : Option Addr) (n cap : Nat) (w : World) (h : BytesAt w w.heap.size a n) :
    Calls Tryz.prog 29 #[.slice a n cap] w fun e w' => e = .returned (.pointer (some ⟨w.heap.size, 0, none⟩)) ∧ Src w' w.heap.size 0 ∧ Below w.heap.size w w' := by
  have H := Lib.hid h
  clear h
  go_enter Tryz.func29, Tryz.ntmps29
  go_wp2
  all_goals go_ret
  all_goals exact ⟨rfl, src_from w a n cap H.out, by (repeat' (first | (with_reducible exact Below.refl _ _) | (with_reducible assumption) | (with_reducible refine Below.alloc ?_ ?_ _) | (with_reducible refine below_drewN ?_ _) | (with_reducible refine Below.drew ?_) | (with_reducible refine Below.setCell ?_ ?_ _) | (with_reducible exact Nat.le_refl _) | omega | (simp only [World.size_alloc, World.size_setCell, World.size_drew, World.heap_drewN]; omega) | (simp; omega)))⟩

/-- A train that was drawn. -/
def DrawnT (w : World) (e : Ending) (w' : World) : Prop :=
  ∃ (u : Value) (ps : List T3), e = .returned u ∧ w'.ownsRow w.heap.size 65 3 u ps.length (cellsT ps) ∧ (1 ≤ ps.length ∧ ps.length ≤ 4) ∧ (∀ p ∈ ps, pairB p = true ∧ F p.2.2) ∧ Below w.heap.size w w'

set_option maxRecDepth 100000 in
set_option maxHeartbeats 1000000 in
theorem a2Train_any (a : Option Addr) (n cap : Nat) (w : World) (h : BytesAt w w.heap.size a n) :
    Calls Tryz.prog 5 #[.slice a n cap] w (DrawnT w) := by
  have H := Lib.hid h
  clear h
  go_enter Tryz.func5, Tryz.ntmps5
  go_wp2_with fail
  refine (from_any a n cap w H.out).mono ?_
  rintro e w1 ⟨rfl, hs1, hb1⟩
  have s1 := hb1.size
  have hl := hs1.lt
  go_wp2_with fail
  refine (drawn_any _ 0 _ hs1 (by omega)).mono ?_
  rintro e w2 ⟨u, ps, rfl, ho, hl2, hps, hs2, hm2⟩
  go_wp2
  all_goals go_ret
  all_goals exact ⟨u, ps, rfl, own_base ho s1, hl2, hps, hb1.trans hm2.1⟩

set_option maxRecDepth 100000 in
set_option maxHeartbeats 1000000 in
theorem a2Long_any (a b : Option Addr) (n m c d : Nat) (w : World) (hn : n ≤ maxLen) (hm : m ≤ maxLen) :
    Calls Tryz.prog 4 #[.slice a n c, .slice b m d] w fun e w' => e = .returned (.bool (decide (3000 < (n : Int)) || decide (3000 < (m : Int)))) ∧ w = w' := by
  have hn2 : n ≤ 9223372036854775807 := by simpa [maxLen] using hn
  have hm2 : m ≤ 9223372036854775807 := by simpa [maxLen] using hm
  go_enter Tryz.func4, Tryz.ntmps4
  by_cases h1 : (3000 : Int) < (n : Int)
  · go_wp2
    all_goals (go_ret; exact ⟨by simp_all <;> omega, rfl⟩)
  · go_wp2
    all_goals (go_ret; exact ⟨by simp_all <;> omega, rfl⟩)

theorem V_zero : V 0 = 0 := by
  obtain ⟨z1, z2, z3⟩ := zero_F
  rw [V_pos z2, z3]
theorem F_fneg {x : Nat} (h : F x) : F (fneg x) ∧ A (fneg x) = A x ∧ S (fneg x) = !S x := by
  have hs : Ieee.single.signWeight = 2147483648 := single_sign'
  have hx := h.2
  have key : Flt.rung Ieee.single (fneg x) = Flt.rung Ieee.single x ∧ Flt.sgn Ieee.single (fneg x) = !Flt.sgn Ieee.single x := by
    unfold Flt.rung Flt.sgn
    rw [hs]
    rcases Nat.lt_or_ge x 2147483648 with h1 | h1
    · rw [fneg_small h1]
      constructor
      · omega
      · have e1 : (2147483648 + x) / 2147483648 % 2 = 1 := by omega
        have e2 : x / 2147483648 % 2 = 0 := by omega
        rw [e1, e2]
        rfl
    · obtain ⟨y, rfl⟩ : ∃ y, x = 2147483648 + y := ⟨x - 2147483648, by omega⟩
      have hy : y < 2147483648 := by omega
      rw [fneg_big hy]
      constructor
      · omega
      · have e1 : (2147483648 + y) / 2147483648 % 2 = 1 := by omega
        have e2 : y / 2147483648 % 2 = 0 := by omega
        rw [e1, e2]
        rfl
  refine ⟨⟨?_, fneg_lt hx⟩, ?_, key.2⟩
  · have := h.1
    unfold Flt.fin at this ⊢
    rw [key.1]
    exact this
  · show Flt.A Ieee.single _ = Flt.A Ieee.single _
    unfold Flt.A
    rw [key.1]
theorem V_fneg {x : Nat} (h : F x) : V (fneg x) = -V x := by
  obtain ⟨_, h2, h3⟩ := F_fneg h
  cases hs : S x
  · rw [hs] at h3
    rw [V_neg h3, V_pos hs, h2]
  · rw [hs] at h3
    rw [V_pos h3, V_neg hs, h2]
    grind

def szN (x : Nat) : Nat := if flt .f32 x 0 then fneg x else x
theorem szN_F {x : Nat} (h : F x) : F (szN x) ∧ A (szN x) = A x ∧ V (szN x) = A x := by
  unfold szN
  have h1 := ltF h zero_F.1
  rw [V_zero] at h1
  have hA := A_nn x
  cases hs : S x
  · have hV := V_pos hs
    have : ¬ V x < 0 := by grind
    rw [h1, decide_eq_false this]
    exact ⟨h, rfl, hV⟩
  · have hV := V_neg hs
    by_cases h0 : V x < 0
    · rw [h1, decide_eq_true h0]
      obtain ⟨f1, f2, f3⟩ := F_fneg h
      exact ⟨f1, f2, by show V (fneg x) = A x; rw [V_fneg h, hV]; grind⟩
    · rw [h1, decide_eq_false h0]
      exact ⟨h, rfl, by show V x = A x; grind⟩

set_option maxRecDepth 100000 in
set_option maxHeartbeats 400000 in
theorem sizeN_any (x : Nat) (w : World) :
    Calls Tryz.prog 55 #[.float .f32 x] w fun e w' => e = .returned (.float .f32 (szN x)) ∧ w = w' := by
  go_enter Tryz.func55, Tryz.ntmps55
  cases h : flt .f32 x 0
  · go_wp2
    all_goals (go_ret; exact ⟨by simp [szN, h], rfl⟩)
  · go_wp2
    all_goals (go_ret; exact ⟨by simp [szN, h], rfl⟩)

def mostN (a b : Nat) : Nat := if flt .f32 (szN a) (szN b) then szN b else szN a
def nearB (a b p l : Nat) : Bool := fle .f32 (szN (cop .sub a b)) (cop .add (cop .mul (mostN a b) p) l)

set_option maxRecDepth 100000 in
set_option maxHeartbeats 1000000 in
theorem a2Near_any (a b p l : Nat) (w : World) (hs : F (cop .sub a b)) :
    Calls Tryz.prog 27 #[.float .f32 a, .float .f32 b, .float .f32 p, .float .f32 l] w fun e w' => e = .returned (.bool (nearB a b p l)) ∧ Below w.heap.size w w' := by
  have hr := fun w0 => F_of_cn (cn_fval .sub a b w0) hs
  go_enter Tryz.func27, Tryz.ntmps27
  cases h : flt .f32 (szN a) (szN b)
  · go_wp2_with (first | (go_at_call 55; refine (sizeN_any _ _).mono ?_; rintro e w' ⟨rfl, rfl⟩))
    all_goals go_ret
    all_goals exact ⟨by simp [nearB, mostN, h, hr], by (repeat' (first | (with_reducible exact Below.refl _ _) | (with_reducible assumption) | (with_reducible refine Below.alloc ?_ ?_ _) | (with_reducible refine below_drewN ?_ _) | (with_reducible refine Below.drew ?_) | (with_reducible refine Below.setCell ?_ ?_ _) | (with_reducible exact Nat.le_refl _) | omega | (simp only [World.size_alloc, World.size_setCell, World.size_drew, World.heap_drewN]; omega) | (simp; omega)))⟩
  · go_wp2_with (first | (go_at_call 55; refine (sizeN_any _ _).mono ?_; rintro e w' ⟨rfl, rfl⟩))
    all_goals go_ret
    all_goals exact ⟨by simp [nearB, mostN, h, hr], by (repeat' (first | (with_reducible exact Below.refl _ _) | (with_reducible assumption) | (with_reducible refine Below.alloc ?_ ?_ _) | (with_reducible refine below_drewN ?_ _) | (with_reducible refine Below.drew ?_) | (with_reducible refine Below.setCell ?_ ?_ _) | (with_reducible exact Nat.le_refl _) | omega | (simp only [World.size_alloc, World.size_setCell, World.size_drew, World.heap_drewN]; omega) | (simp; omega)))⟩

end Go.Proofs.YtkgfepakedieaaaGreatDoor
