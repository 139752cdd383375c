/- Trains: powers of all axles; the power that is lost. -/
import Derived.Test.YtkgfepakedieaaaCtTd
import Derived.RegionTactic
import Derived.BigRegion
namespace Go.Proofs.Ytkgfepakedieaaa
open Go.RowKit

theorem powS_get (p q : Nat) (ps : List T3) (n i : Nat) (h : i < n) : (powS p q ps n)[i]? = some (cop .mul ((ps.take i).foldl speedC (cn p)) ((ps.take i).foldl torqueC (cn q))) := by simp [powS, h]
theorem own_some {w : World} {base : Nat} {e : TypeId} {size : Nat} {v : Value} {n : Nat} {xs : List Value} (h : w.ownsRow base e size v n xs) (h0 : 0 < n) : ∃ g cap, v = .slice (some ⟨g, 0, none⟩) n cap ∧ base ≤ g ∧ g < w.heap.size := by
  rcases own_val h with ⟨_, h1⟩ | ⟨g, cap, rfl, h1, h2, _⟩
  · omega
  · exact ⟨g, cap, rfl, h1, h2⟩
theorem cellF_at {xs : List Nat} {i x : Nat} (h : xs[i]? = some x) : (cellsF xs)[i]? = some (.float .f32 x) := by simp [cellsF, h]

set_option maxHeartbeats 4000000 in
theorem l01Powers_any (ps : List T3) (v : Value) (p q : Nat) (w : World) (hv : Tr w v ps) (hB : trainB ps = true) (hp : p < 2 ^ 32) (hq : q < 2 ^ 32) :
    Calls Try.prog 45 #[v, .float .f32 p, .float .f32 q] w fun e w' => ∃ u xs, e = .returned u ∧ w'.ownsRow w.heap.size 23 1 u xs.length (cellsF xs) ∧ SameF xs (powS p q ps (ps.length + 1)) ∧ (∀ x ∈ xs, x < 2 ^ 32) ∧ Below w.heap.size w w' := by
  have HV := Lib.hid hv
  have hl := ask_len hB
  obtain ⟨i0, hi, hz0, hz1, hz2⟩ := info_parts info_f32t
  clear hv
  go_enter Try.func45, Try.ntmps45
  go_wp2_with fail
  refine (l01Speeds_any ps _ p _ HV.out hB hp).mono ?_
  rintro e w1 ⟨u1, xs, rfl, ho1, hS1, hx1, hb1⟩
  go_wp2_with fail
  refine (l01Torques_any ps _ q _ (HV.out.below hb1) hB hq).mono ?_
  rintro e w2 ⟨u2, ys, rfl, ho2, hS2, hx2, hb2⟩
  have s1 := hb1.size
  have s2 := hb2.size
  have hbA := below_then hb1 hb2
  have ho1 := own_after ho1 hb2
  have hl1 : xs.length = ps.length + 1 := by rw [hS1.1, scanR_len]
  have hl2 : ys.length = ps.length + 1 := by rw [hS2.1, scanR_len]
  obtain ⟨g1, k1, rfl, hg1, hgs1⟩ := own_some ho1 (by omega)
  obtain ⟨g2, k2, rfl, hg2, hgs2⟩ := own_some ho2 (by omega)
  have HO1 := Lib.hid ho1
  have HO2 := Lib.hid ho2
  have H1 := Lib.hid hS1
  have H2 := Lib.hid hS2
  have HL1 := Lib.hid hl1
  have HL2 := Lib.hid hl2
  rw [hl1, hl2]
  clear ho1 ho2 hS1 hS2 hx1 hx2 hl1 hl2
  go_wp2
  go_loopw [9, 10] (fun u k wr => ∃ (j : Nat) (zs : List Nat), j ≤ ps.length + 1 ∧ k = .int .i64 (j : Int) ∧ zs.length = j ∧ wr.ownsRow w2.heap.size 23 1 u j (cellsF zs) ∧ Hid (SameF zs (powS p q ps j) ∧ ∀ x ∈ zs, x < 2 ^ 32) ∧ Below w2.heap.size w2 wr)
    (fun _ k _ => ((ps.length : Int) + 1 - intOf k).toNat)
  case atStart =>
    refine ⟨0, [], by omega, rfl, rfl, ?_, Lib.hid ⟨SameF.refl _, by simp⟩, by (repeat' (first | (with_reducible exact Below.refl _ _) | (with_reducible assumption) | (with_reducible refine Below.alloc ?_ ?_ _) | (with_reducible refine below_drewN ?_ _) | (with_reducible refine Below.drew ?_) | (with_reducible refine Below.setCell ?_ ?_ _) | (with_reducible exact Nat.le_refl _) | omega | (simp only [World.size_alloc, World.size_setCell, World.size_drew, World.heap_drewN]; omega) | (simp; omega)))⟩
    exact own_lit w2 w2.heap.size 23 (size := 1) 0 #[] (Nat.le_refl _) (by decide) rfl
  case round =>
    obtain ⟨j, zs, hj, rfl, hzl, ho, hS, hb⟩ := hrel
    have hsz := hb.size
    by_cases hlt : j < ps.length + 1
    · obtain ⟨x, hx⟩ : ∃ x, xs[j]? = some x := ⟨_, List.getElem?_eq_getElem (by have := HL1.out; omega)⟩
      obtain ⟨y, hy⟩ : ∃ y, ys[j]? = some y := ⟨_, List.getElem?_eq_getElem (by have := HL2.out; omega)⟩
      have q0 := BelowC.cell (own_cell (by have := own_after HO1.out hb; rw [HL1.out] at this; exact this) (cellF_at hx)) (Nat.lt_of_lt_of_le hgs1 hsz)
      have q1 := BelowC.cell (own_cell (by have := own_after HO2.out hb; rw [HL2.out] at this; exact this) (cellF_at hy)) (Nat.lt_of_lt_of_le hgs2 hsz)
      have HX := Lib.hid (H1.out.2 j x _ hx (scanR_get speedC (cn p) ps (ps.length + 1) j hlt))
      have HY := Lib.hid (H2.out.2 j y _ hy (scanR_get torqueC (cn q) ps (ps.length + 1) j hlt))
      have hjj : (j : Int) < (ps.length : Int) + 1 := by omega
      have hdn := @BelowC.drewN wr
      have HO := Lib.hid ho
      have HZ := Lib.hid hzl
      clear ho hzl hx hy
      go_wp2
      (refine Loose.wp_region_tail1 10 3 (BelowC wr) (Loose.Tab []) (v0 := u9) (by kernel_rfl) rfl rfl (by kernel_rfl) (BelowC.start wr) (fun _ _ _ h => h) (.inl ⟨by rfl, fun w => by go_simp⟩) ?_; simp only [List.take_succ_cons, List.take_zero, List.drop_succ_cons, List.drop_zero, Act.put, List.setIfInBounds_toArray, List.set_cons_zero, List.set_cons_succ])
      repeat (apply Loose.det; (focus rfl); (focus (intro wq hwq; go_simp; first | done | (with_reducible rfl))); (simp only [Act.put, List.setIfInBounds_toArray, List.set_cons_zero, List.set_cons_succ]))
      (apply Loose.flt (hd := hdn); (focus rfl); (focus (intro wq hwq; go_simp; first | done | (with_reducible exact ⟨rfl, rfl⟩) | (with_reducible rfl))); (rintro r hr hl; simp only [Act.put, List.setIfInBounds_toArray, List.set_cons_zero, List.set_cons_succ]))
      refine Loose.done ?_
      intro w9 hb9
      have ho9 := own_after HO.out hb9
      have hbB := hb.trans (hb9.mono hsz)
      have hs9 := hbB.size
      (refine Loose.tail_one 10 (by kernel_rfl) rfl ?_; intro K hK; go_simp; refine hK _ _ ?_; clear hK K)
      (refine Loose.tail_one 11 (by kernel_rfl) rfl ?_; intro K hK; refine step_append_lies _ rfl _ _ _ rfl w2.heap.size 23 i0 _ 1 4 Try.underlying25 hi hz0 hz1 hz2 rfl (by decide) _ _ _ rfl (ho9.alloc _) ⟨w9.heap.size, 0, none⟩ 1 1 (cellsF [r]) rfl rfl (World.news_of_block (heap_alloc_new w9 _)) (by first | exact cellsF_one _ | (intro u hu; simp at hu; subst hu; rfl) | (intro u hu; simp at hu; rcases hu with rfl | rfl | rfl <;> rfl)) (by decide) (by unfold maxLen; omega) (by omega) (by simp; omega) _ rfl ?_; intro g cap' w10 hown1 hgrow hat hlt1; refine hK _ _ ?_; clear hK K)
      (refine Loose.tail_one 12 (by kernel_rfl) rfl ?_; intro K hK; go_simp; refine hK _ _ ?_; clear hK K; refine Loose.tail_done (by kernel_rfl) ?_)
      have hb10 : Below w2.heap.size w2 w10 := (hbB.alloc hs9 _).grown hgrow (by simp; omega) (fun g hg => (HO.out.lt g hg).1)
      have HON := Lib.hid hown1
      have hcr : cn r = cop .mul ((ps.take j).foldl speedC (cn p)) ((ps.take j).foldl torqueC (cn q)) := by
        rw [hr]
        exact cop_congr HX.out HY.out
      clear hown1 hgrow hat hlt1
      go_wp2
      refine ⟨⟨j + 1, zs ++ [r], by omega, rfl, by simp [HZ.out], by rw [cellsF_app]; exact HON.out, Lib.hid ⟨?_, lt_snoc hS.out.2 hl⟩, hb10⟩, by simp [intOf]; omega⟩
      rw [powS_succ]
      exact hS.out.1.snoc (by rw [hcr, cn_cop])
    · obtain rfl : j = ps.length + 1 := by omega
      have hjj : ¬ (((ps.length + 1 : Nat) : Int) < (ps.length : Int) + 1) := by omega
      go_wp2
      go_ret
      exact ⟨_, rfl, zs, by rw [hzl]; exact own_base ho (by omega), hS.out.1, hS.out.2, hbA.trans (hb.mono (by omega))⟩

/-- Behind the first rounds: products, and what was there. -/
def PowRel (p q : Nat) (ps : List T3) (j : Nat) (zs : List Nat) : Prop :=
  zs.length = ps.length + 1 ∧ (∀ (i z : Nat), zs[i]? = some z → z < 2 ^ 32 ∧ (i < j → cn z = cop .mul ((ps.take i).foldl speedC (cn p)) ((ps.take i).foldl torqueC (cn q))) ∧ (j ≤ i → cn z = (ps.take i).foldl speedC (cn p)))

theorem powRel_start {p q : Nat} {ps : List T3} {xs : List Nat} (h : SameF xs (scanR speedC (cn p) ps (ps.length + 1))) (hx : ∀ x ∈ xs, x < 2 ^ 32) : PowRel p q ps 0 xs := by
  have hl : xs.length = ps.length + 1 := by rw [h.1, scanR_len]
  refine ⟨hl, fun i z hz => ⟨hx z (List.mem_of_getElem? hz), fun h0 => by omega, fun _ => ?_⟩⟩
  have hi : i < ps.length + 1 := by rw [← hl]; exact (List.getElem?_eq_some_iff.1 hz).1
  rw [h.2 i z _ hz (scanR_get speedC (cn p) ps (ps.length + 1) i hi), cn_foldl speedC cn_speedC]
theorem powRel_step {p q : Nat} {ps : List T3} {zs : List Nat} {j r : Nat} (h : PowRel p q ps j zs) (hr : r < 2 ^ 32) (hc : cn r = cop .mul ((ps.take j).foldl speedC (cn p)) ((ps.take j).foldl torqueC (cn q))) : PowRel p q ps (j + 1) (zs.set j r) := by
  refine ⟨by rw [List.length_set]; exact h.1, fun i z hz => ?_⟩
  rw [List.getElem?_set] at hz
  split at hz
  · rename_i he
    subst he
    split at hz
    · cases hz
      exact ⟨hr, fun _ => hc, fun h0 => by omega⟩
    · cases hz
  · rename_i he
    obtain ⟨h1, h2, h3⟩ := h.2 i z hz
    exact ⟨h1, fun h0 => h2 (by omega), fun h0 => h3 (by omega)⟩
theorem powRel_end {p q : Nat} {ps : List T3} {zs : List Nat} (h : PowRel p q ps (ps.length + 1) zs) : SameF zs (powS p q ps (ps.length + 1)) ∧ ∀ x ∈ zs, x < 2 ^ 32 := by
  refine ⟨⟨by rw [h.1, powS_len], fun i x y hx hy => ?_⟩, fun x hx => ?_⟩
  · have hi : i < ps.length + 1 := by rw [← h.1]; exact (List.getElem?_eq_some_iff.1 hx).1
    rw [powS_get p q ps _ i hi] at hy
    cases hy
    rw [(h.2 i x hx).2.1 hi, cn_cop]
  · obtain ⟨i, hi⟩ := List.mem_iff_getElem?.1 hx
    exact (h.2 i x hi).1

theorem cellsF_set (xs : List Nat) (j r : Nat) : cellsF (xs.set j r) = (cellsF xs).set j (.float .f32 r) := by
  rw [cellsF, List.map_set]
  rfl

set_option maxHeartbeats 4000000 in
theorem implPowers_ok (ps : List T3) (v : Value) (p q : Nat) (w : World) (hv : Tr w v ps) (hp : p < 2 ^ 32) (hq : q < 2 ^ 32) (h0 : ask2K ps p q = 0) :
    Calls Try.prog 23 #[v, .float .f32 p, .float .f32 q] w fun e w' => ∃ u xs, e = .returned (.tuple #[u, .int .i64 0]) ∧ w'.ownsRow w.heap.size 23 1 u xs.length (cellsF xs) ∧ SameF xs (powS p q ps (ps.length + 1)) ∧ (∀ x ∈ xs, x < 2 ^ 32) ∧ Below w.heap.size w w' := by
  have HV := Lib.hid hv
  have hB := (ask2K_ok h0).1
  have hl := ask_len hB
  have HK := Lib.hid (show codeL ps [p, q] = 0 by rw [codeL_two]; exact h0)
  have hbA : Below w.heap.size w (w.alloc (.cells #[.float .f32 p, .float .f32 q] 23)) := (Below.refl _ _).alloc (Nat.le_refl _) _
  have HA := Lib.hid hbA
  clear hv hbA h0
  go_enter Try.func23, Try.ntmps23
  go_wp2_with (first | (go_at_call 42; refine (trainCode_any ps [p, q] _ _ _ (HV.out.below HA.out) (fs_lit2 w p q)).mono ?_; rintro e w1 ⟨rfl, hb1⟩; rw [HK.out]; have hb := below_then HA.out hb1; have hs := hb.size))
  refine (implSpeeds_any ps _ p _ (HV.out.below hb) hB hp).mono ?_
  rintro e w2 ⟨u1, xs, rfl, ho1, hS1, hx1, hb2⟩
  have hbB := below_then hb hb2
  have hl1 : xs.length = ps.length + 1 := by rw [hS1.1, scanR_len]
  obtain ⟨g1, k1, rfl, hg1, hgs1⟩ := own_some ho1 (by omega)
  go_wp2_with fail
  refine (implTorques_any ps _ q _ (HV.out.below hbB) hB hq).mono ?_
  rintro e w3 ⟨u2, ys, rfl, ho2, hS2, hx2, hb3⟩
  have s2 := hb2.size
  have s3 := hb3.size
  have hbC := below_then hbB hb3
  have ho1 := own_after ho1 hb3
  have hl2 : ys.length = ps.length + 1 := by rw [hS2.1, scanR_len]
  obtain ⟨g2, k2, rfl, hg2, hgs2⟩ := own_some ho2 (by omega)
  rw [hl1] at ho1
  rw [hl2] at ho2
  have HO2 := Lib.hid ho2
  have H2 := Lib.hid hS2
  have HR0 := Lib.hid (powRel_start (q := q) hS1 hx1)
  have HO1 := Lib.hid ho1
  rw [hl2]
  have HL2 := Lib.hid hl2
  clear ho1 ho2 hS1 hS2 hx1 hx2 hl1 hl2
  go_wp2
  go_loopw [28] (fun k wr => ∃ (j : Nat) (zs : List Nat), j ≤ ps.length + 1 ∧ k = .int .i64 (j : Int) ∧ wr.ownsRow w.heap.size 23 1 (.slice (some ⟨g1, 0, none⟩) (ps.length + 1) k1) (ps.length + 1) (cellsF zs) ∧ Hid (wr.ownsRow w2.heap.size 23 1 (.slice (some ⟨g2, 0, none⟩) (ps.length + 1) k2) (ps.length + 1) (cellsF ys)) ∧ Hid (PowRel p q ps j zs) ∧ Below w.heap.size w wr)
    (fun k _ => ((ps.length : Int) + 1 - intOf k).toNat)
  case atStart => exact ⟨0, xs, by omega, rfl, own_base HO1.out (by omega), HO2, HR0, hbC⟩
  case round =>
    obtain ⟨j, zs, hj, rfl, ho, hy2, hR, hb4⟩ := hrel
    by_cases hlt : j < ps.length + 1
    · obtain ⟨x, hx⟩ : ∃ x, zs[j]? = some x := ⟨_, List.getElem?_eq_getElem (by have := hR.out.1; omega)⟩
      obtain ⟨y, hy⟩ : ∃ y, ys[j]? = some y := ⟨_, List.getElem?_eq_getElem (by have := HL2.out; omega)⟩
      have lg1 := (ho.lt g1 rfl).2
      have lg2 := (hy2.out.lt g2 rfl).2
      have q0 := BelowC.cell (own_cell ho (cellF_at hx)) lg1
      have q1 := BelowC.cell (own_cell hy2.out (cellF_at hy)) lg2
      have HX := Lib.hid ((hR.out.2 j x hx).2.2 (Nat.le_refl _))
      have HY := Lib.hid (H2.out.2 j y _ hy (scanR_get torqueC (cn q) ps (ps.length + 1) j hlt))
      have hjj : (j : Int) < (ps.length : Int) + 1 := by omega
      have hdn := @BelowC.drewN wr
      have HO := Lib.hid ho
      have hs4 := hb4.size
      clear ho hx hy
      go_wp2
      (refine Loose.wp_region_tail1 12 1 (BelowC wr) (Loose.Tab []) (v0 := .slice (some ⟨g1, 0, none⟩) (ps.length + 1) k1) (by kernel_rfl) rfl rfl (by kernel_rfl) (BelowC.start wr) (fun _ _ _ h => h) (.inl ⟨by rfl, fun w => by go_simp⟩) ?_; simp only [List.take_succ_cons, List.take_zero, List.drop_succ_cons, List.drop_zero, Act.put, List.setIfInBounds_toArray, List.set_cons_zero, List.set_cons_succ])
      repeat (apply Loose.det; (focus rfl); (focus (intro wq hwq; go_simp; first | done | (with_reducible rfl))); (simp only [Act.put, List.setIfInBounds_toArray, List.set_cons_zero, List.set_cons_succ]))
      (apply Loose.flt (hd := hdn); (focus rfl); (focus (intro wq hwq; go_simp; first | done | (with_reducible exact ⟨rfl, rfl⟩) | (with_reducible rfl))); (rintro r hr hl; simp only [Act.put, List.setIfInBounds_toArray, List.set_cons_zero, List.set_cons_succ]))
      repeat (apply Loose.det; (focus rfl); (focus (intro wq hwq; go_simp; first | done | (with_reducible rfl))); (simp only [Act.put, List.setIfInBounds_toArray, List.set_cons_zero, List.set_cons_succ]))
      refine Loose.done ?_
      intro w9 hb9
      have ho9 := own_after HO.out hb9
      have hy9 := own_after hy2.out hb9
      have hb10 := hb4.trans (hb9.mono hs4)
      have z0 := q0 _ hb9
      have zf := own_free ho9
      have HO9 := Lib.hid ho9
      have HY9 := Lib.hid hy9
      have hcr : cn r = cop .mul ((ps.take j).foldl speedC (cn p)) ((ps.take j).foldl torqueC (cn q)) := by
        rw [hr]
        exact cop_congr (by rw [HX.out]; exact (cn_foldl speedC cn_speedC p _).symm) HY.out
      have HC := Lib.hid hcr
      clear ho9 hy9 q0 q1 hcr hr
      (refine Loose.tail_one 12 (by kernel_rfl) rfl ?_; intro K hK; go_simp; refine hK _ _ ?_; clear hK K; refine Loose.tail_done (by kernel_rfl) ?_)
      go_wp2
      have hst := (HO9.out.stored j (.float .f32 r)).1
      rw [← cellsF_set] at hst
      refine ⟨⟨j + 1, zs.set j r, by omega, rfl, hst, Lib.hid (own_setCell_other HY9.out (fun g hg hc => ?_)), Lib.hid (powRel_step hR.out hl HC.out), hb10.setCell (show w.heap.size ≤ g1 by omega) _⟩, by simp [intOf]; omega⟩
      have h1 : g2 = g := by simpa [Value.ownBlock] using hg
      have h2 : g = g1 := hc
      omega
    · obtain rfl : j = ps.length + 1 := by omega
      have hjj : ¬ (((ps.length + 1 : Nat) : Int) < (ps.length : Int) + 1) := by omega
      have hE := powRel_end hR.out
      have hzl := hR.out.1
      go_wp2
      go_ret2
      exact ⟨_, rfl, zs, by rw [hzl]; exact ho, hE.1, hE.2, hb4⟩

set_option maxHeartbeats 1000000 in
theorem implPowersOf_any (ps : List T3) (v : Value) (p q : Nat) (hp : p < 2 ^ 32) (hq : q < 2 ^ 32) (w : World) (hv : Tr w v ps) :
    Calls Try.prog 23 #[v, .float .f32 p, .float .f32 q] w (GivesF w (ask2K ps p q) (powersR ps p q)) := by
  by_cases h0 : ask2K ps p q = 0
  · refine (implPowers_ok ps v p q w hv hp hq h0).mono ?_
    rintro e w' ⟨u, xs, rfl, h1, h2, h3, h4⟩
    exact ⟨u, xs, by rw [h0], h1, by rw [powersR, if_pos h0]; exact h2, h3, h4⟩
  · have HV := Lib.hid hv
    have hbA : Below w.heap.size w (w.alloc (.cells #[.float .f32 p, .float .f32 q] 23)) := (Below.refl _ _).alloc (Nat.le_refl _) _
    have HA := Lib.hid hbA
    clear hv hbA
    have hR : powersR ps p q = [] := if_neg h0
    rw [hR]
    generalize hK : ask2K ps p q = K at *
    have HK := Lib.hid (show codeL ps [p, q] = K by rw [codeL_two]; exact hK)
    have hne : (K != 0) = true := by simpa using h0
    have hne2 : (K == 0) = false := by simpa using h0
    clear hK hR h0
    go_enter Try.func23, Try.ntmps23
    go_wp2_with (go_at_call 42; refine (trainCode_any ps [p, q] _ _ _ (HV.out.below HA.out) (fs_lit2 w p q)).mono ?_; rintro e w1 ⟨rfl, hb1⟩; rw [HK.out]; have hb := below_then HA.out hb1)
    go_ret2
    exact ⟨_, [], rfl, ⟨rfl, .inl ⟨rfl, rfl⟩⟩, SameF.refl _, by simp, hb⟩

set_option maxHeartbeats 1000000 in
theorem specPowersOf_any (ps : List T3) (v : Value) (p q : Nat) (hp : p < 2 ^ 32) (hq : q < 2 ^ 32) (w : World) (hv : Tr w v ps) :
    Calls Try.prog 22 #[v, .float .f32 p, .float .f32 q] w (GivesF w (ask2K ps p q) (powersR ps p q)) := by
  have HV := Lib.hid hv
  clear hv
  by_cases h0 : ask2K ps p q = 0
  · have HK := Lib.hid h0
    have hR : powersR ps p q = _ := if_pos h0
    rw [h0, hR]
    have HB := Lib.hid (ask2K_ok h0).1
    clear h0 hR
    go_enter Try.func22, Try.ntmps22
    go_wp2_with (first | (go_at_call 39; refine (l01Asked_any ps _ _ _ _ HV.out).mono ?_; rintro e w1 ⟨rfl, rfl⟩; rw [HK.out]) | (go_at_call 45; refine (l01Powers_any ps _ p q _ HV.out HB.out hp hq).mono ?_; rintro e w2 ⟨u, xs, rfl, ho, hS, hx, hb⟩))
    go_ret2
    exact ⟨_, xs, rfl, ho, hS, hx, hb⟩
  · have hR : powersR ps p q = [] := if_neg h0
    rw [hR]
    generalize hK : ask2K ps p q = K at *
    have HK := Lib.hid hK
    have hne : (K != 0) = true := by simpa using h0
    have hne2 : (K == 0) = false := by simpa using h0
    have hown := own_lit w w.heap.size 23 (size := 1) 0 #[] (Nat.le_refl _) (by decide) rfl
    clear hK hR h0
    go_enter Try.func22, Try.ntmps22
    go_wp2_with (go_at_call 39; refine (l01Asked_any ps _ _ _ _ HV.out).mono ?_; rintro e w1 ⟨rfl, rfl⟩; rw [HK.out])
    go_ret2
    exact ⟨_, [], rfl, hown, SameF.refl _, by simp, by (repeat' (first | (with_reducible exact Below.refl _ _) | (with_reducible assumption) | (with_reducible refine Below.alloc ?_ ?_ _) | (with_reducible refine below_drewN ?_ _) | (with_reducible refine Below.drew ?_) | (with_reducible refine Below.setCell ?_ ?_ _) | (with_reducible exact Nat.le_refl _) | omega | (simp only [World.size_alloc, World.size_setCell, World.size_drew, World.heap_drewN]; omega) | (simp; omega)))⟩

def powAt (p q : Nat) (ps : List T3) (i : Nat) : Nat := cop .mul ((ps.take i).foldl speedC (cn p)) ((ps.take i).foldl torqueC (cn q))
def lostC (ps : List T3) (p q : Nat) : Nat := if ask2K ps p q = 0 then cop .sub (powAt p q ps 0) (powAt p q ps ps.length) else 0
theorem cn_zero0 : cn 0 = 0 := by decide +kernel

set_option maxHeartbeats 2000000 in
theorem implLostPower_any (ps : List T3) (v : Value) (p q : Nat) (hp : p < 2 ^ 32) (hq : q < 2 ^ 32) (w : World) (hv : Tr w v ps) :
    Calls Try.prog 18 #[v, .float .f32 p, .float .f32 q] w (GivesN w (ask2K ps p q) (lostC ps p q)) := by
  have HV := Lib.hid hv
  clear hv
  by_cases h0 : ask2K ps p q = 0
  · have hl := ask_len (ask2K_ok h0).1
    have hR : lostC ps p q = _ := if_pos h0
    have HP := implPowersOf_any ps v p q hp hq w HV.out
    have hRR : powersR ps p q = _ := if_pos h0
    rw [h0, hRR] at HP
    rw [h0, hR]
    have HP := Lib.hid HP
    clear h0 hR hRR
    go_enter Try.func18, Try.ntmps18
    go_wp2_with fail
    refine HP.out.mono ?_
    rintro e w1 ⟨u, xs, rfl, ho, hS, hx, hb⟩
    have hxl : xs.length = ps.length + 1 := by rw [hS.1, powS_len]
    rw [hxl] at ho
    obtain ⟨g, cap, rfl, hg, hgs⟩ := own_some ho (by omega)
    obtain ⟨x, hx0⟩ : ∃ x, xs[0]? = some x := ⟨_, List.getElem?_eq_getElem (by omega)⟩
    obtain ⟨y, hy0⟩ : ∃ y, xs[ps.length]? = some y := ⟨_, List.getElem?_eq_getElem (by omega)⟩
    have c0 := own_cell ho (cellF_at hx0)
    have c1 := own_cell ho (cellF_at hy0)
    have e0 := hS.2 0 x _ hx0 (powS_get p q ps _ 0 (by omega))
    have e1 := hS.2 ps.length y _ hy0 (powS_get p q ps _ ps.length (by omega))
    rw [cn_cop] at e0 e1
    have E0 := Lib.hid e0
    have E1 := Lib.hid e1
    have hj0 : (0 : Int) < (ps.length : Int) + 1 := by omega
    have hj1 : (ps.length : Int) < (ps.length : Int) + 1 := by omega
    clear ho hS hx hxl hx0 hy0 e0 e1
    go_wp2
    go_region
    all_goals go_wp2
    all_goals go_ret2
    all_goals exact ⟨_, rfl, by rw [cn_fval]; exact cop_congr (by rw [E0.out]; exact (cn_cop _ _ _).symm) (by rw [E1.out]; exact (cn_cop _ _ _).symm), Loose.op_lt' _, by (repeat' (first | (with_reducible exact Below.refl _ _) | (with_reducible assumption) | (with_reducible refine Below.alloc ?_ ?_ _) | (with_reducible refine below_drewN ?_ _) | (with_reducible refine Below.drew ?_) | (with_reducible refine Below.setCell ?_ ?_ _) | (with_reducible exact Nat.le_refl _) | omega | (simp only [World.size_alloc, World.size_setCell, World.size_drew, World.heap_drewN]; omega) | (simp; omega)))⟩
  · have hR : lostC ps p q = 0 := if_neg h0
    rw [hR]
    have HP := implPowersOf_any ps v p q hp hq w HV.out
    generalize ask2K ps p q = K at *
    have hne : (K != 0) = true := by simpa using h0
    have hne2 : (K == 0) = false := by simpa using h0
    have HP := Lib.hid HP
    clear hR h0
    go_enter Try.func18, Try.ntmps18
    go_wp2_with fail
    refine HP.out.mono ?_
    rintro e w1 ⟨u, xs, rfl, ho, hS, hx, hb⟩
    clear ho hS hx
    go_wp2
    go_ret2
    exact ⟨0, rfl, cn_zero0, by omega, hb⟩

set_option maxHeartbeats 2000000 in
theorem specLostPower_any (ps : List T3) (v : Value) (p q : Nat) (hp : p < 2 ^ 32) (hq : q < 2 ^ 32) (w : World) (hv : Tr w v ps) :
    Calls Try.prog 17 #[v, .float .f32 p, .float .f32 q] w (GivesN w (ask2K ps p q) (lostC ps p q)) := by
  have HV := Lib.hid hv
  by_cases h0 : ask2K ps p q = 0
  · have hl := ask_len (ask2K_ok h0).1
    have hR : lostC ps p q = _ := if_pos h0
    have HK := Lib.hid h0
    have HB := Lib.hid (ask2K_ok h0).1
    obtain ⟨a, capv, rfl, hn, _⟩ := hv
    rw [h0, hR]
    clear h0 hR
    go_enter Try.func17, Try.ntmps17
    go_wp2_with (go_at_call 39; refine (l01Asked_any ps _ _ _ _ HV.out).mono ?_; rintro e w1 ⟨rfl, rfl⟩; rw [HK.out])
    refine (l01Powers_any ps _ p q _ HV.out HB.out hp hq).mono ?_
    rintro e w1 ⟨u, xs, rfl, ho, hS, hx, hb⟩
    have hxl : xs.length = ps.length + 1 := by rw [hS.1, powS_len]
    rw [hxl] at ho
    obtain ⟨g, cap, rfl, hg, hgs⟩ := own_some ho (by omega)
    obtain ⟨x, hx0⟩ : ∃ x, xs[0]? = some x := ⟨_, List.getElem?_eq_getElem (by omega)⟩
    obtain ⟨y, hy0⟩ : ∃ y, xs[ps.length]? = some y := ⟨_, List.getElem?_eq_getElem (by omega)⟩
    have c0 := own_cell ho (cellF_at hx0)
    have c1 := own_cell ho (cellF_at hy0)
    have e0 := hS.2 0 x _ hx0 (powS_get p q ps _ 0 (by omega))
    have e1 := hS.2 ps.length y _ hy0 (powS_get p q ps _ ps.length (by omega))
    rw [cn_cop] at e0 e1
    have E0 := Lib.hid e0
    have E1 := Lib.hid e1
    have hj0 : (0 : Int) < (ps.length : Int) + 1 := by omega
    have hj1 : (ps.length : Int) < (ps.length : Int) + 1 := by omega
    clear ho hS hx hxl hx0 hy0 e0 e1
    go_wp2
    go_region
    all_goals go_wp2
    all_goals go_ret2
    all_goals exact ⟨_, rfl, by rw [cn_fval]; exact cop_congr (by rw [E0.out]; exact (cn_cop _ _ _).symm) (by rw [E1.out]; exact (cn_cop _ _ _).symm), Loose.op_lt' _, by (repeat' (first | (with_reducible exact Below.refl _ _) | (with_reducible assumption) | (with_reducible refine Below.alloc ?_ ?_ _) | (with_reducible refine below_drewN ?_ _) | (with_reducible refine Below.drew ?_) | (with_reducible refine Below.setCell ?_ ?_ _) | (with_reducible exact Nat.le_refl _) | omega | (simp only [World.size_alloc, World.size_setCell, World.size_drew, World.heap_drewN]; omega) | (simp; omega)))⟩
  · have hR : lostC ps p q = 0 := if_neg h0
    rw [hR]
    clear hv
    generalize hK : ask2K ps p q = K at *
    have HK := Lib.hid hK
    have hne : (K != 0) = true := by simpa using h0
    have hne2 : (K == 0) = false := by simpa using h0
    clear hR h0 hK
    go_enter Try.func17, Try.ntmps17
    go_wp2_with (go_at_call 39; refine (l01Asked_any ps _ _ _ _ HV.out).mono ?_; rintro e w1 ⟨rfl, rfl⟩; rw [HK.out])
    go_ret2
    exact ⟨0, rfl, cn_zero0, by omega, by (repeat' (first | (with_reducible exact Below.refl _ _) | (with_reducible assumption) | (with_reducible refine Below.alloc ?_ ?_ _) | (with_reducible refine below_drewN ?_ _) | (with_reducible refine Below.drew ?_) | (with_reducible refine Below.setCell ?_ ?_ _) | (with_reducible exact Nat.le_refl _) | omega | (simp only [World.size_alloc, World.size_setCell, World.size_drew, World.heap_drewN]; omega) | (simp; omega)))⟩

end Go.Proofs.Ytkgfepakedieaaa
