/- Trains: speeds and torques of all axles. -/
import Derived.Test.YtkgfepakedieaaaCtTa
import Derived.Test.YtkgfepakedieaaaDr
import Derived.Test.YtkgfepakedieaaaLoose3
import Derived.Deep.RegionLaw
import Derived.Deep.AppendLies
namespace Go.Proofs.Ytkgfepakedieaaa
open Go.RowKit

theorem info_f32t : (Try.prog.info? 23).map (fun i => (i.zero, i.size, i.bytes)) = some (some (.float .f32 0), 1, 4) := by kernel_rfl

set_option maxHeartbeats 400000 in
theorem badNumber_any (a : Nat) (w : World) :
    Calls Try.prog 66 #[.float .f32 a] w fun e w' => e = .returned (.bool (!plainB a)) ∧ w = w' := by
  go_enter Try.func66, Try.ntmps66
  go_wp2_with (go_at_call 67; refine (impl_IsPlain_any _ _).mono ?_; rintro e w' ⟨rfl, rfl⟩)
  all_goals (go_ret; exact ⟨rfl, rfl⟩)

set_option maxHeartbeats 1000000 in
theorem indexNumber_any (xs : List Nat) (v : Value) (w : World) (hv : Fs w v xs) :
    Calls Try.prog 83 #[v, .func (Fn.func 66) #[] #[]] w fun e w' => ∃ k, e = .returned (.int .i64 k) ∧ (decide (0 ≤ k)) = !(xs.all plainB) ∧ w = w' := by
  obtain ⟨a, cap, rfl, hn, hc⟩ := hv
  have hn2 : xs.length ≤ 9223372036854775807 := by simpa [maxLen] using hn
  go_enter Try.func83, Try.ntmps83
  go_wp2
  go_loopw [8] (fun k wr => ∃ j : Nat, j ≤ xs.length ∧ k = .int .i64 (j : Int) ∧ wr = w ∧ Hid ((xs.take j).all plainB = true))
    (fun k _ => (xs.length - intOf k).toNat)
  case atStart => exact ⟨0, by omega, rfl, rfl, Lib.hid rfl⟩
  case round =>
    obtain ⟨j, hj, rfl, hww, hal⟩ := hrel
    obtain rfl : w = wr := hww.symm
    by_cases hlt : j < xs.length
    · obtain ⟨b, off, rfl, hbl, hat⟩ := hc (by omega)
      have hp : xs[j]? = some xs[j] := List.getElem?_eq_getElem hlt
      have d0 := hat j _ hp
      have e1 : (xs.take (j + 1)).all plainB = plainB xs[j] := by
        rw [List.take_add_one, hp, List.all_append, hal.out]
        simp
      have e2 : plainB xs[j] = false → xs.all plainB = false := fun h => List.all_eq_false.2 ⟨xs[j], List.getElem_mem hlt, by simp [h]⟩
      clear hc hat
      cases hB : plainB xs[j]
      · go_wp2_with (go_at_call 66; refine (badNumber_any _ _).mono ?_; rintro e w' ⟨rfl, rfl⟩)
        go_ret
        exact ⟨_, rfl, by simp [e2 hB], rfl⟩
      · go_wp2_with (go_at_call 66; refine (badNumber_any _ _).mono ?_; rintro e w' ⟨rfl, rfl⟩)
        exact ⟨⟨j + 1, by omega, rfl, trivial, Lib.hid (by rw [e1, hB])⟩, by simp [intOf]; omega⟩
    · obtain rfl : j = xs.length := by omega
      clear hc
      go_wp2
      go_ret
      exact ⟨_, rfl, by simp [← hal.out], rfl⟩

set_option maxHeartbeats 400000 in
theorem anyNumber_any (xs : List Nat) (v : Value) (w : World) (hv : Fs w v xs) :
    Calls Try.prog 65 #[v, .func (Fn.func 66) #[] #[]] w fun e w' => e = .returned (.bool (!(xs.all plainB))) ∧ w = w' := by
  go_enter Try.func65, Try.ntmps65
  go_wp2_with (go_at_call 83; refine (indexNumber_any xs _ _ hv).mono ?_; (rintro e w2 ⟨k, rfl, hk, rfl⟩))
  all_goals (go_ret; exact ⟨by simp_all, rfl⟩)

def codeL (ps : List T3) (xs : List Nat) : Int := if trainB ps then (if xs.all plainB then 0 else 2) else 1

set_option maxHeartbeats 1000000 in
theorem trainCode_any (ps : List T3) (xs : List Nat) (v u : Value) (w : World) (hv : Tr w v ps) (hu : Fs w u xs) :
    Calls Try.prog 42 #[v, u] w fun e w' => e = .returned (.int .i64 (codeL ps xs)) ∧ Below w.heap.size w w' := by
  have HV := Lib.hid hv
  have HU := Lib.hid hu
  clear hv hu
  go_enter Try.func42, Try.ntmps42
  cases hB : trainB ps
  · go_wp2_with (go_at_call 51; refine (implValidTrain_any ps _ _ HV.out).mono ?_; rintro e w0 ⟨rfl, hb0⟩)
    go_ret
    exact ⟨by simp [codeL, hB], hb0⟩
  · cases hx : xs.all plainB
    · go_wp2_with (first | (go_at_call 51; refine (implValidTrain_any ps _ _ HV.out).mono ?_; rintro e w0 ⟨rfl, hb0⟩) | (go_at_call 65; refine (anyNumber_any xs _ _ (HU.out.below hb0)).mono ?_; rintro e w1 ⟨rfl, rfl⟩; rw [hx]))
      go_ret
      exact ⟨by simp [codeL, hB, hx], hb0⟩
    · go_wp2_with (first | (go_at_call 51; refine (implValidTrain_any ps _ _ HV.out).mono ?_; rintro e w0 ⟨rfl, hb0⟩) | (go_at_call 65; refine (anyNumber_any xs _ _ (HU.out.below hb0)).mono ?_; rintro e w1 ⟨rfl, rfl⟩; rw [hx]))
      go_ret
      exact ⟨by simp [codeL, hB, hx], hb0⟩

theorem up_ab (g o : Nat) (a b : Int) (w : World) (h0 : w.cell? ⟨g, o, none⟩ = some (.int .i16 a)) (h1 : w.cell? ⟨g, o + 1, none⟩ = some (.int .i16 b)) :
    Calls Try.prog 68 #[.pointer (some ⟨g, o, none⟩)] w fun e w' => ∃ r, e = .returned (.float .f32 r) ∧ cn r = cop .quo (floatOfInt .f32 a) (floatOfInt .f32 b) ∧ r < 2 ^ 32 ∧ Below w.heap.size w w' :=
  (up_any g o a b w h0 h1).mono fun _ _ ⟨r, n, h, k, l, m⟩ => ⟨r, h, k, l, below_of_drewN m⟩

set_option maxHeartbeats 400000 in
theorem down_any (g o : Nat) (a b : Int) (w : World) (h0 : w.cell? ⟨g, o, none⟩ = some (.int .i16 a)) (h1 : w.cell? ⟨g, o + 1, none⟩ = some (.int .i16 b)) :
    Calls Try.prog 69 #[.pointer (some ⟨g, o, none⟩)] w fun e w' => ∃ r n, e = .returned (.float .f32 r) ∧ cn r = cop .quo (floatOfInt .f32 b) (floatOfInt .f32 a) ∧ r < 2 ^ 32 ∧ w.drewN n = w' := by
  go_enter Try.func69, Try.ntmps69
  go_wp2
  go_region
  all_goals go_wp2
  all_goals (go_ret; exact ⟨_, _, rfl, by simp, Loose.op_lt' _, rfl⟩)

theorem boxed_pairT (w : World) (t : TypeId) (a b : Int) (c : Nat) : ∃ W, w.alloc (.cells #[.int .i16 a, .int .i16 b, .float .f32 c] t) = W ∧ W.heap.size = w.heap.size + 1 ∧ Below w.heap.size w W ∧
    ∀ w1, BelowC W w1 → w1.cell? ⟨w.heap.size, 0, none⟩ = some (.int .i16 a) ∧ w1.cell? ⟨w.heap.size, 1, none⟩ = some (.int .i16 b) ∧ w1.cell? ⟨w.heap.size, 2, none⟩ = some (.float .f32 c) := by
  have c0 : (w.alloc (.cells #[.int .i16 a, .int .i16 b, .float .f32 c] t)).cell? ⟨w.heap.size, 0, none⟩ = some (.int .i16 a) := by simp [World.cell?_alloc_at]
  have c1 : (w.alloc (.cells #[.int .i16 a, .int .i16 b, .float .f32 c] t)).cell? ⟨w.heap.size, 1, none⟩ = some (.int .i16 b) := by simp [World.cell?_alloc_at]
  have c2 : (w.alloc (.cells #[.int .i16 a, .int .i16 b, .float .f32 c] t)).cell? ⟨w.heap.size, 2, none⟩ = some (.float .f32 c) := by simp [World.cell?_alloc_at]
  have hsz : w.heap.size < (w.alloc (.cells #[.int .i16 a, .int .i16 b, .float .f32 c] t)).heap.size := by simp
  exact ⟨_, rfl, by simp, Below.alloc (Below.refl _ _) (Nat.le_refl _) _, fun w1 h => ⟨BelowC.cell c0 hsz w1 h, BelowC.cell c1 hsz w1 h, BelowC.cell c2 hsz w1 h⟩⟩

theorem scan_first (f : Nat → T3 → Nat) (q : Nat) (ps : List T3) : SameF [q] (scanR f (cn q) ps 1) := by
  have : scanR f (cn q) ps 1 = [] ++ [cn q] := by
    rw [scanR_succ]
    simp [scanR]
  rw [this]
  exact SameF.snoc (SameF.refl []) (by simp)

set_option maxHeartbeats 2000000 in
theorem implSpeeds_any (ps : List T3) (v : Value) (q : Nat) (w : World) (hv : Tr w v ps) (hB : trainB ps = true) (hq : q < 2 ^ 32) :
    Calls Try.prog 43 #[v, .float .f32 q] w fun e w' => ∃ u xs, e = .returned u ∧ w'.ownsRow w.heap.size 23 1 u xs.length (cellsF xs) ∧ SameF xs (scanR speedC (cn q) ps (ps.length + 1)) ∧ (∀ x ∈ xs, x < 2 ^ 32) ∧ Below w.heap.size w w' := by
  obtain ⟨a, cap, rfl, hn, hk, hc⟩ := hv
  have hl := ask_len hB
  obtain ⟨i0, hi, hz0, hz1, hz2⟩ := info_parts info_f32t
  clear hk
  go_enter Try.func43, Try.ntmps43
  go_wp2
  go_loopw [1, 5, 12] (fun s u k wr => ∃ (j cur : Nat) (xs : List Nat), j ≤ ps.length ∧ k = .int .i64 (j : Int) ∧ s = .float .f32 cur ∧ xs.length = j + 1 ∧ wr.ownsRow w.heap.size 23 1 u (j + 1) (cellsF xs) ∧ Hid (SameF xs (scanR speedC (cn q) ps (j + 1)) ∧ ∀ x ∈ xs, x < 2 ^ 32) ∧ Hid (cn cur = (ps.take j).foldl speedC (cn q)) ∧ cur < 2 ^ 32 ∧ Below w.heap.size w wr)
    (fun _ _ k _ => (ps.length - intOf k).toNat)
  case atStart =>
    refine ⟨0, q, [q], by omega, rfl, rfl, rfl, ?_, Lib.hid ⟨scan_first _ _ _, by simpa using hq⟩, Lib.hid rfl, hq, by (repeat' (first | (with_reducible exact Below.refl _ _) | (with_reducible assumption) | (with_reducible refine Below.alloc ?_ ?_ _) | (with_reducible refine below_drewN ?_ _) | (with_reducible refine Below.drew ?_) | (with_reducible refine Below.setCell ?_ ?_ _) | (with_reducible exact Nat.le_refl _) | omega | (simp only [World.size_alloc, World.size_setCell, World.size_drew, World.heap_drewN]; omega) | (simp; omega)))⟩
    exact own_lit w w.heap.size 23 (size := 1) 1 #[.float .f32 q] (Nat.le_refl _) (by decide) rfl
  case round =>
    obtain ⟨j, cur, xs, hj, rfl, rfl, hxl, ho, hS, hcur, hcl, hb⟩ := hrel
    by_cases hlt : j < ps.length
    · obtain ⟨b, off, rfl, hbl, hat⟩ := hc (by omega)
      have hp : ps[j]? = some ps[j] := List.getElem?_eq_getElem hlt
      obtain ⟨c0, c1, c2⟩ := hat j _ hp
      have hsz := hb.size
      have d0 := (Below.cell hb (p := ⟨b, _, none⟩) hbl).trans c0
      have d1 := (Below.cell hb (p := ⟨b, _, none⟩) hbl).trans c1
      have d2 := (Below.cell hb (p := ⟨b, _, none⟩) hbl).trans c2
      have HO := Lib.hid ho
      have HX := Lib.hid hxl
      have HE := Lib.hid (scanR_succ speedC (cn q) ps (j + 1))
      have HF := Lib.hid (foldl_step speedC (cn q) ps j _ hp)
      clear hc hat c0 c1 c2 ho hxl
      go_wp2_with fail
      obtain ⟨W, hW, hWs, hbW, HBx⟩ := boxed_pairT wr 54 ps[j].1 ps[j].2.1 ps[j].2.2
      rw [hW]
      clear hW d0 d1 d2
      refine (up_ab _ 0 ps[j].1 ps[j].2.1 _ (HBx _ (Below.refl _ _)).1 (HBx _ (Below.refl _ _)).2.1).mono ?_
      rintro e w2 ⟨r, rfl, hr, hrl, hb2⟩
      have HR := Lib.hid hr
      have ho2 := own_after (own_after HO.out hbW) hb2
      have hb9 := hb.trans ((hbW.trans (hb2.mono (by omega))).mono hsz)
      have hs9 := hb9.size
      clear hr HBx
      go_wp2_with (at_builtin; refine wpList_append_lies _ rfl _ _ _ rfl w.heap.size 23 i0 _ 1 4 Try.underlying25 hi hz0 hz1 hz2 rfl (by decide) _ _ _ rfl (own_drewN (ho2.alloc _) _) ⟨w2.heap.size, 0, none⟩ 1 1 _ rfl (by rfl) (World.news_of_block (heap_alloc_new w2 _)) (by intro u hu; simp at hu; subst hu; rfl) (by decide) (by unfold maxLen; omega) (by omega) (by simp; omega) _ rfl ?_; intro g cap' w10 hown1 hgrow hat hlt1)
      have hb10 : Below w.heap.size w w10 := (below_drewN (hb9.alloc hs9 _) _).grown hgrow (by simp; omega) (fun g hg => (HO.out.lt g hg).1)
      have HO1 := Lib.hid hown1
      have hv := speedC_of (p := ps[j]) (x := cur) (y := (ps.take j).foldl speedC (cn q)) (r := fval .mul .f32 cur r w2) (by rw [hcur.out]; exact (cn_foldl speedC cn_speedC q _).symm) (by rw [cn_fval]; exact cop_congr rfl (by rw [HR.out]; exact (cn_cop _ _ _).symm)) (Loose.op_lt' _)
      clear hown1 hgrow hat hlt1
      refine ⟨⟨j + 1, fneg (fval .mul .f32 cur r w2), xs ++ [fneg (fval .mul .f32 cur r w2)], by omega, rfl, rfl, by simp [HX.out], by rw [cellsF_app]; exact HO1.out, Lib.hid ⟨?_, lt_snoc hS.out.2 (fneg_lt (Loose.op_lt' _))⟩, Lib.hid (by rw [HF.out]; exact hv), fneg_lt (Loose.op_lt' _), hb10⟩, by simp [intOf]; omega⟩
      rw [HE.out]
      refine hS.out.1.snoc ?_
      rw [HF.out, cn_speedC]
      exact hv
    · obtain rfl : j = ps.length := by omega
      clear hc
      go_wp2
      go_ret
      exact ⟨_, xs, rfl, by rw [hxl]; exact ho, hS.out.1, hS.out.2, hb⟩

set_option maxHeartbeats 2000000 in
theorem l01Speeds_any (ps : List T3) (v : Value) (q : Nat) (w : World) (hv : Tr w v ps) (hB : trainB ps = true) (hq : q < 2 ^ 32) :
    Calls Try.prog 40 #[v, .float .f32 q] w fun e w' => ∃ u xs, e = .returned u ∧ w'.ownsRow w.heap.size 23 1 u xs.length (cellsF xs) ∧ SameF xs (scanR speedC (cn q) ps (ps.length + 1)) ∧ (∀ x ∈ xs, x < 2 ^ 32) ∧ Below w.heap.size w w' := by
  obtain ⟨a, cap, rfl, hn, hk, hc⟩ := hv
  have hl := ask_len hB
  obtain ⟨i0, hi, hz0, hz1, hz2⟩ := info_parts info_f32t
  clear hk
  go_enter Try.func40, Try.ntmps40
  go_wp2
  go_loopw [5, 6] (fun u k wr => ∃ (j : Nat) (xs : List Nat), j ≤ ps.length ∧ k = .int .i64 (j : Int) ∧ xs.length = j + 1 ∧ wr.ownsRow w.heap.size 23 1 u (j + 1) (cellsF xs) ∧ Hid (SameF xs (scanR speedC (cn q) ps (j + 1)) ∧ ∀ x ∈ xs, x < 2 ^ 32) ∧ Below w.heap.size w wr)
    (fun _ k _ => (ps.length - intOf k).toNat)
  case atStart =>
    refine ⟨0, [q], by omega, rfl, rfl, ?_, Lib.hid ⟨scan_first _ _ _, by simpa using hq⟩, by (repeat' (first | (with_reducible exact Below.refl _ _) | (with_reducible assumption) | (with_reducible refine Below.alloc ?_ ?_ _) | (with_reducible refine below_drewN ?_ _) | (with_reducible refine Below.drew ?_) | (with_reducible refine Below.setCell ?_ ?_ _) | (with_reducible exact Nat.le_refl _) | omega | (simp only [World.size_alloc, World.size_setCell, World.size_drew, World.heap_drewN]; omega) | (simp; omega)))⟩
    exact own_lit w w.heap.size 23 (size := 1) 1 #[.float .f32 q] (Nat.le_refl _) (by decide) rfl
  case round =>
    obtain ⟨j, xs, hj, rfl, hxl, ho, hS, hb⟩ := hrel
    by_cases hlt : j < ps.length
    · obtain ⟨b, off, rfl, hbl, hat⟩ := hc (by omega)
      have hp : ps[j]? = some ps[j] := List.getElem?_eq_getElem hlt
      obtain ⟨c0, c1, c2⟩ := hat j _ hp
      have hsz := hb.size
      have lb := Nat.lt_of_lt_of_le hbl hsz
      obtain ⟨y, hy⟩ : ∃ y, xs[j]? = some y := ⟨_, List.getElem?_eq_getElem (by omega)⟩
      rcases own_val ho with ⟨_, h0⟩ | ⟨g0, cap0, rfl, hg0, hgs0, _⟩
      · omega
      have q0 := BelowC.cell ((Below.cell hb (p := ⟨b, _, none⟩) hbl).trans c0) lb
      have q1 := BelowC.cell ((Below.cell hb (p := ⟨b, _, none⟩) hbl).trans c1) lb
      have q2 := BelowC.cell (own_cell ho (j := j) (u := .float .f32 y) (by simp [cellsF, hy])) hgs0
      have hdn := @BelowC.drewN wr
      have hjj : (j : Int) < (j : Int) + 1 := by omega
      have HO := Lib.hid ho
      have HX := Lib.hid hxl
      have HE := Lib.hid (scanR_succ speedC (cn q) ps (j + 1))
      have HF := Lib.hid (foldl_step speedC (cn q) ps j _ hp)
      have HY := Lib.hid (hS.out.1.2 j y _ hy (scanR_get speedC (cn q) ps (j + 1) j (by omega)))
      clear hc hat c0 c1 c2 ho hxl hy
      go_wp2
      (refine Loose.wp_region_tail1 18 3 (BelowC wr) (Loose.Tab [(64, fun _ v => ∃ t, v = .float .f32 t ∧ cn t = upC ps[j] ∧ t < 2 ^ 32)]) (v0 := .slice (some ⟨g0, 0, none⟩) (j + 1) cap0) (by kernel_rfl) rfl rfl (by kernel_rfl) (BelowC.start wr) (fun _ _ _ h => h) (.inl ⟨by rfl, fun w => by go_simp⟩) ?_; simp only [List.take_succ_cons, List.take_zero, List.drop_succ_cons, List.drop_zero, Act.put, List.setIfInBounds_toArray, List.set_cons_zero, List.set_cons_succ])
      repeat (apply Loose.det; (focus rfl); (focus (intro wq hwq; go_simp; first | done | (with_reducible rfl))); (simp only [Act.put, List.setIfInBounds_toArray, List.set_cons_zero, List.set_cons_succ]))
      (apply Loose.callT; (focus rfl); (focus (intro wq hwq; go_simp; first | done | (with_reducible exact ⟨rfl, rfl⟩) | (with_reducible rfl))); (focus rfl); (focus (intro w1 h1; refine (l01Quotient_any _ _ _).mono ?_; rintro e w2 ⟨t, n, rfl, h2, h3, rfl⟩; exact ⟨_, rfl, ⟨t, rfl, h2, h3⟩, hdn _ _ h1⟩)); (rintro v ⟨t, rfl, ht, htl⟩; simp only [Act.put, List.setIfInBounds_toArray, List.set_cons_zero, List.set_cons_succ]))
      (apply Loose.flt (hd := hdn); (focus rfl); (focus (intro wq hwq; go_simp; first | done | (with_reducible exact ⟨rfl, rfl⟩) | (with_reducible rfl))); (rintro r hr hl; simp only [Act.put, List.setIfInBounds_toArray, List.set_cons_zero, List.set_cons_succ]))
      (apply Loose.det; (focus rfl); (focus (intro wq hwq; go_simp; first | done | (with_reducible rfl))); (simp only [Act.put, List.setIfInBounds_toArray, List.set_cons_zero, List.set_cons_succ]))
      refine Loose.done ?_
      intro w9 hb2
      have ho9 := own_after HO.out hb2
      have hb9 := hb.trans (hb2.mono hsz)
      have hs9 := hb9.size
      (refine Loose.tail_one 18 (by kernel_rfl) rfl ?_; intro K hK; go_simp; refine hK _ _ ?_; clear hK K)
      (refine Loose.tail_one 19 (by kernel_rfl) rfl ?_; intro K hK; refine step_append_lies _ rfl _ _ _ rfl w.heap.size 23 i0 _ 1 4 Try.underlying25 hi hz0 hz1 hz2 rfl (by decide) _ _ _ rfl (ho9.alloc _) ⟨w9.heap.size, 0, none⟩ 1 1 (cellsF [fneg r]) rfl rfl (World.news_of_block (heap_alloc_new w9 _)) (by first | exact cellsF_one _ | (intro u hu; simp at hu; subst hu; rfl) | (intro u hu; simp at hu; rcases hu with rfl | rfl | rfl <;> rfl)) (by decide) (by unfold maxLen; omega) (by omega) (by simp; omega) _ rfl ?_; intro g cap' w10 hown1 hgrow hat hlt1; refine hK _ _ ?_; clear hK K)
      (refine Loose.tail_one 20 (by kernel_rfl) rfl ?_; intro K hK; go_simp; refine hK _ _ ?_; clear hK K; refine Loose.tail_done (by kernel_rfl) ?_)
      have hb10 : Below w.heap.size w w10 := (hb9.alloc hs9 _).grown hgrow (by simp; omega) (fun g hg => (HO.out.lt g hg).1)
      have HO1 := Lib.hid hown1
      have hv := speedC_of (p := ps[j]) (x := y) (y := (ps.take j).foldl speedC (cn q)) (r := r) HY.out (by rw [hr]; exact cop_congr rfl (by rw [ht]; exact (cn_cop _ _ _).symm)) hl
      clear hown1 hgrow hat hlt1
      go_wp2
      refine ⟨⟨j + 1, xs ++ [fneg r], by omega, rfl, by simp [HX.out], by rw [cellsF_app]; exact HO1.out, Lib.hid ⟨?_, lt_snoc hS.out.2 (fneg_lt hl)⟩, hb10⟩, by simp [intOf]; omega⟩
      rw [HE.out]
      refine hS.out.1.snoc ?_
      rw [HF.out, cn_speedC]
      exact hv
    · obtain rfl : j = ps.length := by omega
      clear hc
      go_wp2
      go_ret
      exact ⟨_, xs, rfl, by rw [hxl]; exact ho, hS.out.1, hS.out.2, hb⟩

set_option maxHeartbeats 2000000 in
theorem implTorques_any (ps : List T3) (v : Value) (q : Nat) (w : World) (hv : Tr w v ps) (hB : trainB ps = true) (hq : q < 2 ^ 32) :
    Calls Try.prog 47 #[v, .float .f32 q] w fun e w' => ∃ u xs, e = .returned u ∧ w'.ownsRow w.heap.size 23 1 u xs.length (cellsF xs) ∧ SameF xs (scanR torqueC (cn q) ps (ps.length + 1)) ∧ (∀ x ∈ xs, x < 2 ^ 32) ∧ Below w.heap.size w w' := by
  obtain ⟨a, cap, rfl, hn, hk, hc⟩ := hv
  have hl := ask_len hB
  obtain ⟨i0, hi, hz0, hz1, hz2⟩ := info_parts info_f32t
  clear hk
  go_enter Try.func47, Try.ntmps47
  go_wp2
  go_loopw [1, 5, 12] (fun s u k wr => ∃ (j cur : Nat) (xs : List Nat), j ≤ ps.length ∧ k = .int .i64 (j : Int) ∧ s = .float .f32 cur ∧ xs.length = j + 1 ∧ wr.ownsRow w.heap.size 23 1 u (j + 1) (cellsF xs) ∧ Hid (SameF xs (scanR torqueC (cn q) ps (j + 1)) ∧ ∀ x ∈ xs, x < 2 ^ 32) ∧ Hid (cn cur = (ps.take j).foldl torqueC (cn q)) ∧ cur < 2 ^ 32 ∧ Below w.heap.size w wr)
    (fun _ _ k _ => (ps.length - intOf k).toNat)
  case atStart =>
    refine ⟨0, q, [q], by omega, rfl, rfl, rfl, ?_, Lib.hid ⟨scan_first _ _ _, by simpa using hq⟩, Lib.hid rfl, hq, by (repeat' (first | (with_reducible exact Below.refl _ _) | (with_reducible assumption) | (with_reducible refine Below.alloc ?_ ?_ _) | (with_reducible refine below_drewN ?_ _) | (with_reducible refine Below.drew ?_) | (with_reducible refine Below.setCell ?_ ?_ _) | (with_reducible exact Nat.le_refl _) | omega | (simp only [World.size_alloc, World.size_setCell, World.size_drew, World.heap_drewN]; omega) | (simp; omega)))⟩
    exact own_lit w w.heap.size 23 (size := 1) 1 #[.float .f32 q] (Nat.le_refl _) (by decide) rfl
  case round =>
    obtain ⟨j, cur, xs, hj, rfl, rfl, hxl, ho, hS, hcur, hcl, hb⟩ := hrel
    by_cases hlt : j < ps.length
    · obtain ⟨b, off, rfl, hbl, hat⟩ := hc (by omega)
      have hp : ps[j]? = some ps[j] := List.getElem?_eq_getElem hlt
      obtain ⟨c0, c1, c2⟩ := hat j _ hp
      have hsz := hb.size
      have d0 := (Below.cell hb (p := ⟨b, _, none⟩) hbl).trans c0
      have d1 := (Below.cell hb (p := ⟨b, _, none⟩) hbl).trans c1
      have d2 := (Below.cell hb (p := ⟨b, _, none⟩) hbl).trans c2
      have HO := Lib.hid ho
      have HX := Lib.hid hxl
      have HE := Lib.hid (scanR_succ torqueC (cn q) ps (j + 1))
      have HF := Lib.hid (foldl_step torqueC (cn q) ps j _ hp)
      clear hc hat c0 c1 c2 ho hxl
      go_wp2
      obtain ⟨W, hW, hWs, hbW, HBx⟩ := boxed_pairT wr 54 ps[j].1 ps[j].2.1 ps[j].2.2
      rw [hW]
      clear hW d0 d1 d2
      have q0 : ∀ w1, BelowC W w1 → _ := fun w1 h => (HBx w1 h).1
      have q1 : ∀ w1, BelowC W w1 → _ := fun w1 h => (HBx w1 h).2.1
      have q2 : ∀ w1, BelowC W w1 → _ := fun w1 h => (HBx w1 h).2.2
      have HBW := Lib.hid HBx
      clear HBx
      have hdn := @BelowC.drewN W
      refine Loose.wp_region (BelowC W) (Loose.Tab [(69, fun _ v => ∃ t, v = .float .f32 t ∧ cn t = downC ps[j] ∧ t < 2 ^ 32)]) (by kernel_rfl) (by kernel_rfl) (BelowC.start W) ?_
      (apply Loose.det; (focus rfl); (focus (intro wq hwq; go_simp; first | done | (with_reducible rfl))); (simp only [Act.put, List.setIfInBounds_toArray, List.set_cons_zero, List.set_cons_succ]))
      (apply Loose.callT; (focus rfl); (focus (intro wq hwq; go_simp; first | done | (with_reducible exact ⟨rfl, rfl⟩) | (with_reducible rfl))); (focus rfl); (focus (intro w1 h1; refine (down_any _ 0 ps[j].1 ps[j].2.1 _ (HBW.out _ h1).1 (HBW.out _ h1).2.1).mono ?_; rintro e w2 ⟨t, n, rfl, h2, h3, rfl⟩; exact ⟨_, rfl, ⟨t, rfl, h2, h3⟩, hdn _ _ h1⟩)); (rintro v ⟨t, rfl, ht, htl⟩; simp only [Act.put, List.setIfInBounds_toArray, List.set_cons_zero, List.set_cons_succ]))
      (apply Loose.flt (hd := hdn); (focus rfl); (focus (intro wq hwq; go_simp; first | done | (with_reducible exact ⟨rfl, rfl⟩) | (with_reducible rfl))); (rintro rA hrA hlA; simp only [Act.put, List.setIfInBounds_toArray, List.set_cons_zero, List.set_cons_succ]))
      repeat (apply Loose.det; (focus rfl); (focus (intro wq hwq; go_simp; first | done | (with_reducible rfl))); (simp only [Act.put, List.setIfInBounds_toArray, List.set_cons_zero, List.set_cons_succ]))
      (apply Loose.flt (hd := hdn); (focus rfl); (focus (intro wq hwq; go_simp; first | done | (with_reducible exact ⟨rfl, rfl⟩) | (with_reducible rfl))); (rintro rB hrB hlB; simp only [Act.put, List.setIfInBounds_toArray, List.set_cons_zero, List.set_cons_succ]))
      (apply Loose.flt (hd := hdn); (focus rfl); (focus (intro wq hwq; go_simp; first | done | (with_reducible exact ⟨rfl, rfl⟩) | (with_reducible rfl))); (rintro rD hrD hlD; simp only [Act.put, List.setIfInBounds_toArray, List.set_cons_zero, List.set_cons_succ]))
      repeat (apply Loose.det; (focus rfl); (focus (intro wq hwq; go_simp; first | done | (with_reducible rfl))); (simp only [Act.put, List.setIfInBounds_toArray, List.set_cons_zero, List.set_cons_succ]))
      refine Loose.done ?_
      intro w9 hb2
      have ho2 := own_after (own_after HO.out hbW) hb2
      have hb9 := hb.trans ((hbW.trans (hb2.mono (by omega))).mono hsz)
      have hs9 := hb9.size
      have hcr : cn (fneg rD) = torqueC ((ps.take j).foldl torqueC (cn q)) ps[j] := by
        rw [cn_fneg hlD, hrD, torqueC]
        congr 2
        refine cop_congr ?_ (by rw [hrB, cn_cop])
        rw [hrA, cn_cop]
        exact cop_congr (by rw [hcur.out]; exact (cn_foldl torqueC cn_torqueC q _).symm) (by rw [ht]; exact (cn_cop _ _ _).symm)
      go_wp2_with (at_builtin; refine wpList_append_lies _ rfl _ _ _ rfl w.heap.size 23 i0 _ 1 4 Try.underlying25 hi hz0 hz1 hz2 rfl (by decide) _ _ _ rfl (ho2.alloc _) ⟨w9.heap.size, 0, none⟩ 1 1 _ rfl (by rfl) (World.news_of_block (heap_alloc_new w9 _)) (by intro u hu; simp at hu; subst hu; rfl) (by decide) (by unfold maxLen; omega) (by omega) (by simp; omega) _ rfl ?_; intro g cap' w10 hown1 hgrow hat hlt1)
      have hb10 : Below w.heap.size w w10 := (hb9.alloc hs9 _).grown hgrow (by simp; omega) (fun g hg => (HO.out.lt g hg).1)
      have HO1 := Lib.hid hown1
      clear hown1 hgrow hat hlt1
      refine ⟨⟨j + 1, fneg rD, xs ++ [fneg rD], by omega, rfl, rfl, by simp [HX.out], by rw [cellsF_app]; exact HO1.out, Lib.hid ⟨?_, lt_snoc hS.out.2 (fneg_lt hlD)⟩, Lib.hid (by rw [HF.out]; exact hcr), fneg_lt hlD, hb10⟩, by simp [intOf]; omega⟩
      rw [HE.out]
      refine hS.out.1.snoc ?_
      rw [HF.out, cn_torqueC]
      exact hcr
    · obtain rfl : j = ps.length := by omega
      clear hc
      go_wp2
      go_ret
      exact ⟨_, xs, rfl, by rw [hxl]; exact ho, hS.out.1, hS.out.2, hb⟩


set_option maxHeartbeats 2000000 in
theorem l01Torques_any (ps : List T3) (v : Value) (q : Nat) (w : World) (hv : Tr w v ps) (hB : trainB ps = true) (hq : q < 2 ^ 32) :
    Calls Try.prog 46 #[v, .float .f32 q] w fun e w' => ∃ u xs, e = .returned u ∧ w'.ownsRow w.heap.size 23 1 u xs.length (cellsF xs) ∧ SameF xs (scanR torqueC (cn q) ps (ps.length + 1)) ∧ (∀ x ∈ xs, x < 2 ^ 32) ∧ Below w.heap.size w w' := by
  obtain ⟨a, cap, rfl, hn, hk, hc⟩ := hv
  have hl := ask_len hB
  obtain ⟨i0, hi, hz0, hz1, hz2⟩ := info_parts info_f32t
  clear hk
  go_enter Try.func46, Try.ntmps46
  go_wp2
  go_loopw [5, 6] (fun u k wr => ∃ (j : Nat) (xs : List Nat), j ≤ ps.length ∧ k = .int .i64 (j : Int) ∧ xs.length = j + 1 ∧ wr.ownsRow w.heap.size 23 1 u (j + 1) (cellsF xs) ∧ Hid (SameF xs (scanR torqueC (cn q) ps (j + 1)) ∧ ∀ x ∈ xs, x < 2 ^ 32) ∧ Below w.heap.size w wr)
    (fun _ k _ => (ps.length - intOf k).toNat)
  case atStart =>
    refine ⟨0, [q], by omega, rfl, rfl, ?_, Lib.hid ⟨scan_first _ _ _, by simpa using hq⟩, by (repeat' (first | (with_reducible exact Below.refl _ _) | (with_reducible assumption) | (with_reducible refine Below.alloc ?_ ?_ _) | (with_reducible refine below_drewN ?_ _) | (with_reducible refine Below.drew ?_) | (with_reducible refine Below.setCell ?_ ?_ _) | (with_reducible exact Nat.le_refl _) | omega | (simp only [World.size_alloc, World.size_setCell, World.size_drew, World.heap_drewN]; omega) | (simp; omega)))⟩
    exact own_lit w w.heap.size 23 (size := 1) 1 #[.float .f32 q] (Nat.le_refl _) (by decide) rfl
  case round =>
    obtain ⟨j, xs, hj, rfl, hxl, ho, hS, hb⟩ := hrel
    by_cases hlt : j < ps.length
    · obtain ⟨b, off, rfl, hbl, hat⟩ := hc (by omega)
      have hp : ps[j]? = some ps[j] := List.getElem?_eq_getElem hlt
      obtain ⟨c0, c1, c2⟩ := hat j _ hp
      have hsz := hb.size
      have lb := Nat.lt_of_lt_of_le hbl hsz
      obtain ⟨y, hy⟩ : ∃ y, xs[j]? = some y := ⟨_, List.getElem?_eq_getElem (by omega)⟩
      rcases own_val ho with ⟨_, h0⟩ | ⟨g0, cap0, rfl, hg0, hgs0, _⟩
      · omega
      have q0 := BelowC.cell ((Below.cell hb (p := ⟨b, _, none⟩) hbl).trans c0) lb
      have q1 := BelowC.cell ((Below.cell hb (p := ⟨b, _, none⟩) hbl).trans c1) lb
      have q2 := BelowC.cell (own_cell ho (j := j) (u := .float .f32 y) (by simp [cellsF, hy])) hgs0
      have hdn := @BelowC.drewN wr
      have q3 := BelowC.cell ((Below.cell hb (p := ⟨b, _, none⟩) hbl).trans c2) lb
      have hjj : (j : Int) < (j : Int) + 1 := by omega
      have HO := Lib.hid ho
      have HX := Lib.hid hxl
      have HE := Lib.hid (scanR_succ torqueC (cn q) ps (j + 1))
      have HF := Lib.hid (foldl_step torqueC (cn q) ps j _ hp)
      have HY := Lib.hid (hS.out.1.2 j y _ hy (scanR_get torqueC (cn q) ps (j + 1) j (by omega)))
      clear hc hat c0 c1 c2 ho hxl hy
      go_wp2
      refine Loose.wp_region (BelowC wr) (Loose.Tab [(64, fun _ v => ∃ t, v = .float .f32 t ∧ cn t = downC ps[j] ∧ t < 2 ^ 32)]) (by kernel_rfl) (by kernel_rfl) (BelowC.start wr) ?_
      repeat (apply Loose.det; (focus rfl); (focus (intro wq hwq; go_simp; first | done | (with_reducible rfl))); (simp only [Act.put, List.setIfInBounds_toArray, List.set_cons_zero, List.set_cons_succ]))
      (apply Loose.callT; (focus rfl); (focus (intro wq hwq; go_simp; first | done | (with_reducible exact ⟨rfl, rfl⟩) | (with_reducible rfl))); (focus rfl); (focus (intro w1 h1; refine (l01Quotient_any _ _ _).mono ?_; rintro e w2 ⟨t, n, rfl, h2, h3, rfl⟩; exact ⟨_, rfl, ⟨t, rfl, h2, h3⟩, hdn _ _ h1⟩)); (rintro v ⟨t, rfl, ht, htl⟩; simp only [Act.put, List.setIfInBounds_toArray, List.set_cons_zero, List.set_cons_succ]))
      (apply Loose.flt (hd := hdn); (focus rfl); (focus (intro wq hwq; go_simp; first | done | (with_reducible exact ⟨rfl, rfl⟩) | (with_reducible rfl))); (rintro rA hrA hlA; simp only [Act.put, List.setIfInBounds_toArray, List.set_cons_zero, List.set_cons_succ]))
      repeat (apply Loose.det; (focus rfl); (focus (intro wq hwq; go_simp; first | done | (with_reducible rfl))); (simp only [Act.put, List.setIfInBounds_toArray, List.set_cons_zero, List.set_cons_succ]))
      refine Loose.done ?_
      intro w9 hb2
      have ho9 := own_after HO.out hb2
      have hb9 := hb.trans (hb2.mono hsz)
      have hs9 := hb9.size
      have z3 := q3 _ hb2
      have z4 : b < w9.heap.size := Nat.lt_of_lt_of_le hbl hs9
      clear q0 q1 q2 q3
      have hcr : ∀ W W', cn (fneg (fval .mul .f32 rA (fval .sub .f32 1065353216 ps[j].2.2 W) W')) = torqueC ((ps.take j).foldl torqueC (cn q)) ps[j] := fun W W' => by
        rw [cn_fneg (Loose.op_lt' _), cn_fval, torqueC]
        congr 2
        refine cop_congr ?_ (by rw [cn_fval, cn_cop])
        rw [hrA, cn_cop]
        exact cop_congr HY.out (by rw [ht]; exact (cn_cop _ _ _).symm)
      have HC := Lib.hid hcr
      clear hcr
      go_wp2_with (at_builtin; refine wpList_append_lies _ rfl _ _ _ rfl w.heap.size 23 i0 _ 1 4 Try.underlying25 hi hz0 hz1 hz2 rfl (by decide) _ _ _ rfl (by first | exact own_drewN (own_drewN (ho9.alloc _) _) _ | exact own_drewN (ho9.alloc _) _) ⟨w9.heap.size, 0, none⟩ 1 1 _ rfl (by rfl) (World.news_of_block (heap_alloc_new w9 _)) (by intro u hu; simp at hu; subst hu; rfl) (by decide) (by unfold maxLen; omega) (by omega) (by simp; omega) _ rfl ?_; intro g cap' w10 hown1 hgrow hat hlt1)
      have hb10 : Below w.heap.size w w10 := Below.grown (by first | exact below_drewN (below_drewN (hb9.alloc hs9 _) _) _ | exact below_drewN (hb9.alloc hs9 _) _) hgrow (by simp; omega) (fun g hg => (HO.out.lt g hg).1)
      have HO1 := Lib.hid hown1
      clear hown1 hgrow hat hlt1
      refine ⟨⟨j + 1, xs ++ [fneg (fval .mul .f32 rA (fval .sub .f32 1065353216 ps[j].2.2 w9) (w9.drewN (fdn .sub .f32 1065353216 ps[j].2.2)))], by omega, rfl, by simp [HX.out], by rw [cellsF_app]; exact HO1.out, Lib.hid ⟨?_, lt_snoc hS.out.2 (fneg_lt (Loose.op_lt' _))⟩, hb10⟩, by simp [intOf]; omega⟩
      rw [HE.out]
      refine hS.out.1.snoc ?_
      rw [HF.out, cn_torqueC]
      exact HC.out _ _
    · obtain rfl : j = ps.length := by omega
      clear hc
      go_wp2
      go_ret
      exact ⟨_, xs, rfl, by rw [hxl]; exact ho, hS.out.1, hS.out.2, hb⟩


end Go.Proofs.Ytkgfepakedieaaa
