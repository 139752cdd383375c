/- Trains: how far the axles of all pairs are apart. -/
import Derived.Test.YtkgfepakedieaaaCtTa
import Derived.Test.YtkgfepakedieaaaCtR
import Derived.Test.YtkgfepakedieaaaLoose3
import Derived.Deep.RegionLaw
import Derived.Deep.AppendLies
namespace Go.Proofs.Ytkgfepakedieaaa
open Go.RowKit

theorem info_f32z : (Try.prog.info? 23).map (fun i => (i.zero, i.size, i.bytes)) = some (some (.float .f32 0), 1, 4) := by kernel_rfl

theorem wrap64 {n : Int} (h0 : -32768 ≤ n) (h1 : n ≤ 32767) : IntKind.i64.wrap n = n := by
  simp [IntKind.wrap, IntKind.bits, IntKind.signed]
  omega

theorem boxed_pair (w : World) (t : TypeId) (a b : Int) (c : Nat) : ∃ W, w.alloc (.cells #[.int .i16 a, .int .i16 b, .float .f32 c] t) = W ∧ W.heap.size = w.heap.size + 1 ∧ Below w.heap.size w W ∧
    ∀ w1, BelowC W w1 → w1.cell? ⟨w.heap.size, 0, none⟩ = some (.int .i16 a) ∧ w1.cell? ⟨w.heap.size, 1, none⟩ = some (.int .i16 b) ∧ w1.cell? ⟨w.heap.size, 2, none⟩ = some (.float .f32 c) := by
  have c0 : (w.alloc (.cells #[.int .i16 a, .int .i16 b, .float .f32 c] t)).cell? ⟨w.heap.size, 0, none⟩ = some (.int .i16 a) := by simp [World.cell?_alloc_at]
  have c1 : (w.alloc (.cells #[.int .i16 a, .int .i16 b, .float .f32 c] t)).cell? ⟨w.heap.size, 1, none⟩ = some (.int .i16 b) := by simp [World.cell?_alloc_at]
  have c2 : (w.alloc (.cells #[.int .i16 a, .int .i16 b, .float .f32 c] t)).cell? ⟨w.heap.size, 2, none⟩ = some (.float .f32 c) := by simp [World.cell?_alloc_at]
  have hsz : w.heap.size < (w.alloc (.cells #[.int .i16 a, .int .i16 b, .float .f32 c] t)).heap.size := by simp
  exact ⟨_, rfl, by simp, Below.alloc (Below.refl _ _) (Nat.le_refl _) _, fun w1 h => ⟨BelowC.cell c0 hsz w1 h, BelowC.cell c1 hsz w1 h, BelowC.cell c2 hsz w1 h⟩⟩

def distC (m : Nat) (p : T3) : Nat := cop .add (radC p.1 m) (radC p.2.1 m)
def distK (ps : List T3) (m : Nat) : Int := if trainB ps then (if moduleB m then 0 else 2) else 1
def distR (ps : List T3) (m : Nat) : List Nat := if distK ps m = 0 then ps.map (distC m) else []
theorem distK_ok {ps : List T3} {m : Nat} (h : distK ps m = 0) : trainB ps = true ∧ moduleB m = true := by
  unfold distK at h
  split at h
  · split at h
    · rename_i h1 h2
      exact ⟨h1, h2⟩
    · simp at h
  · simp at h
theorem distR_len (ps : List T3) (m : Nat) : (distR ps m).length ≤ 1048576 := by
  unfold distR
  split
  · rename_i h
    have := ask_len (distK_ok h).1
    rw [List.length_map]
    omega
  · simp
def radA (args : Array Value) : Nat := match args[0]?, args[1]? with
  | some (Value.int _ n), some (Value.float _ m) => radC n m
  | _, _ => 0

set_option maxHeartbeats 2000000 in
theorem implDist_ok (ps : List T3) (v : Value) (m : Nat) (w : World) (hv : Tr w v ps) (hB : trainB ps = true) (hM : moduleB m = true) :
    Calls Try.prog 36 #[v, .float .f32 m] w fun e w' => ∃ u xs, e = .returned (.tuple #[u, .int .i64 0]) ∧ w'.ownsRow w.heap.size 23 1 u xs.length (cellsF xs) ∧ SameF xs (ps.map (distC m)) ∧ (∀ x ∈ xs, x < 2 ^ 32) ∧ Below w.heap.size w w' := by
  obtain ⟨a, cap, rfl, hn, hk, hc⟩ := hv
  have HV : Hid (Tr w (.slice a ps.length cap) ps) := Lib.hid ⟨a, cap, rfl, hn, hk, hc⟩
  have hl := ask_len hB
  obtain ⟨i0, hi, hz0, hz1, hz2⟩ := info_parts info_f32z
  have HK := Lib.hid hk
  clear hk
  go_enter Try.func36, Try.ntmps36
  go_wp2_with (first | (go_at_call 51; refine (implValidTrain_any ps _ _ HV.out).mono ?_; rintro e w0 ⟨rfl, hb0⟩) | (go_at_call 59; refine (isModule_any _ _).mono ?_; rintro e w' ⟨rfl, rfl⟩))
  go_loopw [6, 20] (fun u k wr => ∃ (j : Nat) (xs : List Nat), j ≤ ps.length ∧ k = .int .i64 (j : Int) ∧ xs.length = j ∧ wr.ownsRow w.heap.size 23 1 u j (cellsF xs) ∧ Hid (SameF xs ((ps.take j).map (distC m)) ∧ ∀ x ∈ xs, x < 2 ^ 32) ∧ Below w.heap.size w wr)
    (fun _ k _ => (ps.length - intOf k).toNat)
  case atStart =>
    have hsz0 := hb0.size
    refine ⟨0, [], by omega, rfl, rfl, ?_, Lib.hid ⟨SameF.refl _, by simp⟩, by (repeat' (first | (with_reducible exact Below.refl _ _) | (with_reducible assumption) | (with_reducible refine Below.alloc ?_ ?_ _) | (with_reducible refine below_drewN ?_ _) | (with_reducible refine Below.drew ?_) | (with_reducible refine Below.setCell ?_ ?_ _) | (with_reducible exact Nat.le_refl _) | omega | (simp only [World.size_alloc, World.size_setCell, World.size_drew, World.heap_drewN]; omega) | (simp; omega)))⟩
    exact own_lit w0 w.heap.size 23 (size := 1) 0 #[] hsz0 (by decide) rfl
  case round =>
    obtain ⟨j, xs, hj, rfl, hxl, ho, hS, hb⟩ := hrel
    by_cases hlt : j < ps.length
    · obtain ⟨b, off, rfl, hbl, hat⟩ := hc (by omega)
      have hp : ps[j]? = some ps[j] := List.getElem?_eq_getElem hlt
      obtain ⟨c0, c1, c2⟩ := hat j _ hp
      obtain ⟨⟨k0, k1⟩, ⟨k2, k3⟩, _⟩ := HK.out _ (List.getElem_mem hlt)
      have hsz := hb.size
      have d0 := (Below.cell hb (p := ⟨b, _, none⟩) hbl).trans c0
      have d1 := (Below.cell hb (p := ⟨b, _, none⟩) hbl).trans c1
      have d2 := (Below.cell hb (p := ⟨b, _, none⟩) hbl).trans c2
      have HO := Lib.hid ho
      have HX := Lib.hid hxl
      have hE : (ps.take (j + 1)).map (distC m) = (ps.take j).map (distC m) ++ [distC m ps[j]] := by
        rw [List.take_add_one, hp, List.map_append]
        rfl
      have HE := Lib.hid hE
      clear hc hat c0 c1 c2 ho hE hxl
      go_wp2
      obtain ⟨W, hW, hWs, hbW, HB⟩ := boxed_pair wr 54 ps[j].1 ps[j].2.1 ps[j].2.2
      rw [hW]
      clear hW d0 d1 d2
      have q0 : ∀ w1, BelowC W w1 → _ := fun w1 h => (HB w1 h).1
      have q1 : ∀ w1, BelowC W w1 → _ := fun w1 h => (HB w1 h).2.1
      clear HB
      have hdn := @BelowC.drewN W
      (refine Loose.wp_region_tail1 12 3 (BelowC W) (Loose.Tab [(60, fun args v => ∃ q, v = .float .f32 q ∧ cn q = radA args ∧ q < 2 ^ 32)]) (v0 := u6) (by kernel_rfl) rfl rfl (by kernel_rfl) (BelowC.start W) (fun _ _ _ h => h) (.inl ⟨by rfl, fun w => by go_simp⟩) ?_; simp only [List.take_succ_cons, List.take_zero, List.drop_succ_cons, List.drop_zero, Act.put, List.setIfInBounds_toArray, List.set_cons_zero, List.set_cons_succ])
      repeat (apply Loose.det; (focus rfl); (focus (intro wq hwq; go_simp; first | done | (with_reducible rfl))); (simp only [Act.put, List.setIfInBounds_toArray, List.set_cons_zero, List.set_cons_succ]))
      (apply Loose.callT; (focus rfl); (focus (intro wq hwq; go_simp; first | done | (with_reducible exact ⟨rfl, rfl⟩) | (with_reducible rfl))); (focus rfl); (focus (intro w1 h1; refine (radius_any _ _ _).mono ?_; rintro e w2 ⟨q, n, rfl, h2, h3, rfl⟩; exact ⟨_, rfl, ⟨q, rfl, h2, h3⟩, hdn _ _ h1⟩)); (rintro v ⟨qa, rfl, hqa, hqla⟩; simp only [Act.put, List.setIfInBounds_toArray, List.set_cons_zero, List.set_cons_succ]))
      repeat (apply Loose.det; (focus rfl); (focus (intro wq hwq; go_simp; first | done | (with_reducible rfl))); (simp only [Act.put, List.setIfInBounds_toArray, List.set_cons_zero, List.set_cons_succ]))
      (apply Loose.callT; (focus rfl); (focus (intro wq hwq; go_simp; first | done | (with_reducible exact ⟨rfl, rfl⟩) | (with_reducible rfl))); (focus rfl); (focus (intro w1 h1; refine (radius_any _ _ _).mono ?_; rintro e w2 ⟨q, n, rfl, h2, h3, rfl⟩; exact ⟨_, rfl, ⟨q, rfl, h2, h3⟩, hdn _ _ h1⟩)); (rintro v ⟨qb, rfl, hqb, hqlb⟩; simp only [Act.put, List.setIfInBounds_toArray, List.set_cons_zero, List.set_cons_succ]))
      (apply Loose.flt (hd := hdn); (focus rfl); (focus (intro wq hwq; go_simp; first | done | (with_reducible exact ⟨rfl, rfl⟩) | (with_reducible rfl))); (rintro r hr hl; simp only [Act.put, List.setIfInBounds_toArray, List.set_cons_zero, List.set_cons_succ]))
      refine Loose.done ?_
      intro w9 hb2
      have ho9 := own_after (own_after HO.out hbW) hb2
      have hb9 := hb.trans ((hbW.trans (hb2.mono (by omega))).mono hsz)
      have hs9 := hb9.size
      (refine Loose.tail_one 12 (by kernel_rfl) rfl ?_; intro K hK; go_simp; refine hK _ _ ?_; clear hK K)
      (refine Loose.tail_one 13 (by kernel_rfl) rfl ?_; intro K hK; refine step_append_lies _ rfl _ _ _ rfl w.heap.size 23 i0 _ 1 4 Try.underlying25 hi hz0 hz1 hz2 rfl (by decide) _ _ _ rfl (ho9.alloc _) ⟨w9.heap.size, 0, none⟩ 1 1 (cellsF [r]) rfl rfl (World.news_of_block (heap_alloc_new w9 _)) (by first | exact cellsF_one _ | (intro u hu; simp at hu; subst hu; rfl) | (intro u hu; simp at hu; rcases hu with rfl | rfl | rfl <;> rfl)) (by decide) (by unfold maxLen; omega) (by omega) (by simp; omega) _ rfl ?_; intro g cap' w10 hown1 hgrow hat hlt1; refine hK _ _ ?_; clear hK K)
      (refine Loose.tail_one 14 (by kernel_rfl) rfl ?_; intro K hK; go_simp; refine hK _ _ ?_; clear hK K; refine Loose.tail_done (by kernel_rfl) ?_)
      have hb10 : Below w.heap.size w w10 := (hb9.alloc hs9 _).grown hgrow (by simp; omega) (fun g hg => (HO.out.lt g hg).1)
      have HO1 := Lib.hid hown1
      have hcr : cn r = distC m ps[j] := by
        rw [hr, distC]
        exact cop_congr (by rw [hqa]; simp [radA, radC, wrap64 k0 k1]) (by rw [hqb]; simp [radA, radC, wrap64 k2 k3])
      clear hown1 hgrow hat hlt1
      go_wp2
      refine ⟨⟨j + 1, xs ++ [r], by omega, rfl, by simp [HX.out], by rw [cellsF_app]; exact HO1.out, Lib.hid ⟨?_, lt_snoc hS.out.2 hl⟩, hb10⟩, by simp [intOf]; omega⟩
      rw [HE.out]
      exact hS.out.1.snoc (by rw [hcr]; simp [distC])
    · obtain rfl : j = ps.length := by omega
      clear hc
      go_wp2
      go_ret2
      exact ⟨_, xs, rfl, by rw [hxl]; exact ho, by simpa using hS.out.1, hS.out.2, hb⟩

set_option maxHeartbeats 1000000 in
theorem implDist_any (ps : List T3) (v : Value) (m : Nat) (w : World) (hv : Tr w v ps) :
    Calls Try.prog 36 #[v, .float .f32 m] w (GivesF w (distK ps m) (distR ps m)) := by
  by_cases h0 : distK ps m = 0
  · obtain ⟨hB, hM⟩ := distK_ok h0
    refine (implDist_ok ps v m w hv hB hM).mono ?_
    rintro e w' ⟨u, xs, rfl, h1, h2, h3, h4⟩
    exact ⟨u, xs, by rw [h0], h1, by rw [distR, if_pos h0]; exact h2, h3, h4⟩
  · have hR : distR ps m = [] := if_neg h0
    rw [hR]
    have key : ∀ K : Int, distK ps m = K → Calls Try.prog 36 #[v, .float .f32 m] w (GivesF w K []) := by
      intro K hK
      obtain ⟨a, cap, rfl, hn, hk, hc⟩ := hv
      have HV : Hid (Tr w (.slice a ps.length cap) ps) := Lib.hid ⟨a, cap, rfl, hn, hk, hc⟩
      clear hk hc hn
      go_enter Try.func36, Try.ntmps36
      cases hB : trainB ps
      · obtain rfl : K = 1 := by rw [← hK]; simp [distK, hB]
        clear hK
        go_wp2_with (go_at_call 51; refine (implValidTrain_any ps _ _ HV.out).mono ?_; rintro e w0 ⟨rfl, hb0⟩)
        go_ret2
        exact ⟨_, [], rfl, ⟨rfl, .inl ⟨rfl, rfl⟩⟩, SameF.refl _, by simp, hb0⟩
      · cases hM : moduleB m
        · obtain rfl : K = 2 := by rw [← hK]; simp [distK, hB, hM]
          clear hK
          go_wp2_with (first | (go_at_call 51; refine (implValidTrain_any ps _ _ HV.out).mono ?_; rintro e w0 ⟨rfl, hb0⟩) | (go_at_call 59; refine (isModule_any _ _).mono ?_; rintro e w' ⟨rfl, rfl⟩))
          go_ret2
          exact ⟨_, [], rfl, ⟨rfl, .inl ⟨rfl, rfl⟩⟩, SameF.refl _, by simp, hb0⟩
        · exact absurd (by simp [distK, hB, hM]) h0
    exact key _ rfl

end Go.Proofs.Ytkgfepakedieaaa
