/- Trains: one behind the other. -/
import Derived.Test.YtohkaodpdckfgaaCtZf
import Derived.Lib.AppendZerosOnto
namespace Go.Proofs.Ytohkaodpdckfgaa
open Go.RowKit

def joinK (ps qs : List T3) : Int := if trainB ps && trainB qs then (if (8 : Int) < ps.length + qs.length then 3 else 0) else 1
def joinR (ps qs : List T3) : List T3 := if joinK ps qs = 0 then ps ++ qs else []
theorem joinK_ok {ps qs : List T3} (h : joinK ps qs = 0) : trainB ps = true ∧ trainB qs = true ∧ ps.length + qs.length ≤ 8 := by
  unfold joinK at h
  split at h
  · rename_i h1
    simp only [Bool.and_eq_true] at h1
    split at h
    · simp at h
    · exact ⟨h1.1, h1.2, by omega⟩
  · simp at h
theorem joinR_len (ps qs : List T3) : (joinR ps qs).length ≤ 1048576 := by
  unfold joinR
  split
  · rename_i h
    have := (joinK_ok h).2.2
    rw [List.length_append]
    omega
  · simp
theorem joinR_ok {ps qs : List T3} (hp : ∀ p ∈ ps, TOk p) (hq : ∀ p ∈ qs, TOk p) : ∀ p ∈ joinR ps qs, TOk p := by
  intro p h
  unfold joinR at h
  split at h
  · rcases List.mem_append.1 h with h | h
    · exact hp p h
    · exact hq p h
  · simp at h
theorem cellsT_app2 (a b : List T3) : cellsT (a ++ b) = cellsT a ++ cellsT b := by simp [cellsT]

set_option maxHeartbeats 2000000 in
theorem grow_any (n : Nat) (w : World) (h0 : 0 < n) (h8 : n ≤ 16) :
    Calls Try.prog 80 #[.slice none 0 0, .int .i64 (n : Int)] w fun e w' => ∃ g cap, e = .returned (.slice (some ⟨g, 0, none⟩) 0 cap) ∧ w'.ownsRow w.heap.size 59 3 (.slice (some ⟨g, 0, none⟩) 0 cap) 0 [] ∧ Below w.heap.size w w' := by
  obtain ⟨i0, hi, hz0, hz1, hz2⟩ := info_parts info_pair
  have hrz : ∀ ty, (Builtin.append_ #[26, 3] ty #[.slice none 0 0, .int .i64 (n : Int)]).run Try.prog w = _ := fun ty =>
    Lib.run_append_grow_zeros w 26 3 ty 59 i0 _ .i64 .i64 Try.underlying26 Try.underlying3 hi hz0 none 0 0 [] (run_firstCells_none w.drew i0.size 0 0 0) n h0 (by rw [hz1]; decide) (by omega) (by omega) (by rw [hz2]; omega) (growslice_fits (by omega) (by rw [hz2]; omega))
  simp only [Nat.zero_add, List.nil_append, Array.empty_append] at hrz
  obtain ⟨G, hG⟩ : ∃ G, G = grownCap w n 0 59 := ⟨_, rfl⟩
  have hGn : n ≤ G := by rw [hG]; exact grownCap_ge w _ _ _
  have hGm : G ≤ maxLen := by rw [hG]; exact grownCap_le_maxLen w n 0 59 (by unfold maxLen; omega)
  rw [← hG] at hrz
  obtain ⟨cur, hcur⟩ : ∃ cur, cur = Builtin.zeroCells (Value.cells (.agg #[.int .i16 0, .int .i16 0, .float .f32 0])) n ++ Builtin.zeroCells (Value.cells (.agg #[.int .i16 0, .int .i16 0, .float .f32 0])) (G - n) := ⟨_, rfl⟩
  have hcs : cur.size = G * 3 := by
    rw [hcur]
    simp [size_zeroCells, Value.cells]
    omega
  rw [← hcur] at hrz
  have hG63 : G ≤ 9223372036854775807 := by simpa [maxLen] using hGm
  clear hG hcur
  go_enter Try.func80, Try.ntmps80
  go_wp2_with (at_builtin; refine Lib.wpList_append_run _ rfl _ _ _ _ rfl _ _ rfl rfl _ _ (hrz _) ?_)
  go_ret
  refine ⟨_, _, rfl, ⟨rfl, .inr ⟨_, G, cur, rfl, Nat.le_refl _, ?_, Nat.zero_le _, hGm, hcs, rfl⟩⟩, by (repeat' (first | (with_reducible exact Below.refl _ _) | (with_reducible assumption) | (with_reducible refine Below.alloc ?_ ?_ _) | (with_reducible refine below_drewN ?_ _) | (with_reducible refine Below.drew ?_) | (with_reducible refine Below.setCell ?_ ?_ _) | (with_reducible exact Nat.le_refl _) | omega | (simp only [World.size_alloc, World.size_setCell, World.size_drew, World.heap_drewN]; omega) | (simp; omega)))⟩
  exact heap_alloc_new w.drew _

/-- Two trains as the arguments of one call. -/
theorem tr_slice {w : World} {v : Value} {ps : List T3} (h : Tr w v ps) (h0 : 0 < ps.length) : ∃ b off cap, v = .slice (some ⟨b, off, none⟩) ps.length cap ∧ b < w.heap.size ∧ TrAt w b off ps := by
  obtain ⟨a, cap, rfl, hn, hk, hc⟩ := h
  obtain ⟨b, off, rfl, hb, hat⟩ := hc h0
  exact ⟨b, off, cap, rfl, hb, hat⟩
theorem TrAt.belowB {w w' : World} {B b off : Nat} {ps : List T3} (h : TrAt w b off ps) (hb : b < B) (hw : Below B w w') : TrAt w' b off ps := by
  intro i p hp
  obtain ⟨c0, c1, c2⟩ := h i p hp
  exact ⟨(Below.cell hw (p := ⟨b, _, none⟩) hb).trans c0, (Below.cell hw (p := ⟨b, _, none⟩) hb).trans c1, (Below.cell hw (p := ⟨b, _, none⟩) hb).trans c2⟩

set_option maxHeartbeats 4000000 in
theorem concat_any (ps qs : List T3) (b1 o1 c1 b2 o2 c2 : Nat) (g : Nat) (w : World) (hp : TrAt w b1 o1 ps) (hq : TrAt w b2 o2 qs) (l1 : b1 < w.heap.size) (l2 : b2 < w.heap.size) (p0 : 0 < ps.length) (q0 : 0 < qs.length) (h8 : ps.length + qs.length ≤ 8)
    (hg : g < w.heap.size) (d0 : w.cell? ⟨g, 0, none⟩ = some (.slice (some ⟨b1, o1, none⟩) ps.length c1)) (d1 : w.cell? ⟨g, 1, none⟩ = some (.slice (some ⟨b2, o2, none⟩) qs.length c2)) :
    Calls Try.prog 72 #[.slice (some ⟨g, 0, none⟩) 2 2] w fun e w' => ∃ u, e = .returned u ∧ w'.ownsRow w.heap.size 59 3 u (ps ++ qs).length (cellsT (ps ++ qs)) ∧ Below w.heap.size w w' := by
  obtain ⟨i0, hi, hz0, hz1, hz2⟩ := info_parts info_pair
  have HP := Lib.hid hp
  have HQ := Lib.hid hq
  clear hp hq
  go_enter Try.func72, Try.ntmps72
  go_wp2
  go_loopw [3, 11] (fun s k wr => ∃ j : Nat, j ≤ 2 ∧ k = .int .i64 (j : Int) ∧ wr = w ∧ s = .int .i64 (if j = 0 then 0 else if j = 1 then (ps.length : Int) else (ps.length : Int) + (qs.length : Int)))
    (fun _ k _ => (2 - intOf k).toNat)
  case atStart => exact ⟨0, by omega, rfl, rfl, rfl⟩
  case round =>
    obtain ⟨j, hj, rfl, hww, rfl⟩ := hrel
    obtain rfl : w = wr := hww.symm
    rcases (show j = 0 ∨ j = 1 ∨ j = 2 by omega) with rfl | rfl | rfl
    · simp only [if_true]
      go_wp2
      exact ⟨⟨1, by omega, rfl, trivial, by simp⟩, by simp [intOf]⟩
    · simp only [Nat.one_ne_zero, if_false, if_true]
      go_wp2
      exact ⟨⟨2, by omega, rfl, trivial, by simp⟩, by simp [intOf]⟩
    · have e3 : (if (2 : Nat) = 0 then (0 : Int) else if (2 : Nat) = 1 then (ps.length : Int) else (ps.length : Int) + (qs.length : Int)) = ((ps.length + qs.length : Nat) : Int) := by simp
      rw [e3]
      go_wp2_with (go_at_call 80; refine (grow_any (ps.length + qs.length) _ (by omega) (by omega)).mono ?_; (rintro e w1 ⟨g1, cap1, rfl, ho, hb⟩; have x0 := (Below.cell hb (p := ⟨g, 0, none⟩) hg).trans d0; have x1 := (Below.cell hb (p := ⟨g, 1, none⟩) hg).trans d1))
      have HO := Lib.hid ho
      clear ho
      go_loopw [6, 27] (fun u k wr => ∃ (j : Nat) (xs : List T3), j ≤ 2 ∧ k = .int .i64 (j : Int) ∧ Hid (xs = if j = 0 then [] else if j = 1 then ps else ps ++ qs) ∧ Hid (wr.ownsRow w.heap.size 59 3 u xs.length (cellsT xs)) ∧ Below w.heap.size w wr)
        (fun _ k _ => (2 - intOf k).toNat)
      case atStart => exact ⟨0, [], by omega, rfl, Lib.hid rfl, HO, hb⟩
      case round =>
        obtain ⟨j, xs, hj, rfl, hx, hown, hb2⟩ := hrel
        have y0 := (Below.cell hb2 (p := ⟨g, 0, none⟩) hg).trans d0
        have y1 := (Below.cell hb2 (p := ⟨g, 1, none⟩) hg).trans d1
        have hs2 := hb2.size
        have hxl : xs.length ≤ 8 := by rw [hx.out]; (repeat' split) <;> (try simp only [List.length_nil, List.length_append]) <;> omega
        have hol := Lib.hid fun g hg => (hown.out.lt g hg).1
        rcases (show j = 0 ∨ j = 1 ∨ j = 2 by omega) with rfl | rfl | rfl
        · obtain rfl : xs = [] := hx.out
          go_wp2_with (at_builtin; refine wpList_append_lies _ rfl _ _ _ rfl w.heap.size 59 i0 _ 3 8 Try.underlying26 hi hz0 hz1 hz2 rfl (by decide) _ 0 _ rfl hown.out ⟨b1, o1, none⟩ ps.length c1 (cellsT ps) rfl (cellsT_len ps) (tr_news (HP.out.belowB l1 hb2)) (cellsT_one ps) p0 (by unfold maxLen; omega) (by omega) hs2 _ rfl ?_; intro g2 cap2 w2 hown2 hgrow hat hlt)
          have hb3 : Below w.heap.size w w2 := hb2.grown hgrow hs2 hol.out
          have ho2 : w2.ownsRow w.heap.size 59 3 (.slice (some ⟨g2, 0, none⟩) ps.length cap2) ps.length (cellsT ps) := by simpa [show cellsT [] = [] from rfl] using hown2
          have HO2 := Lib.hid ho2
          clear hown2 hgrow hat hlt ho2
          go_wp2
          exact ⟨⟨1, ps, by omega, rfl, Lib.hid rfl, by simpa using HO2, hb3⟩, by simp [intOf]⟩
        · obtain rfl : xs = ps := hx.out
          go_wp2_with (at_builtin; refine wpList_append_lies _ rfl _ _ _ rfl w.heap.size 59 i0 _ 3 8 Try.underlying26 hi hz0 hz1 hz2 rfl (by decide) _ xs.length _ rfl hown.out ⟨b2, o2, none⟩ qs.length c2 (cellsT qs) rfl (cellsT_len qs) (tr_news (HQ.out.belowB l2 hb2)) (cellsT_one qs) q0 (by unfold maxLen; omega) (by omega) hs2 _ rfl ?_; intro g2 cap2 w2 hown2 hgrow hat hlt)
          have hb3 : Below w.heap.size w w2 := hb2.grown hgrow hs2 hol.out
          have HO2 := Lib.hid hown2
          clear hown2 hgrow hat hlt
          go_wp2
          exact ⟨⟨2, xs ++ qs, by omega, rfl, Lib.hid rfl, Lib.hid (by rw [List.length_append, cellsT_app2]; exact HO2.out), hb3⟩, by simp [intOf]⟩
        · obtain rfl : xs = ps ++ qs := hx.out
          go_wp2
          go_ret
          exact ⟨_, rfl, hown.out, hb2⟩

set_option maxHeartbeats 2000000 in
theorem implJoin_ok (ps qs : List T3) (v u : Value) (w : World) (hv : Tr w v ps) (hu : Tr w u qs) (hB : trainB ps = true) (hC : trainB qs = true) (h8 : ps.length + qs.length ≤ 8) :
    Calls Try.prog 47 #[v, u] w fun e w' => ∃ u, e = .returned (.tuple #[u, .int .i64 0]) ∧ w'.ownsRow w.heap.size 59 3 u (ps ++ qs).length (cellsT (ps ++ qs)) ∧ Below w.heap.size w w' := by
  have l1 := ask_len2 hB
  have l2 := ask_len2 hC
  have HV := Lib.hid hv
  have HU := Lib.hid hu
  obtain ⟨b1, o1, c1, rfl, hb1, ha1⟩ := tr_slice hv (by omega)
  obtain ⟨b2, o2, c2, rfl, hb2, ha2⟩ := tr_slice hu (by omega)
  have HP := Lib.hid ha1
  have HQ := Lib.hid ha2
  clear hv hu ha1 ha2
  go_enter Try.func47, Try.ntmps47
  go_wp2_with (first | (go_at_call 18; first | (refine (implValidTrain_any ps _ _ HV.out).mono ?_; rintro e w1 ⟨rfl, hbA⟩; have HU1 := Lib.hid (HU.out.below hbA); have sA := hbA.size; clear HV) | (refine (implValidTrain_any qs _ _ HU1.out).mono ?_; rintro e w2 ⟨rfl, hbB⟩; have sB := hbB.size; have hbC := below_then hbA hbB)) | (go_at_call 72; refine (concat_any ps qs b1 o1 c1 b2 o2 c2 w2.heap.size _ ((HP.out.belowB hb1 hbC).alloc (by omega) _) ((HQ.out.belowB hb2 hbC).alloc (by omega) _) (by simp; omega) (by simp; omega) (by omega) (by omega) h8 (by simp) (by simp [World.cell?_alloc_at]) (by simp [World.cell?_alloc_at])).mono ?_; rintro e w3 ⟨u, rfl, ho, hbD⟩))
  go_ret2
  exact ⟨_, rfl, own_base ho (by simp; omega), below_then (hbC.alloc (by omega) _) hbD⟩

theorem joinK_split {ps qs : List T3} {K : Int} (h0 : joinK ps qs ≠ 0) (hK : joinK ps qs = K) : (trainB ps = false ∧ K = 1) ∨ (trainB ps = true ∧ trainB qs = false ∧ K = 1) ∨ (trainB ps = true ∧ trainB qs = true ∧ (8 : Int) < ps.length + qs.length ∧ K = 3) := by
  subst hK
  cases hB : trainB ps
  · simp [joinK, hB]
  · cases hC : trainB qs
    · simp [joinK, hB, hC]
    · by_cases h8 : (8 : Int) < ps.length + qs.length
      · simp [joinK, hB, hC, h8]
      · exact absurd (by simp [joinK, hB, hC, h8]) h0

set_option maxHeartbeats 1000000 in
theorem implJoin_any (ps qs : List T3) (v u : Value) (w : World) (hv : Tr w v ps) (hu : Tr w u qs) :
    Calls Try.prog 47 #[v, u] w (GivesT w (joinK ps qs) (joinR ps qs)) := by
  by_cases h0 : joinK ps qs = 0
  · obtain ⟨hB, hC, h8⟩ := joinK_ok h0
    refine (implJoin_ok ps qs v u w hv hu hB hC h8).mono ?_
    rintro e w' ⟨u, rfl, h1, h2⟩
    refine ⟨u, by rw [h0], ?_, h2⟩
    rw [joinR, if_pos h0]
    exact h1
  · have hR : joinR ps qs = [] := if_neg h0
    rw [hR]
    generalize hK : joinK ps qs = K
    have HV := Lib.hid hv
    have HU := Lib.hid hu
    obtain ⟨a, cap, rfl, hn, _⟩ := hv
    obtain ⟨a', cap', rfl, hn', _⟩ := hu
    clear hR
    rcases joinK_split h0 hK with ⟨hB, rfl⟩ | ⟨hB, hC, rfl⟩ | ⟨hB, hC, h8, rfl⟩
    all_goals
      clear hK h0
      have hl1 := @ask_len2 ps
      have hl2 := @ask_len2 qs
      simp only [*, true_imp_iff, Bool.false_eq_true, false_imp_iff] at hl1 hl2
      go_enter Try.func47, Try.ntmps47
      go_wp2_with (go_at_call 18; first | (refine (implValidTrain_any ps _ _ HV.out).mono ?_; rintro e w1 ⟨rfl, hbA⟩; have HU1 := Lib.hid (HU.out.below hbA); clear HV) | (refine (implValidTrain_any qs _ _ HU1.out).mono ?_; rintro e w2 ⟨rfl, hbB⟩; have hbA := below_then hbA hbB))
      go_ret2
      exact ⟨_, rfl, ⟨rfl, .inl ⟨rfl, rfl⟩⟩, hbA⟩

set_option maxHeartbeats 2000000 in
theorem specJoin_ok (ps qs : List T3) (v u : Value) (w : World) (hv : Tr w v ps) (hu : Tr w u qs) (hB : trainB ps = true) (hC : trainB qs = true) (h8 : ps.length + qs.length ≤ 8) :
    Calls Try.prog 46 #[v, u] w fun e w' => ∃ u, e = .returned (.tuple #[u, .int .i64 0]) ∧ w'.ownsRow w.heap.size 59 3 u (ps ++ qs).length (cellsT (ps ++ qs)) ∧ Below w.heap.size w w' := by
  have l1 := ask_len2 hB
  have l2 := ask_len2 hC
  have HV := Lib.hid hv
  have HU := Lib.hid hu
  obtain ⟨b1, o1, c1, rfl, hb1, ha1⟩ := tr_slice hv (by omega)
  obtain ⟨b2, o2, c2, rfl, hb2, ha2⟩ := tr_slice hu (by omega)
  have HP := Lib.hid ha1
  have HQ := Lib.hid ha2
  obtain ⟨i0, hi, hz0, hz1, hz2⟩ := info_parts info_pair
  have hown0 := Lib.hid (own_lit w w.heap.size 59 (size := 3) 0 #[] (Nat.le_refl _) (by decide) rfl)
  clear hv hu ha1 ha2
  go_enter Try.func46, Try.ntmps46
  go_wp2_with (first | (go_at_call 48; first | (refine (l01Ok_any ps _ _ HV.out).mono ?_; rintro e w1 ⟨rfl, rfl⟩; clear HV) | (refine (l01Ok_any qs _ _ HU.out).mono ?_; rintro e w2 ⟨rfl, rfl⟩)) | (at_builtin; (refine wpList_append_lies _ rfl _ _ _ rfl w.heap.size 59 i0 _ 3 8 Try.underlying26 hi hz0 hz1 hz2 rfl (by decide) _ 0 _ rfl hown0.out ⟨b1, o1, none⟩ ps.length c1 (cellsT ps) rfl (cellsT_len ps) (tr_news (HP.out.alloc hb1 _)) (cellsT_one ps) (by omega) (by unfold maxLen; omega) (by omega) (by simp) _ rfl ?_; intro g1 cap1 w1 hown1 hgrow1 hat1 hlt1; have hbA : Below w.heap.size w w1 := ((Below.refl _ _).alloc (Nat.le_refl _) _).grown hgrow1 (by simp) (fun g' hg' => (hown0.out.lt g' hg').1); have HO1 : Hid (w1.ownsRow w.heap.size 59 3 (.slice (some ⟨g1, 0, none⟩) ps.length cap1) ps.length (cellsT ps)) := Lib.hid (by simpa using hown1); have sA := hbA.size; clear hown1 hgrow1 hat1 hlt1 hown0)) | (at_builtin; (refine wpList_append_lies _ rfl _ _ _ rfl w.heap.size 59 i0 _ 3 8 Try.underlying26 hi hz0 hz1 hz2 rfl (by decide) _ ps.length _ rfl HO1.out ⟨b2, o2, none⟩ qs.length c2 (cellsT qs) rfl (cellsT_len qs) (tr_news (HQ.out.belowB hb2 hbA)) (cellsT_one qs) (by omega) (by unfold maxLen; omega) (by omega) sA _ rfl ?_; intro g2 cap2 w2 hown2 hgrow2 hat2 hlt2; have hbB : Below w.heap.size w w2 := hbA.grown hgrow2 sA (fun g' hg' => (HO1.out.lt g' hg').1); have HO2 := Lib.hid hown2; clear hown2 hgrow2 hat2 hlt2)))
  go_ret2
  refine ⟨_, rfl, ?_, hbB⟩
  have := HO2.out
  rw [List.length_append, cellsT_app2]
  exact this

set_option maxHeartbeats 1000000 in
theorem specJoin_any (ps qs : List T3) (v u : Value) (w : World) (hv : Tr w v ps) (hu : Tr w u qs) :
    Calls Try.prog 46 #[v, u] w (GivesT w (joinK ps qs) (joinR ps qs)) := by
  by_cases h0 : joinK ps qs = 0
  · obtain ⟨hB, hC, h8⟩ := joinK_ok h0
    refine (specJoin_ok ps qs v u w hv hu hB hC h8).mono ?_
    rintro e w' ⟨u, rfl, h1, h2⟩
    refine ⟨u, by rw [h0], ?_, h2⟩
    rw [joinR, if_pos h0]
    exact h1
  · have hR : joinR ps qs = [] := if_neg h0
    rw [hR]
    generalize hK : joinK ps qs = K
    have HV := Lib.hid hv
    have HU := Lib.hid hu
    obtain ⟨a, cap, rfl, hn, _⟩ := hv
    obtain ⟨a', cap', rfl, hn', _⟩ := hu
    have hown := own_lit w w.heap.size 59 (size := 3) 0 #[] (Nat.le_refl _) (by decide) rfl
    clear hR
    rcases joinK_split h0 hK with ⟨hB, rfl⟩ | ⟨hB, hC, rfl⟩ | ⟨hB, hC, h8, rfl⟩
    all_goals
      clear hK h0
      have hl1 := @ask_len2 ps
      have hl2 := @ask_len2 qs
      simp only [*, true_imp_iff, Bool.false_eq_true, false_imp_iff] at hl1 hl2
      go_enter Try.func46, Try.ntmps46
      go_wp2_with (go_at_call 48; first | (refine (l01Ok_any ps _ _ HV.out).mono ?_; rintro e w1 ⟨rfl, rfl⟩; clear HV) | (refine (l01Ok_any qs _ _ HU.out).mono ?_; rintro e w2 ⟨rfl, rfl⟩))
      go_ret2
      exact ⟨_, rfl, hown, by (repeat' (first | (with_reducible exact Below.refl _ _) | (with_reducible assumption) | (with_reducible refine Below.alloc ?_ ?_ _) | (with_reducible refine below_drewN ?_ _) | (with_reducible refine Below.drew ?_) | (with_reducible refine Below.setCell ?_ ?_ _) | (with_reducible exact Nat.le_refl _) | omega | (simp only [World.size_alloc, World.size_setCell, World.size_drew, World.heap_drewN]; omega) | (simp; omega)))⟩

end Go.Proofs.Ytohkaodpdckfgaa
