/- Trains: whether two are the same; whether one is valid (the reference model). -/
import Derived.Test.YtkgfepakedieaaaCtT
import Derived.Test.YtkgfepakedieaaaDr
import Derived.Test.YtkgfepakedieaaaLoose2
namespace Go.Proofs.Ytkgfepakedieaaa
open Go.RowKit

theorem teq_refl (a : Nat) : sameB a a = true := by simp [sameB]
theorem teq_cn {x y : Nat} (h : cn x = cn y) : sameB x y = true := by
  have hn : isNan x = isNan y := by rw [← isNan_cn x, h, isNan_cn]
  cases hx : isNan x
  · rw [cn_of_num hx, cn_of_num (by rw [← hn]; exact hx)] at h
    simp [sameB, h]
  · simp [sameB, hx, ← hn]

/-- Two trains of the same numbers. -/
def SameT (ps qs : List T3) : Prop := ps.length = qs.length ∧ ∀ (i : Nat) (p q : T3), ps[i]? = some p → qs[i]? = some q → p.1 = q.1 ∧ p.2.1 = q.2.1 ∧ sameB p.2.2 q.2.2 = true
theorem SameT.refl (ps : List T3) : SameT ps ps := ⟨rfl, fun i p q h1 h2 => by
  rw [h1] at h2
  cases h2
  exact ⟨rfl, rfl, teq_refl _⟩⟩

theorem tr_of_own {w : World} {base : Nat} {e : TypeId} {g cap : Nat} {ps : List T3} (h : w.ownsRow base e 3 (.slice (some ⟨g, 0, none⟩) ps.length cap) ps.length (cellsT ps)) (hk : ∀ p ∈ ps, TOk p) : Tr w (.slice (some ⟨g, 0, none⟩) ps.length cap) ps := by
  have hv := own_val h
  rcases hv with ⟨h1, _⟩ | ⟨g', cap', h1, _, h2, h3, h4⟩
  · cases h1
  · injection h1 with h5 _ h6
    injection h5 with h5
    injection h5 with h5
    subst h5 h6
    refine ⟨_, _, rfl, by omega, hk, fun _ => ⟨g, 0, rfl, h2, fun i p hp => ?_⟩⟩
    obtain ⟨g0, g1, g2⟩ := cellsT_get ps i p hp
    have a0 := own_cell h g0
    have a1 := own_cell h g1
    have a2 := own_cell h g2
    simpa using ⟨a0, a1, a2⟩

set_option maxHeartbeats 1000000 in
theorem eqPair_any (a b : Int) (c : Nat) (a' b' : Int) (c' : Nat) (hc : c < 2 ^ 32) (hc' : c' < 2 ^ 32) (w : World) (h1 : a = a') (h2 : b = b') (h3 : sameB c c' = true) :
    Calls Try.prog 44 #[.agg #[.int .i16 a, .int .i16 b, .float .f32 c], .agg #[.int .i16 a', .int .i16 b', .float .f32 c']] w fun e w' => e = .returned (.bool true) ∧ Below w.heap.size w w' := by
  subst h1 h2
  go_enter Try.func44, Try.ntmps44
  go_wp2_with (go_at_call 19; refine (sameFloat_any _ _ _ _ ?_ ?_ (img_c64 _ _) (img_c64 _ _) _).mono ?_; (iterate 2 (first | assumption | skip)); rintro e w1 ⟨rfl, rfl⟩)
  all_goals (go_ret; exact ⟨by simp_all, by (repeat' (first | (with_reducible exact Below.refl _ _) | (with_reducible assumption) | (with_reducible refine Below.alloc ?_ ?_ _) | (with_reducible refine below_drewN ?_ _) | (with_reducible refine Below.drew ?_) | (with_reducible refine Below.setCell ?_ ?_ _) | (with_reducible exact Nat.le_refl _) | omega | (simp only [World.size_alloc, World.size_setCell, World.size_drew, World.heap_drewN]; omega) | (simp; omega)))⟩)

set_option maxHeartbeats 1000000 in
theorem eqTrain_any (ps qs : List T3) (v u : Value) (w : World) (hv : Tr w v ps) (hu : Tr w u qs) (hs : SameT ps qs) :
    Calls Try.prog 13 #[v, u] w fun e w' => e = .returned (.bool true) ∧ Below w.heap.size w w' := by
  obtain ⟨a, cap, rfl, hn, hk, hc⟩ := hv
  obtain ⟨a', cap', rfl, hn', hk', hc'⟩ := hu
  have hn2 : ps.length ≤ 9223372036854775807 := by simpa [maxLen] using hn
  have hl := hs.1
  rw [← hl]
  have HS := Lib.hid hs
  have HK := Lib.hid hk
  have HK' := Lib.hid hk'
  clear hs hk hk'
  go_enter Try.func13, Try.ntmps13
  go_wp2
  go_loopw [5] (fun k wr => ∃ j : Nat, j ≤ ps.length ∧ k = .int .i64 (j : Int) ∧ Below w.heap.size w wr)
    (fun k _ => (ps.length - intOf k).toNat)
  case atStart => exact ⟨0, by omega, rfl, Below.refl _ _⟩
  case round =>
    obtain ⟨j, hj, rfl, hb⟩ := hrel
    by_cases hlt : j < ps.length
    · obtain ⟨b, off, rfl, hbl, hat⟩ := hc (by omega)
      obtain ⟨b', off', rfl, hbl', hat'⟩ := hc' (by omega)
      have hp : ps[j]? = some ps[j] := List.getElem?_eq_getElem hlt
      have hq : qs[j]? = some (qs[j]'(by omega)) := List.getElem?_eq_getElem (by omega)
      have HS1 := Lib.hid (HS.out.2 j _ _ hp hq)
      have l1 := (HK.out _ (List.getElem_mem hlt)).2.2
      have l2 := (HK'.out _ (List.getElem_mem (show j < qs.length by omega))).2.2
      obtain ⟨c0, c1, c2⟩ := hat j _ hp
      obtain ⟨c0', c1', c2'⟩ := hat' j _ hq
      have d0 := (Below.cell hb (p := ⟨b, _, none⟩) hbl).trans c0
      have d1 := (Below.cell hb (p := ⟨b, _, none⟩) hbl).trans c1
      have d2 := (Below.cell hb (p := ⟨b, _, none⟩) hbl).trans c2
      have d0' := (Below.cell hb (p := ⟨b', _, none⟩) hbl').trans c0'
      have d1' := (Below.cell hb (p := ⟨b', _, none⟩) hbl').trans c1'
      have d2' := (Below.cell hb (p := ⟨b', _, none⟩) hbl').trans c2'
      have lb := Nat.lt_of_lt_of_le hbl hb.size
      have lb' := Nat.lt_of_lt_of_le hbl' hb.size
      have q0 := BelowC.cell d0 lb
      have q1 := BelowC.cell d1 lb
      have q2 := BelowC.cell d2 lb
      have q0' := BelowC.cell d0' lb'
      have q1' := BelowC.cell d1' lb'
      have q2' := BelowC.cell d2' lb'
      have hdn := @BelowC.drewN wr
      clear hc hc' hat hat'
      go_wp2
      refine Loose.wp_region (BelowC wr) (Loose.Tab [(44, fun _ v => v = .bool true)]) (by kernel_rfl) (by kernel_rfl) (BelowC.start wr) ?_
      repeat' (first | (apply Loose.det; (focus rfl); (focus (intro wq hwq; go_simp; first | done | (with_reducible rfl))); (simp only [Act.put, List.setIfInBounds_toArray, List.set_cons_zero, List.set_cons_succ])) | (apply Loose.pass; (focus rfl); (simp only [Act.put, List.setIfInBounds_toArray, List.set_cons_zero, List.set_cons_succ])) | (apply Loose.callT; (focus rfl); (focus (intro wq hwq; go_simp; first | done | (with_reducible exact ⟨rfl, rfl⟩) | (with_reducible rfl))); (focus rfl); (focus (intro w1 h1; refine (eqPair_any _ _ _ _ _ _ l1 l2 _ HS1.out.1 HS1.out.2.1 HS1.out.2.2).mono ?_; rintro e w2 ⟨rfl, h2⟩; exact ⟨_, rfl, rfl, h1.call h2⟩)); (rintro v rfl; simp only [Act.put, List.setIfInBounds_toArray, List.set_cons_zero, List.set_cons_succ])))
      refine Loose.done ?_
      intro w9 hb2
      go_wp2
      go_roundw
      case rel => exact ⟨j + 1, by omega, by go_num, hb.trans (hb2.mono hb.size)⟩
      case measure => simp [intOf]; omega
    · obtain rfl : j = ps.length := by omega
      clear hc hc'
      go_wp2
      go_ret
      exact ⟨rfl, hb⟩

/-- Whether a pair is one. -/
def pairB (p : T3) : Bool := withinB p.1 6 200 && withinB p.2.1 6 200 && partB p.2.2
def trainB (ps : List T3) : Bool := withinB ps.length 1 8 && ps.all pairB

set_option maxHeartbeats 400000 in
theorem l01Teeth_any (n : Int) (w : World) :
    Calls Try.prog 78 #[.int .i64 n] w fun e w' => e = .returned (.bool (withinB n 6 200)) ∧ w = w' := by
  go_enter Try.func78, Try.ntmps78
  go_wp2_with (go_at_call 77; refine (l00In_any _ _ _ _).mono ?_; rintro e w' ⟨rfl, rfl⟩)
  all_goals (go_ret; exact ⟨rfl, rfl⟩)

set_option maxHeartbeats 400000 in
theorem areTeeth_any (n : Int) (w : World) :
    Calls Try.prog 61 #[.int .i64 n] w fun e w' => e = .returned (.bool (withinB n 6 200)) ∧ w = w' := by
  go_enter Try.func61, Try.ntmps61
  go_wp2_with (go_at_call 74; refine (within_any _ _ _ _).mono ?_; rintro e w' ⟨rfl, rfl⟩)
  all_goals (go_ret; exact ⟨rfl, rfl⟩)

set_option maxHeartbeats 1000000 in
theorem l01Ok_any (ps : List T3) (v : Value) (w : World) (hv : Tr w v ps) :
    Calls Try.prog 52 #[v] w fun e w' => e = .returned (.bool (trainB ps)) ∧ w = w' := by
  obtain ⟨a, cap, rfl, hn, hk, hc⟩ := hv
  have hn2 : ps.length ≤ 9223372036854775807 := by simpa [maxLen] using hn
  have HK := Lib.hid hk
  clear hk
  go_enter Try.func52, Try.ntmps52
  cases hr : withinB ps.length 1 8
  · go_wp2_with (go_at_call 77; refine (l00In_any _ _ _ _).mono ?_; rintro e w' ⟨rfl, rfl⟩)
    all_goals (go_ret; exact ⟨by simp [trainB, hr], rfl⟩)
  · go_wp2_with (go_at_call 77; refine (l00In_any _ _ _ _).mono ?_; rintro e w' ⟨rfl, rfl⟩)
    go_loopw [3] (fun k wr => ∃ j : Nat, j ≤ ps.length ∧ k = .int .i64 (j : Int) ∧ wr = w ∧ Hid ((ps.take j).all pairB = true))
      (fun k _ => (ps.length - intOf k).toNat)
    case atStart => exact ⟨0, by omega, rfl, rfl, Lib.hid rfl⟩
    case round =>
      obtain ⟨j, hj, rfl, rfl, hb⟩ := hrel
      by_cases hlt : j < ps.length
      · obtain ⟨b, off, rfl, hbl, hat⟩ := hc (by omega)
        have hp : ps[j]? = some ps[j] := List.getElem?_eq_getElem hlt
        obtain ⟨c0, c1, c2⟩ := hat j _ hp
        obtain ⟨⟨k0, k1⟩, ⟨k2, k3⟩, _⟩ := HK.out _ (List.getElem_mem hlt)
        have e1 : (ps.take (j + 1)).all pairB = pairB ps[j] := by
          rw [List.take_add_one, hp, List.all_append, hb.out]
          simp
        have e2 : pairB ps[j] = false → trainB ps = false := fun h => by
          have : ps.all pairB = false := List.all_eq_false.2 ⟨ps[j], List.getElem_mem hlt, by simp [h]⟩
          simp [trainB, this]
        clear hc hat
        go_wp2_with (first | (go_at_call 78; refine (l01Teeth_any _ _).mono ?_; rintro e w' ⟨rfl, rfl⟩) | (go_at_call 79; refine (l01Part_any _ _).mono ?_; rintro e w' ⟨rfl, rfl⟩))
        case roundEnd => exact ⟨⟨j + 1, by omega, rfl, trivial, Lib.hid (by rw [e1]; simp_all [pairB])⟩, by simp [intOf]; omega⟩
        all_goals (go_ret; exact ⟨by rw [e2 (by simp_all [pairB])]; rfl, rfl⟩)
      · obtain rfl : j = ps.length := by omega
        clear hc
        go_wp2
        go_ret
        exact ⟨by simp [trainB, hr, ← hb.out], rfl⟩

end Go.Proofs.Ytkgfepakedieaaa
