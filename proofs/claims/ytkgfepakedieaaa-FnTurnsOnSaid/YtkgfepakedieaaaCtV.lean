/- Trains: whether one is valid (the program). -/
import Derived.Test.YtkgfepakedieaaaCtU
namespace Go.Proofs.Ytkgfepakedieaaa
open Go.RowKit

set_option maxHeartbeats 400000 in
theorem badPair_any (a b : Int) (c : Nat) (ha : -32768 ≤ a ∧ a ≤ 32767) (hb : -32768 ≤ b ∧ b ≤ 32767) (w : World) :
    Calls Try.prog 76 #[.agg #[.int .i16 a, .int .i16 b, .float .f32 c]] w fun e w' => e = .returned (.bool (!pairB (a, b, c))) ∧ Below w.heap.size w w' := by
  obtain ⟨a1, a2⟩ := ha
  obtain ⟨b1, b2⟩ := hb
  go_enter Try.func76, Try.ntmps76
  go_wp2_with (first | (go_at_call 61; refine (areTeeth_any _ _).mono ?_; rintro e w' ⟨rfl, rfl⟩) | (go_at_call 57; refine (impl_IsPart_any _ _).mono ?_; rintro e w' ⟨rfl, rfl⟩))
  all_goals (go_ret; exact ⟨by simp_all [pairB], by (repeat' (first | (with_reducible exact Below.refl _ _) | (with_reducible assumption) | (with_reducible refine Below.alloc ?_ ?_ _) | (with_reducible refine below_drewN ?_ _) | (with_reducible refine Below.drew ?_) | (with_reducible refine Below.setCell ?_ ?_ _) | (with_reducible exact Nat.le_refl _) | omega | (simp only [World.size_alloc, World.size_setCell, World.size_drew, World.heap_drewN]; omega) | (simp; omega)))⟩)

set_option maxHeartbeats 1000000 in
theorem indexFunc_any (ps : List T3) (v : Value) (w : World) (hv : Tr w v ps) :
    Calls Try.prog 86 #[v, .func (Fn.func 76) #[] #[]] w fun e w' => ∃ k, e = .returned (.int .i64 k) ∧ (decide (0 ≤ k)) = !(ps.all pairB) ∧ Below w.heap.size w w' := by
  obtain ⟨a, cap, rfl, hn, hk, hc⟩ := hv
  have hn2 : ps.length ≤ 9223372036854775807 := by simpa [maxLen] using hn
  have HK := Lib.hid hk
  clear hk
  go_enter Try.func86, Try.ntmps86
  go_wp2
  go_loopw [8] (fun k wr => ∃ j : Nat, j ≤ ps.length ∧ k = .int .i64 (j : Int) ∧ Below w.heap.size w wr ∧ Hid ((ps.take j).all pairB = true))
    (fun k _ => (ps.length - intOf k).toNat)
  case atStart => exact ⟨0, by omega, rfl, Below.refl _ _, Lib.hid rfl⟩
  case round =>
    obtain ⟨j, hj, rfl, hb, hal⟩ := hrel
    by_cases hlt : j < ps.length
    · obtain ⟨b, off, rfl, hbl, hat⟩ := hc (by omega)
      have hp : ps[j]? = some ps[j] := List.getElem?_eq_getElem hlt
      obtain ⟨c0, c1, c2⟩ := hat j _ hp
      have d0 := (Below.cell hb (p := ⟨b, _, none⟩) hbl).trans c0
      have d1 := (Below.cell hb (p := ⟨b, _, none⟩) hbl).trans c1
      have d2 := (Below.cell hb (p := ⟨b, _, none⟩) hbl).trans c2
      obtain ⟨k0, k1, _⟩ := HK.out _ (List.getElem_mem hlt)
      have e1 : (ps.take (j + 1)).all pairB = pairB ps[j] := by
        rw [List.take_add_one, hp, List.all_append, hal.out]
        simp
      have e2 : pairB ps[j] = false → ps.all pairB = false := fun h => List.all_eq_false.2 ⟨ps[j], List.getElem_mem hlt, by simp [h]⟩
      clear hc hat
      cases hB : pairB ps[j]
      · go_wp2_with (go_at_call 76; refine (badPair_any _ _ _ k0 k1 _).mono ?_; (rintro e w2 ⟨rfl, hb2⟩; rw [hB]))
        go_ret
        exact ⟨_, rfl, by simp [e2 hB], below_then hb hb2⟩
      · go_wp2_with (go_at_call 76; refine (badPair_any _ _ _ k0 k1 _).mono ?_; (rintro e w2 ⟨rfl, hb2⟩; rw [hB]))
        go_roundw
        case rel => exact ⟨j + 1, by omega, by go_num, below_then hb hb2, Lib.hid (by rw [e1, hB])⟩
        case measure => simp [intOf]; omega
    · obtain rfl : j = ps.length := by omega
      clear hc
      go_wp2
      go_ret
      exact ⟨_, rfl, by simp [← hal.out], hb⟩

set_option maxHeartbeats 400000 in
theorem containsFunc_any (ps : List T3) (v : Value) (w : World) (hv : Tr w v ps) :
    Calls Try.prog 75 #[v, .func (Fn.func 76) #[] #[]] w fun e w' => e = .returned (.bool (!(ps.all pairB))) ∧ Below w.heap.size w w' := by
  go_enter Try.func75, Try.ntmps75
  go_wp2_with (go_at_call 86; refine (indexFunc_any ps _ _ hv).mono ?_; (rintro e w2 ⟨k, rfl, hk, hb2⟩))
  all_goals (go_ret; exact ⟨by simp_all, hb2⟩)

set_option maxHeartbeats 1000000 in
theorem implValidTrain_any (ps : List T3) (v : Value) (w : World) (hv : Tr w v ps) :
    Calls Try.prog 51 #[v] w fun e w' => e = .returned (.bool (trainB ps)) ∧ Below w.heap.size w w' := by
  obtain ⟨a, cap, rfl, hn, hk, hc⟩ := hv
  have hn2 : ps.length ≤ 9223372036854775807 := by simpa [maxLen] using hn
  have HK := Lib.hid hk
  clear hk
  go_enter Try.func51, Try.ntmps51
  cases hr : withinB ps.length 1 8
  · go_wp2_with (go_at_call 74; refine (within_any _ _ _ _).mono ?_; rintro e w' ⟨rfl, rfl⟩)
    all_goals (go_ret; exact ⟨by simp [trainB, hr], by (repeat' (first | (with_reducible exact Below.refl _ _) | (with_reducible assumption) | (with_reducible refine Below.alloc ?_ ?_ _) | (with_reducible refine below_drewN ?_ _) | (with_reducible refine Below.drew ?_) | (with_reducible refine Below.setCell ?_ ?_ _) | (with_reducible exact Nat.le_refl _) | omega | (simp only [World.size_alloc, World.size_setCell, World.size_drew, World.heap_drewN]; omega) | (simp; omega)))⟩)
  · have HV : Hid (Tr w (.slice a ps.length cap) ps) := Lib.hid ⟨a, cap, rfl, hn, HK.out, hc⟩
    clear hc
    go_wp2_with (first | (go_at_call 74; refine (within_any _ _ _ _).mono ?_; rintro e w' ⟨rfl, rfl⟩) | (go_at_call 75; refine (containsFunc_any ps _ _ HV.out).mono ?_; (rintro e w2 ⟨rfl, hb2⟩)))
    all_goals (go_ret; exact ⟨by simp [trainB, hr], hb2⟩)

end Go.Proofs.Ytkgfepakedieaaa
