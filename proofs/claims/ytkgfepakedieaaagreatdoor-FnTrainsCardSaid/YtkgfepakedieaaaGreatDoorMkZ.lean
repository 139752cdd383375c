/- Trains: whether two are the same; whether one is valid (the reference model). -/
import Derived.Test.YtkgfepakedieaaaGreatDoorCtT
import Derived.Test.YtkgfepakedieaaaGreatDoorDr
import Derived.Test.YtkgfepakedieaaaGreatDoorLoZ
import Derived.Laws.Cover2
set_option linter.unusedVariables false
set_option linter.unusedSimpArgs false
namespace Go.Proofs.YtkgfepakedieaaaGreatDoor
open Go.RowKit

theorem teq_refl (a : Nat) : sameB a a = true := by simp [sameB]
theorem teq_cn {x y : Nat} (h : cn x = cn y) : sameB x y = true := by
  have hn : isNan x = isNan y := by rw [← isNan_cn x, h, isNan_cn]
  cases hx : isNan x
  · rw [cn_of_num hx, cn_of_num (by rw [← hn]; exact hx)] at h
    simp [sameB, h]
  · simp [sameB, hx, ← hn]

/-- Two trains of the same numbers. -/
def SameT (ps qs : List T3) : Prop := ps.length = qs.length ∧ ∀ (i : Nat) (p q : T3), ps[i]? = some p → qs[i]? = some q → p.1 = q.1 ∧ p.2.1 = q.2.1 ∧ sameB p.2.2 q.2.2 = true
theorem SameT.refl (ps : List T3) : SameT ps ps := ⟨rfl, fun i p q h1 h2 => by
  rw [h1] at h2
  cases h2
  exact ⟨rfl, rfl, teq_refl _⟩⟩

theorem tr_of_own {w : World} {base : Nat} {e : TypeId} {g cap : Nat} {ps : List T3} (h : w.ownsRow base e 3 (.slice (some ⟨g, 0, none⟩) ps.length cap) ps.length (cellsT ps)) (hk : ∀ p ∈ ps, TOk p) : Tr w (.slice (some ⟨g, 0, none⟩) ps.length cap) ps := by
  have hv := own_val h
  rcases hv with ⟨h1, _⟩ | ⟨g', cap', h1, _, h2, h3, h4⟩
  · cases h1
  · injection h1 with h5 _ h6
    injection h5 with h5
    injection h5 with h5
    subst h5 h6
    refine ⟨_, _, rfl, by omega, hk, fun _ => ⟨g, 0, rfl, h2, fun i p hp => ?_⟩⟩
    obtain ⟨g0, g1, g2⟩ := cellsT_get ps i p hp
    have a0 := own_cell h g0
    have a1 := own_cell h g1
    have a2 := own_cell h g2
    simpa using ⟨a0, a1, a2⟩

/-- Whether a pair is one. -/
def pairB (p : T3) : Bool := withinB p.1 6 200 && withinB p.2.1 6 200 && partB p.2.2
def trainB (ps : List T3) : Bool := withinB ps.length 1 8 && ps.all pairB

set_option maxHeartbeats 400000 in
theorem l01Teeth_any (n : Int) (w : World) :
    Calls Tryz.prog 73 #[.int .i64 n] w fun e w' => e = .returned (.bool (withinB n 6 200)) ∧ w = w' := by
  go_enter Tryz.func73, Tryz.ntmps73
  go_wp2_with (go_at_call 72; refine (l00In_any _ _ _ _).mono ?_; rintro e w' ⟨rfl, rfl⟩)
  all_goals (go_ret; exact ⟨rfl, rfl⟩)

set_option maxHeartbeats 400000 in
theorem areTeeth_any (n : Int) (w : World) :
    Calls Tryz.prog 47 #[.int .i64 n] w fun e w' => e = .returned (.bool (withinB n 6 200)) ∧ w = w' := by
  go_enter Tryz.func47, Tryz.ntmps47
  go_wp2_with (go_at_call 44; refine (within_any _ _ _ _).mono ?_; rintro e w' ⟨rfl, rfl⟩)
  all_goals (go_ret; exact ⟨rfl, rfl⟩)

set_option maxHeartbeats 1000000 in
theorem l01Ok_any (ps : List T3) (v : Value) (w : World) (hv : Tr w v ps) :
    Calls Tryz.prog 39 #[v] w fun e w' => e = .returned (.bool (trainB ps)) ∧ w = w' := by
  obtain ⟨a, cap, rfl, hn, hk, hc⟩ := hv
  have hn2 : ps.length ≤ 9223372036854775807 := by simpa [maxLen] using hn
  have HK := Lib.hid hk
  clear hk
  go_enter Tryz.func39, Tryz.ntmps39
  cases hr : withinB ps.length 1 8
  · go_wp2_with (go_at_call 72; refine (l00In_any _ _ _ _).mono ?_; rintro e w' ⟨rfl, rfl⟩)
    all_goals (go_ret; exact ⟨by simp [trainB, hr], rfl⟩)
  · go_wp2_with (go_at_call 72; refine (l00In_any _ _ _ _).mono ?_; rintro e w' ⟨rfl, rfl⟩)
    go_loopw [3] (fun k wr => ∃ j : Nat, j ≤ ps.length ∧ k = .int .i64 (j : Int) ∧ wr = w ∧ Hid ((ps.take j).all pairB = true))
      (fun k _ => (ps.length - intOf k).toNat)
    case atStart => exact ⟨0, by omega, rfl, rfl, Lib.hid rfl⟩
    case round =>
      obtain ⟨j, hj, rfl, rfl, hb⟩ := hrel
      by_cases hlt : j < ps.length
      · obtain ⟨b, off, rfl, hbl, hat⟩ := hc (by omega)
        have hp : ps[j]? = some ps[j] := List.getElem?_eq_getElem hlt
        obtain ⟨c0, c1, c2⟩ := hat j _ hp
        obtain ⟨⟨k0, k1⟩, ⟨k2, k3⟩, _⟩ := HK.out _ (List.getElem_mem hlt)
        have e1 : (ps.take (j + 1)).all pairB = pairB ps[j] := by
          rw [List.take_add_one, hp, List.all_append, hb.out]
          simp
        have e2 : pairB ps[j] = false → trainB ps = false := fun h => by
          have : ps.all pairB = false := List.all_eq_false.2 ⟨ps[j], List.getElem_mem hlt, by simp [h]⟩
          simp [trainB, this]
        clear hc hat
        go_wp2_with (first | (go_at_call 73; refine (l01Teeth_any _ _).mono ?_; rintro e w' ⟨rfl, rfl⟩) | (go_at_call 49; refine (l01Part_any _ _).mono ?_; rintro e w' ⟨rfl, rfl⟩))
        case roundEnd => exact ⟨⟨j + 1, by omega, rfl, trivial, Lib.hid (by rw [e1]; simp_all [pairB])⟩, by simp [intOf]; omega⟩
        all_goals (go_ret; exact ⟨by rw [e2 (by simp_all [pairB])]; rfl, rfl⟩)
      · obtain rfl : j = ps.length := by omega
        clear hc
        go_wp2
        go_ret
        exact ⟨by simp [trainB, hr, ← hb.out], rfl⟩

end Go.Proofs.YtkgfepakedieaaaGreatDoor

/-! Trains: whether one is valid (the program). -/
namespace Go.Proofs.YtkgfepakedieaaaGreatDoor
open Go.RowKit

set_option maxHeartbeats 400000 in
theorem badPair_any (a b : Int) (c : Nat) (ha : -32768 ≤ a ∧ a ≤ 32767) (hb : -32768 ≤ b ∧ b ≤ 32767) (w : World) :
    Calls Tryz.prog 46 #[.agg #[.int .i16 a, .int .i16 b, .float .f32 c]] w fun e w' => e = .returned (.bool (!pairB (a, b, c))) ∧ Below w.heap.size w w' := by
  obtain ⟨a1, a2⟩ := ha
  obtain ⟨b1, b2⟩ := hb
  go_enter Tryz.func46, Tryz.ntmps46
  go_wp2_with (first | (go_at_call 47; refine (areTeeth_any _ _).mono ?_; rintro e w' ⟨rfl, rfl⟩) | (go_at_call 18; refine (impl_IsPart_any _ _).mono ?_; rintro e w' ⟨rfl, rfl⟩))
  all_goals (go_ret; exact ⟨by simp_all [pairB], by (repeat' (first | (with_reducible exact Below.refl _ _) | (with_reducible assumption) | (with_reducible refine Below.alloc ?_ ?_ _) | (with_reducible refine below_drewN ?_ _) | (with_reducible refine Below.drew ?_) | (with_reducible refine Below.setCell ?_ ?_ _) | (with_reducible exact Nat.le_refl _) | omega | (simp only [World.size_alloc, World.size_setCell, World.size_drew, World.heap_drewN]; omega) | (simp; omega)))⟩)

set_option maxHeartbeats 1000000 in
theorem indexFunc_any (ps : List T3) (v : Value) (w : World) (hv : Tr w v ps) :
    Calls Tryz.prog 74 #[v, .func (Fn.func 46) #[] #[]] w fun e w' => ∃ k, e = .returned (.int .i64 k) ∧ (decide (0 ≤ k)) = !(ps.all pairB) ∧ Below w.heap.size w w' := by
  obtain ⟨a, cap, rfl, hn, hk, hc⟩ := hv
  have hn2 : ps.length ≤ 9223372036854775807 := by simpa [maxLen] using hn
  have HK := Lib.hid hk
  clear hk
  go_enter Tryz.func74, Tryz.ntmps74
  go_wp2
  go_loopw [8] (fun k wr => ∃ j : Nat, j ≤ ps.length ∧ k = .int .i64 (j : Int) ∧ Below w.heap.size w wr ∧ Hid ((ps.take j).all pairB = true))
    (fun k _ => (ps.length - intOf k).toNat)
  case atStart => exact ⟨0, by omega, rfl, Below.refl _ _, Lib.hid rfl⟩
  case round =>
    obtain ⟨j, hj, rfl, hb, hal⟩ := hrel
    by_cases hlt : j < ps.length
    · obtain ⟨b, off, rfl, hbl, hat⟩ := hc (by omega)
      have hp : ps[j]? = some ps[j] := List.getElem?_eq_getElem hlt
      obtain ⟨c0, c1, c2⟩ := hat j _ hp
      have d0 := (Below.cell hb (p := ⟨b, _, none⟩) hbl).trans c0
      have d1 := (Below.cell hb (p := ⟨b, _, none⟩) hbl).trans c1
      have d2 := (Below.cell hb (p := ⟨b, _, none⟩) hbl).trans c2
      obtain ⟨k0, k1, _⟩ := HK.out _ (List.getElem_mem hlt)
      have e1 : (ps.take (j + 1)).all pairB = pairB ps[j] := by
        rw [List.take_add_one, hp, List.all_append, hal.out]
        simp
      have e2 : pairB ps[j] = false → ps.all pairB = false := fun h => List.all_eq_false.2 ⟨ps[j], List.getElem_mem hlt, by simp [h]⟩
      clear hc hat
      cases hB : pairB ps[j]
      · go_wp2_with (go_at_call 46; refine (badPair_any _ _ _ k0 k1 _).mono ?_; (rintro e w2 ⟨rfl, hb2⟩; rw [hB]))
        go_ret
        exact ⟨_, rfl, by simp [e2 hB], below_then hb hb2⟩
      · go_wp2_with (go_at_call 46; refine (badPair_any _ _ _ k0 k1 _).mono ?_; (rintro e w2 ⟨rfl, hb2⟩; rw [hB]))
        go_roundw
        case rel => exact ⟨j + 1, by omega, by go_num, below_then hb hb2, Lib.hid (by rw [e1, hB])⟩
        case measure => simp [intOf]; omega
    · obtain rfl : j = ps.length := by omega
      clear hc
      go_wp2
      go_ret
      exact ⟨_, rfl, by simp [← hal.out], hb⟩

set_option maxHeartbeats 400000 in
theorem containsFunc_any (ps : List T3) (v : Value) (w : World) (hv : Tr w v ps) :
    Calls Tryz.prog 45 #[v, .func (Fn.func 46) #[] #[]] w fun e w' => e = .returned (.bool (!(ps.all pairB))) ∧ Below w.heap.size w w' := by
  go_enter Tryz.func45, Tryz.ntmps45
  go_wp2_with (go_at_call 74; refine (indexFunc_any ps _ _ hv).mono ?_; (rintro e w2 ⟨k, rfl, hk, hb2⟩))
  all_goals (go_ret; exact ⟨by simp_all, hb2⟩)

set_option maxHeartbeats 1000000 in
theorem implValidTrain_any (ps : List T3) (v : Value) (w : World) (hv : Tr w v ps) :
    Calls Tryz.prog 17 #[v] w fun e w' => e = .returned (.bool (trainB ps)) ∧ Below w.heap.size w w' := by
  obtain ⟨a, cap, rfl, hn, hk, hc⟩ := hv
  have hn2 : ps.length ≤ 9223372036854775807 := by simpa [maxLen] using hn
  have HK := Lib.hid hk
  clear hk
  go_enter Tryz.func17, Tryz.ntmps17
  cases hr : withinB ps.length 1 8
  · go_wp2_with (go_at_call 44; refine (within_any _ _ _ _).mono ?_; rintro e w' ⟨rfl, rfl⟩)
    all_goals (go_ret; exact ⟨by simp [trainB, hr], by (repeat' (first | (with_reducible exact Below.refl _ _) | (with_reducible assumption) | (with_reducible refine Below.alloc ?_ ?_ _) | (with_reducible refine below_drewN ?_ _) | (with_reducible refine Below.drew ?_) | (with_reducible refine Below.setCell ?_ ?_ _) | (with_reducible exact Nat.le_refl _) | omega | (simp only [World.size_alloc, World.size_setCell, World.size_drew, World.heap_drewN]; omega) | (simp; omega)))⟩)
  · have HV : Hid (Tr w (.slice a ps.length cap) ps) := Lib.hid ⟨a, cap, rfl, hn, HK.out, hc⟩
    clear hc
    go_wp2_with (first | (go_at_call 44; refine (within_any _ _ _ _).mono ?_; rintro e w' ⟨rfl, rfl⟩) | (go_at_call 45; refine (containsFunc_any ps _ _ HV.out).mono ?_; (rintro e w2 ⟨rfl, hb2⟩)))
    all_goals (go_ret; exact ⟨by simp [trainB, hr], hb2⟩)

end Go.Proofs.YtkgfepakedieaaaGreatDoor

/-! Trains: a world that has grown. -/
namespace Go.Proofs.YtkgfepakedieaaaGreatDoor
open Go.RowKit

theorem below_of_drewN {w w' : World} {n : Nat} (h : w.drewN n = w') : Below w.heap.size w w' := by
  rw [← h]
  exact below_drewN (Below.refl _ _) _

end Go.Proofs.YtkgfepakedieaaaGreatDoor

/-! Rows that the laws write marks into: what stays. Rows of numbers. -/
namespace Go.Proofs.YtkgfepakedieaaaGreatDoor
open Go.RowKit

namespace Flt
open Ieee
theorem nan_word (f : Format) (s : Bool) {r : Nat} (h : r ≤ f.infRung) : (f.read (f.word s r)).isNaN = false := by
  have hr := (rung_word f s (Nat.lt_of_le_of_lt h (infRung_lt_sign f))).1
  unfold rung at hr
  unfold Format.read
  simp only [hr]
  split
  · rfl
  · split
    · rfl
    · split
      · rfl
      · omega
theorem nearest_word (f : Format) (s : Bool) (m : Nat) (p : Int) : ∃ r, r ≤ f.infRung ∧ f.nearest s m p = f.word s r := by
  unfold Format.nearest
  split
  · exact ⟨0, Nat.zero_le _, rfl⟩
  · exact ⟨_, Nat.min_le_right _ _, rfl⟩
end Flt

theorem int_num (n : Int) : isNan (floatOfInt .f32 n) = false := by
  obtain ⟨r, hr, e⟩ := Flt.nearest_word Ieee.single (decide (n < 0)) n.natAbs 0
  rw [isNan_single]
  show (Ieee.single.read (Ieee.single.nearest (decide (n < 0)) n.natAbs 0)).isNaN = false
  rw [e]
  exact Flt.nan_word _ _ hr
theorem int_feq (n : Int) : feq .f32 (floatOfInt .f32 n) (floatOfInt .f32 n) = true := by
  have := int_num n
  unfold isNan at this
  simpa using this
theorem int_lt (n : Int) : floatOfInt .f32 n < 2 ^ 32 := by
  have := floatOfInt_wf .f32 n
  simpa [Lit.wf] using this

namespace Loose
variable {P : Program} {ops : Array Oper} {C : World → Prop} {T : FuncId → Array Value → Value → Prop} {Q : Act → Prop} {o : Oper} {rest : List Oper} {a : Act}
/-- A conversion to float64. -/
theorem cvt {x : Nat} (hw : Region.wanted o (yielded ops a.tmps) = true) (hd : ∀ w n, C w → C (w.drewN n))
    (h : ∀ w, C w → (execOp a.eval o).run P w = .ok (.value (.float .f64 (c64 x w))) (w.drewN (cdn x)))
    (k : ∀ A, Img x A → wpL P ops C T Q rest (a.put o.dst (.float .f64 A))) : wpL P ops C T Q (o :: rest) a := by
  show lo P ops C T o a _
  unfold lo
  rw [if_pos hw]
  refine ⟨fun w hc => by rw [h w hc]; exact hd _ _ hc, fun v hv => ?_⟩
  obtain ⟨w, hc, hv⟩ := hv
  rw [h w hc] at hv
  subst hv
  exact k _ (img_c64 x w)
end Loose

/-- Only the row of 'v' has turned. -/
def Only (base : Nat) (v : Value) (w w' : World) : Prop :=
  w'.heap.size = w.heap.size ∧ (∀ b, v.ownBlock ≠ some b → w'.heap[b]? = w.heap[b]?) ∧ ∀ (B : Nat) (a : World), B ≤ base → Below B a w → Below B a w'
theorem Only.refl (base : Nat) (v : Value) (w : World) : Only base v w w := ⟨rfl, fun _ _ => rfl, fun _ _ _ h => h⟩
theorem Only.store {base : Nat} {v : Value} {w w' : World} (h : Only base v w w') {g : Nat} (hg : v.ownBlock = some g) (hb : base ≤ g) (o : Nat) (u : Value) : Only base v w (w'.setCell ⟨g, o, none⟩ u) := by
  refine ⟨by rw [World.size_setCell]; exact h.1, fun b hne => ?_, fun B a hB hw => (h.2.2 B a hB hw).setCell (Nat.le_trans hB hb) _⟩
  rw [Below.heap_setCell w' ⟨g, o, none⟩ u b (fun hc => hne (by rw [hg]; exact congrArg some hc.symm))]
  exact h.2.1 b hne

/-- A row of another block stays. -/
theorem own_only {base B : Nat} {v u : Value} {w w' : World} {e : TypeId} {size n : Nat} {xs : List Value} (h : w.ownsRow base e size u n xs) (ho : Only B v w w') (hne : ∀ g, u.ownBlock = some g → v.ownBlock ≠ some g) : w'.ownsRow base e size u n xs :=
  own_of_block h fun g hg => ho.2.1 g (hne g hg)

/-- The cells of numbers; a slice of numbers in a world. -/
def cellsF (xs : List Nat) : List Value := xs.map fun x => .float .f32 x
def Fs (w : World) (v : Value) (xs : List Nat) : Prop :=
  ∃ (a : Option Addr) (cap : Nat), v = .slice a xs.length cap ∧ xs.length ≤ maxLen ∧ (0 < xs.length → ∃ b off, a = some ⟨b, off, none⟩ ∧ b < w.heap.size ∧ ∀ (i x : Nat), xs[i]? = some x → w.cell? ⟨b, off + i, none⟩ = some (.float .f32 x))

theorem fs_of_own {w : World} {base : Nat} {e : TypeId} {v : Value} {xs : List Nat} (h : w.ownsRow base e 1 v xs.length (cellsF xs)) : Fs w v xs := by
  rcases own_val h with ⟨rfl, h0⟩ | ⟨g, cap, rfl, h1, h2, h3, h4⟩
  · exact ⟨none, 0, by rw [h0], by omega, fun hp => by omega⟩
  · refine ⟨_, _, rfl, by omega, fun _ => ⟨g, 0, rfl, h2, fun i x hx => ?_⟩⟩
    have := own_cell h (j := i) (u := .float .f32 x) (by simp [cellsF, hx])
    simpa using this

theorem Fs.below {w w' : World} {v : Value} {xs : List Nat} (h : Fs w v xs) (hb : Below w.heap.size w w') : Fs w' v xs := by
  obtain ⟨a, cap, rfl, hn, hc⟩ := h
  refine ⟨a, cap, rfl, hn, fun hpos => ?_⟩
  obtain ⟨b, off, ha, hlt, hall⟩ := hc hpos
  exact ⟨b, off, ha, Nat.lt_of_lt_of_le hlt hb.size, fun i p hp => (Below.cell hb (p := ⟨b, _, none⟩) hlt).trans (hall i p hp)⟩

theorem tr_of_row {w : World} {base : Nat} {e : TypeId} {v : Value} {ps : List T3} (h : w.ownsRow base e 3 v ps.length (cellsT ps)) (hk : ∀ p ∈ ps, TOk p) : Tr w v ps := by
  rcases own_val h with ⟨rfl, h0⟩ | ⟨g, cap, rfl, h1, h2, h3, h4⟩
  · exact ⟨none, 0, by rw [h0], by omega, hk, fun hp => by omega⟩
  · exact tr_of_own h hk

/-- The marks of a train, of numbers. -/
def markP (i : Nat) : T3 := (IntKind.i16.wrap (1 + 3 * i), IntKind.i16.wrap (1 + 3 * i + 1), floatOfInt .f32 (1 + 3 * i + 1 + 1))
def markF (i : Nat) : Nat := floatOfInt .f32 (1 + i)

def markedF (xs : List Nat) (j : Nat) : List Nat := (List.range j).map markF ++ xs.drop j
theorem markedF_step (xs : List Nat) (j : Nat) (h : j < xs.length) : markedF xs (j + 1) = (markedF xs j).set j (markF j) := by
  unfold markedF
  apply List.ext_getElem?
  intro i
  rw [List.getElem?_set]
  by_cases he : j = i
  · subst he
    rw [if_pos rfl, if_pos (by simp; omega), List.getElem?_append_left (by simp)]
    simp
  · rw [if_neg he]
    by_cases hi : i < j
    · rw [List.getElem?_append_left (by simp; omega), List.getElem?_append_left (by simp; omega)]
      simp [hi, show i < j + 1 by omega]
    · rw [List.getElem?_append_right (by simp; omega), List.getElem?_append_right (by simp; omega)]
      simp only [List.length_map, List.length_range, List.getElem?_drop]
      congr 1
      omega
theorem markedF_at (xs : List Nat) (j : Nat) (h : j < xs.length) : (markedF xs j)[j]? = some xs[j] := by
  unfold markedF
  rw [List.getElem?_append_right (by simp)]
  simp

/-- Numbers that are the same, one by one. -/
def SameF (xs ys : List Nat) : Prop := xs.length = ys.length ∧ ∀ (i x y : Nat), xs[i]? = some x → ys[i]? = some y → cn x = cn y

end Go.Proofs.YtkgfepakedieaaaGreatDoor

/-! Marks on trains. -/
namespace Go.Proofs.YtkgfepakedieaaaGreatDoor
open Go.RowKit

def markedT (ps : List T3) (j : Nat) : List T3 := (List.range j).map markP ++ ps.drop j
theorem markedT_step (xs : List T3) (j : Nat) (h : j < xs.length) : markedT xs (j + 1) = (markedT xs j).set j (markP j) := by
  unfold markedT
  apply List.ext_getElem?
  intro i
  rw [List.getElem?_set]
  by_cases he : j = i
  · subst he
    rw [if_pos rfl, if_pos (by simp; omega), List.getElem?_append_left (by simp)]
    simp
  · rw [if_neg he]
    by_cases hi : i < j
    · rw [List.getElem?_append_left (by simp; omega), List.getElem?_append_left (by simp; omega)]
      simp [hi, show i < j + 1 by omega]
    · rw [List.getElem?_append_right (by simp; omega), List.getElem?_append_right (by simp; omega)]
      simp only [List.length_map, List.length_range, List.getElem?_drop]
      congr 1
      omega
theorem markedT_at (xs : List T3) (j : Nat) (h : j < xs.length) : (markedT xs j)[j]? = some xs[j] := by
  unfold markedT
  rw [List.getElem?_append_right (by simp)]
  simp
theorem markedT_len (xs : List T3) (j : Nat) (h : j ≤ xs.length) : (markedT xs j).length = xs.length := by
  simp [markedT]
  omega

end Go.Proofs.YtkgfepakedieaaaGreatDoor

/-! Helpers for the laws of functions that hand back memory. -/
namespace Go.Proofs.YtkgfepakedieaaaGreatDoor
open Go.RowKit

theorem tr_ok {w : World} {v : Value} {ps : List T3} (h : Tr w v ps) : ∀ p ∈ ps, TOk p := by
  obtain ⟨_, _, _, _, hk, _⟩ := h
  exact hk

theorem SameF.refl (xs : List Nat) : SameF xs xs := ⟨rfl, fun i x y h1 h2 => by rw [h1] at h2; cases h2; rfl⟩
theorem SameF.symm {xs ys : List Nat} (h : SameF xs ys) : SameF ys xs := ⟨h.1.symm, fun i x y h1 h2 => (h.2 i y x h2 h1).symm⟩
theorem SameF.trans {xs ys zs : List Nat} (h : SameF xs ys) (k : SameF ys zs) : SameF xs zs := by
  refine ⟨h.1.trans k.1, fun i x z h1 h2 => ?_⟩
  have hi : i < ys.length := by
    have := (List.getElem?_eq_some_iff.1 h1).1
    rw [h.1] at this
    exact this
  have h3 : ys[i]? = some ys[i] := List.getElem?_eq_getElem hi
  exact (h.2 i _ _ h1 h3).trans (k.2 i _ _ h3 h2)

/-- A function's answer: a new train and a code. -/
def GivesT (w : World) (K : Int) (R : List T3) (e : Ending) (w' : World) : Prop :=
  ∃ u, e = .returned (.tuple #[u, .int .i64 K]) ∧ w'.ownsRow w.heap.size 65 3 u R.length (cellsT R) ∧ Below w.heap.size w w'

/-- A function's answer: a new row of numbers and a code. -/
def GivesF (w : World) (K : Int) (R : List Nat) (e : Ending) (w' : World) : Prop :=
  ∃ u xs, e = .returned (.tuple #[u, .int .i64 K]) ∧ w'.ownsRow w.heap.size 27 1 u xs.length (cellsF xs) ∧ SameF xs R ∧ (∀ x ∈ xs, x < 2 ^ 32) ∧ Below w.heap.size w w'

/-- A function's answer: yes or no. -/
def GivesV (w : World) (K : Bool) (_ : Unit) (e : Ending) (w' : World) : Prop := e = .returned (.bool K) ∧ Below w.heap.size w w'
/-- A function's answer: a number and a code. -/
def GivesN (w : World) (K : Int) (R : Nat) (e : Ending) (w' : World) : Prop := ∃ r, e = .returned (.tuple #[.float .f32 r, .int .i64 K]) ∧ cn r = R ∧ r < 2 ^ 32 ∧ Below w.heap.size w w'

theorem wrap16 (n : Int) : -32768 ≤ IntKind.i16.wrap n ∧ IntKind.i16.wrap n ≤ 32767 := by
  simp [IntKind.wrap, IntKind.bits, IntKind.signed]
  split <;> omega
theorem mark_ok (n : Nat) : ∀ p ∈ (List.range n).map markP, TOk p := by
  intro p hp
  obtain ⟨i, _, rfl⟩ := List.mem_map.1 hp
  exact ⟨wrap16 _, wrap16 _, by have := int_lt (1 + 3 * (i : Int) + 1 + 1); simpa only [markP] using this⟩
theorem mark_len {w : World} {base : Nat} {e : TypeId} {v : Value} {n : Nat} (h : w.ownsRow base e 3 v n (cellsT ((List.range n).map markP))) : w.ownsRow base e 3 v ((List.range n).map markP).length (cellsT ((List.range n).map markP)) := by
  rw [List.length_map, List.length_range]
  exact h
theorem markF_len {w : World} {base : Nat} {e : TypeId} {v : Value} {n : Nat} (h : w.ownsRow base e 1 v n (cellsF ((List.range n).map markF))) : w.ownsRow base e 1 v ((List.range n).map markF).length (cellsF ((List.range n).map markF)) := by
  rw [List.length_map, List.length_range]
  exact h

end Go.Proofs.YtkgfepakedieaaaGreatDoor
