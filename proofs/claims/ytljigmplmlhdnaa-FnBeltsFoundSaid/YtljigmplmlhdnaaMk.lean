/- Rows that the laws write marks into: what stays. Rows of numbers. -/
import Derived.Test.YtljigmplmlhdnaaCtX
import Derived.Laws.Cover2
namespace Go.Proofs.Ytljigmplmlhdnaa
open Go.RowKit

namespace Flt
open Ieee
theorem nan_word (f : Format) (s : Bool) {r : Nat} (h : r ≤ f.infRung) : (f.read (f.word s r)).isNaN = false := by
  have hr := (rung_word f s (Nat.lt_of_le_of_lt h (infRung_lt_sign f))).1
  unfold rung at hr
  unfold Format.read
  simp only [hr]
  split
  · rfl
  · split
    · rfl
    · split
      · rfl
      · omega
theorem nearest_word (f : Format) (s : Bool) (m : Nat) (p : Int) : ∃ r, r ≤ f.infRung ∧ f.nearest s m p = f.word s r := by
  unfold Format.nearest
  split
  · exact ⟨0, Nat.zero_le _, rfl⟩
  · exact ⟨_, Nat.min_le_right _ _, rfl⟩
end Flt

theorem int_num (n : Int) : isNan (floatOfInt .f32 n) = false := by
  obtain ⟨r, hr, e⟩ := Flt.nearest_word Ieee.single (decide (n < 0)) n.natAbs 0
  rw [isNan_single]
  show (Ieee.single.read (Ieee.single.nearest (decide (n < 0)) n.natAbs 0)).isNaN = false
  rw [e]
  exact Flt.nan_word _ _ hr
theorem int_feq (n : Int) : feq .f32 (floatOfInt .f32 n) (floatOfInt .f32 n) = true := by
  have := int_num n
  unfold isNan at this
  simpa using this
theorem int_lt (n : Int) : floatOfInt .f32 n < 2 ^ 32 := by
  have := floatOfInt_wf .f32 n
  simpa [Lit.wf] using this

namespace Loose
variable {P : Program} {ops : Array Oper} {C : World → Prop} {T : FuncId → Array Value → Value → Prop} {Q : Act → Prop} {o : Oper} {rest : List Oper} {a : Act}
/-- A conversion to float64. -/
theorem cvt {x : Nat} (hw : Region.wanted o (yielded ops a.tmps) = true) (hd : ∀ w n, C w → C (w.drewN n))
    (h : ∀ w, C w → (execOp a.eval o).run P w = .ok (.value (.float .f64 (c64 x w))) (w.drewN (cdn x)))
    (k : ∀ A, Img x A → wpL P ops C T Q rest (a.put o.dst (.float .f64 A))) : wpL P ops C T Q (o :: rest) a := by
  show lo P ops C T o a _
  unfold lo
  rw [if_pos hw]
  refine ⟨fun w hc => by rw [h w hc]; exact hd _ _ hc, fun v hv => ?_⟩
  obtain ⟨w, hc, hv⟩ := hv
  rw [h w hc] at hv
  subst hv
  exact k _ (img_c64 x w)
end Loose

/-- Only the row of 'v' has turned. -/
def Only (base : Nat) (v : Value) (w w' : World) : Prop :=
  w'.heap.size = w.heap.size ∧ (∀ b, v.ownBlock ≠ some b → w'.heap[b]? = w.heap[b]?) ∧ ∀ (B : Nat) (a : World), B ≤ base → Below B a w → Below B a w'
theorem Only.refl (base : Nat) (v : Value) (w : World) : Only base v w w := ⟨rfl, fun _ _ => rfl, fun _ _ _ h => h⟩
theorem Only.store {base : Nat} {v : Value} {w w' : World} (h : Only base v w w') {g : Nat} (hg : v.ownBlock = some g) (hb : base ≤ g) (o : Nat) (u : Value) : Only base v w (w'.setCell ⟨g, o, none⟩ u) := by
  refine ⟨by rw [World.size_setCell]; exact h.1, fun b hne => ?_, fun B a hB hw => (h.2.2 B a hB hw).setCell (Nat.le_trans hB hb) _⟩
  rw [Below.heap_setCell w' ⟨g, o, none⟩ u b (fun hc => hne (by rw [hg]; exact congrArg some hc.symm))]
  exact h.2.1 b hne

/-- A row of another block stays. -/
theorem own_only {base B : Nat} {v u : Value} {w w' : World} {e : TypeId} {size n : Nat} {xs : List Value} (h : w.ownsRow base e size u n xs) (ho : Only B v w w') (hne : ∀ g, u.ownBlock = some g → v.ownBlock ≠ some g) : w'.ownsRow base e size u n xs :=
  own_of_block h fun g hg => ho.2.1 g (hne g hg)

/-- The cells of numbers; a slice of numbers in a world. -/
def cellsF (xs : List Nat) : List Value := xs.map fun x => .float .f32 x
def Fs (w : World) (v : Value) (xs : List Nat) : Prop :=
  ∃ (a : Option Addr) (cap : Nat), v = .slice a xs.length cap ∧ xs.length ≤ maxLen ∧ (0 < xs.length → ∃ b off, a = some ⟨b, off, none⟩ ∧ b < w.heap.size ∧ ∀ (i x : Nat), xs[i]? = some x → w.cell? ⟨b, off + i, none⟩ = some (.float .f32 x))

theorem fs_of_own {w : World} {base : Nat} {e : TypeId} {v : Value} {xs : List Nat} (h : w.ownsRow base e 1 v xs.length (cellsF xs)) : Fs w v xs := by
  rcases own_val h with ⟨rfl, h0⟩ | ⟨g, cap, rfl, h1, h2, h3, h4⟩
  · exact ⟨none, 0, by rw [h0], by omega, fun hp => by omega⟩
  · refine ⟨_, _, rfl, by omega, fun _ => ⟨g, 0, rfl, h2, fun i x hx => ?_⟩⟩
    have := own_cell h (j := i) (u := .float .f32 x) (by simp [cellsF, hx])
    simpa using this

theorem Fs.below {w w' : World} {v : Value} {xs : List Nat} (h : Fs w v xs) (hb : Below w.heap.size w w') : Fs w' v xs := by
  obtain ⟨a, cap, rfl, hn, hc⟩ := h
  refine ⟨a, cap, rfl, hn, fun hpos => ?_⟩
  obtain ⟨b, off, ha, hlt, hall⟩ := hc hpos
  exact ⟨b, off, ha, Nat.lt_of_lt_of_le hlt hb.size, fun i p hp => (Below.cell hb (p := ⟨b, _, none⟩) hlt).trans (hall i p hp)⟩

theorem tr_of_row {w : World} {base : Nat} {e : TypeId} {v : Value} {ps : List T3} (h : w.ownsRow base e 3 v ps.length (cellsT ps)) (hk : ∀ p ∈ ps, TOk p) : Tr w v ps := by
  rcases own_val h with ⟨rfl, h0⟩ | ⟨g, cap, rfl, h1, h2, h3, h4⟩
  · exact ⟨none, 0, by rw [h0], by omega, hk, fun hp => by omega⟩
  · exact tr_of_own h hk

/-- The marks of a train, of numbers. -/
def markP (i : Nat) : T3 := (IntKind.i16.wrap (1 + 3 * i), IntKind.i16.wrap (1 + 3 * i + 1), floatOfInt .f32 (1 + 3 * i + 1 + 1))
def markF (i : Nat) : Nat := floatOfInt .f32 (1 + i)

def markedF (xs : List Nat) (j : Nat) : List Nat := (List.range j).map markF ++ xs.drop j
theorem markedF_step (xs : List Nat) (j : Nat) (h : j < xs.length) : markedF xs (j + 1) = (markedF xs j).set j (markF j) := by
  unfold markedF
  apply List.ext_getElem?
  intro i
  rw [List.getElem?_set]
  by_cases he : j = i
  · subst he
    rw [if_pos rfl, if_pos (by simp; omega), List.getElem?_append_left (by simp)]
    simp
  · rw [if_neg he]
    by_cases hi : i < j
    · rw [List.getElem?_append_left (by simp; omega), List.getElem?_append_left (by simp; omega)]
      simp [hi, show i < j + 1 by omega]
    · rw [List.getElem?_append_right (by simp; omega), List.getElem?_append_right (by simp; omega)]
      simp only [List.length_map, List.length_range, List.getElem?_drop]
      congr 1
      omega
theorem markedF_at (xs : List Nat) (j : Nat) (h : j < xs.length) : (markedF xs j)[j]? = some xs[j] := by
  unfold markedF
  rw [List.getElem?_append_right (by simp)]
  simp

set_option maxHeartbeats 1000000 in
theorem markFloats_any (xs : List Nat) (v : Value) (w : World) (base : Nat) (ho : w.ownsRow base 22 1 v xs.length (cellsF xs)) (hlen : xs.length ≤ 1048576) :
    Calls Try.prog 26 #[v, .int .i64 1] w fun e w' => e = .returned (.int .i64 (1 + xs.length)) ∧ w'.ownsRow base 22 1 v xs.length (cellsF ((List.range xs.length).map markF)) ∧ Only base v w w' := by
  have hv := own_val ho
  have HO := Lib.hid ho
  obtain ⟨a, cap, rfl⟩ : ∃ a cap, v = .slice a xs.length cap := by
    rcases hv with ⟨rfl, h0⟩ | ⟨g, cap, rfl, _⟩
    · exact ⟨none, 0, by rw [h0]⟩
    · exact ⟨_, cap, rfl⟩
  clear ho
  go_enter Try.func26, Try.ntmps26
  go_wp2
  have hO1 := HO.out
  go_loopw [1, 5] (fun k i wr => ∃ j : Nat, j ≤ xs.length ∧ k = .int .i64 (1 + (j : Int)) ∧ i = .int .i64 (j : Int) ∧ wr.ownsRow base 22 1 (.slice a xs.length cap) xs.length (cellsF (markedF xs j)) ∧ Only base (.slice a xs.length cap) w wr)
    (fun _ i _ => (xs.length - intOf i).toNat)
  case atStart => exact ⟨0, by omega, rfl, rfl, hO1, Only.refl _ _ _⟩
  case round =>
    obtain ⟨j, hj, rfl, rfl, ho, hon⟩ := hrel
    clear hO1
    by_cases hlt : j < xs.length
    · rcases hv with ⟨_, h0⟩ | ⟨g, cap', hv, hg, hgs, _⟩
      · omega
      · injection hv with hv
        subst hv
        have hc := own_cell ho (j := j) (u := .float .f32 xs[j]) (by simp [cellsF, markedF_at xs j hlt])
        have hf := own_free ho
        have H2 := Lib.hid ho
        have HN := Lib.hid hon
        clear ho hon
        go_wp2
        refine ⟨⟨j + 1, by omega, by go_num, rfl, ?_, HN.out.store rfl hg _ _⟩, by simp [intOf]; omega⟩
        have hst := (H2.out.stored j (.float .f32 (markF j))).1
        rw [markedF_step xs j hlt, cellsF, List.map_set]
        exact hst
    · obtain rfl : j = xs.length := by omega
      have H2 := Lib.hid ho
      clear ho
      go_wp2
      go_ret
      exact ⟨rfl, by simpa [markedF] using H2.out, hon⟩

set_option maxHeartbeats 1000000 in
theorem heldFloats_any (n : Nat) (v : Value) (w : World) (h : Fs w v ((List.range n).map markF)) (hlen : n ≤ 1048576) :
    Calls Try.prog 27 #[v, .int .i64 1] w fun e w' => e = .returned (.int .i64 (1 + n)) ∧ w = w' := by
  obtain ⟨a, cap, rfl, hn, hc⟩ := h
  rw [List.length_map, List.length_range] at *
  go_enter Try.func27, Try.ntmps27
  go_wp2
  go_loopw [1, 5] (fun k i wr => ∃ j : Nat, j ≤ n ∧ k = .int .i64 (1 + (j : Int)) ∧ i = .int .i64 (j : Int) ∧ wr = w)
    (fun _ i _ => (n - intOf i).toNat)
  case atStart => exact ⟨0, by omega, rfl, rfl, rfl⟩
  case round =>
    obtain ⟨j, hj, rfl, rfl, rfl⟩ := hrel
    by_cases hlt : j < n
    · obtain ⟨b, off, rfl, hbl, hat⟩ := hc (by omega)
      have hcell := hat j (markF j) (by simp [hlt])
      have hq : feq .f32 (markF j) (floatOfInt .f32 (1 + (j : Int))) = true := int_feq _
      have hq2 : feq .f32 (floatOfInt .f32 (1 + (j : Int))) (floatOfInt .f32 (1 + (j : Int))) = true := int_feq _
      have hcell2 : wr.cell? ⟨b, off + j, none⟩ = some (.float .f32 (floatOfInt .f32 (1 + (j : Int)))) := hcell
      clear hc hat hcell hq
      go_wp2
      exact ⟨⟨j + 1, by omega, by go_num, rfl, trivial⟩, by simp [intOf]; omega⟩
    · obtain rfl : j = n := by omega
      clear hc
      go_wp2
      go_ret
      exact ⟨rfl, rfl⟩

/-- Numbers that are the same, one by one. -/
def SameF (xs ys : List Nat) : Prop := xs.length = ys.length ∧ ∀ (i x y : Nat), xs[i]? = some x → ys[i]? = some y → cn x = cn y

set_option maxHeartbeats 1000000 in
theorem eqFloats_any (xs ys : List Nat) (v u : Value) (w : World) (hv : Fs w v xs) (hu : Fs w u ys) (hs : SameF xs ys) (hx : ∀ x ∈ xs, x < 2 ^ 32) (hy : ∀ y ∈ ys, y < 2 ^ 32) :
    Calls Try.prog 24 #[v, u] w fun e w' => e = .returned (.bool true) ∧ Below w.heap.size w w' := by
  obtain ⟨a, cap, rfl, hn, hc⟩ := hv
  obtain ⟨a', cap', rfl, hn', hc'⟩ := hu
  have hn2 : xs.length ≤ 9223372036854775807 := by simpa [maxLen] using hn
  have hl := hs.1
  rw [← hl]
  have HS := Lib.hid hs
  have HX := Lib.hid hx
  have HY := Lib.hid hy
  clear hs hx hy
  go_enter Try.func24, Try.ntmps24
  go_wp2
  go_loopw [5] (fun k wr => ∃ j : Nat, j ≤ xs.length ∧ k = .int .i64 (j : Int) ∧ Below w.heap.size w wr)
    (fun k _ => (xs.length - intOf k).toNat)
  case atStart => exact ⟨0, by omega, rfl, Below.refl _ _⟩
  case round =>
    obtain ⟨j, hj, rfl, hb⟩ := hrel
    by_cases hlt : j < xs.length
    · obtain ⟨b, off, rfl, hbl, hat⟩ := hc (by omega)
      obtain ⟨b', off', rfl, hbl', hat'⟩ := hc' (by omega)
      have hp : xs[j]? = some xs[j] := List.getElem?_eq_getElem hlt
      have hq : ys[j]? = some (ys[j]'(by omega)) := List.getElem?_eq_getElem (by omega)
      have hse := teq_cn (HS.out.2 j _ _ hp hq)
      have l1 := HX.out _ (List.getElem_mem hlt)
      have l2 := HY.out _ (List.getElem_mem (show j < ys.length by omega))
      have d0 := (Below.cell hb (p := ⟨b, _, none⟩) hbl).trans (hat j _ hp)
      have d0' := (Below.cell hb (p := ⟨b', _, none⟩) hbl').trans (hat' j _ hq)
      clear hc hc' hat hat'
      have lb := Nat.lt_of_lt_of_le hbl hb.size
      have lb' := Nat.lt_of_lt_of_le hbl' hb.size
      have q0 := BelowC.cell d0 lb
      have q0' := BelowC.cell d0' lb'
      have hdn := @BelowC.drewN wr
      go_wp2
      refine Loose.wp_region (BelowC wr) (Loose.Tab [(13, fun _ v => v = .bool true)]) (by kernel_rfl) (by kernel_rfl) (BelowC.start wr) ?_
      repeat (apply Loose.det; (focus rfl); (focus (intro wq hwq; go_simp; first | done | (with_reducible rfl))); (simp only [Act.put, List.setIfInBounds_toArray, List.set_cons_zero, List.set_cons_succ]))
      (apply Loose.cvt (hd := hdn); (focus rfl); (focus (intro wq hwq; go_simp; first | done | (with_reducible exact ⟨rfl, rfl⟩) | (with_reducible rfl))); (rintro A1 hA1; simp only [Act.put, List.setIfInBounds_toArray, List.set_cons_zero, List.set_cons_succ]))
      repeat (apply Loose.det; (focus rfl); (focus (intro wq hwq; go_simp; first | done | (with_reducible rfl))); (simp only [Act.put, List.setIfInBounds_toArray, List.set_cons_zero, List.set_cons_succ]))
      (apply Loose.cvt (hd := hdn); (focus rfl); (focus (intro wq hwq; go_simp; first | done | (with_reducible exact ⟨rfl, rfl⟩) | (with_reducible rfl))); (rintro A2 hA2; simp only [Act.put, List.setIfInBounds_toArray, List.set_cons_zero, List.set_cons_succ]))
      (apply Loose.callT; (focus rfl); (focus (intro wq hwq; go_simp; first | done | (with_reducible exact ⟨rfl, rfl⟩) | (with_reducible rfl))); (focus rfl); (focus (intro w1 h1; refine (sameFloat_any _ _ _ _ l1 l2 hA1 hA2 _).mono ?_; rintro e w2 ⟨rfl, rfl⟩; exact ⟨_, rfl, by rw [hse], h1⟩)); (rintro v rfl; simp only [Act.put, List.setIfInBounds_toArray, List.set_cons_zero, List.set_cons_succ]))
      repeat (apply Loose.det; (focus rfl); (focus (intro wq hwq; go_simp; first | done | (with_reducible rfl))); (simp only [Act.put, List.setIfInBounds_toArray, List.set_cons_zero, List.set_cons_succ]))
      refine Loose.done ?_
      intro w9 hb2
      go_wp2
      exact ⟨⟨j + 1, by omega, rfl, hb.trans (hb2.out.mono hb.size)⟩, by simp [intOf]; omega⟩
    · obtain rfl : j = xs.length := by omega
      clear hc hc'
      go_wp2
      go_ret
      exact ⟨rfl, hb⟩

end Go.Proofs.Ytljigmplmlhdnaa
