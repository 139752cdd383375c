/- Rows of numbers that come in: copied, and marked from any number on. -/
import Derived.Test.YtljigmplmlhdnaaMk2
namespace Go.Proofs.Ytljigmplmlhdnaa
open Go.RowKit

theorem fs_len {w : World} {v : Value} {xs : List Nat} (h : Fs w v xs) : xs.length ≤ 9223372036854775807 := by
  obtain ⟨_, _, _, hn, _⟩ := h
  simpa [maxLen] using hn

theorem fs_of_in {w : World} {v : Value} {n : Nat} {es : Nat → List Value} (h : SliceIn (CellsOk [.f]) 1 w v n es) : ∃ xs, Fs w v xs ∧ (∀ x ∈ xs, x < 2 ^ 32) ∧ xs.length = n := by
  obtain ⟨a, cap, rfl, hn, hc⟩ := h
  have key : ∀ i, i < n → ∃ x : Nat, x < 2 ^ 32 ∧ es i = [.float .f32 x] := fun i hi => by
    obtain ⟨b, off, _, _, hall⟩ := hc (by omega)
    obtain ⟨⟨_, _, e0, ⟨x, rfl, wx⟩, rfl⟩, _, _⟩ := hall i hi
    exact ⟨x, wx, e0⟩
  let f : Nat → Nat := fun i => if hi : i < n then Classical.choose (key i hi) else 0
  have hf : ∀ i, i < n → f i < 2 ^ 32 ∧ es i = [.float .f32 (f i)] := fun i hi => by
    show (dite _ _ _) < 2 ^ 32 ∧ _
    rw [show f i = Classical.choose (key i hi) from dif_pos hi, dif_pos hi]
    exact Classical.choose_spec (key i hi)
  refine ⟨(List.range n).map f, ⟨a, cap, by simp, by simpa using hn, ?_⟩, ?_, by simp⟩
  · intro hpos
    obtain ⟨b, off, ha, hb, hall⟩ := hc (by simpa using hpos)
    refine ⟨b, off, ha, hb, fun i p hp => ?_⟩
    have hi : i < n := by
      have := (List.getElem?_eq_some_iff.1 hp).1
      simpa using this
    obtain rfl : f i = p := by simpa [hi] using hp
    obtain ⟨_, _, hcell⟩ := hall i hi
    rw [(hf i hi).2] at hcell
    have := hcell 0 (by omega)
    simpa using this
  · intro p hp
    obtain ⟨i, hi, rfl⟩ := List.mem_map.1 hp
    exact (hf i (List.mem_range.1 hi)).1

theorem fs_of_own2 {w : World} {base : Nat} {e : TypeId} {v : Value} {xs : List Nat} (h : w.ownsRow base e 1 v xs.length (cellsF xs)) (_ : ∀ x ∈ xs, x < 2 ^ 32) : Fs w v xs := fs_of_own h

theorem madeF (n : Nat) : (madeCells (Value.cells (.float .f32 0)) (n * 1)).toList = cellsF (List.replicate n 0) := by
  apply List.ext_getElem?
  intro i
  show (madeCells #[.float .f32 0] (n * 1)).toList[i]? = _
  by_cases hi : i < n
  · rw [Array.getElem?_toList]
    simp [madeCells, cellsF, hi, Nat.mod_one]
  · rw [List.getElem?_eq_none (by simp [size_madeCells]; omega), List.getElem?_eq_none (by simp [cellsF]; omega)]

theorem cellsF_get (xs : List Nat) (i x : Nat) (h : xs[i]? = some x) : (cellsF xs)[i]? = some (.float .f32 x) := by simp [cellsF, h]

theorem take_rep_setN (ps : List Nat) (j : Nat) (h : j < ps.length) (z : Nat) : ps.take (j + 1) ++ List.replicate (ps.length - (j + 1)) z = (ps.take j ++ List.replicate (ps.length - j) z).set j ps[j] := by
  apply List.ext_getElem?
  intro i
  rw [List.getElem?_set]
  by_cases he : j = i
  · subst he
    rw [if_pos rfl, if_pos (by simp; omega), List.getElem?_append_left (by simp; omega)]
    simp
  · rw [if_neg he]
    by_cases hi : i < j
    · rw [List.getElem?_append_left (by simp; omega), List.getElem?_append_left (by simp; omega)]
      simp only [List.getElem?_take]
      rw [if_pos (by omega), if_pos hi]
    · rw [List.getElem?_append_right (by simp; omega), List.getElem?_append_right (by simp; omega)]
      simp [List.getElem?_replicate]
      congr 1
      apply propext
      omega

theorem info_f32 : (Try.prog.info? 22).map (fun i => (i.zero, i.size, i.bytes)) = some (some (.float .f32 0), 1, 4) := by kernel_rfl

set_option maxHeartbeats 1000000 in
theorem toFloats_any (ps : List Nat) (v : Value) (w : World) (h : Fs w v ps) (hlen : ps.length ≤ 1048576) :
    Calls Try.prog 33 #[v] w fun e w' => ∃ g, w.heap.size ≤ g ∧ e = .returned (.slice (some ⟨g, 0, none⟩) ps.length ps.length) ∧ w'.ownsRow w.heap.size 22 1 (.slice (some ⟨g, 0, none⟩) ps.length ps.length) ps.length (cellsF ps) ∧ Below w.heap.size w w' := by
  obtain ⟨a, cap, rfl, hn, hc⟩ := h
  obtain ⟨i, hi, hz0, hz1, hz2⟩ := info_parts info_f32
  go_enter Try.func33, Try.ntmps33
  go_wp2_with (at_make; refine wpList_make_full _ rfl _ _ 42 rfl w.heap.size 22 i _ 1 Try.underlying42 hi hz0 hz1 .i64 .i64 _ _ ps.length rfl rfl rfl rfl (by rw [hz2]; omega) (by unfold maxLen; omega) (Nat.le_refl _) ?_; intro w1 hown hgr)
  rw [madeF] at hown
  have hb1 : Below w.heap.size w w1 := below_grown_none (Below.refl _ _) hgr (Nat.le_refl _)
  go_loopw [4] (fun k wr => ∃ j : Nat, j ≤ ps.length ∧ k = .int .i64 (j : Int) ∧ wr.ownsRow w.heap.size 22 1 (.slice (some ⟨w.heap.size, 0, none⟩) ps.length ps.length) ps.length (cellsF (ps.take j ++ List.replicate (ps.length - j) 0)) ∧ Below w.heap.size w wr)
    (fun k _ => (ps.length - intOf k).toNat)
  case atStart => exact ⟨0, by omega, rfl, by simpa using hown, hb1⟩
  case round =>
    obtain ⟨j, hj, rfl, ho, hb⟩ := hrel
    by_cases hlt : j < ps.length
    · obtain ⟨b, off, rfl, hbl, hat⟩ := hc (by omega)
      have hp : ps[j]? = some ps[j] := List.getElem?_eq_getElem hlt
      have d0 := (Below.cell hb (p := ⟨b, _, none⟩) hbl).trans (hat j _ hp)
      have hz : (ps.take j ++ List.replicate (ps.length - j) 0)[j]? = some 0 := by
        rw [List.getElem?_append_right (by simp; omega)]
        simp [List.getElem?_replicate]
        omega
      have e0 := own_cell ho (cellsF_get _ j 0 hz)
      have hf2 := own_free ho
      have H3 := Lib.hid ho
      clear ho hown hc hat
      go_wp2
      refine ⟨⟨j + 1, by omega, by go_num, ?_, hb.setCell (Nat.le_refl _) _⟩, by simp [intOf]; omega⟩
      have hst := (H3.out.stored j (.float .f32 ps[j])).1
      rw [take_rep_setN ps j hlt, cellsF, List.map_set]
      exact hst
    · obtain rfl : j = ps.length := by omega
      have H2 := Lib.hid ho
      clear ho hown
      go_wp2
      go_ret
      exact ⟨_, Nat.le_refl _, rfl, by simpa using H2.out, hb⟩

theorem toFloats_fs (ps : List Nat) (v : Value) (w : World) (h : Fs w v ps) (hlen : ps.length ≤ 1048576) :
    Calls Try.prog 33 #[v] w fun e w' => ∃ u, e = .returned u ∧ Fs w' u ps ∧ Below w.heap.size w w' := by
  refine (toFloats_any ps v w h hlen).mono ?_
  rintro e w' ⟨g, hg, rfl, ho, hb⟩
  exact ⟨_, rfl, fs_of_own ho, hb⟩

set_option maxHeartbeats 1000000 in
theorem markFloats_from (xs : List Nat) (v : Value) (k0 : Int) (w : World) (base : Nat) (ho : w.ownsRow base 22 1 v xs.length (cellsF xs)) (hlen : xs.length ≤ 1048576) (h0 : 0 ≤ k0) (h1 : k0 ≤ 1099511627776) :
    Calls Try.prog 26 #[v, .int .i64 k0] w fun e w' => e = .returned (.int .i64 (k0 + xs.length)) ∧ (∃ ys : List Nat, ys.length = xs.length ∧ w'.ownsRow base 22 1 v xs.length (cellsF ys)) ∧ Only base v w w' := by
  have hv := own_val ho
  have HO := Lib.hid ho
  obtain ⟨a, cap, rfl⟩ : ∃ a cap, v = .slice a xs.length cap := by
    rcases hv with ⟨rfl, h0⟩ | ⟨g, cap, rfl, _⟩
    · exact ⟨none, 0, by rw [h0]⟩
    · exact ⟨_, cap, rfl⟩
  clear ho
  go_enter Try.func26, Try.ntmps26
  go_wp2
  have hO1 := HO.out
  go_loopw [1, 5] (fun k i wr => ∃ (j : Nat) (ys : List Nat), j ≤ xs.length ∧ ys.length = xs.length ∧ k = .int .i64 (k0 + (j : Int)) ∧ i = .int .i64 (j : Int) ∧ wr.ownsRow base 22 1 (.slice a xs.length cap) xs.length (cellsF ys) ∧ Only base (.slice a xs.length cap) w wr)
    (fun _ i _ => (xs.length - intOf i).toNat)
  case atStart => exact ⟨0, xs, by omega, rfl, by simp, rfl, hO1, Only.refl _ _ _⟩
  case round =>
    obtain ⟨j, ys, hj, hyl, rfl, rfl, ho, hon⟩ := hrel
    clear hO1
    by_cases hlt : j < xs.length
    · rcases hv with ⟨_, h0⟩ | ⟨g, cap', hv, hg, hgs, _⟩
      · omega
      · injection hv with hv
        subst hv
        obtain ⟨y, hy⟩ : ∃ y, ys[j]? = some y := ⟨_, List.getElem?_eq_getElem (by omega)⟩
        have hc := own_cell ho (cellsF_get _ j _ hy)
        have hf := own_free ho
        have H2 := Lib.hid ho
        have HN := Lib.hid hon
        have HY := Lib.hid hyl
        clear ho hon hyl hy
        go_wp2
        refine ⟨⟨j + 1, ys.set j (floatOfInt .f32 (k0 + (j : Int))), by omega, by simp [HY.out], by go_num, rfl, ?_, HN.out.store rfl hg _ _⟩, by simp [intOf]; omega⟩
        have hst := (H2.out.stored j (.float .f32 (floatOfInt .f32 (k0 + (j : Int))))).1
        rw [cellsF, List.map_set]
        exact hst
    · obtain rfl : j = xs.length := by omega
      have H2 := Lib.hid ho
      clear ho
      go_wp2
      go_ret
      exact ⟨rfl, ⟨ys, hyl, H2.out⟩, hon⟩

end Go.Proofs.Ytljigmplmlhdnaa
