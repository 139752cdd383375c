/- Helpers for the laws of functions that hand back memory. -/
import Derived.Test.YtkgfepakedieaaaMkT
namespace Go.Proofs.Ytkgfepakedieaaa
open Go.RowKit

theorem tr_ok {w : World} {v : Value} {ps : List T3} (h : Tr w v ps) : ∀ p ∈ ps, TOk p := by
  obtain ⟨_, _, _, _, hk, _⟩ := h
  exact hk

theorem SameF.refl (xs : List Nat) : SameF xs xs := ⟨rfl, fun i x y h1 h2 => by rw [h1] at h2; cases h2; rfl⟩
theorem SameF.symm {xs ys : List Nat} (h : SameF xs ys) : SameF ys xs := ⟨h.1.symm, fun i x y h1 h2 => (h.2 i y x h2 h1).symm⟩
theorem SameF.trans {xs ys zs : List Nat} (h : SameF xs ys) (k : SameF ys zs) : SameF xs zs := by
  refine ⟨h.1.trans k.1, fun i x z h1 h2 => ?_⟩
  have hi : i < ys.length := by
    have := (List.getElem?_eq_some_iff.1 h1).1
    rw [h.1] at this
    exact this
  have h3 : ys[i]? = some ys[i] := List.getElem?_eq_getElem hi
  exact (h.2 i _ _ h1 h3).trans (k.2 i _ _ h3 h2)

/-- A function's answer: a new train and a code. -/
def GivesT (w : World) (K : Int) (R : List T3) (e : Ending) (w' : World) : Prop :=
  ∃ u, e = .returned (.tuple #[u, .int .i64 K]) ∧ w'.ownsRow w.heap.size 54 3 u R.length (cellsT R) ∧ Below w.heap.size w w'

/-- A function's answer: a new row of numbers and a code. -/
def GivesF (w : World) (K : Int) (R : List Nat) (e : Ending) (w' : World) : Prop :=
  ∃ u xs, e = .returned (.tuple #[u, .int .i64 K]) ∧ w'.ownsRow w.heap.size 23 1 u xs.length (cellsF xs) ∧ SameF xs R ∧ (∀ x ∈ xs, x < 2 ^ 32) ∧ Below w.heap.size w w'

/-- A function's answer: yes or no. -/
def GivesV (w : World) (K : Bool) (_ : Unit) (e : Ending) (w' : World) : Prop := e = .returned (.bool K) ∧ Below w.heap.size w w'
/-- A function's answer: a number and a code. -/
def GivesN (w : World) (K : Int) (R : Nat) (e : Ending) (w' : World) : Prop := ∃ r, e = .returned (.tuple #[.float .f32 r, .int .i64 K]) ∧ cn r = R ∧ r < 2 ^ 32 ∧ Below w.heap.size w w'

theorem wrap16 (n : Int) : -32768 ≤ IntKind.i16.wrap n ∧ IntKind.i16.wrap n ≤ 32767 := by
  simp [IntKind.wrap, IntKind.bits, IntKind.signed]
  split <;> omega
theorem mark_ok (n : Nat) : ∀ p ∈ (List.range n).map markP, TOk p := by
  intro p hp
  obtain ⟨i, _, rfl⟩ := List.mem_map.1 hp
  exact ⟨wrap16 _, wrap16 _, by have := int_lt (1 + 3 * (i : Int) + 1 + 1); simpa only [markP] using this⟩
theorem mark_len {w : World} {base : Nat} {e : TypeId} {v : Value} {n : Nat} (h : w.ownsRow base e 3 v n (cellsT ((List.range n).map markP))) : w.ownsRow base e 3 v ((List.range n).map markP).length (cellsT ((List.range n).map markP)) := by
  rw [List.length_map, List.length_range]
  exact h
theorem markF_len {w : World} {base : Nat} {e : TypeId} {v : Value} {n : Nat} (h : w.ownsRow base e 1 v n (cellsF ((List.range n).map markF))) : w.ownsRow base e 1 v ((List.range n).map markF).length (cellsF ((List.range n).map markF)) := by
  rw [List.length_map, List.length_range]
  exact h

set_option maxHeartbeats 1000000 in
theorem markTrain_from (ps : List T3) (v : Value) (k0 : Int) (w : World) (base : Nat) (ho : w.ownsRow base 54 3 v ps.length (cellsT ps)) (hlen : ps.length ≤ 1048576) (h0 : 0 ≤ k0) (h1 : k0 ≤ 1099511627776) :
    Calls Try.prog 14 #[v, .int .i64 k0] w fun e w' => e = .returned (.int .i64 (k0 + 3 * ps.length)) ∧ (∃ ys : List T3, ys.length = ps.length ∧ w'.ownsRow base 54 3 v ps.length (cellsT ys)) ∧ Only base v w w' := by
  have hv := own_val ho
  have HO := Lib.hid ho
  obtain ⟨a, cap, rfl⟩ : ∃ a cap, v = .slice a ps.length cap := by
    rcases hv with ⟨rfl, h0⟩ | ⟨g, cap, rfl, _⟩
    · exact ⟨none, 0, by rw [h0]⟩
    · exact ⟨_, cap, rfl⟩
  clear ho
  go_enter Try.func14, Try.ntmps14
  go_wp2
  have hO1 := HO.out
  go_loopw [1, 5] (fun k i wr => ∃ (j : Nat) (ys : List T3), j ≤ ps.length ∧ ys.length = ps.length ∧ k = .int .i64 (k0 + 3 * (j : Int)) ∧ i = .int .i64 (j : Int) ∧ wr.ownsRow base 54 3 (.slice a ps.length cap) ps.length (cellsT ys) ∧ Only base (.slice a ps.length cap) w wr)
    (fun _ i _ => (ps.length - intOf i).toNat)
  case atStart => exact ⟨0, ps, by omega, rfl, by simp, rfl, hO1, Only.refl _ _ _⟩
  case round =>
    obtain ⟨j, ys, hj, hyl, rfl, rfl, ho, hon⟩ := hrel
    clear hO1
    by_cases hlt : j < ps.length
    · rcases hv with ⟨_, h0⟩ | ⟨g, cap', hv, hg, hgs, _⟩
      · omega
      · injection hv with hv
        subst hv
        obtain ⟨y, hy⟩ : ∃ y, ys[j]? = some y := ⟨_, List.getElem?_eq_getElem (by omega)⟩
        obtain ⟨x0, x1, x2⟩ := cellsT_get _ j _ hy
        have c0 := own_cell ho x0
        have c1 := own_cell ho x1
        have c2 := own_cell ho x2
        have hf := own_free ho
        have H2 := Lib.hid ho
        have HN := Lib.hid hon
        have HY := Lib.hid hyl
        clear ho hon x0 x1 x2 hyl hy
        go_wp2
        refine ⟨⟨j + 1, ys.set j (IntKind.i16.wrap (k0 + 3 * (j : Int)), IntKind.i16.wrap (k0 + 3 * (j : Int) + 1), floatOfInt .f32 (k0 + 3 * (j : Int) + 1 + 1)), by omega, by simp [HY.out], by go_num, rfl, ?_, ((HN.out.store rfl hg _ _).store rfl hg _ _).store rfl hg _ _⟩, by simp [intOf]; omega⟩
        have hst := (((((H2.out.stored (j * 3) (.int .i16 (IntKind.i16.wrap (k0 + 3 * (j : Int))))).1).stored (j * 3 + 1) (.int .i16 (IntKind.i16.wrap (k0 + 3 * (j : Int) + 1)))).1).stored (j * 3 + 2) (.float .f32 (floatOfInt .f32 (k0 + 3 * (j : Int) + 1 + 1)))).1
        rw [cellsT_set _ _ _ (by rw [HY.out]; exact hlt)]
        exact hst
    · obtain rfl : j = ps.length := by omega
      have H2 := Lib.hid ho
      clear ho
      go_wp2
      go_ret
      exact ⟨rfl, ⟨ys, hyl, H2.out⟩, hon⟩

end Go.Proofs.Ytkgfepakedieaaa
