/- A byte and bytes behind it: 'append([]byte{5}, more...)'. -/
import Derived.Test.YtkgfepakedieaaaCtSf
import Derived.Deep.AppendLies
namespace Go.Proofs.Ytkgfepakedieaaa
open Go.RowKit

theorem run_append_zero (w : World) (g cap : Nat) (b : Option Addr) (ty : TypeId) : (Builtin.append_ #[42, 42] ty #[.slice (some ⟨g, 0, none⟩) 1 1, .slice b 0 cap]).run Try.prog w = .ok (.slice (some ⟨g, 0, none⟩) 1 1) w := by
  have hu := Try.underlying42
  cases b
  · simp [Builtin.append_, run_underlying hu, sizeOf, Builtin.firstCells, storeCells, go_sem]
  · simp [Builtin.append_, run_underlying hu, sizeOf, Builtin.firstCells, storeCells, loadCells, go_sem]

theorem info_u8 : (Try.prog.info? 5).map (fun i => (i.zero, i.size, i.bytes)) = some (some (.int .u8 0), 1, 1) := by kernel_rfl

theorem BytesAt.up {w : World} {g g' : Nat} {a : Option Addr} {n : Nat} (h : BytesAt w g a n) (hg : g ≤ g') : BytesAt w g' a n := by
  refine ⟨h.1, fun hn => ?_⟩
  obtain ⟨b, off, rfl, hb, hc⟩ := h.2 hn
  exact ⟨b, off, rfl, by omega, hc⟩
theorem bytes_go {w w' : World} {a : Option Addr} {n : Nat} (h : BytesAt w w.heap.size a n) (hb : Below w.heap.size w w') : BytesAt w' w'.heap.size a n := BytesAt.up (h.below hb) hb.size

theorem run_append_bytes (w : World) (b : Option Addr) (m d : Nat) (ty : TypeId) (hb : BytesAt w w.heap.size b m) (hm : m ≤ 3000) :
    ∃ (a2 : Option Addr) (c2 : Nat) (w' : World), (Builtin.append_ #[42, 42] ty #[.slice (some ⟨w.heap.size, 0, none⟩) 1 1, .slice b m d]).run Try.prog (w.alloc (.cells #[.int .u8 5] 5)) = .ok (.slice a2 (1 + m) c2) w' ∧ BytesAt w' w'.heap.size a2 (1 + m) ∧ Below w.heap.size w w' := by
  have hal : Below w.heap.size w (w.alloc (.cells #[.int .u8 5] 5)) := (Below.refl _ _).alloc (Nat.le_refl _) _
  by_cases h0 : m = 0
  · subst h0
    refine ⟨_, _, _, run_append_zero _ _ _ _ _, ⟨by decide, fun _ => ⟨w.heap.size, 0, rfl, by simp, fun i hi => ?_⟩⟩, hal⟩
    obtain rfl : i = 0 := by omega
    exact ⟨5, by rw [World.cell?_alloc_at (hn := rfl)]; rfl, by omega, by omega⟩
  · obtain ⟨bb, off, rfl, hbl, hc⟩ := hb.2 (by omega)
    obtain ⟨i0, hi, hz0, hz1, hz2⟩ := info_parts info_u8
    let f : Nat → Int := fun i => if hi : i < m then Classical.choose (hc i hi) else 0
    have hf : ∀ i, i < m → w.cell? ⟨bb, off + i, none⟩ = some (.int .u8 (f i)) ∧ 0 ≤ f i ∧ f i ≤ 255 := fun i hi => by
      have := Classical.choose_spec (hc i hi)
      rw [show f i = Classical.choose (hc i hi) from dif_pos hi]
      exact this
    have hown := own_lit w w.heap.size 5 (size := 1) 1 #[.int .u8 5] (Nat.le_refl _) (by decide) rfl
    obtain ⟨g, cap, w', hr, ho, hg, hat, hlt⟩ := run_append_lies (P := Try.prog) (w := w.alloc (.cells #[.int .u8 5] 5)) 42 ty w.heap.size 5 i0 _ 1 1 Try.underlying42 hi hz0 hz1 hz2 rfl (by decide) _ 1 _ hown ⟨bb, off, none⟩ m d ((List.range m).map fun i => Value.int .u8 (f i)) (by simp) (by
      intro j u hu
      have hj : j < m := by
        have := (List.getElem?_eq_some_iff.1 hu).1
        simpa using this
      have e : u = .int .u8 (f j) := by simpa [hj] using hu.symm
      rw [e]
      have ea : (⟨bb, off, none⟩ : Addr).add j = ⟨bb, off + j, none⟩ := by
        unfold Addr.add
        split <;> simp_all
      rw [ea]
      exact (hal.cell (p := ⟨bb, off + j, none⟩) hbl).trans (hf j hj).1) (by intro u hu; obtain ⟨i, _, rfl⟩ := List.mem_map.1 hu; rfl) (by omega) (by unfold maxLen; omega) (by omega) (by simp) _ rfl
    refine ⟨_, _, w', hr, ⟨by unfold maxLen; omega, fun _ => ⟨g, 0, rfl, hlt, fun i hi => ?_⟩⟩, hal.grown hg (by simp) (fun g hg => by cases hg; exact Nat.le_refl _)⟩
    by_cases hi0 : i = 0
    · subst hi0
      have := own_cell ho (j := 0) (u := .int .u8 5) rfl
      exact ⟨5, by simpa using this, by omega, by omega⟩
    · have hj : i - 1 < m := by omega
      have hx : ((#[Value.int .u8 5] : Array Value).toList ++ (List.range m).map fun i => Value.int .u8 (f i))[i]? = some (.int .u8 (f (i - 1))) := by
        rw [List.getElem?_append_right (by simp; omega)]
        simp [hj]
      have := own_cell ho hx
      exact ⟨f (i - 1), by simpa using this, (hf _ hj).2.1, (hf _ hj).2.2⟩

/-- At the operation. -/
theorem wpList_append_bytes {ops : Array Oper} {rest : List Oper} {o : Oper} {a : Act} {Q : Exit → Act → World → Prop} (hgd : o.guard = none) (s x : Operand)
    (ho : o.op = .call { callee := .builtin .append, args := #[s, x], argTypes := #[42, 42] }) (w : World) (b : Option Addr) (m d : Nat)
    (hs : a.eval s = .slice (some ⟨w.heap.size, 0, none⟩) 1 1) (hx : a.eval x = .slice b m d) (hb : BytesAt w w.heap.size b m) (hm : m ≤ 3000)
    (h : ∀ a2 c2 w', BytesAt w' w'.heap.size a2 (1 + m) → Below w.heap.size w w' → wpList Try.prog ops Q rest (a.put o.dst (.slice a2 (1 + m) c2)) w') : wpList Try.prog ops Q (o :: rest) a (w.alloc (.cells #[.int .u8 5] 5)) :=
  wpList_plain hgd fun _ hK => by
    obtain ⟨a2, c2, w', hr, h2, h3⟩ := run_append_bytes w b m d o.type hb hm
    unfold Oper.wp execOp
    simp only [ho, resolve, invoke, builtin, Sem.run_bind, Sem.run_pure, Result.andThen_ok, List.map_toArray, List.map_cons, List.map_nil, hs, hx, hr]
    exact hK _ _ (h _ _ _ h2 h3)

end Go.Proofs.Ytkgfepakedieaaa
