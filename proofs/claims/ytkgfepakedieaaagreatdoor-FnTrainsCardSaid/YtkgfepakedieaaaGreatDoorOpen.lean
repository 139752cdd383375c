/- Arguments that came in, opened to cells: plain leaves (whole numbers, float32, bools), structs of them, slices of them. -/
import Derived.Test.YtkgfepakedieaaaGreatDoorBase
import Derived.ProofKit
import Derived.OpenShut
import Derived.ShutString
import Derived.ChangeOld
import Derived.Below
import Derived.Deep.Slices
namespace Go.Proofs.YtkgfepakedieaaaGreatDoor
open Go.ChangeShapes Go.WideShapes Go.RowKit

/-- A leaf's kind. -/
inductive Kd where
  | i (k : IntKind)
  | f
  | b

/-- A cell that fits the kind. -/
def KOk : Kd → Value → Prop
  | .i k, c => ∃ n, c = .int k n ∧ (Lit.int k n).wf = true
  | .f, c => ∃ n, c = .float .f32 n ∧ n < 2 ^ 32
  | .b, c => ∃ x, c = .bool x

/-- Cells that fit the kinds, one by one. -/
def CellsOk : List Kd → List Value → Prop
  | [], cs => cs = []
  | k :: ks, cs => ∃ c r, cs = c :: r ∧ KOk k c ∧ CellsOk ks r

def kdOf (P : Program) (t : TypeId) : Option Kd :=
  match P.underlying t with
  | some (.int k) => some (.i k)
  | some (.float .f32) => some .f
  | some .bool => some .b
  | _ => none

section
variable {H : Type} {enc : TypeId × Value → H} {P : Program} {w : World} {base : Nat} {spare : Nat → Bool} {held : Bool}

theorem trod_float {fuel : Nat} {t : TypeId} {k : FloatKind} {cs : List Value} {x : DataW H × List MemPlace} (ht : P.underlying t = some (.float k)) (h : DataW.trod enc P w base spare held fuel t cs = some x) :
    ∃ n, cs = [.float k n] ∧ x = (.lit (.float k n), []) ∧ (Lit.float k n).wf = true := by
  cases fuel with
  | zero => simp [DataW.trod] at h
  | succ n =>
    unfold DataW.trod at h
    rw [ht] at h
    split at h <;> simp_all

theorem trod_leaf {fuel : Nat} {t : TypeId} {k : Kd} {cs : List Value} {x : DataW H × List MemPlace} (hk : kdOf P t = some k) (h : DataW.trod enc P w base spare held fuel t cs = some x) :
    ∃ c, cs = [c] ∧ KOk k c := by
  unfold kdOf at hk
  split at hk
  · rename_i q hq
    cases hk
    obtain ⟨n, h1, _, h3⟩ := DataW.trod_int hq h
    exact ⟨_, h1, n, rfl, h3⟩
  · rename_i hq
    cases hk
    obtain ⟨n, h1, _, h3⟩ := trod_float hq h
    exact ⟨_, h1, n, rfl, by simpa [Lit.wf] using h3⟩
  · rename_i hq
    cases hk
    obtain ⟨b, h1, _⟩ := DataW.trod_bool hq h
    exact ⟨_, h1, b, rfl⟩
  · cases hk

/-- The fields of a struct lie one behind the other, from cell 'o' on, each a leaf of its kind. -/
def leavesAt (P : Program) (ks : List Kd) (fs : List Field) (o : Nat) : Prop :=
  match ks, fs with
  | [], [] => True
  | k :: ks, f :: fs => f.offset = o ∧ P.cellsOf f.type = 1 ∧ kdOf P f.type = some k ∧ leavesAt P ks fs (o + 1)
  | _, _ => False

theorem cellsOk_of_drop : ∀ (ks : List Kd) (fs : List Field) (o : Nat) (cs : List Value), leavesAt P ks fs o → cs.length = o + ks.length →
    (∀ (i : Nat) (f : Field), fs[i]? = some f → ∃ n x, DataW.trod enc P w base spare held n f.type ((cs.drop f.offset).take (P.cellsOf f.type)) = some x) → CellsOk ks (cs.drop o)
  | [], [], o, cs, _, hl, _ => by
    show cs.drop o = []
    simp at hl
    simp [hl]
  | k :: ks, f :: fs, o, cs, ⟨h1, h2, h3, h4⟩, hl, hf => by
    obtain ⟨n, x, hx⟩ := hf 0 f rfl
    have ho : o < cs.length := by simp at hl; omega
    obtain ⟨c, hc, hk⟩ := trod_leaf h3 hx
    rw [h1, h2, List.drop_eq_getElem_cons ho] at hc
    have hc' : cs[o] = c := (List.cons.inj hc).1
    refine ⟨c, cs.drop (o + 1), by rw [List.drop_eq_getElem_cons ho, hc'], hk, ?_⟩
    exact cellsOk_of_drop ks fs (o + 1) cs h4 (by simp at hl; omega) (fun i f hi => hf (i + 1) f hi)
  | [], _ :: _, _, _, h, _, _ => h.elim
  | _ :: _, [], _, _, h, _, _ => h.elim

/-- The cells of a plain struct. -/
theorem trod_plain {fuel : Nat} {t : TypeId} {fs : Array Field} {ks : List Kd} {cs : List Value} {x : DataW H × List MemPlace} (ht : P.underlying t = some (.struct fs)) (hC : P.cellsOf t = ks.length)
    (hl : leavesAt P ks fs.toList 0) (h : DataW.trod enc P w base spare held fuel t cs = some x) : CellsOk ks cs := by
  obtain ⟨xs, n, _, _, hlen, hxl, hf⟩ := DataW.trod_struct ht h
  have := cellsOk_of_drop (enc := enc) (P := P) (w := w) (base := base) (spare := spare) (held := held) ks fs.toList 0 cs hl (by omega) (fun i f hi => by
    have hi' : fs[i]? = some f := by simpa using hi
    have hlt : i < fs.size := (Array.getElem?_eq_some_iff.1 hi').1
    have hx : xs[i]? = some (xs[i]'(by omega)) := List.getElem?_eq_getElem (by omega)
    exact ⟨n, _, (hf i f hi').trans hx⟩)
  simpa using this

theorem cellsOk_append : ∀ (ks ls : List Kd) (a b : List Value), CellsOk ks a → CellsOk ls b → CellsOk (ks ++ ls) (a ++ b)
  | [], _, a, b, h, h2 => by
    have : a = [] := h
    subst this
    exact h2
  | k :: ks, ls, a, b, ⟨c, r, ha, hk, hr⟩, h2 => by
    subst ha
    exact ⟨c, r ++ b, rfl, hk, cellsOk_append ks ls r b hr h2⟩

/-- As 'leavesAt', a field may be a plain struct. -/
def leavesIn (P : Program) (kss : List (List Kd)) (fs : List Field) (o : Nat) : Prop :=
  match kss, fs with
  | [], [] => True
  | ks :: kss, f :: fs => f.offset = o ∧ P.cellsOf f.type = ks.length ∧ 0 < ks.length ∧ ((∃ k, ks = [k] ∧ kdOf P f.type = some k) ∨ (∃ gs, P.underlying f.type = some (.struct gs) ∧ leavesAt P ks gs.toList 0)) ∧ leavesIn P kss fs (o + ks.length)
  | _, _ => False

theorem cellsIn_of_drop : ∀ (kss : List (List Kd)) (fs : List Field) (o : Nat) (cs : List Value), leavesIn P kss fs o → cs.length = o + kss.flatten.length →
    (∀ (i : Nat) (f : Field), fs[i]? = some f → ∃ n x, DataW.trod enc P w base spare held n f.type ((cs.drop f.offset).take (P.cellsOf f.type)) = some x) → CellsOk kss.flatten (cs.drop o)
  | [], [], o, cs, _, hl, _ => by
    show cs.drop o = []
    simp at hl
    simp [hl]
  | ks :: kss, f :: fs, o, cs, ⟨h1, h2, h0, h3, h4⟩, hl, hf => by
    obtain ⟨n, x, hx⟩ := hf 0 f rfl
    have hk : CellsOk ks ((cs.drop o).take ks.length) := by
      rw [h1, h2] at hx
      rcases h3 with ⟨k, rfl, h3⟩ | ⟨gs, h3, h5⟩
      · obtain ⟨c, hc, hk⟩ := trod_leaf h3 hx
        exact ⟨c, [], hc, hk, rfl⟩
      · exact trod_plain h3 h2 h5 hx
    have := cellsOk_append _ _ _ _ hk (cellsIn_of_drop kss fs (o + ks.length) cs h4 (by simp at hl ⊢; omega) (fun i f hi => hf (i + 1) f hi))
    rw [← List.drop_drop, List.take_append_drop] at this
    exact this
  | [], _ :: _, _, _, h, _, _ => h.elim
  | _ :: _, [], _, _, h, _, _ => h.elim

/-- A struct of plain structs and leaves, by value. -/
theorem open_nested {r : Reach} {b0 : Nat} {t : TypeId} {fs : Array Field} {kss : List (List Kd)} {v : Value} {d : DataW H} {p : List MemPlace} (ht : P.underlying t = some (.struct fs)) (hC : P.cellsOf t = kss.flatten.length)
    (hl : leavesIn P kss fs.toList 0) (hv : Value.okWide P w r b0 t v) (h : DataW.Trod enc P w base spare held t v d p) : ∃ cs, v = .agg cs ∧ CellsOk kss.flatten cs.toList := by
  obtain ⟨cs, rfl, _⟩ := okWide_struct ht hv
  obtain ⟨fuel, hf⟩ := h
  obtain ⟨xs, n, _, _, hlen, hxl, hfs⟩ := DataW.trod_struct ht hf
  have hlen : cs.toList.length = P.cellsOf t := hlen
  have := cellsIn_of_drop (enc := enc) (P := P) (w := w) (base := base) (spare := spare) (held := held) kss fs.toList 0 cs.toList hl (by omega) (fun i f hi => by
    have hi' : fs[i]? = some f := by simpa using hi
    have hlt : i < fs.size := (Array.getElem?_eq_some_iff.1 hi').1
    have hx : xs[i]? = some (xs[i]'(by omega)) := List.getElem?_eq_getElem (by omega)
    exact ⟨n, _, (hfs i f hi').trans hx⟩)
  exact ⟨cs, rfl, by simpa using this⟩

/-- A plain struct by value. -/
theorem open_plain {r : Reach} {b0 : Nat} {t : TypeId} {fs : Array Field} {ks : List Kd} {v : Value} {d : DataW H} {p : List MemPlace} (ht : P.underlying t = some (.struct fs)) (hC : P.cellsOf t = ks.length)
    (hl : leavesAt P ks fs.toList 0) (hv : Value.okWide P w r b0 t v) (h : DataW.Trod enc P w base spare held t v d p) : ∃ cs, v = .agg cs ∧ CellsOk ks cs.toList := by
  obtain ⟨cs, rfl, _⟩ := okWide_struct ht hv
  obtain ⟨fuel, hf⟩ := h
  exact ⟨cs, rfl, trod_plain ht hC hl hf⟩

/-- What the walk is told of a slice of elements of 'k' cells each, 'es i' being those of element i, of which E holds: if there is an element it leads to a row of cells of the heap. -/
def SliceIn (E : List Value → Prop) (k : Nat) (w : World) (v : Value) (n : Nat) (es : Nat → List Value) : Prop :=
  ∃ (a : Option Addr) (cap : Nat), v = .slice a n cap ∧ n ≤ maxLen ∧ (0 < n → ∃ b off, a = some ⟨b, off, none⟩ ∧ b < w.heap.size ∧ ∀ i, i < n → E (es i) ∧ (es i).length = k ∧ ∀ j, j < k → w.cell? ⟨b, off + (i * k + j), none⟩ = (es i)[j]?)

theorem cell_lt {w : World} {a : Addr} {v : Value} (h : w.cell? a = some v) : a.block < w.heap.size := by
  rcases Nat.lt_or_ge a.block w.heap.size with hl | hl
  · exact hl
  · have : w.heap[a.block]? = none := by simp [hl]
    simp [World.cell?, this] at h

theorem add_none (b o j : Nat) : (⟨b, o, none⟩ : Addr).add j = ⟨b, o + j, none⟩ := by
  unfold Addr.add
  split <;> simp_all

theorem open_sliceIn {r : Reach} {b0 : Nat} {t e : TypeId} {k : Nat} {E : List Value → Prop} {v : Value} {d : DataW H} {p : List MemPlace} (ht : P.underlying t = some (.slice e)) (hC : P.cellsOf e = k) (hk : 0 < k)
    (hE : ∀ n cs x, DataW.trod enc P w base spare held n e cs = some x → E cs) (hv : Value.okWide P w r b0 t v) (h : DataW.Trod enc P w base spare held t v d p) : ∃ n es, SliceIn E k w v n es := by
  obtain ⟨a0, len0, cap0, rfl⟩ := okWide_slice ht hv
  obtain ⟨fuel, hf⟩ := h
  rcases Go.Deep.open_slice ht hf with ⟨hcs, _⟩ | ⟨a, len, cap, m, n, D, Pl, hcs, hb, hl, hm, hmm, hx, hi⟩
  · simp [Value.cells] at hcs
    obtain ⟨rfl, rfl, rfl⟩ := hcs
    exact ⟨0, fun _ => [], none, 0, rfl, by simp, fun h => by omega⟩
  · simp [Value.cells] at hcs
    obtain ⟨rfl, rfl, rfl⟩ := hcs
    have hlm : len0 ≤ m := by rw [hmm]; split <;> omega
    have hall : ∀ i, i < len0 → ∃ cs', E cs' ∧ cs'.length = k ∧ ∀ j, j < k → w.cell? ((a.add (i * k)).add j) = cs'[j]? := fun i hi' => by
      obtain ⟨cs', hc, ht'⟩ := hi i (by omega)
      rw [hC] at hc
      obtain ⟨_, h1, h2⟩ := World.cells?_some hc
      exact ⟨cs', hE _ _ _ ht', h1, h2⟩
    refine ⟨len0, fun i => if hi : i < len0 then Classical.choose (hall i hi) else [], some a, cap0, rfl, by omega, fun hpos => ?_⟩
    obtain ⟨b, off, spot⟩ := a
    have hspot : spot = none := by
      obtain ⟨cs', _, h1, h2⟩ := hall 0 hpos
      have h3 := h2 0 hk
      have hx : cs'[0]? = some (cs'[0]'(by omega)) := List.getElem?_eq_getElem (by omega)
      rw [hx] at h3
      simpa [Addr.add] using World.cell?_spot h3
    subst hspot
    refine ⟨b, off, rfl, ?_, fun i hi' => ?_⟩
    · obtain ⟨cs', _, h1, h2⟩ := hall 0 hpos
      have h3 := h2 0 hk
      have hx : cs'[0]? = some (cs'[0]'(by omega)) := List.getElem?_eq_getElem (by omega)
      rw [hx] at h3
      rw [add_none, add_none] at h3
      exact cell_lt h3
    · obtain ⟨h0, h1, h2⟩ := Classical.choose_spec (hall i hi')
      simp only [hi', dif_pos]
      exact ⟨h0, h1, fun j hj => by
        have h4 : (((⟨b, off, none⟩ : Addr).add (i * k)).add j) = ⟨b, off + (i * k + j), none⟩ := by rw [add_none, add_none, Nat.add_assoc]
        rw [← h4]
        exact h2 j hj⟩
end

end Go.Proofs.YtkgfepakedieaaaGreatDoor
