/- Regions that draw their order and end in operations whose value hangs on the world (an append): what stands ahead of these in any order (Loose), then the tail. -/
import Derived.Test.YtkgfepakedieaaaGreatDoorLoZ
namespace Go.Proofs.YtkgfepakedieaaaGreatDoor.Loose
open Go

def fillT (m : Nat) (L : Array Bool) : Array Bool := L.mapIdx fun i b => b || decide (m ≤ i)

theorem fillT_getD (m : Nat) (L : Array Bool) (j : Nat) (d : Bool) : (fillT m L).getD j d = if j < L.size then (L.getD j d || decide (m ≤ j)) else d := by
  unfold fillT
  by_cases h : j < L.size
  · simp [h]
  · simp [h]
theorem fillT_set (m : Nat) (L : Array Bool) (i : Nat) : (fillT m L).setIfInBounds i true = fillT m (L.setIfInBounds i true) := by
  unfold fillT
  apply Array.ext
  · simp
  · intro j h1 h2
    simp [Array.getElem_setIfInBounds]

/-- On what an operation waits. -/
def afters (md : Region.Mode) (ops : Array Oper) (i : Nat) : List Nat :=
  match ops[i]? with
  | none => []
  | some o => (o.after.toList.filter fun e => Region.binds md e).map (·.on)
def needs (md : Region.Mode) (ops : Array Oper) : Nat → List Nat → List Nat
  | 0, xs => xs
  | k + 1, xs => needs md ops k (xs ++ xs.flatMap (afters md ops)).eraseDups

theorem mem_afters {md : Region.Mode} {ops : Array Oper} {i j : Nat} : j ∈ afters md ops i ↔ ∃ o, ops[i]? = some o ∧ ∃ e ∈ o.after, Region.binds md e = true ∧ e.on = j := by
  unfold afters
  cases h : ops[i]? with
  | none => simp
  | some o => simp [List.mem_map, List.mem_filter, and_assoc]

def closedT (md : Region.Mode) (ops : Array Oper) (L : Array Bool) : Prop := ∀ i, L.getD i false = true → ∀ j ∈ afters md ops i, L.getD j false = true

theorem needs_listed {md : Region.Mode} {ops : Array Oper} {L : Array Bool} (hc : closedT md ops L) : ∀ (k : Nat) (xs : List Nat), (∀ x ∈ xs, L.getD x false = true) → ∀ x ∈ needs md ops k xs, L.getD x false = true
  | 0, xs, h, x, hx => h x hx
  | k + 1, xs, h, x, hx => by
    refine needs_listed hc k _ (fun y hy => ?_) x hx
    rw [List.mem_eraseDups, List.mem_append, List.mem_flatMap] at hy
    rcases hy with hy | ⟨i, hi, hy⟩
    · exact h y hy
    · exact hc i (h i hi) y hy

def tailB (md : Region.Mode) (ops : Array Oper) (s m : Nat) : Bool :=
  decide (m < ops.size) && (List.range ops.size).all (fun i => (afters md ops i).all fun j => decide (j < i)) &&
  (List.range m).all (fun p => decide (p < s) || (needs md ops ops.size (afters md ops m)).contains p) &&
  (List.range ops.size).all (fun j => decide (j ≤ m) || (afters md ops j).any fun i => decide (m ≤ i))

/-- All that stands ahead of the tail is listed. -/
def preT (ops : Array Oper) (m : Nat) : Array Bool := ((List.range ops.size).map fun i => decide (i < m)).toArray

section
variable {P : Program} {ops : Array Oper} {md : Region.Mode} {C : World → Prop} {T : FuncId → Array Value → Value → Prop}

theorem ready_iff {j : Nat} {L : Array Bool} : j ∈ Region.ready md ops L ↔ L.getD j true = false ∧ (∃ o, ops[j]? = some o) ∧ ∀ i ∈ afters md ops j, L.getD i false = true := by
  rw [mem_ready]
  constructor
  · rintro ⟨h0, o, ho, h⟩
    refine ⟨h0, ⟨o, ho⟩, fun i hi => ?_⟩
    obtain ⟨o', ho', e, he, hb, rfl⟩ := mem_afters.1 hi
    rw [ho] at ho'
    cases ho'
    exact h e he hb
  · rintro ⟨h0, ⟨o, ho⟩, h⟩
    exact ⟨h0, o, ho, fun e he hb => h _ (mem_afters.2 ⟨o, ho, e, he, hb, rfl⟩)⟩

theorem lt_of_unlisted {L : Array Bool} {j : Nat} (h : L.getD j true = false) : j < L.size := by
  rcases Nat.lt_or_ge j L.size with h' | h'
  · exact h'
  · simp [Array.getElem?_eq_none h'] at h
theorem unlisted_false {L : Array Bool} {j : Nat} (h : L.getD j true = false) : L.getD j false = false := by
  have := lt_of_unlisted h
  simp [this] at h ⊢
  exact h
theorem listed_or {L : Array Bool} {j : Nat} (hj : j < L.size) : L.getD j true = false ∨ L.getD j false = true := by
  simp [hj]

theorem wpAny_more {Q : Exit → Act → World → Prop} : ∀ (r : Nat) (L : Array Bool) (a : Act) (w : World), wpAny P md ops Q r L a w → wpAny P md ops Q (r + 1) L a w
  | 0, L, a, w, h => ⟨fun _ => h.2, fun i hi => by rw [h.1] at hi; cases hi⟩
  | r + 1, L, a, w, h => ⟨h.1, fun i hi => wpOp_mono (fun a w => wpAny_more r _ a w) (h.2 i hi)⟩
theorem wpAny_plus {Q : Exit → Act → World → Prop} (r : Nat) (L : Array Bool) (a : Act) (w : World) (h : wpAny P md ops Q r L a w) : ∀ k, wpAny P md ops Q (k + r) L a w
  | 0 => by rw [Nat.zero_add]; exact h
  | k + 1 => by rw [Nat.add_right_comm]; exact wpAny_more _ _ _ _ (wpAny_plus r L a w h k)

theorem any_tail {Q : Act → Prop} {Q' : Exit → Act → World → Prop} {s m r : Nat} (hB : tailB md ops s m = true) (hQ : ∀ a w, C w → Q a → wpAny P md ops Q' r (preT ops m) a w) :
    ∀ (k : Nat) (L : Array Bool) (a : Act) (w : World), L.size = ops.size → closedT md ops L → (∀ j, m ≤ j → j < ops.size → L.getD j true = false) → (∀ j, j < s → L.getD j false = true) → C w → wpAnyL P ops md C T Q k (fillT m L) a → wpAny P md ops Q' (k + r) L a w := by
  unfold tailB at hB
  simp only [Bool.and_eq_true, decide_eq_true_eq, List.all_eq_true, List.mem_range, List.contains_iff_mem, Bool.or_eq_true, List.any_eq_true] at hB
  obtain ⟨⟨⟨hms, hfw⟩, hneed⟩, htail⟩ := hB
  have facts : ∀ L : Array Bool, L.size = ops.size → (∀ j, m ≤ j → j < ops.size → L.getD j true = false) → (∀ j, j ∈ Region.ready md ops (fillT m L) ↔ j < m ∧ j ∈ Region.ready md ops L) := by
    intro L hs ht j
    rw [ready_iff, ready_iff]
    constructor
    · rintro ⟨h0, ho, h⟩
      have hj := lt_of_unlisted h0
      have hj' : j < L.size := by simpa [fillT] using hj
      rw [fillT_getD, if_pos hj'] at h0
      simp only [Bool.or_eq_false_iff, decide_eq_false_iff_not] at h0
      refine ⟨by omega, h0.1, ho, fun i hi => ?_⟩
      have h1 := h i hi
      have h2 := hfw j (by omega) i hi
      rw [fillT_getD, if_pos (by omega)] at h1
      simp only [Bool.or_eq_true, decide_eq_true_eq] at h1
      rcases h1 with h1 | h1
      · exact h1
      · omega
    · rintro ⟨hj, h0, ho, h⟩
      refine ⟨?_, ho, fun i hi => ?_⟩
      · rw [fillT_getD, if_pos (lt_of_unlisted h0), h0]
        simp
        omega
      · have h2 := hfw j (by omega) i hi
        rw [fillT_getD, if_pos (by omega), h i hi]
        rfl
  have allpre : ∀ L : Array Bool, L.size = ops.size → (∀ j, m ≤ j → j < ops.size → L.getD j true = false) → Region.ready md ops (fillT m L) = [] → L = preT ops m := by
    intro L hs ht hr
    have key : ∀ n p, p < n → p < m → L.getD p false = true := by
      intro n
      induction n with
      | zero => intro p hp; omega
      | succ n ih =>
        intro p hp hpm
        rcases listed_or (L := L) (j := p) (by omega) with h | h
        · exfalso
          have : p ∈ Region.ready md ops (fillT m L) := by
            rw [facts L hs ht, ready_iff]
            refine ⟨hpm, h, ⟨ops[p], Array.getElem?_eq_getElem (by omega)⟩, fun i hi => ?_⟩
            have := hfw p (by omega) i hi
            exact ih i (by omega) (by omega)
          rw [hr] at this
          cases this
        · exact h
    apply Array.ext
    · simp [preT, hs]
    · intro j h1 h2
      have e : (preT ops m)[j] = decide (j < m) := by simp [preT]
      rw [e]
      by_cases hj : j < m
      · have := key (j + 1) j (by omega) hj
        simp [h1] at this
        simp [this, hj]
      · have := ht j (by omega) (by omega)
        simp [h1] at this
        simp [this, hj]
  intro k
  induction k with
  | zero =>
    intro L a w hs hc ht hl hw h
    rw [Nat.zero_add, allpre L hs ht h.1]
    exact hQ a w hw h.2
  | succ k ih =>
    intro L a w hs hc ht hl hw h
    by_cases hr : Region.ready md ops (fillT m L) = []
    · have := hQ a w hw (h.1 hr)
      rw [← allpre L hs ht hr] at this
      exact wpAny_plus _ _ _ _ this _
    · rw [Nat.add_right_comm]
      refine ⟨fun h0 => (hr ?_).elim, fun i hi => ?_⟩
      · apply List.eq_nil_iff_forall_not_mem.2
        intro j hj
        have := ((facts L hs ht j).1 hj).2
        rw [h0] at this
        cases this
      · have hi0 := ready_iff.1 hi
        have his := lt_of_unlisted hi0.1
        by_cases him : i < m
        · have hi2 := (facts L hs ht i).2 ⟨him, hi⟩
          have h1 := h.2 i hi2
          unfold lOp at h1
          obtain ⟨o, ho⟩ := hi0.2.1
          simp only [ho] at h1
          refine lo_wp ho hw (fun a' w' hw' hk => ?_) h1
          refine ih (L.setIfInBounds i true) a' w' (by simpa using hs) ?_ ?_ (fun j hj => getD_set_true (hl j hj)) hw' (by rw [← fillT_set]; exact hk)
          · intro x hx j hj
            by_cases hxi : x = i
            · subst hxi
              exact getD_set_true (hi0.2.2 j hj)
            · rw [getD_set_ne false (Ne.symm hxi)] at hx
              exact getD_set_true (hc x hx j hj)
          · intro j hj hjs
            rw [getD_set_ne true (by omega)]
            exact ht j hj hjs
        · exfalso
          rcases Nat.lt_or_eq_of_le (Nat.ge_of_not_lt him) with hgt | heq
          · rcases htail i (by omega) with h2 | ⟨x, hx, hmx⟩
            · omega
            · have h3 := hi0.2.2 x hx
              have h4 := hfw i (by omega) x hx
              have h5 := unlisted_false (ht x (by simpa using hmx) (by omega))
              rw [h5] at h3
              cases h3
          · subst heq
            apply hr
            apply List.eq_nil_iff_forall_not_mem.2
            intro j hj
            obtain ⟨hjm, hj2⟩ := (facts L hs ht j).1 hj
            have h3 : L.getD j false = true := (hneed j hjm).elim (fun h => hl j h) (fun h => needs_listed hc _ _ (fun x hx => hi0.2.2 x hx) j h)
            have h4 := unlisted_false (ready_iff.1 hj2).1
            rw [h4] at h3
            cases h3

theorem lexP {Q : Act → Prop} (hs : Region.noSelect ops = true) (hC : ∃ w, C w) : ∀ (l : List Oper) (k : Nat) (listed : Array Bool) (a : Act), (∀ j, j < l.length → l[j]? = ops[k + j]?) →
    Region.lexFrom md ops l.length k listed = true → wpL P ops C T Q l a → wpAnyL P ops md C T Q l.length listed a
  | [], _, _, _, _, hB, h => ⟨by simpa [Region.lexFrom] using hB, h⟩
  | o :: l, k, listed, a, hl, hB, h => by
    have h0 : ops[k]? = some o := by simpa using (hl 0 (by simp)).symm
    simp only [List.length_cons, Region.lexFrom, Bool.and_eq_true] at hB
    obtain ⟨⟨hr, hf⟩, hB'⟩ := hB
    obtain ⟨h1, h2⟩ := lo_iff.1 (h : lo P ops C T o a (wpL P ops C T Q l))
    exact first h0 (Region.noSelect_spec hs) hC l.length listed a (Region.free_spec h0 hf) (by simpa using hr) h1
      fun v hv => lexP hs hC l (k + 1) _ _ (fun j hj => by have := hl (j + 1) (by simp; omega); simpa [Nat.add_assoc, Nat.add_comm 1 j] using this) hB' (h2 v hv)

/-- What stands ahead of the tail in any order, by one walk in the order of the text; then the tail. -/
theorem wp_region_tail {id : Nat} {l : List Oper} {Q : Exit → Act → World → Prop} {a : Act} {w : World} (m : Nat) (C : World → Prop) (T : FuncId → Array Value → Value → Prop) (Q0 : Act → Prop) (hm : P.follows .mixedOrders = true)
    (hB : (Region.noSelect l.toArray && (tailB .any l.toArray 0 m && Region.lexFrom .any l.toArray m 0 (fillT m (Array.replicate l.toArray.size false)))) = true) (hC : C w.drew)
    (ht : ∀ a' w', C w' → Q0 a' → wpAny P .any l.toArray Q (l.length - m) (preT l.toArray m) a' w')
    (h : wpL P l.toArray C T Q0 (l.take m) a) : (Code.region id l.toArray true).wp P Q a w := by
  simp only [Bool.and_eq_true] at hB
  obtain ⟨hs, hT, hL⟩ := hB
  have hml : m < l.length := by
    unfold tailB at hT
    simp only [Bool.and_eq_true, decide_eq_true_eq] at hT
    simpa using hT.1.1.1
  refine wp_region_any hm ?_
  have hlen : (l.take m).length = m := by simp; omega
  have h1 := lexP (P := P) (ops := l.toArray) (md := .any) (C := C) (T := T) (Q := Q0) hs ⟨_, hC⟩ (l.take m) 0 (fillT m (Array.replicate l.toArray.size false)) a
    (by intro j hj; rw [hlen] at hj; simp [List.getElem?_take, hj]) (by rw [hlen]; exact hL) h
  rw [hlen] at h1
  have h2 := any_tail (P := P) (T := T) (Q' := Q) (r := l.length - m) hT ht m (Array.replicate l.toArray.size false) a w.drew (by simp) (by
    intro i hi
    rw [Array.getD_eq_getD_getElem?] at hi
    simp [Array.getElem?_replicate] at hi
    split at hi <;> simp at hi) (by
    intro j _ hj
    have hj' : j < l.length := by simpa using hj
    simp [hj']) (fun j hj => by omega) hC h1
  have e : m + (l.length - m) = l.toArray.size := by simp; omega
  rw [e] at h2
  exact h2

theorem preT_zero : (Array.replicate ops.size false) = preT ops 0 := by
  apply Array.ext
  · simp [preT]
  · intro j h1 h2
    simp [preT]
theorem preT_one : (preT ops 0).setIfInBounds 0 true = preT ops 1 := by
  apply Array.ext
  · simp [preT]
  · intro j h1 h2
    by_cases hj : 0 = j
    · subst hj
      simp [preT]
    · rw [Array.getElem_setIfInBounds_ne (by simpa using h1) hj]
      simp [preT]
      omega

/-- As 'wp_region_tail'; the first operation (a move) is taken first: the tail may wait for it alone late. -/
theorem wp_region_tail1 {id : Nat} {l : List Oper} {Q : Exit → Act → World → Prop} {a : Act} {w : World} (m r : Nat) (C : World → Prop) (T : FuncId → Array Value → Value → Prop) {o0 : Oper} {v0 : Value} (hm : P.follows .mixedOrders = true)
    (ho : l.toArray[0]? = some o0) (hr : m + r = l.length)
    (hB : (Region.noSelect l.toArray && (Region.free .any l.toArray (preT l.toArray 0) 0 && ((Region.ready .any l.toArray (preT l.toArray 0)).contains 0 && (tailB .any l.toArray 1 m && (decide (1 ≤ m) && Region.lexFrom .any l.toArray (m - 1) 1 (fillT m (preT l.toArray 1))))))) = true) (hC : C w.drew)
    (hQ : ∀ c a w, Q (.panic c) (a.put o0.dst v0) w → Q (.panic c) a w) (hy : Yields P l.toArray o0 v0 a)
    (h : wpL P l.toArray C T (fun a' => ∀ w', C w' → wpAny P .any l.toArray Q r (preT l.toArray m) a' w') ((l.take m).drop 1) (a.put o0.dst v0)) : (Code.region id l.toArray true).wp P Q a w := by
  simp only [Bool.and_eq_true, decide_eq_true_eq] at hB
  obtain ⟨hs, hf, hrd, hT, hm1, hL⟩ := hB
  have hml : m < l.length := by
    unfold tailB at hT
    simp only [Bool.and_eq_true, decide_eq_true_eq] at hT
    simpa using hT.1.1.1
  have hfw : ∀ i, i < l.length → ∀ j ∈ afters .any l.toArray i, j < i := by
    unfold tailB at hT
    simp only [Bool.and_eq_true, decide_eq_true_eq, List.all_eq_true, List.mem_range] at hT
    intro i hi j hj
    exact hT.1.1.2 i (by simpa using hi) j hj
  refine wp_region_any hm ?_
  rw [preT_zero]
  have e0 : l.toArray.size = (l.length - 1) + 1 := by simp; omega
  rw [e0]
  refine wpAny_take ho hs hf hrd hQ hy ?_
  rw [preT_one]
  have hlen : ((l.take m).drop 1).length = m - 1 := by simp; omega
  have h1 := lexP (P := P) (ops := l.toArray) (md := .any) (C := C) (T := T) hs ⟨_, hC⟩ ((l.take m).drop 1) 1 (fillT m (preT l.toArray 1)) (a.put o0.dst v0)
    (by intro j hj; rw [hlen] at hj; rw [List.getElem?_drop, List.getElem?_take, if_pos (by omega)]; simp) (by rw [hlen]; exact hL) h
  rw [hlen] at h1
  have h2 := any_tail (P := P) (T := T) (Q' := Q) (r := r) hT (fun a w hc hq => hq w hc) (m - 1) (preT l.toArray 1) (a.put o0.dst v0) w.drew (by simp [preT]) (by
    intro i hi j hj
    have hi' : i < l.length := by
      rcases Nat.lt_or_ge i l.length with h' | h'
      · exact h'
      · simp [preT, h'] at hi
    have : i < 1 := by simpa [preT, hi'] using hi
    have := hfw i hi' j hj
    omega) (by
    intro j hj hjs
    have hj' : j < l.length := by simpa using hjs
    simp [preT, hj']
    omega) (by
    intro j hj
    have hj' : j < l.length := by omega
    simp [preT, hj']
    omega) hC h1
  have e : m - 1 + r = l.length - 1 := by omega
  rw [e] at h2
  exact h2

/-- One operation of the tail. -/
theorem tail_one {Q : Exit → Act → World → Prop} {k : Nat} {L : Array Bool} {a : Act} {w : World} (i : Nat) {o : Oper} (hr : Region.ready md ops L = [i]) (ho : ops[i]? = some o)
    (h : ∀ K : Act → World → Prop, (∀ a w, wpAny P md ops Q k (L.setIfInBounds i true) a w → K a w) → if Region.wanted o (yielded ops a.tmps) = true then Oper.wp P o a w K Q else K (a.put o.dst undef) w) : wpAny P md ops Q (k + 1) L a w := by
  have h := h (wpAny P md ops Q k (L.setIfInBounds i true)) (fun _ _ h => h)
  refine ⟨fun h0 => (by rw [hr] at h0; cases h0), fun j hj => ?_⟩
  rw [hr] at hj
  obtain rfl : j = i := by simpa using hj
  unfold wpOp
  simp only [ho]
  split
  · rename_i hw
    rw [if_pos hw] at h
    exact .inl h
  · rename_i hw
    rw [if_neg hw] at h
    exact h
theorem tail_done {Q : Exit → Act → World → Prop} {k : Nat} {L : Array Bool} {a : Act} {w : World} (hr : Region.ready md ops L = []) (h : Q .normal a w) : wpAny P md ops Q k L a w := wpAny_done hr h k
end

end Go.Proofs.YtkgfepakedieaaaGreatDoor.Loose
