/- Regions that draw their order: a check of the order of the text that goes through the operations once. -/
import Derived.Test.YtljigmplmlhdnaaLoose3
namespace Go.Proofs.Ytljigmplmlhdnaa.Loose
open Go
set_option linter.unusedVariables false
set_option linter.unusedSimpArgs false

/-- Has an operation an edge on another one? -/
def edge (md : Region.Mode) (o : Oper) (i : Nat) : Bool := o.after.any fun e => Region.binds md e && e.on == i

/-- wr: the slots written so far, with the operation's number; lk: the slots looked at so far. -/
def okFrom (md : Region.Mode) (ops : Array Oper) : Nat → List (Nat × Nat) → List Nat → List Oper → Bool
  | _, _, _, [] => true
  | k, wr, lk, o :: rest =>
    (o.after.all fun e => !Region.binds md e || Nat.blt e.on k) &&
    ((o.looksAt ops).all fun t => wr.all fun p => !(Nat.beq p.2 t) || edge md o p.1) &&
    (match o.dst with
     | some d => (wr.all fun p => !(Nat.beq p.2 d)) && (lk.all fun t => !(Nat.beq t d)) && okFrom md ops (k + 1) ((k, d) :: wr) (o.looksAt ops ++ lk) rest
     | none => okFrom md ops (k + 1) wr (o.looksAt ops ++ lk) rest)

def lexF (md : Region.Mode) (ops : Array Oper) : Bool := Region.noSelect ops && okFrom md ops 0 [] [] ops.toList

theorem okFrom_spec {md : Region.Mode} {ops : Array Oper} : ∀ (l : List Oper) (k : Nat) (wr : List (Nat × Nat)) (lk : List Nat), okFrom md ops k wr lk l = true →
    (∀ (j : Nat) (o : Oper), l[j]? = some o → ∀ e ∈ o.after, Region.binds md e = true → e.on < k + j) ∧
    (∀ (j : Nat) (o : Oper), l[j]? = some o → (∀ p ∈ wr, p.2 ∈ o.looksAt ops → edge md o p.1 = true) ∧ ∀ d, o.dst = some d → (∀ p ∈ wr, p.2 ≠ d) ∧ d ∉ lk) ∧
    (∀ (i j : Nat) (oi oj : Oper), i < j → l[i]? = some oi → l[j]? = some oj → edge md oj (k + i) = false → oi.apart ops oj = true)
  | [], _, _, _, _ => ⟨fun j o h => by simp at h, fun j o h => by simp at h, fun i j oi oj _ h => by simp at h⟩
  | o :: rest, k, wr, lk, h => by
    unfold okFrom at h
    rw [Bool.and_eq_true, Bool.and_eq_true] at h
    obtain ⟨⟨h1, h2⟩, h3⟩ := h
    have e1 : ∀ e ∈ o.after, Region.binds md e = true → e.on < k := fun e he hb => by
      have := Array.all_eq_true_iff_forall_mem.1 h1 e he
      rw [hb] at this
      simpa [Nat.blt_eq] using this
    have e2 : ∀ p ∈ wr, p.2 ∈ o.looksAt ops → edge md o p.1 = true := fun p hp ht => by
      have := List.all_eq_true.1 (List.all_eq_true.1 h2 _ ht) p hp
      simpa using this
    -- what the rest gives
    obtain ⟨wr', hwr, hrest, hd⟩ : ∃ wr', (∀ p ∈ wr, p ∈ wr') ∧ okFrom md ops (k + 1) wr' (o.looksAt ops ++ lk) rest = true ∧ ∀ d, o.dst = some d → (k, d) ∈ wr' ∧ (∀ p ∈ wr, p.2 ≠ d) ∧ d ∉ lk := by
      cases hdst : o.dst with
      | none =>
        rw [hdst] at h3
        exact ⟨wr, fun p hp => hp, h3, fun d hd => by cases hd⟩
      | some d =>
        rw [hdst] at h3
        simp only [Bool.and_eq_true] at h3
        obtain ⟨⟨h4, h5⟩, h6⟩ := h3
        refine ⟨(k, d) :: wr, fun p hp => List.mem_cons_of_mem _ hp, h6, ?_⟩
        intro d' hd'
        cases hd'
        refine ⟨List.mem_cons_self, fun p hp he => ?_, fun hm => ?_⟩
        · have := List.all_eq_true.1 h4 p hp
          simp [he] at this
        · have := List.all_eq_true.1 h5 _ hm
          simp at this
    obtain ⟨i1, i2, i3⟩ := okFrom_spec rest (k + 1) wr' _ hrest
    refine ⟨fun j oj hj e he hb => ?_, fun j oj hj => ?_, fun i j oi oj hij hi hj hed => ?_⟩
    · cases j with
      | zero =>
        simp at hj
        subst hj
        exact e1 e he hb
      | succ j =>
        have := i1 j oj (by simpa using hj) e he hb
        omega
    · cases j with
      | zero =>
        simp at hj
        subst hj
        exact ⟨e2, fun d hd' => (hd d hd').2⟩
      | succ j =>
        obtain ⟨a, b⟩ := i2 j oj (by simpa using hj)
        refine ⟨fun p hp ht => a p (hwr p hp) ht, fun d hd' => ?_⟩
        obtain ⟨c1, c2⟩ := b d hd'
        exact ⟨fun p hp => c1 p (hwr p hp), fun hm => c2 (List.mem_append_right _ hm)⟩
    · cases j with
      | zero => omega
      | succ j =>
        have hj' : rest[j]? = some oj := by simpa using hj
        cases i with
        | zero =>
          simp at hi
          subst hi
          obtain ⟨a, b⟩ := i2 j oj hj'
          unfold Oper.apart
          have p1 : ∀ d, o.dst = some d → d ∉ oj.looksAt ops ∧ oj.dst ≠ some d := fun d hd' => by
            refine ⟨fun hm => ?_, fun he => ?_⟩
            · have := a (k, d) (hd d hd').1 hm
              rw [Nat.add_zero] at hed
              rw [hed] at this
              cases this
            · exact (b d he).1 (k, d) (hd d hd').1 rfl
          have p2 : ∀ d, oj.dst = some d → d ∉ o.looksAt ops := fun d hd' hm => (b d hd').2 (List.mem_append_left _ hm)
          cases hx : o.dst with
          | none =>
            cases hy : oj.dst with
            | none => rfl
            | some d => simpa using p2 d hy
          | some d =>
            obtain ⟨q1, q2⟩ := p1 d hx
            cases hy : oj.dst with
            | none => simpa using q1
            | some d' =>
              have := p2 d' hy
              rw [hy] at q2
              simp [q1, this]
              intro h
              exact q2 (by rw [h])
        | succ i =>
          exact i3 i j oi oj (by omega) (by simpa using hi) hj' (by rw [show k + 1 + i = k + (i + 1) by omega]; exact hed)

section
variable {P : Program} {ops : Array Oper} {md : Region.Mode} {C : World → Prop} {T : FuncId → Array Value → Value → Prop}

theorem lexFast {Q : Act → Prop} (hs : Region.noSelect ops = true) (hC : ∃ w, C w)
    (hE : ∀ (j : Nat) (o : Oper), ops[j]? = some o → ∀ e ∈ o.after, Region.binds md e = true → e.on < j)
    (hA : ∀ (i j : Nat) (oi oj : Oper), i < j → ops[i]? = some oi → ops[j]? = some oj → edge md oj i = false → oi.apart ops oj = true) :
    ∀ (l : List Oper) (k : Nat) (listed : Array Bool) (a : Act), (∀ j, l[j]? = ops[k + j]?) → listed.size = ops.size → (∀ j, j < k → j < ops.size → listed.getD j false = true) → (∀ j, k ≤ j → j < ops.size → listed.getD j true = false) →
    wpL P ops C T Q l a → wpAnyL P ops md C T Q l.length listed a
  | [], k, listed, a, hl, hz, hb, hu, h => by
    refine ⟨?_, h⟩
    have hk : ops.size ≤ k := by
      have := hl 0
      simp at this
      exact this
    rw [List.eq_nil_iff_forall_not_mem]
    intro j hj
    obtain ⟨h0, o, ho, _⟩ := mem_ready.1 hj
    have hj' : j < ops.size := by
      rcases Nat.lt_or_ge j ops.size with h1 | h1
      · exact h1
      · rw [Array.getElem?_eq_none h1] at ho; cases ho
    have := hb j (by omega) hj'
    simp [hz, hj'] at h0 this
    rw [h0] at this
    cases this
  | o :: l, k, listed, a, hl, hz, hb, hu, h => by
    have h0 : ops[k]? = some o := by simpa using (hl 0).symm
    have hk : k < ops.size := by
      rcases Nat.lt_or_ge k ops.size with h1 | h1
      · exact h1
      · rw [Array.getElem?_eq_none h1] at h0; cases h0
    obtain ⟨h1, h2⟩ := lo_iff.1 (h : lo P ops C T o a (wpL P ops C T Q l))
    have hsz : ∀ e, e < k → listed.getD e false = true := fun e he => hb e he (by omega)
    refine Loose.first h0 (Region.noSelect_spec hs) hC l.length listed a ?_ ?_ h1 fun v hv => ?_
    · intro j oj hj hne hun hno
      have hjs : j < ops.size := by
        rcases Nat.lt_or_ge j ops.size with h1 | h1
        · exact h1
        · rw [Array.getElem?_eq_none h1] at hj; cases hj
      have hkj : k < j := by
        rcases Nat.lt_or_ge k j with h1 | h1
        · exact h1
        · have := hb j (by omega) hjs
          simp [hz, hjs] at hun this
          rw [hun] at this
          cases this
      refine hA k j o oj hkj h0 hj ?_
      rw [Bool.eq_false_iff]
      intro he
      unfold edge at he
      obtain ⟨e, he1, he2⟩ := Array.any_eq_true'.1 he
      simp only [Bool.and_eq_true, beq_iff_eq] at he2
      exact hno e he1 he2.1 he2.2
    · refine mem_ready.2 ⟨hu k (Nat.le_refl _) hk, o, h0, fun e he hbi => ?_⟩
      exact hsz _ (hE k o h0 e he hbi)
    · refine lexFast hs hC hE hA l (k + 1) _ _ (fun j => by have := hl (j + 1); simpa [Nat.add_assoc, Nat.add_comm 1 j] using this) (by simpa using hz) ?_ ?_ (h2 v hv)
      · intro j hj hjs
        by_cases hjk : j = k
        · subst hjk
          simp [hz, hjs]
        · have := hb j (by omega) hjs
          simp [hz, hjs] at this ⊢
          rw [Array.getElem_setIfInBounds (by simpa [hz] using hjs)]
          split
          · rfl
          · exact this
      · intro j hj hjs
        rw [getD_set_ne true (by omega)]
        exact hu j (by omega) hjs

/-- One walk in the order of the text serves every order. -/
theorem wp_regionF {id : Nat} {l : List Oper} {Q : Exit → Act → World → Prop} {a : Act} {w : World} (C : World → Prop) (T : FuncId → Array Value → Value → Prop) (hm : P.follows .mixedOrders = true) (hB : lexF .any l.toArray = true) (hC : C w.drew)
    (h : wpL P l.toArray C T (fun a' => ∀ w', C w' → Q .normal a' w') l a) : (Code.region id l.toArray true).wp P Q a w := by
  unfold lexF at hB
  rw [Bool.and_eq_true] at hB
  obtain ⟨hs, hok⟩ := hB
  obtain ⟨g1, _, g3⟩ := okFrom_spec _ _ _ _ hok
  refine wp_region_any hm (wpAny_of_loose (C := C) (T := T) (Q := fun a' => ∀ w', C w' → Q .normal a' w') (fun _ w' hw' h => h w' hw') _ _ _ _ hC ?_)
  have := lexFast (P := P) (C := C) (T := T) (md := .any) hs ⟨_, hC⟩ (fun j o hj e he hb => by have := g1 j o (by simpa using hj) e he hb; omega) (fun i j oi oj hij hi hj he => g3 i j oi oj hij (by simpa using hi) (by simpa using hj) (by rw [Nat.zero_add]; exact he)) l 0 (Array.replicate l.toArray.size false) a (by simp) (by simp) (by intro j hj; omega) (by intro j _ hj; simp at hj; simp [hj]) h
  simpa using this
end

end Go.Proofs.Ytljigmplmlhdnaa.Loose
