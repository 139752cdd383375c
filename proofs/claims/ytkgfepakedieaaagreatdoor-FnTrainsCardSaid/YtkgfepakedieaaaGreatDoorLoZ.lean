/- Regions that draw their order, where an operation yields a value out of a set (a NaN's bits are drawn), in every world of a class: one walk, in the order of the text, serves every order. -/
import Derived.Test.YtkgfepakedieaaaGreatDoorBase
import Derived.Deep.Quiet
import Derived.Tactics
import Derived.Tactics2
import Derived.Below
set_option linter.unusedVariables false
set_option linter.unusedSimpArgs false
namespace Go.Proofs.YtkgfepakedieaaaGreatDoor.Loose
open Go

theorem op_lt' {op : BinOp} {x y : Nat} (w : World) : fval op .f32 x y w < 2 ^ 32 := by
  unfold fval
  cases h : floatBits op .f32 x y with
  | some r => have := floatBits_wf h; simpa [Lit.wf] using this
  | none =>
    show (w.tape w.drawn (Question.nanBits .f32 x y)) % 2 * 2 ^ 31 + 0x7f800000 + 1 + (w.tape w.drawn (Question.nanBits .f32 x y)) / 2 % (2 ^ 23 - 1) < 2 ^ 32
    omega

section
variable (P : Program) (ops : Array Oper) (md : Region.Mode) (C : World → Prop) (T : FuncId → Array Value → Value → Prop)

/-- A computation that goes through in every world of the class and leaves one; a call hands back a value of its set. -/
def Fine (m : Sem Next) : Prop := ∀ w, C w →
  match m.run P w with
  | .ok (.value _) w' => C w'
  | .ok .skip w' => C w'
  | .ok (.enter f args) w' => Calls P f args w' (fun e w'' => ∃ v, e = .returned v ∧ T f args v ∧ C w'')
  | _ => False

/-- What it may yield. -/
def Out (m : Sem Next) (v : Value) : Prop := ∃ w, C w ∧
  match m.run P w with
  | .ok (.value u) _ => v = u
  | .ok .skip _ => v = undef
  | .ok (.enter f args) _ => T f args v
  | _ => False

theorem Fine.out {m : Sem Next} (h : Fine P C T m) (hC : ∃ w, C w) : ∃ v, Out P C T m v := by
  obtain ⟨w, hw⟩ := hC
  have h1 := h w hw
  generalize hr : m.run P w = r at h1
  cases r with
  | halt x w' => exact h1.elim
  | ok n w' =>
    cases n with
    | value u => exact ⟨u, w, hw, by rw [hr]⟩
    | skip => exact ⟨undef, w, hw, by rw [hr]⟩
    | enter f args =>
      obtain ⟨e, w'', fr, ⟨v, _, hv, _⟩, _⟩ := h1 []
      exact ⟨v, w, hw, by rw [hr]; exact hv⟩
    | _ => exact h1.elim

/-- One operation: all that it may yield. -/
def lo (o : Oper) (a : Act) (K : Act → Prop) : Prop :=
  if Region.wanted o (yielded ops a.tmps) then Fine P C T (execOp a.eval o) ∧ ∀ v, Out P C T (execOp a.eval o) v → K (a.put o.dst v) else K (a.put o.dst undef)

/-- The walk in the order of the text. -/
def wpL (Q : Act → Prop) : List Oper → Act → Prop
  | [], a => Q a
  | o :: rest, a => lo P ops C T o a (wpL Q rest)

def lOp (i : Nat) (K : Act → Prop) (a : Act) : Prop :=
  match ops[i]? with
  | none => K a
  | some o => lo P ops C T o a K

/-- Whatever order is picked. -/
def wpAnyL (Q : Act → Prop) : Nat → Array Bool → Act → Prop
  | 0, listed, a => Region.ready md ops listed = [] ∧ Q a
  | fuel + 1, listed, a =>
    (Region.ready md ops listed = [] → Q a) ∧
    ∀ i ∈ Region.ready md ops listed, lOp P ops C T i (wpAnyL Q fuel (listed.setIfInBounds i true)) a

/-- What an operation may leave in its temporary; that it goes through. -/
def Ok (o : Oper) (a : Act) : Prop := Region.wanted o (yielded ops a.tmps) = true → Fine P C T (execOp a.eval o)
def Res (o : Oper) (a : Act) (v : Value) : Prop := if Region.wanted o (yielded ops a.tmps) then Out P C T (execOp a.eval o) v else v = undef
end

section
variable {P : Program} {ops : Array Oper} {md : Region.Mode} {C : World → Prop} {T : FuncId → Array Value → Value → Prop}

theorem lo_iff {o : Oper} {a : Act} {K : Act → Prop} : lo P ops C T o a K ↔ Ok P ops C T o a ∧ ∀ v, Res P ops C T o a v → K (a.put o.dst v) := by
  unfold lo Ok Res
  cases h : Region.wanted o (yielded ops a.tmps)
  · simp
  · simp

theorem res_some {o : Oper} {a : Act} (hC : ∃ w, C w) (h : Ok P ops C T o a) : ∃ v, Res P ops C T o a v := by
  unfold Res
  cases hw : Region.wanted o (yielded ops a.tmps)
  · exact ⟨undef, by simp⟩
  · obtain ⟨v, hv⟩ := (h hw).out P C T hC
    exact ⟨v, by simpa using hv⟩

theorem lo_wp {o : Oper} {a : Act} {K : Act → Prop} {K' : Act → World → Prop} {Q' : Exit → Act → World → Prop} {i : Nat} {w : World} (hi : ops[i]? = some o) (hw : C w) (hK : ∀ a' w', C w' → K a' → K' a' w')
    (h : lo P ops C T o a K) : wpOp P ops Q' i K' a w := by
  unfold wpOp
  simp only [hi]
  unfold lo at h
  split
  · rename_i hwa
    rw [if_pos hwa] at h
    obtain ⟨h1, h2⟩ := h
    refine .inl ?_
    have h3 := h1 w hw
    unfold Oper.wp
    generalize hr : (execOp a.eval o).run P w = r at h3 ⊢
    cases r with
    | halt x w' => exact h3.elim
    | ok n w' =>
      cases n with
      | value u => exact hK _ _ h3 (h2 u ⟨w, hw, by rw [hr]⟩)
      | skip => exact hK _ _ h3 (h2 undef ⟨w, hw, by rw [hr]⟩)
      | enter f args =>
        refine Calls.mono h3 fun e w'' he => ?_
        obtain ⟨v, rfl, hv, hc⟩ := he
        exact hK _ _ hc (h2 v ⟨w, hw, by rw [hr]; exact hv⟩)
      | _ => exact h3.elim
  · rename_i hwa
    rw [if_neg hwa] at h
    exact hK _ _ hw h

theorem wpAny_of_loose {Q : Act → Prop} {Q' : Exit → Act → World → Prop} (hQ : ∀ a w, C w → Q a → Q' .normal a w) : ∀ (fuel : Nat) (listed : Array Bool) (a : Act) (w : World), C w →
    wpAnyL P ops md C T Q fuel listed a → wpAny P md ops Q' fuel listed a w
  | 0, _, _, _, hw, h => ⟨h.1, hQ _ _ hw h.2⟩
  | fuel + 1, listed, a, w, hw, h => by
    refine ⟨fun h0 => hQ _ _ hw (h.1 h0), fun i hi => ?_⟩
    have h1 := h.2 i hi
    unfold lOp at h1
    cases ho : ops[i]? with
    | none =>
      simp only [ho] at h1
      unfold wpOp
      simp only [ho]
      exact wpAny_of_loose hQ fuel _ _ _ hw h1
    | some o =>
      simp only [ho] at h1
      exact lo_wp ho hw (fun a' w' hw' => wpAny_of_loose hQ fuel _ a' w' hw') h1

/-- Of an operation that is apart from another one nothing hangs on what that one has left. -/
theorem ok_put {o : Oper} {a : Act} {d : Option Tmp} {v : Value} (hs : ∀ cs b, o.op ≠ .select cs b) (h : ∀ x, d = some x → x ∉ o.looksAt ops) : Ok P ops C T o (a.put d v) ↔ Ok P ops C T o a := by
  unfold Ok
  rw [wanted_put o a d v h, execOp_put o hs a d v h]
theorem res_put {o : Oper} {a : Act} {d : Option Tmp} {v : Value} (hs : ∀ cs b, o.op ≠ .select cs b) (h : ∀ x, d = some x → x ∉ o.looksAt ops) (u : Value) : Res P ops C T o (a.put d v) u ↔ Res P ops C T o a u := by
  unfold Res
  rw [wanted_put o a d v h, execOp_put o hs a d v h]

/-- An operation that may come up now may be taken first. -/
theorem first {Q : Act → Prop} {i : Nat} {oi : Oper} (hi : ops[i]? = some oi) (hsel : ∀ (j : Nat) (o : Oper) cs b, ops[j]? = some o → o.op ≠ .select cs b) (hC : ∃ w, C w) :
    ∀ (fuel : Nat) (listed : Array Bool) (a : Act),
      (∀ j oj, ops[j]? = some oj → j ≠ i → listed.getD j true = false → (∀ e ∈ oj.after, Region.binds md e = true → e.on ≠ i) → oi.apart ops oj = true) →
      i ∈ Region.ready md ops listed → Ok P ops C T oi a →
      (∀ v, Res P ops C T oi a v → wpAnyL P ops md C T Q fuel (listed.setIfInBounds i true) (a.put oi.dst v)) → wpAnyL P ops md C T Q (fuel + 1) listed a := by
  intro fuel
  induction fuel with
  | zero =>
    intro listed a _ hr hok H
    refine ⟨fun h => (by rw [h] at hr; cases hr), fun j hj => ?_⟩
    by_cases hji : j = i
    · subst hji
      unfold lOp
      simp only [hi]
      exact lo_iff.2 ⟨hok, H⟩
    · obtain ⟨v, hv⟩ := res_some hC hok
      have := ready_mono hj hji
      rw [(H v hv).1] at this
      cases this
  | succ fuel ih =>
    intro listed a hfree hr hok H
    refine ⟨fun h => (by rw [h] at hr; cases hr), fun j hj => ?_⟩
    by_cases hji : j = i
    · subst hji
      unfold lOp
      simp only [hi]
      exact lo_iff.2 ⟨hok, H⟩
    · obtain ⟨hjun, oj, hoj, hall⟩ := mem_ready.1 hj
      have hnot : ∀ e ∈ oj.after, Region.binds md e = true → e.on ≠ i := fun e he hb heq => by
        have h1 := hall e he hb
        have h0 := (mem_ready.1 hr).1
        rw [heq] at h1
        rcases Nat.lt_or_ge i listed.size with h' | h'
        · simp [h'] at h0 h1; rw [h0] at h1; cases h1
        · simp [Array.getElem?_eq_none h'] at h1
      obtain ⟨p1, p2, p3⟩ := Oper.apart_spec (hfree j oj hoj hji hjun hnot)
      have si := fun cs b => hsel i oi cs b hi
      have sj := fun cs b => hsel j oj cs b hoj
      -- the other one, behind each value of this one
      have hj2 : ∀ v, Res P ops C T oi a v → Ok P ops C T oj a ∧ ∀ u, Res P ops C T oj a u → wpAnyL P ops md C T Q fuel ((listed.setIfInBounds i true).setIfInBounds j true) ((a.put oi.dst v).put oj.dst u) := by
        intro v hv
        have h1 := (H v hv).2 j (ready_mono hj hji)
        unfold lOp at h1
        simp only [hoj] at h1
        obtain ⟨k1, k2⟩ := lo_iff.1 h1
        exact ⟨(ok_put sj p1).1 k1, fun u hu => k2 u ((res_put sj p1 u).2 hu)⟩
      obtain ⟨v0, hv0⟩ := res_some hC hok
      unfold lOp
      simp only [hoj]
      refine lo_iff.2 ⟨(hj2 v0 hv0).1, fun u hu => ?_⟩
      have hfree' : ∀ k ok, ops[k]? = some ok → k ≠ i → (listed.setIfInBounds j true).getD k true = false →
          (∀ e ∈ ok.after, Region.binds md e = true → e.on ≠ i) → oi.apart ops ok = true := fun k ok hk hki hun hno => by
        refine hfree k ok hk hki ?_ hno
        by_cases hjk : j = k
        · subst hjk; exact hjun
        · rw [getD_set_ne true hjk] at hun; exact hun
      refine ih (listed.setIfInBounds j true) (a.put oj.dst u) hfree' (ready_mono hr (Ne.symm hji)) ((ok_put si p3).2 hok) fun v hv => ?_
      rw [Array.setIfInBounds_comm _ _ hji, ← Act.put_comm a v u p2]
      exact (hj2 v ((res_put si p3 v).1 hv)).2 u hu

theorem lex {Q : Act → Prop} (hs : Region.noSelect ops = true) (hC : ∃ w, C w) : ∀ (l : List Oper) (k : Nat) (listed : Array Bool) (a : Act), (∀ j, l[j]? = ops[k + j]?) →
    Region.lexFrom md ops l.length k listed = true → wpL P ops C T Q l a → wpAnyL P ops md C T Q l.length listed a
  | [], _, _, _, _, hB, h => ⟨by simpa [Region.lexFrom] using hB, h⟩
  | o :: l, k, listed, a, hl, hB, h => by
    have h0 : ops[k]? = some o := by simpa using (hl 0).symm
    simp only [List.length_cons, Region.lexFrom, Bool.and_eq_true] at hB
    obtain ⟨⟨hr, hf⟩, hB'⟩ := hB
    obtain ⟨h1, h2⟩ := lo_iff.1 (h : lo P ops C T o a (wpL P ops C T Q l))
    exact first h0 (Region.noSelect_spec hs) hC l.length listed a (Region.free_spec h0 hf) (by simpa using hr) h1
      fun v hv => lex hs hC l (k + 1) _ _ (fun j => by have := hl (j + 1); simpa [Nat.add_assoc, Nat.add_comm 1 j] using this) hB' (h2 v hv)

/-- One walk in the order of the text serves every order. -/
theorem wp_region {id : Nat} {l : List Oper} {Q : Exit → Act → World → Prop} {a : Act} {w : World} (C : World → Prop) (T : FuncId → Array Value → Value → Prop) (hm : P.follows .mixedOrders = true) (hB : Region.lexB .any l.toArray = true) (hC : C w.drew)
    (h : wpL P l.toArray C T (fun a' => ∀ w', C w' → Q .normal a' w') l a) : (Code.region id l.toArray true).wp P Q a w := by
  simp only [Region.lexB, Bool.and_eq_true] at hB
  refine wp_region_any hm (wpAny_of_loose (C := C) (T := T) (Q := fun a' => ∀ w', C w' → Q .normal a' w') (fun _ w' hw' h => h w' hw') _ _ _ _ hC ?_)
  have := lex (P := P) (C := C) (T := T) (md := .any) hB.1 ⟨_, hC⟩ l 0 (Array.replicate l.toArray.size false) a (by simp) (by simpa using hB.2) h
  simpa using this

/-! The steps of the walk. -/
variable {Q : Act → Prop} {o : Oper} {rest : List Oper} {a : Act}

/-- One value, in every world. -/
theorem det {u : Value} (hw : Region.wanted o (yielded ops a.tmps) = true) (h : ∀ w, C w → (execOp a.eval o).run P w = .ok (.value u) w) (k : wpL P ops C T Q rest (a.put o.dst u)) : wpL P ops C T Q (o :: rest) a := by
  show lo P ops C T o a _
  unfold lo
  rw [if_pos hw]
  refine ⟨fun w hc => by rw [h w hc]; exact hc, fun v hv => ?_⟩
  obtain ⟨w, hc, hv⟩ := hv
  rw [h w hc] at hv
  subst hv
  exact k

/-- An operation that yields nothing. -/
theorem detSkip (hw : Region.wanted o (yielded ops a.tmps) = true) (h : ∀ w, C w → (execOp a.eval o).run P w = .ok .skip w) (k : wpL P ops C T Q rest (a.put o.dst undef)) : wpL P ops C T Q (o :: rest) a := by
  show lo P ops C T o a _
  unfold lo
  rw [if_pos hw]
  refine ⟨fun w hc => by rw [h w hc]; exact hc, fun v hv => ?_⟩
  obtain ⟨w, hc, hv⟩ := hv
  rw [h w hc] at hv
  subst hv
  exact k

/-- An operation that is passed over. -/
theorem pass (hw : Region.wanted o (yielded ops a.tmps) = false) (k : wpL P ops C T Q rest (a.put o.dst undef)) : wpL P ops C T Q (o :: rest) a := by
  show lo P ops C T o a _
  unfold lo
  rw [if_neg (by rw [hw]; exact Bool.false_ne_true)]
  exact k

/-- A float's sum, difference, product or quotient. -/
theorem flt {op : BinOp} {x y : Nat} (hw : Region.wanted o (yielded ops a.tmps) = true) (hd : ∀ w n, C w → C (w.drewN n))
    (h : ∀ w, C w → (execOp a.eval o).run P w = .ok (.value (.float .f32 (fval op .f32 x y w))) (w.drewN (fdn op .f32 x y)))
    (k : ∀ r, cn r = cop op x y → r < 2 ^ 32 → wpL P ops C T Q rest (a.put o.dst (.float .f32 r))) : wpL P ops C T Q (o :: rest) a := by
  show lo P ops C T o a _
  unfold lo
  rw [if_pos hw]
  refine ⟨fun w hc => by rw [h w hc]; exact hd _ _ hc, fun v hv => ?_⟩
  obtain ⟨w, hc, hv⟩ := hv
  rw [h w hc] at hv
  subst hv
  exact k _ (cn_fval op x y w) (op_lt' w)

/-- A call. -/
theorem call {f : FuncId} {args : Array Value} (S : Value → Prop) (hw : Region.wanted o (yielded ops a.tmps) = true)
    (h : ∀ w, C w → (execOp a.eval o).run P w = .ok (.enter f args) w) (hS : ∀ v, T f args v → S v)
    (hc : ∀ w, C w → Calls P f args w (fun e w'' => ∃ v, e = .returned v ∧ T f args v ∧ C w''))
    (k : ∀ v, S v → wpL P ops C T Q rest (a.put o.dst v)) : wpL P ops C T Q (o :: rest) a := by
  show lo P ops C T o a _
  unfold lo
  rw [if_pos hw]
  refine ⟨fun w hC => by rw [h w hC]; exact hc w hC, fun v hv => ?_⟩
  obtain ⟨w, hC, hv⟩ := hv
  rw [h w hC] at hv
  exact k v (hS v hv)

theorem done (h : Q a) : wpL P ops C T Q [] a := h
end

end Go.Proofs.YtkgfepakedieaaaGreatDoor.Loose

/-! The class of worlds in which nothing that was there has turned, for Loose. -/
namespace Go.Proofs.YtkgfepakedieaaaGreatDoor
open Go.RowKit

/-- Behind W: nothing of it has turned. -/
def BelowC (W w : World) : Prop := Below W.heap.size W w
theorem BelowC.out {W w : World} (h : BelowC W w) : Below W.heap.size W w := h
theorem BelowC.start (W : World) : BelowC W W.drew := (Below.refl _ _).drew
theorem BelowC.drewN {W : World} : ∀ w n, BelowC W w → BelowC W (w.drewN n) := fun _ n h => below_drewN h n
theorem BelowC.call {W w w1 : World} (h : BelowC W w) (k : Below w.heap.size w w1) : BelowC W w1 := Below.trans h (k.mono h.size)
theorem BelowC.cell {W : World} {b o : Nat} {v : Value} (hc : W.cell? ⟨b, o, none⟩ = some v) (hb : b < W.heap.size) : ∀ w, BelowC W w → w.cell? ⟨b, o, none⟩ = some v :=
  fun _ h => (Below.cell h (p := ⟨b, o, none⟩) hb).trans hc

namespace Loose
/-- What each function may yield. -/
def Tab (l : List (FuncId × (Array Value → Value → Prop))) (f : FuncId) (args : Array Value) (v : Value) : Prop :=
  match l.lookup f with
  | some p => p args v
  | none => False

variable {P : Program} {ops : Array Oper} {C : World → Prop} {Q : Act → Prop} {o : Oper} {rest : List Oper} {a : Act}

/-- A call of a function of the table. -/
theorem callT {tb : List (FuncId × (Array Value → Value → Prop))} {f : FuncId} {args : Array Value} {p : Array Value → Value → Prop} (hw : Region.wanted o (yielded ops a.tmps) = true)
    (h : ∀ w, C w → (execOp a.eval o).run P w = .ok (.enter f args) w) (hf : tb.lookup f = some p)
    (hc : ∀ w, C w → Calls P f args w (fun e w'' => ∃ v, e = .returned v ∧ p args v ∧ C w''))
    (k : ∀ v, p args v → wpL P ops C (Tab tb) Q rest (a.put o.dst v)) : wpL P ops C (Tab tb) Q (o :: rest) a := by
  have hT : ∀ v, Tab tb f args v = p args v := fun v => by unfold Tab; rw [hf]
  refine call (fun v => p args v) hw h (fun v hv => by rwa [hT] at hv) (fun w hC => (hc w hC).mono ?_) k
  rintro e w' ⟨v, h1, h2, h3⟩
  exact ⟨v, h1, by rwa [hT], h3⟩

/-- The region's text behind a letter. -/
theorem wpL_ops {T : FuncId → Array Value → Value → Prop} {l : List Oper} (h : ∀ OPS, OPS = ops → wpL P OPS C T Q l a) : wpL P ops C T Q l a := h _ rfl
def yb : Option Value → Option Bool
  | some (.bool b) => some b
  | _ => none
theorem yielded_yb {ops : Array Oper} {i t : Nat} (h : (ops[i]?).bind (·.dst) = some t) (tmps : Array Value) : yielded ops tmps i = yb tmps[t]? := by
  unfold yielded
  rw [h]
  simp only [Option.bind_some]
  cases tmps[t]? with
  | none => rfl
  | some v => cases v <;> rfl
end Loose

end Go.Proofs.YtkgfepakedieaaaGreatDoor
