/- The class of worlds in which nothing that was there has turned, for Loose. -/
import Derived.Test.YtljigmplmlhdnaaLoose
import Derived.Below
namespace Go.Proofs.Ytljigmplmlhdnaa
open Go.RowKit

/-- Behind W: nothing of it has turned. -/
def BelowC (W w : World) : Prop := Below W.heap.size W w
theorem BelowC.out {W w : World} (h : BelowC W w) : Below W.heap.size W w := h
theorem BelowC.start (W : World) : BelowC W W.drew := (Below.refl _ _).drew
theorem BelowC.drewN {W : World} : ∀ w n, BelowC W w → BelowC W (w.drewN n) := fun _ n h => below_drewN h n
theorem BelowC.call {W w w1 : World} (h : BelowC W w) (k : Below w.heap.size w w1) : BelowC W w1 := Below.trans h (k.mono h.size)
theorem BelowC.cell {W : World} {b o : Nat} {v : Value} (hc : W.cell? ⟨b, o, none⟩ = some v) (hb : b < W.heap.size) : ∀ w, BelowC W w → w.cell? ⟨b, o, none⟩ = some v :=
  fun _ h => (Below.cell h (p := ⟨b, o, none⟩) hb).trans hc

namespace Loose
/-- What each function may yield. -/
def Tab (l : List (FuncId × (Array Value → Value → Prop))) (f : FuncId) (args : Array Value) (v : Value) : Prop :=
  match l.lookup f with
  | some p => p args v
  | none => False

variable {P : Program} {ops : Array Oper} {C : World → Prop} {Q : Act → Prop} {o : Oper} {rest : List Oper} {a : Act}

/-- A call of a function of the table. -/
theorem callT {tb : List (FuncId × (Array Value → Value → Prop))} {f : FuncId} {args : Array Value} {p : Array Value → Value → Prop} (hw : Region.wanted o (yielded ops a.tmps) = true)
    (h : ∀ w, C w → (execOp a.eval o).run P w = .ok (.enter f args) w) (hf : tb.lookup f = some p)
    (hc : ∀ w, C w → Calls P f args w (fun e w'' => ∃ v, e = .returned v ∧ p args v ∧ C w''))
    (k : ∀ v, p args v → wpL P ops C (Tab tb) Q rest (a.put o.dst v)) : wpL P ops C (Tab tb) Q (o :: rest) a := by
  have hT : ∀ v, Tab tb f args v = p args v := fun v => by unfold Tab; rw [hf]
  refine call (fun v => p args v) hw h (fun v hv => by rwa [hT] at hv) (fun w hC => (hc w hC).mono ?_) k
  rintro e w' ⟨v, h1, h2, h3⟩
  exact ⟨v, h1, by rwa [hT], h3⟩

/-- The region's text behind a letter. -/
theorem wpL_ops {T : FuncId → Array Value → Value → Prop} {l : List Oper} (h : ∀ OPS, OPS = ops → wpL P OPS C T Q l a) : wpL P ops C T Q l a := h _ rfl
def yb : Option Value → Option Bool
  | some (.bool b) => some b
  | _ => none
theorem yielded_yb {ops : Array Oper} {i t : Nat} (h : (ops[i]?).bind (·.dst) = some t) (tmps : Array Value) : yielded ops tmps i = yb tmps[t]? := by
  unfold yielded
  rw [h]
  simp only [Option.bind_some]
  cases tmps[t]? with
  | none => rfl
  | some v => cases v <;> rfl
end Loose

end Go.Proofs.Ytljigmplmlhdnaa
