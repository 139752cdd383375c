/- Contracts: structs of numbers, copied field by field; the predicates on them. -/
import Derived.Test.YtljigmplmlhdnaaDoorCtA
namespace Go.Proofs.YtljigmplmlhdnaaDoor
open Go.RowKit

def millB (n : Int) (a b : Nat) : Bool := withinB n 4 48 && lengthB a && lengthB b

theorem bounds_i8 {n : Int} (h : (Lit.int .i8 n).wf = true) : -128 ≤ n ∧ n ≤ 127 := by
  simp [Lit.wf, IntKind.min, IntKind.max, IntKind.bits, IntKind.signed] at h; omega
theorem bounds_i16 {n : Int} (h : (Lit.int .i16 n).wf = true) : -32768 ≤ n ∧ n ≤ 32767 := by
  simp [Lit.wf, IntKind.min, IntKind.max, IntKind.bits, IntKind.signed] at h; omega

def sameBeltB (a b c d : Nat) (x : Bool) (a' b' c' d' : Nat) (x' : Bool) : Bool := sameB a a' && sameB b b' && sameB c c' && sameB d d' && x == x'

end Go.Proofs.YtljigmplmlhdnaaDoor
