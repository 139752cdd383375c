/- Contracts: structs of numbers, copied field by field; the predicates on them. -/
import Derived.Test.YtljigmplmlhdnaaCtA
namespace Go.Proofs.Ytljigmplmlhdnaa
open Go.RowKit

set_option maxHeartbeats 400000 in
theorem toBelt_any (a b c d : Nat) (x : Bool) (w : World) :
    Calls Try.prog 15 #[.agg #[.float .f32 a, .float .f32 b, .float .f32 c, .float .f32 d, .bool x]] w fun e w' => e = .returned (.agg #[.float .f32 a, .float .f32 b, .float .f32 c, .float .f32 d, .bool x]) ∧ Below w.heap.size w w' := by
  go_enter Try.func15, Try.ntmps15
  go_wp2
  exact bodyPost_ret (v := .agg #[.float .f32 a, .float .f32 b, .float .f32 c, .float .f32 d, .bool x]) (by simp [results, Try.results15, go_sem]) rfl ⟨rfl, by (repeat' (first | (with_reducible exact Below.refl _ _) | (with_reducible assumption) | (with_reducible refine Below.alloc ?_ ?_ _) | (with_reducible refine below_drewN ?_ _) | (with_reducible refine Below.drew ?_) | (with_reducible refine Below.setCell ?_ ?_ _) | (with_reducible exact Nat.le_refl _) | omega | (simp only [World.size_alloc, World.size_setCell, World.size_drew, World.heap_drewN]; omega) | (simp; omega)))⟩

def millB (n : Int) (a b : Nat) : Bool := withinB n 4 48 && lengthB a && lengthB b

theorem bounds_i8 {n : Int} (h : (Lit.int .i8 n).wf = true) : -128 ≤ n ∧ n ≤ 127 := by
  simp [Lit.wf, IntKind.min, IntKind.max, IntKind.bits, IntKind.signed] at h; omega
theorem bounds_i16 {n : Int} (h : (Lit.int .i16 n).wf = true) : -32768 ≤ n ∧ n ≤ 32767 := by
  simp [Lit.wf, IntKind.min, IntKind.max, IntKind.bits, IntKind.signed] at h; omega

def sameBeltB (a b c d : Nat) (x : Bool) (a' b' c' d' : Nat) (x' : Bool) : Bool := sameB a a' && sameB b b' && sameB c c' && sameB d d' && x == x'

end Go.Proofs.Ytljigmplmlhdnaa
