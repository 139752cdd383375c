/- Trains: what the program and the reference model answer about one (4): the ratio as a number. -/
import Derived.Test.YtkgfepakedieaaaCtY
import Derived.Laws.Cover2
import Derived.RegionTactic
import Derived.BigRegion
namespace Go.Proofs.Ytkgfepakedieaaa
open Go.RowKit

def upC (p : T3) : Nat := cop .quo (floatOfInt .f32 p.1) (floatOfInt .f32 p.2.1)
def factC (ps : List T3) : Nat := ps.foldl (fun r p => cop .mul r (upC p)) 1065353216
theorem factC_step (ps : List T3) (j : Nat) (p : T3) (h : ps[j]? = some p) : factC (ps.take (j + 1)) = cop .mul (factC (ps.take j)) (upC p) := by
  unfold factC
  rw [List.take_add_one, h, List.foldl_append]
  rfl

set_option maxHeartbeats 400000 in
theorem l01Quotient_any (a b : Int) (w : World) :
    Calls Try.prog 64 #[.int .i16 a, .int .i16 b] w fun e w' => ∃ r n, e = .returned (.float .f32 r) ∧ cn r = cop .quo (floatOfInt .f32 a) (floatOfInt .f32 b) ∧ r < 2 ^ 32 ∧ w.drewN n = w' := by
  go_enter Try.func64, Try.ntmps64
  go_wp2
  all_goals (go_ret; exact ⟨_, _, rfl, by simp, Loose.op_lt' _, rfl⟩)

set_option maxHeartbeats 400000 in
theorem up_any (g o : Nat) (a b : Int) (w : World) (h0 : w.cell? ⟨g, o, none⟩ = some (.int .i16 a)) (h1 : w.cell? ⟨g, o + 1, none⟩ = some (.int .i16 b)) :
    Calls Try.prog 68 #[.pointer (some ⟨g, o, none⟩)] w fun e w' => ∃ r n, e = .returned (.float .f32 r) ∧ cn r = cop .quo (floatOfInt .f32 a) (floatOfInt .f32 b) ∧ r < 2 ^ 32 ∧ w.drewN n = w' := by
  go_enter Try.func68, Try.ntmps68
  go_wp2
  go_region
  all_goals go_wp2
  all_goals (go_ret; exact ⟨_, _, rfl, by simp, Loose.op_lt' _, rfl⟩)

end Go.Proofs.Ytkgfepakedieaaa
