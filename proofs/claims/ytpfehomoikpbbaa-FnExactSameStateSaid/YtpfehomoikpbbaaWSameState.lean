/- For every input the law FnExactSameState returns true and leaves its arguments as they were; no condition. -/
import Derived.Test.YtpfehomoikpbbaaBase
import Derived.Below
import Derived.Deep.RegionHeld3
import Derived.Test.YtpfehomoikpbbaaCtB
namespace Go.Proofs.Ytpfehomoikpbbaa.xSameState
open Go.RowKit
set_option linter.unusedVariables false

set_option maxHeartbeats 1000000 in
theorem walk (a : Nat) (_ha : a < 2 ^ 32) (g : Int) (hg : (Lit.int .i8 g).wf = true) (a' : Nat) (_ha' : a' < 2 ^ 32) (g' : Int) (hg' : (Lit.int .i8 g').wf = true) (w : World) :
    Calls Try.prog 10 #[.agg #[.float .f32 a, .int .i8 g], .agg #[.float .f32 a', .int .i8 g']] w fun e w' => e = .returned (.bool true) ∧ Below w.heap.size w w' := by
  go_enter Try.func10, Try.ntmps10
  go_wp2_with fail
  go_region_held3 (fun w' => w'.cell? ⟨w.heap.size, 0, none⟩ = some (.float .f32 a) ∧ w'.cell? ⟨w.heap.size, 1, none⟩ = some (.int .i8 g) ∧ w'.cell? ⟨w.heap.size + 1, 0, none⟩ = some (.float .f32 a') ∧ w'.cell? ⟨w.heap.size + 1, 1, none⟩ = some (.int .i8 g'))
    (first | (go_keep; done) | (refine ⟨?_, ?_, ?_, ?_⟩ <;> first | (go_keep; done) | (simp (disch := (first | omega | (simp; done) | (simp; omega))) [*, World.cell?_alloc_some, World.cell?_setCell_far]; done)))
    (first | (go_at_call 26; refine (toState_any _ _ _).mono ?_; rintro e w1 ⟨rfl, hb⟩; obtain ⟨hc, hf, _⟩ := below_reads hb; have hz : w.heap.size + 1 < w1.heap.size := (by have := hb.size; (try simp at this); omega); have hB : Below w.heap.size w w1 := (by first | exact below_then (by assumption) hb | exact below_then (by (repeat' (first | (with_reducible exact Below.refl _ _) | (with_reducible assumption) | (with_reducible refine Below.alloc ?_ ?_ _) | (with_reducible refine below_drewN ?_ _) | (with_reducible refine Below.drew ?_) | (with_reducible refine Below.setCell ?_ ?_ _) | (with_reducible exact Nat.le_refl _) | omega | (simp only [World.size_alloc, World.size_setCell, World.size_drew, World.heap_drewN]; omega) | (simp; omega)))) hb)) | (go_at_call 28; refine (specSameState_any _ _ _ _ _).mono ?_; rintro e w1 ⟨rfl, hb⟩; obtain ⟨hc, hf, _⟩ := below_reads hb; have hz : w.heap.size + 1 < w1.heap.size := (by have := hb.size; (try simp at this); omega); have hB : Below w.heap.size w w1 := (by first | exact below_then (by assumption) hb | exact below_then (by (repeat' (first | (with_reducible exact Below.refl _ _) | (with_reducible assumption) | (with_reducible refine Below.alloc ?_ ?_ _) | (with_reducible refine below_drewN ?_ _) | (with_reducible refine Below.drew ?_) | (with_reducible refine Below.setCell ?_ ?_ _) | (with_reducible exact Nat.le_refl _) | omega | (simp only [World.size_alloc, World.size_setCell, World.size_drew, World.heap_drewN]; omega) | (simp; omega)))) hb)))
  go_wp2_with fail
  go_region_held3 (fun w' => w'.cell? ⟨w.heap.size, 0, none⟩ = some (.float .f32 a) ∧ w'.cell? ⟨w.heap.size, 1, none⟩ = some (.int .i8 g) ∧ w'.cell? ⟨w.heap.size + 1, 0, none⟩ = some (.float .f32 a') ∧ w'.cell? ⟨w.heap.size + 1, 1, none⟩ = some (.int .i8 g'))
    (first | (go_keep; done) | (refine ⟨?_, ?_, ?_, ?_⟩ <;> first | (go_keep; done) | (simp (disch := (first | omega | (simp; done) | (simp; omega))) [*, World.cell?_alloc_some, World.cell?_setCell_far]; done)))
    (first | (go_at_call 26; refine (toState_any _ _ _).mono ?_; rintro e w1 ⟨rfl, hb⟩; obtain ⟨hc, hf, _⟩ := below_reads hb; have hz : w.heap.size + 1 < w1.heap.size := (by have := hb.size; (try simp at this); omega); have hB : Below w.heap.size w w1 := (by first | exact below_then (by assumption) hb | exact below_then (by (repeat' (first | (with_reducible exact Below.refl _ _) | (with_reducible assumption) | (with_reducible refine Below.alloc ?_ ?_ _) | (with_reducible refine below_drewN ?_ _) | (with_reducible refine Below.drew ?_) | (with_reducible refine Below.setCell ?_ ?_ _) | (with_reducible exact Nat.le_refl _) | omega | (simp only [World.size_alloc, World.size_setCell, World.size_drew, World.heap_drewN]; omega) | (simp; omega)))) hb)) | (go_at_call 29; refine (implSameState_any _ _ _ _ _).mono ?_; rintro e w1 ⟨rfl, hb⟩; obtain ⟨hc, hf, _⟩ := below_reads hb; have hz : w.heap.size + 1 < w1.heap.size := (by have := hb.size; (try simp at this); omega); have hB : Below w.heap.size w w1 := (by first | exact below_then (by assumption) hb | exact below_then (by (repeat' (first | (with_reducible exact Below.refl _ _) | (with_reducible assumption) | (with_reducible refine Below.alloc ?_ ?_ _) | (with_reducible refine below_drewN ?_ _) | (with_reducible refine Below.drew ?_) | (with_reducible refine Below.setCell ?_ ?_ _) | (with_reducible exact Nat.le_refl _) | omega | (simp only [World.size_alloc, World.size_setCell, World.size_drew, World.heap_drewN]; omega) | (simp; omega)))) hb)))
  go_wp2
  all_goals (go_ret; exact ⟨rfl, by assumption⟩)

end Go.Proofs.Ytpfehomoikpbbaa.xSameState
