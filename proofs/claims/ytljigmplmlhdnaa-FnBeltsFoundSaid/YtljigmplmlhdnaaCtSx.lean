/- Contracts: the source of choices out of bytes; bytes that are too many; numbers that are near. -/
import Derived.Test.YtljigmplmlhdnaaCtSc
import Derived.Test.YtljigmplmlhdnaaFlA
import Derived.Test.YtljigmplmlhdnaaNeg
import Derived.Test.YtljigmplmlhdnaaLoose2
import Derived.BigQuiet
namespace Go.Proofs.Ytljigmplmlhdnaa
open Go.RowKit
set_option linter.unusedVariables false
set_option linter.unusedSimpArgs false

theorem Src.below {w w' : World} {g k B : Nat} (h : Src w g k) (hb : Below B w w') (hB : g < B) : Src w' g k := by
  obtain ⟨a, n, cap, t, z, ho, hA, ht, hz⟩ := h
  exact ⟨a, n, cap, t, z, own_below ho hb (fun b hb => by cases hb; exact hB), hA.below (hb.mono (by omega)), ht, hz⟩
theorem Moved.below {g : Nat} {w w' w2 : World} (h : Moved g w w') (hg : g < w.heap.size) (hb : Below w.heap.size w' w2) : Moved g w w2 :=
  ⟨h.1.trans (hb.mono (by omega)), fun b hb' hne => (hb.block b hb').trans (h.2 b hb' hne)⟩
theorem Moved.fresh {g : Nat} {w w' : World} (h : Moved g w w') (hg : g < w.heap.size) {P : Nat} (hP : w.heap.size ≤ P) (o : Nat) (u : Value) : Moved g w (w'.setCell ⟨P, o, none⟩ u) :=
  h.below hg ((Below.refl _ _).setCell hP _)

theorem src_from (w : World) (a : Option Addr) (n cap : Nat) (h : BytesAt w w.heap.size a n) : Src (w.alloc (.cells #[.slice a n cap, .int .i64 0, .int .u64 0] 103)) w.heap.size 0 :=
  ⟨a, n, cap, 0, 0, own_lit w w.heap.size 103 (size := 3) 1 #[.slice a n cap, .int .i64 0, .int .u64 0] (Nat.le_refl _) (by decide) rfl, h.below ((Below.refl _ _).alloc (Nat.le_refl _) _), by omega, by omega⟩

set_option maxHeartbeats 1000000 in
theorem from_any (a : Option Addr) (n cap : Nat) (w : World) (h : BytesAt w w.heap.size a n) :
    Calls Try.prog 71 #[.slice a n cap] w fun e w' => e = .returned (.pointer (some ⟨w.heap.size, 0, none⟩)) ∧ Src w' w.heap.size 0 ∧ Below w.heap.size w w' := by
  have H := Lib.hid h
  clear h
  go_enter Try.func71, Try.ntmps71
  go_wp2
  all_goals go_ret
  all_goals exact ⟨rfl, src_from w a n cap H.out, by (repeat' (first | (with_reducible exact Below.refl _ _) | (with_reducible assumption) | (with_reducible refine Below.alloc ?_ ?_ _) | (with_reducible refine below_drewN ?_ _) | (with_reducible refine Below.drew ?_) | (with_reducible refine Below.setCell ?_ ?_ _) | (with_reducible exact Nat.le_refl _) | omega | (simp only [World.size_alloc, World.size_setCell, World.size_drew, World.heap_drewN]; omega) | (simp; omega)))⟩

set_option maxHeartbeats 1000000 in
theorem a2Long_any (a b : Option Addr) (n m c d : Nat) (w : World) (hn : n ≤ maxLen) (hm : m ≤ maxLen) :
    Calls Try.prog 35 #[.slice a n c, .slice b m d] w fun e w' => e = .returned (.bool (decide (3000 < (n : Int)) || decide (3000 < (m : Int)))) ∧ w = w' := by
  have hn2 : n ≤ 9223372036854775807 := by simpa [maxLen] using hn
  have hm2 : m ≤ 9223372036854775807 := by simpa [maxLen] using hm
  go_enter Try.func35, Try.ntmps35
  by_cases h1 : (3000 : Int) < (n : Int)
  · go_wp2
    all_goals (go_ret; exact ⟨by simp_all <;> omega, rfl⟩)
  · go_wp2
    all_goals (go_ret; exact ⟨by simp_all <;> omega, rfl⟩)

theorem V_zero : V 0 = 0 := by
  obtain ⟨z1, z2, z3⟩ := zero_F
  rw [V_pos z2, z3]
theorem F_fneg {x : Nat} (h : F x) : F (fneg x) ∧ A (fneg x) = A x ∧ S (fneg x) = !S x := by
  have hs : Ieee.single.signWeight = 2147483648 := single_sign'
  have hx := h.2
  have key : Flt.rung Ieee.single (fneg x) = Flt.rung Ieee.single x ∧ Flt.sgn Ieee.single (fneg x) = !Flt.sgn Ieee.single x := by
    unfold Flt.rung Flt.sgn
    rw [hs]
    rcases Nat.lt_or_ge x 2147483648 with h1 | h1
    · rw [fneg_small h1]
      constructor
      · omega
      · have e1 : (2147483648 + x) / 2147483648 % 2 = 1 := by omega
        have e2 : x / 2147483648 % 2 = 0 := by omega
        rw [e1, e2]
        rfl
    · obtain ⟨y, rfl⟩ : ∃ y, x = 2147483648 + y := ⟨x - 2147483648, by omega⟩
      have hy : y < 2147483648 := by omega
      rw [fneg_big hy]
      constructor
      · omega
      · have e1 : (2147483648 + y) / 2147483648 % 2 = 1 := by omega
        have e2 : y / 2147483648 % 2 = 0 := by omega
        rw [e1, e2]
        rfl
  refine ⟨⟨?_, fneg_lt hx⟩, ?_, key.2⟩
  · have := h.1
    unfold Flt.fin at this ⊢
    rw [key.1]
    exact this
  · show Flt.A Ieee.single _ = Flt.A Ieee.single _
    unfold Flt.A
    rw [key.1]
theorem V_fneg {x : Nat} (h : F x) : V (fneg x) = -V x := by
  obtain ⟨_, h2, h3⟩ := F_fneg h
  cases hs : S x
  · rw [hs] at h3
    rw [V_neg h3, V_pos hs, h2]
  · rw [hs] at h3
    rw [V_pos h3, V_neg hs, h2]
    grind

def szN (x : Nat) : Nat := if flt .f32 x 0 then fneg x else x
theorem szN_F {x : Nat} (h : F x) : F (szN x) ∧ A (szN x) = A x ∧ V (szN x) = A x := by
  unfold szN
  have h1 := ltF h zero_F.1
  rw [V_zero] at h1
  have hA := A_nn x
  cases hs : S x
  · have hV := V_pos hs
    have : ¬ V x < 0 := by grind
    rw [h1, decide_eq_false this]
    exact ⟨h, rfl, hV⟩
  · have hV := V_neg hs
    by_cases h0 : V x < 0
    · rw [h1, decide_eq_true h0]
      obtain ⟨f1, f2, f3⟩ := F_fneg h
      exact ⟨f1, f2, by show V (fneg x) = A x; rw [V_fneg h, hV]; grind⟩
    · rw [h1, decide_eq_false h0]
      exact ⟨h, rfl, by show V x = A x; grind⟩

set_option maxHeartbeats 400000 in
theorem sizeN_any (x : Nat) (w : World) :
    Calls Try.prog 75 #[.float .f32 x] w fun e w' => e = .returned (.float .f32 (szN x)) ∧ w = w' := by
  go_enter Try.func75, Try.ntmps75
  cases h : flt .f32 x 0
  · go_wp2
    all_goals (go_ret; exact ⟨by simp [szN, h], rfl⟩)
  · go_wp2
    all_goals (go_ret; exact ⟨by simp [szN, h], rfl⟩)

def mostN (a b : Nat) : Nat := if flt .f32 (szN a) (szN b) then szN b else szN a
def nearB (a b p l : Nat) : Bool := fle .f32 (szN (cop .sub a b)) (cop .add (cop .mul (mostN a b) p) l)

set_option maxHeartbeats 1000000 in
theorem a2Near_any (a b p l : Nat) (w : World) (hs : F (cop .sub a b)) :
    Calls Try.prog 40 #[.float .f32 a, .float .f32 b, .float .f32 p, .float .f32 l] w fun e w' => e = .returned (.bool (nearB a b p l)) ∧ Below w.heap.size w w' := by
  have hr := fun w0 => F_of_cn (cn_fval .sub a b w0) hs
  go_enter Try.func40, Try.ntmps40
  cases h : flt .f32 (szN a) (szN b)
  · go_wp2_with (first | (go_at_call 75; refine (sizeN_any _ _).mono ?_; rintro e w' ⟨rfl, rfl⟩))
    all_goals go_ret
    all_goals exact ⟨by simp [nearB, mostN, h, hr], by (repeat' (first | (with_reducible exact Below.refl _ _) | (with_reducible assumption) | (with_reducible refine Below.alloc ?_ ?_ _) | (with_reducible refine below_drewN ?_ _) | (with_reducible refine Below.drew ?_) | (with_reducible refine Below.setCell ?_ ?_ _) | (with_reducible exact Nat.le_refl _) | omega | (simp only [World.size_alloc, World.size_setCell, World.size_drew, World.heap_drewN]; omega) | (simp; omega)))⟩
  · go_wp2_with (first | (go_at_call 75; refine (sizeN_any _ _).mono ?_; rintro e w' ⟨rfl, rfl⟩))
    all_goals go_ret
    all_goals exact ⟨by simp [nearB, mostN, h, hr], by (repeat' (first | (with_reducible exact Below.refl _ _) | (with_reducible assumption) | (with_reducible refine Below.alloc ?_ ?_ _) | (with_reducible refine below_drewN ?_ _) | (with_reducible refine Below.drew ?_) | (with_reducible refine Below.setCell ?_ ?_ _) | (with_reducible exact Nat.le_refl _) | omega | (simp only [World.size_alloc, World.size_setCell, World.size_drew, World.heap_drewN]; omega) | (simp; omega)))⟩

theorem BytesAt.up {w : World} {g g' : Nat} {a : Option Addr} {n : Nat} (h : BytesAt w g a n) (hg : g ≤ g') : BytesAt w g' a n := by
  refine ⟨h.1, fun hn => ?_⟩
  obtain ⟨b, off, rfl, hb, hc⟩ := h.2 hn
  exact ⟨b, off, rfl, by omega, hc⟩
theorem bytes_go {w w' : World} {a : Option Addr} {n : Nat} (h : BytesAt w w.heap.size a n) (hb : Below w.heap.size w w') : BytesAt w' w'.heap.size a n := BytesAt.up (h.below hb) hb.size

end Go.Proofs.Ytljigmplmlhdnaa
