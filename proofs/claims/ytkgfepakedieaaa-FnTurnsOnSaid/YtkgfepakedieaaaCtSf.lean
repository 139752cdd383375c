/- Contracts: drawn inputs of the great laws; their helpers. -/
import Derived.Test.YtkgfepakedieaaaCtSe
import Derived.Test.YtkgfepakedieaaaNeg
import Derived.Test.YtkgfepakedieaaaMk2
import Derived.Test.YtkgfepakedieaaaLoose2
import Derived.BigQuiet
namespace Go.Proofs.Ytkgfepakedieaaa
open Go.RowKit

theorem src_from (w : World) (a : Option Addr) (n cap : Nat) (h : BytesAt w w.heap.size a n) : Src (w.alloc (.cells #[.slice a n cap, .int .i64 0, .int .u64 0] 86)) w.heap.size 0 :=
  ⟨a, n, cap, 0, 0, own_lit w w.heap.size 86 (size := 3) 1 #[.slice a n cap, .int .i64 0, .int .u64 0] (Nat.le_refl _) (by decide) rfl, h.below ((Below.refl _ _).alloc (Nat.le_refl _) _), by omega, by omega⟩

set_option maxHeartbeats 1000000 in
theorem from_any (a : Option Addr) (n cap : Nat) (w : World) (h : BytesAt w w.heap.size a n) :
    Calls Try.prog 49 #[.slice a n cap] w fun e w' => e = .returned (.pointer (some ⟨w.heap.size, 0, none⟩)) ∧ Src w' w.heap.size 0 ∧ Below w.heap.size w w' := by
  have H := Lib.hid h
  clear h
  go_enter Try.func49, Try.ntmps49
  go_wp2
  all_goals go_ret
  all_goals exact ⟨rfl, src_from w a n cap H.out, by (repeat' (first | (with_reducible exact Below.refl _ _) | (with_reducible assumption) | (with_reducible refine Below.alloc ?_ ?_ _) | (with_reducible refine below_drewN ?_ _) | (with_reducible refine Below.drew ?_) | (with_reducible refine Below.setCell ?_ ?_ _) | (with_reducible exact Nat.le_refl _) | omega | (simp only [World.size_alloc, World.size_setCell, World.size_drew, World.heap_drewN]; omega) | (simp; omega)))⟩

/-- A train that was drawn. -/
def DrawnT (w : World) (e : Ending) (w' : World) : Prop :=
  ∃ (u : Value) (ps : List T3), e = .returned u ∧ w'.ownsRow w.heap.size 54 3 u ps.length (cellsT ps) ∧ (1 ≤ ps.length ∧ ps.length ≤ 4) ∧ (∀ p ∈ ps, pairB p = true ∧ F p.2.2) ∧ Below w.heap.size w w'

set_option maxHeartbeats 1000000 in
theorem a2Train_any (a : Option Addr) (n cap : Nat) (w : World) (h : BytesAt w w.heap.size a n) :
    Calls Try.prog 25 #[.slice a n cap] w (DrawnT w) := by
  have H := Lib.hid h
  clear h
  go_enter Try.func25, Try.ntmps25
  go_wp2_with fail
  refine (from_any a n cap w H.out).mono ?_
  rintro e w1 ⟨rfl, hs1, hb1⟩
  have s1 := hb1.size
  have hl := hs1.lt
  go_wp2_with fail
  refine (drawn_any _ 0 _ hs1 (by omega)).mono ?_
  rintro e w2 ⟨u, ps, rfl, ho, hl2, hps, hs2, hm2⟩
  go_wp2
  all_goals go_ret
  all_goals exact ⟨u, ps, rfl, own_base ho s1, hl2, hps, hb1.trans hm2.1⟩

set_option maxHeartbeats 1000000 in
theorem a2Number_any (a : Option Addr) (n cap : Nat) (w : World) (h : BytesAt w w.heap.size a n) :
    Calls Try.prog 26 #[.slice a n cap] w fun e w' => ∃ (r : Nat) (x : Int), e = .returned (.float .f32 r) ∧ cn r = fewC x ∧ r < 2 ^ 32 ∧ 0 ≤ x ∧ x < 65 ∧ Below w.heap.size w w' := by
  have H := Lib.hid h
  clear h
  go_enter Try.func26, Try.ntmps26
  go_wp2_with fail
  refine (from_any a n cap w H.out).mono ?_
  rintro e w1 ⟨rfl, hs1, hb1⟩
  go_wp2_with fail
  refine (few_any _ 0 _ hs1 (by omega)).mono ?_
  rintro e w2 ⟨u, rfl, ⟨r, x, rfl, hr, hl, x0, x1⟩, hs2, hm2⟩
  go_wp2
  all_goals go_ret
  all_goals exact ⟨_, x, rfl, hr, hl, x0, x1, hb1.trans hm2.1⟩

set_option maxHeartbeats 1000000 in
theorem a2Long_any (a b : Option Addr) (n m c d : Nat) (w : World) (hn : n ≤ maxLen) (hm : m ≤ maxLen) :
    Calls Try.prog 24 #[.slice a n c, .slice b m d] w fun e w' => e = .returned (.bool (decide (3000 < (n : Int)) || decide (3000 < (m : Int)))) ∧ w = w' := by
  have hn2 : n ≤ 9223372036854775807 := by simpa [maxLen] using hn
  have hm2 : m ≤ 9223372036854775807 := by simpa [maxLen] using hm
  go_enter Try.func24, Try.ntmps24
  by_cases h1 : (3000 : Int) < (n : Int)
  · go_wp2
    all_goals (go_ret; exact ⟨by simp_all <;> omega, rfl⟩)
  · go_wp2
    all_goals (go_ret; exact ⟨by simp_all <;> omega, rfl⟩)

set_option maxHeartbeats 1000000 in
theorem a2At_any (a : Option Addr) (n cap : Nat) (i m : Int) (w : World) (h : BytesAt w w.heap.size a n) (h0 : 0 ≤ i) (h1 : 1 ≤ m) (h2 : m ≤ 1000) :
    Calls Try.prog 35 #[.slice a n cap, .int .i64 i, .int .i64 m] w fun e w' => ∃ x : Int, e = .returned (.int .i64 x) ∧ (0 ≤ x ∧ x < m) ∧ w = w' := by
  have hn2 : n ≤ 9223372036854775807 := by have := h.1; simpa [maxLen] using this
  go_enter Try.func35, Try.ntmps35
  by_cases hi : (n : Int) ≤ i
  · clear h
    go_wp2
    all_goals (go_ret; exact ⟨_, rfl, by omega, rfl⟩)
  · obtain ⟨j, rfl⟩ : ∃ j : Nat, i = (j : Int) := ⟨i.toNat, by omega⟩
    obtain ⟨b, off, rfl, hb, hc⟩ := h.2 (by omega)
    obtain ⟨y, hy, y0, y1⟩ := hc j (by omega)
    clear h hc
    have hm : ¬ m < 1 := by omega
    go_wp2
    all_goals go_ret
    all_goals exact ⟨_, rfl, emod_in h1, rfl⟩

theorem V_zero : V 0 = 0 := by
  obtain ⟨z1, z2, z3⟩ := zero_F
  rw [V_pos z2, z3]
theorem F_fneg {x : Nat} (h : F x) : F (fneg x) ∧ A (fneg x) = A x ∧ S (fneg x) = !S x := by
  have hs : Ieee.single.signWeight = 2147483648 := single_sign'
  have hx := h.2
  have key : Flt.rung Ieee.single (fneg x) = Flt.rung Ieee.single x ∧ Flt.sgn Ieee.single (fneg x) = !Flt.sgn Ieee.single x := by
    unfold Flt.rung Flt.sgn
    rw [hs]
    rcases Nat.lt_or_ge x 2147483648 with h1 | h1
    · rw [fneg_small h1]
      constructor
      · omega
      · have e1 : (2147483648 + x) / 2147483648 % 2 = 1 := by omega
        have e2 : x / 2147483648 % 2 = 0 := by omega
        rw [e1, e2]
        rfl
    · obtain ⟨y, rfl⟩ : ∃ y, x = 2147483648 + y := ⟨x - 2147483648, by omega⟩
      have hy : y < 2147483648 := by omega
      rw [fneg_big hy]
      constructor
      · omega
      · have e1 : (2147483648 + y) / 2147483648 % 2 = 1 := by omega
        have e2 : y / 2147483648 % 2 = 0 := by omega
        rw [e1, e2]
        rfl
  refine ⟨⟨?_, fneg_lt hx⟩, ?_, key.2⟩
  · have := h.1
    unfold Flt.fin at this ⊢
    rw [key.1]
    exact this
  · show Flt.A Ieee.single _ = Flt.A Ieee.single _
    unfold Flt.A
    rw [key.1]
theorem V_fneg {x : Nat} (h : F x) : V (fneg x) = -V x := by
  obtain ⟨_, h2, h3⟩ := F_fneg h
  cases hs : S x
  · rw [hs] at h3
    rw [V_neg h3, V_pos hs, h2]
  · rw [hs] at h3
    rw [V_pos h3, V_neg hs, h2]
    grind

def szN (x : Nat) : Nat := if flt .f32 x 0 then fneg x else x
theorem szN_F {x : Nat} (h : F x) : F (szN x) ∧ A (szN x) = A x ∧ V (szN x) = A x := by
  unfold szN
  have h1 := ltF h zero_F.1
  rw [V_zero] at h1
  have hA := A_nn x
  cases hs : S x
  · have hV := V_pos hs
    have : ¬ V x < 0 := by grind
    rw [h1, decide_eq_false this]
    exact ⟨h, rfl, hV⟩
  · have hV := V_neg hs
    by_cases h0 : V x < 0
    · rw [h1, decide_eq_true h0]
      obtain ⟨f1, f2, f3⟩ := F_fneg h
      exact ⟨f1, f2, by show V (fneg x) = A x; rw [V_fneg h, hV]; grind⟩
    · rw [h1, decide_eq_false h0]
      exact ⟨h, rfl, by show V x = A x; grind⟩

set_option maxHeartbeats 400000 in
theorem sizeN_any (x : Nat) (w : World) :
    Calls Try.prog 55 #[.float .f32 x] w fun e w' => e = .returned (.float .f32 (szN x)) ∧ w = w' := by
  go_enter Try.func55, Try.ntmps55
  cases h : flt .f32 x 0
  · go_wp2
    all_goals (go_ret; exact ⟨by simp [szN, h], rfl⟩)
  · go_wp2
    all_goals (go_ret; exact ⟨by simp [szN, h], rfl⟩)

def mostN (a b : Nat) : Nat := if flt .f32 (szN a) (szN b) then szN b else szN a
def nearB (a b p l : Nat) : Bool := fle .f32 (szN (cop .sub a b)) (cop .add (cop .mul (mostN a b) p) l)

set_option maxHeartbeats 1000000 in
theorem a2Near_any (a b p l : Nat) (w : World) (hs : F (cop .sub a b)) :
    Calls Try.prog 32 #[.float .f32 a, .float .f32 b, .float .f32 p, .float .f32 l] w fun e w' => e = .returned (.bool (nearB a b p l)) ∧ Below w.heap.size w w' := by
  have hr := fun w0 => F_of_cn (cn_fval .sub a b w0) hs
  go_enter Try.func32, Try.ntmps32
  cases h : flt .f32 (szN a) (szN b)
  · go_wp2_with (first | (go_at_call 55; refine (sizeN_any _ _).mono ?_; rintro e w' ⟨rfl, rfl⟩))
    all_goals go_ret
    all_goals exact ⟨by simp [nearB, mostN, h, hr], by (repeat' (first | (with_reducible exact Below.refl _ _) | (with_reducible assumption) | (with_reducible refine Below.alloc ?_ ?_ _) | (with_reducible refine below_drewN ?_ _) | (with_reducible refine Below.drew ?_) | (with_reducible refine Below.setCell ?_ ?_ _) | (with_reducible exact Nat.le_refl _) | omega | (simp only [World.size_alloc, World.size_setCell, World.size_drew, World.heap_drewN]; omega) | (simp; omega)))⟩
  · go_wp2_with (first | (go_at_call 55; refine (sizeN_any _ _).mono ?_; rintro e w' ⟨rfl, rfl⟩))
    all_goals go_ret
    all_goals exact ⟨by simp [nearB, mostN, h, hr], by (repeat' (first | (with_reducible exact Below.refl _ _) | (with_reducible assumption) | (with_reducible refine Below.alloc ?_ ?_ _) | (with_reducible refine below_drewN ?_ _) | (with_reducible refine Below.drew ?_) | (with_reducible refine Below.setCell ?_ ?_ _) | (with_reducible exact Nat.le_refl _) | omega | (simp only [World.size_alloc, World.size_setCell, World.size_drew, World.heap_drewN]; omega) | (simp; omega)))⟩

set_option maxHeartbeats 400000 in
theorem finite_any (x : Nat) (w : World) (h : F x) :
    Calls Try.prog 54 #[.float .f32 x] w fun e w' => e = .returned (.bool true) ∧ Below w.heap.size w w' := by
  have hab : Flt.ab (V x - V x) < 2 ^ (126 : Int) := by
    have e : V x - V x = 0 := by grind
    rw [e]
    decide +kernel
  obtain ⟨f1, f2⟩ := subF h h hab
  have hr := fun w0 => F_of_cn (cn_fval .sub x x w0) f1
  have e : V x - V x = 0 := by grind
  have hA : A (cop .sub x x) = 0 := by
    have h2 := f2.2.1
    rw [e] at h2
    exact Flt.Near.zero h2 (A_nn _)
  have hV : V (cop .sub x x) = 0 := by
    cases hs : S (cop .sub x x)
    · rw [V_pos hs, hA]
    · rw [V_neg hs, hA]; rfl
  have hq := eqF f1 zero_F.1
  rw [hV, V_zero] at hq
  go_enter Try.func54, Try.ntmps54
  go_wp2
  all_goals go_ret
  all_goals exact ⟨by simp [hr, hq], by (repeat' (first | (with_reducible exact Below.refl _ _) | (with_reducible assumption) | (with_reducible refine Below.alloc ?_ ?_ _) | (with_reducible refine below_drewN ?_ _) | (with_reducible refine Below.drew ?_) | (with_reducible refine Below.setCell ?_ ?_ _) | (with_reducible exact Nat.le_refl _) | omega | (simp only [World.size_alloc, World.size_setCell, World.size_drew, World.heap_drewN]; omega) | (simp; omega)))⟩

set_option maxHeartbeats 400000 in
theorem a2Finite_any (x : Nat) (w : World) (h : F x) :
    Calls Try.prog 31 #[.float .f32 x] w fun e w' => e = .returned (.bool true) ∧ Below w.heap.size w w' := by
  go_enter Try.func31, Try.ntmps31
  go_wp2_with (go_at_call 54; refine (finite_any x _ h).mono ?_; rintro e w1 ⟨rfl, hb1⟩)
  all_goals (go_ret; exact ⟨rfl, hb1⟩)

end Go.Proofs.Ytkgfepakedieaaa
