/- Contracts: how far buckets are filled ('min' of numbers). -/
import Derived.Test.YtmoilahabbfjeaaCtB
import Derived.Test.YtmoilahabbfjeaaSm
import Derived.Test.YtmoilahabbfjeaaLoB
import Derived.Laws.Cover2
import Derived.Lib.Hide
import Derived.RegionTactic
import Derived.BigRegion
namespace Go.Proofs.Ytmoilahabbfjeaa
open Go.RowKit

def MinNan (x y : Nat) (w : World) : Nat := (Question.nanMinMax .f32 false x y).cut (w.tape w.drawn (Question.nanMinMax .f32 false x y))
def mval (x y : Nat) (w : World) : Nat :=
  match FloatKind.f32.format.order x y with
  | none => MinNan x y w
  | some .lt => x
  | some .gt => y
  | some .eq => if (FloatKind.f32.decode x).neg then x else y
def mdn (x y : Nat) : Nat := if (FloatKind.f32.format.order x y).isSome then 0 else 1
def minC (x y : Nat) : Nat :=
  match FloatKind.f32.format.order x y with
  | none => nan0
  | some .lt => cn x
  | some .gt => cn y
  | some .eq => cn (if (FloatKind.f32.decode x).neg then x else y)

theorem minNan_nan (x y : Nat) (w : World) : isNan (MinNan x y w) = true := nanBits_nan x y (w.tape w.drawn (Question.nanMinMax .f32 false x y))
theorem cn_mval (x y : Nat) (w : World) : cn (mval x y w) = minC x y := by
  unfold mval minC
  split
  · exact cn_of_nan (minNan_nan x y w)
  · rfl
  · rfl
  · rfl
theorem minNan_lt (x y : Nat) (w : World) : MinNan x y w < 2 ^ 32 := by
  show (w.tape w.drawn (Question.nanMinMax .f32 false x y)) % 2 * 2 ^ 31 + 0x7f800000 + 1 + (w.tape w.drawn (Question.nanMinMax .f32 false x y)) / 2 % (2 ^ 23 - 1) < 2 ^ 32
  omega
theorem mval_lt {x y : Nat} (hx : x < 2 ^ 32) (hy : y < 2 ^ 32) (w : World) : mval x y w < 2 ^ 32 := by
  unfold mval
  split
  · exact minNan_lt x y w
  · exact hx
  · exact hy
  · split <;> assumption

@[go_sem] theorem run_min {P : Program} (w : World) (ts : Array TypeId) (t : TypeId) (x y : Nat) :
    (Builtin.min_ ts t #[.float .f32 x, .float .f32 y]).run P w = .ok (.float .f32 (mval x y w)) (w.drewN (mdn x y)) := by
  unfold Builtin.min_ mval mdn
  cases h : FloatKind.f32.format.order x y with
  | none => simp [Builtin.min2, h, choose, Sem.run, Question.forced, MinNan, World.drewN]
  | some o => cases o <;> simp [Builtin.min2, h, World.drewN_zero]

/-- How far buckets are filled. -/
def perC (n : Int) (flow speed : Nat) : Nat := cop .quo flow (cop .mul speed (floatOfInt .f32 n))
def fillC (n : Int) (holds flow speed : Nat) : Nat := if feq .f32 flow 0 then 0 else if feq .f32 speed 0 then cn holds else minC (perC n flow speed) holds
theorem cnS_zero : cn 0 = 0 := by decide +kernel

theorem min_congr {x x' y : Nat} (h : cn x = cn x') : minC x y = minC x' y := by
  have hn : isNan x = isNan x' := by rw [← isNan_cn x, h, isNan_cn]
  cases hx : isNan x
  · rw [cn_of_num hx, cn_of_num (by rw [← hn]; exact hx)] at h
    rw [h]
  · have e1 : FloatKind.f32.format.order x y = none := order_nan_l hx
    have e2 : FloatKind.f32.format.order x' y = none := order_nan_l (by rw [← hn]; exact hx)
    unfold minC
    rw [e1, e2]

set_option maxHeartbeats 1000000 in
theorem fill_any (g o : Nat) (n : Int) (holds r flow speed : Nat) (hh : holds < 2 ^ 32) (w : World) (h0 : w.cell? ⟨g, o, none⟩ = some (.int .i16 n)) (h1 : w.cell? ⟨g, o + 1, none⟩ = some (.float .f32 holds)) :
    Calls Try.prog 72 #[.pointer (some ⟨g, o, none⟩), .float .f32 flow, .float .f32 speed] w fun e w' => ∃ r k, e = .returned (.float .f32 r) ∧ cn r = fillC n holds flow speed ∧ r < 2 ^ 32 ∧ w.drewN k = w' := by
  go_enter Try.func72, Try.ntmps72
  cases hf : feq .f32 flow 0
  · cases hs : feq .f32 speed 0
    · go_wp2
      go_region
      all_goals go_wp2
      all_goals (go_ret; exact ⟨_, _, rfl, by rw [cn_mval, fillC, hf, hs]; exact min_congr (by simp [perC]), mval_lt (Loose.op_lt' _) hh _, rfl⟩)
    · go_wp2
      all_goals (go_ret; exact ⟨_, 0, rfl, by simp [fillC, hf, hs], hh, rfl⟩)
  · go_wp2
    all_goals (go_ret; exact ⟨0, 0, rfl, by simp [fillC, hf, cnS_zero], by omega, rfl⟩)

/-- Words that stand for one number that is not 0 are one word. -/
theorem word_of_eq {x y : Nat} (hx : x < 2 ^ 32) (hy : y < 2 ^ 32) (h : FloatKind.f32.format.order x y = some .eq) (hf : Flt.fin Ieee.single y = true) (h0 : Flt.rung Ieee.single y ≠ 0) : x = y := by
  have hsw : Ieee.single.signWeight = 2147483648 := by decide +kernel
  have hfx : Flt.fin Ieee.single x = true := by
    cases hc : Flt.fin Ieee.single x
    · exfalso
      have hr : ¬ Flt.rung Ieee.single x < Ieee.single.infRung := by
        have := hc
        unfold Flt.fin at this
        simpa using this
      have hB : ¬ Flt.rung Ieee.single x < Ieee.single.binade := fun hc => hr (Nat.lt_trans hc (by decide))
      obtain ⟨m, i, e, _⟩ := Flt.read_fin Ieee.single hf
      have h' : (Ieee.single.read x).order (Ieee.single.read y) = some .eq := h
      rw [e] at h'
      unfold Ieee.Format.read at h'
      unfold Flt.rung at hr hB
      simp only [hr, hB, if_false] at h'
      split at h'
      · cases hs : (x / Ieee.single.signWeight % 2 == 1) <;> rw [hs] at h' <;> simp [Ieee.Datum.order] at h'
      · simp [Ieee.Datum.order] at h'
    · rfl
  have h2 := Flt.order_fin Ieee.single hfx hf
  have h3 : Ieee.single.order x y = some .eq := h
  rw [h3] at h2
  have he : Flt.sg Ieee.single x = Flt.sg Ieee.single y := Int.compare_eq_eq.1 (Option.some.inj h2).symm
  have hm := Flt.mag_lt Ieee.single (show 0 < Flt.rung Ieee.single y by omega)
  rw [Flt.mag_zero] at hm
  have wx := Flt.word_eq Ieee.single (w := x) (by rw [hsw]; omega)
  have wy := Flt.word_eq Ieee.single (w := y) (by rw [hsw]; omega)
  have hk : Flt.sgn Ieee.single x = Flt.sgn Ieee.single y ∧ Flt.mag Ieee.single (Flt.rung Ieee.single x) = Flt.mag Ieee.single (Flt.rung Ieee.single y) := by
    unfold Flt.sg at he
    cases h1 : Flt.sgn Ieee.single x <;> cases h2 : Flt.sgn Ieee.single y <;> rw [h1, h2] at he <;> simp only [if_true, Bool.false_eq_true, if_false] at he <;> first | exact ⟨rfl, by omega⟩ | (exfalso; omega)
  rw [← wx, ← wy, hk.1, Flt.mag_inj Ieee.single hk.2]

theorem length_fin {y : Nat} (h : lengthB y = true) : Flt.fin Ieee.single y = true ∧ Flt.rung Ieee.single y ≠ 0 := by
  have hf := fin_of_length h
  obtain ⟨s, m, i, hr⟩ := isFin_read hf
  have hf2 : Flt.fin Ieee.single y = true := fin_of_number hr
  refine ⟨hf2, fun h0 => ?_⟩
  have h1 : fle .f32 1031798784 y = true := by
    unfold lengthB betB at h
    simp only [Bool.and_eq_true] at h
    exact h.1
  have h2 : FloatKind.f32.format.order 1031798784 y = some (compare (Flt.sg Ieee.single 1031798784) (Flt.sg Ieee.single y)) := Flt.order_fin _ (by decide +kernel) hf2
  have e0 : Flt.sg Ieee.single y = 0 := by
    unfold Flt.sg
    rw [h0, Flt.mag_zero]
    split <;> rfl
  have h3 : compare (Flt.sg Ieee.single 1031798784) 0 = .gt := by decide +kernel
  unfold fle flt feq at h1
  rw [h2, e0, h3] at h1
  simp at h1

theorem length_num {y : Nat} (h : lengthB y = true) : isNan y = false := by
  obtain ⟨s, m, i, hr⟩ := isFin_read (fin_of_length h)
  rw [isNan_iff, hr]
  rfl

/-- 'min' of a number and a length. -/
theorem min_length {x h : Nat} (hx : x < 2 ^ 32) (hh : h < 2 ^ 32) (hl : lengthB h = true) : minC x h = if flt .f32 h x then h else cn x := by
  have hn := length_num hl
  have hs := order_swap .f32 x h
  unfold minC flt
  cases ho : FloatKind.f32.format.order x h with
  | none =>
    rw [hs, ho]
    rcases order_none.1 ho with h1 | h1
    · rw [← isNan_iff] at h1
      simp [cn_of_nan h1]
    · rw [← isNan_iff, hn] at h1
      cases h1
  | some o =>
    rw [hs, ho]
    cases o with
    | lt => simp [Ordering.swap]
    | gt => simp [Ordering.swap, cn_of_num hn]
    | eq =>
      have := word_of_eq hx hh ho (length_fin hl).1 (length_fin hl).2
      subst this
      simp [Ordering.swap]

def millK (n : Int) (a b f s : Nat) : Int := if millB n a b then (if amountB f && speedB s then 0 else 2) else 1
theorem millK_ok {n : Int} {a b f s : Nat} (h : millK n a b f s = 0) : lengthB a = true := by
  unfold millK at h
  split at h
  · rename_i hm
    unfold millB at hm
    simp only [Bool.and_eq_true] at hm
    exact hm.1.2
  · simp at h

set_option maxHeartbeats 400000 in
theorem millCode_any (n : Int) (a b f s : Nat) (w : World) (h0 : -32768 ≤ n) (h1 : n ≤ 32767) :
    Calls Try.prog 73 #[.agg #[.int .i16 n, .float .f32 a, .float .f32 b], .float .f32 f, .float .f32 s] w fun e w' => e = .returned (.int .i64 (millK n a b f s)) ∧ Below w.heap.size w w' := by
  go_enter Try.func73, Try.ntmps73
  go_wp2_with (first | (go_at_call 57; refine (implValidMill_any _ _ _ _ h0 h1).mono ?_; rintro e w1 ⟨rfl, hb⟩) | (go_at_call 47; refine (impl_isAmount_any _ _).mono ?_; rintro e w' ⟨rfl, rfl⟩) | (go_at_call 91; refine (impl_isSpeed_any _ _).mono ?_; rintro e w' ⟨rfl, rfl⟩))
  all_goals (go_ret; exact ⟨by simp_all [millK], below_then (by (repeat' (first | (with_reducible exact Below.refl _ _) | (with_reducible assumption) | (with_reducible refine Below.alloc ?_ ?_ _) | (with_reducible refine below_drewN ?_ _) | (with_reducible refine Below.drew ?_) | (with_reducible refine Below.setCell ?_ ?_ _) | (with_reducible exact Nat.le_refl _) | omega | (simp only [World.size_alloc, World.size_setCell, World.size_drew, World.heap_drewN]; omega) | (simp; omega)))) hb⟩)

set_option maxHeartbeats 400000 in
theorem l03Asked_any (n : Int) (a b f s : Nat) (w : World) (h0 : -32768 ≤ n) (h1 : n ≤ 32767) :
    Calls Try.prog 70 #[.agg #[.int .i16 n, .float .f32 a, .float .f32 b], .float .f32 f, .float .f32 s] w fun e w' => e = .returned (.int .i64 (millK n a b f s)) ∧ Below w.heap.size w w' := by
  go_enter Try.func70, Try.ntmps70
  go_wp2_with (first | (go_at_call 83; refine (l03Mill_any _ _ _ _ h0 h1).mono ?_; rintro e w1 ⟨rfl, hb⟩) | (go_at_call 44; refine (l03Amount_any _ _).mono ?_; rintro e w' ⟨rfl, rfl⟩) | (go_at_call 90; refine (l03Speed_any _ _).mono ?_; rintro e w' ⟨rfl, rfl⟩))
  all_goals (go_ret; exact ⟨by simp_all [millK], below_then (by (repeat' (first | (with_reducible exact Below.refl _ _) | (with_reducible assumption) | (with_reducible refine Below.alloc ?_ ?_ _) | (with_reducible refine below_drewN ?_ _) | (with_reducible refine Below.drew ?_) | (with_reducible refine Below.setCell ?_ ?_ _) | (with_reducible exact Nat.le_refl _) | omega | (simp only [World.size_alloc, World.size_setCell, World.size_drew, World.heap_drewN]; omega) | (simp; omega)))) hb⟩)

/-- How far buckets are filled, as the reference says it. -/
def fillD (n : Int) (holds flow speed : Nat) : Nat := if feq .f32 flow 0 then 0 else if feq .f32 speed 0 then cn holds else if flt .f32 holds (perC n flow speed) then cn holds else perC n flow speed
theorem fill_same {n : Int} {holds flow speed : Nat} (hh : holds < 2 ^ 32) (hl : lengthB holds = true) (hp : perC n flow speed < 2 ^ 32) : fillC n holds flow speed = fillD n holds flow speed := by
  unfold fillC fillD
  rw [min_length hp hh hl]
  repeat' split
  · rfl
  · rfl
  · exact (cn_of_num (length_num hl)).symm
  · unfold perC; simp

theorem cop_lt (op : BinOp) (x y : Nat) : cop op x y < 2 ^ 32 := by
  unfold cop
  cases h : floatBits op .f32 x y with
  | some r =>
    have := floatBits_wf h
    simpa [Lit.wf] using this
  | none => decide

theorem boxed_mill (w : World) (t : TypeId) (n : Int) (a b : Nat) : ∃ W, w.alloc (.cells #[.int .i16 n, .float .f32 a, .float .f32 b] t) = W ∧ w.heap.size < W.heap.size ∧ Below w.heap.size w W ∧
    ∀ w1, BelowC W w1 → w1.cell? ⟨w.heap.size, 0, none⟩ = some (.int .i16 n) ∧ w1.cell? ⟨w.heap.size, 1, none⟩ = some (.float .f32 a) ∧ w1.cell? ⟨w.heap.size, 2, none⟩ = some (.float .f32 b) := by
  have c0 : (w.alloc (.cells #[.int .i16 n, .float .f32 a, .float .f32 b] t)).cell? ⟨w.heap.size, 0, none⟩ = some (.int .i16 n) := by simp [World.cell?_alloc_at]
  have c1 : (w.alloc (.cells #[.int .i16 n, .float .f32 a, .float .f32 b] t)).cell? ⟨w.heap.size, 1, none⟩ = some (.float .f32 a) := by simp [World.cell?_alloc_at]
  have c2 : (w.alloc (.cells #[.int .i16 n, .float .f32 a, .float .f32 b] t)).cell? ⟨w.heap.size, 2, none⟩ = some (.float .f32 b) := by simp [World.cell?_alloc_at]
  have hsz : w.heap.size < (w.alloc (.cells #[.int .i16 n, .float .f32 a, .float .f32 b] t)).heap.size := by simp
  exact ⟨_, rfl, hsz, Below.alloc (Below.refl _ _) (Nat.le_refl _) _, fun w1 h => ⟨BelowC.cell c0 hsz w1 h, BelowC.cell c1 hsz w1 h, BelowC.cell c2 hsz w1 h⟩⟩

set_option maxHeartbeats 1000000 in
theorem implFillOf_any (n : Int) (a b f s : Nat) (ha : a < 2 ^ 32) (w : World) (h0 : -32768 ≤ n) (h1 : n ≤ 32767) :
    Calls Try.prog 35 #[.agg #[.int .i16 n, .float .f32 a, .float .f32 b], .float .f32 f, .float .f32 s] w fun e w' => ∃ r, e = .returned (.tuple #[.float .f32 r, .int .i64 (millK n a b f s)]) ∧ cn r = okV (millK n a b f s) (fillC n a f s) ∧ r < 2 ^ 32 ∧ Below w.heap.size w w' := by
  have HN := Lib.hid (And.intro h0 h1)
  clear h0 h1
  go_enter Try.func35, Try.ntmps35
  go_wp2
  obtain ⟨W, hW, hsz, hbW, HB⟩ := boxed_mill w 36 n a b
  rw [hW]
  clear hW
  have q0 : ∀ w1, BelowC W w1 → _ := fun w1 h => (HB w1 h).1
  have q1 : ∀ w1, BelowC W w1 → _ := fun w1 h => (HB w1 h).2.1
  have q2 : ∀ w1, BelowC W w1 → _ := fun w1 h => (HB w1 h).2.2
  have HBW := Lib.hid HB
  clear HB
  have hdn := @BelowC.drewN W
  refine Loose.wp_region (BelowC W) (Loose.Tab [(72, fun _ v => ∃ r, v = .float .f32 r ∧ cn r = fillC n a f s ∧ r < 2 ^ 32), (73, fun _ v => v = .int .i64 (millK n a b f s)), (61, fun args v => ∃ r k, args = #[.float .f32 r, .int .i64 k] ∧ v = .tuple #[.float .f32 (okV k r), .int .i64 k])]) (by kernel_rfl) (by kernel_rfl) (BelowC.start W) ?_
  repeat' (first | (apply Loose.det; (focus rfl); (focus (intro wq hwq; go_simp; first | done | (with_reducible rfl))); (simp only [Act.put, List.setIfInBounds_toArray, List.set_cons_zero, List.set_cons_succ])) | (apply Loose.pass; (focus rfl); (simp only [Act.put, List.setIfInBounds_toArray, List.set_cons_zero, List.set_cons_succ])) | (apply Loose.callT; (focus rfl); (focus (intro wq hwq; go_simp; first | done | (with_reducible exact ⟨rfl, rfl⟩) | (with_reducible rfl))); (focus rfl); (focus (intro w1 h1; refine (fill_any _ 0 n a b f s ha _ (HBW.out _ h1).1 (HBW.out _ h1).2.1).mono ?_; rintro e w2 ⟨r, n, rfl, h2, h3, rfl⟩; exact ⟨_, rfl, ⟨r, rfl, h2, h3⟩, hdn _ _ h1⟩)); (rintro v ⟨r, rfl, hr, hl⟩; simp only [Act.put, List.setIfInBounds_toArray, List.set_cons_zero, List.set_cons_succ])) | (apply Loose.callT; (focus rfl); (focus (intro wq hwq; go_simp; first | done | (with_reducible exact ⟨rfl, rfl⟩) | (with_reducible rfl))); (focus rfl); (focus (intro w1 h1; refine (millCode_any n a b f s _ HN.out.1 HN.out.2).mono ?_; rintro e w2 ⟨rfl, h2⟩; exact ⟨_, rfl, rfl, h1.call h2⟩)); (rintro v rfl; simp only [Act.put, List.setIfInBounds_toArray, List.set_cons_zero, List.set_cons_succ])) | (apply Loose.callT; (focus rfl); (focus (intro wq hwq; go_simp; first | done | (with_reducible exact ⟨rfl, rfl⟩) | (with_reducible rfl))); (focus rfl); (focus (intro w1 h1; refine (orZero_any _ _ _).mono ?_; rintro e w2 ⟨rfl, rfl⟩; exact ⟨_, rfl, ⟨_, _, rfl, rfl⟩, h1⟩)); (rintro v ⟨r', k', he, rfl⟩; (simp only [Array.mk.injEq, List.cons.injEq, Value.float.injEq, Value.int.injEq, true_and, and_true] at he; obtain ⟨rfl, rfl⟩ := he); simp only [Act.put, List.setIfInBounds_toArray, List.set_cons_zero, List.set_cons_succ])))
  refine Loose.done ?_
  intro w9 h9
  go_wp2
  go_ret2
  exact ⟨_, rfl, okV_cn hr, okV_lt hl, hbW.trans (h9.mono (by omega))⟩

set_option maxHeartbeats 1000000 in
theorem l03Fill_any (n : Int) (a b f s : Nat) (ha : a < 2 ^ 32) (w : World) :
    Calls Try.prog 71 #[.agg #[.int .i16 n, .float .f32 a, .float .f32 b], .float .f32 f, .float .f32 s] w fun e w' => ∃ r, e = .returned (.float .f32 r) ∧ cn r = fillD n a f s ∧ r < 2 ^ 32 ∧ Below w.heap.size w w' := by
  go_enter Try.func71, Try.ntmps71
  cases hf : feq .f32 f 0
  · cases hs : feq .f32 s 0
    · go_wp2
      all_goals (go_ret; first | exact ⟨_, rfl, by simp_all [fillD, perC], by first | assumption | exact Loose.op_lt' _, by (repeat' (first | (with_reducible exact Below.refl _ _) | (with_reducible assumption) | (with_reducible refine Below.alloc ?_ ?_ _) | (with_reducible refine below_drewN ?_ _) | (with_reducible refine Below.drew ?_) | (with_reducible refine Below.setCell ?_ ?_ _) | (with_reducible exact Nat.le_refl _) | omega | (simp only [World.size_alloc, World.size_setCell, World.size_drew, World.heap_drewN]; omega) | (simp; omega)))⟩)
    · go_wp2
      all_goals (go_ret; exact ⟨_, rfl, by simp [fillD, hf, hs], ha, by (repeat' (first | (with_reducible exact Below.refl _ _) | (with_reducible assumption) | (with_reducible refine Below.alloc ?_ ?_ _) | (with_reducible refine below_drewN ?_ _) | (with_reducible refine Below.drew ?_) | (with_reducible refine Below.setCell ?_ ?_ _) | (with_reducible exact Nat.le_refl _) | omega | (simp only [World.size_alloc, World.size_setCell, World.size_drew, World.heap_drewN]; omega) | (simp; omega)))⟩)
  · go_wp2
    all_goals (go_ret; exact ⟨0, rfl, by simp [fillD, hf, cnS_zero], by omega, by (repeat' (first | (with_reducible exact Below.refl _ _) | (with_reducible assumption) | (with_reducible refine Below.alloc ?_ ?_ _) | (with_reducible refine below_drewN ?_ _) | (with_reducible refine Below.drew ?_) | (with_reducible refine Below.setCell ?_ ?_ _) | (with_reducible exact Nat.le_refl _) | omega | (simp only [World.size_alloc, World.size_setCell, World.size_drew, World.heap_drewN]; omega) | (simp; omega)))⟩)

set_option maxHeartbeats 1000000 in
theorem specFillOf_any (n : Int) (a b f s : Nat) (ha : a < 2 ^ 32) (w : World) (h0 : -32768 ≤ n) (h1 : n ≤ 32767) :
    Calls Try.prog 33 #[.agg #[.int .i16 n, .float .f32 a, .float .f32 b], .float .f32 f, .float .f32 s] w fun e w' => ∃ r, e = .returned (.tuple #[.float .f32 r, .int .i64 (millK n a b f s)]) ∧ cn r = okV (millK n a b f s) (fillD n a f s) ∧ r < 2 ^ 32 ∧ Below w.heap.size w w' := by
  generalize hK : millK n a b f s = K
  have HK := Lib.hid hK
  clear hK
  by_cases hk : K = 0
  · subst hk
    go_enter Try.func33, Try.ntmps33
    go_wp2_with (first | (go_at_call 70; refine (l03Asked_any n a b f s _ h0 h1).mono ?_; (rintro e w1 ⟨rfl, hb⟩; rw [HK.out]; obtain ⟨hc1, hf1, hz1⟩ := below_reads hb; simp only [World.size_alloc] at hc1 hf1 hz1)) | (go_at_call 71; refine (l03Fill_any n a b f s ha _).mono ?_; (rintro e w2 ⟨r, rfl, hr, hl, hb2⟩; have HR := Lib.hid hr; clear hr)))
    all_goals (go_ret2; exact ⟨_, rfl, by simp [okV, HR.out], hl, below_then (below_then (by (repeat' (first | (with_reducible exact Below.refl _ _) | (with_reducible assumption) | (with_reducible refine Below.alloc ?_ ?_ _) | (with_reducible refine below_drewN ?_ _) | (with_reducible refine Below.drew ?_) | (with_reducible refine Below.setCell ?_ ?_ _) | (with_reducible exact Nat.le_refl _) | omega | (simp only [World.size_alloc, World.size_setCell, World.size_drew, World.heap_drewN]; omega) | (simp; omega)))) hb) hb2⟩)
  · have hne : (K != 0) = true := by simpa using hk
    have hne2 : (K == 0) = false := by simpa using hk
    have hv : okV K (fillD n a f s) = 0 := if_neg hk
    rw [hv]
    clear hv
    go_enter Try.func33, Try.ntmps33
    go_wp2_with (go_at_call 70; refine (l03Asked_any n a b f s _ h0 h1).mono ?_; (rintro e w1 ⟨rfl, hb⟩; rw [HK.out]))
    all_goals (go_ret2; exact ⟨0, rfl, cn_zero, by omega, below_then (by (repeat' (first | (with_reducible exact Below.refl _ _) | (with_reducible assumption) | (with_reducible refine Below.alloc ?_ ?_ _) | (with_reducible refine below_drewN ?_ _) | (with_reducible refine Below.drew ?_) | (with_reducible refine Below.setCell ?_ ?_ _) | (with_reducible exact Nat.le_refl _) | omega | (simp only [World.size_alloc, World.size_setCell, World.size_drew, World.heap_drewN]; omega) | (simp; omega)))) hb⟩)

end Go.Proofs.Ytmoilahabbfjeaa
