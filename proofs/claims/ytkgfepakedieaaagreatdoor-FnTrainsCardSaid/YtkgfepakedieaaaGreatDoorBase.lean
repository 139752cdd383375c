/- Floats in the walk, and comparisons on them. -/
import Derived.Test.YtkgfepakedieaaaGreatDoorRows
import Derived.WalkKit
import Derived.WalkSpells
import Derived.WalkLawsBesides
namespace Go.Proofs.YtkgfepakedieaaaGreatDoor
open Go.RowKit

def NanOf (k : FloatKind) (x y : Nat) (w : World) : Nat := (Question.nanBits k x y).cut (w.tape w.drawn (Question.nanBits k x y))
def fval (op : BinOp) (k : FloatKind) (x y : Nat) (w : World) : Nat := (floatBits op k x y).getD (NanOf k x y w)
def fdn (op : BinOp) (k : FloatKind) (x y : Nat) : Nat := if (floatBits op k x y).isSome then 0 else 1

section
variable {P : Program} (w : World) (t : TypeId) (k : FloatKind) (x y : Nat)
theorem run_fany (op : BinOp) (h : op = .add ∨ op = .sub ∨ op = .mul ∨ op = .quo) : (binOp op t (.float k x) (.float k y)).run P w = .ok (.float k (fval op k x y w)) (w.drewN (fdn op k x y)) := by
  cases h' : floatBits op k x y with
  | some r =>
    rw [run_float_arith w op t k x y r h']
    simp [fval, fdn, h', World.drewN_zero]
  | none =>
    simp only [fval, fdn, h']
    unfold floatBits at h'
    rcases h with rfl | rfl | rfl | rfl <;> simp only at h' <;> simp [binOp, Op.floatArith, h', choose, Sem.run, Question.forced, NanOf, World.drewN]
@[go_sem] theorem run_fadd : (binOp .add t (.float k x) (.float k y)).run P w = .ok (.float k (fval .add k x y w)) (w.drewN (fdn .add k x y)) := run_fany w t k x y .add (by simp)
@[go_sem] theorem run_fsub : (binOp .sub t (.float k x) (.float k y)).run P w = .ok (.float k (fval .sub k x y w)) (w.drewN (fdn .sub k x y)) := run_fany w t k x y .sub (by simp)
@[go_sem] theorem run_fmul : (binOp .mul t (.float k x) (.float k y)).run P w = .ok (.float k (fval .mul k x y w)) (w.drewN (fdn .mul k x y)) := run_fany w t k x y .mul (by simp)
@[go_sem] theorem run_fquo : (binOp .quo t (.float k x) (.float k y)).run P w = .ok (.float k (fval .quo k x y w)) (w.drewN (fdn .quo k x y)) := run_fany w t k x y .quo (by simp)
end

/-! comparisons -/
def flt (k : FloatKind) (x y : Nat) : Bool := k.format.order x y == some .lt
def feq (k : FloatKind) (x y : Nat) : Bool := k.format.order x y == some .eq
def fle (k : FloatKind) (x y : Nat) : Bool := flt k x y || feq k x y

theorem datum_swap (x y : Ieee.Datum) : y.order x = (x.order y).map Ordering.swap := by
  cases x with
  | nan => cases y <;> rfl
  | infinity s =>
    cases y with
    | nan => rfl
    | infinity t => cases s <;> cases t <;> rfl
    | number => cases s <;> rfl
  | number s m i =>
    cases y with
    | nan => rfl
    | infinity t => cases t <;> rfl
    | number t n j =>
      simp only [Ieee.Datum.order, Option.map_some, Int.min_comm i j]
      congr 1
      exact Std.OrientedOrd.eq_swap
theorem order_swap (k : FloatKind) (x y : Nat) : k.format.order y x = (k.format.order x y).map Ordering.swap := datum_swap _ _
@[go_sem] theorem fold_lt (k : FloatKind) (x y : Nat) : (k.format.order x y == some .lt) = flt k x y := rfl
@[go_sem] theorem fold_eq (k : FloatKind) (x y : Nat) : (k.format.order x y == some .eq) = feq k x y := rfl
@[go_sem] theorem fold_ne (k : FloatKind) (x y : Nat) : (k.format.order x y != some .eq) = !feq k x y := rfl
@[go_sem] theorem fold_gt (k : FloatKind) (x y : Nat) : (k.format.order x y == some .gt) = flt k y x := by
  unfold flt
  rw [order_swap k x y]
  cases k.format.order x y with
  | none => rfl
  | some o => cases o <;> rfl
theorem feq_comm (k : FloatKind) (x y : Nat) : feq k x y = feq k y x := by
  unfold feq
  rw [order_swap k x y]
  cases k.format.order x y with
  | none => rfl
  | some o => cases o <;> rfl
@[go_sem] theorem fold_le (k : FloatKind) (x y : Nat) : (flt k x y || feq k x y) = fle k x y := rfl
@[go_sem] theorem fold_ge (k : FloatKind) (x y : Nat) : (flt k y x || feq k x y) = fle k y x := by rw [feq_comm]; rfl

@[go_sem] theorem run_store_float (P : Program) (w : World) (a : Addr) (m : Mode) (k : FloatKind) (n : Nat) : (store a (.float k n) m).run P w = stored P w a (.float k n) m := run_store P w a _ m rfl

def betB (x lo hi : Nat) : Bool := fle .f32 lo x && fle .f32 x hi
def lengthB (x : Nat) : Bool := betB x 1031798784 1149239296
def partB (x : Nat) : Bool := betB x 0 1065353216
def plainB (x : Nat) : Bool := betB x 3380609024 1233125376
def amountB (x : Nat) : Bool := betB x 0 1233125376
def speedB (x : Nat) : Bool := betB x 0 1149239296
def isNan (x : Nat) : Bool := !feq .f32 x x
def sameB (a b : Nat) : Bool := (isNan a && isNan b) || a == b
def withinB (n lo hi : Int) : Bool := decide (lo ≤ n) && decide (n ≤ hi)

@[go_sem] theorem fold_nan (x : Nat) : (!feq .f32 x x) = isNan x := rfl
theorem natCast_beq (a b : Nat) : ((a : Int) == (b : Int)) = (a == b) := by
  rw [Bool.eq_iff_iff]; simp [Int.natCast_inj]

/-! the canonical value: one NaN -/
def nan0 : Nat := 2143289344
/-- The number itself; one NaN for all. -/
def cn (x : Nat) : Nat := if isNan x then nan0 else x
/-- What an operation gives, one NaN for all. -/
def cop (op : BinOp) (x y : Nat) : Nat := (floatBits op .f32 x y).getD nan0

theorem order_none {x y : Nat} : FloatKind.f32.format.order x y = none ↔ (FloatKind.f32.format.read x).isNaN ∨ (FloatKind.f32.format.read y).isNaN := by
  unfold Ieee.Format.order
  cases FloatKind.f32.format.read x <;> cases FloatKind.f32.format.read y <;> simp [Ieee.Datum.order, Ieee.Datum.isNaN]

theorem order_self {x : Nat} (h : (FloatKind.f32.format.read x).isNaN = false) : FloatKind.f32.format.order x x = some .eq := by
  unfold Ieee.Format.order
  cases hx : FloatKind.f32.format.read x with
  | nan => rw [hx] at h; simp [Ieee.Datum.isNaN] at h
  | infinity s => simp [Ieee.Datum.order]
  | number s m i => simp [Ieee.Datum.order]

theorem isNan_iff (x : Nat) : isNan x = (FloatKind.f32.format.read x).isNaN := by
  cases h : (FloatKind.f32.format.read x).isNaN with
  | true =>
    have : FloatKind.f32.format.order x x = none := order_none.2 (Or.inl h)
    simp [isNan, feq, this]
  | false => simp [isNan, feq, order_self h]

theorem order_nan_l {x y : Nat} (h : isNan x = true) : FloatKind.f32.format.order x y = none := order_none.2 (Or.inl (by rw [← isNan_iff]; exact h))
theorem order_nan_r {x y : Nat} (h : isNan y = true) : FloatKind.f32.format.order x y = none := order_none.2 (Or.inr (by rw [← isNan_iff]; exact h))

theorem nan0_isNan : isNan nan0 = true := by rw [isNan_iff]; decide +kernel

theorem cn_of_nan {x : Nat} (h : isNan x = true) : cn x = nan0 := by simp [cn, h]
theorem cn_of_num {x : Nat} (h : isNan x = false) : cn x = x := by simp [cn, h]
@[simp] theorem isNan_cn (x : Nat) : isNan (cn x) = isNan x := by
  cases h : isNan x
  · rw [cn_of_num h, h]
  · rw [cn_of_nan h, nan0_isNan]
@[simp] theorem cn_cn (x : Nat) : cn (cn x) = cn x := by
  cases h : isNan x
  · rw [cn_of_num h, cn_of_num h]
  · rw [cn_of_nan h, cn_of_nan nan0_isNan]
theorem order_cn_l (x y : Nat) : FloatKind.f32.format.order (cn x) y = FloatKind.f32.format.order x y := by
  cases h : isNan x
  · rw [cn_of_num h]
  · rw [order_nan_l h, order_nan_l (by rw [isNan_cn]; exact h)]
theorem order_cn_r (x y : Nat) : FloatKind.f32.format.order x (cn y) = FloatKind.f32.format.order x y := by
  cases h : isNan y
  · rw [cn_of_num h]
  · rw [order_nan_r h, order_nan_r (by rw [isNan_cn]; exact h)]
theorem fle_cn_l (x y : Nat) : fle .f32 (cn x) y = fle .f32 x y := by unfold fle flt feq; rw [order_cn_l]
theorem fle_cn_r (x y : Nat) : fle .f32 x (cn y) = fle .f32 x y := by unfold fle flt feq; rw [order_cn_r]
theorem flt_cn_l (x y : Nat) : flt .f32 (cn x) y = flt .f32 x y := by unfold flt; rw [order_cn_l]
theorem flt_cn_r (x y : Nat) : flt .f32 x (cn y) = flt .f32 x y := by unfold flt; rw [order_cn_r]
theorem feq_cn_l (x y : Nat) : feq .f32 (cn x) y = feq .f32 x y := by unfold feq; rw [order_cn_l]
theorem feq_cn_r (x y : Nat) : feq .f32 x (cn y) = feq .f32 x y := by unfold feq; rw [order_cn_r]

theorem read_nan {x : Nat} (h : isNan x = true) : ∃ s t, FloatKind.f32.format.read x = .nan s t := by
  rw [isNan_iff] at h
  cases hx : FloatKind.f32.format.read x with
  | nan s t => exact ⟨s, t, rfl⟩
  | infinity s => rw [hx] at h; simp [Ieee.Datum.isNaN] at h
  | number s m i => rw [hx] at h; simp [Ieee.Datum.isNaN] at h

theorem floatBits_nan_l {op : BinOp} {x y : Nat} (h : isNan x = true) : floatBits op .f32 x y = none := by
  obtain ⟨s, t, hx⟩ := read_nan h
  cases op <;> simp [floatBits, Ieee.Format.add, Ieee.Format.sub, Ieee.Format.mul, Ieee.Format.div, hx, Ieee.Datum.sum, Ieee.Datum.product, Ieee.Datum.quotient]
theorem floatBits_nan_r {op : BinOp} {x y : Nat} (h : isNan y = true) : floatBits op .f32 x y = none := by
  obtain ⟨s, t, hx⟩ := read_nan h
  cases op <;> simp [floatBits, Ieee.Format.add, Ieee.Format.sub, Ieee.Format.mul, Ieee.Format.div, hx, Ieee.Datum.opposite, Ieee.Datum.sum, Ieee.Datum.product, Ieee.Datum.quotient] <;> cases FloatKind.f32.format.read x <;> rfl

theorem floatBits_cn (op : BinOp) (x y : Nat) : floatBits op .f32 (cn x) (cn y) = floatBits op .f32 x y := by
  cases hx : isNan x
  · cases hy : isNan y
    · rw [cn_of_num hx, cn_of_num hy]
    · rw [floatBits_nan_r hy, floatBits_nan_r (by rw [isNan_cn]; exact hy)]
  · rw [floatBits_nan_l hx, floatBits_nan_l (by rw [isNan_cn]; exact hx)]
theorem cop_congr {op : BinOp} {x y x' y' : Nat} (hx : cn x = cn x') (hy : cn y = cn y') : cop op x y = cop op x' y' := by
  unfold cop
  rw [← floatBits_cn op x y, hx, hy, floatBits_cn]
theorem cop_cn (op : BinOp) (x y : Nat) : cop op (cn x) (cn y) = cop op x y := cop_congr (cn_cn x) (cn_cn y)
@[simp] theorem cop_cn_l (op : BinOp) (x y : Nat) : cop op (cn x) y = cop op x y := cop_congr (cn_cn x) rfl
@[simp] theorem cop_cn_r (op : BinOp) (x y : Nat) : cop op x (cn y) = cop op x y := cop_congr rfl (cn_cn y)

theorem read_infinity (s : Bool) : FloatKind.f32.format.read (FloatKind.f32.format.write (.infinity s)) = .infinity s := by cases s <;> decide +kernel

theorem word_not_nan (neg : Bool) (r : Nat) (h : r ≤ Ieee.single.infRung) : (Ieee.single.read (Ieee.single.word neg r)).isNaN = false := by
  have hi : Ieee.single.infRung = 2139095040 := by decide +kernel
  have hw : Ieee.single.signWeight = 2147483648 := by decide +kernel
  rw [hi] at h
  have hr : Ieee.single.word neg r % Ieee.single.signWeight = r := by
    unfold Ieee.Format.word
    rw [hw]
    cases neg <;> simp <;> omega
  unfold Ieee.Format.read
  simp only [hr, hi]
  repeat' split
  all_goals first | rfl | omega

theorem write_not_nan (d : Ieee.Datum) (h : d.isNaN = false) : isNan (FloatKind.f32.format.write d) = false := by
  rw [isNan_iff]
  cases d with
  | nan => simp [Ieee.Datum.isNaN] at h
  | infinity s => exact word_not_nan s _ (Nat.le_refl _)
  | number s m i =>
    show (Ieee.single.read (Ieee.single.nearest s m i)).isNaN = false
    unfold Ieee.Format.nearest
    dsimp only
    split
    · exact word_not_nan _ _ (Nat.zero_le _)
    · exact word_not_nan _ _ (Nat.min_le_right _ _)

theorem map_write_not_nan {d : Option Ieee.Datum} {r : Nat} (hd : ∀ x, d = some x → x.isNaN = false) (h : d.map FloatKind.f32.format.write = some r) : isNan r = false := by
  cases d with
  | none => cases h
  | some x => cases h; exact write_not_nan x (hd x rfl)

theorem floatBits_not_nan {op : BinOp} {x y r : Nat} (h : floatBits op .f32 x y = some r) : isNan r = false := by
  unfold floatBits at h
  split at h
  · refine map_write_not_nan (fun z hz => ?_) h
    revert hz
    cases FloatKind.f32.format.read x <;> cases FloatKind.f32.format.read y <;> simp [Ieee.Datum.sum] <;> (intros; subst_vars; first | rfl | (simp_all [Ieee.Datum.isNaN]; done) | skip)
    all_goals (rename_i hz; split at hz <;> first | (cases hz; rfl) | cases hz)
  · refine map_write_not_nan (fun z hz => ?_) h
    revert hz
    cases FloatKind.f32.format.read x <;> cases FloatKind.f32.format.read y <;> simp [Ieee.Datum.sum, Ieee.Datum.opposite] <;> (intros; subst_vars; first | rfl | (simp_all [Ieee.Datum.isNaN]; done) | skip)
  · refine map_write_not_nan (fun z hz => ?_) h
    revert hz
    cases FloatKind.f32.format.read x <;> cases FloatKind.f32.format.read y <;> simp [Ieee.Datum.product] <;> (intros; subst_vars; first | rfl | (simp_all [Ieee.Datum.isNaN]; done) | skip)
  · refine map_write_not_nan (fun z hz => ?_) h
    revert hz
    cases FloatKind.f32.format.read x <;> cases FloatKind.f32.format.read y <;> simp [Ieee.Datum.quotient] <;> (intros; subst_vars; first | rfl | (simp_all [Ieee.Datum.isNaN]; done) | skip)
    all_goals (rename_i hz; (repeat' split at hz) <;> first | (cases hz; rfl) | cases hz)
  · cases h

theorem nanBits_nan (x y t : Nat) : isNan ((Question.nanBits .f32 x y).cut t) = true := by
  rw [isNan_iff]
  have hi : Ieee.single.infRung = 2139095040 := by decide +kernel
  have hw : Ieee.single.signWeight = 2147483648 := by decide +kernel
  have hb : Ieee.single.binade = 8388608 := by decide +kernel
  show (Ieee.single.read (t % 2 * 2 ^ 31 + 0x7f800000 + 1 + t / 2 % (2 ^ 23 - 1))).isNaN = true
  have hr : (t % 2 * 2 ^ 31 + 0x7f800000 + 1 + t / 2 % (2 ^ 23 - 1)) % Ieee.single.signWeight = 0x7f800000 + 1 + t / 2 % (2 ^ 23 - 1) := by rw [hw]; omega
  unfold Ieee.Format.read
  simp only [hr, hi, hb]
  rw [if_neg (by omega), if_neg (by omega), if_neg (by omega)]
  rfl
theorem nanOf_nan (x y : Nat) (w : World) : isNan (NanOf .f32 x y w) = true := nanBits_nan _ _ _

theorem cn_nan0 : cn nan0 = nan0 := cn_of_nan nan0_isNan
@[simp] theorem cn_fval (op : BinOp) (x y : Nat) (w : World) : cn (fval op .f32 x y w) = cop op x y := by
  unfold fval cop
  cases h : floatBits op .f32 x y with
  | none => exact cn_of_nan (nanOf_nan x y w)
  | some r => exact cn_of_num (floatBits_not_nan h)
@[simp] theorem cn_cop (op : BinOp) (x y : Nat) : cn (cop op x y) = cop op x y := by
  unfold cop
  cases h : floatBits op .f32 x y with
  | none => exact cn_nan0
  | some r => exact cn_of_num (floatBits_not_nan h)
@[simp] theorem cop_fval_l (op o : BinOp) (x y z : Nat) (w : World) : cop op (fval o .f32 x y w) z = cop op (cop o x y) z := cop_congr (by simp) rfl
@[simp] theorem cop_fval_r (op o : BinOp) (x y z : Nat) (w : World) : cop op z (fval o .f32 x y w) = cop op z (cop o x y) := cop_congr rfl (by simp)
@[simp] theorem fle_fval_l (o : BinOp) (x y z : Nat) (w : World) : fle .f32 (fval o .f32 x y w) z = fle .f32 (cop o x y) z := by rw [← fle_cn_l, cn_fval]
@[simp] theorem fle_fval_r (o : BinOp) (x y z : Nat) (w : World) : fle .f32 z (fval o .f32 x y w) = fle .f32 z (cop o x y) := by rw [← fle_cn_r, cn_fval]
@[simp] theorem flt_fval_l (o : BinOp) (x y z : Nat) (w : World) : flt .f32 (fval o .f32 x y w) z = flt .f32 (cop o x y) z := by rw [← flt_cn_l, cn_fval]
@[simp] theorem flt_fval_r (o : BinOp) (x y z : Nat) (w : World) : flt .f32 z (fval o .f32 x y w) = flt .f32 z (cop o x y) := by rw [← flt_cn_r, cn_fval]
@[simp] theorem feq_fval_l (o : BinOp) (x y z : Nat) (w : World) : feq .f32 (fval o .f32 x y w) z = feq .f32 (cop o x y) z := by rw [← feq_cn_l, cn_fval]
@[simp] theorem feq_fval_r (o : BinOp) (x y z : Nat) (w : World) : feq .f32 z (fval o .f32 x y w) = feq .f32 z (cop o x y) := by rw [← feq_cn_r, cn_fval]

/-- A finite number (a zero among them). -/
def isFin (x : Nat) : Bool := match FloatKind.f32.format.read x with | .number .. => true | _ => false
theorem isFin_read {x : Nat} (h : isFin x = true) : ∃ s m i, FloatKind.f32.format.read x = .number s m i := by
  unfold isFin at h
  split at h
  · rename_i s m i hx; exact ⟨s, m, i, hx⟩
  · cases h
theorem fin_of_between {x lo hi : Nat} (hl : isFin lo = true) (hh : isFin hi = true) (h1 : fle .f32 lo x = true) (h2 : fle .f32 x hi = true) : isFin x = true := by
  obtain ⟨s, m, i, hl⟩ := isFin_read hl
  obtain ⟨s', m', i', hh⟩ := isFin_read hh
  unfold fle flt feq Ieee.Format.order at h1 h2
  unfold isFin
  cases hx : FloatKind.f32.format.read x with
  | number => rfl
  | nan => rw [hl, hx] at h1; simp [Ieee.Datum.order] at h1
  | infinity b =>
    rw [hl, hx] at h1
    rw [hh, hx] at h2
    cases b <;> simp [Ieee.Datum.order] at h1 h2
theorem fin_of_bet {x lo hi : Nat} (hl : isFin lo = true) (hh : isFin hi = true) (h : betB x lo hi = true) : isFin x = true := by
  unfold betB at h
  simp only [Bool.and_eq_true] at h
  exact fin_of_between hl hh h.1 h.2
theorem fin_of_length {x : Nat} (h : lengthB x = true) : isFin x = true := fin_of_bet (by decide +kernel) (by decide +kernel) h
/-- Sums, differences and products of finite numbers are no NaN. -/
theorem add_fin {x y : Nat} (hx : isFin x = true) (hy : isFin y = true) : ∃ r, floatBits .add .f32 x y = some r := by
  obtain ⟨s, m, i, hx⟩ := isFin_read hx
  obtain ⟨s', m', i', hy⟩ := isFin_read hy
  simp [floatBits, Ieee.Format.add, hx, hy, Ieee.Datum.sum]
theorem sub_fin {x y : Nat} (hx : isFin x = true) (hy : isFin y = true) : ∃ r, floatBits .sub .f32 x y = some r := by
  obtain ⟨s, m, i, hx⟩ := isFin_read hx
  obtain ⟨s', m', i', hy⟩ := isFin_read hy
  simp [floatBits, Ieee.Format.sub, hx, hy, Ieee.Datum.sum, Ieee.Datum.opposite]
theorem mul_fin {x y : Nat} (hx : isFin x = true) (hy : isFin y = true) : ∃ r, floatBits .mul .f32 x y = some r := by
  obtain ⟨s, m, i, hx⟩ := isFin_read hx
  obtain ⟨s', m', i', hy⟩ := isFin_read hy
  simp [floatBits, Ieee.Format.mul, hx, hy, Ieee.Datum.product]
/-- Where the operation is valid nothing is drawn. -/
theorem fval_some {op : BinOp} {x y r : Nat} (h : floatBits op .f32 x y = some r) (w : World) : fval op .f32 x y w = cop op x y := by simp [fval, cop, h]
theorem fdn_some {op : BinOp} {x y r : Nat} (h : floatBits op .f32 x y = some r) : fdn op .f32 x y = 0 := by simp [fdn, h]
@[go_sem] theorem drewN_zero' (w : World) : w.drewN 0 = w := rfl

/-- The two ways to say 'the same'. -/
theorem same_spec (a b : Nat) : (if isNan a || isNan b then isNan a && isNan b else a == b) = sameB a b := by
  unfold sameB
  cases ha : isNan a <;> cases hb : isNan b <;> simp
  · rintro rfl; simp_all
  · rintro rfl; simp_all

/-- Nothing that was there has turned. -/
theorem below_then {w w1 w2 : World} (h : Below w.heap.size w w1) (k : Below w1.heap.size w1 w2) : Below w.heap.size w w2 := h.trans (k.mono h.size)
/-- What the walk uses behind a call that makes memory: old cells and marks read as before. -/
theorem below_reads {W w1 : World} (hb : Below W.heap.size W w1) : (∀ b o, b < W.heap.size → w1.cell? ⟨b, o, none⟩ = W.cell? ⟨b, o, none⟩) ∧ (∀ b o, b < W.heap.size → w1.frozen? ⟨b, o, none⟩ = W.frozen? ⟨b, o, none⟩) ∧ W.heap.size ≤ w1.heap.size :=
  ⟨fun b o h => hb.cell (p := ⟨b, o, none⟩) h, fun b o h => hb.frozen (p := ⟨b, o, none⟩) h, hb.size⟩
theorem below_drew_of {w w1 : World} (n : Nat) (h : Below w.heap.size w w1) : Below w.heap.size w (w1.drewN n) := below_drewN h n

theorem quiet_same {P : Program} {f : FuncId} {args : Array Value} {w : World} {n : Nat} {v : Value}
    (h : Calls P f args (w.drewN n) fun e w' => e = .returned v ∧ w.drewN n = w') : Calls P f args (w.drewN n) fun e w'' => e = .returned v ∧ ∃ m, w'' = w.drewN m :=
  h.mono fun _ _ ⟨he, hm⟩ => ⟨he, n, hm.symm⟩

theorem quiet_bool {P : Program} {f : FuncId} {args : Array Value} {w : World} {n : Nat} {b c : Bool} (hb : b = c)
    (h : Calls P f args (w.drewN n) fun e w' => e = .returned (.bool b) ∧ w.drewN n = w') : Calls P f args (w.drewN n) fun e w'' => e = .returned (.bool c) ∧ ∃ m, w'' = w.drewN m :=
  h.mono fun _ _ ⟨he, hm⟩ => ⟨by rw [he, hb], n, hm.symm⟩

@[go_sem] theorem run_f32bits (b : Nat) (w : World) : (callFunc 33 #[.float .f32 b]).run Tryz.prog w = .ok (.value (.int .u32 b)) w := by
  rw [run_callFunc_extern Tryz.func33 (by kernel_rfl) (by kernel_rfl) (by kernel_rfl) (e := Extern.MathFloatBits.float32bits) (by kernel_rfl) _ w]
  rfl

end Go.Proofs.YtkgfepakedieaaaGreatDoor
