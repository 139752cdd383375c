/- Contracts: the text of a number. -/
import Derived.Test.YtkgfepakedieaaaGreatDoorCtA
import Derived.Test.YtkgfepakedieaaaGreatDoorMem
namespace Go.Proofs.YtkgfepakedieaaaGreatDoor
open Go.RowKit

/-- The digit of a number below 16. -/
def hexD (n : Nat) : UInt8 := (#[48, 49, 50, 51, 52, 53, 54, 55, 56, 57, 97, 98, 99, 100, 101, 102] : Array UInt8).getD n 0
@[go_sem] theorem hexStr_get (n : Nat) (h : n < (⟨#[48, 49, 50, 51, 52, 53, 54, 55, 56, 57, 97, 98, 99, 100, 101, 102]⟩ : ByteArray).size) :
    (⟨#[48, 49, 50, 51, 52, 53, 54, 55, 56, 57, 97, 98, 99, 100, 101, 102]⟩ : ByteArray)[n]'h = hexD n := by
  have h' : n < 16 := h
  unfold hexD
  rw [Array.getD_eq_getD_getElem?, Array.getElem?_eq_getElem h]
  rfl
/-- The eight digits of a number; the last j of them, the others being 0. -/
def hexL (b : Nat) : List UInt8 := (List.range 8).map fun i => hexD (b / 16 ^ (7 - i) % 16)
def hexP (b j : Nat) : List UInt8 := (List.range 8).map fun i => if i + j < 8 then 0 else hexD (b / 16 ^ (7 - i) % 16)
/-- The text of a number. -/
def numText (a : Nat) : ByteArray := ⟨(hexL (cn a)).toArray⟩

theorem hexP_all (b : Nat) : hexP b 8 = hexL b := by
  unfold hexP hexL
  apply List.map_congr_left
  intro i _
  rw [if_neg (by omega)]
theorem hexP_none (b : Nat) : hexP b 0 = List.replicate 8 0 := by
  unfold hexP
  rfl
theorem hexP_step (b j : Nat) (hj : j < 8) : hexP b (j + 1) = (hexP b j).set (7 - j) (hexD (b / 16 ^ j % 16)) := by
  apply List.ext_getElem?
  intro i
  unfold hexP
  rw [List.getElem?_set]
  by_cases hi : i < 8
  · by_cases he : 7 - j = i
    · subst he
      rw [if_pos rfl, if_pos (by simp; omega)]
      simp [hi]
      rw [if_neg (by omega)]
      congr 4
      omega
    · rw [if_neg he]
      simp [hi]
      congr 1
      by_cases h1 : i + (j + 1) < 8
      · simp [h1, show i + j < 8 by omega]
      · simp [h1, show ¬ i + j < 8 by omega]
  · simp [hi]
    omega
theorem byteCells_set (l : List UInt8) (i : Nat) (x : UInt8) : byteCells (l.set i x) = (byteCells l).set i (.int .u8 (x.toNat : Int)) := by simp [byteCells, List.map_set]
theorem hexP_len (b j : Nat) : (hexP b j).length = 8 := by simp [hexP]
theorem hexL_len (b : Nat) : (hexL b).length = 8 := by simp [hexL]

theorem cn_lt {a : Nat} (h : a < 2 ^ 32) : cn a < 2 ^ 32 := by
  unfold cn nan0
  split <;> omega

theorem and15 (n : Nat) (h : n < 4294967296) : bits .and .u32 (n : Int) 15 = ((n % 16 : Nat) : Int) := by
  have h1 : (BitVec.ofInt 32 (n : Int)).toNat = n := by
    rw [BitVec.ofInt_natCast, BitVec.toNat_ofNat]
    exact Nat.mod_eq_of_lt h
  have h2 : (BitVec.ofInt 32 15).toNat = 15 := by decide
  show IntKind.u32.wrap ((BitVec.ofInt 32 (n : Int) &&& BitVec.ofInt 32 15).toNat : Int) = _
  rw [BitVec.toNat_and, h1, h2, IntKind.wrap_u32, show (15 : Nat) = 2 ^ 4 - 1 from rfl, Nat.and_two_pow_sub_one_eq_mod]
  omega

theorem hexShift (a k : Nat) (ha : a < 4294967296) (hk : k < 8) : (bits .and .u32 ((a : Int) / 2 ^ (28 - 4 * k)) 15).toNat = a / 16 ^ (7 - k) % 16 := by
  have e : ((a : Int) / 2 ^ (28 - 4 * k)) = ((a / 16 ^ (7 - k) : Nat) : Int) := by
    have : (16 : Nat) ^ (7 - k) = 2 ^ (28 - 4 * k) := by
      rw [show (16 : Nat) = 2 ^ 4 from rfl, ← Nat.pow_mul]
      congr 1
      omega
    rw [this]
    simp
  rw [e, and15 _ (Nat.lt_of_le_of_lt (Nat.div_le_self _ _) ha)]
  rfl

theorem hexShift_lt (a k : Nat) (ha : a < 4294967296) (hk : k < 8) : 0 ≤ bits .and .u32 ((a : Int) / 2 ^ (28 - 4 * k)) 15 ∧ bits .and .u32 ((a : Int) / 2 ^ (28 - 4 * k)) 15 < 16 := by
  have e : ((a : Int) / 2 ^ (28 - 4 * k)) = ((a / 16 ^ (7 - k) : Nat) : Int) := by
    have : (16 : Nat) ^ (7 - k) = 2 ^ (28 - 4 * k) := by
      rw [show (16 : Nat) = 2 ^ 4 from rfl, ← Nat.pow_mul]
      congr 1
      omega
    rw [this]
    simp
  rw [e, and15 _ (Nat.lt_of_le_of_lt (Nat.div_le_self _ _) ha)]
  omega

theorem info_u8 : (Tryz.prog.info? 5).map (fun i => (i.zero, i.size, i.bytes)) = some (some (.int .u8 0), 1, 1) := by kernel_rfl

theorem numText_nan {a : Nat} (h : isNan a = true) : numText a = ⟨#[55, 102, 99, 48, 48, 48, 48, 48]⟩ := by
  unfold numText
  rw [cn_of_nan h]
  decide +kernel

theorem take_snoc_hexL (b j : Nat) (hj : j < 8) : (hexL b).take (j + 1) = (hexL b).take j ++ [hexD (b / 16 ^ (7 - j) % 16)] := by
  have : (hexL b)[j]? = some (hexD (b / 16 ^ (7 - j) % 16)) := by simp [hexL, hj]
  rw [List.take_add_one, this]
  rfl

theorem implNumberText_nan (a : Nat) (h : isNan a = true) (w : World) :
    Calls Tryz.prog 8 #[.float .f32 a] w fun e w' => e = .returned (.string (numText a)) ∧ Below w.heap.size w w' := by
  rw [numText_nan h]
  go_enter Tryz.func8, Tryz.ntmps8
  go_wp2
  all_goals (go_ret; exact ⟨rfl, by (repeat' (first | (with_reducible exact Below.refl _ _) | (with_reducible assumption) | (with_reducible refine Below.alloc ?_ ?_ _) | (with_reducible refine below_drewN ?_ _) | (with_reducible refine Below.drew ?_) | (with_reducible refine Below.setCell ?_ ?_ _) | (with_reducible exact Nat.le_refl _) | omega | (simp only [World.size_alloc, World.size_setCell, World.size_drew, World.heap_drewN]; omega) | (simp; omega)))⟩)

set_option maxRecDepth 100000 in
set_option maxHeartbeats 1000000 in
theorem implNumberText_num (a : Nat) (ha : a < 2 ^ 32) (h : isNan a = false) (w : World) :
    Calls Tryz.prog 8 #[.float .f32 a] w fun e w' => e = .returned (.string (numText a)) ∧ Below w.heap.size w w' := by
  obtain ⟨i0, hi, hz0, hz1, hz2⟩ := info_parts info_u8
  have ht : numText a = ⟨(hexL a).toArray⟩ := by unfold numText; rw [cn_of_num h]
  rw [ht]
  clear ht
  go_enter Tryz.func8, Tryz.ntmps8
  go_wp2
  go_loopw [4, 5] (fun v i wr => ∃ k : Nat, k ≤ 8 ∧ i = .int .i64 (28 - 4 * (k : Int)) ∧ wr.ownsRow w.heap.size 5 1 v k (byteCells ((hexL a).take k)) ∧ Below w.heap.size w wr)
    (fun _ i _ => (intOf i + 4).toNat)
  case atStart => exact ⟨0, by omega, rfl, World.ownsRow_made _ _ 0 (Nat.le_refl _) (by decide) rfl, by (repeat' (first | (with_reducible exact Below.refl _ _) | (with_reducible assumption) | (with_reducible refine Below.alloc ?_ ?_ _) | (with_reducible refine below_drewN ?_ _) | (with_reducible refine Below.drew ?_) | (with_reducible refine Below.setCell ?_ ?_ _) | (with_reducible exact Nat.le_refl _) | omega | (simp only [World.size_alloc, World.size_setCell, World.size_drew, World.heap_drewN]; omega) | (simp; omega)))⟩
  case round =>
    obtain ⟨k, hk, rfl, hown, hb⟩ := hrel
    have ha2 : a < 4294967296 := ha
    have Ho := Lib.hid hown
    clear hown
    by_cases hlt : k < 8
    · have hs0 : (0 : Int) ≤ 28 - 4 * (k : Int) := by omega
      have hs1 : 28 - 4 * (k : Int) < 32 := by omega
      have hdig := hexShift a k ha2 hlt
      obtain ⟨hl0, hl1⟩ := hexShift_lt a k ha2 hlt
      have HD := Lib.hid hdig
      clear hdig
      go_wp2_with (at_builtin; refine wpList_append_own _ rfl _ _ 22 rfl w.heap.size 5 i0 (.int .u8 0) 1 1 Tryz.underlying22 hi hz0 hz1 hz2 rfl (by decide) _ _ _ rfl (Ho.out.alloc _) ⟨wr.heap.size, 0, none⟩ 1 1 [Value.int .u8 ((hexD (bits BinOp.and IntKind.u32 ((a : Int) / 2 ^ (28 - 4 * k)) 15).toNat).toNat : Int)] rfl rfl (cell_one_new _ _ _) ?c1 ?c2 ?c3 ?c4 ?_)
      case c1 => intro u hu; simp at hu; subst hu; rfl
      case c2 => unfold maxLen; omega
      case c3 => omega
      case c4 => have := hb.size; simp; omega
      intro v' w1 hown1 hgrow _
      have hb1 : Below w.heap.size w w1 := (hb.alloc hb.size _).grown hgrow (by have := hb.size; simp; omega) (fun g hg => (Ho.out.lt g hg).1)
      have Ho1 := Lib.hid hown1
      clear hown1 hgrow
      go_wp2
      go_roundw
      case rel =>
        refine ⟨k + 1, by omega, by go_num, ?_, hb1⟩
        have h9 := Ho1.out
        rw [HD.out] at h9
        rw [take_snoc_hexL _ _ hlt]
        simpa [byteCells] using h9
      case measure => simp [intOf]; omega
    · obtain rfl : k = 8 := by omega
      obtain ⟨hv, h0⟩ | ⟨g, cap, hv, _⟩ := own_val Ho.out
      · omega
      · have Ho2 := Ho.out
        rw [hv] at Ho2 ⊢
        have hcv := run_string_own (P := Tryz.prog) (by simp [hexL_len]) Ho2 22 9 Tryz.underlying22 Tryz.underlying5 Tryz.underlying9
        clear Ho2 hv
        go_wp2
        go_ret
        exact ⟨rfl, hb⟩

theorem implNumberText_any (a : Nat) (ha : a < 2 ^ 32) (w : World) :
    Calls Tryz.prog 8 #[.float .f32 a] w fun e w' => e = .returned (.string (numText a)) ∧ Below w.heap.size w w' := by
  cases h : isNan a
  · exact implNumberText_num a ha h w
  · exact implNumberText_nan a h w

end Go.Proofs.YtkgfepakedieaaaGreatDoor
