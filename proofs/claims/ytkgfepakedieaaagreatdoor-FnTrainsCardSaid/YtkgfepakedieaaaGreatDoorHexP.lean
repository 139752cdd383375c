/- Hexadecimal digits read: plain laws. -/
import Derived.Test.YtkgfepakedieaaaGreatDoorCtE
import Derived.Lib.Bytealg
namespace Go.Proofs.YtkgfepakedieaaaGreatDoor
open Go.RowKit

/-- What a hexadecimal digit is worth; 0 for any other byte. -/
def hexI (c : UInt8) : Nat := if 48 ≤ c.toNat ∧ c.toNat ≤ 57 then c.toNat - 48 else if 97 ≤ c.toNat ∧ c.toNat ≤ 102 then c.toNat - 87 else 0
def isHex (c : UInt8) : Bool := (48 ≤ c.toNat && c.toNat ≤ 57) || (97 ≤ c.toNat && c.toNat ≤ 102)
def hexDigits : List UInt8 := [48, 49, 50, 51, 52, 53, 54, 55, 56, 57, 97, 98, 99, 100, 101, 102]
theorem hexI_index (c : UInt8) : max (Lib.indexByte hexDigits c) 0 = (hexI c : Int) := by
  have h : ∀ n : Fin 256, max (Lib.indexByte hexDigits (UInt8.ofNat n.val)) 0 = (hexI (UInt8.ofNat n.val) : Int) := by decide +kernel
  have := h ⟨c.toNat, c.toNat_lt⟩
  rwa [UInt8.ofNat_toNat] at this
theorem hexI_lt (c : UInt8) : hexI c < 16 := by
  unfold hexI
  split
  · omega
  · split <;> omega
theorem hexI_hexD : ∀ n < 16, hexI (hexD n) = n := by decide +kernel
theorem isHex_hexD : ∀ n < 16, isHex (hexD n) = true := by decide +kernel
theorem hexD_hexI (c : UInt8) (h : isHex c = true) : hexD (hexI c) = c := by
  have k : ∀ n : Fin 256, isHex (UInt8.ofNat n.val) = true → hexD (hexI (UInt8.ofNat n.val)) = UInt8.ofNat n.val := by decide +kernel
  have := k ⟨c.toNat, c.toNat_lt⟩
  rw [UInt8.ofNat_toNat] at this
  exact this h

def readH (n : Nat) (l : List UInt8) : Nat := l.foldl (fun n c => n * 16 + hexI c) n
def readB (l : List UInt8) : Nat := readH 0 (l.take 8)
theorem readH_snoc (n : Nat) (l : List UInt8) (c : UInt8) : readH n (l ++ [c]) = readH n l * 16 + hexI c := by simp [readH]
theorem readH_lt (l : List UInt8) : readH 0 l < 16 ^ l.length := by
  suffices ∀ (l : List UInt8) n, readH n l < (n + 1) * 16 ^ l.length by simpa using this l 0
  intro l
  induction l with
  | nil => intro n; simp [readH]
  | cons c l ih =>
    intro n
    show readH (n * 16 + hexI c) l < _
    refine Nat.lt_of_lt_of_le (ih _) ?_
    have := hexI_lt c
    rw [List.length_cons, Nat.pow_succ, Nat.mul_comm (16 ^ l.length) 16, ← Nat.mul_assoc]
    exact Nat.mul_le_mul_right _ (by omega)
theorem readB_lt (l : List UInt8) : readB l < 2 ^ 32 := by
  refine Nat.lt_of_lt_of_le (readH_lt _) ?_
  rw [show (2 : Nat) ^ 32 = 16 ^ 8 by decide]
  exact Nat.pow_le_pow_right (by decide) (by simp; omega)
/-- A number's digits, read, are the number. -/
theorem readB_hexL (b : Nat) (h : b < 2 ^ 32) : readB (hexL b) = b := by
  have e : hexL b = [hexD (b / 16 ^ 7 % 16), hexD (b / 16 ^ 6 % 16), hexD (b / 16 ^ 5 % 16), hexD (b / 16 ^ 4 % 16), hexD (b / 16 ^ 3 % 16), hexD (b / 16 ^ 2 % 16), hexD (b / 16 ^ 1 % 16), hexD (b / 16 ^ 0 % 16)] := rfl
  rw [e]
  show readH 0 _ = _
  simp only [readB, readH, List.take, List.foldl_cons, List.foldl_nil]
  rw [hexI_hexD _ (by omega), hexI_hexD _ (by omega), hexI_hexD _ (by omega), hexI_hexD _ (by omega), hexI_hexD _ (by omega), hexI_hexD _ (by omega), hexI_hexD _ (by omega), hexI_hexD _ (by omega)]
  omega
theorem hexL_hex (b : Nat) : (hexL b).all isHex = true := by
  rw [List.all_eq_true]
  intro x hx
  obtain ⟨i, _, rfl⟩ := List.mem_map.1 hx
  exact isHex_hexD _ (by omega)
theorem hexL_readB (l : List UInt8) (h8 : l.length = 8) (hx : l.all isHex = true) : hexL (readB l) = l := by
  match l, h8 with
  | [c0, c1, c2, c3, c4, c5, c6, c7], _ =>
    simp only [List.all_cons, List.all_nil, Bool.and_true, Bool.and_eq_true] at hx
    obtain ⟨x0, x1, x2, x3, x4, x5, x6, x7⟩ := hx
    have l0 := hexI_lt c0
    have l1 := hexI_lt c1
    have l2 := hexI_lt c2
    have l3 := hexI_lt c3
    have l4 := hexI_lt c4
    have l5 := hexI_lt c5
    have l6 := hexI_lt c6
    have l7 := hexI_lt c7
    have e : hexL (readB [c0, c1, c2, c3, c4, c5, c6, c7]) = [hexD (readB [c0, c1, c2, c3, c4, c5, c6, c7] / 16 ^ 7 % 16), hexD (readB [c0, c1, c2, c3, c4, c5, c6, c7] / 16 ^ 6 % 16), hexD (readB [c0, c1, c2, c3, c4, c5, c6, c7] / 16 ^ 5 % 16), hexD (readB [c0, c1, c2, c3, c4, c5, c6, c7] / 16 ^ 4 % 16), hexD (readB [c0, c1, c2, c3, c4, c5, c6, c7] / 16 ^ 3 % 16), hexD (readB [c0, c1, c2, c3, c4, c5, c6, c7] / 16 ^ 2 % 16), hexD (readB [c0, c1, c2, c3, c4, c5, c6, c7] / 16 ^ 1 % 16), hexD (readB [c0, c1, c2, c3, c4, c5, c6, c7] / 16 ^ 0 % 16)] := rfl
    rw [e]
    have hr : readB [c0, c1, c2, c3, c4, c5, c6, c7] = ((((((hexI c0 * 16 + hexI c1) * 16 + hexI c2) * 16 + hexI c3) * 16 + hexI c4) * 16 + hexI c5) * 16 + hexI c6) * 16 + hexI c7 := by
      simp only [readB, readH, List.take, List.foldl_cons, List.foldl_nil, Nat.zero_mul, Nat.zero_add]
    rw [hr]
    rw [show ((((((((hexI c0 * 16 + hexI c1) * 16 + hexI c2) * 16 + hexI c3) * 16 + hexI c4) * 16 + hexI c5) * 16 + hexI c6) * 16 + hexI c7) / 16 ^ 7 % 16) = hexI c0 by omega,
      show ((((((((hexI c0 * 16 + hexI c1) * 16 + hexI c2) * 16 + hexI c3) * 16 + hexI c4) * 16 + hexI c5) * 16 + hexI c6) * 16 + hexI c7) / 16 ^ 6 % 16) = hexI c1 by omega,
      show ((((((((hexI c0 * 16 + hexI c1) * 16 + hexI c2) * 16 + hexI c3) * 16 + hexI c4) * 16 + hexI c5) * 16 + hexI c6) * 16 + hexI c7) / 16 ^ 5 % 16) = hexI c2 by omega,
      show ((((((((hexI c0 * 16 + hexI c1) * 16 + hexI c2) * 16 + hexI c3) * 16 + hexI c4) * 16 + hexI c5) * 16 + hexI c6) * 16 + hexI c7) / 16 ^ 4 % 16) = hexI c3 by omega,
      show ((((((((hexI c0 * 16 + hexI c1) * 16 + hexI c2) * 16 + hexI c3) * 16 + hexI c4) * 16 + hexI c5) * 16 + hexI c6) * 16 + hexI c7) / 16 ^ 3 % 16) = hexI c4 by omega,
      show ((((((((hexI c0 * 16 + hexI c1) * 16 + hexI c2) * 16 + hexI c3) * 16 + hexI c4) * 16 + hexI c5) * 16 + hexI c6) * 16 + hexI c7) / 16 ^ 2 % 16) = hexI c5 by omega,
      show ((((((((hexI c0 * 16 + hexI c1) * 16 + hexI c2) * 16 + hexI c3) * 16 + hexI c4) * 16 + hexI c5) * 16 + hexI c6) * 16 + hexI c7) / 16 ^ 1 % 16) = hexI c6 by omega,
      show ((((((((hexI c0 * 16 + hexI c1) * 16 + hexI c2) * 16 + hexI c3) * 16 + hexI c4) * 16 + hexI c5) * 16 + hexI c6) * 16 + hexI c7) / 16 ^ 0 % 16) = hexI c7 by omega]
    rw [hexD_hexI _ x0, hexD_hexI _ x1, hexD_hexI _ x2, hexD_hexI _ x3, hexD_hexI _ x4, hexD_hexI _ x5, hexD_hexI _ x6, hexD_hexI _ x7]
/-- Whether a text is that of a number (the program's test). -/
def numOk (s : ByteArray) : Bool := decide (numText (readB s.data.toList) = s)
/-- The reference's test is the same. -/
theorem numOk_iff (s : ByteArray) : numOk s = ((s.size == 8) && s.data.toList.all isHex && (cn (readB s.data.toList) == readB s.data.toList)) := by
  rw [Bool.eq_iff_iff]
  simp only [numOk, decide_eq_true_eq, Bool.and_eq_true, beq_iff_eq]
  constructor
  · intro h
    have hl : s.data.toList = hexL (cn (readB s.data.toList)) := by
      conv => lhs; rw [← h]
      rfl
    have h3 : readB s.data.toList = cn (readB s.data.toList) := by
      conv => lhs; rw [hl]
      exact readB_hexL _ (cn_lt (readB_lt _))
    refine ⟨⟨?_, by rw [hl]; exact hexL_hex _⟩, h3.symm⟩
    rw [← h]
    show (hexL _).toArray.size = 8
    simp [hexL_len]
  · rintro ⟨⟨h8, hx⟩, hc⟩
    unfold numText
    rw [hc, hexL_readB _ (by simpa using h8) hx]
theorem or16 (n i : Nat) (hn : n < 268435456) (hi : i < 16) : bits .or .u32 ((n : Int) * 16) (i : Int) = ((n * 16 + i : Nat) : Int) := by
  have h1 : (BitVec.ofInt 32 ((n : Int) * 16)).toNat = n * 16 := by
    rw [show (n : Int) * 16 = ((n * 16 : Nat) : Int) by omega, BitVec.ofInt_natCast, BitVec.toNat_ofNat]
    exact Nat.mod_eq_of_lt (by omega)
  have h2 : (BitVec.ofInt 32 (i : Int)).toNat = i := by
    rw [BitVec.ofInt_natCast, BitVec.toNat_ofNat]
    exact Nat.mod_eq_of_lt (by omega)
  show IntKind.u32.wrap ((BitVec.ofInt 32 ((n : Int) * 16) ||| BitVec.ofInt 32 (i : Int)).toNat : Int) = _
  rw [BitVec.toNat_or, h1, h2, IntKind.wrap_u32, show n * 16 = 2 ^ 4 * n by omega, ← Nat.two_pow_add_eq_or_of_lt (by omega)]
  omega

end Go.Proofs.YtkgfepakedieaaaGreatDoor
