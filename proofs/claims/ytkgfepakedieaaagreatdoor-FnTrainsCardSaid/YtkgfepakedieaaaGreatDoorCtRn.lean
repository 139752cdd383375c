/- Contracts: a number is read from its text. -/
import Derived.Test.YtkgfepakedieaaaGreatDoorHexP
import Derived.Lib.Bytealg
import Derived.Lib.MinMax
namespace Go.Proofs.YtkgfepakedieaaaGreatDoor
open Go.RowKit

@[go_sem] theorem run_frombits (n : Nat) (w : World) : (callFunc 32 #[.int .u32 (n : Int)]).run Tryz.prog w = .ok (.value (.float .f32 n)) w := by
  rw [run_callFunc_extern Tryz.func32 (by kernel_rfl) (by kernel_rfl) (by kernel_rfl) (e := Extern.MathFloatBits.float32frombits) (by kernel_rfl) _ w]
  rfl

set_option maxRecDepth 20000 in
set_option maxHeartbeats 1000000 in
theorem indexByte_any (s : ByteArray) (c : Int) (w : World) :
    Calls Tryz.prog 31 #[.string s, .int .u8 c] w fun e w' => e = .returned (.int .i64 (Lib.indexByte s.data.toList c.toNat.toUInt8)) ∧ w = w' := by
  go_enter Tryz.func31, Tryz.ntmps31
  go_wp2
  rw [run_callFunc_extern Tryz.func79 (by kernel_rfl) (by kernel_rfl) (by kernel_rfl) (e := Extern.BytealgIndexByte.indexByte) (by kernel_rfl), Lib.run_indexByteString]
  simp only [Result.andThen]
  rw [Oper.upon_value]
  go_wp2
  go_ret
  exact ⟨rfl, rfl⟩

theorem readB_take (l : List UInt8) (j : Nat) (c : UInt8) (h : l[j]? = some c) : readH 0 (l.take (j + 1)) = readH 0 (l.take j) * 16 + hexI c := by
  rw [List.take_add_one, h]
  exact readH_snoc _ _ _
theorem readB_take_lt (l : List UInt8) (j : Nat) (h : j < 8) : readH 0 (l.take j) < 268435456 := by
  refine Nat.lt_of_lt_of_le (readH_lt _) ?_
  rw [show (268435456 : Nat) = 16 ^ 7 by decide]
  exact Nat.pow_le_pow_right (by decide) (by simp; omega)
def readV (s : ByteArray) : Nat := if numOk s then readB s.data.toList else 0
def readK (s : ByteArray) : Int := if numOk s then 0 else 5
theorem readV_lt (s : ByteArray) : readV s < 2 ^ 32 := by
  unfold readV
  split
  · exact readB_lt _
  · decide
theorem str_eql (a b : ByteArray) : (a.toList == b.toList) = decide (a = b) := by
  rw [ByteArray.toList_eq, ByteArray.toList_eq, Bool.eq_iff_iff, beq_iff_eq, decide_eq_true_eq]
  exact ⟨fun h => ByteArray.ext (Array.toList_inj.1 h), fun h => by rw [h]⟩
theorem hex_digit {c : UInt8} (h1 : 48 ≤ (c.toNat : Int)) (h2 : (c.toNat : Int) ≤ 57) : (hexI c : Int) = (c.toNat : Int) - 48 ∧ isHex c = true := by
  refine ⟨?_, by simp [isHex]; omega⟩
  unfold hexI
  rw [if_pos (by omega)]
  omega
theorem hex_letter {c : UInt8} (h1 : 97 ≤ (c.toNat : Int)) (h2 : (c.toNat : Int) ≤ 102) : (hexI c : Int) = (c.toNat : Int) - 97 + 10 ∧ isHex c = true := by
  refine ⟨?_, by simp [isHex]; omega⟩
  unfold hexI
  rw [if_neg (by omega), if_pos (by omega)]
  omega
theorem hex_none {c : UInt8} (h1 : (c.toNat : Int) < 48 ∨ 57 < (c.toNat : Int)) (h2 : (c.toNat : Int) < 97 ∨ 102 < (c.toNat : Int)) : isHex c = false := by
  simp [isHex]
  omega
theorem all_hex_take {l : List UInt8} {j : Nat} {c : UInt8} (h : l[j]? = some c) (k : (l.take j).all isHex = true) (kc : isHex c = true) : (l.take (j + 1)).all isHex = true := by
  rw [List.take_add_one, h, List.all_append, k]
  simp [kc]
theorem hex_not {s : ByteArray} {j : Nat} {c : UInt8} (h : s.data.toList[j]? = some c) (kc : isHex c = false) : numOk s = false := by
  rw [numOk_iff]
  have : s.data.toList.all isHex = false := List.all_eq_false.2 ⟨c, List.mem_of_getElem? h, by simp [kc]⟩
  simp [this]
theorem byte_get (s : ByteArray) (j : Nat) (h : j < s.size) : s.data.toList[j]? = some (s[j]'h) := by
  have h2 : j < s.data.size := h
  rw [Array.getElem?_toList, Array.getElem?_eq_getElem h2]
  rfl

set_option maxHeartbeats 2000000 in
theorem implReadNumber_any (s : ByteArray) (hs : s.size ≤ 9223372036854775807) (w : World) :
    Calls Tryz.prog 7 #[.string s] w fun e w' => e = .returned (.tuple #[.float .f32 (readV s), .int .i64 (readK s)]) ∧ Below w.heap.size w w' := by
  obtain ⟨m, hm⟩ : ∃ m, m = min s.size 8 := ⟨_, rfl⟩
  have hm8 : m ≤ 8 := by omega
  have hms : m ≤ s.size := by omega
  have hmm : min (s.size : Int) 8 = (m : Int) := by omega
  go_enter Tryz.func7, Tryz.ntmps7
  go_wp2
  go_loopw [4, 10] (fun n k wr => ∃ (j q : Nat), j ≤ m ∧ k = .int .i64 (j : Int) ∧ n = .int .u32 (q : Int) ∧ Hid (q = readH 0 (s.data.toList.take j)) ∧ wr = w)
    (fun _ k _ => (m - intOf k).toNat)
  case atStart => exact ⟨0, 0, by omega, rfl, rfl, Lib.hid rfl, rfl⟩
  case round =>
    obtain ⟨j, q, hj, rfl, rfl, hq, hww⟩ := hrel
    obtain rfl : w = wr := hww.symm
    by_cases hlt : j < m
    · have hlt8 : j < 8 := by omega
      have hlts : (j : Int) < (s.size : Int) := by omega
      have hq2 : q < 268435456 := by rw [hq.out]; exact readB_take_lt _ _ hlt8
      have hjs : j < s.size := by omega
      have HT := Lib.hid (readB_take s.data.toList j _ (byte_get s j hjs))
      have HI := Lib.hid (hexI_index (s[j]'hjs))
      have HO := Lib.hid (or16 q (hexI (s[j]'hjs)) hq2 (hexI_lt _))
      go_wp2_with (go_at_call 31; refine (indexByte_any _ _ _).mono ?_; rintro e w' ⟨rfl, rfl⟩)
      refine ⟨⟨j + 1, q * 16 + hexI (s[j]'hjs), by omega, rfl, ?_, Lib.hid (by rw [HT.out, hq.out]), trivial⟩, by simp [intOf]; omega⟩
      have h1 := hexI_lt (s[j]'hjs)
      have h2 : max (Lib.indexByte [48, 49, 50, 51, 52, 53, 54, 55, 56, 57, 97, 98, 99, 100, 101, 102] (s[j]'hjs)) 0 % 4294967296 = (hexI (s[j]'hjs) : Int) := by
        have h3 := HI.out
        unfold hexDigits at h3
        rw [h3]
        omega
      rw [h2, HO.out]
    · obtain rfl : j = m := by omega
      have hq8 : q = readB s.data.toList := by
        rw [hq.out, hm, readB]
        congr 1
        rw [List.take_eq_take_iff]
        simp
        omega
      have hql : q < 2 ^ 32 := by rw [hq8]; exact readB_lt _
      cases hN : numOk s
      · have hV : readV s = 0 := by simp [readV, hN]
        have hK : readK s = 5 := by simp [readK, hN]
        have hE : ((numText q).toList == s.toList) = false := by
          rw [str_eql, hq8]
          exact hN
        clear hq8
        go_wp2_with (go_at_call 8; refine (implNumberText_any q hql _).mono ?_; rintro e w1 ⟨rfl, hb1⟩)
        all_goals go_ret2
        all_goals exact ⟨by rw [hV, hK]; rfl, hb1⟩
      · have hV : readV s = q := by simp [readV, hN, hq8]
        have hK : readK s = 0 := by simp [readK, hN]
        have hE : ((numText q).toList == s.toList) = true := by
          rw [str_eql, hq8]
          exact hN
        clear hq8
        go_wp2_with (go_at_call 8; refine (implNumberText_any q hql _).mono ?_; rintro e w1 ⟨rfl, hb1⟩)
        all_goals go_ret2
        all_goals exact ⟨by rw [hV, hK]; rfl, hb1⟩

end Go.Proofs.YtkgfepakedieaaaGreatDoor
