/- Contracts: a number is read from its digits (the reference). -/
import Derived.Test.YtkgfepakedieaaaDoorDecQ
namespace Go.Proofs.YtkgfepakedieaaaDoor
open Go.RowKit

theorem byte_getN (s : ByteArray) (j : Nat) (h : j < s.size) : s.data.toList[j]? = some (s[j]'h) := by
  have h2 : j < s.data.size := h
  rw [Array.getElem?_toList, Array.getElem?_eq_getElem h2]
  rfl
theorem numV_none {l : List UInt8} {acc : Nat} {c : UInt8} {r : List UInt8} (h : l = c :: r) (hc : ¬ (48 ≤ c.toNat ∧ c.toNat ≤ 57)) : numV acc l = none := by rw [h, numV, if_neg hc]

set_option maxRecDepth 20000 in
set_option maxHeartbeats 2000000 in
theorem l01Number_any (s : ByteArray) (hs : s.size ≤ 9223372036854775807) (w : World) :
    Calls Tryd.prog 23 #[.string s] w fun e w' => ∃ x : Int, e = .returned (.tuple #[.int .i64 x, .bool (l01Num s).isSome]) ∧ (∀ n, l01Num s = some n → x = (n : Int)) ∧ w = w' := by
  by_cases h0 : s.size < 1
  · have hN := Lib.hid (show l01Num s = none by unfold l01Num; rw [if_pos (.inl h0)])
    have h1 : (s.size : Int) < 1 := by omega
    clear h0
    go_enter Tryd.func23, Tryd.ntmps23
    go_wp2
    all_goals go_ret2
    all_goals exact ⟨0, by rw [hN.out]; rfl, by rw [hN.out]; simp, rfl⟩
  · by_cases h9 : 9 < s.size
    · have hN := Lib.hid (show l01Num s = none by unfold l01Num; rw [if_pos (.inr (.inl h9))])
      have h1 : ¬ (s.size : Int) < 1 := by omega
      have h2 : (9 : Int) < (s.size : Int) := by omega
      clear h0 h9
      go_enter Tryd.func23, Tryd.ntmps23
      go_wp2
      all_goals go_ret2
      all_goals exact ⟨0, by rw [hN.out]; rfl, by rw [hN.out]; simp, rfl⟩
    · have hp : 0 < s.size := by omega
      have g0 := byte_getN s 0 hp
      have hd : s.data.toList.head? = some (s[0]'hp) := by rw [List.head?_eq_getElem?]; exact g0
      have hpi : (0 : Int) < (s.size : Int) := by omega
      have k1 : ¬ (s.size : Int) < 1 := by omega
      have k2 : ¬ (9 : Int) < (s.size : Int) := by omega
      by_cases hz : s[0]'hp = 48 ∧ 1 < s.size
      · have hN := Lib.hid (show l01Num s = none by unfold l01Num; rw [if_pos (.inr (.inr ⟨by rw [hd, hz.1], hz.2⟩))])
        have hz1 : (((s[0]'hp).toNat : Int) == 48) = true := by rw [hz.1]; rfl
        have hz2 : (1 : Int) < (s.size : Int) := by omega
        clear h0 h9 g0 hd hz
        go_enter Tryd.func23, Tryd.ntmps23
        go_wp2
        all_goals go_ret2
        all_goals exact ⟨0, by rw [hN.out]; rfl, by rw [hN.out]; simp, rfl⟩
      · have hN := Lib.hid (show l01Num s = numV 0 s.data.toList by
          unfold l01Num
          rw [if_neg]
          rintro (h | h | ⟨h, h2⟩)
          · exact h0 h
          · exact h9 h
          · exact hz ⟨by rw [hd] at h; exact Option.some.inj h, h2⟩)
        have hlen := list_size s
        have hzz : ((((s[0]'hp).toNat : Int) == 48) = false) ∨ (((((s[0]'hp).toNat : Int) == 48) = true) ∧ ¬ (1 : Int) < (s.size : Int)) := by
          by_cases h48 : s[0]'hp = 48
          · right
            exact ⟨by rw [h48]; rfl, fun h => hz ⟨h48, by omega⟩⟩
          · left
            rw [beq_eq_false_iff_ne]
            intro e
            exact h48 (UInt8.toNat_inj.1 (by show _ = 48; omega))
        have h9b : s.size ≤ 9 := by omega
        clear h0 h9 g0 hd hz
        go_enter Tryd.func23, Tryd.ntmps23
        rcases hzz with hz1 | ⟨hz1, hz2⟩
        all_goals
          go_wp2
          clear hz1
          go_loopw [4, 5] (fun vn vi wr => ∃ (j : Nat) (a : Int), vn = .int .i64 a ∧ vi = .int .i64 (j : Int) ∧ j ≤ s.size ∧ 0 ≤ a ∧ a ≤ 1000000000 ∧ Hid (a.toNat < 10 ^ j ∧ numV 0 s.data.toList = numV a.toNat (s.data.toList.drop j)) ∧ wr = w)
            (fun _ vi _ => (s.size - intOf vi).toNat)
          case atStart => exact ⟨0, 0, rfl, rfl, by omega, by omega, by omega, Lib.hid ⟨by decide, rfl⟩, rfl⟩
          case round =>
            obtain ⟨j, a, rfl, rfl, hj, ha0, ha1, hh, hww⟩ := hrel
            obtain rfl : w = wr := hww.symm
            by_cases hlt : j < s.size
            · have hlts : (j : Int) < (s.size : Int) := by omega
              have hg := byte_getN s j hlt
              have hjl : j < s.data.toList.length := by omega
              have hdrop : s.data.toList.drop j = (s[j]'hlt) :: s.data.toList.drop (j + 1) := by
                rw [List.drop_eq_getElem_cons hjl]
                congr 1
              have hdec := hh.out
              rw [hdrop] at hdec
              have hc256 : (s[j]'hlt).toNat < 256 := (s[j]'hlt).toNat_lt
              by_cases hdig : 48 ≤ (s[j]'hlt).toNat ∧ (s[j]'hlt).toNat ≤ 57
              · obtain ⟨hd0, hd1⟩ := hdig
                have i0 : (48 : Int) ≤ ((s[j]'hlt).toNat : Int) := by omega
                have i1 : ((s[j]'hlt).toNat : Int) ≤ 57 := by omega
                have hnv : numV 0 s.data.toList = numV (a * 10 + (((s[j]'hlt).toNat : Int) - 48)).toNat (s.data.toList.drop (j + 1)) := by
                  rw [hdec.2, numV, if_pos ⟨hd0, hd1⟩]
                  congr 1
                  try omega
                have hpw : (a * 10 + (((s[j]'hlt).toNat : Int) - 48)).toNat < 10 ^ (j + 1) := by
                  have := hdec.1
                  rw [Nat.pow_succ]
                  generalize 10 ^ j = P at this
                  omega
                have hle : 10 ^ (j + 1) ≤ 10 ^ 9 := Nat.pow_le_pow_right (by decide) (by omega)
                have hb : a * 10 + (((s[j]'hlt).toNat : Int) - 48) ≤ 1000000000 := by
                  have h10 : (10 : Nat) ^ 9 = 1000000000 := by decide
                  generalize 10 ^ (j + 1) = P at hpw hle
                  omega
                have HN := Lib.hid (And.intro hpw hnv)
                clear hdec hg hdrop hnv hpw hle hd0 hd1
                go_wp2
                exact ⟨⟨j + 1, a * 10 + (((s[j]'hlt).toNat : Int) - 48), by first | rfl | (congr 1; omega), by go_num, by omega, by omega, hb, HN, trivial⟩, by simp [intOf]; omega⟩
              · have hE := Lib.hid (show l01Num s = none by rw [hN.out, hdec.2, numV, if_neg hdig])
                have hdd : ((s[j]'hlt).toNat : Int) < 48 ∨ (¬ ((s[j]'hlt).toNat : Int) < 48 ∧ 57 < ((s[j]'hlt).toNat : Int)) := by omega
                clear hdec hg hdrop hdig
                rcases hdd with i0 | ⟨i0, i1⟩
                all_goals go_wp2
                all_goals go_ret2
                all_goals exact ⟨0, by rw [hE.out]; rfl, by rw [hE.out]; simp, rfl⟩
            · obtain rfl : j = s.size := by omega
              have hE := Lib.hid (show l01Num s = some a.toNat by
                rw [hN.out, hh.out.2, List.drop_eq_nil_of_le (by omega)]
                rfl)
              go_wp2
              all_goals go_ret2
              all_goals exact ⟨a, by rw [hE.out]; rfl, fun n h => by rw [hE.out] at h; simp at h; omega, rfl⟩

end Go.Proofs.YtkgfepakedieaaaDoor
