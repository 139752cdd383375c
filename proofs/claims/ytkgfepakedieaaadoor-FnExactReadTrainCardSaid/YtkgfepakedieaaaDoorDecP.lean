/- Decimal numbers and the words of a train, read from texts: plain laws. -/
import Derived.Test.YtkgfepakedieaaaDoorSplitP
import Derived.Test.YtkgfepakedieaaaDoorCtTy
import Derived.Lib.ParseIntB
import Derived.Lib.IndexMore
namespace Go.Proofs.YtkgfepakedieaaaDoor
open Go.RowKit

theorem u8_ofNat (n : Nat) (h : n < 256) : (UInt8.ofNat n).toNat = n := by rw [UInt8.toNat_ofNat']; omega
theorem u8_dig {c : UInt8} (h0 : 48 ≤ c.toNat) (h1 : c.toNat ≤ 57) : UInt8.ofNat (48 + (c.toNat - 48)) = c := by
  rw [show 48 + (c.toNat - 48) = c.toNat by omega, UInt8.ofNat_toNat]

/-- A number's digits, read, are the number. -/
theorem parse_dec (M : Nat) (hM : M ≤ 1000000) : ∀ (n : Nat), n ≤ M → ∀ r, Lib.parseUintM M 0 (Lib.decDigits n ++ r) = Lib.parseUintM M n r := by
  intro n
  induction n using Nat.strongRecOn with
  | ind n ih =>
    intro hn r
    rw [Lib.decDigits]
    split
    · rename_i h
      have hu := u8_ofNat (48 + n) (by omega)
      rw [List.singleton_append, Lib.parseUintM, hu, if_pos (by omega), if_neg (by omega), if_neg (by omega)]
      congr 1
      omega
    · rename_i h
      have hu := u8_ofNat (48 + n % 10) (by omega)
      rw [List.append_assoc, ih (n / 10) (by omega) (by omega), List.singleton_append, Lib.parseUintM, hu, if_pos (by omega), if_neg (by omega), if_neg (by omega)]
      congr 1
      omega
theorem dec_ne (n : Nat) : Lib.decDigits n ≠ [] := by
  rw [Lib.decDigits]
  split <;> simp
theorem dec_digit (n : Nat) : ∀ c ∈ Lib.decDigits n, 48 ≤ c.toNat ∧ c.toNat ≤ 57 := by
  induction n using Nat.strongRecOn with
  | ind n ih =>
    intro c hc
    rw [Lib.decDigits] at hc
    split at hc
    · rw [List.mem_singleton] at hc
      rw [hc, u8_ofNat _ (by omega)]
      omega
    · rcases List.mem_append.1 hc with h | h
      · exact ih (n / 10) (by omega) c h
      · rw [List.mem_singleton] at h
        rw [h, u8_ofNat _ (by omega)]
        omega
/-- What the program takes for a number of teeth. -/
def pn (s : ByteArray) : Option Nat := match Lib.parseUintB 15 s.data.toList with
  | .ok u => if decB u = s then some u else none
  | _ => none
theorem pn_dec {n : Nat} (h : n ≤ 32767) : pn (decB n) = some n := by
  have h1 : Lib.parseUintB 15 (decB n).data.toList = .ok n := by
    show Lib.parseUintB 15 (Lib.decDigits n) = .ok n
    unfold Lib.parseUintB
    rw [if_neg (dec_ne n), show (2 : Nat) ^ 15 - 1 = 32767 by decide]
    have := parse_dec 32767 (by decide) n h []
    rw [List.append_nil] at this
    rw [this]
    rfl
  unfold pn
  rw [h1]
  simp

/-- The reference's reading of digits. -/
def numV (acc : Nat) : List UInt8 → Option Nat
  | [] => some acc
  | c :: r => if 48 ≤ c.toNat ∧ c.toNat ≤ 57 then numV (acc * 10 + (c.toNat - 48)) r else none
theorem numV_snoc : ∀ (l : List UInt8) (acc : Nat) (c : UInt8), numV acc (l ++ [c]) = (numV acc l).bind fun a => if 48 ≤ c.toNat ∧ c.toNat ≤ 57 then some (a * 10 + (c.toNat - 48)) else none
  | [], acc, c => by simp [numV]
  | b :: l, acc, c => by
    rw [List.cons_append, numV, numV]
    split
    · exact numV_snoc l _ c
    · rfl
theorem numV_ge : ∀ (l : List UInt8) (acc n : Nat), numV acc l = some n → acc ≤ n
  | [], acc, n, h => by simp [numV] at h; omega
  | c :: r, acc, n, h => by
    rw [numV] at h
    split at h
    · have := numV_ge r _ n h
      omega
    · cases h
theorem numV_dec (n : Nat) (r : List UInt8) : numV 0 (Lib.decDigits n ++ r) = numV n r := by
  induction n using Nat.strongRecOn generalizing r with
  | ind n ih =>
    rw [Lib.decDigits]
    split
    · have hu := u8_ofNat (48 + n) (by omega)
      rw [List.singleton_append, numV, hu, if_pos (by omega)]
      congr 1
      omega
    · have hu := u8_ofNat (48 + n % 10) (by omega)
      rw [List.append_assoc, ih (n / 10) (by omega), List.singleton_append, numV, hu, if_pos (by omega)]
      congr 1
      omega
/-- Digits that begin with no zero are those of what they spell. -/
theorem dec_numV : ∀ (k : Nat) (l : List UInt8) (n : Nat), l.length = k → l ≠ [] → (l.head? = some 48 → l.length = 1) → numV 0 l = some n → Lib.decDigits n = l := by
  intro k
  induction k with
  | zero => intro l n hk hne; exact absurd (List.length_eq_zero_iff.1 hk) hne
  | succ k ih =>
    intro l n hk hne hz h
    obtain ⟨l', c, rfl⟩ : ∃ l' c, l = l' ++ [c] := by
      rcases List.eq_nil_or_concat l with h0 | ⟨l', c, h0⟩
      · exact absurd h0 hne
      · exact ⟨l', c, by simpa using h0⟩
    rw [numV_snoc] at h
    obtain ⟨a, ha, h2⟩ := Option.bind_eq_some_iff.1 h
    split at h2
    · rename_i hc
      simp only [Option.some.injEq] at h2
      by_cases hl : l' = []
      · subst hl
        simp [numV] at ha
        subst ha
        rw [Lib.decDigits, dif_pos (by omega), ← h2]
        rw [show 48 + (0 * 10 + (c.toNat - 48)) = 48 + (c.toNat - 48) by omega, u8_dig hc.1 hc.2]
        rfl
      · have hz' : l'.head? = some 48 → l'.length = 1 := fun h0 => by
          have h3 : (l' ++ [c]).head? = some 48 := by rw [List.head?_append, h0]; rfl
          have := hz h3
          simp at this
          exact absurd this hl
        have hz2 : l'.head? ≠ some 48 := fun h0 => by
          have h3 : (l' ++ [c]).head? = some 48 := by rw [List.head?_append, h0]; rfl
          have := hz h3
          simp at this
          exact hl this
        have hd := ih l' a (by simp at hk; omega) hl hz' ha
        have ha1 : 1 ≤ a := by
          cases l' with
          | nil => exact absurd rfl hl
          | cons b l'' =>
            rw [numV] at ha
            split at ha
            · rename_i hb
              have hb0 : b ≠ 48 := fun e => hz2 (by rw [e]; rfl)
              have : b.toNat ≠ 48 := fun e => hb0 (UInt8.toNat_inj.1 (by rw [e]; rfl))
              have := numV_ge l'' _ a ha
              omega
            · cases ha
        rw [Lib.decDigits, dif_neg (by omega), ← h2]
        rw [show (a * 10 + (c.toNat - 48)) / 10 = a by omega, show (a * 10 + (c.toNat - 48)) % 10 = c.toNat - 48 by omega, hd, u8_dig hc.1 hc.2]
    · cases h2
def l01Num (s : ByteArray) : Option Nat := if s.size < 1 ∨ 9 < s.size ∨ (s.data.toList.head? = some 48 ∧ 1 < s.size) then none else numV 0 s.data.toList
theorem list_size (s : ByteArray) : s.data.toList.length = s.size := by simp
theorem bytes_eq {s : ByteArray} {l : List UInt8} (h : s.data.toList = l) : s = ⟨l.toArray⟩ := by
  apply ByteArray.ext
  apply Array.toList_inj.1
  simpa using h
theorem l01Num_text {s : ByteArray} {n : Nat} (h : l01Num s = some n) : decB n = s := by
  unfold l01Num at h
  split at h
  · cases h
  · rename_i hn
    have hs := list_size s
    have := dec_numV _ s.data.toList n rfl (fun e => by rw [e] at hs; simp at hs; omega) (fun e => by
      have : ¬ (1 < s.size) := fun h1 => hn (.inr (.inr ⟨e, h1⟩))
      omega) h
    rw [decB, this]
theorem dec_len : ∀ n ≤ 999, (Lib.decDigits n).length ≤ 3 := by
  intro n hn
  rw [Lib.decDigits]
  split
  · simp
  · rw [List.length_append, Lib.decDigits]
    split
    · simp
    · rw [List.length_append, Lib.decDigits, dif_pos (by omega)]
      simp
theorem dec_head : ∀ n, 1 ≤ n → (Lib.decDigits n).head? ≠ some 48 := by
  intro n
  induction n using Nat.strongRecOn with
  | ind n ih =>
    intro hn h
    rw [Lib.decDigits] at h
    split at h
    · rename_i h10
      simp only [List.head?_cons, Option.some.injEq] at h
      have := congrArg UInt8.toNat h
      rw [u8_ofNat _ (by omega)] at this
      have : 48 + n = 48 := this
      omega
    · rw [List.head?_append] at h
      cases hd : (Lib.decDigits (n / 10)).head? with
      | none => exact dec_ne _ (List.head?_eq_none_iff.1 hd)
      | some x =>
        rw [hd] at h
        simp at h
        exact ih (n / 10) (by omega) (by omega) (by rw [hd, h])
theorem l01Num_dec {n : Nat} (h1 : 1 ≤ n) (h : n ≤ 999) : l01Num (decB n) = some n := by
  have hl : (decB n).size = (Lib.decDigits n).length := List.size_toArray
  have h3 := dec_len n h
  have h4 : 1 ≤ (Lib.decDigits n).length := by
    cases hd : Lib.decDigits n with
    | nil => exact absurd hd (dec_ne n)
    | cons => simp
  unfold l01Num
  rw [if_neg]
  · have := numV_dec n []
    rw [List.append_nil] at this
    exact this
  · rw [hl]
    rintro (h5 | h5 | ⟨h5, _⟩)
    · omega
    · omega
    · exact dec_head n h1 h5

theorem cut_hit (c : UInt8) (a r : List UInt8) (h : c ∉ a) : Lib.cut (a ++ c :: r) [c] = (a, r, true) := by
  rcases index_hit c (a ++ c :: r) with ⟨_, h2⟩ | ⟨i, h1, r', h2, h3, h4⟩
  · exact absurd (by simp) h2
  · have hi : i = a.length := by
      rcases Nat.lt_trichotomy i a.length with hl | he | hl
      · have hlen : (a ++ c :: r).length = min i (a ++ c :: r).length + (r'.length + 1) := by
          conv => lhs; rw [h2]
          rw [List.length_append, List.length_take, List.length_cons]
        have hmin : ((a ++ c :: r).take i).length = i := by
          rw [List.length_take]
          generalize (a ++ c :: r).length = L at hlen
          omega
        have : ((a ++ c :: r).take i ++ c :: r')[i]? = some c := by
          rw [List.getElem?_append_right (by omega), hmin, Nat.sub_self]
          rfl
        rw [← h2] at this
        rw [List.getElem?_append_left hl] at this
        exact absurd (List.mem_of_getElem? this) h
      · exact he
      · have : c ∈ (a ++ c :: r).take i := by
          rw [List.take_append]
          simp
          right
          rw [show i - a.length = (i - a.length - 1) + 1 by omega, List.take_succ_cons]
          simp
        exact absurd this h4
    unfold Lib.cut
    rw [h1, if_pos (by omega)]
    simp only [Int.toNat_natCast, List.length_cons, List.length_nil]
    rw [hi]
    simp

end Go.Proofs.YtkgfepakedieaaaDoor
