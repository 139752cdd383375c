/- Decimal numbers and the words of a train, read from texts: plain laws. -/
import Derived.Test.YtkgfepakedieaaaGreatDoorSplitP
import Derived.Test.YtkgfepakedieaaaGreatDoorCtTy
import Derived.Lib.ParseIntB
import Derived.Lib.IndexMore
set_option linter.unusedVariables false
set_option linter.unusedSimpArgs false
namespace Go.Proofs.YtkgfepakedieaaaGreatDoor
open Go.RowKit

theorem u8_ofNat (n : Nat) (h : n < 256) : (UInt8.ofNat n).toNat = n := by rw [UInt8.toNat_ofNat']; omega
theorem u8_dig {c : UInt8} (h0 : 48 ≤ c.toNat) (h1 : c.toNat ≤ 57) : UInt8.ofNat (48 + (c.toNat - 48)) = c := by
  rw [show 48 + (c.toNat - 48) = c.toNat by omega, UInt8.ofNat_toNat]

/-- A number's digits, read, are the number. -/
theorem parse_dec (M : Nat) (hM : M ≤ 1000000) : ∀ (n : Nat), n ≤ M → ∀ r, Lib.parseUintM M 0 (Lib.decDigits n ++ r) = Lib.parseUintM M n r := by
  intro n
  induction n using Nat.strongRecOn with
  | ind n ih =>
    intro hn r
    rw [Lib.decDigits]
    split
    · rename_i h
      have hu := u8_ofNat (48 + n) (by omega)
      rw [List.singleton_append, Lib.parseUintM, hu, if_pos (by omega), if_neg (by omega), if_neg (by omega)]
      congr 1
      omega
    · rename_i h
      have hu := u8_ofNat (48 + n % 10) (by omega)
      rw [List.append_assoc, ih (n / 10) (by omega) (by omega), List.singleton_append, Lib.parseUintM, hu, if_pos (by omega), if_neg (by omega), if_neg (by omega)]
      congr 1
      omega
theorem dec_ne (n : Nat) : Lib.decDigits n ≠ [] := by
  rw [Lib.decDigits]
  split <;> simp
theorem dec_digit (n : Nat) : ∀ c ∈ Lib.decDigits n, 48 ≤ c.toNat ∧ c.toNat ≤ 57 := by
  induction n using Nat.strongRecOn with
  | ind n ih =>
    intro c hc
    rw [Lib.decDigits] at hc
    split at hc
    · rw [List.mem_singleton] at hc
      rw [hc, u8_ofNat _ (by omega)]
      omega
    · rcases List.mem_append.1 hc with h | h
      · exact ih (n / 10) (by omega) c h
      · rw [List.mem_singleton] at h
        rw [h, u8_ofNat _ (by omega)]
        omega
/-- What the program takes for a number of teeth. -/
def pn (s : ByteArray) : Option Nat := match Lib.parseUintB 15 s.data.toList with
  | .ok u => if decB u = s then some u else none
  | _ => none
theorem pn_dec {n : Nat} (h : n ≤ 32767) : pn (decB n) = some n := by
  have h1 : Lib.parseUintB 15 (decB n).data.toList = .ok n := by
    show Lib.parseUintB 15 (Lib.decDigits n) = .ok n
    unfold Lib.parseUintB
    rw [if_neg (dec_ne n), show (2 : Nat) ^ 15 - 1 = 32767 by decide]
    have := parse_dec 32767 (by decide) n h []
    rw [List.append_nil] at this
    rw [this]
    rfl
  unfold pn
  rw [h1]
  simp

/-- The reference's reading of digits. -/
def numV (acc : Nat) : List UInt8 → Option Nat
  | [] => some acc
  | c :: r => if 48 ≤ c.toNat ∧ c.toNat ≤ 57 then numV (acc * 10 + (c.toNat - 48)) r else none
theorem numV_snoc : ∀ (l : List UInt8) (acc : Nat) (c : UInt8), numV acc (l ++ [c]) = (numV acc l).bind fun a => if 48 ≤ c.toNat ∧ c.toNat ≤ 57 then some (a * 10 + (c.toNat - 48)) else none
  | [], acc, c => by simp [numV]
  | b :: l, acc, c => by
    rw [List.cons_append, numV, numV]
    split
    · exact numV_snoc l _ c
    · rfl
theorem numV_ge : ∀ (l : List UInt8) (acc n : Nat), numV acc l = some n → acc ≤ n
  | [], acc, n, h => by simp [numV] at h; omega
  | c :: r, acc, n, h => by
    rw [numV] at h
    split at h
    · have := numV_ge r _ n h
      omega
    · cases h
theorem numV_dec (n : Nat) (r : List UInt8) : numV 0 (Lib.decDigits n ++ r) = numV n r := by
  induction n using Nat.strongRecOn generalizing r with
  | ind n ih =>
    rw [Lib.decDigits]
    split
    · have hu := u8_ofNat (48 + n) (by omega)
      rw [List.singleton_append, numV, hu, if_pos (by omega)]
      congr 1
      omega
    · have hu := u8_ofNat (48 + n % 10) (by omega)
      rw [List.append_assoc, ih (n / 10) (by omega), List.singleton_append, numV, hu, if_pos (by omega)]
      congr 1
      omega
/-- Digits that begin with no zero are those of what they spell. -/
theorem dec_numV : ∀ (k : Nat) (l : List UInt8) (n : Nat), l.length = k → l ≠ [] → (l.head? = some 48 → l.length = 1) → numV 0 l = some n → Lib.decDigits n = l := by
  intro k
  induction k with
  | zero => intro l n hk hne; exact absurd (List.length_eq_zero_iff.1 hk) hne
  | succ k ih =>
    intro l n hk hne hz h
    obtain ⟨l', c, rfl⟩ : ∃ l' c, l = l' ++ [c] := by
      rcases List.eq_nil_or_concat l with h0 | ⟨l', c, h0⟩
      · exact absurd h0 hne
      · exact ⟨l', c, by simpa using h0⟩
    rw [numV_snoc] at h
    obtain ⟨a, ha, h2⟩ := Option.bind_eq_some_iff.1 h
    split at h2
    · rename_i hc
      simp only [Option.some.injEq] at h2
      by_cases hl : l' = []
      · subst hl
        simp [numV] at ha
        subst ha
        rw [Lib.decDigits, dif_pos (by omega), ← h2]
        rw [show 48 + (0 * 10 + (c.toNat - 48)) = 48 + (c.toNat - 48) by omega, u8_dig hc.1 hc.2]
        rfl
      · have hz' : l'.head? = some 48 → l'.length = 1 := fun h0 => by
          have h3 : (l' ++ [c]).head? = some 48 := by rw [List.head?_append, h0]; rfl
          have := hz h3
          simp at this
          exact absurd this hl
        have hz2 : l'.head? ≠ some 48 := fun h0 => by
          have h3 : (l' ++ [c]).head? = some 48 := by rw [List.head?_append, h0]; rfl
          have := hz h3
          simp at this
          exact hl this
        have hd := ih l' a (by simp at hk; omega) hl hz' ha
        have ha1 : 1 ≤ a := by
          cases l' with
          | nil => exact absurd rfl hl
          | cons b l'' =>
            rw [numV] at ha
            split at ha
            · rename_i hb
              have hb0 : b ≠ 48 := fun e => hz2 (by rw [e]; rfl)
              have : b.toNat ≠ 48 := fun e => hb0 (UInt8.toNat_inj.1 (by rw [e]; rfl))
              have := numV_ge l'' _ a ha
              omega
            · cases ha
        rw [Lib.decDigits, dif_neg (by omega), ← h2]
        rw [show (a * 10 + (c.toNat - 48)) / 10 = a by omega, show (a * 10 + (c.toNat - 48)) % 10 = c.toNat - 48 by omega, hd, u8_dig hc.1 hc.2]
    · cases h2
def l01Num (s : ByteArray) : Option Nat := if s.size < 1 ∨ 9 < s.size ∨ (s.data.toList.head? = some 48 ∧ 1 < s.size) then none else numV 0 s.data.toList
theorem list_size (s : ByteArray) : s.data.toList.length = s.size := by simp
theorem bytes_eq {s : ByteArray} {l : List UInt8} (h : s.data.toList = l) : s = ⟨l.toArray⟩ := by
  apply ByteArray.ext
  apply Array.toList_inj.1
  simpa using h
theorem l01Num_text {s : ByteArray} {n : Nat} (h : l01Num s = some n) : decB n = s := by
  unfold l01Num at h
  split at h
  · cases h
  · rename_i hn
    have hs := list_size s
    have := dec_numV _ s.data.toList n rfl (fun e => by rw [e] at hs; simp at hs; omega) (fun e => by
      have : ¬ (1 < s.size) := fun h1 => hn (.inr (.inr ⟨e, h1⟩))
      omega) h
    rw [decB, this]
theorem dec_len : ∀ n ≤ 999, (Lib.decDigits n).length ≤ 3 := by
  intro n hn
  rw [Lib.decDigits]
  split
  · simp
  · rw [List.length_append, Lib.decDigits]
    split
    · simp
    · rw [List.length_append, Lib.decDigits, dif_pos (by omega)]
      simp
theorem dec_head : ∀ n, 1 ≤ n → (Lib.decDigits n).head? ≠ some 48 := by
  intro n
  induction n using Nat.strongRecOn with
  | ind n ih =>
    intro hn h
    rw [Lib.decDigits] at h
    split at h
    · rename_i h10
      simp only [List.head?_cons, Option.some.injEq] at h
      have := congrArg UInt8.toNat h
      rw [u8_ofNat _ (by omega)] at this
      have : 48 + n = 48 := this
      omega
    · rw [List.head?_append] at h
      cases hd : (Lib.decDigits (n / 10)).head? with
      | none => exact dec_ne _ (List.head?_eq_none_iff.1 hd)
      | some x =>
        rw [hd] at h
        simp at h
        exact ih (n / 10) (by omega) (by omega) (by rw [hd, h])
theorem l01Num_dec {n : Nat} (h1 : 1 ≤ n) (h : n ≤ 999) : l01Num (decB n) = some n := by
  have hl : (decB n).size = (Lib.decDigits n).length := List.size_toArray
  have h3 := dec_len n h
  have h4 : 1 ≤ (Lib.decDigits n).length := by
    cases hd : Lib.decDigits n with
    | nil => exact absurd hd (dec_ne n)
    | cons => simp
  unfold l01Num
  rw [if_neg]
  · have := numV_dec n []
    rw [List.append_nil] at this
    exact this
  · rw [hl]
    rintro (h5 | h5 | ⟨h5, _⟩)
    · omega
    · omega
    · exact dec_head n h1 h5

theorem cut_hit (c : UInt8) (a r : List UInt8) (h : c ∉ a) : Lib.cut (a ++ c :: r) [c] = (a, r, true) := by
  rcases index_hit c (a ++ c :: r) with ⟨_, h2⟩ | ⟨i, h1, r', h2, h3, h4⟩
  · exact absurd (by simp) h2
  · have hi : i = a.length := by
      rcases Nat.lt_trichotomy i a.length with hl | he | hl
      · have hlen : (a ++ c :: r).length = min i (a ++ c :: r).length + (r'.length + 1) := by
          conv => lhs; rw [h2]
          rw [List.length_append, List.length_take, List.length_cons]
        have hmin : ((a ++ c :: r).take i).length = i := by
          rw [List.length_take]
          generalize (a ++ c :: r).length = L at hlen
          omega
        have : ((a ++ c :: r).take i ++ c :: r')[i]? = some c := by
          rw [List.getElem?_append_right (by omega), hmin, Nat.sub_self]
          rfl
        rw [← h2] at this
        rw [List.getElem?_append_left hl] at this
        exact absurd (List.mem_of_getElem? this) h
      · exact he
      · have : c ∈ (a ++ c :: r).take i := by
          rw [List.take_append]
          simp
          right
          rw [show i - a.length = (i - a.length - 1) + 1 by omega, List.take_succ_cons]
          simp
        exact absurd this h4
    unfold Lib.cut
    rw [h1, if_pos (by omega)]
    simp only [Int.toNat_natCast, List.length_cons, List.length_nil]
    rw [hi]
    simp

end Go.Proofs.YtkgfepakedieaaaGreatDoor

/-! The words of a train, read from its text: the program's and the reference's way give the same. Plain laws. -/
namespace Go.Proofs.YtkgfepakedieaaaGreatDoor
open Go.RowKit

theorem hexL_mem {b : Nat} {c : UInt8} (h : c ∈ hexL b) : isHex c = true := List.all_eq_true.1 (hexL_hex b) c h
/-- A pair that a valid train may have: teeth, and a loss that is its own canonical value. -/
def POk (p : T3) : Prop := 6 ≤ p.1 ∧ p.1 ≤ 200 ∧ 6 ≤ p.2.1 ∧ p.2.1 ≤ 200 ∧ p.2.2 < 2 ^ 32 ∧ cn p.2.2 = p.2.2
theorem numText_list (x : Nat) : (numText x).data.toList = hexL (cn x) := rfl
theorem readV_num {x : Nat} (hx : x < 2 ^ 32) (hc : cn x = x) : numOk (numText x) = true ∧ readV (numText x) = x := by
  have h1 : readB (numText x).data.toList = x := by rw [numText_list, hc, readB_hexL x hx]
  have h2 : numOk (numText x) = true := by simp [numOk, h1]
  exact ⟨h2, by rw [readV, if_pos h2, h1]⟩
theorem pair_list (p : T3) : (pairText p).data.toList = (Lib.decDigits p.1.toNat ++ 47 :: Lib.decDigits p.2.1.toNat) ++ 58 :: hexL (cn p.2.2) := by
  unfold pairText
  rw [ByteArray.data_append, ByteArray.data_append, ByteArray.data_append, ByteArray.data_append]
  simp [decB, numText]
theorem dec_free (n : Nat) (c : UInt8) (h : c.toNat < 48 ∨ 57 < c.toNat) : c ∉ Lib.decDigits n := fun hm => by
  have := dec_digit n c hm
  omega
theorem hex_free (b : Nat) (c : UInt8) (h : isHex c = false) : c ∉ hexL b := fun hm => by rw [hexL_mem hm] at h; cases h
theorem free58 (p : T3) : (58 : UInt8) ∉ Lib.decDigits p.1.toNat ++ 47 :: Lib.decDigits p.2.1.toNat := by
  rw [List.mem_append, List.mem_cons]
  rintro (h | h | h)
  · exact dec_free _ 58 (by decide) h
  · exact absurd h (by decide)
  · exact dec_free _ 58 (by decide) h
theorem free32 (p : T3) : (32 : UInt8) ∉ (pairText p).data.toList := by
  rw [pair_list, List.mem_append, List.mem_append, List.mem_cons, List.mem_cons]
  rintro ((h | h | h) | h | h)
  · exact dec_free _ 32 (by decide) h
  · exact absurd h (by decide)
  · exact dec_free _ 32 (by decide) h
  · exact absurd h (by decide)
  · exact hex_free _ 32 (by decide) h

/-- The program's reading of a word. -/
def cutB (c : UInt8) (s : ByteArray) : List UInt8 × List UInt8 × Bool := Lib.cut s.data.toList [c]
def lB (l : List UInt8) : ByteArray := ⟨l.toArray⟩
def parseP (w : ByteArray) : Option T3 :=
  if (cutB 58 w).2.2 && (cutB 47 (lB (cutB 58 w).1)).2.2 then
    match pn (lB (cutB 47 (lB (cutB 58 w).1)).1), pn (lB (cutB 47 (lB (cutB 58 w).1)).2.1) with
    | some a, some b => if numOk (lB (cutB 58 w).2.1) then some ((a : Int), (b : Int), readV (lB (cutB 58 w).2.1)) else none
    | _, _ => none
  else none
/-- The reference's reading of a word. -/
def parseS (w : ByteArray) : Option T3 :=
  match piecesB 58 w with
  | [h0, h1] => match piecesB 47 h0 with
    | [t0, t1] => match l01Num t0, l01Num t1 with
      | some a, some b => if numOk h1 && (withinB a 6 200 && withinB b 6 200) then some ((a : Int), (b : Int), readV h1) else none
      | _, _ => none
    | _ => none
  | _ => none

theorem lB_list (l : List UInt8) : (lB l).data.toList = l := by simp [lB]
theorem lB_dec (n : Nat) : lB (Lib.decDigits n) = decB n := rfl
theorem parseP_pair {p : T3} (h : POk p) : parseP (pairText p) = some p := by
  obtain ⟨h1, h2, h3, h4, h5, h6⟩ := h
  have c1 : cutB 58 (pairText p) = (Lib.decDigits p.1.toNat ++ 47 :: Lib.decDigits p.2.1.toNat, hexL (cn p.2.2), true) := by
    unfold cutB
    rw [pair_list, cut_hit 58 _ _ (free58 p)]
  have c2 : cutB 47 (lB (Lib.decDigits p.1.toNat ++ 47 :: Lib.decDigits p.2.1.toNat)) = (Lib.decDigits p.1.toNat, Lib.decDigits p.2.1.toNat, true) := by
    unfold cutB
    rw [lB_list, cut_hit 47 _ _ (dec_free _ 47 (by decide))]
  obtain ⟨k1, k2⟩ := readV_num h5 h6
  have k0 : lB (hexL (cn p.2.2)) = numText p.2.2 := rfl
  unfold parseP
  rw [c1]
  simp only []
  rw [c2]
  simp only [Bool.and_self, if_true, lB_dec]
  rw [pn_dec (by omega), pn_dec (by omega), k0, k1, k2]
  simp only [if_true]
  congr 1
  obtain ⟨a, b, c⟩ := p
  simp at h1 h3 ⊢
  omega
theorem parseS_pair {p : T3} (h : POk p) : parseS (pairText p) = some p := by
  obtain ⟨h1, h2, h3, h4, h5, h6⟩ := h
  have c1 : piecesB 58 (pairText p) = [lB (Lib.decDigits p.1.toNat ++ 47 :: Lib.decDigits p.2.1.toNat), numText p.2.2] := by
    unfold piecesB
    rw [pair_list, splitL_hit 58 _ _ (free58 p), splitL_none 58 _ (hex_free _ 58 (by decide))]
    rfl
  have c2 : piecesB 47 (lB (Lib.decDigits p.1.toNat ++ 47 :: Lib.decDigits p.2.1.toNat)) = [decB p.1.toNat, decB p.2.1.toNat] := by
    unfold piecesB
    rw [lB_list, splitL_hit 47 _ _ (dec_free _ 47 (by decide)), splitL_none 47 _ (dec_free _ 47 (by decide))]
    rfl
  obtain ⟨k1, k2⟩ := readV_num h5 h6
  unfold parseS
  rw [c1]
  simp only []
  rw [c2]
  simp only []
  rw [l01Num_dec (by omega) (by omega), l01Num_dec (by omega) (by omega)]
  simp only [k1, k2]
  have e1 : withinB (p.1.toNat : Int) 6 200 = true := by simp [withinB]; omega
  have e2 : withinB (p.2.1.toNat : Int) 6 200 = true := by simp [withinB]; omega
  rw [e1, e2]
  simp only [Bool.and_self, if_true]
  congr 1
  obtain ⟨a, b, c⟩ := p
  simp at h1 h3 ⊢
  omega
theorem pieces_join2 (c : UInt8) (s : ByteArray) (a b : ByteArray) (h : piecesB c s = [a, b]) : s = a ++ ⟨#[c]⟩ ++ b := by
  apply ByteArray.ext
  apply Array.toList_inj.1
  have h1 := splitL_join c s.data.toList
  have h2 : splitL c s.data.toList = [a.data.toList, b.data.toList] := by
    have := congrArg (List.map fun x : ByteArray => x.data.toList) h
    unfold piecesB at this
    rw [List.map_map] at this
    have e : (List.map ((fun x : ByteArray => x.data.toList) ∘ fun l => (⟨l.toArray⟩ : ByteArray)) (splitL c s.data.toList)) = splitL c s.data.toList := by
      conv => rhs; rw [← List.map_id (splitL c s.data.toList)]
      rfl
    rw [e] at this
    simpa using this
  rw [h2] at h1
  rw [← h1, ByteArray.data_append, ByteArray.data_append]
  simp [Lib.join, List.intercalate]
theorem numOk_readV {s : ByteArray} (h : numOk s = true) : numText (readV s) = s ∧ cn (readV s) = readV s := by
  have h1 := h
  rw [numOk_iff] at h1
  simp only [Bool.and_eq_true, beq_iff_eq] at h1
  have h2 : numText (readB s.data.toList) = s := by simpa [numOk] using h
  rw [readV, if_pos h]
  exact ⟨h2, h1.2⟩
theorem parseS_text {w : ByteArray} {p : T3} (h : parseS w = some p) : pairText p = w ∧ POk p := by
  unfold parseS at h
  split at h
  · rename_i h0 h1 e1
    split at h
    · rename_i t0 t1 e2
      split at h
      · rename_i a b e3 e4
        split at h
        · rename_i hok
          simp only [Bool.and_eq_true] at hok
          obtain ⟨ho, ha, hb⟩ := hok
          obtain ⟨k1, k2⟩ := numOk_readV ho
          simp only [withinB, Bool.and_eq_true, decide_eq_true_eq] at ha hb
          simp only [Option.some.injEq] at h
          subst h
          refine ⟨?_, by simp; omega, by simp; omega, by simp; omega, by simp; omega, readV_lt _, k2⟩
          rw [pieces_join2 58 w _ _ e1, pieces_join2 47 h0 _ _ e2, ← l01Num_text e3, ← l01Num_text e4]
          unfold pairText
          simp only [Int.toNat_natCast]
          rw [k1]
        · cases h
      · cases h
    · cases h
  · cases h

theorem part_cn {x : Nat} (h : partB x = true) : cn x = x := by
  have h1 := fin_of_bet (lo := 0) (hi := 1065353216) (by decide +kernel) (by decide +kernel) h
  obtain ⟨s, m, i, e⟩ := isFin_read h1
  apply cn_of_num
  rw [isNan_iff, e]
  rfl
theorem pok_of {ps : List T3} {p : T3} (hB : trainB ps = true) (hk : ∀ p ∈ ps, p.2.2 < 2 ^ 32) (hp : p ∈ ps) : POk p := by
  obtain ⟨j, hj⟩ := List.mem_iff_getElem?.1 hp
  obtain ⟨t0, t1, t2, t3⟩ := teeth_of hB hj
  simp only [trainB, Bool.and_eq_true] at hB
  have := List.all_eq_true.1 hB.2 p hp
  simp only [pairB, Bool.and_eq_true] at this
  exact ⟨t0, t1, t2, t3, hk p hp, part_cn this.2⟩

/-- The words, all read. -/
def allP (f : ByteArray → Option T3) (ws : List ByteArray) : Bool := ws.all fun w => (f w).isSome
def getP (f : ByteArray → Option T3) (ws : List ByteArray) : List T3 := ws.map fun w => (f w).getD (0, 0, 0)
theorem getP_pairs {f : ByteArray → Option T3} {ps : List T3} (h : ∀ p ∈ ps, f (pairText p) = some p) : allP f (ps.map pairText) = true ∧ getP f (ps.map pairText) = ps := by
  constructor
  · unfold allP
    rw [List.all_eq_true]
    intro x hx
    obtain ⟨p, hp, rfl⟩ := List.mem_map.1 hx
    rw [h p hp]
    rfl
  · unfold getP
    rw [List.map_map]
    conv => rhs; rw [← List.map_id ps]
    apply List.map_congr_left
    intro p hp
    show (f (pairText p)).getD (0, 0, 0) = p
    rw [h p hp]
    rfl
theorem text_words {ps : List T3} (hne : ps ≠ []) : piecesB 32 (trainTextB ps) = ps.map pairText := by
  unfold piecesB trainTextB
  simp only []
  rw [splitL_of_join 32 _ (by simpa using hne) (by
    intro l hl
    obtain ⟨p, _, rfl⟩ := List.mem_map.1 hl
    exact free32 p), List.map_map]
  apply List.map_congr_left
  intro p _
  apply ByteArray.ext
  simp
theorem words_text (s : ByteArray) {ps : List T3} (h : piecesB 32 s = ps.map pairText) : trainTextB ps = s := by
  apply ByteArray.ext
  apply Array.toList_inj.1
  unfold trainTextB
  have h1 := splitL_join 32 s.data.toList
  have h2 : splitL 32 s.data.toList = ps.map fun p => (pairText p).data.toList := by
    have := congrArg (List.map fun x : ByteArray => x.data.toList) h
    unfold piecesB at this
    rw [List.map_map, List.map_map] at this
    have e : (List.map ((fun x : ByteArray => x.data.toList) ∘ fun l => (⟨l.toArray⟩ : ByteArray)) (splitL 32 s.data.toList)) = splitL 32 s.data.toList := by
      conv => rhs; rw [← List.map_id (splitL 32 s.data.toList)]
      rfl
    rw [e] at this
    exact this
  rw [h2] at h1
  simpa using h1

def rtP (s : ByteArray) : Bool := allP parseP (piecesB 32 s) && decide (trainText (getP parseP (piecesB 32 s)) = s)
def rtS (s : ByteArray) : Bool := allP parseS (piecesB 32 s) && trainB (getP parseS (piecesB 32 s))
theorem readV_ltP {w : ByteArray} {p : T3} (h : parseP w = some p) : p.2.2 < 2 ^ 32 := by
  unfold parseP at h
  split at h
  · split at h
    · split at h
      · simp only [Option.some.injEq] at h
        subst h
        exact readV_lt _
      · cases h
    · cases h
  · cases h
theorem getP_ok {ws : List ByteArray} : ∀ p ∈ getP parseP ws, p.2.2 < 2 ^ 32 := by
  intro p hp
  obtain ⟨w, _, rfl⟩ := List.mem_map.1 hp
  cases h : parseP w with
  | none => decide
  | some q => exact readV_ltP h
theorem parseP_empty : parseP ⟨#[]⟩ = none := by
  unfold parseP
  rw [if_neg]
  simp [cutB, Lib.cut, Lib.index]
theorem rtP_S {s : ByteArray} (h : rtP s = true) : rtS s = true ∧ getP parseS (piecesB 32 s) = getP parseP (piecesB 32 s) := by
  unfold rtP at h
  simp only [Bool.and_eq_true, decide_eq_true_eq] at h
  obtain ⟨h1, h2⟩ := h
  generalize hps : getP parseP (piecesB 32 s) = ps at h2
  have hk : ∀ p ∈ ps, p.2.2 < 2 ^ 32 := by rw [← hps]; exact getP_ok
  cases hB : trainB ps
  · exfalso
    have : trainText ps = ⟨#[]⟩ := by simp [trainText, hB]
    rw [this] at h2
    subst h2
    have hw : piecesB 32 ⟨#[]⟩ = [⟨#[]⟩] := rfl
    rw [hw] at h1
    simp [allP, parseP_empty] at h1
  · have hT : trainText ps = trainTextB ps := by simp [trainText, hB]
    rw [hT] at h2
    have hne : ps ≠ [] := by
      intro e
      subst e
      simp [trainB, withinB] at hB
    have hw : piecesB 32 s = ps.map pairText := by rw [← h2]; exact text_words hne
    obtain ⟨k1, k2⟩ := getP_pairs (f := parseS) (ps := ps) (fun p hp => parseS_pair (pok_of hB hk hp))
    unfold rtS
    rw [hw, k1, k2, hB]
    exact ⟨rfl, rfl⟩
theorem rtS_P {s : ByteArray} (h : rtS s = true) : rtP s = true := by
  unfold rtS at h
  simp only [Bool.and_eq_true] at h
  obtain ⟨h1, h2⟩ := h
  have hw : ∀ w ∈ piecesB 32 s, ∃ p, parseS w = some p ∧ pairText p = w ∧ POk p := by
    intro w hw
    have := List.all_eq_true.1 h1 w hw
    obtain ⟨p, hp⟩ := Option.isSome_iff_exists.1 this
    exact ⟨p, hp, parseS_text hp⟩
  generalize hps : getP parseS (piecesB 32 s) = ps at h2
  have hm : piecesB 32 s = ps.map pairText := by
    rw [← hps]
    unfold getP
    rw [List.map_map]
    conv => lhs; rw [← List.map_id (piecesB 32 s)]
    apply List.map_congr_left
    intro w hw1
    obtain ⟨p, e1, e2, _⟩ := hw w hw1
    show w = pairText ((parseS w).getD (0, 0, 0))
    rw [e1]
    exact e2.symm
  have hpk : ∀ p ∈ ps, POk p := by
    intro p hp
    have : pairText p ∈ piecesB 32 s := by rw [hm]; exact List.mem_map_of_mem hp
    rw [← hps] at hp
    obtain ⟨w, hw1, e⟩ := List.mem_map.1 hp
    obtain ⟨q, e1, _, e3⟩ := hw w hw1
    rw [e1] at e
    have : q = p := e
    rw [← this]
    exact e3
  obtain ⟨k1, k2⟩ := getP_pairs (f := parseP) (ps := ps) (fun p hp => parseP_pair (hpk p hp))
  have ht := words_text s hm
  unfold rtP
  rw [hm, k1, k2]
  have : trainText ps = trainTextB ps := by simp [trainText, h2]
  rw [this, ht]
  simp
theorem rt_eq (s : ByteArray) : rtP s = rtS s := by
  cases h : rtS s
  · cases h2 : rtP s
    · rfl
    · rw [(rtP_S h2).1] at h
      cases h
  · exact rtS_P h

end Go.Proofs.YtkgfepakedieaaaGreatDoor
