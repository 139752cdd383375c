/- The words of a train, read from its text: the program's and the reference's way give the same. Plain laws. -/
import Derived.Test.YtkgfepakedieaaaDoorDecP
namespace Go.Proofs.YtkgfepakedieaaaDoor
open Go.RowKit

theorem hexL_mem {b : Nat} {c : UInt8} (h : c ∈ hexL b) : isHex c = true := List.all_eq_true.1 (hexL_hex b) c h
/-- A pair that a valid train may have: teeth, and a loss that is its own canonical value. -/
def POk (p : T3) : Prop := 6 ≤ p.1 ∧ p.1 ≤ 200 ∧ 6 ≤ p.2.1 ∧ p.2.1 ≤ 200 ∧ p.2.2 < 2 ^ 32 ∧ cn p.2.2 = p.2.2
theorem numText_list (x : Nat) : (numText x).data.toList = hexL (cn x) := rfl
theorem readV_num {x : Nat} (hx : x < 2 ^ 32) (hc : cn x = x) : numOk (numText x) = true ∧ readV (numText x) = x := by
  have h1 : readB (numText x).data.toList = x := by rw [numText_list, hc, readB_hexL x hx]
  have h2 : numOk (numText x) = true := by simp [numOk, h1]
  exact ⟨h2, by rw [readV, if_pos h2, h1]⟩
theorem pair_list (p : T3) : (pairText p).data.toList = (Lib.decDigits p.1.toNat ++ 47 :: Lib.decDigits p.2.1.toNat) ++ 58 :: hexL (cn p.2.2) := by
  unfold pairText
  rw [ByteArray.data_append, ByteArray.data_append, ByteArray.data_append, ByteArray.data_append]
  simp [decB, numText]
theorem dec_free (n : Nat) (c : UInt8) (h : c.toNat < 48 ∨ 57 < c.toNat) : c ∉ Lib.decDigits n := fun hm => by
  have := dec_digit n c hm
  omega
theorem hex_free (b : Nat) (c : UInt8) (h : isHex c = false) : c ∉ hexL b := fun hm => by rw [hexL_mem hm] at h; cases h
theorem free58 (p : T3) : (58 : UInt8) ∉ Lib.decDigits p.1.toNat ++ 47 :: Lib.decDigits p.2.1.toNat := by
  rw [List.mem_append, List.mem_cons]
  rintro (h | h | h)
  · exact dec_free _ 58 (by decide) h
  · exact absurd h (by decide)
  · exact dec_free _ 58 (by decide) h
theorem free32 (p : T3) : (32 : UInt8) ∉ (pairText p).data.toList := by
  rw [pair_list, List.mem_append, List.mem_append, List.mem_cons, List.mem_cons]
  rintro ((h | h | h) | h | h)
  · exact dec_free _ 32 (by decide) h
  · exact absurd h (by decide)
  · exact dec_free _ 32 (by decide) h
  · exact absurd h (by decide)
  · exact hex_free _ 32 (by decide) h

/-- The program's reading of a word. -/
def cutB (c : UInt8) (s : ByteArray) : List UInt8 × List UInt8 × Bool := Lib.cut s.data.toList [c]
def lB (l : List UInt8) : ByteArray := ⟨l.toArray⟩
def parseP (w : ByteArray) : Option T3 :=
  if (cutB 58 w).2.2 && (cutB 47 (lB (cutB 58 w).1)).2.2 then
    match pn (lB (cutB 47 (lB (cutB 58 w).1)).1), pn (lB (cutB 47 (lB (cutB 58 w).1)).2.1) with
    | some a, some b => if numOk (lB (cutB 58 w).2.1) then some ((a : Int), (b : Int), readV (lB (cutB 58 w).2.1)) else none
    | _, _ => none
  else none
/-- The reference's reading of a word. -/
def parseS (w : ByteArray) : Option T3 :=
  match piecesB 58 w with
  | [h0, h1] => match piecesB 47 h0 with
    | [t0, t1] => match l01Num t0, l01Num t1 with
      | some a, some b => if numOk h1 && (withinB a 6 200 && withinB b 6 200) then some ((a : Int), (b : Int), readV h1) else none
      | _, _ => none
    | _ => none
  | _ => none

theorem lB_list (l : List UInt8) : (lB l).data.toList = l := by simp [lB]
theorem lB_dec (n : Nat) : lB (Lib.decDigits n) = decB n := rfl
theorem parseP_pair {p : T3} (h : POk p) : parseP (pairText p) = some p := by
  obtain ⟨h1, h2, h3, h4, h5, h6⟩ := h
  have c1 : cutB 58 (pairText p) = (Lib.decDigits p.1.toNat ++ 47 :: Lib.decDigits p.2.1.toNat, hexL (cn p.2.2), true) := by
    unfold cutB
    rw [pair_list, cut_hit 58 _ _ (free58 p)]
  have c2 : cutB 47 (lB (Lib.decDigits p.1.toNat ++ 47 :: Lib.decDigits p.2.1.toNat)) = (Lib.decDigits p.1.toNat, Lib.decDigits p.2.1.toNat, true) := by
    unfold cutB
    rw [lB_list, cut_hit 47 _ _ (dec_free _ 47 (by decide))]
  obtain ⟨k1, k2⟩ := readV_num h5 h6
  have k0 : lB (hexL (cn p.2.2)) = numText p.2.2 := rfl
  unfold parseP
  rw [c1]
  simp only []
  rw [c2]
  simp only [Bool.and_self, if_true, lB_dec]
  rw [pn_dec (by omega), pn_dec (by omega), k0, k1, k2]
  simp only [if_true]
  congr 1
  obtain ⟨a, b, c⟩ := p
  simp at h1 h3 ⊢
  omega
theorem parseS_pair {p : T3} (h : POk p) : parseS (pairText p) = some p := by
  obtain ⟨h1, h2, h3, h4, h5, h6⟩ := h
  have c1 : piecesB 58 (pairText p) = [lB (Lib.decDigits p.1.toNat ++ 47 :: Lib.decDigits p.2.1.toNat), numText p.2.2] := by
    unfold piecesB
    rw [pair_list, splitL_hit 58 _ _ (free58 p), splitL_none 58 _ (hex_free _ 58 (by decide))]
    rfl
  have c2 : piecesB 47 (lB (Lib.decDigits p.1.toNat ++ 47 :: Lib.decDigits p.2.1.toNat)) = [decB p.1.toNat, decB p.2.1.toNat] := by
    unfold piecesB
    rw [lB_list, splitL_hit 47 _ _ (dec_free _ 47 (by decide)), splitL_none 47 _ (dec_free _ 47 (by decide))]
    rfl
  obtain ⟨k1, k2⟩ := readV_num h5 h6
  unfold parseS
  rw [c1]
  simp only []
  rw [c2]
  simp only []
  rw [l01Num_dec (by omega) (by omega), l01Num_dec (by omega) (by omega)]
  simp only [k1, k2]
  have e1 : withinB (p.1.toNat : Int) 6 200 = true := by simp [withinB]; omega
  have e2 : withinB (p.2.1.toNat : Int) 6 200 = true := by simp [withinB]; omega
  rw [e1, e2]
  simp only [Bool.and_self, if_true]
  congr 1
  obtain ⟨a, b, c⟩ := p
  simp at h1 h3 ⊢
  omega
theorem pieces_join2 (c : UInt8) (s : ByteArray) (a b : ByteArray) (h : piecesB c s = [a, b]) : s = a ++ ⟨#[c]⟩ ++ b := by
  apply ByteArray.ext
  apply Array.toList_inj.1
  have h1 := splitL_join c s.data.toList
  have h2 : splitL c s.data.toList = [a.data.toList, b.data.toList] := by
    have := congrArg (List.map fun x : ByteArray => x.data.toList) h
    unfold piecesB at this
    rw [List.map_map] at this
    have e : (List.map ((fun x : ByteArray => x.data.toList) ∘ fun l => (⟨l.toArray⟩ : ByteArray)) (splitL c s.data.toList)) = splitL c s.data.toList := by
      conv => rhs; rw [← List.map_id (splitL c s.data.toList)]
      rfl
    rw [e] at this
    simpa using this
  rw [h2] at h1
  rw [← h1, ByteArray.data_append, ByteArray.data_append]
  simp [Lib.join, List.intercalate]
theorem numOk_readV {s : ByteArray} (h : numOk s = true) : numText (readV s) = s ∧ cn (readV s) = readV s := by
  have h1 := h
  rw [numOk_iff] at h1
  simp only [Bool.and_eq_true, beq_iff_eq] at h1
  have h2 : numText (readB s.data.toList) = s := by simpa [numOk] using h
  rw [readV, if_pos h]
  exact ⟨h2, h1.2⟩
theorem parseS_text {w : ByteArray} {p : T3} (h : parseS w = some p) : pairText p = w ∧ POk p := by
  unfold parseS at h
  split at h
  · rename_i h0 h1 e1
    split at h
    · rename_i t0 t1 e2
      split at h
      · rename_i a b e3 e4
        split at h
        · rename_i hok
          simp only [Bool.and_eq_true] at hok
          obtain ⟨ho, ha, hb⟩ := hok
          obtain ⟨k1, k2⟩ := numOk_readV ho
          simp only [withinB, Bool.and_eq_true, decide_eq_true_eq] at ha hb
          simp only [Option.some.injEq] at h
          subst h
          refine ⟨?_, by simp; omega, by simp; omega, by simp; omega, by simp; omega, readV_lt _, k2⟩
          rw [pieces_join2 58 w _ _ e1, pieces_join2 47 h0 _ _ e2, ← l01Num_text e3, ← l01Num_text e4]
          unfold pairText
          simp only [Int.toNat_natCast]
          rw [k1]
        · cases h
      · cases h
    · cases h
  · cases h

theorem part_cn {x : Nat} (h : partB x = true) : cn x = x := by
  have h1 := fin_of_bet (lo := 0) (hi := 1065353216) (by decide +kernel) (by decide +kernel) h
  obtain ⟨s, m, i, e⟩ := isFin_read h1
  apply cn_of_num
  rw [isNan_iff, e]
  rfl
theorem pok_of {ps : List T3} {p : T3} (hB : trainB ps = true) (hk : ∀ p ∈ ps, p.2.2 < 2 ^ 32) (hp : p ∈ ps) : POk p := by
  obtain ⟨j, hj⟩ := List.mem_iff_getElem?.1 hp
  obtain ⟨t0, t1, t2, t3⟩ := teeth_of hB hj
  simp only [trainB, Bool.and_eq_true] at hB
  have := List.all_eq_true.1 hB.2 p hp
  simp only [pairB, Bool.and_eq_true] at this
  exact ⟨t0, t1, t2, t3, hk p hp, part_cn this.2⟩

/-- The words, all read. -/
def allP (f : ByteArray → Option T3) (ws : List ByteArray) : Bool := ws.all fun w => (f w).isSome
def getP (f : ByteArray → Option T3) (ws : List ByteArray) : List T3 := ws.map fun w => (f w).getD (0, 0, 0)
theorem getP_pairs {f : ByteArray → Option T3} {ps : List T3} (h : ∀ p ∈ ps, f (pairText p) = some p) : allP f (ps.map pairText) = true ∧ getP f (ps.map pairText) = ps := by
  constructor
  · unfold allP
    rw [List.all_eq_true]
    intro x hx
    obtain ⟨p, hp, rfl⟩ := List.mem_map.1 hx
    rw [h p hp]
    rfl
  · unfold getP
    rw [List.map_map]
    conv => rhs; rw [← List.map_id ps]
    apply List.map_congr_left
    intro p hp
    show (f (pairText p)).getD (0, 0, 0) = p
    rw [h p hp]
    rfl
theorem text_words {ps : List T3} (hne : ps ≠ []) : piecesB 32 (trainTextB ps) = ps.map pairText := by
  unfold piecesB trainTextB
  simp only []
  rw [splitL_of_join 32 _ (by simpa using hne) (by
    intro l hl
    obtain ⟨p, _, rfl⟩ := List.mem_map.1 hl
    exact free32 p), List.map_map]
  apply List.map_congr_left
  intro p _
  apply ByteArray.ext
  simp
theorem words_text (s : ByteArray) {ps : List T3} (h : piecesB 32 s = ps.map pairText) : trainTextB ps = s := by
  apply ByteArray.ext
  apply Array.toList_inj.1
  unfold trainTextB
  have h1 := splitL_join 32 s.data.toList
  have h2 : splitL 32 s.data.toList = ps.map fun p => (pairText p).data.toList := by
    have := congrArg (List.map fun x : ByteArray => x.data.toList) h
    unfold piecesB at this
    rw [List.map_map, List.map_map] at this
    have e : (List.map ((fun x : ByteArray => x.data.toList) ∘ fun l => (⟨l.toArray⟩ : ByteArray)) (splitL 32 s.data.toList)) = splitL 32 s.data.toList := by
      conv => rhs; rw [← List.map_id (splitL 32 s.data.toList)]
      rfl
    rw [e] at this
    exact this
  rw [h2] at h1
  simpa using h1

def rtP (s : ByteArray) : Bool := allP parseP (piecesB 32 s) && decide (trainText (getP parseP (piecesB 32 s)) = s)
def rtS (s : ByteArray) : Bool := allP parseS (piecesB 32 s) && trainB (getP parseS (piecesB 32 s))
theorem readV_ltP {w : ByteArray} {p : T3} (h : parseP w = some p) : p.2.2 < 2 ^ 32 := by
  unfold parseP at h
  split at h
  · split at h
    · split at h
      · simp only [Option.some.injEq] at h
        subst h
        exact readV_lt _
      · cases h
    · cases h
  · cases h
theorem getP_ok {ws : List ByteArray} : ∀ p ∈ getP parseP ws, p.2.2 < 2 ^ 32 := by
  intro p hp
  obtain ⟨w, _, rfl⟩ := List.mem_map.1 hp
  cases h : parseP w with
  | none => decide
  | some q => exact readV_ltP h
theorem parseP_empty : parseP ⟨#[]⟩ = none := by
  unfold parseP
  rw [if_neg]
  simp [cutB, Lib.cut, Lib.index]
theorem rtP_S {s : ByteArray} (h : rtP s = true) : rtS s = true ∧ getP parseS (piecesB 32 s) = getP parseP (piecesB 32 s) := by
  unfold rtP at h
  simp only [Bool.and_eq_true, decide_eq_true_eq] at h
  obtain ⟨h1, h2⟩ := h
  generalize hps : getP parseP (piecesB 32 s) = ps at h2
  have hk : ∀ p ∈ ps, p.2.2 < 2 ^ 32 := by rw [← hps]; exact getP_ok
  cases hB : trainB ps
  · exfalso
    have : trainText ps = ⟨#[]⟩ := by simp [trainText, hB]
    rw [this] at h2
    subst h2
    have hw : piecesB 32 ⟨#[]⟩ = [⟨#[]⟩] := rfl
    rw [hw] at h1
    simp [allP, parseP_empty] at h1
  · have hT : trainText ps = trainTextB ps := by simp [trainText, hB]
    rw [hT] at h2
    have hne : ps ≠ [] := by
      intro e
      subst e
      simp [trainB, withinB] at hB
    have hw : piecesB 32 s = ps.map pairText := by rw [← h2]; exact text_words hne
    obtain ⟨k1, k2⟩ := getP_pairs (f := parseS) (ps := ps) (fun p hp => parseS_pair (pok_of hB hk hp))
    unfold rtS
    rw [hw, k1, k2, hB]
    exact ⟨rfl, rfl⟩
theorem rtS_P {s : ByteArray} (h : rtS s = true) : rtP s = true := by
  unfold rtS at h
  simp only [Bool.and_eq_true] at h
  obtain ⟨h1, h2⟩ := h
  have hw : ∀ w ∈ piecesB 32 s, ∃ p, parseS w = some p ∧ pairText p = w ∧ POk p := by
    intro w hw
    have := List.all_eq_true.1 h1 w hw
    obtain ⟨p, hp⟩ := Option.isSome_iff_exists.1 this
    exact ⟨p, hp, parseS_text hp⟩
  generalize hps : getP parseS (piecesB 32 s) = ps at h2
  have hm : piecesB 32 s = ps.map pairText := by
    rw [← hps]
    unfold getP
    rw [List.map_map]
    conv => lhs; rw [← List.map_id (piecesB 32 s)]
    apply List.map_congr_left
    intro w hw1
    obtain ⟨p, e1, e2, _⟩ := hw w hw1
    show w = pairText ((parseS w).getD (0, 0, 0))
    rw [e1]
    exact e2.symm
  have hpk : ∀ p ∈ ps, POk p := by
    intro p hp
    have : pairText p ∈ piecesB 32 s := by rw [hm]; exact List.mem_map_of_mem hp
    rw [← hps] at hp
    obtain ⟨w, hw1, e⟩ := List.mem_map.1 hp
    obtain ⟨q, e1, _, e3⟩ := hw w hw1
    rw [e1] at e
    have : q = p := e
    rw [← this]
    exact e3
  obtain ⟨k1, k2⟩ := getP_pairs (f := parseP) (ps := ps) (fun p hp => parseP_pair (hpk p hp))
  have ht := words_text s hm
  unfold rtP
  rw [hm, k1, k2]
  have : trainText ps = trainTextB ps := by simp [trainText, h2]
  rw [this, ht]
  simp
theorem rt_eq (s : ByteArray) : rtP s = rtS s := by
  cases h : rtS s
  · cases h2 : rtP s
    · rfl
    · rw [(rtP_S h2).1] at h
      cases h
  · exact rtS_P h

end Go.Proofs.YtkgfepakedieaaaDoor
