/- A text cut at a byte: plain laws. No program here. -/
import Derived.Lib.Split
import Derived.Lib.Join
import Derived.Test.YtkgfepakedieaaaGreatDoorBase
namespace Go.Proofs.YtkgfepakedieaaaGreatDoor
open Go.RowKit

/-- A text cut at each place of a byte. -/
def splitL (c : UInt8) : List UInt8 → List (List UInt8)
  | [] => [[]]
  | b :: l => if b == c then [] :: splitL c l else match splitL c l with
    | [] => [[b]]
    | p :: ps => (b :: p) :: ps
theorem splitL_ne (c : UInt8) (l : List UInt8) : splitL c l ≠ [] := by
  cases l with
  | nil => simp [splitL]
  | cons b l =>
    unfold splitL
    split
    · simp
    · split <;> simp
theorem splitL_none (c : UInt8) : ∀ (l : List UInt8), c ∉ l → splitL c l = [l]
  | [], _ => rfl
  | b :: l, h => by
    simp only [List.mem_cons, not_or] at h
    rw [splitL, if_neg (by simpa using fun e => h.1 e.symm), splitL_none c l h.2]
theorem splitL_hit (c : UInt8) : ∀ (a r : List UInt8), c ∉ a → splitL c (a ++ c :: r) = a :: splitL c r
  | [], r, _ => by rw [List.nil_append, splitL, if_pos (by simp)]
  | b :: a, r, h => by
    simp only [List.mem_cons, not_or] at h
    rw [List.cons_append, splitL, if_neg (by simpa using fun e => h.1 e.symm), splitL_hit c a r h.2]
theorem splitL_join (c : UInt8) : ∀ (l : List UInt8), Lib.join (splitL c l) [c] = l
  | [] => rfl
  | b :: l => by
    have ih := splitL_join c l
    unfold splitL
    split
    · rename_i hb
      obtain rfl : b = c := by simpa using hb
      cases h : splitL b l with
      | nil => exact absurd h (splitL_ne _ _)
      | cons p ps =>
        rw [h] at ih
        rw [Lib.join_cons, List.nil_append]
        rw [Lib.join_cons] at ih
        simp only [Lib.joinTail, List.map_cons, List.flatten_cons, List.append_assoc] at ih ⊢
        rw [ih]
        rfl
    · cases h : splitL c l with
      | nil => exact absurd h (splitL_ne _ _)
      | cons p ps =>
        rw [h] at ih
        rw [Lib.join_cons] at ih
        show Lib.join ((b :: p) :: ps) [c] = b :: l
        rw [Lib.join_cons, List.cons_append, ih]
theorem splitL_free (c : UInt8) : ∀ (l : List UInt8), ∀ p ∈ splitL c l, c ∉ p
  | [], p, h => by
    simp [splitL] at h
    subst h
    simp
  | b :: l, p, h => by
    have ih := splitL_free c l
    unfold splitL at h
    split at h
    · rcases List.mem_cons.1 h with rfl | h
      · simp
      · exact ih p h
    · rename_i hb
      cases hs : splitL c l with
      | nil => exact absurd hs (splitL_ne _ _)
      | cons q qs =>
        rw [hs] at h ih
        rcases List.mem_cons.1 h with rfl | h
        · simp only [List.mem_cons, not_or]
          exact ⟨fun e => hb (by simp [e]), ih q (List.mem_cons_self ..)⟩
        · exact ih p (List.mem_cons_of_mem _ h)
/-- Joined, then cut again. -/
theorem splitL_of_join (c : UInt8) : ∀ (ps : List (List UInt8)), ps ≠ [] → (∀ p ∈ ps, c ∉ p) → splitL c (Lib.join ps [c]) = ps
  | [], h, _ => absurd rfl h
  | [p], _, h => by rw [Lib.join_one, splitL_none c p (h p (List.mem_cons_self ..))]
  | p :: q :: ps, _, h => by
    have ih := splitL_of_join c (q :: ps) (by simp) (fun x hx => h x (List.mem_cons_of_mem _ hx))
    have e : Lib.join (p :: q :: ps) [c] = p ++ c :: Lib.join (q :: ps) [c] := by
      rw [Lib.join_cons, Lib.join_cons]
      simp [Lib.joinTail]
    rw [e, splitL_hit c p _ (h p (List.mem_cons_self ..)), ih]

theorem index_hit (c : UInt8) : ∀ (l : List UInt8), (Lib.index l [c] = -1 ∧ c ∉ l) ∨ ∃ i : Nat, Lib.index l [c] = i ∧ ∃ r, l = l.take i ++ c :: r ∧ r = l.drop (i + 1) ∧ c ∉ l.take i
  | [] => .inl ⟨by simp [Lib.index], by simp⟩
  | b :: l => by
    unfold Lib.index
    by_cases hb : c = b
    · subst hb
      right
      refine ⟨0, by simp, l, by simp, by simp, by simp⟩
    · have hp : ([c] : List UInt8).isPrefixOf (b :: l) = false := by
        rw [List.isPrefixOf_cons_cons]
        simp [hb]
      rw [hp]
      rcases index_hit c l with ⟨h1, h2⟩ | ⟨i, h1, r, h2, h3, h4⟩
      · left
        exact ⟨by simp [h1], by simp [hb, h2]⟩
      · right
        refine ⟨i + 1, ?_, r, ?_, ?_, ?_⟩
        · simp [h1]
        · rw [List.take_succ_cons, List.cons_append, ← h2]
        · rw [List.drop_succ_cons]; exact h3
        · rw [List.take_succ_cons, List.mem_cons, not_or]
          exact ⟨hb, h4⟩
theorem splitK_eq (c : UInt8) : ∀ (fuel : Nat) (l : List UInt8), l.length < fuel → Lib.splitK [c] 0 (Lib.countFrom [c] fuel l) l = splitL c l ∧ (splitL c l).length = Lib.countFrom [c] fuel l + 1
  | 0, l, h => absurd h (Nat.not_lt_zero _)
  | fuel + 1, l, h => by
    rcases index_hit c l with ⟨h1, h2⟩ | ⟨i, h1, r, h2, h3, h4⟩
    · have e : Lib.countFrom [c] (fuel + 1) l = 0 := by rw [Lib.countFrom, h1]; rfl
      rw [e, splitL_none c l h2]
      exact ⟨rfl, rfl⟩
    · have hne : ¬ ((i : Int) == -1) = true := by simp
      have e : Lib.countFrom [c] (fuel + 1) l = Lib.countFrom [c] fuel (l.drop (i + 1)) + 1 := by
        rw [Lib.countFrom, h1, if_neg hne]
        simp [Nat.add_comm]
      have hl : (l.drop (i + 1)).length < fuel := by
        have : l.length = (l.take i).length + (r.length + 1) := by
          conv => lhs; rw [h2]
          simp
        rw [← h3]
        omega
      obtain ⟨k1, k2⟩ := splitK_eq c fuel (l.drop (i + 1)) hl
      have e2 : splitL c l = l.take i :: splitL c (l.drop (i + 1)) := by
        conv => lhs; rw [h2]
        rw [splitL_hit c _ _ h4, h3]
      rw [e, e2]
      refine ⟨?_, by rw [List.length_cons, k2]⟩
      rw [Lib.splitK, h1, if_neg hne]
      simp only [Int.toNat_natCast, Nat.add_zero, List.length_cons, List.length_nil, Nat.zero_add]
      rw [k1]
/-- strings.Split at one byte. -/
theorem splitB_eq (c : UInt8) (s : ByteArray) : (Lib.splitB ⟨#[c]⟩ 0 (Lib.countB s ⟨#[c]⟩) s).map (·.data.toList) = splitL c s.data.toList ∧ (splitL c s.data.toList).length = Lib.countB s ⟨#[c]⟩ + 1 := by
  rw [Lib.splitB_data]
  exact splitK_eq c (s.data.toList.length + 1) s.data.toList (Nat.lt_succ_self _)
/-- The pieces as texts. -/
def piecesB (c : UInt8) (s : ByteArray) : List ByteArray := (splitL c s.data.toList).map fun l => ⟨l.toArray⟩
theorem splitB_pieces (c : UInt8) (s : ByteArray) : Lib.splitB ⟨#[c]⟩ 0 (Lib.countB s ⟨#[c]⟩) s = piecesB c s := by
  unfold piecesB
  rw [← (splitB_eq c s).1, List.map_map]
  conv => lhs; rw [← List.map_id (Lib.splitB ⟨#[c]⟩ 0 (Lib.countB s ⟨#[c]⟩) s)]
  rfl
theorem pieces_len (c : UInt8) (s : ByteArray) : (piecesB c s).length = Lib.countB s ⟨#[c]⟩ + 1 := by
  unfold piecesB
  rw [List.length_map, (splitB_eq c s).2]

/-- The loop that cuts: what has been cut so far, and where the next piece begins. -/
structure Cutting (c : UInt8) (s : List UInt8) (done : List (List UInt8)) (from_ i : Nat) : Prop where
  le : from_ ≤ i
  eq : splitL c s = done ++ splitL c (s.drop from_)
  free : c ∉ (s.drop from_).take (i - from_)
theorem Cutting.start (c : UInt8) (s : List UInt8) : Cutting c s [] 0 0 := ⟨Nat.le_refl _, by simp, by simp⟩
theorem Cutting.on {c b : UInt8} {s : List UInt8} {done : List (List UInt8)} {f i : Nat} (h : Cutting c s done f i) (hb : s[i]? = some b) (hn : b ≠ c) : Cutting c s done f (i + 1) := by
  refine ⟨by have := h.le; omega, h.eq, ?_⟩
  have hle := h.le
  have : (s.drop f).take (i + 1 - f) = (s.drop f).take (i - f) ++ [b] := by
    rw [show i + 1 - f = i - f + 1 by omega, List.take_add_one, List.getElem?_drop, show f + (i - f) = i by omega, hb]
    rfl
  rw [this, List.mem_append, not_or]
  exact ⟨h.free, by simpa using fun e => hn e.symm⟩
theorem Cutting.cut {c : UInt8} {s : List UInt8} {done : List (List UInt8)} {f i : Nat} (h : Cutting c s done f i) (hb : s[i]? = some c) : Cutting c s (done ++ [(s.drop f).take (i - f)]) (i + 1) (i + 1) := by
  refine ⟨Nat.le_refl _, ?_, by simp⟩
  have hle := h.le
  have e : s.drop f = (s.drop f).take (i - f) ++ c :: s.drop (i + 1) := by
    conv => lhs; rw [← List.take_append_drop (i - f) (s.drop f)]
    congr 1
    rw [List.drop_drop, show f + (i - f) = i by omega]
    obtain ⟨hl, hg⟩ := List.getElem?_eq_some_iff.1 hb
    rw [List.drop_eq_getElem_cons hl, hg]
  rw [h.eq]
  conv => lhs; rw [e]
  rw [splitL_hit c _ _ h.free, List.append_assoc]
  rfl
theorem Cutting.done {c : UInt8} {s : List UInt8} {done : List (List UInt8)} {f : Nat} (h : Cutting c s done f s.length) : splitL c s = done ++ [s.drop f] := by
  rw [h.eq, splitL_none c (s.drop f) ?_]
  have := h.free
  rwa [List.take_of_length_le (by simp)] at this

end Go.Proofs.YtkgfepakedieaaaGreatDoor
