/- Contracts: a train is read from its text (the program). -/
import Derived.Test.YtkgfepakedieaaaGreatDoorCtPu
import Derived.Test.YtkgfepakedieaaaGreatDoorCtSp
import Derived.Test.YtkgfepakedieaaaGreatDoorMkZ
namespace Go.Proofs.YtkgfepakedieaaaGreatDoor
open Go.RowKit

def rtK (s : ByteArray) : Int := if rtS s then 0 else 5
def rtR (s : ByteArray) : List T3 := if rtS s then getP parseS (piecesB 32 s) else []
theorem rtK_no {s : ByteArray} (h : rtP s = false) : rtK s = 5 ∧ rtR s = [] := by
  rw [rt_eq] at h
  simp [rtK, rtR, h]
theorem rtK_yes {s : ByteArray} (h : rtP s = true) : rtK s = 0 ∧ rtR s = getP parseP (piecesB 32 s) := by
  have h2 := rtP_S h
  simp [rtK, rtR, h2.1, h2.2]
theorem splitL_smallT (c : UInt8) : ∀ (l p : List UInt8), p ∈ splitL c l → p.length ≤ l.length
  | [], p, h => by
    simp [splitL] at h
    simp [h]
  | b :: l, p, h => by
    have ih := splitL_smallT c l
    unfold splitL at h
    split at h
    · rcases List.mem_cons.1 h with rfl | h
      · simp
      · have := ih p h
        simp
        omega
    · cases hs : splitL c l with
      | nil => exact absurd hs (splitL_ne _ _)
      | cons q qs =>
        rw [hs] at h ih
        rcases List.mem_cons.1 h with rfl | h
        · have := ih q (List.mem_cons_self ..)
          simpa using this
        · have := ih p (List.mem_cons_of_mem _ h)
          simp
          omega
theorem pieces_smallT {s : ByteArray} (c : UInt8) {n : Nat} (h : s.size ≤ n) : ∀ y ∈ piecesB c s, y.size ≤ n := by
  intro y hy
  obtain ⟨l, hl, rfl⟩ := List.mem_map.1 hy
  have h1 := splitL_smallT c _ l hl
  have h2 : s.data.toList.length = s.size := by simp
  show l.toArray.size ≤ n
  simp
  omega
theorem splitL_le (c : UInt8) (l : List UInt8) : (splitL c l).length ≤ l.length + 1 := splitL_len c l
theorem cutB_size (c : UInt8) (s : ByteArray) : (lB (cutB c s).1).size ≤ s.size ∧ (lB (cutB c s).2.1).size ≤ s.size := by
  have hs := list_size s
  have e : ∀ l : List UInt8, (lB l).size = l.length := fun l => List.size_toArray
  rw [e, e]
  unfold cutB Lib.cut
  split
  · simp only [List.length_take, List.length_drop]
    omega
  · simp only [List.length_nil]
    omega

theorem cut_any (c : UInt8) (s : ByteArray) (hs : s.size ≤ 1048576) (w : World) (hl : Laid4 w) :
    Calls Tryz.prog 35 #[.string s, .string ⟨#[c]⟩] w fun e w' => e = .returned (.tuple #[.string (lB (cutB c s).1), .string (lB (cutB c s).2.1), .bool (cutB c s).2.2]) ∧ Below w.heap.size w w' := by
  obtain ⟨m, hm⟩ := hl.max
  refine (Tryz.strings_Cut s ⟨#[c]⟩ m w (by omega) hm).mono ?_
  rintro e w' ⟨rfl, n, rfl⟩
  exact ⟨rfl, below_drewN (Below.refl _ _) n⟩

theorem cellsT_appR (a b : List T3) : cellsT (a ++ b) = cellsT a ++ cellsT b := by simp [cellsT]
theorem split_fresh (s : ByteArray) (c : UInt8) (hs : s.size < 4294967281) (m : Int) (w : World) (hm : w.cell? ⟨1, 0, none⟩ = some (.int .i64 m)) :
    Calls Tryz.prog 34 #[.string s, .string ⟨#[c]⟩] w fun e w' => ∃ v, e = .returned v ∧ Ss w' v (piecesB c s) ∧ (∀ q, v.ownBlock = some q → w.heap.size ≤ q) ∧ Below w.heap.size w w' := by
  refine (Tryz.strings_Split s ⟨#[c]⟩ m w hs hm (Nat.le_refl 1)).mono ?_
  rintro e w' ⟨rfl, rfl⟩
  have hl := pieces_len c s
  have hle : Lib.countB s ⟨#[c]⟩ ≤ s.size := by
    have h1 := splitL_len c s.data.toList
    have h2 := (splitB_eq c s).2
    have h3 : s.data.toList.length = s.size := by simp
    omega
  refine ⟨_, rfl, ⟨w.heap.size, Lib.countB s ⟨#[c]⟩ + 1, by rw [hl], by omega, by unfold maxLen; omega, by simp, fun i x hx => ?_⟩, fun q hq => by simp [Value.ownBlock] at hq; omega, (Below.refl _ _).alloc (Nat.le_refl _) _⟩
  rw [splitB_pieces]
  rw [World.cell?_alloc_at]
  · simp [hx]
  · rfl

theorem parseP_split (y : ByteArray) (N : ByteArray) (hN : N = lB (cutB 58 y).2.1) (A B : ByteArray) (hA : A = lB (cutB 47 (lB (cutB 58 y).1)).1) (hB : B = lB (cutB 47 (lB (cutB 58 y).1)).2.1) :
    (parseP y).isSome = ((cutB 58 y).2.2 && (cutB 47 (lB (cutB 58 y).1)).2.2 && (pn A).isSome && (pn B).isSome && numOk N) ∧
    ∀ a b, (cutB 58 y).2.2 = true → (cutB 47 (lB (cutB 58 y).1)).2.2 = true → pn A = some a → pn B = some b → numOk N = true → parseP y = some ((a : Int), (b : Int), readV N) := by
  subst hN hA hB
  unfold parseP
  constructor
  · cases h1 : (cutB 58 y).2.2
    · rfl
    · cases h2 : (cutB 47 (lB (cutB 58 y).1)).2.2
      · rfl
      · simp only [Bool.and_self, if_true, Bool.true_and]
        cases h3 : pn (lB (cutB 47 (lB (cutB 58 y).1)).1) with
        | none => rfl
        | some a =>
          cases h4 : pn (lB (cutB 47 (lB (cutB 58 y).1)).2.1) with
          | none => rfl
          | some b =>
            simp only [Option.isSome_some, Bool.true_and]
            cases h5 : numOk (lB (cutB 58 y).2.1) <;> rfl
  · intro a b h1 h2 h3 h4 h5
    rw [h1, h2, h3, h4]
    simp only [Bool.and_self, if_true, h5]
theorem pn_le {s : ByteArray} {u : Nat} (h : pn s = some u) : u ≤ 32767 := by
  unfold pn at h
  split at h
  · rename_i v hv
    split at h
    · simp only [Option.some.injEq] at h
      subst h
      unfold Lib.parseUintB at hv
      split at hv
      · cases hv
      · rw [show (2 : Nat) ^ 15 - 1 = 32767 by decide] at hv
        exact parse_le _ _ _ _ (by omega) hv
    · cases h
  · cases h
theorem parseP_tok {y : ByteArray} {p : T3} (h : parseP y = some p) : TOk p := by
  unfold parseP at h
  split at h
  · split at h
    · rename_i a b ha hb
      split at h
      · simp only [Option.some.injEq] at h
        subst h
        have := pn_le ha
        have := pn_le hb
        exact ⟨by simp; omega, by simp; omega, readV_lt _⟩
      · cases h
    · cases h
  · cases h
theorem getP_tok {ws : List ByteArray} : ∀ p ∈ getP parseP ws, TOk p := by
  intro p hp
  obtain ⟨w, _, rfl⟩ := List.mem_map.1 hp
  cases h : parseP w with
  | none => exact ⟨by decide, by decide, by decide⟩
  | some q => exact parseP_tok h
theorem allP_take {f : ByteArray → Option T3} {ws : List ByteArray} {j : Nat} {y : ByteArray} (h : ws[j]? = some y) (k : allP f (ws.take j) = true) : allP f (ws.take (j + 1)) = (f y).isSome := by
  unfold allP at k ⊢
  rw [List.take_add_one, h, List.all_append, k]
  simp
theorem allP_no {f : ByteArray → Option T3} {ws : List ByteArray} {j : Nat} {y : ByteArray} (h : ws[j]? = some y) (k : (f y).isSome = false) : allP f ws = false := List.all_eq_false.2 ⟨y, List.mem_of_getElem? h, by simp [k]⟩
theorem getP_take {f : ByteArray → Option T3} {ws : List ByteArray} {j : Nat} {y : ByteArray} {p : T3} (h : ws[j]? = some y) (k : f y = some p) : getP f (ws.take (j + 1)) = getP f (ws.take j) ++ [p] := by
  unfold getP
  rw [List.take_add_one, h, List.map_append]
  simp [k]

set_option maxRecDepth 20000 in
set_option maxHeartbeats 4000000 in
theorem implReadTrain_any (s : ByteArray) (hs : s.size ≤ 1048576) (w : World) (hl : Laid4 w) :
    Calls Tryz.prog 9 #[.string s] w (GivesT w (rtK s) (rtR s)) := by
  have HL := Lib.hid hl
  clear hl
  obtain ⟨i0, hi, hz0, hz1, hz2⟩ := info_parts info_pair
  have hsmall := pieces_smallT (s := s) (n := 1048576) 32 hs
  have HSM := Lib.hid hsmall
  have hlw : (piecesB 32 s).length ≤ 1048577 := by
    have h1 := splitL_le 32 s.data.toList
    have h2 := list_size s
    unfold piecesB
    rw [List.length_map]
    omega
  obtain ⟨ws, hws⟩ : ∃ ws, ws = piecesB 32 s := ⟨_, rfl⟩
  have HW := Lib.hid hws
  rw [← hws] at hsmall hlw
  have HSM := Lib.hid hsmall
  clear hsmall hws
  go_enter Tryz.func9, Tryz.ntmps9
  go_wp2_with fail
  obtain ⟨m, hm⟩ := (HL.out.below (show Below w.heap.size w (w.alloc (.cells #[] 65)) by (repeat' (first | (with_reducible exact Below.refl _ _) | (with_reducible assumption) | (with_reducible refine Below.alloc ?_ ?_ _) | (with_reducible refine below_drewN ?_ _) | (with_reducible refine Below.drew ?_) | (with_reducible refine Below.setCell ?_ ?_ _) | (with_reducible exact Nat.le_refl _) | omega | (simp only [World.size_alloc, World.size_setCell, World.size_drew, World.heap_drewN]; omega) | (simp; omega))))).max
  refine (split_fresh s 32 (by omega) m _ hm).mono ?_
  rintro e w1 ⟨v, rfl, hss, hfr, hb1⟩
  rw [← HW.out] at hss
  have hown0 := own_lit w w.heap.size 65 (size := 3) 0 #[] (Nat.le_refl _) (by decide) rfl
  have HO0 := Lib.hid (own_after hown0 hb1)
  have hb : Below w.heap.size w w1 := below_then (by (repeat' (first | (with_reducible exact Below.refl _ _) | (with_reducible assumption) | (with_reducible refine Below.alloc ?_ ?_ _) | (with_reducible refine below_drewN ?_ _) | (with_reducible refine Below.drew ?_) | (with_reducible refine Below.setCell ?_ ?_ _) | (with_reducible exact Nat.le_refl _) | omega | (simp only [World.size_alloc, World.size_setCell, World.size_drew, World.heap_drewN]; omega) | (simp; omega)))) hb1
  have hsz := hb.size
  obtain ⟨g, cap, rfl, hc1, hc2, hg, hat⟩ := hss
  have hgne : w.heap.size ≠ g := by have := hfr g rfl; simp at this; omega
  have HAT := Lib.hid hat
  clear hat hown0 hm
  go_wp2
  go_loopw [4, 23] (fun u k wr => ∃ j : Nat, j ≤ ws.length ∧ k = .int .i64 (j : Int) ∧ wr.ownsRow w.heap.size 65 3 u j (cellsT (getP parseP (ws.take j))) ∧ Hid (allP parseP (ws.take j) = true) ∧ Below w.heap.size w wr ∧ g < wr.heap.size ∧ Hid (∀ (i : Nat) x, ws[i]? = some x → wr.cell? ⟨g, i, none⟩ = some (.string x)) ∧ some g ≠ u.ownBlock)
    (fun _ k _ => (ws.length - intOf k).toNat)
  case atStart => exact ⟨0, by omega, rfl, HO0.out, Lib.hid rfl, hb, hg, HAT, by simp [Value.ownBlock]; omega⟩
  case round =>
    clear hb hsz
    obtain ⟨j, hj, rfl, ho, hal, hb, hgr, HIW, hne⟩ := hrel
    have hsz := hb.size
    by_cases hlt : j < ws.length
    · obtain ⟨y, hy⟩ : ∃ y, ws[j]? = some y := ⟨_, List.getElem?_eq_getElem hlt⟩
      have dj := HIW.out j y hy
      have hys := HSM.out y (List.mem_of_getElem? hy)
      have HO := Lib.hid ho
      obtain ⟨N, hN⟩ : ∃ N, N = lB (cutB 58 y).2.1 := ⟨_, rfl⟩
      obtain ⟨Z, hZ⟩ : ∃ Z, Z = lB (cutB 58 y).1 := ⟨_, rfl⟩
      obtain ⟨A, hA⟩ : ∃ A, A = lB (cutB 47 Z).1 := ⟨_, rfl⟩
      obtain ⟨B, hB⟩ : ∃ B, B = lB (cutB 47 Z).2.1 := ⟨_, rfl⟩
      have hNs : N.size ≤ 1048576 := by rw [hN]; exact Nat.le_trans (cutB_size 58 y).2 hys
      have hZs : Z.size ≤ 1048576 := by rw [hZ]; exact Nat.le_trans (cutB_size 58 y).1 hys
      have hAs : A.size ≤ 1048576 := by rw [hA]; exact Nat.le_trans (cutB_size 47 Z).1 hZs
      have hBs : B.size ≤ 1048576 := by rw [hB]; exact Nat.le_trans (cutB_size 47 Z).2 hZs
      obtain ⟨hPS, hPV⟩ := parseP_split y N hN A B (by rw [hA, hZ]) (by rw [hB, hZ])
      rw [← hZ] at hPS hPV
      obtain ⟨b1, hb1e⟩ : ∃ b, b = (cutB 58 y).2.2 := ⟨_, rfl⟩
      obtain ⟨b2, hb2e⟩ : ∃ b, b = (cutB 47 Z).2.2 := ⟨_, rfl⟩
      rw [← hb1e, ← hb2e] at hPS hPV
      have hC1 : Hid (∀ w', Laid4 w' → Calls Tryz.prog 35 #[.string y, .string ⟨#[58]⟩] w' fun e w2 => e = .returned (.tuple #[.string Z, .string N, .bool b1]) ∧ Below w'.heap.size w' w2) := Lib.hid (fun w' h => by rw [hZ, hN, hb1e]; exact cut_any 58 y hys w' h)
      have hC2 : Hid (∀ w', Laid4 w' → Calls Tryz.prog 35 #[.string Z, .string ⟨#[47]⟩] w' fun e w2 => e = .returned (.tuple #[.string A, .string B, .bool b2]) ∧ Below w'.heap.size w' w2) := Lib.hid (fun w' h => by rw [hA, hB, hb2e]; exact cut_any 47 Z hZs w' h)
      have HPS := Lib.hid hPS
      have HPV := Lib.hid hPV
      have hT1 : allP parseP (ws.take (j + 1)) = (parseP y).isSome := allP_take hy hal.out
      have hF : (parseP y).isSome = false → rtK s = 5 ∧ rtR s = [] := fun h => rtK_no (by
        unfold rtP
        rw [← HW.out, allP_no hy h]
        rfl)
      have HT1 := Lib.hid hT1
      have HF := Lib.hid hF
      have HG : Hid (∀ p, parseP y = some p → getP parseP (ws.take (j + 1)) = getP parseP (ws.take j) ++ [p]) := Lib.hid (fun p h => getP_take hy h)
      clear hN hZ hA hB hPS hPV hb1e hb2e ho hT1 hF hy
      go_wp2_with fail
      refine (hC1.out _ (HL.out.below hb)).mono ?_
      rintro e w2 ⟨rfl, k1⟩
      have hb2 := hb.trans (k1.mono hsz)
      have s2 := hb2.size
      go_wp2_with fail
      refine (hC2.out _ (HL.out.below hb2)).mono ?_
      rintro e w3 ⟨rfl, k2⟩
      have hb3 := hb2.trans (k2.mono s2)
      have s3 := hb3.size
      go_wp2_with fail
      refine (count_any A hAs _ (HL.out.below hb3)).mono ?_
      rintro e w4 ⟨x1, rfl, hx1, hx1b, k3⟩
      have hb4 := hb3.trans (k3.mono s3)
      have s4 := hb4.size
      go_wp2_with fail
      refine (count_any B hBs _ (HL.out.below hb4)).mono ?_
      rintro e w5 ⟨x2, rfl, hx2, hx2b, k4⟩
      have hb5 := hb4.trans (k4.mono s4)
      have s5 := hb5.size
      go_wp2_with fail
      refine (implReadNumber_any N (by omega) _).mono ?_
      rintro e w6 ⟨rfl, k5⟩
      have hb6 := hb5.trans (k5.mono s5)
      have s6 := hb6.size
      have HIW6 : Hid (∀ (i : Nat) x, ws[i]? = some x → w6.cell? ⟨g, i, none⟩ = some (.string x)) := Lib.hid (fun i x hx => by
        have g2 := Nat.lt_of_lt_of_le hgr k1.size
        have g3 := Nat.lt_of_lt_of_le g2 k2.size
        have g4 := Nat.lt_of_lt_of_le g3 k3.size
        have g5 := Nat.lt_of_lt_of_le g4 k4.size
        exact (Below.cell k5 (p := ⟨g, i, none⟩) g5).trans ((Below.cell k4 (p := ⟨g, i, none⟩) g4).trans ((Below.cell k3 (p := ⟨g, i, none⟩) g3).trans ((Below.cell k2 (p := ⟨g, i, none⟩) g2).trans ((Below.cell k1 (p := ⟨g, i, none⟩) hgr).trans (HIW.out i x hx))))))
      have hg6 : g < w6.heap.size := Nat.lt_of_lt_of_le (Nat.lt_of_lt_of_le (Nat.lt_of_lt_of_le (Nat.lt_of_lt_of_le (Nat.lt_of_lt_of_le hgr k1.size) k2.size) k3.size) k4.size) k5.size
      have HO6 := Lib.hid (own_after (own_after (own_after (own_after (own_after HO.out k1) k2) k3) k4) k5)
      have HX1 := Lib.hid hx1
      have HX2 := Lib.hid hx2
      obtain ⟨b3, hb3e⟩ : ∃ b, b = (pn A).isSome := ⟨_, rfl⟩
      obtain ⟨b4, hb4e⟩ : ∃ b, b = (pn B).isSome := ⟨_, rfl⟩
      have hps := HPS.out
      rw [← hb3e, ← hb4e] at hps ⊢
      have HE3 := Lib.hid hb3e
      have HE4 := Lib.hid hb4e
      clear hx1 hx2 hb3e hb4e k1 k2 k3 k4 k5 hb2 hb3 hb4 hb5 s2 s3 s4 s5
      cases hok : (b1 && b2 && b3 && b4 && numOk N)
      · rw [hok] at hps
        obtain ⟨hK, hR⟩ := HF.out hps
        have HK := Lib.hid hK
        have HR := Lib.hid hR
        clear hps hK hR
        have hcases : b1 = false ∨ (b1 = true ∧ b2 = false) ∨ (b1 = true ∧ b2 = true ∧ b3 = false) ∨ (b1 = true ∧ b2 = true ∧ b3 = true ∧ b4 = false) ∨ (b1 = true ∧ b2 = true ∧ b3 = true ∧ b4 = true ∧ readK N = 5) := by
          cases b1
          · exact .inl rfl
          · cases b2
            · exact .inr (.inl ⟨rfl, rfl⟩)
            · cases b3
              · exact .inr (.inr (.inl ⟨rfl, rfl, rfl⟩))
              · cases b4
                · exact .inr (.inr (.inr (.inl ⟨rfl, rfl, rfl, rfl⟩)))
                · exact .inr (.inr (.inr (.inr ⟨rfl, rfl, rfl, rfl, by simp at hok; simp [readK, hok]⟩)))
        clear hok
        rcases hcases with rfl | ⟨rfl, rfl⟩ | ⟨rfl, rfl, rfl⟩ | ⟨rfl, rfl, rfl, rfl⟩ | ⟨rfl, rfl, rfl, rfl, hk5⟩
        all_goals try rw [hk5]
        all_goals go_wp2
        all_goals go_ret2
        all_goals exact ⟨_, by rw [HK.out]; rfl, by rw [HR.out]; exact ⟨rfl, .inl ⟨rfl, rfl⟩⟩, hb6⟩
      · rw [hok] at hps
        simp only [Bool.and_eq_true] at hok
        obtain ⟨⟨⟨⟨rfl, rfl⟩, rfl⟩, rfl⟩, hNo⟩ := hok
        obtain ⟨u1, e1⟩ := Option.isSome_iff_exists.1 HE3.out.symm
        obtain ⟨u2, e2⟩ := Option.isSome_iff_exists.1 HE4.out.symm
        have hp := HPV.out u1 u2 rfl rfl e1 e2 hNo
        rw [← HX1.out u1 e1, ← HX2.out u2 e2] at hp
        have HGG := Lib.hid (HG.out _ hp)
        have HTT := Lib.hid (HT1.out.trans hps)
        have hk0 : readK N = 0 := by simp [readK, hNo]
        rw [hk0]
        clear hk0 hp e1 e2 hNo hps
        go_wp2_with (at_builtin; refine wpList_append_lies _ rfl _ _ _ rfl w.heap.size 65 i0 _ 3 8 Tryz.underlying25 hi hz0 hz1 hz2 rfl (by decide) _ _ _ rfl (HO6.out.alloc _) ⟨w6.heap.size, 0, none⟩ 1 1 [.int .i16 x1, .int .i16 x2, .float .f32 (readV N)] rfl (by rfl) (World.news_of_block (heap_alloc_new w6 _)) (by intro u hu; simp at hu; rcases hu with rfl | rfl | rfl <;> rfl) (by decide) (by unfold maxLen; omega) (by omega) (by simp; omega) _ rfl ?_; intro g' cap' w10 hown1 hgrow hat hlt1)
        have hb10 : Below w.heap.size w w10 := (hb6.alloc s6 _).grown hgrow (by simp; omega) (fun g hg => (HO.out.lt g hg).1)
        have HO1 := Lib.hid hown1
        have hg10 : g < w10.heap.size := Nat.lt_of_lt_of_le (by simp; omega) hgrow.size
        have HI10 : Hid (∀ (i : Nat) x, ws[i]? = some x → w10.cell? ⟨g, i, none⟩ = some (.string x)) := Lib.hid (fun i x hx => hgrow.cell (by rw [World.cell?_alloc_old]; exact HIW6.out i x hx; show g ≠ _; omega) hne)
        have hne10 : g ≠ g' := by
          rcases hat with h1 | h1
          · intro e
            rw [← e] at h1
            exact hne h1.symm
          · rw [h1]
            simp
            omega
        clear hown1 hgrow hat hlt1
        exact ⟨⟨j + 1, by omega, rfl, by rw [HGG.out, cellsT_appR]; exact HO1.out, HTT, hb10, hg10, HI10, by simpa [Value.ownBlock] using hne10⟩, by simp [intOf]; omega⟩
    · obtain rfl : j = ws.length := by omega
      have hall : allP parseP ws = true := by simpa using hal.out
      have HO := Lib.hid ho
      rw [List.take_length] at ho
      have hgl : (getP parseP ws).length = ws.length := by simp [getP]
      have hTr := tr_of_row (ps := getP parseP ws) (by rw [hgl]; exact ho) getP_tok
      have HTr := Lib.hid hTr
      have hrp : rtP s = decide (trainText (getP parseP ws) = s) := by
        unfold rtP
        rw [← HW.out, hall]
        rfl
      have hPw := (HL.out.below hb).pow
      have HPw := Lib.hid hPw
      have hsz := hb.size
      clear ho hTr hPw
      cases hE : decide (trainText (getP parseP ws) = s)
      · have hE2 : ((trainText (getP parseP ws)).toList == s.toList) = false := by rw [str_eql, hE]
        obtain ⟨hK, hR⟩ := rtK_no (hrp.trans hE)
        have HK := Lib.hid hK
        have HR := Lib.hid hR
        clear hE hK hR hrp hall
        go_wp2_with (go_at_call 10; refine (implTrainText_any (getP parseP ws) _ _ HTr.out HPw.out).mono ?_; rintro e w2 ⟨rfl, hb2⟩)
        all_goals go_ret2
        all_goals exact ⟨_, by rw [HK.out]; rfl, by rw [HR.out]; exact ⟨rfl, .inl ⟨rfl, rfl⟩⟩, below_then hb hb2⟩
      · have hE2 : ((trainText (getP parseP ws)).toList == s.toList) = true := by rw [str_eql, hE]
        obtain ⟨hK, hR⟩ := rtK_yes (hrp.trans hE)
        have HK := Lib.hid hK
        have HR := Lib.hid (show rtR s = getP parseP ws by rw [hR, ← HW.out])
        clear hE hK hR hrp hall
        go_wp2_with (go_at_call 10; refine (implTrainText_any (getP parseP ws) _ _ HTr.out HPw.out).mono ?_; rintro e w2 ⟨rfl, hb2⟩)
        all_goals go_ret2
        all_goals exact ⟨_, by rw [HK.out]; rfl, by rw [HR.out, hgl]; have h9 := own_after HO.out hb2; rwa [List.take_length] at h9, below_then hb hb2⟩

end Go.Proofs.YtkgfepakedieaaaGreatDoor
