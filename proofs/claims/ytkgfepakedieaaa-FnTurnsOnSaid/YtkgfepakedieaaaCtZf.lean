/- Trains: a loss replaced. -/
import Derived.Test.YtkgfepakedieaaaCtZb
import Derived.Test.YtkgfepakedieaaaCtZe
import Derived.Test.YtkgfepakedieaaaMk2
import Derived.Lib.SliceRun
namespace Go.Proofs.Ytkgfepakedieaaa
open Go.RowKit

theorem cellsT_one (ps : List T3) : ∀ u ∈ cellsT ps, u.oneCell' = true := by
  intro u hu
  unfold cellsT at hu
  obtain ⟨p, _, hu⟩ := List.mem_flatMap.1 hu
  simp at hu
  rcases hu with rfl | rfl | rfl <;> rfl

/-- The cells of a train that is to be appended. -/
theorem tr_news {w : World} {b off : Nat} {ps : List T3} (h : TrAt w b off ps) : ∀ (j : Nat) (u : Value), (cellsT ps)[j]? = some u → w.cell? ((⟨b, off, none⟩ : Addr).add j) = some u := by
  intro j u hu
  have hj := (List.getElem?_eq_some_iff.1 hu).1
  rw [cellsT_len] at hj
  obtain ⟨q, r, hq, hr, rfl⟩ : ∃ q r, q < ps.length ∧ r < 3 ∧ j = q * 3 + r := ⟨j / 3, j % 3, by omega, by omega, by omega⟩
  have hp : ps[q]? = some ps[q] := List.getElem?_eq_getElem hq
  obtain ⟨c0, c1, c2⟩ := h q _ hp
  obtain ⟨g0, g1, g2⟩ := cellsT_get ps q _ hp
  rw [add_none]
  rcases (show r = 0 ∨ r = 1 ∨ r = 2 by omega) with rfl | rfl | rfl
  · cases hu.symm.trans g0
    exact c0
  · cases hu.symm.trans g1
    exact c1
  · cases hu.symm.trans g2
    exact c2

theorem ask_len2 {ps : List T3} (h : trainB ps = true) : 1 ≤ ps.length ∧ ps.length ≤ 8 := by
  simp [trainB, withinB] at h
  omega

theorem TrAt.alloc {w : World} {b off : Nat} {ps : List T3} (h : TrAt w b off ps) (hb : b < w.heap.size) (ob : Obj) : TrAt (w.alloc ob) b off ps := by
  intro i p hp
  obtain ⟨c0, c1, c2⟩ := h i p hp
  refine ⟨?_, ?_, ?_⟩ <;> rw [World.cell?_alloc_past] <;> assumption

def withK (ps : List T3) (j : Int) (q : Nat) : Int := if trainB ps then (if withinB j 0 (ps.length - 1) && partB q then 0 else 2) else 1
def setL (ps : List T3) (j : Nat) (q : Nat) : List T3 := ps.set j ((ps.getD j (0, 0, 0)).1, (ps.getD j (0, 0, 0)).2.1, q)
def withR (ps : List T3) (j : Int) (q : Nat) : List T3 := if withK ps j q = 0 then setL ps j.toNat q else []
theorem withK_ok {ps : List T3} {j : Int} {q : Nat} (h : withK ps j q = 0) : trainB ps = true ∧ withinB j 0 (ps.length - 1) = true ∧ partB q = true := by
  unfold withK at h
  split at h
  · split at h
    · rename_i h1 h2
      simp only [Bool.and_eq_true] at h2
      exact ⟨h1, h2⟩
    · simp at h
  · simp at h
theorem withR_len {ps : List T3} {j : Int} {q : Nat} (h : ps.length ≤ 1048576) : (withR ps j q).length ≤ 1048576 := by
  unfold withR setL
  split
  · simpa using h
  · simp
theorem withR_ok {ps : List T3} {j : Int} {q : Nat} (hk : ∀ p ∈ ps, TOk p) (hq : q < 2 ^ 32) : ∀ p ∈ withR ps j q, TOk p := by
  intro p hp
  unfold withR setL at hp
  split at hp
  · rcases List.mem_or_eq_of_mem_set hp with h | rfl
    · exact hk p h
    · by_cases hj : j.toNat < ps.length
      · have := hk _ (List.getElem_mem hj)
        simp only [List.getD_eq_getElem?_getD, List.getElem?_eq_getElem hj, Option.getD_some]
        exact ⟨this.1, this.2.1, hq⟩
      · simp only [List.getD_eq_getElem?_getD, List.getElem?_eq_none (Nat.le_of_not_lt hj), Option.getD_none]
        exact ⟨⟨by simp, by simp⟩, ⟨by simp, by simp⟩, hq⟩
  · simp at hp

set_option maxHeartbeats 1000000 in
theorem clone_any (ps : List T3) (v : Value) (w : World) (hv : Tr w v ps) (h0 : 0 < ps.length) (h8 : ps.length ≤ 8) :
    Calls Try.prog 58 #[v] w fun e w' => ∃ g cap, e = .returned (.slice (some ⟨g, 0, none⟩) ps.length cap) ∧ w.heap.size ≤ g ∧ w'.ownsRow w.heap.size 54 3 (.slice (some ⟨g, 0, none⟩) ps.length cap) ps.length (cellsT ps) ∧ Below w.heap.size w w' := by
  obtain ⟨a, cap, rfl, hn, hk, hc⟩ := hv
  obtain ⟨b, off, rfl, hbl, hat⟩ := hc h0
  obtain ⟨i0, hi, hz0, hz1, hz2⟩ := info_parts info_pair
  have HA : Hid (TrAt w b off ps) := Lib.hid hat
  clear hc hat hk
  go_enter Try.func58, Try.ntmps58
  have hnil := fun (w : World) (a : Option Addr) (n c n' c' : Nat) => Lib.run_eql_slice_nil (P := Try.prog) w 29 54 a n c n' c' Try.underlying29
  go_wp2_with (at_builtin; refine wpList_append_lies _ rfl _ _ _ rfl w.heap.size 54 i0 _ 3 8 Try.underlying29 hi hz0 hz1 hz2 rfl (by decide) _ 0 [] rfl (own_lit w w.heap.size 54 (size := 3) 0 #[] (Nat.le_refl _) (by decide) rfl) ⟨b, off, none⟩ ps.length cap (cellsT ps) rfl (cellsT_len ps) (tr_news (HA.out.alloc hbl _)) (cellsT_one ps) h0 (by unfold maxLen; omega) (by omega) (by simp) _ rfl ?_; intro g cap' w1 hown1 hgrow hat1 hlt1)
  have hb1 : Below w.heap.size w w1 := ((Below.refl _ _).alloc (Nat.le_refl _) _).grown hgrow (by simp) (fun g hg => by cases hg; exact Nat.le_refl _)
  have HO1 := Lib.hid hown1
  clear hown1 hgrow hat1 hlt1
  go_wp2
  go_ret
  have HO2 : w1.ownsRow w.heap.size 54 3 (.slice (some ⟨g, 0, none⟩) ps.length cap') ps.length (cellsT ps) := by simpa using HO1.out
  exact ⟨g, cap', by simp, (HO2.lt g rfl).1, HO2, hb1⟩

theorem cellsT_setL : ∀ (ps : List T3) (j q : Nat), j < ps.length → cellsT (setL ps j q) = (cellsT ps).set (j * 3 + 2) (.float .f32 q)
  | [], j, q, h => by simp at h
  | p :: ps, 0, q, h => rfl
  | p :: ps, j + 1, q, h => by
    have := cellsT_setL ps j q (by simpa using h)
    rw [show (j + 1) * 3 + 2 = (j * 3 + 2) + 3 by omega]
    show _ :: _ :: _ :: cellsT (setL ps j q) = _
    rw [this]
    rfl
theorem setL_len (ps : List T3) (j q : Nat) : (setL ps j q).length = ps.length := by simp [setL]

theorem getD_of {ps : List T3} {j : Nat} (h : j < ps.length) : ps.getD j (0, 0, 0) = ps[j] := by simp [List.getD_eq_getElem?_getD, h]

set_option maxHeartbeats 2000000 in
theorem implWithLoss_ok (ps : List T3) (v : Value) (j : Nat) (q : Nat) (w : World) (hv : Tr w v ps) (hB : trainB ps = true) (hj : j < ps.length) (hq : partB q = true) :
    Calls Try.prog 34 #[v, .int .i64 (j : Int), .float .f32 q] w fun e w' => ∃ u, e = .returned (.tuple #[u, .int .i64 0]) ∧ w'.ownsRow w.heap.size 54 3 u ps.length (cellsT (setL ps j q)) ∧ Below w.heap.size w w' := by
  have HV := Lib.hid hv
  have hl := ask_len2 hB
  have hW : withinB (j : Int) 0 (ps.length - 1) = true := by simp [withinB]; omega
  clear hv
  go_enter Try.func34, Try.ntmps34
  go_wp2_with (first | (go_at_call 51; refine (implValidTrain_any ps _ _ HV.out).mono ?_; rintro e w0 ⟨rfl, hb0⟩) | (go_at_call 56; refine (isPair_any ps _ _ _ (HV.out.below hb0) hB).mono ?_; rintro e w' ⟨rfl, rfl⟩) | (go_at_call 57; refine (impl_IsPart_any _ _).mono ?_; rintro e w' ⟨rfl, rfl⟩) | (go_at_call 58; refine (clone_any ps _ _ (HV.out.below hb0) (by omega) (by omega)).mono ?_; (rintro e w1 ⟨g, cap, rfl, hg, ho, hb1⟩; have e2 := own_cell ho (cellsT_get _ j _ (List.getElem?_eq_getElem hj)).2.2; have hf := own_free ho; have HO := Lib.hid ho; clear ho)))
  go_ret2
  have hst := (HO.out.stored (j * 3 + 2) (.float .f32 q)).1
  rw [← cellsT_setL ps j q hj] at hst
  have hs0 := hb0.size
  exact ⟨_, rfl, own_base hst hs0, (below_then hb0 hb1).setCell (show w.heap.size ≤ g by omega) _⟩

theorem withK_split {ps : List T3} {j : Int} {q : Nat} {K : Int} (h0 : withK ps j q ≠ 0) (hK : withK ps j q = K) : (trainB ps = false ∧ K = 1) ∨ (trainB ps = true ∧ withinB j 0 (ps.length - 1) = false ∧ K = 2) ∨ (trainB ps = true ∧ withinB j 0 (ps.length - 1) = true ∧ partB q = false ∧ K = 2) := by
  subst hK
  cases hB : trainB ps
  · simp [withK, hB]
  · cases hW : withinB j 0 (ps.length - 1)
    · simp [withK, hB, hW]
    · cases hQ : partB q
      · simp [withK, hB, hW, hQ]
      · exact absurd (by simp [withK, hB, hW, hQ]) h0

set_option maxHeartbeats 1000000 in
theorem implWithLoss_any (ps : List T3) (v : Value) (j : Int) (q : Nat) (w : World) (hv : Tr w v ps) :
    Calls Try.prog 34 #[v, .int .i64 j, .float .f32 q] w (GivesT w (withK ps j q) (withR ps j q)) := by
  by_cases h0 : withK ps j q = 0
  · obtain ⟨hB, hW, hQ⟩ := withK_ok h0
    have hl := ask_len2 hB
    obtain ⟨i, rfl⟩ : ∃ i : Nat, j = (i : Int) := ⟨j.toNat, by simp [withinB] at hW; omega⟩
    have hi : i < ps.length := by simp [withinB] at hW; omega
    refine (implWithLoss_ok ps v i q w hv hB hi hQ).mono ?_
    rintro e w' ⟨u, rfl, h1, h2⟩
    refine ⟨u, by rw [h0], ?_, h2⟩
    rw [withR, if_pos h0, setL_len]
    exact h1
  · have hR : withR ps j q = [] := if_neg h0
    rw [hR]
    generalize hK : withK ps j q = K
    have HV := Lib.hid hv
    clear hv hR
    go_enter Try.func34, Try.ntmps34
    rcases withK_split h0 hK with ⟨hB, rfl⟩ | ⟨hB, hW, rfl⟩ | ⟨hB, hW, hQ, rfl⟩
    all_goals
      clear hK h0
      go_wp2_with (first | (go_at_call 51; refine (implValidTrain_any ps _ _ HV.out).mono ?_; rintro e w0 ⟨rfl, hb0⟩) | (go_at_call 56; refine (isPair_any ps _ _ _ (HV.out.below hb0) hB).mono ?_; rintro e w' ⟨rfl, rfl⟩) | (go_at_call 57; refine (impl_IsPart_any _ _).mono ?_; rintro e w' ⟨rfl, rfl⟩))
      go_ret2
      exact ⟨_, rfl, ⟨rfl, .inl ⟨rfl, rfl⟩⟩, hb0⟩

end Go.Proofs.Ytkgfepakedieaaa
