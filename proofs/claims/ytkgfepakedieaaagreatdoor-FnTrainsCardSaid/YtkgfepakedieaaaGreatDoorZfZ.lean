/- Trains: what the program and the reference model answer about one (3): one pair. -/
import Derived.Test.YtkgfepakedieaaaGreatDoorCtZ
import Derived.RegionTactic
import Derived.BigRegion
import Derived.Test.YtkgfepakedieaaaGreatDoorCtZe
import Derived.Test.YtkgfepakedieaaaGreatDoorMkZ
import Derived.Lib.SliceRun
import Derived.Lib.AppendZerosOnto
set_option linter.unusedVariables false
set_option linter.unusedSimpArgs false
namespace Go.Proofs.YtkgfepakedieaaaGreatDoor
open Go.RowKit

/-- The code of a train and a pair. -/
def pairK (ps : List T3) (i : Int) : Int := if trainB ps then (if withinB i 0 (ps.length - 1) then 0 else 2) else 1

def meetC (ps : List T3) (i : Int) : Int :=
  if pairK ps i = 0 then (((ps.getD i.toNat (0, 0, 0)).2.1.toNat / Nat.gcd (ps.getD i.toNat (0, 0, 0)).1.toNat (ps.getD i.toNat (0, 0, 0)).2.1.toNat : Nat) : Int) else 0

end Go.Proofs.YtkgfepakedieaaaGreatDoor

/-! Trains: a loss replaced. -/
namespace Go.Proofs.YtkgfepakedieaaaGreatDoor
open Go.RowKit

theorem cellsT_one (ps : List T3) : ∀ u ∈ cellsT ps, u.oneCell' = true := by
  intro u hu
  unfold cellsT at hu
  obtain ⟨p, _, hu⟩ := List.mem_flatMap.1 hu
  simp at hu
  rcases hu with rfl | rfl | rfl <;> rfl

/-- The cells of a train that is to be appended. -/
theorem tr_news {w : World} {b off : Nat} {ps : List T3} (h : TrAt w b off ps) : ∀ (j : Nat) (u : Value), (cellsT ps)[j]? = some u → w.cell? ((⟨b, off, none⟩ : Addr).add j) = some u := by
  intro j u hu
  have hj := (List.getElem?_eq_some_iff.1 hu).1
  rw [cellsT_len] at hj
  obtain ⟨q, r, hq, hr, rfl⟩ : ∃ q r, q < ps.length ∧ r < 3 ∧ j = q * 3 + r := ⟨j / 3, j % 3, by omega, by omega, by omega⟩
  have hp : ps[q]? = some ps[q] := List.getElem?_eq_getElem hq
  obtain ⟨c0, c1, c2⟩ := h q _ hp
  obtain ⟨g0, g1, g2⟩ := cellsT_get ps q _ hp
  rw [add_none]
  rcases (show r = 0 ∨ r = 1 ∨ r = 2 by omega) with rfl | rfl | rfl
  · cases hu.symm.trans g0
    exact c0
  · cases hu.symm.trans g1
    exact c1
  · cases hu.symm.trans g2
    exact c2

theorem ask_len2 {ps : List T3} (h : trainB ps = true) : 1 ≤ ps.length ∧ ps.length ≤ 8 := by
  simp [trainB, withinB] at h
  omega

theorem TrAt.alloc {w : World} {b off : Nat} {ps : List T3} (h : TrAt w b off ps) (hb : b < w.heap.size) (ob : Obj) : TrAt (w.alloc ob) b off ps := by
  intro i p hp
  obtain ⟨c0, c1, c2⟩ := h i p hp
  refine ⟨?_, ?_, ?_⟩ <;> rw [World.cell?_alloc_past] <;> assumption

def withK (ps : List T3) (j : Int) (q : Nat) : Int := if trainB ps then (if withinB j 0 (ps.length - 1) && partB q then 0 else 2) else 1
def setL (ps : List T3) (j : Nat) (q : Nat) : List T3 := ps.set j ((ps.getD j (0, 0, 0)).1, (ps.getD j (0, 0, 0)).2.1, q)
def withR (ps : List T3) (j : Int) (q : Nat) : List T3 := if withK ps j q = 0 then setL ps j.toNat q else []
theorem withK_ok {ps : List T3} {j : Int} {q : Nat} (h : withK ps j q = 0) : trainB ps = true ∧ withinB j 0 (ps.length - 1) = true ∧ partB q = true := by
  unfold withK at h
  split at h
  · split at h
    · rename_i h1 h2
      simp only [Bool.and_eq_true] at h2
      exact ⟨h1, h2⟩
    · simp at h
  · simp at h
theorem withR_len {ps : List T3} {j : Int} {q : Nat} (h : ps.length ≤ 1048576) : (withR ps j q).length ≤ 1048576 := by
  unfold withR setL
  split
  · simpa using h
  · simp
theorem withR_ok {ps : List T3} {j : Int} {q : Nat} (hk : ∀ p ∈ ps, TOk p) (hq : q < 2 ^ 32) : ∀ p ∈ withR ps j q, TOk p := by
  intro p hp
  unfold withR setL at hp
  split at hp
  · rcases List.mem_or_eq_of_mem_set hp with h | rfl
    · exact hk p h
    · by_cases hj : j.toNat < ps.length
      · have := hk _ (List.getElem_mem hj)
        simp only [List.getD_eq_getElem?_getD, List.getElem?_eq_getElem hj, Option.getD_some]
        exact ⟨this.1, this.2.1, hq⟩
      · simp only [List.getD_eq_getElem?_getD, List.getElem?_eq_none (Nat.le_of_not_lt hj), Option.getD_none]
        exact ⟨⟨by simp, by simp⟩, ⟨by simp, by simp⟩, hq⟩
  · simp at hp

theorem cellsT_setL : ∀ (ps : List T3) (j q : Nat), j < ps.length → cellsT (setL ps j q) = (cellsT ps).set (j * 3 + 2) (.float .f32 q)
  | [], j, q, h => by simp at h
  | p :: ps, 0, q, h => rfl
  | p :: ps, j + 1, q, h => by
    have := cellsT_setL ps j q (by simpa using h)
    rw [show (j + 1) * 3 + 2 = (j * 3 + 2) + 3 by omega]
    show _ :: _ :: _ :: cellsT (setL ps j q) = _
    rw [this]
    rfl
theorem setL_len (ps : List T3) (j q : Nat) : (setL ps j q).length = ps.length := by simp [setL]

theorem getD_of {ps : List T3} {j : Nat} (h : j < ps.length) : ps.getD j (0, 0, 0) = ps[j] := by simp [List.getD_eq_getElem?_getD, h]

theorem withK_split {ps : List T3} {j : Int} {q : Nat} {K : Int} (h0 : withK ps j q ≠ 0) (hK : withK ps j q = K) : (trainB ps = false ∧ K = 1) ∨ (trainB ps = true ∧ withinB j 0 (ps.length - 1) = false ∧ K = 2) ∨ (trainB ps = true ∧ withinB j 0 (ps.length - 1) = true ∧ partB q = false ∧ K = 2) := by
  subst hK
  cases hB : trainB ps
  · simp [withK, hB]
  · cases hW : withinB j 0 (ps.length - 1)
    · simp [withK, hB, hW]
    · cases hQ : partB q
      · simp [withK, hB, hW, hQ]
      · exact absurd (by simp [withK, hB, hW, hQ]) h0

end Go.Proofs.YtkgfepakedieaaaGreatDoor

/-! Trains: one behind the other. -/
namespace Go.Proofs.YtkgfepakedieaaaGreatDoor
open Go.RowKit

def joinK (ps qs : List T3) : Int := if trainB ps && trainB qs then (if (8 : Int) < ps.length + qs.length then 3 else 0) else 1
def joinR (ps qs : List T3) : List T3 := if joinK ps qs = 0 then ps ++ qs else []
theorem joinK_ok {ps qs : List T3} (h : joinK ps qs = 0) : trainB ps = true ∧ trainB qs = true ∧ ps.length + qs.length ≤ 8 := by
  unfold joinK at h
  split at h
  · rename_i h1
    simp only [Bool.and_eq_true] at h1
    split at h
    · simp at h
    · exact ⟨h1.1, h1.2, by omega⟩
  · simp at h
theorem joinR_len (ps qs : List T3) : (joinR ps qs).length ≤ 1048576 := by
  unfold joinR
  split
  · rename_i h
    have := (joinK_ok h).2.2
    rw [List.length_append]
    omega
  · simp
theorem joinR_ok {ps qs : List T3} (hp : ∀ p ∈ ps, TOk p) (hq : ∀ p ∈ qs, TOk p) : ∀ p ∈ joinR ps qs, TOk p := by
  intro p h
  unfold joinR at h
  split at h
  · rcases List.mem_append.1 h with h | h
    · exact hp p h
    · exact hq p h
  · simp at h
theorem cellsT_app2 (a b : List T3) : cellsT (a ++ b) = cellsT a ++ cellsT b := by simp [cellsT]

set_option maxRecDepth 100000 in
set_option maxHeartbeats 2000000 in
theorem grow_any (n : Nat) (w : World) (h0 : 0 < n) (h8 : n ≤ 16) :
    Calls Tryz.prog 75 #[.slice none 0 0, .int .i64 (n : Int)] w fun e w' => ∃ g cap, e = .returned (.slice (some ⟨g, 0, none⟩) 0 cap) ∧ w'.ownsRow w.heap.size 65 3 (.slice (some ⟨g, 0, none⟩) 0 cap) 0 [] ∧ Below w.heap.size w w' := by
  obtain ⟨i0, hi, hz0, hz1, hz2⟩ := info_parts info_pair
  have hrz : ∀ ty, (Builtin.append_ #[25, 3] ty #[.slice none 0 0, .int .i64 (n : Int)]).run Tryz.prog w = _ := fun ty =>
    Lib.run_append_grow_zeros w 25 3 ty 65 i0 _ .i64 .i64 Tryz.underlying25 Tryz.underlying3 hi hz0 none 0 0 [] (run_firstCells_none w.drew i0.size 0 0 0) n h0 (by rw [hz1]; decide) (by omega) (by omega) (by rw [hz2]; omega) (growslice_fits (by omega) (by rw [hz2]; omega))
  simp only [Nat.zero_add, List.nil_append, Array.empty_append] at hrz
  obtain ⟨G, hG⟩ : ∃ G, G = grownCap w n 0 65 := ⟨_, rfl⟩
  have hGn : n ≤ G := by rw [hG]; exact grownCap_ge w _ _ _
  have hGm : G ≤ maxLen := by rw [hG]; exact grownCap_le_maxLen w n 0 65 (by unfold maxLen; omega)
  rw [← hG] at hrz
  obtain ⟨cur, hcur⟩ : ∃ cur, cur = Builtin.zeroCells (Value.cells (.agg #[.int .i16 0, .int .i16 0, .float .f32 0])) n ++ Builtin.zeroCells (Value.cells (.agg #[.int .i16 0, .int .i16 0, .float .f32 0])) (G - n) := ⟨_, rfl⟩
  have hcs : cur.size = G * 3 := by
    rw [hcur]
    simp [size_zeroCells, Value.cells]
    omega
  rw [← hcur] at hrz
  have hG63 : G ≤ 9223372036854775807 := by simpa [maxLen] using hGm
  clear hG hcur
  go_enter Tryz.func75, Tryz.ntmps75
  go_wp2_with (at_builtin; refine Lib.wpList_append_run _ rfl _ _ _ _ rfl _ _ rfl rfl _ _ (hrz _) ?_)
  go_ret
  refine ⟨_, _, rfl, ⟨rfl, .inr ⟨_, G, cur, rfl, Nat.le_refl _, ?_, Nat.zero_le _, hGm, hcs, rfl⟩⟩, by (repeat' (first | (with_reducible exact Below.refl _ _) | (with_reducible assumption) | (with_reducible refine Below.alloc ?_ ?_ _) | (with_reducible refine below_drewN ?_ _) | (with_reducible refine Below.drew ?_) | (with_reducible refine Below.setCell ?_ ?_ _) | (with_reducible exact Nat.le_refl _) | omega | (simp only [World.size_alloc, World.size_setCell, World.size_drew, World.heap_drewN]; omega) | (simp; omega)))⟩
  exact heap_alloc_new w.drew _

/-- Two trains as the arguments of one call. -/
theorem tr_slice {w : World} {v : Value} {ps : List T3} (h : Tr w v ps) (h0 : 0 < ps.length) : ∃ b off cap, v = .slice (some ⟨b, off, none⟩) ps.length cap ∧ b < w.heap.size ∧ TrAt w b off ps := by
  obtain ⟨a, cap, rfl, hn, hk, hc⟩ := h
  obtain ⟨b, off, rfl, hb, hat⟩ := hc h0
  exact ⟨b, off, cap, rfl, hb, hat⟩
theorem TrAt.belowB {w w' : World} {B b off : Nat} {ps : List T3} (h : TrAt w b off ps) (hb : b < B) (hw : Below B w w') : TrAt w' b off ps := by
  intro i p hp
  obtain ⟨c0, c1, c2⟩ := h i p hp
  exact ⟨(Below.cell hw (p := ⟨b, _, none⟩) hb).trans c0, (Below.cell hw (p := ⟨b, _, none⟩) hb).trans c1, (Below.cell hw (p := ⟨b, _, none⟩) hb).trans c2⟩

set_option maxRecDepth 100000 in
set_option maxHeartbeats 4000000 in
theorem concat_any (ps qs : List T3) (b1 o1 c1 b2 o2 c2 : Nat) (g : Nat) (w : World) (hp : TrAt w b1 o1 ps) (hq : TrAt w b2 o2 qs) (l1 : b1 < w.heap.size) (l2 : b2 < w.heap.size) (p0 : 0 < ps.length) (q0 : 0 < qs.length) (h8 : ps.length + qs.length ≤ 8)
    (hg : g < w.heap.size) (d0 : w.cell? ⟨g, 0, none⟩ = some (.slice (some ⟨b1, o1, none⟩) ps.length c1)) (d1 : w.cell? ⟨g, 1, none⟩ = some (.slice (some ⟨b2, o2, none⟩) qs.length c2)) :
    Calls Tryz.prog 52 #[.slice (some ⟨g, 0, none⟩) 2 2] w fun e w' => ∃ u, e = .returned u ∧ w'.ownsRow w.heap.size 65 3 u (ps ++ qs).length (cellsT (ps ++ qs)) ∧ Below w.heap.size w w' := by
  obtain ⟨i0, hi, hz0, hz1, hz2⟩ := info_parts info_pair
  have HP := Lib.hid hp
  have HQ := Lib.hid hq
  clear hp hq
  go_enter Tryz.func52, Tryz.ntmps52
  go_wp2
  go_loopw [3, 11] (fun s k wr => ∃ j : Nat, j ≤ 2 ∧ k = .int .i64 (j : Int) ∧ wr = w ∧ s = .int .i64 (if j = 0 then 0 else if j = 1 then (ps.length : Int) else (ps.length : Int) + (qs.length : Int)))
    (fun _ k _ => (2 - intOf k).toNat)
  case atStart => exact ⟨0, by omega, rfl, rfl, rfl⟩
  case round =>
    obtain ⟨j, hj, rfl, hww, rfl⟩ := hrel
    obtain rfl : w = wr := hww.symm
    rcases (show j = 0 ∨ j = 1 ∨ j = 2 by omega) with rfl | rfl | rfl
    · simp only [if_true]
      go_wp2
      exact ⟨⟨1, by omega, rfl, trivial, by simp⟩, by simp [intOf]⟩
    · simp only [Nat.one_ne_zero, if_false, if_true]
      go_wp2
      exact ⟨⟨2, by omega, rfl, trivial, by simp⟩, by simp [intOf]⟩
    · have e3 : (if (2 : Nat) = 0 then (0 : Int) else if (2 : Nat) = 1 then (ps.length : Int) else (ps.length : Int) + (qs.length : Int)) = ((ps.length + qs.length : Nat) : Int) := by simp
      rw [e3]
      go_wp2_with (go_at_call 75; refine (grow_any (ps.length + qs.length) _ (by omega) (by omega)).mono ?_; (rintro e w1 ⟨g1, cap1, rfl, ho, hb⟩; have x0 := (Below.cell hb (p := ⟨g, 0, none⟩) hg).trans d0; have x1 := (Below.cell hb (p := ⟨g, 1, none⟩) hg).trans d1))
      have HO := Lib.hid ho
      clear ho
      go_loopw [6, 27] (fun u k wr => ∃ (j : Nat) (xs : List T3), j ≤ 2 ∧ k = .int .i64 (j : Int) ∧ Hid (xs = if j = 0 then [] else if j = 1 then ps else ps ++ qs) ∧ Hid (wr.ownsRow w.heap.size 65 3 u xs.length (cellsT xs)) ∧ Below w.heap.size w wr)
        (fun _ k _ => (2 - intOf k).toNat)
      case atStart => exact ⟨0, [], by omega, rfl, Lib.hid rfl, HO, hb⟩
      case round =>
        obtain ⟨j, xs, hj, rfl, hx, hown, hb2⟩ := hrel
        have y0 := (Below.cell hb2 (p := ⟨g, 0, none⟩) hg).trans d0
        have y1 := (Below.cell hb2 (p := ⟨g, 1, none⟩) hg).trans d1
        have hs2 := hb2.size
        have hxl : xs.length ≤ 8 := by rw [hx.out]; (repeat' split) <;> (try simp only [List.length_nil, List.length_append]) <;> omega
        have hol := Lib.hid fun g hg => (hown.out.lt g hg).1
        rcases (show j = 0 ∨ j = 1 ∨ j = 2 by omega) with rfl | rfl | rfl
        · obtain rfl : xs = [] := hx.out
          go_wp2_with (at_builtin; refine wpList_append_lies _ rfl _ _ _ rfl w.heap.size 65 i0 _ 3 8 Tryz.underlying25 hi hz0 hz1 hz2 rfl (by decide) _ 0 _ rfl hown.out ⟨b1, o1, none⟩ ps.length c1 (cellsT ps) rfl (cellsT_len ps) (tr_news (HP.out.belowB l1 hb2)) (cellsT_one ps) p0 (by unfold maxLen; omega) (by omega) hs2 _ rfl ?_; intro g2 cap2 w2 hown2 hgrow hat hlt)
          have hb3 : Below w.heap.size w w2 := hb2.grown hgrow hs2 hol.out
          have ho2 : w2.ownsRow w.heap.size 65 3 (.slice (some ⟨g2, 0, none⟩) ps.length cap2) ps.length (cellsT ps) := by simpa [show cellsT [] = [] from rfl] using hown2
          have HO2 := Lib.hid ho2
          clear hown2 hgrow hat hlt ho2
          go_wp2
          exact ⟨⟨1, ps, by omega, rfl, Lib.hid rfl, by simpa using HO2, hb3⟩, by simp [intOf]⟩
        · obtain rfl : xs = ps := hx.out
          go_wp2_with (at_builtin; refine wpList_append_lies _ rfl _ _ _ rfl w.heap.size 65 i0 _ 3 8 Tryz.underlying25 hi hz0 hz1 hz2 rfl (by decide) _ xs.length _ rfl hown.out ⟨b2, o2, none⟩ qs.length c2 (cellsT qs) rfl (cellsT_len qs) (tr_news (HQ.out.belowB l2 hb2)) (cellsT_one qs) q0 (by unfold maxLen; omega) (by omega) hs2 _ rfl ?_; intro g2 cap2 w2 hown2 hgrow hat hlt)
          have hb3 : Below w.heap.size w w2 := hb2.grown hgrow hs2 hol.out
          have HO2 := Lib.hid hown2
          clear hown2 hgrow hat hlt
          go_wp2
          exact ⟨⟨2, xs ++ qs, by omega, rfl, Lib.hid rfl, Lib.hid (by rw [List.length_append, cellsT_app2]; exact HO2.out), hb3⟩, by simp [intOf]⟩
        · obtain rfl : xs = ps ++ qs := hx.out
          go_wp2
          go_ret
          exact ⟨_, rfl, hown.out, hb2⟩

set_option maxRecDepth 100000 in
set_option maxHeartbeats 2000000 in
theorem implJoin_ok (ps qs : List T3) (v u : Value) (w : World) (hv : Tr w v ps) (hu : Tr w u qs) (hB : trainB ps = true) (hC : trainB qs = true) (h8 : ps.length + qs.length ≤ 8) :
    Calls Tryz.prog 23 #[v, u] w fun e w' => ∃ u, e = .returned (.tuple #[u, .int .i64 0]) ∧ w'.ownsRow w.heap.size 65 3 u (ps ++ qs).length (cellsT (ps ++ qs)) ∧ Below w.heap.size w w' := by
  have l1 := ask_len2 hB
  have l2 := ask_len2 hC
  have HV := Lib.hid hv
  have HU := Lib.hid hu
  obtain ⟨b1, o1, c1, rfl, hb1, ha1⟩ := tr_slice hv (by omega)
  obtain ⟨b2, o2, c2, rfl, hb2, ha2⟩ := tr_slice hu (by omega)
  have HP := Lib.hid ha1
  have HQ := Lib.hid ha2
  clear hv hu ha1 ha2
  go_enter Tryz.func23, Tryz.ntmps23
  go_wp2_with (first | (go_at_call 17; first | (refine (implValidTrain_any ps _ _ HV.out).mono ?_; rintro e w1 ⟨rfl, hbA⟩; have HU1 := Lib.hid (HU.out.below hbA); have sA := hbA.size; clear HV) | (refine (implValidTrain_any qs _ _ HU1.out).mono ?_; rintro e w2 ⟨rfl, hbB⟩; have sB := hbB.size; have hbC := below_then hbA hbB)) | (go_at_call 52; refine (concat_any ps qs b1 o1 c1 b2 o2 c2 w2.heap.size _ ((HP.out.belowB hb1 hbC).alloc (by omega) _) ((HQ.out.belowB hb2 hbC).alloc (by omega) _) (by simp; omega) (by simp; omega) (by omega) (by omega) h8 (by simp) (by simp [World.cell?_alloc_at]) (by simp [World.cell?_alloc_at])).mono ?_; rintro e w3 ⟨u, rfl, ho, hbD⟩))
  go_ret2
  exact ⟨_, rfl, own_base ho (by simp; omega), below_then (hbC.alloc (by omega) _) hbD⟩

theorem joinK_split {ps qs : List T3} {K : Int} (h0 : joinK ps qs ≠ 0) (hK : joinK ps qs = K) : (trainB ps = false ∧ K = 1) ∨ (trainB ps = true ∧ trainB qs = false ∧ K = 1) ∨ (trainB ps = true ∧ trainB qs = true ∧ (8 : Int) < ps.length + qs.length ∧ K = 3) := by
  subst hK
  cases hB : trainB ps
  · simp [joinK, hB]
  · cases hC : trainB qs
    · simp [joinK, hB, hC]
    · by_cases h8 : (8 : Int) < ps.length + qs.length
      · simp [joinK, hB, hC, h8]
      · exact absurd (by simp [joinK, hB, hC, h8]) h0

set_option maxRecDepth 100000 in
set_option maxHeartbeats 1000000 in
theorem implJoin_any (ps qs : List T3) (v u : Value) (w : World) (hv : Tr w v ps) (hu : Tr w u qs) :
    Calls Tryz.prog 23 #[v, u] w (GivesT w (joinK ps qs) (joinR ps qs)) := by
  by_cases h0 : joinK ps qs = 0
  · obtain ⟨hB, hC, h8⟩ := joinK_ok h0
    refine (implJoin_ok ps qs v u w hv hu hB hC h8).mono ?_
    rintro e w' ⟨u, rfl, h1, h2⟩
    refine ⟨u, by rw [h0], ?_, h2⟩
    rw [joinR, if_pos h0]
    exact h1
  · have hR : joinR ps qs = [] := if_neg h0
    rw [hR]
    generalize hK : joinK ps qs = K
    have HV := Lib.hid hv
    have HU := Lib.hid hu
    obtain ⟨a, cap, rfl, hn, _⟩ := hv
    obtain ⟨a', cap', rfl, hn', _⟩ := hu
    clear hR
    rcases joinK_split h0 hK with ⟨hB, rfl⟩ | ⟨hB, hC, rfl⟩ | ⟨hB, hC, h8, rfl⟩
    all_goals
      clear hK h0
      have hl1 := @ask_len2 ps
      have hl2 := @ask_len2 qs
      simp only [*, true_imp_iff, Bool.false_eq_true, false_imp_iff] at hl1 hl2
      go_enter Tryz.func23, Tryz.ntmps23
      go_wp2_with (go_at_call 17; first | (refine (implValidTrain_any ps _ _ HV.out).mono ?_; rintro e w1 ⟨rfl, hbA⟩; have HU1 := Lib.hid (HU.out.below hbA); clear HV) | (refine (implValidTrain_any qs _ _ HU1.out).mono ?_; rintro e w2 ⟨rfl, hbB⟩; have hbA := below_then hbA hbB))
      go_ret2
      exact ⟨_, rfl, ⟨rfl, .inl ⟨rfl, rfl⟩⟩, hbA⟩

end Go.Proofs.YtkgfepakedieaaaGreatDoor
