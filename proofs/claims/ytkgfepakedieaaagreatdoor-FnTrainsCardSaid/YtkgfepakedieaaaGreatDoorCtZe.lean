/- Trains: the train that is driven from its last axle. -/
import Derived.Test.YtkgfepakedieaaaGreatDoorMkZ
import Derived.RegionTactic
import Derived.BigRegion
import Derived.Deep.RegionLaw
import Derived.Deep.AppendLies
namespace Go.Proofs.YtkgfepakedieaaaGreatDoor
open Go.RowKit

def backP (p : T3) : T3 := (p.2.1, p.1, p.2.2)
def backT (ps : List T3) : List T3 := ps.reverse.map backP
def okT (b : Bool) : Int := if b then 0 else 1
theorem back_at (ps : List T3) (j : Nat) (h : j < ps.length) : (backT ps)[j]? = some (backP ps[ps.length - 1 - j]) := by
  unfold backT
  rw [List.getElem?_map, List.getElem?_reverse h, List.getElem?_eq_getElem (by omega)]
  rfl

theorem cellsT_app (a b : List T3) : cellsT (a ++ b) = cellsT a ++ cellsT b := by simp [cellsT]
theorem back_len (ps : List T3) : (backT ps).length = ps.length := by simp [backT]

set_option maxRecDepth 100000 in
set_option maxHeartbeats 2000000 in
theorem specBackTrain_any (ps : List T3) (v : Value) (w : World) (hv : Tr w v ps) :
    Calls Tryz.prog 12 #[v] w fun e w' => ∃ u, e = .returned (.tuple #[u, .int .i64 (okT (trainB ps))]) ∧ w'.ownsRow w.heap.size 65 3 u (if trainB ps then backT ps else []).length (cellsT (if trainB ps then backT ps else [])) ∧ Below w.heap.size w w' := by
  obtain ⟨a, cap, rfl, hn, hk, hc⟩ := hv
  have HV : Hid (Tr w (.slice a ps.length cap) ps) := Lib.hid ⟨a, cap, rfl, hn, hk, hc⟩
  clear hk
  obtain ⟨i0, hi, hz0, hz1, hz2⟩ := info_parts info_pair
  go_enter Tryz.func12, Tryz.ntmps12
  cases hB : trainB ps
  · clear hc
    go_wp2_with (go_at_call 39; refine (l01Ok_any ps _ _ HV.out).mono ?_; rintro e w' ⟨rfl, rfl⟩)
    go_ret2
    refine ⟨_, rfl, ?_, by (repeat' (first | (with_reducible exact Below.refl _ _) | (with_reducible assumption) | (with_reducible refine Below.alloc ?_ ?_ _) | (with_reducible refine below_drewN ?_ _) | (with_reducible refine Below.drew ?_) | (with_reducible refine Below.setCell ?_ ?_ _) | (with_reducible exact Nat.le_refl _) | omega | (simp only [World.size_alloc, World.size_setCell, World.size_drew, World.heap_drewN]; omega) | (simp; omega)))⟩
    exact own_lit w w.heap.size 65 (size := 3) 0 #[] (Nat.le_refl _) (by decide) rfl
  · have hl : ps.length ≤ 8 := by
      simp [trainB, withinB] at hB
      omega
    go_wp2_with (go_at_call 39; refine (l01Ok_any ps _ _ HV.out).mono ?_; rintro e w' ⟨rfl, rfl⟩)
    go_loopw [4, 5] (fun u k wr => ∃ j : Nat, j ≤ ps.length ∧ k = .int .i64 ((ps.length : Int) - 1 - j) ∧ wr.ownsRow w.heap.size 65 3 u j (cellsT ((backT ps).take j)) ∧ Below w.heap.size w wr)
      (fun _ k _ => (intOf k + 1).toNat)
    case atStart =>
      refine ⟨0, by omega, by simp, ?_, by (repeat' (first | (with_reducible exact Below.refl _ _) | (with_reducible assumption) | (with_reducible refine Below.alloc ?_ ?_ _) | (with_reducible refine below_drewN ?_ _) | (with_reducible refine Below.drew ?_) | (with_reducible refine Below.setCell ?_ ?_ _) | (with_reducible exact Nat.le_refl _) | omega | (simp only [World.size_alloc, World.size_setCell, World.size_drew, World.heap_drewN]; omega) | (simp; omega)))⟩
      exact own_lit w w.heap.size 65 (size := 3) 0 #[] (Nat.le_refl _) (by decide) rfl
    case round =>
      obtain ⟨j, hj, rfl, ho, hb⟩ := hrel
      by_cases hlt : j < ps.length
      · obtain ⟨b, off, rfl, hbl, hat⟩ := hc (by omega)
        obtain ⟨q, hq⟩ : ∃ q : Nat, (ps.length : Int) - 1 - j = (q : Int) := ⟨ps.length - 1 - j, by omega⟩
        have hql : q < ps.length := by omega
        have hp : ps[q]? = some ps[q] := List.getElem?_eq_getElem hql
        obtain ⟨c0, c1, c2⟩ := hat q _ hp
        have d0 := (Below.cell hb (p := ⟨b, _, none⟩) hbl).trans c0
        have d1 := (Below.cell hb (p := ⟨b, _, none⟩) hbl).trans c1
        have d2 := (Below.cell hb (p := ⟨b, _, none⟩) hbl).trans c2
        have HO := Lib.hid ho
        have HE : cellsT ((backT ps).take (j + 1)) = cellsT ((backT ps).take j) ++ [.int .i16 ps[q].2.1, .int .i16 ps[q].1, .float .f32 ps[q].2.2] := by
          have e : ps.length - 1 - j = q := by omega
          have := back_at ps j hlt
          rw [List.take_add_one, this]
          simp only [e]
          rw [cellsT_app]
          rfl
        rw [hq]
        clear hc hat c0 c1 c2 ho
        go_wp2
        go_region_law (refine step_append_lies _ rfl _ _ _ rfl w.heap.size 65 i0 _ 3 8 Tryz.underlying25 hi hz0 hz1 hz2 rfl (by decide) _ _ _ rfl ((HO.out.alloc _).drew) ⟨wr.heap.size, 0, none⟩ 1 1 [.int .i16 ps[q].2.1, .int .i16 ps[q].1, .float .f32 ps[q].2.2] rfl rfl (World.news_of_block (heap_alloc_new wr _)) (by intro u hu; simp at hu; rcases hu with rfl | rfl | rfl <;> rfl) (by decide) (by unfold maxLen; omega) (by omega) (by have := hb.size; simp; omega) _ rfl ?_; intro g cap' w1 hown1 hgrow hat hlt1)
        all_goals
          have hb1 : Below w.heap.size w w1 := ((hb.alloc hb.size _).drew).grown hgrow (by have := hb.size; simp; omega) (fun g hg => (HO.out.lt g hg).1)
          have HO1 := Lib.hid hown1
          clear hown1 hgrow hat hlt1
          go_wp2
          refine ⟨⟨j + 1, by omega, by congr 1; omega, ?_, hb1⟩, by simp [intOf]⟩
          rw [HE]
          exact HO1.out
      · obtain rfl : j = ps.length := by omega
        have HO := Lib.hid ho
        clear hc ho
        go_wp2
        go_ret2
        refine ⟨_, rfl, ?_, hb⟩
        have := HO.out
        rw [List.take_of_length_le (Nat.le_of_eq (back_len ps))] at this
        rw [back_len]
        exact this

set_option maxRecDepth 100000 in
set_option maxHeartbeats 2000000 in
theorem implBackTrain_any (ps : List T3) (v : Value) (w : World) (hv : Tr w v ps) :
    Calls Tryz.prog 11 #[v] w fun e w' => ∃ u, e = .returned (.tuple #[u, .int .i64 (okT (trainB ps))]) ∧ w'.ownsRow w.heap.size 65 3 u (if trainB ps then backT ps else []).length (cellsT (if trainB ps then backT ps else [])) ∧ Below w.heap.size w w' := by
  obtain ⟨a, cap, rfl, hn, hk, hc⟩ := hv
  have HV : Hid (Tr w (.slice a ps.length cap) ps) := Lib.hid ⟨a, cap, rfl, hn, hk, hc⟩
  clear hk
  obtain ⟨i0, hi, hz0, hz1, hz2⟩ := info_parts info_pair
  go_enter Tryz.func11, Tryz.ntmps11
  cases hB : trainB ps
  · clear hc
    go_wp2_with (go_at_call 17; refine (implValidTrain_any ps _ _ HV.out).mono ?_; rintro e w0 ⟨rfl, hb0⟩)
    go_ret2
    exact ⟨_, rfl, ⟨rfl, .inl ⟨rfl, rfl⟩⟩, hb0⟩
  · have hl : ps.length ≤ 8 := by
      simp [trainB, withinB] at hB
      omega
    go_wp2_with (go_at_call 17; refine (implValidTrain_any ps _ _ HV.out).mono ?_; rintro e w0 ⟨rfl, hb0⟩)
    go_loopw [4, 5] (fun u k wr => ∃ j : Nat, j ≤ ps.length ∧ k = .int .i64 ((ps.length : Int) - 1 - j) ∧ wr.ownsRow w.heap.size 65 3 u j (cellsT ((backT ps).take j)) ∧ Below w.heap.size w wr)
      (fun _ k _ => (intOf k + 1).toNat)
    case atStart =>
      have hsz0 := hb0.size
      refine ⟨0, by omega, by simp, ?_, by (repeat' (first | (with_reducible exact Below.refl _ _) | (with_reducible assumption) | (with_reducible refine Below.alloc ?_ ?_ _) | (with_reducible refine below_drewN ?_ _) | (with_reducible refine Below.drew ?_) | (with_reducible refine Below.setCell ?_ ?_ _) | (with_reducible exact Nat.le_refl _) | omega | (simp only [World.size_alloc, World.size_setCell, World.size_drew, World.heap_drewN]; omega) | (simp; omega)))⟩
      exact own_lit w0 w.heap.size 65 (size := 3) 0 #[] hsz0 (by decide) rfl
    case round =>
      obtain ⟨j, hj, rfl, ho, hb⟩ := hrel
      by_cases hlt : j < ps.length
      · obtain ⟨b, off, rfl, hbl, hat⟩ := hc (by omega)
        obtain ⟨q, hq⟩ : ∃ q : Nat, (ps.length : Int) - 1 - j = (q : Int) := ⟨ps.length - 1 - j, by omega⟩
        have hql : q < ps.length := by omega
        have hp : ps[q]? = some ps[q] := List.getElem?_eq_getElem hql
        obtain ⟨c0, c1, c2⟩ := hat q _ hp
        have d0 := (Below.cell hb (p := ⟨b, _, none⟩) hbl).trans c0
        have d1 := (Below.cell hb (p := ⟨b, _, none⟩) hbl).trans c1
        have d2 := (Below.cell hb (p := ⟨b, _, none⟩) hbl).trans c2
        have HO := Lib.hid ho
        have HE : cellsT ((backT ps).take (j + 1)) = cellsT ((backT ps).take j) ++ [.int .i16 ps[q].2.1, .int .i16 ps[q].1, .float .f32 ps[q].2.2] := by
          have e : ps.length - 1 - j = q := by omega
          have := back_at ps j hlt
          rw [List.take_add_one, this]
          simp only [e]
          rw [cellsT_app]
          rfl
        rw [hq]
        clear hc hat c0 c1 c2 ho
        go_wp2
        go_region_law (refine step_append_lies _ rfl _ _ _ rfl w.heap.size 65 i0 _ 3 8 Tryz.underlying25 hi hz0 hz1 hz2 rfl (by decide) _ _ _ rfl ((HO.out.alloc _).drew) ⟨wr.heap.size, 0, none⟩ 1 1 [.int .i16 ps[q].2.1, .int .i16 ps[q].1, .float .f32 ps[q].2.2] rfl rfl (World.news_of_block (heap_alloc_new wr _)) (by intro u hu; simp at hu; rcases hu with rfl | rfl | rfl <;> rfl) (by decide) (by unfold maxLen; omega) (by omega) (by have := hb.size; simp; omega) _ rfl ?_; intro g cap' w1 hown1 hgrow hat hlt1)
        all_goals
          have hb1 : Below w.heap.size w w1 := ((hb.alloc hb.size _).drew).grown hgrow (by have := hb.size; simp; omega) (fun g hg => (HO.out.lt g hg).1)
          have HO1 := Lib.hid hown1
          clear hown1 hgrow hat hlt1
          go_wp2
          refine ⟨⟨j + 1, by omega, by congr 1; omega, ?_, hb1⟩, by simp [intOf]⟩
          rw [HE]
          exact HO1.out
      · obtain rfl : j = ps.length := by omega
        have HO := Lib.hid ho
        clear hc ho
        go_wp2
        go_ret2
        refine ⟨_, rfl, ?_, hb⟩
        have := HO.out
        rw [List.take_of_length_le (Nat.le_of_eq (back_len ps))] at this
        rw [back_len]
        exact this

end Go.Proofs.YtkgfepakedieaaaGreatDoor
