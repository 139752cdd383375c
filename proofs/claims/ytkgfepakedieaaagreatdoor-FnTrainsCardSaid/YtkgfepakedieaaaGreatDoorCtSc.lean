/- Contracts: the source of choices (spec.l00Src): next, pick, one, among. -/
import Derived.Test.YtkgfepakedieaaaGreatDoorCtA
import Derived.Test.YtkgfepakedieaaaGreatDoorMem
import Derived.Test.YtkgfepakedieaaaGreatDoorDr
import Derived.RegionTactic
import Derived.BigRegion
import Derived.Laws.Bits64b
namespace Go.Proofs.YtkgfepakedieaaaGreatDoor
open Go.RowKit

/-- Bytes in a world, in a block below g. -/
def BytesAt (w : World) (g : Nat) (a : Option Addr) (n : Nat) : Prop :=
  n ≤ maxLen ∧ (0 < n → ∃ b off, a = some ⟨b, off, none⟩ ∧ b < g ∧ ∀ i, i < n → ∃ y : Int, w.cell? ⟨b, off + i, none⟩ = some (.int .u8 y) ∧ 0 ≤ y ∧ y ≤ 255)
theorem BytesAt.below {w w' : World} {g : Nat} {a : Option Addr} {n : Nat} (h : BytesAt w g a n) (hb : Below g w w') : BytesAt w' g a n := by
  refine ⟨h.1, fun hn => ?_⟩
  obtain ⟨b, off, rfl, hbg, hc⟩ := h.2 hn
  refine ⟨b, off, rfl, hbg, fun i hi => ?_⟩
  obtain ⟨y, hy, h0, h1⟩ := hc i hi
  exact ⟨y, (Below.cell hb (p := ⟨b, _, none⟩) hbg).trans hy, h0, h1⟩

/-- A source at block g: its bytes, how many it has read (at most k), its seed. -/
def Src (w : World) (g : Nat) (k : Nat) : Prop :=
  ∃ (a : Option Addr) (n cap : Nat) (t z : Int), w.ownsRow g 84 3 (.slice (some ⟨g, 0, none⟩) 1 1) 1 [.slice a n cap, .int .i64 t, .int .u64 z] ∧ BytesAt w g a n ∧ (0 ≤ t ∧ t ≤ k) ∧ (0 ≤ z ∧ z ≤ 18446744073709551615)

/-- Nothing has turned but the source's block. -/
def Moved (g : Nat) (w w' : World) : Prop := Below g w w' ∧ ∀ b, b < w.heap.size → b ≠ g → w'.heap[b]? = w.heap[b]?
theorem Moved.refl (g : Nat) (w : World) : Moved g w w := ⟨Below.refl _ _, fun _ _ _ => rfl⟩
theorem Moved.trans {g : Nat} {w w' w2 : World} (h : Moved g w w') (h' : Moved g w' w2) : Moved g w w2 :=
  ⟨h.1.trans h'.1, fun b hb hne => (h'.2 b (Nat.lt_of_lt_of_le hb h.1.size) hne).trans (h.2 b hb hne)⟩
theorem Moved.set {g : Nat} {w w' : World} (h : Moved g w w') (o : Nat) (u : Value) : Moved g w (w'.setCell ⟨g, o, none⟩ u) :=
  ⟨h.1.setCell (Nat.le_refl _) _, fun b hb hne => (Below.heap_setCell w' ⟨g, o, none⟩ u b hne).trans (h.2 b hb hne)⟩
theorem Moved.drewN {g : Nat} {w w' : World} (h : Moved g w w') (n : Nat) : Moved g w (w'.drewN n) := ⟨below_drewN h.1 n, h.2⟩
theorem Moved.of_below {g : Nat} {w w' : World} (hg : g < w.heap.size) (h : Below w.heap.size w w') : Moved g w w' := ⟨h.mono (by omega), fun b hb _ => h.block b hb⟩
theorem Moved.own {g : Nat} {w w' : World} {base : Nat} {e : TypeId} {size : Nat} {v : Value} {n : Nat} {xs : List Value} (h : Moved g w w') (ho : w.ownsRow base e size v n xs) (hne : ∀ b, v.ownBlock = some b → b ≠ g) : w'.ownsRow base e size v n xs :=
  own_of_block ho fun b hb => h.2 b (ho.lt b hb).2 (hne b hb)
theorem Moved.cell {g : Nat} {w w' : World} (h : Moved g w w') {p : Addr} {v : Value} (hc : w.cell? p = some v) (hne : p.block ≠ g) : w'.cell? p = some v := by
  rw [World.cell?_of_block (w := w) (h.2 p.block (World.block_lt_of_cell? w _ hc) hne)]
  exact hc

theorem Src.lt {w : World} {g k : Nat} (h : Src w g k) : g < w.heap.size := by
  obtain ⟨a, n, cap, t, z, ho, _⟩ := h
  exact (ho.lt g rfl).2
theorem Src.mono {w : World} {g k l : Nat} (h : Src w g k) (hkl : k ≤ l) : Src w g l := by
  obtain ⟨a, n, cap, t, z, ho, hB, ht, hz⟩ := h
  exact ⟨a, n, cap, t, z, ho, hB, by omega, hz⟩
theorem Src.after {w w' : World} {g k : Nat} (h : Src w g k) (hb : Below w.heap.size w w') : Src w' g k := by
  have hl := h.lt
  obtain ⟨a, n, cap, t, z, ho, hB, ht, hz⟩ := h
  exact ⟨a, n, cap, t, z, own_after ho hb, hB.below (hb.mono (by omega)), ht, hz⟩

/-- What a draw gives: a number in a range; the source has gone on by at most d. -/
def Draws (w : World) (g k : Nat) (v : Value → Prop) (e : Ending) (w' : World) : Prop := ∃ u, e = .returned u ∧ v u ∧ Src w' g k ∧ Moved g w w'

theorem byte255 (x : Int) : 0 ≤ IntKind.u64.wrap (x) ∧ IntKind.u64.wrap x ≤ 18446744073709551615 := by
  rw [IntKind.wrap_u64]
  omega

theorem and255 (x : Int) (h : 0 ≤ x ∧ x ≤ 18446744073709551615) : 0 ≤ wrap64 (bits .and .u64 (x / 1099511627776) 255) ∧ wrap64 (bits .and .u64 (x / 1099511627776) 255) ≤ 255 := by
  obtain ⟨n, hn⟩ : ∃ n : Nat, x / 1099511627776 = (n : Int) := ⟨(x / 1099511627776).toNat, by omega⟩
  rw [hn, show (255 : Int) = ((255 : Nat) : Int) from rfl, bits_and_u64_nat n 255 (by omega) (by omega)]
  have : n &&& 255 ≤ 255 := Nat.and_le_right
  unfold wrap64
  omega

set_option maxRecDepth 100000 in
set_option maxHeartbeats 2000000 in
theorem next_any (g k : Nat) (w : World) (h : Src w g k) (hk : k ≤ 100000) :
    Calls Tryz.prog 77 #[.pointer (some ⟨g, 0, none⟩)] w (Draws w g (k + 1) fun u => ∃ x : Int, u = .int .i64 x ∧ 0 ≤ x ∧ x ≤ 255) := by
  obtain ⟨a, n, cap, t, z, ho, hB, ⟨t0, t1⟩, z0, z1⟩ := h
  have c0 := own_cell ho (j := 0) rfl
  have c1 := own_cell ho (j := 1) rfl
  have c2 := own_cell ho (j := 2) rfl
  have hf := own_free ho
  have hn : n ≤ 9223372036854775807 := by have := hB.1; simpa [maxLen] using this
  have HO := Lib.hid ho
  have HBB := Lib.hid hB
  clear ho
  go_enter Tryz.func77, Tryz.ntmps77
  by_cases hlt : t < (n : Int)
  · obtain ⟨j, rfl⟩ : ∃ j : Nat, t = (j : Int) := ⟨t.toNat, by omega⟩
    have hj : j < n := by omega
    obtain ⟨b, off, rfl, hbg, hc⟩ := hB.2 (by omega)
    obtain ⟨y, hy, y0, y1⟩ := hc j hj
    clear hB hc
    have hw : IntKind.i64.wrap ((j : Int) + 1) = (j : Int) + 1 := by rw [IntKind.wrap_i64]; omega
    have hne : b ≠ g := by omega
    go_wp2
    go_region
    go_wp2
    go_region
    go_wp2
    go_region
    go_wp2
    all_goals go_ret
    all_goals exact ⟨_, rfl, ⟨y, rfl, y0, y1⟩, ⟨_, n, cap, _, _, own_drewN (((HO.out.stored 1 _).1).stored 2 _).1 3, HBB.out.below (((Moved.refl g w).set 1 _).set 2 _ |>.drewN 3).1, ⟨by omega, by omega⟩, byte255 _⟩, (((Moved.refl g w).set 1 _).set 2 _).drewN 3⟩
  · clear hB
    have hw : IntKind.i64.wrap (t + 1) = t + 1 := by rw [IntKind.wrap_i64]; omega
    have hgt : ¬ t + 1 ≤ (n : Int) := by omega
    go_wp2
    go_region
    go_wp2
    go_region
    go_wp2
    all_goals go_ret
    all_goals exact ⟨_, rfl, ⟨_, rfl, (and255 _ (byte255 _)).1, (and255 _ (byte255 _)).2⟩, ⟨_, n, cap, _, _, own_drewN (((HO.out.stored 1 _).1).stored 2 _).1 2, HBB.out.below (((Moved.refl g w).set 1 _).set 2 _ |>.drewN 2).1, ⟨by omega, by omega⟩, byte255 _⟩, (((Moved.refl g w).set 1 _).set 2 _).drewN 2⟩

theorem emod_in {x m : Int} (h1 : 1 ≤ m) : 0 ≤ x % m ∧ x % m < m := ⟨Int.emod_nonneg _ (by omega), Int.emod_lt_of_pos _ (by omega)⟩

set_option maxRecDepth 100000 in
set_option maxHeartbeats 2000000 in
theorem pick_any (g k : Nat) (m : Int) (w : World) (h : Src w g k) (hk : k ≤ 50000) (h1 : 1 ≤ m) (h2 : m ≤ 1099511627776) :
    Calls Tryz.prog 56 #[.pointer (some ⟨g, 0, none⟩), .int .i64 m] w (Draws w g (k + 2) fun u => ∃ x : Int, u = .int .i64 x ∧ 0 ≤ x ∧ x < m) := by
  have H := Lib.hid h
  clear h
  go_enter Tryz.func56, Tryz.ntmps56
  by_cases hm : m ≤ 1
  · go_wp2
    all_goals go_ret
    all_goals exact ⟨_, rfl, ⟨0, rfl, by omega, by omega⟩, H.out.mono (by omega), Moved.refl _ _⟩
  · by_cases hb : m ≤ 200
    · go_wp2_with (go_at_call 77; refine (next_any g k _ H.out (by omega)).mono ?_; rintro e w1 ⟨u, rfl, ⟨x, rfl, x0, x1⟩, hs1, hm1⟩)
      all_goals go_ret
      all_goals exact ⟨_, rfl, ⟨_, rfl, emod_in h1⟩, hs1.mono (by omega), hm1⟩
    · go_wp2_with fail
      refine (next_any g k _ H.out (by omega)).mono ?_
      rintro e w1 ⟨u, rfl, ⟨x, rfl, x0, x1⟩, hs1, hm1⟩
      go_wp2_with fail
      refine (next_any g (k + 1) _ hs1 (by omega)).mono ?_
      rintro e w2 ⟨u, rfl, ⟨y, rfl, y0, y1⟩, hs2, hm2⟩
      go_wp2
      all_goals go_ret
      all_goals exact ⟨_, rfl, ⟨_, rfl, emod_in h1⟩, hs2.mono (by omega), hm1.trans hm2⟩

set_option maxRecDepth 100000 in
set_option maxHeartbeats 1000000 in
theorem one_any (g k : Nat) (m : Int) (w : World) (h : Src w g k) (hk : k ≤ 50000) (h1 : 1 ≤ m) (h2 : m ≤ 1099511627776) :
    Calls Tryz.prog 59 #[.pointer (some ⟨g, 0, none⟩), .int .i64 m] w (Draws w g (k + 2) fun u => ∃ b : Bool, u = .bool b) := by
  have H := Lib.hid h
  clear h
  go_enter Tryz.func59, Tryz.ntmps59
  go_wp2_with (go_at_call 56; refine (pick_any g k m _ H.out hk h1 h2).mono ?_; rintro e w1 ⟨u, rfl, ⟨x, rfl, x0, x1⟩, hs1, hm1⟩)
  all_goals go_ret
  all_goals exact ⟨_, rfl, ⟨_, rfl⟩, hs1, hm1⟩

set_option maxRecDepth 100000 in
set_option maxHeartbeats 1000000 in
theorem among_any (g k : Nat) (b n cap : Nat) (xs : List Int) (hn : xs.length = n) (hn1 : 1 ≤ n) (hn2 : n ≤ 1000) (w : World) (h : Src w g k) (hk : k ≤ 50000) (hb : b ≠ g) (hc : ∀ (i : Nat) (x : Int), xs[i]? = some x → w.cell? ⟨b, i, none⟩ = some (.int .i64 x)) :
    Calls Tryz.prog 62 #[.pointer (some ⟨g, 0, none⟩), .slice (some ⟨b, 0, none⟩) n cap] w (Draws w g (k + 2) fun u => ∃ x : Int, u = .int .i64 x ∧ x ∈ xs) := by
  have H := Lib.hid h
  have HC := Lib.hid hc
  clear h hc
  go_enter Tryz.func62, Tryz.ntmps62
  go_wp2_with fail
  refine (pick_any g k _ _ H.out hk (by omega) (by omega)).mono ?_
  rintro e w1 ⟨u, rfl, ⟨x, rfl, x0, x1⟩, hs1, hm1⟩
  obtain ⟨j, rfl⟩ : ∃ j : Nat, x = (j : Int) := ⟨x.toNat, by omega⟩
  have hj : j < xs.length := by omega
  have c0 := hm1.cell (HC.out j _ (List.getElem?_eq_getElem hj)) hb
  go_wp2
  all_goals go_ret
  all_goals exact ⟨_, rfl, ⟨_, rfl, List.getElem_mem hj⟩, hs1, hm1⟩

end Go.Proofs.YtkgfepakedieaaaGreatDoor
