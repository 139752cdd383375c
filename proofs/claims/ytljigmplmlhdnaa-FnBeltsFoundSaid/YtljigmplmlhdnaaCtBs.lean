/- Rows of belts. -/
import Derived.Test.YtljigmplmlhdnaaMk2
import Derived.Test.YtljigmplmlhdnaaCtM
import Derived.Test.YtljigmplmlhdnaaLoB
namespace Go.Proofs.Ytljigmplmlhdnaa
open Go.RowKit

/-- A belt: both radii, the distance, the grip, whether it is crossed. -/
abbrev B5 := Nat × Nat × Nat × Nat × Bool
def BOk (p : B5) : Prop := p.1 < 2 ^ 32 ∧ p.2.1 < 2 ^ 32 ∧ p.2.2.1 < 2 ^ 32 ∧ p.2.2.2.1 < 2 ^ 32
def encB (p : B5) : List Value := [.float .f32 p.1, .float .f32 p.2.1, .float .f32 p.2.2.1, .float .f32 p.2.2.2.1, .bool p.2.2.2.2]
def aggB (p : B5) : Value := .agg #[.float .f32 p.1, .float .f32 p.2.1, .float .f32 p.2.2.1, .float .f32 p.2.2.2.1, .bool p.2.2.2.2]

def BsAt (w : World) (b off : Nat) (bs : List B5) : Prop :=
  ∀ i p, bs[i]? = some p → BeltAt w b (off + i * 5) p.1 p.2.1 p.2.2.1 p.2.2.2.1 p.2.2.2.2
def Bs (w : World) (v : Value) (bs : List B5) : Prop :=
  ∃ (a : Option Addr) (cap : Nat), v = .slice a bs.length cap ∧ bs.length ≤ maxLen ∧ (∀ p ∈ bs, BOk p) ∧ (0 < bs.length → ∃ b off, a = some ⟨b, off, none⟩ ∧ b < w.heap.size ∧ BsAt w b off bs)

theorem bs_ok {w : World} {v : Value} {bs : List B5} (h : Bs w v bs) : ∀ p ∈ bs, BOk p := by
  obtain ⟨_, _, _, _, hk, _⟩ := h
  exact hk

theorem bs_of_in {w : World} {v : Value} {n : Nat} {es : Nat → List Value} (h : SliceIn (CellsOk [.f, .f, .f, .f, .b]) 5 w v n es) : ∃ bs, Bs w v bs ∧ bs.length = n := by
  obtain ⟨a, cap, rfl, hn, hc⟩ := h
  have key : ∀ i, i < n → ∃ p : B5, BOk p ∧ es i = encB p := fun i hi => by
    obtain ⟨b, off, _, _, hall⟩ := hc (by omega)
    obtain ⟨⟨_, _, e0, ⟨x, rfl, wx⟩, _, _, rfl, ⟨y, rfl, wy⟩, _, _, rfl, ⟨z, rfl, wz⟩, _, _, rfl, ⟨u, rfl, wu⟩, _, _, rfl, ⟨t, rfl⟩, rfl⟩, _, _⟩ := hall i hi
    exact ⟨(x, y, z, u, t), ⟨wx, wy, wz, wu⟩, e0⟩
  let f : Nat → B5 := fun i => if hi : i < n then Classical.choose (key i hi) else (0, 0, 0, 0, false)
  have hf : ∀ i, i < n → BOk (f i) ∧ es i = encB (f i) := fun i hi => by
    show BOk (dite _ _ _) ∧ _
    rw [show f i = Classical.choose (key i hi) from dif_pos hi, dif_pos hi]
    exact Classical.choose_spec (key i hi)
  refine ⟨(List.range n).map f, ⟨a, cap, by simp, by simpa using hn, ?_, ?_⟩, by simp⟩
  · intro p hp
    obtain ⟨i, hi, rfl⟩ := List.mem_map.1 hp
    exact (hf i (List.mem_range.1 hi)).1
  · intro hpos
    obtain ⟨b, off, ha, hb, hall⟩ := hc (by simpa using hpos)
    refine ⟨b, off, ha, hb, fun i p hp => ?_⟩
    have hi : i < n := by
      have := (List.getElem?_eq_some_iff.1 hp).1
      simpa using this
    obtain rfl : f i = p := by simpa [hi] using hp
    obtain ⟨_, _, hcell⟩ := hall i hi
    rw [(hf i hi).2] at hcell
    exact ⟨hcell 0 (by omega), hcell 1 (by omega), hcell 2 (by omega), hcell 3 (by omega), hcell 4 (by omega)⟩

theorem BeltAt.below {w w' : World} {p o a b c d : Nat} {x : Bool} (h : BeltAt w p o a b c d x) (hp : p < w.heap.size) (hb : Below w.heap.size w w') : BeltAt w' p o a b c d x := by
  obtain ⟨h0, h1, h2, h3, h4⟩ := h
  exact ⟨(Below.cell hb (p := ⟨p, _, none⟩) hp).trans h0, (Below.cell hb (p := ⟨p, _, none⟩) hp).trans h1, (Below.cell hb (p := ⟨p, _, none⟩) hp).trans h2, (Below.cell hb (p := ⟨p, _, none⟩) hp).trans h3, (Below.cell hb (p := ⟨p, _, none⟩) hp).trans h4⟩

/-- In a world behind another one that holds the row's block. -/
theorem BeltAt.belowB {w w' : World} {B p o a b c d : Nat} {x : Bool} (h : BeltAt w p o a b c d x) (hp : p < B) (hb : Below B w w') : BeltAt w' p o a b c d x := by
  obtain ⟨h0, h1, h2, h3, h4⟩ := h
  exact ⟨(Below.cell hb (p := ⟨p, _, none⟩) hp).trans h0, (Below.cell hb (p := ⟨p, _, none⟩) hp).trans h1, (Below.cell hb (p := ⟨p, _, none⟩) hp).trans h2, (Below.cell hb (p := ⟨p, _, none⟩) hp).trans h3, (Below.cell hb (p := ⟨p, _, none⟩) hp).trans h4⟩

theorem Bs.below {w w' : World} {v : Value} {bs : List B5} (h : Bs w v bs) (hb : Below w.heap.size w w') : Bs w' v bs := by
  obtain ⟨a, cap, rfl, hn, hk, hc⟩ := h
  refine ⟨a, cap, rfl, hn, hk, fun hpos => ?_⟩
  obtain ⟨b, off, ha, hlt, hall⟩ := hc hpos
  exact ⟨b, off, ha, Nat.lt_of_lt_of_le hlt hb.size, fun i p hp => (hall i p hp).below hlt hb⟩

def cellsB (bs : List B5) : List Value := bs.flatMap encB
theorem cellsB_len : ∀ (bs : List B5), (cellsB bs).length = bs.length * 5
  | [] => rfl
  | p :: bs => by
    have := cellsB_len bs
    show (_ :: _ :: _ :: _ :: _ :: cellsB bs).length = _
    simp only [List.length_cons, this]
    omega
theorem cellsB_get : ∀ (bs : List B5) (i : Nat) (p : B5), bs[i]? = some p → (cellsB bs)[i * 5]? = some (.float .f32 p.1) ∧ (cellsB bs)[i * 5 + 1]? = some (.float .f32 p.2.1) ∧ (cellsB bs)[i * 5 + 2]? = some (.float .f32 p.2.2.1) ∧ (cellsB bs)[i * 5 + 3]? = some (.float .f32 p.2.2.2.1) ∧ (cellsB bs)[i * 5 + 4]? = some (.bool p.2.2.2.2)
  | [], i, p, h => by simp at h
  | q :: bs, 0, p, h => by
    obtain rfl : q = p := by simpa using h
    exact ⟨rfl, rfl, rfl, rfl, rfl⟩
  | q :: bs, i + 1, p, h => by
    have := cellsB_get bs i p (by simpa using h)
    rw [show (i + 1) * 5 = i * 5 + 5 by omega]
    exact this
theorem cellsB_set : ∀ (bs : List B5) (i : Nat) (p : B5), i < bs.length → cellsB (bs.set i p) = (((((cellsB bs).set (i * 5) (.float .f32 p.1)).set (i * 5 + 1) (.float .f32 p.2.1)).set (i * 5 + 2) (.float .f32 p.2.2.1)).set (i * 5 + 3) (.float .f32 p.2.2.2.1)).set (i * 5 + 4) (.bool p.2.2.2.2)
  | [], i, p, h => by simp at h
  | q :: bs, 0, p, h => rfl
  | q :: bs, i + 1, p, h => by
    have := cellsB_set bs i p (by simpa using h)
    rw [show (i + 1) * 5 = i * 5 + 5 by omega]
    show _ :: _ :: _ :: _ :: _ :: cellsB (bs.set i p) = _
    rw [this]
    rfl
theorem madeB (n : Nat) : (madeCells (Value.cells (.agg #[.float .f32 0, .float .f32 0, .float .f32 0, .float .f32 0, .bool false])) (n * 5)).toList = cellsB (List.replicate n (0, 0, 0, 0, false)) := by
  apply List.ext_getElem?
  intro i
  show (madeCells #[.float .f32 0, .float .f32 0, .float .f32 0, .float .f32 0, .bool false] (n * 5)).toList[i]? = _
  by_cases hi : i < n * 5
  · have hL : (madeCells #[.float .f32 0, .float .f32 0, .float .f32 0, .float .f32 0, .bool false] (n * 5)).toList[i]? = some ((#[.float .f32 0, .float .f32 0, .float .f32 0, .float .f32 0, .bool false] : Array Value)[i % 5]!) := by
      rw [Array.getElem?_toList]
      simp [madeCells, hi]
    rw [hL]
    obtain ⟨q, r, hq, hr, rfl⟩ : ∃ q r, q < n ∧ r < 5 ∧ i = q * 5 + r := ⟨i / 5, i % 5, by omega, by omega, by omega⟩
    obtain ⟨g0, g1, g2, g3, g4⟩ := cellsB_get (List.replicate n (0, 0, 0, 0, false)) q (0, 0, 0, 0, false) (by simp [hq])
    rw [show (q * 5 + r) % 5 = r by omega]
    rcases (show r = 0 ∨ r = 1 ∨ r = 2 ∨ r = 3 ∨ r = 4 by omega) with rfl | rfl | rfl | rfl | rfl
    · exact g0.symm
    · exact g1.symm
    · exact g2.symm
    · exact g3.symm
    · exact g4.symm
  · rw [List.getElem?_eq_none (by simp [size_madeCells]; omega), List.getElem?_eq_none (by simp [cellsB_len]; omega)]

theorem take_rep_setG {α : Type} (ps : List α) (j : Nat) (h : j < ps.length) (z : α) : ps.take (j + 1) ++ List.replicate (ps.length - (j + 1)) z = (ps.take j ++ List.replicate (ps.length - j) z).set j ps[j] := by
  apply List.ext_getElem?
  intro i
  rw [List.getElem?_set]
  by_cases he : j = i
  · subst he
    rw [if_pos rfl, if_pos (by simp; omega), List.getElem?_append_left (by simp; omega)]
    simp
  · rw [if_neg he]
    by_cases hi : i < j
    · rw [List.getElem?_append_left (by simp; omega), List.getElem?_append_left (by simp; omega)]
      simp only [List.getElem?_take]
      rw [if_pos (by omega), if_pos hi]
    · rw [List.getElem?_append_right (by simp; omega), List.getElem?_append_right (by simp; omega)]
      simp [List.getElem?_replicate]
      congr 1
      apply propext
      omega

theorem bs_of_own {w : World} {base : Nat} {e : TypeId} {g cap : Nat} {bs : List B5} (h : w.ownsRow base e 5 (.slice (some ⟨g, 0, none⟩) bs.length cap) bs.length (cellsB bs)) (hk : ∀ p ∈ bs, BOk p) : Bs w (.slice (some ⟨g, 0, none⟩) bs.length cap) bs := by
  have hv := own_val h
  rcases hv with ⟨h1, _⟩ | ⟨g', cap', h1, _, h2, h3, h4⟩
  · cases h1
  · injection h1 with h5 _ h6
    injection h5 with h5
    injection h5 with h5
    subst h5 h6
    refine ⟨_, _, rfl, by omega, hk, fun _ => ⟨g, 0, rfl, h2, fun i p hp => ?_⟩⟩
    obtain ⟨g0, g1, g2, g3, g4⟩ := cellsB_get bs i p hp
    have a0 := own_cell h g0
    have a1 := own_cell h g1
    have a2 := own_cell h g2
    have a3 := own_cell h g3
    have a4 := own_cell h g4
    rw [Nat.zero_add]
    exact ⟨a0, a1, a2, a3, a4⟩

theorem info_belt : (Try.prog.info? 31).map (fun i => (i.zero, i.size, i.bytes)) = some (some (.agg #[.float .f32 0, .float .f32 0, .float .f32 0, .float .f32 0, .bool false]), 5, 20) := by kernel_rfl

set_option maxHeartbeats 400000 in
theorem szBeltS_any (bs : List B5) (v : Value) (left : Int) (w : World) (h : Bs w v bs) (h0 : 0 ≤ left) (h1 : left ≤ 1048576) :
    Calls Try.prog 17 #[v, .int .i64 left] w fun e w' => e = .returned (.int .i64 (if left < (bs.length : Int) then -1 else left - bs.length)) ∧ w = w' := by
  obtain ⟨a, cap, rfl, hn, hk, hc⟩ := h
  have hn' : bs.length ≤ 9223372036854775807 := by simpa [maxLen] using hn
  go_enter Try.func17, Try.ntmps17
  go_wp2
  all_goals (go_ret; exact ⟨rfl, rfl⟩)

set_option maxHeartbeats 2000000 in
theorem toBelts_any (bs : List B5) (v : Value) (w : World) (h : Bs w v bs) (hlen : bs.length ≤ 1048576) :
    Calls Try.prog 19 #[v] w fun e w' => ∃ g, w.heap.size ≤ g ∧ e = .returned (.slice (some ⟨g, 0, none⟩) bs.length bs.length) ∧ w'.ownsRow w.heap.size 31 5 (.slice (some ⟨g, 0, none⟩) bs.length bs.length) bs.length (cellsB bs) ∧ Below w.heap.size w w' := by
  obtain ⟨a, cap, rfl, hn, hk, hc⟩ := h
  obtain ⟨i, hi, hz0, hz1, hz2⟩ := info_parts info_belt
  go_enter Try.func19, Try.ntmps19
  go_wp2_with (at_make; refine wpList_make_full _ rfl _ _ 38 rfl w.heap.size 31 i _ 5 Try.underlying38 hi hz0 hz1 .i64 .i64 _ _ bs.length rfl rfl rfl rfl (by rw [hz2]; omega) (by unfold maxLen; omega) (Nat.le_refl _) ?_; intro w1 hown hgr)
  rw [madeB] at hown
  have hb1 : Below w.heap.size w w1 := below_grown_none (Below.refl _ _) hgr (Nat.le_refl _)
  go_loopw [4] (fun k wr => ∃ j : Nat, j ≤ bs.length ∧ k = .int .i64 (j : Int) ∧ wr.ownsRow w.heap.size 31 5 (.slice (some ⟨w.heap.size, 0, none⟩) bs.length bs.length) bs.length (cellsB (bs.take j ++ List.replicate (bs.length - j) (0, 0, 0, 0, false))) ∧ Below w.heap.size w wr)
    (fun k _ => (bs.length - intOf k).toNat)
  case atStart => exact ⟨0, by omega, rfl, by simpa using hown, hb1⟩
  case round =>
    obtain ⟨j, hj, rfl, ho, hb⟩ := hrel
    by_cases hlt : j < bs.length
    · obtain ⟨b, off, rfl, hbl, hat⟩ := hc (by omega)
      have hp : bs[j]? = some bs[j] := List.getElem?_eq_getElem hlt
      obtain ⟨d0, d1, d2, d3, d4⟩ := (hat j _ hp).belowB hbl hb
      have hz : (bs.take j ++ List.replicate (bs.length - j) ((0, 0, 0, 0, false) : B5))[j]? = some (0, 0, 0, 0, false) := by
        rw [List.getElem?_append_right (by simp; omega)]
        simp [List.getElem?_replicate]
        omega
      have H2 := Lib.hid ho
      clear ho hown hc hat
      go_wp2_with (go_at_call 15; refine (toBelt_any _ _ _ _ _ _).mono ?_; (rintro e w2 ⟨rfl, hb2⟩; have ho2 := own_after H2.out hb2; have e0 := own_cell ho2 (cellsB_get _ j (0, 0, 0, 0, false) hz).1; have e1 := own_cell ho2 (cellsB_get _ j (0, 0, 0, 0, false) hz).2.1; have e2 := own_cell ho2 (cellsB_get _ j (0, 0, 0, 0, false) hz).2.2.1; have e3 := own_cell ho2 (cellsB_get _ j (0, 0, 0, 0, false) hz).2.2.2.1; have e4 := own_cell ho2 (cellsB_get _ j (0, 0, 0, 0, false) hz).2.2.2.2; have hf2 := own_free ho2; have H3 := Lib.hid ho2; clear ho2))
      go_roundw
      case rel =>
        have hst := (((((((((H3.out.stored (j * 5) (.float .f32 bs[j].1)).1).stored (j * 5 + 1) (.float .f32 bs[j].2.1)).1).stored (j * 5 + 2) (.float .f32 bs[j].2.2.1)).1).stored (j * 5 + 3) (.float .f32 bs[j].2.2.2.1)).1).stored (j * 5 + 4) (.bool bs[j].2.2.2.2)).1
        refine ⟨j + 1, by omega, by go_num, ?_, ?_⟩
        · rw [take_rep_setG bs j hlt, cellsB_set _ _ _ (by simp; omega)]
          exact hst
        · exact ((((((below_then hb hb2).setCell (Nat.le_refl _) _).setCell (Nat.le_refl _) _).setCell (Nat.le_refl _) _).setCell (Nat.le_refl _) _).setCell (Nat.le_refl _) _)
      case measure => simp [intOf]; omega
    · obtain rfl : j = bs.length := by omega
      have H2 := Lib.hid ho
      clear ho hown
      go_wp2
      go_ret
      exact ⟨_, Nat.le_refl _, rfl, by simpa using H2.out, hb⟩

theorem toBelts_bs (bs : List B5) (v : Value) (w : World) (h : Bs w v bs) (hlen : bs.length ≤ 1048576) :
    Calls Try.prog 19 #[v] w fun e w' => ∃ u, e = .returned u ∧ Bs w' u bs ∧ Below w.heap.size w w' := by
  refine (toBelts_any bs v w h hlen).mono ?_
  rintro e w' ⟨g, hg, rfl, ho, hb⟩
  exact ⟨_, rfl, bs_of_own ho (bs_ok h), hb⟩

/-- Two rows of belts of the same numbers. -/
def SameBs (ps qs : List B5) : Prop := ps.length = qs.length ∧ ∀ (i : Nat) (p q : B5), ps[i]? = some p → qs[i]? = some q → sameBeltB p.1 p.2.1 p.2.2.1 p.2.2.2.1 p.2.2.2.2 q.1 q.2.1 q.2.2.1 q.2.2.2.1 q.2.2.2.2 = true
theorem SameBs.refl (ps : List B5) : SameBs ps ps := ⟨rfl, fun i p q h1 h2 => by
  rw [h1] at h2
  cases h2
  simp [sameBeltB, sameB_refl]⟩

set_option maxHeartbeats 2000000 in
theorem markBelts_from (bs : List B5) (v : Value) (k0 : Int) (w : World) (base : Nat) (ho : w.ownsRow base 31 5 v bs.length (cellsB bs)) (hlen : bs.length ≤ 1048576) (h0 : 0 ≤ k0) (h1 : k0 ≤ 1099511627776) :
    Calls Try.prog 25 #[v, .int .i64 k0] w fun e w' => e = .returned (.int .i64 (k0 + 5 * bs.length)) ∧ (∃ cs, w'.ownsRow base 31 5 v bs.length cs) ∧ Only base v w w' := by
  have hv := own_val ho
  have HO := Lib.hid ho
  obtain ⟨a, cap, rfl⟩ : ∃ a cap, v = .slice a bs.length cap := by
    rcases hv with ⟨rfl, h0⟩ | ⟨g, cap, rfl, _⟩
    · exact ⟨none, 0, by rw [h0]⟩
    · exact ⟨_, cap, rfl⟩
  clear ho
  go_enter Try.func25, Try.ntmps25
  go_wp2
  have hO1 := HO.out
  go_loopw [1, 5] (fun k i wr => ∃ (j : Nat) (cs : List Value), j ≤ bs.length ∧ k = .int .i64 (k0 + 5 * (j : Int)) ∧ i = .int .i64 (j : Int) ∧ wr.ownsRow base 31 5 (.slice a bs.length cap) bs.length cs ∧ Only base (.slice a bs.length cap) w wr)
    (fun _ i _ => (bs.length - intOf i).toNat)
  case atStart => exact ⟨0, _, by omega, by simp, rfl, hO1, Only.refl _ _ _⟩
  case round =>
    obtain ⟨j, cs, hj, rfl, rfl, ho, hon⟩ := hrel
    clear hO1
    by_cases hlt : j < bs.length
    · rcases hv with ⟨_, h0⟩ | ⟨g, cap', hv, hg, hgs, _⟩
      · omega
      · injection hv with hv
        subst hv
        have hcl := own_len ho
        have c0 := own_cell ho (j := j * 5) (List.getElem?_eq_getElem (by omega))
        have c1 := own_cell ho (j := j * 5 + 1) (List.getElem?_eq_getElem (by omega))
        have c2 := own_cell ho (j := j * 5 + 2) (List.getElem?_eq_getElem (by omega))
        have c3 := own_cell ho (j := j * 5 + 3) (List.getElem?_eq_getElem (by omega))
        have c4 := own_cell ho (j := j * 5 + 4) (List.getElem?_eq_getElem (by omega))
        generalize cs[j * 5]'_ = y0 at c0
        generalize cs[j * 5 + 1]'_ = y1 at c1
        generalize cs[j * 5 + 2]'_ = y2 at c2
        generalize cs[j * 5 + 3]'_ = y3 at c3
        generalize cs[j * 5 + 4]'_ = y4 at c4
        have hf := own_free ho
        have H2 := Lib.hid ho
        have HN := Lib.hid hon
        clear ho hon hcl
        go_wp2
        exact ⟨⟨j + 1, _, by omega, by go_num, rfl, (((((((((H2.out.stored (j * 5) _).1).stored (j * 5 + 1) _).1).stored (j * 5 + 2) _).1).stored (j * 5 + 3) _).1).stored (j * 5 + 4) _).1, ((((HN.out.store rfl hg _ _).store rfl hg _ _).store rfl hg _ _).store rfl hg _ _).store rfl hg _ _⟩, by simp [intOf]; omega⟩
    · obtain rfl : j = bs.length := by omega
      have H2 := Lib.hid ho
      clear ho
      go_wp2
      go_ret
      exact ⟨rfl, ⟨_, H2.out⟩, hon⟩

set_option maxHeartbeats 2000000 in
theorem eqBelts_any (ps qs : List B5) (v u : Value) (w : World) (hv : Bs w v ps) (hu : Bs w u qs) (hs : SameBs ps qs) :
    Calls Try.prog 21 #[v, u] w fun e w' => e = .returned (.bool true) ∧ Below w.heap.size w w' := by
  obtain ⟨a, cap, rfl, hn, hk, hc⟩ := hv
  obtain ⟨a', cap', rfl, hn', hk', hc'⟩ := hu
  have hn2 : ps.length ≤ 9223372036854775807 := by simpa [maxLen] using hn
  have hl := hs.1
  rw [← hl]
  have HS := Lib.hid hs
  have HK := Lib.hid hk
  have HK' := Lib.hid hk'
  clear hs hk hk'
  go_enter Try.func21, Try.ntmps21
  go_wp2
  go_loopw [5] (fun k wr => ∃ j : Nat, j ≤ ps.length ∧ k = .int .i64 (j : Int) ∧ Below w.heap.size w wr)
    (fun k _ => (ps.length - intOf k).toNat)
  case atStart => exact ⟨0, by omega, rfl, Below.refl _ _⟩
  case round =>
    obtain ⟨j, hj, rfl, hb⟩ := hrel
    by_cases hlt : j < ps.length
    · obtain ⟨b, off, rfl, hbl, hat⟩ := hc (by omega)
      obtain ⟨b', off', rfl, hbl', hat'⟩ := hc' (by omega)
      have hp : ps[j]? = some ps[j] := List.getElem?_eq_getElem hlt
      have hq : qs[j]? = some (qs[j]'(by omega)) := List.getElem?_eq_getElem (by omega)
      have HS1 := Lib.hid (HS.out.2 j _ _ hp hq)
      obtain ⟨l0, l1, l2, l3⟩ := HK.out _ (List.getElem_mem hlt)
      obtain ⟨l0', l1', l2', l3'⟩ := HK'.out _ (List.getElem_mem (show j < qs.length by omega))
      obtain ⟨d0, d1, d2, d3, d4⟩ := (hat j _ hp).belowB hbl hb
      obtain ⟨d0', d1', d2', d3', d4'⟩ := (hat' j _ hq).belowB hbl' hb
      have lb := Nat.lt_of_lt_of_le hbl hb.size
      have lb' := Nat.lt_of_lt_of_le hbl' hb.size
      have q0 := BelowC.cell d0 lb
      have q1 := BelowC.cell d1 lb
      have q2 := BelowC.cell d2 lb
      have q3 := BelowC.cell d3 lb
      have q4 := BelowC.cell d4 lb
      have q0' := BelowC.cell d0' lb'
      have q1' := BelowC.cell d1' lb'
      have q2' := BelowC.cell d2' lb'
      have q3' := BelowC.cell d3' lb'
      have q4' := BelowC.cell d4' lb'
      have hdn := @BelowC.drewN wr
      clear hc hc' hat hat'
      go_wp2
      refine Loose.wp_region (BelowC wr) (Loose.Tab [(55, fun _ v => v = .bool true)]) (by kernel_rfl) (by kernel_rfl) (BelowC.start wr) ?_
      repeat' (first | (apply Loose.det; (focus rfl); (focus (intro wq hwq; go_simp; first | done | (with_reducible rfl))); (simp only [Act.put, List.setIfInBounds_toArray, List.set_cons_zero, List.set_cons_succ])) | (apply Loose.pass; (focus rfl); (simp only [Act.put, List.setIfInBounds_toArray, List.set_cons_zero, List.set_cons_succ])) | (apply Loose.callT; (focus rfl); (focus (intro wq hwq; go_simp; first | done | (with_reducible exact ⟨rfl, rfl⟩) | (with_reducible rfl))); (focus rfl); (focus (intro w1 h1; refine (eqBelt_any _ _ _ _ _ _ _ _ _ _ l0 l1 l2 l3 l0' l1' l2' l3' _).mono ?_; rintro e w2 ⟨rfl, h2⟩; exact ⟨_, rfl, by rw [HS1.out], h1.call h2⟩)); (rintro v rfl; simp only [Act.put, List.setIfInBounds_toArray, List.set_cons_zero, List.set_cons_succ])))
      refine Loose.done ?_
      intro w9 hb2
      go_wp2
      go_roundw
      case rel => exact ⟨j + 1, by omega, by go_num, hb.trans (hb2.mono hb.size)⟩
      case measure => simp [intOf]; omega
    · obtain rfl : j = ps.length := by omega
      clear hc hc'
      go_wp2
      go_ret
      exact ⟨rfl, hb⟩

end Go.Proofs.Ytljigmplmlhdnaa
