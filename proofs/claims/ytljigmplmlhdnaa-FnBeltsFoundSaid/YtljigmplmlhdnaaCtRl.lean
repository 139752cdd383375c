/- Contracts: whether belts are all valid; the longest belt . -/
import Derived.Test.YtljigmplmlhdnaaCtBs
import Derived.Test.YtljigmplmlhdnaaCtX
namespace Go.Proofs.Ytljigmplmlhdnaa
open Go.RowKit

def okB5 (p : B5) : Bool := beltB p.1 p.2.1 p.2.2.1 p.2.2.2.1
def lenB5 (p : B5) : Nat := lengthC p.1 p.2.1 p.2.2.1 p.2.2.2.2

set_option maxHeartbeats 400000 in
theorem isBad_any (a b c d : Nat) (x : Bool) (w : World) :
    Calls Try.prog 53 #[.agg #[.float .f32 a, .float .f32 b, .float .f32 c, .float .f32 d, .bool x]] w fun e w' => e = .returned (.bool (!beltB a b c d)) ∧ Below w.heap.size w w' := by
  go_enter Try.func53, Try.ntmps53
  go_wp2_with (go_at_call 49; refine (implValidBelt_any _ _ _ _ _ _).mono ?_; rintro e w1 ⟨rfl, hb⟩)
  all_goals (go_ret; exact ⟨rfl, below_then (by (repeat' (first | (with_reducible exact Below.refl _ _) | (with_reducible assumption) | (with_reducible refine Below.alloc ?_ ?_ _) | (with_reducible refine below_drewN ?_ _) | (with_reducible refine Below.drew ?_) | (with_reducible refine Below.setCell ?_ ?_ _) | (with_reducible exact Nat.le_refl _) | omega | (simp only [World.size_alloc, World.size_setCell, World.size_drew, World.heap_drewN]; omega) | (simp; omega)))) hb⟩)

set_option maxHeartbeats 1000000 in
theorem indexBelt_any (bs : List B5) (v : Value) (w : World) (hv : Bs w v bs) :
    Calls Try.prog 85 #[v, .func (Fn.func 53) #[] #[]] w fun e w' => ∃ k, e = .returned (.int .i64 k) ∧ (decide (0 ≤ k)) = !(bs.all okB5) ∧ Below w.heap.size w w' := by
  obtain ⟨a, cap, rfl, hn, hk, hc⟩ := hv
  have hn2 : bs.length ≤ 9223372036854775807 := by simpa [maxLen] using hn
  clear hk
  go_enter Try.func85, Try.ntmps85
  go_wp2
  go_loopw [8] (fun k wr => ∃ j : Nat, j ≤ bs.length ∧ k = .int .i64 (j : Int) ∧ Below w.heap.size w wr ∧ Hid ((bs.take j).all okB5 = true))
    (fun k _ => (bs.length - intOf k).toNat)
  case atStart => exact ⟨0, by omega, rfl, Below.refl _ _, Lib.hid rfl⟩
  case round =>
    obtain ⟨j, hj, rfl, hb, hal⟩ := hrel
    by_cases hlt : j < bs.length
    · obtain ⟨b, off, rfl, hbl, hat⟩ := hc (by omega)
      have hp : bs[j]? = some bs[j] := List.getElem?_eq_getElem hlt
      obtain ⟨d0, d1, d2, d3, d4⟩ := (hat j _ hp).belowB hbl hb
      have e1 : (bs.take (j + 1)).all okB5 = okB5 bs[j] := by
        rw [List.take_add_one, hp, List.all_append, hal.out]
        simp
      have e2 : okB5 bs[j] = false → bs.all okB5 = false := fun h => List.all_eq_false.2 ⟨bs[j], List.getElem_mem hlt, by simp [h]⟩
      have E1 := Lib.hid e1
      have E2 := Lib.hid e2
      clear hc hat e1 e2
      cases hB : okB5 bs[j]
      · have hB2 : beltB bs[j].1 bs[j].2.1 bs[j].2.2.1 bs[j].2.2.2.1 = false := hB
        go_wp2_with (go_at_call 53; refine (isBad_any _ _ _ _ _ _).mono ?_; (rintro e w2 ⟨rfl, hb2⟩; rw [hB2]))
        go_ret
        exact ⟨_, rfl, by simp [E2.out hB], below_then hb hb2⟩
      · have hB2 : beltB bs[j].1 bs[j].2.1 bs[j].2.2.1 bs[j].2.2.2.1 = true := hB
        go_wp2_with (go_at_call 53; refine (isBad_any _ _ _ _ _ _).mono ?_; (rintro e w2 ⟨rfl, hb2⟩; rw [hB2]))
        exact ⟨⟨j + 1, by omega, rfl, below_then hb hb2, Lib.hid (by rw [E1.out, hB])⟩, by simp [intOf]; omega⟩
    · obtain rfl : j = bs.length := by omega
      clear hc
      go_wp2
      go_ret
      exact ⟨_, rfl, by simp [← hal.out], hb⟩

set_option maxHeartbeats 400000 in
theorem anyBad_any (bs : List B5) (v : Value) (w : World) (hv : Bs w v bs) :
    Calls Try.prog 52 #[v, .func (Fn.func 53) #[] #[]] w fun e w' => e = .returned (.bool (!(bs.all okB5))) ∧ Below w.heap.size w w' := by
  go_enter Try.func52, Try.ntmps52
  go_wp2_with (go_at_call 85; refine (indexBelt_any bs _ _ hv).mono ?_; (rintro e w2 ⟨k, rfl, hk, hb2⟩))
  all_goals (go_ret; exact ⟨by simp_all, hb2⟩)

theorem cn_lengthC (a b c : Nat) (x : Bool) : cn (lengthC a b c x) = lengthC a b c x := by simp [lengthC]
theorem flt_self (x : Nat) : flt .f32 x x = false := by
  unfold flt
  cases h : isNan x
  · rw [isNan_iff] at h
    rw [order_self h]
    rfl
  · rw [order_nan_l h]
    rfl
/-- The longest among the first ones: its place and length. -/
def longB (bs : List B5) : Nat → Nat × Nat
  | 0 => (0, lenB5 (bs.getD 0 (0, 0, 0, 0, false)))
  | j + 1 => if flt .f32 (longB bs j).2 (lenB5 (bs.getD j (0, 0, 0, 0, false))) then (j, lenB5 (bs.getD j (0, 0, 0, 0, false))) else longB bs j
theorem longB_one (bs : List B5) : longB bs 1 = longB bs 0 := by
  show (if flt .f32 (lenB5 _) (lenB5 _) then _ else _) = _
  rw [flt_self]
  rfl

/-- Whether all belts are valid; the code; the place and length of the longest. -/
def longK (bs : List B5) : Int := if bs.all okB5 then (if bs.length = 0 then 6 else 0) else 1
def longAt (bs : List B5) : Int := if longK bs = 0 then ((longB bs bs.length).1 : Int) else 0
def longV (bs : List B5) : Nat := if longK bs = 0 then (longB bs bs.length).2 else 0
theorem longB_succ {bs : List B5} {j : Nat} {p : B5} (h : bs[j]? = some p) : longB bs (j + 1) = if flt .f32 (longB bs j).2 (lenB5 p) then (j, lenB5 p) else longB bs j := by
  have e : bs.getD j (0, 0, 0, 0, false) = p := by simp [List.getD_eq_getElem?_getD, h]
  show (if flt .f32 (longB bs j).2 (lenB5 (bs.getD j (0, 0, 0, 0, false))) then (j, lenB5 (bs.getD j (0, 0, 0, 0, false))) else longB bs j) = _
  rw [e]
theorem longB_zero {bs : List B5} {p : B5} (h : bs[0]? = some p) : longB bs 0 = (0, lenB5 p) := by
  have e : bs.getD 0 (0, 0, 0, 0, false) = p := by simp [List.getD_eq_getElem?_getD, h]
  show (0, lenB5 (bs.getD 0 (0, 0, 0, 0, false))) = _
  rw [e]
theorem all_take {bs : List B5} {j : Nat} {p : B5} (h : bs[j]? = some p) (k : (bs.take j).all okB5 = true) : (bs.take (j + 1)).all okB5 = okB5 p := by
  rw [List.take_add_one, h, List.all_append, k]
  simp
theorem all_false {bs : List B5} {j : Nat} {p : B5} (h : bs[j]? = some p) (k : okB5 p = false) : bs.all okB5 = false := List.all_eq_false.2 ⟨p, List.mem_of_getElem? h, by simp [k]⟩

set_option maxHeartbeats 1000000 in
theorem specLongest_any (bs : List B5) (v : Value) (w : World) (hv : Bs w v bs) :
    Calls Try.prog 18 #[v] w fun e w' => ∃ r, e = .returned (.tuple #[.int .i64 (longAt bs), .float .f32 r, .int .i64 (longK bs)]) ∧ cn r = cn (longV bs) ∧ r < 2 ^ 32 ∧ Below w.heap.size w w' := by
  obtain ⟨a, cap, rfl, hn, hk, hc⟩ := hv
  have hn2 : bs.length ≤ 9223372036854775807 := by simpa [maxLen] using hn
  clear hk
  go_enter Try.func18, Try.ntmps18
  go_wp2
  go_loopw [5] (fun k wr => ∃ j : Nat, j ≤ bs.length ∧ k = .int .i64 (j : Int) ∧ Below w.heap.size w wr ∧ Hid ((bs.take j).all okB5 = true))
    (fun k _ => (bs.length - intOf k).toNat)
  case atStart => exact ⟨0, by omega, rfl, Below.refl _ _, Lib.hid rfl⟩
  case round =>
    obtain ⟨j, hj, rfl, hb, hal⟩ := hrel
    by_cases hlt : j < bs.length
    · obtain ⟨b, off, rfl, hbl, hat⟩ := hc (by omega)
      have hp : bs[j]? = some bs[j] := List.getElem?_eq_getElem hlt
      have HD := Lib.hid ((hat j _ hp).belowB hbl hb)
      have E1 := Lib.hid (all_take hp hal.out)
      have E2 : okB5 bs[j] = false → longK bs = 1 := fun h => by simp [longK, all_false hp h]
      have E2 := Lib.hid E2
      clear hc hat
      cases hB : okB5 bs[j]
      · have hB2 : beltB bs[j].1 bs[j].2.1 bs[j].2.2.1 bs[j].2.2.2.1 = false := hB
        go_wp2_with (go_at_call 47; refine (l02Ok_any b (off + j * 5) _ _ _ _ _ _ HD.out).mono ?_; (rintro e w2 ⟨rfl, n, rfl⟩; rw [hB2]))
        go_ret3
        have hK := E2.out hB
        exact ⟨0, by simp [hK, longAt], by simp [hK, longV], by omega, below_drewN hb _⟩
      · have hB2 : beltB bs[j].1 bs[j].2.1 bs[j].2.2.1 bs[j].2.2.2.1 = true := hB
        go_wp2_with (go_at_call 47; refine (l02Ok_any b (off + j * 5) _ _ _ _ _ _ HD.out).mono ?_; (rintro e w2 ⟨rfl, n, rfl⟩; rw [hB2]))
        exact ⟨⟨j + 1, by omega, rfl, below_drewN hb _, Lib.hid (by rw [E1.out, hB])⟩, by simp [intOf]; omega⟩
    · obtain rfl : j = bs.length := by omega
      have hall : bs.all okB5 = true := by simpa using hal.out
      by_cases h0 : bs.length = 0
      · have hK : longK bs = 6 := by simp [longK, hall, h0]
        have HK := Lib.hid hK
        have h00 : (bs.length : Int) = 0 := by omega
        clear hc hK
        go_wp2
        go_ret3
        exact ⟨0, by simp [HK.out, longAt], by simp [HK.out, longV], by omega, hb⟩
      · have hK : longK bs = 0 := by simp [longK, hall, h0]
        have HK := Lib.hid hK
        have h0n : 0 < bs.length := Nat.pos_of_ne_zero h0
        obtain ⟨b, off, rfl, hbl, hat⟩ := hc h0n
        obtain ⟨p0, hp⟩ : ∃ p, bs[0]? = some p := ⟨_, List.getElem?_eq_getElem h0n⟩
        have HD := Lib.hid (by simpa using (hat 0 _ hp).belowB hbl hb : BeltAt wr b off p0.1 p0.2.1 p0.2.2.1 p0.2.2.2.1 p0.2.2.2.2)
        have HA := Lib.hid hat
        have h01 : (0 : Int) < bs.length := by omega
        have Z0 := Lib.hid (longB_zero hp)
        have Z1 := Lib.hid (longB_one bs)
        clear hc hat hK hal
        go_wp2_with (go_at_call 51; refine (l02Length_any b off _ _ _ _ _ _ HD.out).mono ?_; (rintro e w2 ⟨r0, n0, rfl, hr0, hl0, rfl⟩; have HR0 := Lib.hid hr0; clear hr0))
        go_loopw [6, 7, 8] (fun x m k wr' => ∃ (j q r : Nat), 1 ≤ j ∧ j ≤ bs.length ∧ k = .int .i64 (j : Int) ∧ x = .int .i64 (q : Int) ∧ m = .float .f32 r ∧ Hid (q = (longB bs j).1 ∧ cn r = cn (longB bs j).2) ∧ r < 2 ^ 32 ∧ Below w.heap.size w wr')
          (fun _ _ k _ => (bs.length - intOf k).toNat)
        case atStart => exact ⟨1, 0, r0, by omega, by omega, rfl, rfl, rfl, Lib.hid ⟨by rw [Z1.out, Z0.out], by rw [Z1.out, Z0.out, HR0.out]; exact (cn_lengthC _ _ _ _).symm⟩, hl0, below_drewN hb _⟩
        case round =>
          rename_i wr2
          obtain ⟨j, q, r, hj1, hj, rfl, rfl, rfl, hS, hrl, hb'⟩ := hrel
          by_cases hlt2 : j < bs.length
          · have hp2 : bs[j]? = some bs[j] := List.getElem?_eq_getElem hlt2
            have HD2 := Lib.hid ((HA.out j _ hp2).belowB hbl hb')
            have HF : ∀ r1, cn r1 = lenB5 bs[j] → flt .f32 r r1 = flt .f32 (longB bs j).2 (lenB5 bs[j]) := fun r1 h => by rw [← flt_cn_l, ← flt_cn_r, hS.out.2, h, flt_cn_l]
            have HF := Lib.hid HF
            cases hf : flt .f32 (longB bs j).2 (lenB5 bs[j])
            · have E1 := Lib.hid (show longB bs (j + 1) = longB bs j by rw [longB_succ hp2, hf]; rfl)
              go_wp2_with (go_at_call 51; refine (l02Length_any b (off + j * 5) _ _ _ _ _ _ HD2.out).mono ?_; (rintro e w2 ⟨r1, n1, rfl, hr1, hl1, rfl⟩; have hF := (HF.out r1 hr1).trans hf; clear hr1))
              exact ⟨⟨j + 1, q, r, by omega, by omega, rfl, rfl, rfl, Lib.hid (by rw [E1.out]; exact hS.out), hrl, below_drewN hb' _⟩, by simp [intOf]; omega⟩
            · have E1 := Lib.hid (show longB bs (j + 1) = (j, lenB5 bs[j]) by rw [longB_succ hp2, hf]; rfl)
              go_wp2_with (go_at_call 51; refine (l02Length_any b (off + j * 5) _ _ _ _ _ _ HD2.out).mono ?_; (rintro e w2 ⟨r1, n1, rfl, hr1, hl1, rfl⟩; have hF := (HF.out r1 hr1).trans hf; have HR1 := Lib.hid hr1; clear hr1))
              exact ⟨⟨j + 1, j, r1, by omega, by omega, rfl, rfl, rfl, Lib.hid (by rw [E1.out]; exact ⟨rfl, by rw [HR1.out]; exact (cn_lengthC _ _ _ _).symm⟩), hl1, below_drewN hb' _⟩, by simp [intOf]; omega⟩
          · obtain rfl : j = bs.length := by omega
            go_wp2
            go_ret3
            exact ⟨r, by rw [longAt, if_pos HK.out, ← hS.out.1, HK.out]; rfl, by rw [longV, if_pos HK.out]; exact hS.out.2, hrl, hb'⟩

set_option maxRecDepth 20000 in
set_option maxHeartbeats 1000000 in
theorem implLongest_any (bs : List B5) (v : Value) (w : World) (hv : Bs w v bs) :
    Calls Try.prog 20 #[v] w fun e w' => ∃ r, e = .returned (.tuple #[.int .i64 (longAt bs), .float .f32 r, .int .i64 (longK bs)]) ∧ cn r = cn (longV bs) ∧ r < 2 ^ 32 ∧ Below w.heap.size w w' := by
  obtain ⟨a, cap, rfl, hn, hk, hc⟩ := hv
  have hn2 : bs.length ≤ 9223372036854775807 := by simpa [maxLen] using hn
  have HV : Hid (Bs w (.slice a bs.length cap) bs) := Lib.hid ⟨a, cap, rfl, hn, hk, hc⟩
  clear hk
  go_enter Try.func20, Try.ntmps20
  cases hall : bs.all okB5
  · have hK : longK bs = 1 := by simp [longK, hall]
    have HK := Lib.hid hK
    clear hc hK
    go_wp2_with (go_at_call 52; refine (anyBad_any bs _ _ HV.out).mono ?_; (rintro e w2 ⟨rfl, hb⟩; rw [hall]))
    go_ret3
    exact ⟨0, by simp [HK.out, longAt], by simp [HK.out, longV], by omega, hb⟩
  · by_cases h0 : bs.length = 0
    · have hK : longK bs = 6 := by simp [longK, hall, h0]
      have HK := Lib.hid hK
      have h02 : ((bs.length : Int) == 0) = true := by simpa using h0
      clear hc hK h0
      go_wp2_with (go_at_call 52; refine (anyBad_any bs _ _ HV.out).mono ?_; (rintro e w2 ⟨rfl, hb⟩; rw [hall]))
      go_ret3
      exact ⟨0, by simp [HK.out, longAt], by simp [HK.out, longV], by omega, hb⟩
    · have hK : longK bs = 0 := by simp [longK, hall, h0]
      have HK := Lib.hid hK
      have h0n : 0 < bs.length := Nat.pos_of_ne_zero h0
      obtain ⟨b, off, rfl, hbl, hat⟩ := hc h0n
      obtain ⟨p0, hp⟩ : ∃ p, bs[0]? = some p := ⟨_, List.getElem?_eq_getElem h0n⟩
      have HD : Hid (∀ w', Below w.heap.size w w' → BeltAt w' b off p0.1 p0.2.1 p0.2.2.1 p0.2.2.2.1 p0.2.2.2.2) := Lib.hid (fun w' hb => by simpa using (hat 0 _ hp).belowB hbl hb)
      have HA := Lib.hid hat
      have h01 : (0 : Int) < bs.length := by omega
      have h02 : ((bs.length : Int) == 0) = false := by simpa using h0
      have Z0 := Lib.hid (longB_zero hp)
      clear hc hat hK
      go_wp2_with (first | (go_at_call 52; refine (anyBad_any bs _ _ HV.out).mono ?_; (rintro e w2 ⟨rfl, hb⟩; rw [hall])) | (go_at_call 54; refine (length_any b off _ _ _ _ _ _ (HD.out _ hb)).mono ?_; (rintro e w2 ⟨r0, n0, rfl, hr0, hl0, rfl⟩; have HR0 := Lib.hid hr0; clear hr0)))
      go_loopw [5, 6, 22] (fun x m k wr => ∃ (j q r : Nat), j ≤ bs.length ∧ k = .int .i64 (j : Int) ∧ x = .int .i64 (q : Int) ∧ m = .float .f32 r ∧ Hid (q = (longB bs j).1 ∧ cn r = cn (longB bs j).2) ∧ r < 2 ^ 32 ∧ Below w.heap.size w wr)
        (fun _ _ k _ => (bs.length - intOf k).toNat)
      case atStart => exact ⟨0, 0, r0, by omega, rfl, rfl, rfl, Lib.hid ⟨by rw [Z0.out], by rw [Z0.out, HR0.out]; exact (cn_lengthC _ _ _ _).symm⟩, hl0, below_drewN hb _⟩
      case round =>
        obtain ⟨j, q, r, hj, rfl, rfl, rfl, hS, hrl, hb'⟩ := hrel
        by_cases hlt2 : j < bs.length
        · have hp2 : bs[j]? = some bs[j] := List.getElem?_eq_getElem hlt2
          obtain ⟨d0, d1, d2, d3, d4⟩ := (HA.out j _ hp2).belowB hbl hb'
          have hsz := hb'.size
          have HF : ∀ r1, cn r1 = lenB5 bs[j] → flt .f32 r r1 = flt .f32 (longB bs j).2 (lenB5 bs[j]) := fun r1 h => by rw [← flt_cn_l, ← flt_cn_r, hS.out.2, h, flt_cn_l]
          have HF := Lib.hid HF
          cases hf : flt .f32 (longB bs j).2 (lenB5 bs[j])
          · have E1 := Lib.hid (show longB bs (j + 1) = longB bs j by rw [longB_succ hp2, hf]; rfl)
            go_wp2_with (go_at_call 54; refine (length_any wr.heap.size 0 bs[j].1 bs[j].2.1 bs[j].2.2.1 bs[j].2.2.2.1 bs[j].2.2.2.2 _ (beltAt_box wr 31 _ _ _ _ _)).mono ?_; (rintro e w2 ⟨r1, n1, rfl, hr1, hl1, rfl⟩; have hF := (HF.out r1 hr1).trans hf; clear hr1))
            exact ⟨⟨j + 1, q, r, by omega, rfl, rfl, rfl, Lib.hid (by rw [E1.out]; exact hS.out), hrl, by (repeat' (first | (with_reducible exact Below.refl _ _) | (with_reducible assumption) | (with_reducible refine Below.alloc ?_ ?_ _) | (with_reducible refine below_drewN ?_ _) | (with_reducible refine Below.drew ?_) | (with_reducible refine Below.setCell ?_ ?_ _) | (with_reducible exact Nat.le_refl _) | omega | (simp only [World.size_alloc, World.size_setCell, World.size_drew, World.heap_drewN]; omega) | (simp; omega)))⟩, by simp [intOf]; omega⟩
          · have E1 := Lib.hid (show longB bs (j + 1) = (j, lenB5 bs[j]) by rw [longB_succ hp2, hf]; rfl)
            go_wp2_with (go_at_call 54; refine (length_any wr.heap.size 0 bs[j].1 bs[j].2.1 bs[j].2.2.1 bs[j].2.2.2.1 bs[j].2.2.2.2 _ (beltAt_box wr 31 _ _ _ _ _)).mono ?_; (rintro e w2 ⟨r1, n1, rfl, hr1, hl1, rfl⟩; have hF := (HF.out r1 hr1).trans hf; have HR1 := Lib.hid hr1; clear hr1))
            exact ⟨⟨j + 1, j, r1, by omega, rfl, rfl, rfl, Lib.hid (by rw [E1.out]; exact ⟨rfl, by rw [HR1.out]; exact (cn_lengthC _ _ _ _).symm⟩), hl1, by (repeat' (first | (with_reducible exact Below.refl _ _) | (with_reducible assumption) | (with_reducible refine Below.alloc ?_ ?_ _) | (with_reducible refine below_drewN ?_ _) | (with_reducible refine Below.drew ?_) | (with_reducible refine Below.setCell ?_ ?_ _) | (with_reducible exact Nat.le_refl _) | omega | (simp only [World.size_alloc, World.size_setCell, World.size_drew, World.heap_drewN]; omega) | (simp; omega)))⟩, by simp [intOf]; omega⟩
        · obtain rfl : j = bs.length := by omega
          go_wp2
          go_ret3
          exact ⟨r, by rw [longAt, if_pos HK.out, ← hS.out.1, HK.out]; rfl, by rw [longV, if_pos HK.out]; exact hS.out.2, hrl, hb'⟩

end Go.Proofs.Ytljigmplmlhdnaa
