/- Contracts: the speeds behind several belts. -/
import Derived.Test.YtljigmplmlhdnaaCtRl
import Derived.Test.YtljigmplmlhdnaaCtRc
import Derived.Test.YtljigmplmlhdnaaLoose3
import Derived.Deep.RegionLaw
import Derived.Deep.AppendLies
namespace Go.Proofs.Ytljigmplmlhdnaa
open Go.RowKit

theorem cellsF_one (xs : List Nat) : ∀ u ∈ cellsF xs, u.oneCell' = true := by
  intro u hu
  unfold cellsF at hu
  obtain ⟨x, _, rfl⟩ := List.mem_map.1 hu
  rfl
def outS (x : Nat) (p : B5) : Nat := outC p.1 p.2.1 p.2.2.2.2 x 0
theorem cn_outC (a b : Nat) (x : Bool) (s q : Nat) : cn (outC a b x s q) = outC a b x s q := by unfold outC; split <;> simp
theorem outC_cn (a b : Nat) (x : Bool) (s s' q : Nat) (h : cn s = cn s') : outC a b x s q = outC a b x s' q := by
  have e : cop .mul s (cop .quo a b) = cop .mul s' (cop .quo a b) := cop_congr h rfl
  unfold outC
  rw [e]
/-- The speeds at the first pulleys. -/
def scanO (x : Nat) (bs : List B5) (n : Nat) : List Nat := (List.range n).map fun i => (bs.take i).foldl outS x
theorem scanO_succ (x : Nat) (bs : List B5) (n : Nat) : scanO x bs (n + 1) = scanO x bs n ++ [(bs.take n).foldl outS x] := by
  simp [scanO, List.range_succ]
theorem scanO_len (x : Nat) (bs : List B5) (n : Nat) : (scanO x bs n).length = n := by simp [scanO]
theorem scanO_get (x : Nat) (bs : List B5) (n i : Nat) (h : i < n) : (scanO x bs n)[i]? = some ((bs.take i).foldl outS x) := by simp [scanO, h]
theorem foldO_step (x : Nat) (bs : List B5) (j : Nat) (p : B5) (h : bs[j]? = some p) : (bs.take (j + 1)).foldl outS x = outS ((bs.take j).foldl outS x) p := by
  rw [List.take_add_one, h, List.foldl_append]
  rfl
theorem cn_foldO (x : Nat) (bs : List B5) : cn (bs.foldl outS (cn x)) = bs.foldl outS (cn x) := by
  rcases List.eq_nil_or_concat bs with rfl | ⟨qs, q, rfl⟩
  · simp
  · simp [outS, cn_outC]
theorem scanO_first (q : Nat) (bs : List B5) : SameF [q] (scanO (cn q) bs 1) := by
  have : scanO (cn q) bs 1 = [] ++ [cn q] := by
    rw [scanO_succ]
    simp [scanO]
  rw [this]
  exact SameF.snoc (SameF.refl []) (by simp)
def throughK (bs : List B5) (q : Nat) : Int := if bs.all okB5 then (if plainB q then (if (12 : Int) < bs.length then 3 else 0) else 2) else 1
def throughR (bs : List B5) (q : Nat) : List Nat := if throughK bs q = 0 then scanO (cn q) bs (bs.length + 1) else []
theorem throughR_len (bs : List B5) (q : Nat) : (throughR bs q).length ≤ 1048576 := by
  unfold throughR
  split
  · rename_i h
    have : bs.length ≤ 12 := by
      unfold throughK at h
      split at h
      · split at h
        · split at h
          · simp at h
          · omega
        · simp at h
      · simp at h
    rw [scanO_len]
    omega
  · simp
theorem through_no {bs : List B5} {q : Nat} {K : Int} (h : throughK bs q = K) (h0 : K ≠ 0) : throughR bs q = [] := by rw [throughR, if_neg (by rw [h]; exact h0)]

set_option maxRecDepth 20000 in
set_option maxHeartbeats 4000000 in
theorem implThrough_any (bs : List B5) (v : Value) (q : Nat) (hq : q < 2 ^ 32) (w : World) (hv : Bs w v bs) :
    Calls Try.prog 23 #[v, .float .f32 q] w (GivesF w (throughK bs q) (throughR bs q)) := by
  obtain ⟨a, cap, rfl, hn, hk, hc⟩ := hv
  have hn2 : bs.length ≤ 9223372036854775807 := by simpa [maxLen] using hn
  have HV : Hid (Bs w (.slice a bs.length cap) bs) := Lib.hid ⟨a, cap, rfl, hn, hk, hc⟩
  obtain ⟨i0, hi, hz0, hz1, hz2⟩ := info_parts info_f32
  clear hk
  go_enter Try.func23, Try.ntmps23
  cases hall : bs.all okB5
  · have hK : throughK bs q = 1 := by simp [throughK, hall]
    rw [hK, through_no hK (by decide)]
    clear hc hK
    go_wp2_with (go_at_call 52; refine (anyBad_any bs _ _ HV.out).mono ?_; (rintro e w2 ⟨rfl, hb⟩; rw [hall]))
    go_ret2
    exact ⟨_, [], rfl, ⟨rfl, .inl ⟨rfl, rfl⟩⟩, SameF.refl _, by simp, hb⟩
  · cases hp : plainB q
    · have hK : throughK bs q = 2 := by simp [throughK, hall, hp]
      rw [hK, through_no hK (by decide)]
      clear hc hK
      go_wp2_with (first | (go_at_call 52; refine (anyBad_any bs _ _ HV.out).mono ?_; (rintro e w2 ⟨rfl, hb⟩; rw [hall])) | (go_at_call 58; refine (impl_IsPlain_any _ _).mono ?_; rintro e w' ⟨rfl, rfl⟩))
      go_ret2
      exact ⟨_, [], rfl, ⟨rfl, .inl ⟨rfl, rfl⟩⟩, SameF.refl _, by simp, hb⟩
    · by_cases h12 : (12 : Int) < bs.length
      · have hK : throughK bs q = 3 := by simp [throughK, hall, hp, h12]
        rw [hK, through_no hK (by decide)]
        clear hc hK
        go_wp2_with (first | (go_at_call 52; refine (anyBad_any bs _ _ HV.out).mono ?_; (rintro e w2 ⟨rfl, hb⟩; rw [hall])) | (go_at_call 58; refine (impl_IsPlain_any _ _).mono ?_; rintro e w' ⟨rfl, rfl⟩))
        go_ret2
        exact ⟨_, [], rfl, ⟨rfl, .inl ⟨rfl, rfl⟩⟩, SameF.refl _, by simp, hb⟩
      · have hK : throughK bs q = 0 := by simp [throughK, hall, hp, h12]
        have hR : throughR bs q = scanO (cn q) bs (bs.length + 1) := if_pos hK
        rw [hK, hR]
        have h13 : (bs.length : Int) ≤ 12 := by omega
        have HC := Lib.hid hc
        clear hc hK hR h12
        go_wp2_with (first | (go_at_call 52; refine (anyBad_any bs _ _ HV.out).mono ?_; (rintro e w2 ⟨rfl, hb⟩; rw [hall])) | (go_at_call 58; refine (impl_IsPlain_any _ _).mono ?_; rintro e w' ⟨rfl, rfl⟩))
        have hs2 := hb.size
        go_loopw [1, 6, 24] (fun s u k wr => ∃ (j cur : Nat) (xs : List Nat), j ≤ bs.length ∧ k = .int .i64 (j : Int) ∧ s = .float .f32 cur ∧ xs.length = j + 1 ∧ wr.ownsRow w.heap.size 22 1 u (j + 1) (cellsF xs) ∧ Hid (SameF xs (scanO (cn q) bs (j + 1)) ∧ ∀ x ∈ xs, x < 2 ^ 32) ∧ Hid (cn cur = (bs.take j).foldl outS (cn q)) ∧ cur < 2 ^ 32 ∧ Below w.heap.size w wr)
          (fun _ _ k _ => (bs.length - intOf k).toNat)
        case atStart =>
          refine ⟨0, q, [q], by omega, rfl, rfl, rfl, ?_, Lib.hid ⟨scanO_first _ _, by simpa using hq⟩, Lib.hid rfl, hq, by (repeat' (first | (with_reducible exact Below.refl _ _) | (with_reducible assumption) | (with_reducible refine Below.alloc ?_ ?_ _) | (with_reducible refine below_drewN ?_ _) | (with_reducible refine Below.drew ?_) | (with_reducible refine Below.setCell ?_ ?_ _) | (with_reducible exact Nat.le_refl _) | omega | (simp only [World.size_alloc, World.size_setCell, World.size_drew, World.heap_drewN]; omega) | (simp; omega)))⟩
          exact own_base (own_lit w2 w2.heap.size 22 (size := 1) 1 #[.float .f32 q] (Nat.le_refl _) (by decide) rfl) hs2
        case round =>
          obtain ⟨j, cur, xs, hj, rfl, rfl, hxl, ho, hS, hcur, hcl, hb1⟩ := hrel
          by_cases hlt : j < bs.length
          · obtain ⟨b, off, rfl, hbl, hat⟩ := HC.out (by omega)
            have hp2 : bs[j]? = some bs[j] := List.getElem?_eq_getElem hlt
            obtain ⟨d0, d1, d2, d3, d4⟩ := (hat j _ hp2).belowB hbl hb1
            have hsz := hb1.size
            have HO := Lib.hid ho
            have HX := Lib.hid hxl
            have HE := Lib.hid (scanO_succ (cn q) bs (j + 1))
            have HF := Lib.hid (foldO_step (cn q) bs j _ hp2)
            have HOut := Lib.hid (outC_cn bs[j].1 bs[j].2.1 bs[j].2.2.2.2 cur ((bs.take j).foldl outS (cn q)) 0 (by rw [hcur.out]; exact (cn_foldO q _).symm))
            clear hat ho hxl
            go_wp2_with fail
            refine (out_any wr.heap.size 0 bs[j].1 bs[j].2.1 bs[j].2.2.1 bs[j].2.2.2.1 bs[j].2.2.2.2 cur 0 _ (beltAt_box wr 31 _ _ _ _ _)).mono ?_
            rintro e w3 ⟨r, n, rfl, hr, hrl, hn3⟩
            have hb3 := below_of_drewN hn3
            have HR := Lib.hid hr
            have hbA : Below wr.heap.size wr w3 := below_then ((Below.refl _ _).alloc (Nat.le_refl _) _) hb3
            have ho2 := own_after HO.out hbA
            have hb9 := hb1.trans (hbA.mono hsz)
            have hs9 := hb9.size
            clear hr hn3 hb3
            go_wp2_with (at_builtin; refine wpList_append_lies _ rfl _ _ _ rfl w.heap.size 22 i0 _ 1 4 Try.underlying42 hi hz0 hz1 hz2 rfl (by decide) _ _ _ rfl (ho2.alloc _) ⟨w3.heap.size, 0, none⟩ 1 1 _ rfl (by rfl) (World.news_of_block (heap_alloc_new w3 _)) (by intro u hu; simp at hu; subst hu; rfl) (by decide) (by unfold maxLen; omega) (by omega) (by simp; omega) _ rfl ?_; intro g cap' w10 hown1 hgrow hat hlt1)
            have hb10 : Below w.heap.size w w10 := (hb9.alloc hs9 _).grown hgrow (by simp; omega) (fun g hg => (HO.out.lt g hg).1)
            have HO1 := Lib.hid hown1
            clear hown1 hgrow hat hlt1
            have hv : cn r = outS ((bs.take j).foldl outS (cn q)) bs[j] := by rw [HR.out, HOut.out]; rfl
            refine ⟨⟨j + 1, r, xs ++ [r], by omega, rfl, rfl, by simp [HX.out], by rw [cellsF_app]; exact HO1.out, Lib.hid ⟨?_, lt_snoc hS.out.2 hrl⟩, Lib.hid (by rw [HF.out]; exact hv), hrl, hb10⟩, by simp [intOf]; omega⟩
            rw [HE.out]
            refine hS.out.1.snoc ?_
            rw [HF.out, hv]
            exact (cn_outC _ _ _ _ _).symm
          · obtain rfl : j = bs.length := by omega
            go_wp2
            go_ret2
            exact ⟨_, xs, rfl, by rw [hxl]; exact ho, hS.out.1, hS.out.2, hb1⟩

set_option maxRecDepth 20000 in
set_option maxHeartbeats 4000000 in
theorem specThrough_any (bs : List B5) (v : Value) (q : Nat) (hq : q < 2 ^ 32) (w : World) (hv : Bs w v bs) :
    Calls Try.prog 22 #[v, .float .f32 q] w (GivesF w (throughK bs q) (throughR bs q)) := by
  obtain ⟨a, cap, rfl, hn, hk, hc⟩ := hv
  have hn2 : bs.length ≤ 9223372036854775807 := by simpa [maxLen] using hn
  obtain ⟨i0, hi, hz0, hz1, hz2⟩ := info_parts info_f32
  clear hk
  have HC := Lib.hid hc
  clear hc
  go_enter Try.func22, Try.ntmps22
  go_wp2
  go_loopw [6] (fun k wr => ∃ j : Nat, j ≤ bs.length ∧ k = .int .i64 (j : Int) ∧ Below w.heap.size w wr ∧ Hid ((bs.take j).all okB5 = true))
    (fun k _ => (bs.length - intOf k).toNat)
  case atStart => exact ⟨0, by omega, rfl, Below.refl _ _, Lib.hid rfl⟩
  case round =>
    obtain ⟨j, hj, rfl, hb, hal⟩ := hrel
    by_cases hlt : j < bs.length
    · obtain ⟨b, off, rfl, hbl, hat⟩ := HC.out (by omega)
      have hp : bs[j]? = some bs[j] := List.getElem?_eq_getElem hlt
      have HD := Lib.hid ((hat j _ hp).belowB hbl hb)
      have E1 := Lib.hid (all_take hp hal.out)
      have E2 : okB5 bs[j] = false → throughK bs q = 1 := fun h => by simp [throughK, all_false hp h]
      have E2 := Lib.hid E2
      clear hat
      cases hB : okB5 bs[j]
      · have hB2 : beltB bs[j].1 bs[j].2.1 bs[j].2.2.1 bs[j].2.2.2.1 = false := hB
        have hK := E2.out hB
        have HK := Lib.hid hK
        have HR := Lib.hid (through_no hK (by decide))
        clear hK
        go_wp2_with (go_at_call 47; refine (l02Ok_any b (off + j * 5) _ _ _ _ _ _ HD.out).mono ?_; (rintro e w2 ⟨rfl, n, rfl⟩; rw [hB2]))
        go_ret2
        exact ⟨_, [], by rw [HK.out]; rfl, own_base (own_drewN (own_lit wr wr.heap.size 22 (size := 1) 0 #[] (Nat.le_refl _) (by decide) rfl) n) hb.size, by rw [HR.out]; exact SameF.refl _, by simp, below_drewN (hb.alloc hb.size _) _⟩
      · have hB2 : beltB bs[j].1 bs[j].2.1 bs[j].2.2.1 bs[j].2.2.2.1 = true := hB
        go_wp2_with (go_at_call 47; refine (l02Ok_any b (off + j * 5) _ _ _ _ _ _ HD.out).mono ?_; (rintro e w2 ⟨rfl, n, rfl⟩; rw [hB2]))
        exact ⟨⟨j + 1, by omega, rfl, below_drewN hb _, Lib.hid (by rw [E1.out, hB])⟩, by simp [intOf]; omega⟩
    · obtain rfl : j = bs.length := by omega
      have hall : bs.all okB5 = true := by simpa using hal.out
      have hsz := hb.size
      cases hp : plainB q
      · have hK : throughK bs q = 2 := by simp [throughK, hall, hp]
        have HK := Lib.hid hK
        have HR := Lib.hid (through_no hK (by decide))
        clear hK hall
        go_wp2_with (go_at_call 56; refine (l01Plain_any _ _).mono ?_; rintro e w' ⟨rfl, rfl⟩)
        go_ret2
        exact ⟨_, [], by rw [HK.out]; rfl, own_base (own_lit wr wr.heap.size 22 (size := 1) 0 #[] (Nat.le_refl _) (by decide) rfl) hsz, by rw [HR.out]; exact SameF.refl _, by simp, hb.alloc hsz _⟩
      · by_cases h12 : (12 : Int) < bs.length
        · have hK : throughK bs q = 3 := by simp [throughK, hall, hp, h12]
          have HK := Lib.hid hK
          have HR := Lib.hid (through_no hK (by decide))
          clear hK hall
          go_wp2_with (go_at_call 56; refine (l01Plain_any _ _).mono ?_; rintro e w' ⟨rfl, rfl⟩)
          go_ret2
          exact ⟨_, [], by rw [HK.out]; rfl, own_base (own_lit wr wr.heap.size 22 (size := 1) 0 #[] (Nat.le_refl _) (by decide) rfl) hsz, by rw [HR.out]; exact SameF.refl _, by simp, hb.alloc hsz _⟩
        · have hK : throughK bs q = 0 := by simp [throughK, hall, hp, h12]
          have hR : throughR bs q = scanO (cn q) bs (bs.length + 1) := if_pos hK
          have HK := Lib.hid hK
          have HR := Lib.hid hR
          have h13 : (bs.length : Int) ≤ 12 := by omega
          have hbO := hb
          have hszO := hsz
          clear hK hR hall h12
          go_wp2_with (go_at_call 56; refine (l01Plain_any _ _).mono ?_; rintro e w' ⟨rfl, rfl⟩)
          go_loopw [7, 8] (fun u k wr => ∃ (j : Nat) (xs : List Nat), j ≤ bs.length ∧ k = .int .i64 (j : Int) ∧ xs.length = j + 1 ∧ wr.ownsRow w.heap.size 22 1 u (j + 1) (cellsF xs) ∧ Hid (SameF xs (scanO (cn q) bs (j + 1)) ∧ ∀ x ∈ xs, x < 2 ^ 32) ∧ Below w.heap.size w wr)
            (fun _ k _ => (bs.length - intOf k).toNat)
          case atStart =>
            refine ⟨0, [q], by omega, rfl, rfl, ?_, Lib.hid ⟨scanO_first _ _, by simpa using hq⟩, by (repeat' (first | (with_reducible exact Below.refl _ _) | (with_reducible assumption) | (with_reducible refine Below.alloc ?_ ?_ _) | (with_reducible refine below_drewN ?_ _) | (with_reducible refine Below.drew ?_) | (with_reducible refine Below.setCell ?_ ?_ _) | (with_reducible exact Nat.le_refl _) | omega | (simp only [World.size_alloc, World.size_setCell, World.size_drew, World.heap_drewN]; omega) | (simp; omega)))⟩
            exact own_base (own_lit wr wr.heap.size 22 (size := 1) 1 #[.float .f32 q] (Nat.le_refl _) (by decide) rfl) hszO
          case round =>
            clear hb hsz hbO hszO
            rename_i wr
            obtain ⟨j, xs, hj, rfl, hxl, ho, hS, hb⟩ := hrel
            by_cases hlt : j < bs.length
            · obtain ⟨b, off, rfl, hbl, hat⟩ := HC.out (by omega)
              have hp2 : bs[j]? = some bs[j] := List.getElem?_eq_getElem hlt
              have hsz := hb.size
              have lb := Nat.lt_of_lt_of_le hbl hsz
              obtain ⟨y, hy⟩ : ∃ y, xs[j]? = some y := ⟨_, List.getElem?_eq_getElem (by omega)⟩
              rcases own_val ho with ⟨_, h0⟩ | ⟨g0, cap0, rfl, hg0, hgs0, _⟩
              · omega
              have HD := Lib.hid ((hat j _ hp2).belowB hbl hb)
              have HDX : Hid (∀ w1, BelowC wr w1 → BeltAt w1 b (off + j * 5) bs[j].1 bs[j].2.1 bs[j].2.2.1 bs[j].2.2.2.1 bs[j].2.2.2.2) := Lib.hid (fun w1 h1 => HD.out.below lb h1.out)
              have q2 := BelowC.cell (own_cell ho (j := j) (u := .float .f32 y) (by simp [cellsF, hy])) hgs0
              have hdn := @BelowC.drewN wr
              have hjj : (j : Int) < (j : Int) + 1 := by omega
              have HO := Lib.hid ho
              have HX := Lib.hid hxl
              have HE := Lib.hid (scanO_succ (cn q) bs (j + 1))
              have HF := Lib.hid (foldO_step (cn q) bs j _ hp2)
              have HY := Lib.hid (hS.out.1.2 j y _ hy (scanO_get (cn q) bs (j + 1) j (by omega)))
              have HOut := Lib.hid (outC_cn bs[j].1 bs[j].2.1 bs[j].2.2.2.2 y ((bs.take j).foldl outS (cn q)) 0 (by rw [HY.out]))
              clear hat ho hxl hy
              go_wp2
              (refine Loose.wp_region_tail1 9 3 (BelowC wr) (Loose.Tab [(57, fun _ v => ∃ t, v = .float .f32 t ∧ cn t = outC bs[j].1 bs[j].2.1 bs[j].2.2.2.2 y 0 ∧ t < 2 ^ 32)]) (v0 := .slice (some ⟨g0, 0, none⟩) (j + 1) cap0) (by kernel_rfl) rfl rfl (by kernel_rfl) (BelowC.start wr) (fun _ _ _ h => h) (.inl ⟨by rfl, fun w => by go_simp⟩) ?_; simp only [List.take_succ_cons, List.take_zero, List.drop_succ_cons, List.drop_zero, Act.put, List.setIfInBounds_toArray, List.set_cons_zero, List.set_cons_succ])
              repeat (apply Loose.det; (focus rfl); (focus (intro wq hwq; go_simp; first | done | (with_reducible rfl))); (simp only [Act.put, List.setIfInBounds_toArray, List.set_cons_zero, List.set_cons_succ]))
              (apply Loose.callT; (focus rfl); (focus (intro wq hwq; go_simp; first | done | (with_reducible exact ⟨rfl, rfl⟩) | (with_reducible rfl))); (focus rfl); (focus (intro w1 h1; refine (l02Out_any b (off + j * 5) bs[j].1 bs[j].2.1 bs[j].2.2.1 bs[j].2.2.2.1 bs[j].2.2.2.2 y 0 _ (HDX.out _ h1)).mono ?_; rintro e w2 ⟨t, n, rfl, h2, h3, rfl⟩; exact ⟨_, rfl, ⟨t, rfl, h2, h3⟩, hdn _ _ h1⟩)); (rintro v ⟨t, rfl, ht, htl⟩; simp only [Act.put, List.setIfInBounds_toArray, List.set_cons_zero, List.set_cons_succ]))
              refine Loose.done ?_
              intro w9 hb2
              have ho9 := own_after HO.out hb2
              have hb9 := hb.trans (hb2.mono hsz)
              have hs9 := hb9.size
              (refine Loose.tail_one 9 (by kernel_rfl) rfl ?_; intro K hK; go_simp; refine hK _ _ ?_; clear hK K)
              (refine Loose.tail_one 10 (by kernel_rfl) rfl ?_; intro K hK; refine step_append_lies _ rfl _ _ _ rfl w.heap.size 22 i0 _ 1 4 Try.underlying42 hi hz0 hz1 hz2 rfl (by decide) _ _ _ rfl (ho9.alloc _) ⟨w9.heap.size, 0, none⟩ 1 1 (cellsF [t]) rfl rfl (World.news_of_block (heap_alloc_new w9 _)) (by first | exact cellsF_one _ | (intro u hu; simp at hu; subst hu; rfl) | (intro u hu; simp at hu; rcases hu with rfl | rfl | rfl <;> rfl)) (by decide) (by unfold maxLen; omega) (by omega) (by simp; omega) _ rfl ?_; intro g cap' w10 hown1 hgrow hat hlt1; refine hK _ _ ?_; clear hK K)
              (refine Loose.tail_one 11 (by kernel_rfl) rfl ?_; intro K hK; go_simp; refine hK _ _ ?_; clear hK K; refine Loose.tail_done (by kernel_rfl) ?_)
              have hb10 : Below w.heap.size w w10 := (hb9.alloc hs9 _).grown hgrow (by simp; omega) (fun g hg => (HO.out.lt g hg).1)
              have HO1 := Lib.hid hown1
              have hv : cn t = outS ((bs.take j).foldl outS (cn q)) bs[j] := by rw [ht, HOut.out]; rfl
              clear hown1 hgrow hat hlt1
              go_wp2
              refine ⟨⟨j + 1, xs ++ [t], by omega, rfl, by simp [HX.out], by rw [cellsF_app]; exact HO1.out, Lib.hid ⟨?_, lt_snoc hS.out.2 htl⟩, hb10⟩, by simp [intOf]; omega⟩
              rw [HE.out]
              refine hS.out.1.snoc ?_
              rw [HF.out, hv]
              exact (cn_outC _ _ _ _ _).symm
            · obtain rfl : j = bs.length := by omega
              go_wp2
              go_ret2
              exact ⟨_, xs, by rw [HK.out]; rfl, by rw [hxl]; exact ho, by rw [HR.out]; exact hS.out.1, hS.out.2, hb⟩

end Go.Proofs.Ytljigmplmlhdnaa
