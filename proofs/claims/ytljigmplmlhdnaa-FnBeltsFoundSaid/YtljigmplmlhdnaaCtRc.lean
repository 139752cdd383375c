/- Contracts: a radius for each of several ones. -/
import Derived.Test.YtljigmplmlhdnaaCtRe
import Derived.Test.YtljigmplmlhdnaaMkF
import Derived.Test.YtljigmplmlhdnaaLoose3
import Derived.Deep.AppendLies
namespace Go.Proofs.Ytljigmplmlhdnaa
open Go.RowKit

theorem forK_cn (c e : Nat) (x : Bool) (len : Nat) : forK c e x (cn len) = forK c e x len := by simp [forK, amountB, betB, fle_cn_l, fle_cn_r, flt_cn_l]
theorem rfP_cnL (c e : Nat) (x : Bool) (len : Nat) : rfP e c x (cn len) = rfP e c x len := by
  funext m
  simp [rfP, fle_cn_r]
theorem forV_cn (c e : Nat) (x : Bool) (len : Nat) : forV c e x (cn len) = forV c e x len := by
  unfold forV
  rw [forK_cn, rfP_cnL]
theorem stepS_cn (p : Nat → Bool) (x : Nat × Nat) (h1 : cn x.1 = x.1) (h2 : cn x.2 = x.2) : cn (stepS p x).1 = (stepS p x).1 ∧ cn (stepS p x).2 = (stepS p x).2 := by
  unfold stepS midC
  split
  · exact ⟨cn_cop _ _ _, h2⟩
  · exact ⟨h1, cn_cop _ _ _⟩
theorem iterS_cn (p : Nat → Bool) (x : Nat × Nat) (h1 : cn x.1 = x.1) (h2 : cn x.2 = x.2) : ∀ k, cn (iterS p x k).1 = (iterS p x k).1 ∧ cn (iterS p x k).2 = (iterS p x k).2
  | 0 => ⟨h1, h2⟩
  | k + 1 => stepS_cn p _ (iterS_cn p x h1 h2 k).1 (iterS_cn p x h1 h2 k).2
theorem hiC_cn (c e : Nat) : cn (hiC c e) = hiC c e := by
  unfold hiC
  split
  · decide +kernel
  · exact cn_cop _ _ _
theorem cn_iter (p : Nat → Bool) (l h k : Nat) (h1 : cn l = l) (h2 : cn h = h) : cn (iterS p (l, h) k).1 = (iterS p (l, h) k).1 := (iterS_cn p (l, h) h1 h2 k).1
theorem cn_forV (c e : Nat) (x : Bool) (len : Nat) : cn (forV c e x len) = forV c e x len := by
  unfold forV
  split
  · exact cn_iter (rfP e c x len) (cn 1031798784) (hiC c e) 40 (cn_cn 1031798784) (hiC_cn c e)
  · exact cnA_zero

/-- The first code that is not OK. -/
def firstBad (c : Nat) (x : Bool) (L : Nat) : List Nat → Int
  | [] => 0
  | e :: es => if forK c e x L = 0 then firstBad c x L es else forK c e x L
def coneK (a b c d : Nat) (x : Bool) (es : List Nat) : Int := if beltB a b c d then (if (12 : Int) < es.length then 3 else firstBad c x (lengthC a b c x) es) else 1
def coneR (a b c d : Nat) (x : Bool) (es : List Nat) : List Nat := if coneK a b c d x es = 0 then es.map fun e => forV c e x (lengthC a b c x) else []
theorem coneR_len (a b c d : Nat) (x : Bool) (es : List Nat) : (coneR a b c d x es).length ≤ 1048576 := by
  by_cases h : coneK a b c d x es = 0
  · rw [coneR, if_pos h, List.length_map]
    unfold coneK at h
    split at h
    · split at h
      · simp at h
      · omega
    · simp at h
  · rw [coneR, if_neg h]
    simp
theorem cellsF_app (a b : List Nat) : cellsF (a ++ b) = cellsF a ++ cellsF b := by simp [cellsF]
theorem lt_snoc {xs : List Nat} {r : Nat} (h : ∀ x ∈ xs, x < 2 ^ 32) (hr : r < 2 ^ 32) : ∀ x ∈ xs ++ [r], x < 2 ^ 32 := by
  intro x hx
  rcases List.mem_append.1 hx with h1 | h1
  · exact h x h1
  · rw [List.mem_singleton.1 h1]
    exact hr
theorem SameF.snoc {xs ys : List Nat} {x y : Nat} (h : SameF xs ys) (k : cn x = cn y) : SameF (xs ++ [x]) (ys ++ [y]) := by
  refine ⟨by simp [h.1], fun i a b h1 h2 => ?_⟩
  by_cases hi : i < xs.length
  · rw [List.getElem?_append_left hi] at h1
    rw [List.getElem?_append_left (by rw [← h.1]; exact hi)] at h2
    exact h.2 i a b h1 h2
  · rw [List.getElem?_append_right (by omega)] at h1
    rw [List.getElem?_append_right (by rw [← h.1]; omega), ← h.1] at h2
    have : i - xs.length = 0 := by
      have := (List.getElem?_eq_some_iff.1 h1).1
      simp at this
      omega
    rw [this] at h1 h2
    simp at h1 h2
    rw [← h1, ← h2]
    exact k
theorem forK_ne (c e : Nat) (x : Bool) (L : Nat) (es : List Nat) (h : forK c e x L ≠ 0) : firstBad c x L (e :: es) = forK c e x L := if_neg h
theorem forK_eq (c e : Nat) (x : Bool) (L : Nat) (es : List Nat) (h : forK c e x L = 0) : firstBad c x L (e :: es) = firstBad c x L es := if_pos h

set_option maxRecDepth 20000 in
set_option maxHeartbeats 4000000 in
theorem specCone_any (a b c d : Nat) (x : Bool) (es : List Nat) (v : Value) (w : World) (ha : a < 2 ^ 32) (hb : b < 2 ^ 32) (hc : c < 2 ^ 32) (hd : d < 2 ^ 32) (hv : Fs w v es) :
    Calls Try.prog 32 #[.agg #[.float .f32 a, .float .f32 b, .float .f32 c, .float .f32 d, .bool x], v] w (GivesF w (coneK a b c d x es) (coneR a b c d x es)) := by
  have HB0 := Lib.hid (beltAt_box w 31 a b c d x)
  obtain ⟨av, cap, rfl, hn, hcell⟩ := hv
  have hn2 : es.length ≤ 9223372036854775807 := by simpa [maxLen] using hn
  obtain ⟨i0, hi, hz0, hz1, hz2⟩ := info_parts info_f32
  go_enter Try.func32, Try.ntmps32
  cases hB : beltB a b c d
  · have hK : coneK a b c d x es = 1 := by simp [coneK, hB]
    have hR : coneR a b c d x es = [] := by simp [coneR, hK]
    rw [hK, hR]
    clear hcell hK hR
    go_wp2_with (go_at_call 47; refine (l02Ok_any _ 0 a b c d x _ (by exact HB0.out)).mono ?_; rintro e w1 ⟨rfl, n, rfl⟩)
    go_ret2
    exact ⟨_, [], rfl, (by have := own_base (b' := w.heap.size) (own_drewN (own_lit (w.alloc (.cells #[.float .f32 a, .float .f32 b, .float .f32 c, .float .f32 d, .bool x] 31)) _ 22 (size := 1) 0 #[] (Nat.le_refl _) (by decide) rfl) n) (by simp); simpa [cellsF] using this), SameF.refl _, by simp, by (repeat' (first | (with_reducible exact Below.refl _ _) | (with_reducible assumption) | (with_reducible refine Below.alloc ?_ ?_ _) | (with_reducible refine below_drewN ?_ _) | (with_reducible refine Below.drew ?_) | (with_reducible refine Below.setCell ?_ ?_ _) | (with_reducible exact Nat.le_refl _) | omega | (simp only [World.size_alloc, World.size_setCell, World.size_drew, World.heap_drewN]; omega) | (simp; omega)))⟩
  · by_cases h12 : (12 : Int) < es.length
    · have hK : coneK a b c d x es = 3 := by simp [coneK, hB, h12]
      have hR : coneR a b c d x es = [] := by simp [coneR, hK]
      rw [hK, hR]
      clear hcell hK hR
      go_wp2_with (go_at_call 47; refine (l02Ok_any _ 0 a b c d x _ (by exact HB0.out)).mono ?_; rintro e w1 ⟨rfl, n, rfl⟩)
      go_ret2
      exact ⟨_, [], rfl, (by have := own_base (b' := w.heap.size) (own_drewN (own_lit (w.alloc (.cells #[.float .f32 a, .float .f32 b, .float .f32 c, .float .f32 d, .bool x] 31)) _ 22 (size := 1) 0 #[] (Nat.le_refl _) (by decide) rfl) n) (by simp); simpa [cellsF] using this), SameF.refl _, by simp, by (repeat' (first | (with_reducible exact Below.refl _ _) | (with_reducible assumption) | (with_reducible refine Below.alloc ?_ ?_ _) | (with_reducible refine below_drewN ?_ _) | (with_reducible refine Below.drew ?_) | (with_reducible refine Below.setCell ?_ ?_ _) | (with_reducible exact Nat.le_refl _) | omega | (simp only [World.size_alloc, World.size_setCell, World.size_drew, World.heap_drewN]; omega) | (simp; omega)))⟩
    · have hKK : coneK a b c d x es = firstBad c x (lengthC a b c x) es := by simp [coneK, hB, h12]
      have HKK := Lib.hid hKK
      have HCL := Lib.hid hcell
      have H12 := Lib.hid h12
      have h13 : (es.length : Int) ≤ 12 := by omega
      clear hKK hcell h12
      go_wp2_with (go_at_call 47; refine (l02Ok_any _ 0 a b c d x _ (by exact HB0.out)).mono ?_; rintro e w1 ⟨rfl, n, rfl⟩)
      refine (l02Length_any _ 0 a b c d x _ (HB0.out.drewN _)).mono ?_
      rintro e w2 ⟨L, n2, rfl, hL, hLl, hn2⟩
      have hb2 := below_of_drewN hn2
      clear hn2
      obtain ⟨hc2, hf2, hz2⟩ := below_reads hb2
      have hs2 : w.heap.size + 1 ≤ w2.heap.size := by simpa using hz2
      have hB2 : BeltAt w2 w.heap.size 0 a b c d x := ⟨(hc2 w.heap.size 0 (by simp <;> omega)).trans (by go_simp), (hc2 w.heap.size 1 (by simp <;> omega)).trans (by go_simp), (hc2 w.heap.size 2 (by simp <;> omega)).trans (by go_simp), (hc2 w.heap.size 3 (by simp <;> omega)).trans (by go_simp), (hc2 w.heap.size 4 (by simp <;> omega)).trans (by go_simp)⟩
      have hbw : Below w.heap.size w w2 := below_then (by (repeat' (first | (with_reducible exact Below.refl _ _) | (with_reducible assumption) | (with_reducible refine Below.alloc ?_ ?_ _) | (with_reducible refine below_drewN ?_ _) | (with_reducible refine Below.drew ?_) | (with_reducible refine Below.setCell ?_ ?_ _) | (with_reducible exact Nat.le_refl _) | omega | (simp only [World.size_alloc, World.size_setCell, World.size_drew, World.heap_drewN]; omega) | (simp; omega)))) hb2
      have HB2 := Lib.hid hB2
      have HL := Lib.hid hL
      clear hc2 hf2 hz2 hb2 hB2 hL
      go_wp2
      go_loopw [7, 8] (fun u k wr => ∃ (j : Nat) (xs : List Nat), j ≤ es.length ∧ k = .int .i64 (j : Int) ∧ xs.length = j ∧ wr.ownsRow w2.heap.size 22 1 u j (cellsF xs) ∧ Hid ((SameF xs ((es.take j).map fun e => forV c e x (lengthC a b c x)) ∧ ∀ y ∈ xs, y < 2 ^ 32) ∧ firstBad c x (lengthC a b c x) es = firstBad c x (lengthC a b c x) (es.drop j)) ∧ Below w2.heap.size w2 wr)
        (fun _ k _ => (es.length - intOf k).toNat)
      case atStart =>
        refine ⟨0, [], by omega, rfl, rfl, ?_, Lib.hid ⟨⟨SameF.refl _, by simp⟩, rfl⟩, by (repeat' (first | (with_reducible exact Below.refl _ _) | (with_reducible assumption) | (with_reducible refine Below.alloc ?_ ?_ _) | (with_reducible refine below_drewN ?_ _) | (with_reducible refine Below.drew ?_) | (with_reducible refine Below.setCell ?_ ?_ _) | (with_reducible exact Nat.le_refl _) | omega | (simp only [World.size_alloc, World.size_setCell, World.size_drew, World.heap_drewN]; omega) | (simp; omega)))⟩
        exact own_lit w2 w2.heap.size 22 (size := 1) 0 #[] (Nat.le_refl _) (by decide) rfl
      case round =>
        obtain ⟨j, xs, hj, rfl, hxl, ho, hS, hbr⟩ := hrel
        by_cases hlt : j < es.length
        · obtain ⟨b1, off, rfl, hbl, hat⟩ := HCL.out (by omega)
          obtain ⟨e, he⟩ : ∃ e, es[j]? = some e := ⟨_, List.getElem?_eq_getElem hlt⟩
          have hsr := hbr.size
          have d0 := (Below.cell (hbw.trans (hbr.mono (by omega))) (p := ⟨b1, _, none⟩) hbl).trans (hat j e he)
          have hdrop : es.drop j = e :: es.drop (j + 1) := by
            rw [List.drop_eq_getElem_cons hlt]
            congr 1
            rw [List.getElem?_eq_getElem hlt] at he
            exact Option.some.inj he
          have hE : (es.take (j + 1)).map (fun e => forV c e x (lengthC a b c x)) = (es.take j).map (fun e => forV c e x (lengthC a b c x)) ++ [forV c e x (lengthC a b c x)] := by
            rw [List.take_add_one, he, List.map_append]
            rfl
          have HE := Lib.hid hE
          have HD := Lib.hid hdrop
          have HX := Lib.hid hxl
          have HO := Lib.hid ho
          have hKL : forK c e x L = forK c e x (lengthC a b c x) := by rw [← forK_cn, HL.out]
          have hVL : forV c e x L = forV c e x (lengthC a b c x) := by rw [← forV_cn, HL.out]
          have HKL := Lib.hid hKL
          have HVL := Lib.hid hVL
          have hBr := HB2.out.belowB (show w.heap.size < w2.heap.size by omega) hbr
          have HBr := Lib.hid hBr
          clear hat he hdrop hE hxl ho hKL hVL hBr
          by_cases hF : forK c e x (lengthC a b c x) = 0
          · have HF := Lib.hid hF
            clear hF
            go_wp2_with (first | (go_at_call 66; refine (l02For_any w.heap.size a b c d e x L hLl _ HBr.out (by omega)).mono ?_; (rintro e2 w4 ⟨r, rfl, hr, hl, hb4⟩; have HR := Lib.hid hr; have ho4 := own_after HO.out hb4; have hb5 := hbr.trans (hb4.mono hsr); have hs5 := hb5.size; rw [HKL.out, HF.out]; clear hr)) | (at_builtin; refine wpList_append_lies _ rfl _ _ _ rfl w2.heap.size 22 i0 _ 1 4 Try.underlying42 hi hz0 hz1 hz2 rfl (by decide) _ _ _ rfl (ho4.alloc _) ⟨w4.heap.size, 0, none⟩ 1 1 _ rfl (by rfl) (World.news_of_block (heap_alloc_new w4 _)) (by intro u hu; simp at hu; subst hu; rfl) (by decide) (by unfold maxLen; omega) (by omega) (by simp; omega) _ rfl ?_; intro g cap' w10 hown1 hgrow hat1 hlt1))
            have hb10 : Below w2.heap.size w2 w10 := (hb5.alloc hs5 _).grown hgrow (by simp; omega) (fun g hg => (HO.out.lt g hg).1)
            have HO1 := Lib.hid hown1
            clear hown1 hgrow hat1 hlt1
            refine ⟨⟨j + 1, xs ++ [r], by omega, rfl, by simp [HX.out], by rw [cellsF_app]; exact HO1.out, Lib.hid ⟨⟨?_, lt_snoc hS.out.1.2 hl⟩, ?_⟩, hb10⟩, by simp [intOf]; omega⟩
            · rw [HE.out]
              exact hS.out.1.1.snoc (by rw [HR.out, HVL.out, cn_forV])
            · rw [hS.out.2, HD.out, forK_eq _ _ _ _ _ HF.out]
          · have hK : coneK a b c d x es = forK c e x (lengthC a b c x) := by rw [HKK.out, hS.out.2, HD.out, forK_ne _ _ _ _ _ hF]
            have hR : coneR a b c d x es = [] := by rw [coneR, hK, if_neg hF]
            have HK := Lib.hid hK
            have HR := Lib.hid hR
            generalize hq : forK c e x (lengthC a b c x) = K at *
            have HQ := Lib.hid (HKL.out)
            have hne : (K != 0) = true := by simpa using hF
            have hne2 : (K == 0) = false := by simpa using hF
            clear hK hR hF
            go_wp2_with (go_at_call 66; refine (l02For_any w.heap.size a b c d e x L hLl _ HBr.out (by omega)).mono ?_; (rintro e2 w4 ⟨r, rfl, hr, hl, hb4⟩; rw [HQ.out]; clear hr))
            go_ret2
            refine ⟨_, [], by rw [HK.out]; rfl, own_base (own_lit w4 w4.heap.size 22 (size := 1) 0 #[] (Nat.le_refl _) (by decide) rfl) (by have := hb4.size; omega), by rw [HR.out]; exact SameF.refl _, by simp, ?_⟩
            exact ((hbw.trans ((hbr.trans (hb4.mono hsr)).mono (by omega))).alloc (by have := hb4.size; omega) _)
        · obtain rfl : j = es.length := by omega
          have hK : coneK a b c d x es = 0 := by
            rw [HKK.out, hS.out.2, List.drop_length]
            rfl
          have hR : coneR a b c d x es = es.map (fun e => forV c e x (lengthC a b c x)) := if_pos hK
          have HK := Lib.hid hK
          have HR := Lib.hid hR
          have hsr := hbr.size
          clear hK hR
          go_wp2
          go_ret2
          exact ⟨_, xs, by rw [HK.out]; rfl, by rw [hxl]; exact own_base ho (by omega), by rw [HR.out]; simpa using hS.out.1.1, hS.out.1.2, hbw.trans (hbr.mono (by omega))⟩

set_option maxRecDepth 20000 in
set_option maxHeartbeats 4000000 in
theorem implCone_any (a b c d : Nat) (x : Bool) (es : List Nat) (v : Value) (w : World) (ha : a < 2 ^ 32) (hb : b < 2 ^ 32) (hc : c < 2 ^ 32) (hd : d < 2 ^ 32) (hv : Fs w v es) :
    Calls Try.prog 34 #[.agg #[.float .f32 a, .float .f32 b, .float .f32 c, .float .f32 d, .bool x], v] w (GivesF w (coneK a b c d x es) (coneR a b c d x es)) := by
  obtain ⟨av, cap, rfl, hn, hcell⟩ := hv
  have hn2 : es.length ≤ 9223372036854775807 := by simpa [maxLen] using hn
  obtain ⟨i0, hi, hz0, hz1, hz2⟩ := info_parts info_f32
  go_enter Try.func34, Try.ntmps34
  go_wp2_with fail
  refine (implValidBelt_any _ _ _ _ _ _).mono ?_
  rintro e w2 ⟨rfl, hb2⟩
  obtain ⟨hc2, hf2, hz2'⟩ := below_reads hb2
  have hs2 : w.heap.size + 1 ≤ w2.heap.size := by simpa using hz2'
  have hB2 : BeltAt w2 w.heap.size 0 a b c d x := ⟨(hc2 w.heap.size 0 (by simp <;> omega)).trans (by go_simp), (hc2 w.heap.size 1 (by simp <;> omega)).trans (by go_simp), (hc2 w.heap.size 2 (by simp <;> omega)).trans (by go_simp), (hc2 w.heap.size 3 (by simp <;> omega)).trans (by go_simp), (hc2 w.heap.size 4 (by simp <;> omega)).trans (by go_simp)⟩
  have hbw : Below w.heap.size w w2 := below_then (by (repeat' (first | (with_reducible exact Below.refl _ _) | (with_reducible assumption) | (with_reducible refine Below.alloc ?_ ?_ _) | (with_reducible refine below_drewN ?_ _) | (with_reducible refine Below.drew ?_) | (with_reducible refine Below.setCell ?_ ?_ _) | (with_reducible exact Nat.le_refl _) | omega | (simp only [World.size_alloc, World.size_setCell, World.size_drew, World.heap_drewN]; omega) | (simp; omega)))) hb2
  have HB2 := Lib.hid hB2
  clear hc2 hf2 hz2' hb2 hB2
  cases hB : beltB a b c d
  · have hK : coneK a b c d x es = 1 := by simp [coneK, hB]
    have hR : coneR a b c d x es = [] := by simp [coneR, hK]
    have HK := Lib.hid hK
    have HR := Lib.hid hR
    clear hcell hK hR
    go_wp2
    go_ret2
    exact ⟨_, [], by rw [HK.out]; rfl, ⟨rfl, .inl ⟨rfl, rfl⟩⟩, by rw [HR.out]; exact SameF.refl _, by simp, hbw⟩
  · by_cases h12 : (12 : Int) < es.length
    · have hK : coneK a b c d x es = 3 := by simp [coneK, hB, h12]
      have hR : coneR a b c d x es = [] := by simp [coneR, hK]
      have HK := Lib.hid hK
      have HR := Lib.hid hR
      clear hcell hK hR
      go_wp2
      go_ret2
      exact ⟨_, [], by rw [HK.out]; rfl, ⟨rfl, .inl ⟨rfl, rfl⟩⟩, by rw [HR.out]; exact SameF.refl _, by simp, hbw⟩
    · have hKK : coneK a b c d x es = firstBad c x (lengthC a b c x) es := by simp [coneK, hB, h12]
      have HKK := Lib.hid hKK
      have HCL := Lib.hid hcell
      have H12 := Lib.hid h12
      have h13 : (es.length : Int) ≤ 12 := by omega
      clear hKK hcell h12
      go_wp2
      go_loopw [6, 22] (fun u k wr => ∃ (j : Nat) (xs : List Nat), j ≤ es.length ∧ k = .int .i64 (j : Int) ∧ xs.length = j ∧ wr.ownsRow w2.heap.size 22 1 u j (cellsF xs) ∧ Hid ((SameF xs ((es.take j).map fun e => forV c e x (lengthC a b c x)) ∧ ∀ y ∈ xs, y < 2 ^ 32) ∧ firstBad c x (lengthC a b c x) es = firstBad c x (lengthC a b c x) (es.drop j)) ∧ Below w2.heap.size w2 wr)
        (fun _ k _ => (es.length - intOf k).toNat)
      case atStart =>
        refine ⟨0, [], by omega, rfl, rfl, ?_, Lib.hid ⟨⟨SameF.refl _, by simp⟩, rfl⟩, by (repeat' (first | (with_reducible exact Below.refl _ _) | (with_reducible assumption) | (with_reducible refine Below.alloc ?_ ?_ _) | (with_reducible refine below_drewN ?_ _) | (with_reducible refine Below.drew ?_) | (with_reducible refine Below.setCell ?_ ?_ _) | (with_reducible exact Nat.le_refl _) | omega | (simp only [World.size_alloc, World.size_setCell, World.size_drew, World.heap_drewN]; omega) | (simp; omega)))⟩
        exact own_lit w2 w2.heap.size 22 (size := 1) 0 #[] (Nat.le_refl _) (by decide) rfl
      case round =>
        obtain ⟨j, xs, hj, rfl, hxl, ho, hS, hbr⟩ := hrel
        by_cases hlt : j < es.length
        · obtain ⟨b1, off, rfl, hbl, hat⟩ := HCL.out (by omega)
          obtain ⟨e, he⟩ : ∃ e, es[j]? = some e := ⟨_, List.getElem?_eq_getElem hlt⟩
          have hsr := hbr.size
          have d0 := (Below.cell (hbw.trans (hbr.mono (by omega))) (p := ⟨b1, _, none⟩) hbl).trans (hat j e he)
          have hdrop : es.drop j = e :: es.drop (j + 1) := by
            rw [List.drop_eq_getElem_cons hlt]
            congr 1
            rw [List.getElem?_eq_getElem hlt] at he
            exact Option.some.inj he
          have hE : (es.take (j + 1)).map (fun e => forV c e x (lengthC a b c x)) = (es.take j).map (fun e => forV c e x (lengthC a b c x)) ++ [forV c e x (lengthC a b c x)] := by
            rw [List.take_add_one, he, List.map_append]
            rfl
          have HE := Lib.hid hE
          have HD := Lib.hid hdrop
          have HX := Lib.hid hxl
          have HO := Lib.hid ho
          have hBr := HB2.out.belowB (show w.heap.size < w2.heap.size by omega) hbr
          have HBr := Lib.hid hBr
          have lbr : w.heap.size < wr.heap.size := by omega
          obtain ⟨z0, z1, z2, z3, z4⟩ := hBr
          have q0 := BelowC.cell z0 lbr
          have q1 := BelowC.cell z1 lbr
          have q2 := BelowC.cell z2 lbr
          have q3 := BelowC.cell z3 lbr
          have q4 := BelowC.cell z4 lbr
          have hdn := @BelowC.drewN wr
          have HKR : Hid (∀ L, cn L = lengthC a b c x → rfK a b c d e x L = forK c e x (lengthC a b c x) ∧ rfV a b c d e x L = forV c e x (lengthC a b c x)) := Lib.hid fun L hL => by
            rw [rfK_yes hB, rfV_yes hB, ← forK_cn, ← forV_cn, hL]
            exact ⟨rfl, rfl⟩
          clear hat he hdrop hE hxl ho z0 z1 z2 z3 z4
          go_wp2
          refine Loose.wp_region (BelowC wr) (Loose.Tab [(54, fun _ v => ∃ r, v = .float .f32 r ∧ cn r = lengthC a b c x ∧ r < 2 ^ 32), (31, fun _ v => ∃ r, v = .tuple #[.float .f32 r, .int .i64 (forK c e x (lengthC a b c x))] ∧ cn r = forV c e x (lengthC a b c x) ∧ r < 2 ^ 32)]) (by kernel_rfl) (by kernel_rfl) (BelowC.start wr) ?_
          repeat (apply Loose.det; (focus rfl); (focus (intro wq hwq; go_simp; first | done | (with_reducible rfl))); (simp only [Act.put, List.setIfInBounds_toArray, List.set_cons_zero, List.set_cons_succ]))
          (apply Loose.callT; (focus rfl); (focus (intro wq hwq; go_simp; first | done | (with_reducible exact ⟨rfl, rfl⟩) | (with_reducible rfl))); (focus rfl); (focus (intro w1 h1; refine (length_any _ 0 a b c d x _ (HBr.out.belowW lbr h1)).mono ?_; rintro e2 w4 ⟨r, n, rfl, hr, hl, rfl⟩; exact ⟨_, rfl, ⟨r, rfl, hr, hl⟩, hdn _ _ h1⟩)); (rintro v ⟨L, rfl, hL, hLl⟩; simp only [Act.put, List.setIfInBounds_toArray, List.set_cons_zero, List.set_cons_succ]))
          repeat (apply Loose.det; (focus rfl); (focus (intro wq hwq; go_simp; first | done | (with_reducible rfl))); (simp only [Act.put, List.setIfInBounds_toArray, List.set_cons_zero, List.set_cons_succ]))
          (apply Loose.callT; (focus rfl); (focus (intro wq hwq; go_simp; first | done | (with_reducible exact ⟨rfl, rfl⟩) | (with_reducible rfl))); (focus rfl); (focus (intro w1 h1; refine (implRadiusFor_any a b c d e x L hLl _).mono ?_; rintro e2 w4 ⟨r, rfl, hr, hl, h2⟩; exact ⟨_, rfl, ⟨r, by rw [(HKR.out L hL).1], by rw [hr, (HKR.out L hL).2], hl⟩, h1.call h2⟩)); (rintro v ⟨r, rfl, hr, hl⟩; simp only [Act.put, List.setIfInBounds_toArray, List.set_cons_zero, List.set_cons_succ]))
          repeat (apply Loose.det; (focus rfl); (focus (intro wq hwq; go_simp; first | done | (with_reducible rfl))); (simp only [Act.put, List.setIfInBounds_toArray, List.set_cons_zero, List.set_cons_succ]))
          refine Loose.done ?_
          intro w9 h9
          have ho9 := own_after HO.out h9.out
          have hb9 := hbr.trans (h9.out.mono hsr)
          have hs9 := hb9.size
          have HR := Lib.hid hr
          clear q0 q1 q2 q3 q4 hr
          by_cases hF : forK c e x (lengthC a b c x) = 0
          · have HF := Lib.hid hF
            rw [hF]
            clear hF
            go_wp2_with (at_builtin; refine wpList_append_lies _ rfl _ _ _ rfl w2.heap.size 22 i0 _ 1 4 Try.underlying42 hi hz0 hz1 hz2 rfl (by decide) _ _ _ rfl (ho9.alloc _) ⟨w9.heap.size, 0, none⟩ 1 1 _ rfl (by rfl) (World.news_of_block (heap_alloc_new w9 _)) (by intro u hu; simp at hu; subst hu; rfl) (by decide) (by unfold maxLen; omega) (by omega) (by simp; omega) _ rfl ?_; intro g cap' w10 hown1 hgrow hat1 hlt1)
            have hb10 : Below w2.heap.size w2 w10 := (hb9.alloc hs9 _).grown hgrow (by simp; omega) (fun g hg => (HO.out.lt g hg).1)
            have HO1 := Lib.hid hown1
            clear hown1 hgrow hat1 hlt1
            refine ⟨⟨j + 1, xs ++ [r], by omega, rfl, by simp [HX.out], by rw [cellsF_app]; exact HO1.out, Lib.hid ⟨⟨?_, lt_snoc hS.out.1.2 hl⟩, ?_⟩, hb10⟩, by simp [intOf]; omega⟩
            · rw [HE.out]
              exact hS.out.1.1.snoc (by rw [HR.out, cn_forV])
            · rw [hS.out.2, HD.out, forK_eq _ _ _ _ _ HF.out]
          · have hK : coneK a b c d x es = forK c e x (lengthC a b c x) := by rw [HKK.out, hS.out.2, HD.out, forK_ne _ _ _ _ _ hF]
            have hR : coneR a b c d x es = [] := by rw [coneR, hK, if_neg hF]
            have HK := Lib.hid hK
            have HRR := Lib.hid hR
            generalize forK c e x (lengthC a b c x) = K at *
            have hne : (K != 0) = true := by simpa using hF
            have hne2 : (K == 0) = false := by simpa using hF
            clear hK hR hF
            go_wp2
            go_ret2
            exact ⟨_, [], by rw [HK.out]; rfl, ⟨rfl, .inl ⟨rfl, rfl⟩⟩, by rw [HRR.out]; exact SameF.refl _, by simp, hbw.trans (hb9.mono (by omega))⟩
        · obtain rfl : j = es.length := by omega
          have hK : coneK a b c d x es = 0 := by
            rw [HKK.out, hS.out.2, List.drop_length]
            rfl
          have hR : coneR a b c d x es = es.map (fun e => forV c e x (lengthC a b c x)) := if_pos hK
          have HK := Lib.hid hK
          have HR := Lib.hid hR
          have hsr := hbr.size
          clear hK hR
          go_wp2
          go_ret2
          exact ⟨_, xs, by rw [HK.out]; rfl, by rw [hxl]; exact own_base ho (by omega), by rw [HR.out]; simpa using hS.out.1.1, hS.out.1.2, hbw.trans (hbr.mono (by omega))⟩

end Go.Proofs.Ytljigmplmlhdnaa
