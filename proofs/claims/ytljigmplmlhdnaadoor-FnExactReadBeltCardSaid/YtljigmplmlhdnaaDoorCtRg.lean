/- Contracts: a belt is read from its text. -/
import Derived.Test.YtljigmplmlhdnaaDoorCtSp
import Derived.Test.YtljigmplmlhdnaaDoorCtBt
namespace Go.Proofs.YtljigmplmlhdnaaDoor
open Go.RowKit

theorem info_f32N : (Tryd.prog.info? 22).map (fun i => (i.zero, i.size, i.bytes)) = some (some (.float .f32 0), 1, 4) := by kernel_rfl

set_option maxRecDepth 20000 in
set_option maxHeartbeats 2000000 in
theorem numbersOf_any (ws : List ByteArray) (v : Value) (w : World) (hv : Ss w v ws) (hl : ws.length ≤ 8) (hz : ∀ x ∈ ws, x.size ≤ 9223372036854775807) :
    Calls Tryd.prog 11 #[v] w fun e w' => ∃ u, e = .returned (.tuple #[u, .bool (ws.all numOk)]) ∧ (ws.all numOk = true → w'.ownsRow w.heap.size 22 1 u ws.length (cellsF (ws.map readV))) ∧ Below w.heap.size w w' := by
  obtain ⟨g, cap, rfl, h1, h2, hg, hat⟩ := hv
  obtain ⟨i0, hi, hz0, hz1, hz2⟩ := info_parts info_f32N
  go_enter Tryd.func11, Tryd.ntmps11
  go_wp2
  go_loopw [4, 12] (fun u k wr => ∃ j : Nat, j ≤ ws.length ∧ k = .int .i64 (j : Int) ∧ wr.ownsRow w.heap.size 22 1 u j (cellsF ((ws.take j).map readV)) ∧ Hid ((ws.take j).all numOk = true) ∧ Below w.heap.size w wr)
    (fun _ k _ => (ws.length - intOf k).toNat)
  case atStart =>
    refine ⟨0, by omega, rfl, ?_, Lib.hid rfl, by (repeat' (first | (with_reducible exact Below.refl _ _) | (with_reducible assumption) | (with_reducible refine Below.alloc ?_ ?_ _) | (with_reducible refine below_drewN ?_ _) | (with_reducible refine Below.drew ?_) | (with_reducible refine Below.setCell ?_ ?_ _) | (with_reducible exact Nat.le_refl _) | omega | (simp only [World.size_alloc, World.size_setCell, World.size_drew, World.heap_drewN]; omega) | (simp; omega)))⟩
    exact own_lit w w.heap.size 22 (size := 1) 0 #[] (Nat.le_refl _) (by decide) rfl
  case round =>
    obtain ⟨j, hj, rfl, ho, hal, hb⟩ := hrel
    by_cases hlt : j < ws.length
    · obtain ⟨y, hy⟩ : ∃ y, ws[j]? = some y := ⟨_, List.getElem?_eq_getElem hlt⟩
      have hsz := hb.size
      have d0 := (Below.cell hb (p := ⟨g, _, none⟩) hg).trans (hat j y hy)
      have HZ := Lib.hid (hz y (List.mem_of_getElem? hy))
      have HO := Lib.hid ho
      have hE : cellsF ((ws.take (j + 1)).map readV) = cellsF ((ws.take j).map readV) ++ [.float .f32 (readV y)] := by
        rw [List.take_add_one, hy]
        simp [cellsF]
      have HE := Lib.hid hE
      have hA : (ws.take (j + 1)).all numOk = numOk y := by
        rw [List.take_add_one, hy, List.all_append, hal.out]
        simp
      have HA := Lib.hid hA
      have HF : numOk y = false → ws.all numOk = false := fun h => List.all_eq_false.2 ⟨y, List.mem_of_getElem? hy, by simp [h]⟩
      have HF := Lib.hid HF
      have HAt := Lib.hid hat
      clear ho hE hA hy hat
      cases hN : numOk y
      · have hK : readK y = 5 := by simp [readK, hN]
        have HK := Lib.hid hK
        have HN := Lib.hid (HF.out hN)
        clear hK hN
        go_wp2_with (go_at_call 18; refine (implReadNumber_any y HZ.out _).mono ?_; (rintro e w2 ⟨rfl, hb2⟩; rw [HK.out]))
        go_ret2
        exact ⟨_, by rw [HN.out]; rfl, by rw [HN.out]; simp, below_then hb hb2⟩
      · have hK : readK y = 0 := by simp [readK, hN]
        have HK := Lib.hid hK
        have HN := Lib.hid hN
        clear hK hN
        go_wp2_with (first | (go_at_call 18; refine (implReadNumber_any y HZ.out _).mono ?_; (rintro e w2 ⟨rfl, hb2⟩; rw [HK.out]; have ho2 := own_after HO.out hb2; have hb9 := hb.trans (hb2.mono hsz); have hs9 := hb9.size)) | (at_builtin; refine wpList_append_lies _ rfl _ _ _ rfl w.heap.size 22 i0 _ 1 4 Tryd.underlying37 hi hz0 hz1 hz2 rfl (by decide) _ _ _ rfl (ho2.alloc _) ⟨w2.heap.size, 0, none⟩ 1 1 _ rfl (by rfl) (World.news_of_block (heap_alloc_new w2 _)) (by intro u hu; simp at hu; subst hu; rfl) (by decide) (by unfold maxLen; omega) (by omega) (by simp; omega) _ rfl ?_; intro g' cap' w10 hown1 hgrow hat1 hlt1))
        have hb10 : Below w.heap.size w w10 := (hb9.alloc hs9 _).grown hgrow (by simp; omega) (fun g hg => (HO.out.lt g hg).1)
        have HO1 := Lib.hid hown1
        clear hown1 hgrow hat1 hlt1
        exact ⟨⟨j + 1, by omega, rfl, by rw [HE.out]; exact HO1.out, Lib.hid (by rw [HA.out, HN.out]), hb10⟩, by simp [intOf]; omega⟩
    · obtain rfl : j = ws.length := by omega
      have hall : ws.all numOk = true := by simpa using hal.out
      have HN := Lib.hid hall
      clear hall hat
      go_wp2
      go_ret2
      exact ⟨_, by rw [HN.out]; rfl, fun _ => by simpa using ho, hb⟩

def openB : ByteArray := ⟨#[111, 112, 101, 110]⟩
def crossB : ByteArray := ⟨#[99, 114, 111, 115, 115, 101, 100]⟩
def wAt (ws : List ByteArray) (i : Nat) : ByteArray := ws.getD i ⟨#[]⟩
/-- Whether five words are those of a belt. -/
def rbOk (ws : List ByteArray) : Bool :=
  ws.length == 5 && (ws.take 4).all numOk && (decide (wAt ws 4 = openB) || decide (wAt ws 4 = crossB)) && beltB (readV (wAt ws 0)) (readV (wAt ws 1)) (readV (wAt ws 2)) (readV (wAt ws 3))
def rbK (s : ByteArray) : Int := if rbOk (piecesB 32 s) then 0 else 5
def rbV (s : ByteArray) : Nat × Nat × Nat × Nat × Bool := if rbOk (piecesB 32 s) then (readV (wAt (piecesB 32 s) 0), readV (wAt (piecesB 32 s) 1), readV (wAt (piecesB 32 s) 2), readV (wAt (piecesB 32 s) 3), decide (wAt (piecesB 32 s) 4 = crossB)) else (0, 0, 0, 0, false)

theorem five {α : Type} {ws : List α} (h : ws.length = 5) : ∃ a b c d e, ws = [a, b, c, d, e] := by
  match ws, h with
  | [a, b, c, d, e], _ => exact ⟨a, b, c, d, e, rfl⟩
theorem pieces_join (s : ByteArray) (ws : List ByteArray) (h : piecesB 32 s = ws) : s.data.toList = Lib.join (ws.map (·.data.toList)) [32] := by
  rw [← h]
  unfold piecesB
  rw [List.map_map]
  have := splitL_join 32 s.data.toList
  conv => lhs; rw [← this]
  congr 1
  conv => lhs; rw [← List.map_id (splitL 32 s.data.toList)]
  rfl
theorem numOk_text {x : ByteArray} (h : numOk x = true) : numText (readV x) = x := by
  have h1 : numText (readB x.data.toList) = x := by simpa [numOk] using h
  rw [readV, if_pos h]
  exact h1
/-- Five words that are numbers and a word: the text of the belt is the text itself just where the word is told and the belt valid. -/
theorem text_back {s a b c d e : ByteArray} (h : piecesB 32 s = [a, b, c, d, e]) (ha : numOk a = true) (hb : numOk b = true) (hc : numOk c = true) (hd : numOk d = true) :
    decide (beltText (readV a) (readV b) (readV c) (readV d) (decide (e = crossB)) = s) = ((decide (e = openB) || decide (e = crossB)) && beltB (readV a) (readV b) (readV c) (readV d)) := by
  have hs := pieces_join s _ h
  have hs2 : s = textsB ⟨#[32]⟩ [readV a, readV b, readV c, readV d] ++ (⟨#[32]⟩ ++ e) := by
    apply ByteArray.ext
    apply Array.toList_inj.1
    rw [hs, texts4, numOk_text ha, numOk_text hb, numOk_text hc, numOk_text hd]
    simp [Lib.join, List.intercalate, ByteArray.data_append]
  cases hB : beltB (readV a) (readV b) (readV c) (readV d)
  · rw [Bool.and_false, decide_eq_false_iff_not]
    intro h0
    have h1 : beltText (readV a) (readV b) (readV c) (readV d) (decide (e = crossB)) = ⟨#[]⟩ := by simp [beltText, hB]
    rw [h1] at h0
    have h2 : s.size = 0 := by rw [← h0]; rfl
    rw [hs2, ByteArray.size_append, texts4_size] at h2
    omega
  · rw [Bool.and_true, Bool.eq_iff_iff]
    have h1 : beltText (readV a) (readV b) (readV c) (readV d) (decide (e = crossB)) = textsB ⟨#[32]⟩ [readV a, readV b, readV c, readV d] ++ wordB (decide (e = crossB)) := by simp [beltText, hB]
    rw [h1]
    generalize textsB ⟨#[32]⟩ [readV a, readV b, readV c, readV d] = T at *
    simp only [decide_eq_true_eq, Bool.or_eq_true]
    have key : T ++ wordB (decide (e = crossB)) = s ↔ wordB (decide (e = crossB)) = ⟨#[32]⟩ ++ e := by
      rw [hs2]
      constructor
      · intro h
        apply ByteArray.ext
        have h3 := congrArg ByteArray.data h
        rw [ByteArray.data_append, ByteArray.data_append] at h3
        exact Array.append_right_inj _ |>.1 h3
      · intro h
        rw [h]
    rw [key]
    by_cases hx : e = crossB
    · subst hx
      simp
      rfl
    · have hx2 : decide (e = crossB) = false := by simpa using hx
      rw [hx2]
      have hw : wordB false = ⟨#[32]⟩ ++ openB := rfl
      rw [hw]
      constructor
      · intro h
        left
        apply ByteArray.ext
        have h3 := congrArg ByteArray.data h
        rw [ByteArray.data_append, ByteArray.data_append] at h3
        exact (Array.append_right_inj _ |>.1 h3).symm
      · rintro (h | h)
        · rw [h]
        · exact absurd h hx
theorem rb_five {s a b c d e : ByteArray} (h : piecesB 32 s = [a, b, c, d, e]) : rbOk (piecesB 32 s) = ((numOk a && numOk b && numOk c && numOk d) && ((decide (e = openB) || decide (e = crossB)) && beltB (readV a) (readV b) (readV c) (readV d))) := by
  rw [h]
  simp [rbOk, wAt, Bool.and_assoc]
theorem splitL_small (c : UInt8) : ∀ (l p : List UInt8), p ∈ splitL c l → p.length ≤ l.length
  | [], p, h => by
    simp [splitL] at h
    simp [h]
  | b :: l, p, h => by
    have ih := splitL_small c l
    unfold splitL at h
    split at h
    · rcases List.mem_cons.1 h with rfl | h
      · simp
      · have := ih p h
        simp
        omega
    · cases hs : splitL c l with
      | nil => exact absurd hs (splitL_ne _ _)
      | cons q qs =>
        rw [hs] at h ih
        rcases List.mem_cons.1 h with rfl | h
        · have := ih q (List.mem_cons_self ..)
          simpa using this
        · have := ih p (List.mem_cons_of_mem _ h)
          simp
          omega
theorem pieces_small {s : ByteArray} (c : UInt8) {n : Nat} (h : s.size ≤ n) : ∀ y ∈ piecesB c s, y.size ≤ n := by
  intro y hy
  obtain ⟨l, hl, rfl⟩ := List.mem_map.1 hy
  have h1 := splitL_small c _ l hl
  have h2 : s.data.toList.length = s.size := by simp
  show l.toArray.size ≤ n
  simp
  omega
theorem rb_not {s : ByteArray} (h : (piecesB 32 s).length ≠ 5) : rbOk (piecesB 32 s) = false := by
  have : ((piecesB 32 s).length == 5) = false := by simpa using h
  simp [rbOk, this]

theorem neq_str (a b : ByteArray) : (a.toList != b.toList) = !decide (a = b) := by rw [bne, str_eql]

theorem BeltAt.under {w w' : World} {p o a b c d : Nat} {x : Bool} (h : BeltAt w p o a b c d x) (hp : p < w.heap.size) (hb : Below w.heap.size w w') : BeltAt w' p o a b c d x := by
  obtain ⟨h0, h1, h2, h3, h4⟩ := h
  exact ⟨(Below.cell hb (p := ⟨p, _, none⟩) hp).trans h0, (Below.cell hb (p := ⟨p, _, none⟩) hp).trans h1, (Below.cell hb (p := ⟨p, _, none⟩) hp).trans h2, (Below.cell hb (p := ⟨p, _, none⟩) hp).trans h3, (Below.cell hb (p := ⟨p, _, none⟩) hp).trans h4⟩
theorem BeltAt.flat {w : World} {p a b c d : Nat} {x : Bool} (h : BeltAt w p 0 a b c d x) : w.cell? ⟨p, 0, none⟩ = some (.float .f32 a) ∧ w.cell? ⟨p, 1, none⟩ = some (.float .f32 b) ∧ w.cell? ⟨p, 2, none⟩ = some (.float .f32 c) ∧ w.cell? ⟨p, 3, none⟩ = some (.float .f32 d) ∧ w.cell? ⟨p, 4, none⟩ = some (.bool x) := by
  obtain ⟨h0, h1, h2, h3, h4⟩ := h
  exact ⟨h0, by simpa using h1, by simpa using h2, by simpa using h3, by simpa using h4⟩
/-- The cell of the result: a belt of zeros. -/
def Zero5 (w : World) (r : Nat) : Prop :=
  r < w.heap.size ∧ BeltAt w r 0 0 0 0 0 false ∧ ∀ o, w.frozen? ⟨r, o, none⟩ = false
theorem Zero5.below {w w' : World} {r : Nat} (h : Zero5 w r) (hb : Below w.heap.size w w') : Zero5 w' r :=
  ⟨Nat.lt_of_lt_of_le h.1 hb.size, h.2.1.under h.1 hb, fun o => (Below.frozen hb (p := ⟨r, o, none⟩) h.1).trans (h.2.2 o)⟩
theorem zero5_box (w : World) (t : TypeId) : Zero5 (w.alloc (.cells #[.float .f32 0, .float .f32 0, .float .f32 0, .float .f32 0, .bool false] t)) w.heap.size :=
  ⟨by simp, beltAt_box w t 0 0 0 0 false, fun o => by simp [World.frozen?_alloc_at]⟩
theorem Zero5.parts {w : World} {r : Nat} (h : Zero5 w r) : (r < w.heap.size ∧ w.cell? ⟨r, 0, none⟩ = some (.float .f32 0) ∧ w.cell? ⟨r, 1, none⟩ = some (.float .f32 0) ∧ w.cell? ⟨r, 2, none⟩ = some (.float .f32 0) ∧ w.cell? ⟨r, 3, none⟩ = some (.float .f32 0) ∧ w.cell? ⟨r, 4, none⟩ = some (.bool false)) ∧ ∀ o, w.frozen? ⟨r, o, none⟩ = false := by
  obtain ⟨hr, ⟨h0, h1, h2, h3, h4⟩, hf⟩ := h
  exact ⟨⟨hr, h0, by simpa using h1, by simpa using h2, by simpa using h3, by simpa using h4⟩, hf⟩

set_option maxRecDepth 20000 in
set_option maxHeartbeats 4000000 in
theorem implReadBelt_any (s : ByteArray) (hs : s.size ≤ 1048576) (m : Int) (w : World) (hm : w.cell? ⟨1, 0, none⟩ = some (.int .i64 m)) (hml : 1 < w.heap.size) :
    Calls Tryd.prog 5 #[.string s] w fun e w' => e = .returned (.tuple #[.agg #[.float .f32 (rbV s).1, .float .f32 (rbV s).2.1, .float .f32 (rbV s).2.2.1, .float .f32 (rbV s).2.2.2.1, .bool (rbV s).2.2.2.2], .int .i64 (rbK s)]) ∧ Below w.heap.size w w' := by
  have HM : Hid (∀ w', Below w.heap.size w w' → w'.cell? ⟨1, 0, none⟩ = some (.int .i64 m)) := Lib.hid (fun w' hb => (Below.cell hb (p := ⟨1, _, none⟩) hml).trans hm)
  have HR0 := Lib.hid (zero5_box w 24)
  clear hm
  go_enter Tryd.func5, Tryd.ntmps5
  go_wp2_with fail
  refine (split_any s 32 (by omega) m _ (HM.out _ (by (repeat' (first | (with_reducible exact Below.refl _ _) | (with_reducible assumption) | (with_reducible refine Below.alloc ?_ ?_ _) | (with_reducible refine below_drewN ?_ _) | (with_reducible refine Below.drew ?_) | (with_reducible refine Below.setCell ?_ ?_ _) | (with_reducible exact Nat.le_refl _) | omega | (simp only [World.size_alloc, World.size_setCell, World.size_drew, World.heap_drewN]; omega) | (simp; omega)))))).mono ?_
  rintro e w1 ⟨v, rfl, hss, hb1⟩
  have hb : Below w.heap.size w w1 := below_then (by (repeat' (first | (with_reducible exact Below.refl _ _) | (with_reducible assumption) | (with_reducible refine Below.alloc ?_ ?_ _) | (with_reducible refine below_drewN ?_ _) | (with_reducible refine Below.drew ?_) | (with_reducible refine Below.setCell ?_ ?_ _) | (with_reducible exact Nat.le_refl _) | omega | (simp only [World.size_alloc, World.size_setCell, World.size_drew, World.heap_drewN]; omega) | (simp; omega)))) hb1
  have HR1 := Lib.hid (HR0.out.below hb1)
  have hsz := hb.size
  by_cases h5 : (piecesB 32 s).length = 5
  · obtain ⟨a, b, c, d, x, hp⟩ := five h5
    have hz := pieces_small (s := s) (n := 9223372036854775807) 32 (by omega)
    have hRB := rb_five hp
    rw [hp] at hss hz
    obtain ⟨g, cap, rfl, hc1, hc2, hg, hat⟩ := hss
    have hx4 : w1.cell? ⟨g, 4, none⟩ = some (.string x) := hat 4 x rfl
    have HX4 := Lib.hid hx4
    have HS4 : Hid (Ss w1 (.slice (some ⟨g, 0, none⟩) 4 cap) [a, b, c, d]) := Lib.hid ⟨g, cap, rfl, by simp at hc1 ⊢; omega, hc2, hg, fun i y hy => hat i y (by
      have : i < 4 := by have := (List.getElem?_eq_some_iff.1 hy).1; simpa using this
      rw [show [a, b, c, d, x] = [a, b, c, d] ++ [x] from rfl, List.getElem?_append_left (by simpa using this)]
      exact hy)⟩
    have HZ4 : Hid (∀ y ∈ [a, b, c, d], y.size ≤ 9223372036854775807) := Lib.hid fun y hy => hz y (by
      rw [show [a, b, c, d, x] = [a, b, c, d] ++ [x] from rfl]
      exact List.mem_append_left _ hy)
    have HP := Lib.hid hp
    have HB := Lib.hid hb
    have HRB := Lib.hid hRB
    have hc4 : (4 : Int) ≤ (cap : Int) := by simp at hc1; omega
    clear hat hz hp hb hRB hx4 h5
    go_wp2_with fail
    refine (numbersOf_any [a, b, c, d] _ _ HS4.out (by simp) HZ4.out).mono ?_
    rintro e w2 ⟨u, rfl, hu, hb2⟩
    have HB2 := Lib.hid (HB.out.trans (hb2.mono hsz))
    have HR2 := Lib.hid (HR1.out.below hb2)
    have hX2 := (Below.cell hb2 (p := ⟨g, 4, none⟩) hg).trans HX4.out
    have hg2 := Nat.lt_of_lt_of_le hg hb2.size
    cases hN : [a, b, c, d].all numOk
    · have hK : rbOk (piecesB 32 s) = false := by
        rw [HRB.out]
        simp only [List.all_cons, List.all_nil, Bool.and_true] at hN
        simp only [Bool.and_assoc] at hN ⊢
        simp [hN]
        simp_all
      obtain ⟨⟨r, r0, r1, r2, r3, r4⟩, rf⟩ := HR2.out.parts
      have HK := Lib.hid (show rbK s = 5 by simp [rbK, hK])
      have HV := Lib.hid (show rbV s = (0, 0, 0, 0, false) by simp [rbV, hK])
      clear hu hN hK
      go_wp2
      have hbE := HB2.out
      exact bodyPost_ret (v := .tuple #[.agg #[.float .f32 0, .float .f32 0, .float .f32 0, .float .f32 0, .bool false], .int .i64 5]) (by simp [results, Tryd.results5, go_sem, *]) rfl ⟨by rw [HK.out, HV.out], by (repeat' (first | (with_reducible exact Below.refl _ _) | (with_reducible assumption) | (with_reducible refine Below.alloc ?_ ?_ _) | (with_reducible refine below_drewN ?_ _) | (with_reducible refine Below.drew ?_) | (with_reducible refine Below.setCell ?_ ?_ _) | (with_reducible exact Nat.le_refl _) | omega | (simp only [World.size_alloc, World.size_setCell, World.size_drew, World.heap_drewN]; omega) | (simp; omega)))⟩
    · have ho := hu hN
      simp only [List.all_cons, List.all_nil, Bool.and_true, Bool.and_eq_true] at hN
      obtain ⟨na, nb, nc, nd⟩ := hN
      have hT := text_back HP.out na nb nc nd
      have hK : rbOk (piecesB 32 s) = decide (beltText (readV a) (readV b) (readV c) (readV d) (decide (x = crossB)) = s) := by rw [HRB.out, hT, na, nb, nc, nd]; rfl
      rcases own_val ho with ⟨_, h0⟩ | ⟨g2, cap2, rfl, hg2b, hgs2, hcap2, _⟩
      · simp at h0
      have d0 := own_cell ho (j := 0) (u := .float .f32 (readV a)) rfl
      have d1 := own_cell ho (j := 1) (u := .float .f32 (readV b)) rfl
      have d2 := own_cell ho (j := 2) (u := .float .f32 (readV c)) rfl
      have d3 := own_cell ho (j := 3) (u := .float .f32 (readV d)) rfl
      have HK := Lib.hid hK
      clear hu na nb nc nd hT hK ho
      go_wp2
      go_region
      have hxe : (x.toList == [99, 114, 111, 115, 115, 101, 100]) = decide (x = crossB) := by
        have h7 : crossB.toList = [99, 114, 111, 115, 115, 101, 100] := by rw [ByteArray.toList_eq]; rfl
        rw [← str_eql, h7]
      rw [hxe]
      generalize hX : decide (x = crossB) = X at *
      clear hxe
      have hbA : Below w2.heap.size w2 ((w2.alloc (.cells #[.float .f32 (readV a), .float .f32 (readV b), .float .f32 (readV c), .float .f32 (readV d), .bool X] 24)).drew) := ((Below.refl _ _).alloc (Nat.le_refl _) _).drew
      have HA := Lib.hid hbA
      have HX := Lib.hid hX
      clear hbA hX d0 d1 d2 d3
      cases hE : decide (beltText (readV a) (readV b) (readV c) (readV d) X = s)
      · have hne : ((beltText (readV a) (readV b) (readV c) (readV d) X).toList == s.toList) = false := by rw [str_eql, hE]
        have hK2 : rbOk (piecesB 32 s) = false := by rw [HK.out, hE]
        have HK2 := Lib.hid (show rbK s = 5 by simp [rbK, hK2])
        have HV := Lib.hid (show rbV s = (0, 0, 0, 0, false) by simp [rbV, hK2])
        clear hE hK2
        go_wp2_with fail
        refine (implBeltText_any (readV a) (readV b) (readV c) (readV d) X (readV_lt a) (readV_lt b) (readV_lt c) (readV_lt d) _).mono ?_
        rintro e w3 ⟨rfl, hb3⟩
        have hbE := HB2.out.trans ((HA.out.trans (hb3.mono HA.out.size)).mono HB2.out.size)
        obtain ⟨⟨r, r0, r1, r2, r3, r4⟩, rf⟩ := ((HR2.out.below HA.out).below hb3).parts
        go_wp2
        exact bodyPost_ret (v := .tuple #[.agg #[.float .f32 0, .float .f32 0, .float .f32 0, .float .f32 0, .bool false], .int .i64 5]) (by simp [results, Tryd.results5, go_sem, *]) rfl ⟨by rw [HK2.out, HV.out], by (repeat' (first | (with_reducible exact Below.refl _ _) | (with_reducible assumption) | (with_reducible refine Below.alloc ?_ ?_ _) | (with_reducible refine below_drewN ?_ _) | (with_reducible refine Below.drew ?_) | (with_reducible refine Below.setCell ?_ ?_ _) | (with_reducible exact Nat.le_refl _) | omega | (simp only [World.size_alloc, World.size_setCell, World.size_drew, World.heap_drewN]; omega) | (simp; omega)))⟩
      · have hne : ((beltText (readV a) (readV b) (readV c) (readV d) X).toList == s.toList) = true := by rw [str_eql, hE]
        have hK2 : rbOk (piecesB 32 s) = true := by rw [HK.out, hE]
        have HK2 := Lib.hid (show rbK s = 0 by simp [rbK, hK2])
        have HV := Lib.hid (show rbV s = (readV a, readV b, readV c, readV d, X) by rw [rbV, if_pos hK2, HP.out, ← HX.out]; rfl)
        have HBt := Lib.hid (beltAt_box w2 24 (readV a) (readV b) (readV c) (readV d) X)
        clear hE hK2
        go_wp2_with fail
        refine (implBeltText_any (readV a) (readV b) (readV c) (readV d) X (readV_lt a) (readV_lt b) (readV_lt c) (readV_lt d) _).mono ?_
        rintro e w3 ⟨rfl, hb3⟩
        have hbE := HB2.out.trans ((HA.out.trans (hb3.mono HA.out.size)).mono HB2.out.size)
        obtain ⟨⟨r, r0, r1, r2, r3, r4⟩, rf⟩ := ((HR2.out.below HA.out).below hb3).parts
        obtain ⟨b0, b1, b2, b3, b4⟩ := (HBt.out.under (by simp) (show Below (w2.alloc (.cells #[.float .f32 (readV a), .float .f32 (readV b), .float .f32 (readV c), .float .f32 (readV d), .bool X] 24)).heap.size _ w3 from (Below.refl _ _).drew.trans hb3)).flat
        have hw2s : w2.heap.size < w3.heap.size := by have := hb3.size; simp at this; omega
        have hwne : w.heap.size < w2.heap.size := HR2.out.1
        go_wp2
        exact bodyPost_ret (v := .tuple #[.agg #[.float .f32 (readV a), .float .f32 (readV b), .float .f32 (readV c), .float .f32 (readV d), .bool X], .int .i64 0]) (by simp [results, Tryd.results5, go_sem, *]) rfl ⟨by rw [HK2.out, HV.out], by (repeat' (first | (with_reducible exact Below.refl _ _) | (with_reducible assumption) | (with_reducible refine Below.alloc ?_ ?_ _) | (with_reducible refine below_drewN ?_ _) | (with_reducible refine Below.drew ?_) | (with_reducible refine Below.setCell ?_ ?_ _) | (with_reducible exact Nat.le_refl _) | omega | (simp only [World.size_alloc, World.size_setCell, World.size_drew, World.heap_drewN]; omega) | (simp; omega)))⟩
  · have hK := rb_not h5
    obtain ⟨g, cap, rfl, hc1, hc2, hg, hat⟩ := hss
    have HK := Lib.hid (show rbK s = 5 by simp [rbK, hK])
    have HV := Lib.hid (show rbV s = (0, 0, 0, 0, false) by simp [rbV, hK])
    have hl5 : (((piecesB 32 s).length : Int) != 5) = true := bne_iff_ne.2 (by omega)
    obtain ⟨⟨r, r0, r1, r2, r3, r4⟩, rf⟩ := HR1.out.parts
    clear hat hK h5
    go_wp2
    exact bodyPost_ret (v := .tuple #[.agg #[.float .f32 0, .float .f32 0, .float .f32 0, .float .f32 0, .bool false], .int .i64 5]) (by simp [results, Tryd.results5, go_sem, *]) rfl ⟨by rw [HK.out, HV.out], by (repeat' (first | (with_reducible exact Below.refl _ _) | (with_reducible assumption) | (with_reducible refine Below.alloc ?_ ?_ _) | (with_reducible refine below_drewN ?_ _) | (with_reducible refine Below.drew ?_) | (with_reducible refine Below.setCell ?_ ?_ _) | (with_reducible exact Nat.le_refl _) | omega | (simp only [World.size_alloc, World.size_setCell, World.size_drew, World.heap_drewN]; omega) | (simp; omega)))⟩

end Go.Proofs.YtljigmplmlhdnaaDoor
