/- Contracts: a text is cut at a byte (the reference's own function, and strings.Split); rows of texts. -/
import Derived.Test.YtkgfepakedieaaaDoorSplitP
import Derived.Test.YtkgfepakedieaaaDoorCtRn
import Derived.Test.YtkgfepakedieaaaDoorMem
import Derived.Test.YtkgfepakedieaaaDoorShelf
import Derived.Deep.AppendLies
namespace Go.Proofs.YtkgfepakedieaaaDoor
open Go.RowKit

theorem info_strT : (Tryd.prog.info? 9).map (fun i => (i.zero, i.size, i.bytes)) = some (some (.string ⟨#[]⟩), 1, 16) := by kernel_rfl
def cellsW (ws : List ByteArray) : List Value := ws.map Value.string
/-- A row of texts. -/
def Ss (w : World) (v : Value) (ws : List ByteArray) : Prop :=
  ∃ (g cap : Nat), v = .slice (some ⟨g, 0, none⟩) ws.length cap ∧ ws.length ≤ cap ∧ cap ≤ maxLen ∧ g < w.heap.size ∧ ∀ (i : Nat) x, ws[i]? = some x → w.cell? ⟨g, i, none⟩ = some (.string x)
theorem Ss.below {w w' : World} {v : Value} {ws : List ByteArray} (h : Ss w v ws) (hb : Below w.heap.size w w') : Ss w' v ws := by
  obtain ⟨g, cap, rfl, h1, h2, hg, hc⟩ := h
  exact ⟨g, cap, rfl, h1, h2, Nat.lt_of_lt_of_le hg hb.size, fun i x hx => (Below.cell hb (p := ⟨g, _, none⟩) hg).trans (hc i x hx)⟩
theorem ss_of_own {w : World} {base : Nat} {e : TypeId} {v : Value} {ws : List ByteArray} (h : w.ownsRow base e 1 v ws.length (cellsW ws)) (hp : 0 < ws.length) : Ss w v ws := by
  rcases own_val h with ⟨_, h0⟩ | ⟨g, cap, rfl, hg, hgs, hcap, hm⟩
  · omega
  · exact ⟨g, cap, rfl, hcap, hm, hgs, fun i x hx => own_cell h (by simp [cellsW, hx])⟩

theorem piece_mk (s : ByteArray) (f i : Nat) : s.extract f i = ⟨((s.data.toList.drop f).take (i - f)).toArray⟩ := by
  apply ByteArray.ext
  apply Array.toList_inj.1
  rw [ByteArray.data_extract]
  simp
theorem splitL_len (c : UInt8) : ∀ (l : List UInt8), (splitL c l).length ≤ l.length + 1
  | [] => Nat.le_refl _
  | b :: l => by
    have ih := splitL_len c l
    unfold splitL
    split
    · simpa using ih
    · cases h : splitL c l with
      | nil => simp
      | cons p ps =>
        rw [h] at ih
        simp only [List.length_cons] at ih ⊢
        omega
theorem splitL_nil_pos (c : UInt8) (l : List UInt8) : 0 < (splitL c l).length := by
  cases h : splitL c l with
  | nil => exact absurd h (splitL_ne _ _)
  | cons => simp

set_option maxRecDepth 20000 in
set_option maxHeartbeats 2000000 in
theorem l01Split_own (s : ByteArray) (c : UInt8) (hs : s.size ≤ 1099511627776) (w : World) :
    Calls Tryd.prog 22 #[.string s, .int .u8 (c.toNat : Int)] w fun e w' => ∃ v, e = .returned v ∧ w'.ownsRow w.heap.size 9 1 v (piecesB c s).length (cellsW (piecesB c s)) ∧ Below w.heap.size w w' := by
  obtain ⟨i0, hi, hz0, hz1, hz2⟩ := info_parts info_strT
  go_enter Tryd.func22, Tryd.ntmps22
  go_wp2
  go_loopw [5, 6, 7] (fun u f k wr => ∃ (j g : Nat) (ps : List (List UInt8)), j ≤ s.size ∧ ps.length ≤ j ∧ k = .int .i64 (j : Int) ∧ f = .int .i64 (g : Int) ∧ g ≤ j ∧ wr.ownsRow w.heap.size 9 1 u ps.length (cellsW (ps.map fun l => ⟨l.toArray⟩)) ∧ Hid (Cutting c s.data.toList ps g j) ∧ Below w.heap.size w wr)
    (fun _ _ k _ => (s.size - intOf k).toNat)
  case atStart =>
    refine ⟨0, 0, [], by omega, by simp, rfl, rfl, by omega, ?_, Lib.hid (Cutting.start _ _), by (repeat' (first | (with_reducible exact Below.refl _ _) | (with_reducible assumption) | (with_reducible refine Below.alloc ?_ ?_ _) | (with_reducible refine below_drewN ?_ _) | (with_reducible refine Below.drew ?_) | (with_reducible refine Below.setCell ?_ ?_ _) | (with_reducible exact Nat.le_refl _) | omega | (simp only [World.size_alloc, World.size_setCell, World.size_drew, World.heap_drewN]; omega) | (simp; omega)))⟩
    exact own_lit w w.heap.size 9 (size := 1) 0 #[] (Nat.le_refl _) (by decide) rfl
  case round =>
    obtain ⟨j, g, ps, hj, hpj, rfl, rfl, hgj, ho, hC, hb⟩ := hrel
    by_cases hlt : j < s.size
    · have hlts : (j : Int) < (s.size : Int) := by omega
      have hg0 := byte_get s j hlt
      have hsz := hb.size
      have HO := Lib.hid ho
      have HG := Lib.hid hg0
      clear ho hg0
      by_cases hc : s[j]'hlt = c
      · have hcc : (((s[j]'hlt).toNat : Int) == (c.toNat : Int)) = true := by rw [hc]; simp
        have HC2 := Lib.hid (hC.out.cut (by rw [HG.out, hc]))
        have HE := Lib.hid (piece_mk s g j)
        have hgi : (g : Int) ≤ (j : Int) := by omega
        have hji : (j : Int) ≤ (s.size : Int) := by omega
        clear hc
        go_wp2_with (at_builtin; refine wpList_append_lies _ rfl _ _ _ rfl w.heap.size 9 i0 _ 1 16 Tryd.underlying41 hi hz0 hz1 hz2 rfl (by decide) _ _ _ rfl (HO.out.alloc _) ⟨wr.heap.size, 0, none⟩ 1 1 _ rfl (by rfl) (World.news_of_block (heap_alloc_new wr _)) (by intro u hu; simp at hu; subst hu; rfl) (by decide) (by unfold maxLen; omega) (by omega) (by simp; omega) _ rfl ?_; intro g' cap' w10 hown1 hgrow hat hlt1)
        have hb10 : Below w.heap.size w w10 := (hb.alloc hsz _).grown hgrow (by simp; omega) (fun g hg => (HO.out.lt g hg).1)
        have HO1 := Lib.hid hown1
        clear hown1 hgrow hat hlt1
        refine ⟨⟨j + 1, j + 1, ps ++ [((s.data.toList.drop g).take (j - g))], by omega, by simp; omega, by go_num, by go_num, by omega, ?_, HC2, hb10⟩, by simp [intOf]; omega⟩
        have h9 := HO1.out
        rw [HE.out] at h9
        simpa [cellsW] using h9
      · have hcc : (((s[j]'hlt).toNat : Int) == (c.toNat : Int)) = false := by
          rw [natCast_beq, beq_eq_false_iff_ne]
          exact fun e => hc (UInt8.toNat_inj.1 e)
        have HC2 := Lib.hid (hC.out.on HG.out hc)
        clear hc
        go_wp2
        exact ⟨⟨j + 1, g, ps, by omega, by omega, by go_num, rfl, by omega, HO.out, HC2, hb⟩, by simp [intOf]; omega⟩
    · obtain rfl : j = s.size := by omega
      have hsz := hb.size
      have HO := Lib.hid ho
      have hgi : (g : Int) ≤ (s.size : Int) := by omega
      have hE : s.extract g s.size = ⟨(s.data.toList.drop g).toArray⟩ := by
        rw [piece_mk, List.take_of_length_le]
        simp
      have HE := Lib.hid hE
      have hD : piecesB c s = (ps ++ [s.data.toList.drop g]).map fun l => ⟨l.toArray⟩ := by
        unfold piecesB
        rw [Cutting.done (f := g) (by have h := hC.out; rwa [show s.size = s.data.toList.length by simp] at h)]
      have HD := Lib.hid hD
      clear ho hE hD
      go_wp2_with (at_builtin; refine wpList_append_lies _ rfl _ _ _ rfl w.heap.size 9 i0 _ 1 16 Tryd.underlying41 hi hz0 hz1 hz2 rfl (by decide) _ _ _ rfl (HO.out.alloc _) ⟨wr.heap.size, 0, none⟩ 1 1 _ rfl (by rfl) (World.news_of_block (heap_alloc_new wr _)) (by intro u hu; simp at hu; subst hu; rfl) (by decide) (by unfold maxLen; omega) (by omega) (by simp; omega) _ rfl ?_; intro g' cap' w10 hown1 hgrow hat hlt1)
      have hb10 : Below w.heap.size w w10 := (hb.alloc hsz _).grown hgrow (by simp; omega) (fun g hg => (HO.out.lt g hg).1)
      have HO1 := Lib.hid hown1
      clear hown1 hgrow hat hlt1
      go_ret
      refine ⟨_, rfl, ?_, hb10⟩
      rw [HD.out]
      have h9 := HO1.out
      rw [HE.out] at h9
      simpa [cellsW] using h9

theorem pieces_pos (c : UInt8) (s : ByteArray) : 0 < (piecesB c s).length := by
  unfold piecesB
  rw [List.length_map]
  exact splitL_nil_pos _ _
theorem l01Split_any (s : ByteArray) (c : UInt8) (hs : s.size ≤ 1099511627776) (w : World) :
    Calls Tryd.prog 22 #[.string s, .int .u8 (c.toNat : Int)] w fun e w' => ∃ v, e = .returned v ∧ Ss w' v (piecesB c s) ∧ Below w.heap.size w w' :=
  (l01Split_own s c hs w).mono fun _ _ ⟨v, h1, h2, h3⟩ => ⟨v, h1, ss_of_own h2 (pieces_pos c s), h3⟩

set_option maxRecDepth 20000 in
set_option maxHeartbeats 1000000 in
theorem split_any (s : ByteArray) (c : UInt8) (hs : s.size < 4294967281) (m : Int) (w : World) (hm : w.cell? ⟨1, 0, none⟩ = some (.int .i64 m)) :
    Calls Tryd.prog 26 #[.string s, .string ⟨#[c]⟩] w fun e w' => ∃ v, e = .returned v ∧ Ss w' v (piecesB c s) ∧ Below w.heap.size w w' := by
  refine (Tryd.strings_Split s ⟨#[c]⟩ m w hs hm (Nat.le_refl 1)).mono ?_
  rintro e w' ⟨rfl, rfl⟩
  have hl := pieces_len c s
  have hle : Lib.countB s ⟨#[c]⟩ ≤ s.size := by
    have h1 := splitL_len c s.data.toList
    have h2 := (splitB_eq c s).2
    have h3 : s.data.toList.length = s.size := by simp
    omega
  refine ⟨_, rfl, ⟨w.heap.size, Lib.countB s ⟨#[c]⟩ + 1, by rw [hl], by omega, by unfold maxLen; omega, by simp, fun i x hx => ?_⟩, (Below.refl _ _).alloc (Nat.le_refl _) _⟩
  rw [splitB_pieces]
  rw [World.cell?_alloc_at]
  · simp [hx]
  · rfl

end Go.Proofs.YtkgfepakedieaaaDoor
