/- Contracts: the text of a belt. -/
import Derived.Test.YtljigmplmlhdnaaDoorCtRn
import Derived.Test.YtljigmplmlhdnaaDoorCtC
import Derived.Test.YtljigmplmlhdnaaDoorCtH
import Derived.Test.YtljigmplmlhdnaaDoorMk2
import Derived.Test.YtljigmplmlhdnaaDoorShelf
import Derived.Test.YtljigmplmlhdnaaDoorLoose2
import Derived.Deep.AppendLies
namespace Go.Proofs.YtljigmplmlhdnaaDoor
open Go.RowKit

theorem info_str : (Tryd.prog.info? 9).map (fun i => (i.zero, i.size, i.bytes)) = some (some (.string ⟨#[]⟩), 1, 16) := by kernel_rfl
theorem numText_size (x : Nat) : (numText x).size = 8 := by
  show (hexL (cn x)).toArray.size = 8
  simp [hexL_len]
theorem numText_len (x : Nat) : (numText x).data.toList.length = 8 := by
  rw [Array.length_toList]
  exact numText_size x
def cellsS (xs : List Nat) : List Value := xs.map fun x => .string (numText x)
/-- The texts of numbers, with something between. -/
def textsB (sep : ByteArray) (xs : List Nat) : ByteArray := ⟨(Lib.join (xs.map fun x => (numText x).data.toList) sep.data.toList).toArray⟩
theorem lens_num (xs : List Nat) : Lib.lens (xs.map fun x => (numText x).data.toList) = 8 * xs.length := by
  induction xs with
  | nil => rfl
  | cons x xs ih =>
    simp only [Lib.lens, List.map_cons, List.sum_cons, List.length_cons] at ih ⊢
    rw [ih, numText_len]
    omega

set_option maxRecDepth 20000 in
set_option maxHeartbeats 2000000 in
theorem texts_any (sep : ByteArray) (xs : List Nat) (v : Value) (w : World) (hsep : sep.size ≤ 8) (hv : Fs w v xs) (hx : ∀ x ∈ xs, x < 2 ^ 32) (h1 : 1 ≤ xs.length) (h8 : xs.length ≤ 8) :
    Calls Tryd.prog 20 #[.string sep, v] w fun e w' => e = .returned (.string (textsB sep xs)) ∧ Below w.heap.size w w' := by
  obtain ⟨a, cap, rfl, hn, hcell⟩ := hv
  obtain ⟨b, off, rfl, hbl, hat⟩ := hcell (by omega)
  obtain ⟨i0, hi, hz0, hz1, hz2⟩ := info_parts info_str
  clear hcell
  go_enter Tryd.func20, Tryd.ntmps20
  go_wp2
  go_loopw [5, 11] (fun u k wr => ∃ j : Nat, j ≤ xs.length ∧ k = .int .i64 (j : Int) ∧ wr.ownsRow w.heap.size 9 1 u j (cellsS (xs.take j)) ∧ Below w.heap.size w wr)
    (fun _ k _ => (xs.length - intOf k).toNat)
  case atStart =>
    refine ⟨0, by omega, rfl, ?_, by (repeat' (first | (with_reducible exact Below.refl _ _) | (with_reducible assumption) | (with_reducible refine Below.alloc ?_ ?_ _) | (with_reducible refine below_drewN ?_ _) | (with_reducible refine Below.drew ?_) | (with_reducible refine Below.setCell ?_ ?_ _) | (with_reducible exact Nat.le_refl _) | omega | (simp only [World.size_alloc, World.size_setCell, World.size_drew, World.heap_drewN]; omega) | (simp; omega)))⟩
    exact own_lit w w.heap.size 9 (size := 1) 0 #[] (Nat.le_refl _) (by decide) rfl
  case round =>
    obtain ⟨j, hj, rfl, ho, hb⟩ := hrel
    by_cases hlt : j < xs.length
    · obtain ⟨y, hy⟩ : ∃ y, xs[j]? = some y := ⟨_, List.getElem?_eq_getElem hlt⟩
      have hsz := hb.size
      have d0 := (Below.cell hb (p := ⟨b, _, none⟩) hbl).trans (hat j y hy)
      have hyl : y < 2 ^ 32 := hx y (List.mem_of_getElem? hy)
      have HO := Lib.hid ho
      have hE : cellsS (xs.take (j + 1)) = cellsS (xs.take j) ++ [.string (numText y)] := by
        rw [List.take_add_one, hy]
        simp [cellsS]
      have HE := Lib.hid hE
      have HAt := Lib.hid hat
      clear ho hE hy hat
      go_wp2_with (first | (go_at_call 26; refine (implNumberText_any y hyl _).mono ?_; (rintro e w2 ⟨rfl, hb2⟩; have ho2 := own_after HO.out hb2; have hb9 := hb.trans (hb2.mono hsz); have hs9 := hb9.size)) | (at_builtin; refine wpList_append_lies _ rfl _ _ _ rfl w.heap.size 9 i0 _ 1 16 Tryd.underlying29 hi hz0 hz1 hz2 rfl (by decide) _ _ _ rfl (ho2.alloc _) ⟨w2.heap.size, 0, none⟩ 1 1 _ rfl (by rfl) (World.news_of_block (heap_alloc_new w2 _)) (by intro u hu; simp at hu; subst hu; rfl) (by decide) (by unfold maxLen; omega) (by omega) (by simp; omega) _ rfl ?_; intro g cap' w10 hown1 hgrow hat hlt1))
      have hb10 : Below w.heap.size w w10 := (hb9.alloc hs9 _).grown hgrow (by simp; omega) (fun g hg => (HO.out.lt g hg).1)
      have HO1 := Lib.hid hown1
      clear hown1 hgrow hat hlt1
      exact ⟨⟨j + 1, by omega, rfl, by rw [HE.out]; exact HO1.out, hb10⟩, by simp [intOf]; omega⟩
    · obtain rfl : j = xs.length := by omega
      rcases own_val ho with ⟨_, h0⟩ | ⟨g, cap2, rfl, hg, hgs, hcap, _⟩
      · omega
      have HJ := Lib.hid (Tryd.strings_Join g 0 cap2 (xs.map numText) sep wr (fun i x hx => by
        rw [Nat.zero_add]
        refine own_cell ho ?_
        rw [List.take_length]
        simp only [cellsS, List.getElem?_map] at hx ⊢
        cases h : xs[i]? with
        | none => rw [h] at hx; simp at hx
        | some y => rw [h] at hx; simp at hx; subst hx; rfl) hgs (by simp; omega) (by simpa using hcap) (by
          obtain ⟨y, ys, rfl⟩ : ∃ y ys, xs = y :: ys := by
            cases xs with
            | nil => simp at h1
            | cons y ys => exact ⟨y, ys, rfl⟩
          simp only [List.map_map]
          have h2 := lens_num (y :: ys)
          rw [List.map_cons] at h2
          show (Lib.join (List.map (fun x => (numText x).data.toList) (y :: ys)) _).length ≤ _
          rw [List.map_cons, Lib.join_length, h2, Array.length_toList]
          simp only [List.length_map, List.length_cons] at h8 ⊢
          have h9 : sep.data.size ≤ 8 := hsep
          have : sep.data.size * ys.length ≤ 8 * 8 := Nat.mul_le_mul h9 (by omega)
          omega))
      rw [List.length_map] at HJ
      clear ho hcap hat
      go_wp2_with (go_at_call 29; refine (HJ.out).mono ?_; rintro e w2 ⟨rfl, hb2⟩)
      go_ret
      exact ⟨rfl, below_then hb hb2⟩

def wordB (x : Bool) : ByteArray := if x then ⟨#[32, 99, 114, 111, 115, 115, 101, 100]⟩ else ⟨#[32, 111, 112, 101, 110]⟩
def beltText (a b c d : Nat) (x : Bool) : ByteArray := if beltB a b c d then textsB ⟨#[32]⟩ [a, b, c, d] ++ wordB x else ⟨#[]⟩
theorem texts4 (a b c d : Nat) : textsB ⟨#[32]⟩ [a, b, c, d] = numText a ++ ⟨#[32]⟩ ++ numText b ++ ⟨#[32]⟩ ++ numText c ++ ⟨#[32]⟩ ++ numText d := by
  apply ByteArray.ext
  apply Array.toList_inj.1
  simp [textsB, Lib.join, List.intercalate, ByteArray.data_append]
theorem texts4_size (a b c d : Nat) : (textsB ⟨#[32]⟩ [a, b, c, d]).size = 35 := by
  rw [texts4]
  simp only [ByteArray.size_append, numText_size]
  rfl

theorem fs_lit4 (w : World) (a b c d : Nat) : Fs (w.alloc (.cells #[.float .f32 a, .float .f32 b, .float .f32 c, .float .f32 d] 22)) (.slice (some ⟨w.heap.size, 0, none⟩) 4 4) [a, b, c, d] :=
  fs_of_own (xs := [a, b, c, d]) (own_lit w w.heap.size 22 (size := 1) 4 #[.float .f32 a, .float .f32 b, .float .f32 c, .float .f32 d] (Nat.le_refl _) (by decide) rfl)

set_option maxRecDepth 20000 in
set_option maxHeartbeats 2000000 in
theorem implBeltText_any (a b c d : Nat) (x : Bool) (ha : a < 2 ^ 32) (hb : b < 2 ^ 32) (hc : c < 2 ^ 32) (hd : d < 2 ^ 32) (w : World) :
    Calls Tryd.prog 12 #[.agg #[.float .f32 a, .float .f32 b, .float .f32 c, .float .f32 d, .bool x]] w fun e w' => e = .returned (.string (beltText a b c d x)) ∧ Below w.heap.size w w' := by
  have hx : ∀ y ∈ [a, b, c, d], y < 2 ^ 32 := by simp [ha, hb, hc, hd]
  go_enter Tryd.func12, Tryd.ntmps12
  cases hB : beltB a b c d
  · go_wp2_with (go_at_call 19; refine (implValidBelt_any _ _ _ _ _ _).mono ?_; (rintro e w2 ⟨rfl, hb2⟩; rw [hB]))
    go_ret
    exact ⟨by simp [beltText, hB], below_then (by (repeat' (first | (with_reducible exact Below.refl _ _) | (with_reducible assumption) | (with_reducible refine Below.alloc ?_ ?_ _) | (with_reducible refine below_drewN ?_ _) | (with_reducible refine Below.drew ?_) | (with_reducible refine Below.setCell ?_ ?_ _) | (with_reducible exact Nat.le_refl _) | omega | (simp only [World.size_alloc, World.size_setCell, World.size_drew, World.heap_drewN]; omega) | (simp; omega)))) hb2⟩
  · go_wp2_with fail
    refine (implValidBelt_any _ _ _ _ _ _).mono ?_
    rintro e w2 ⟨rfl, hb2⟩
    have HX := Lib.hid hx
    obtain ⟨hc2, hf2, hz2⟩ := below_reads hb2
    have hs2 : w.heap.size + 1 ≤ w2.heap.size := by simpa using hz2
    have b0 := (hc2 w.heap.size 0 (by simp <;> omega)).trans (show _ = some (.float .f32 a) by go_simp)
    have b1 := (hc2 w.heap.size 1 (by simp <;> omega)).trans (show _ = some (.float .f32 b) by go_simp)
    have b2 := (hc2 w.heap.size 2 (by simp <;> omega)).trans (show _ = some (.float .f32 c) by go_simp)
    have b3 := (hc2 w.heap.size 3 (by simp <;> omega)).trans (show _ = some (.float .f32 d) by go_simp)
    have b4 := (hc2 w.heap.size 4 (by simp <;> omega)).trans (show _ = some (.bool x) by go_simp)
    have hbw : Below w.heap.size w w2 := below_then (by (repeat' (first | (with_reducible exact Below.refl _ _) | (with_reducible assumption) | (with_reducible refine Below.alloc ?_ ?_ _) | (with_reducible refine below_drewN ?_ _) | (with_reducible refine Below.drew ?_) | (with_reducible refine Below.setCell ?_ ?_ _) | (with_reducible exact Nat.le_refl _) | omega | (simp only [World.size_alloc, World.size_setCell, World.size_drew, World.heap_drewN]; omega) | (simp; omega)))) hb2
    have h35 := texts4_size a b c d
    clear hc2 hf2 hz2 hb2 hx
    rw [hB]
    have hbA : Below w.heap.size w (w2.alloc (.cells #[.float .f32 a, .float .f32 b, .float .f32 c, .float .f32 d] 22)) := hbw.alloc (by omega) _
    have HBA := Lib.hid hbA
    clear hbA hbw
    cases x
    · go_wp2_with fail
      refine (texts_any ⟨#[32]⟩ [a, b, c, d] _ _ (by decide) (fs_lit4 _ a b c d) HX.out (by simp) (by simp)).mono ?_
      rintro e w3 ⟨rfl, hb3⟩
      have hsz : (textsB ⟨#[32]⟩ [a, b, c, d]).size + (⟨#[32, 111, 112, 101, 110]⟩ : ByteArray).size ≤ 9223372036854775807 := by rw [h35]; decide
      go_wp2
      go_ret
      exact ⟨by simp [beltText, hB, wordB], below_then HBA.out hb3⟩
    · go_wp2_with fail
      refine (texts_any ⟨#[32]⟩ [a, b, c, d] _ _ (by decide) (fs_lit4 _ a b c d) HX.out (by simp) (by simp)).mono ?_
      rintro e w3 ⟨rfl, hb3⟩
      have hsz : (textsB ⟨#[32]⟩ [a, b, c, d]).size + (⟨#[32, 99, 114, 111, 115, 115, 101, 100]⟩ : ByteArray).size ≤ 9223372036854775807 := by rw [h35]; decide
      go_wp2
      go_ret
      exact ⟨by simp [beltText, hB, wordB], below_then HBA.out hb3⟩

end Go.Proofs.YtljigmplmlhdnaaDoor
