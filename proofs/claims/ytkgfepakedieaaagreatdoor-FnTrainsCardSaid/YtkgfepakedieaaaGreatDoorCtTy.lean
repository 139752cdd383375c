/- Contracts: the text of a train. -/
import Derived.Test.YtkgfepakedieaaaGreatDoorCtTx
import Derived.Test.YtkgfepakedieaaaGreatDoorMkZ
import Derived.Test.YtkgfepakedieaaaGreatDoorLoose3
import Derived.Deep.RegionLaw
import Derived.Deep.AppendLies
namespace Go.Proofs.YtkgfepakedieaaaGreatDoor
open Go.RowKit

theorem info_strY : (Tryz.prog.info? 9).map (fun i => (i.zero, i.size, i.bytes)) = some (some (.string ⟨#[]⟩), 1, 16) := by kernel_rfl
/-- The text of a pair. -/
def pairText (p : T3) : ByteArray := decB p.1.toNat ++ ⟨#[47]⟩ ++ decB p.2.1.toNat ++ ⟨#[58]⟩ ++ numText p.2.2
def trainTextB (ps : List T3) : ByteArray := ⟨(Lib.join (ps.map fun p => (pairText p).data.toList) [32]).toArray⟩
def trainText (ps : List T3) : ByteArray := if trainB ps then trainTextB ps else ⟨#[]⟩
theorem numText_sizeY (x : Nat) : (numText x).size = 8 := by
  show (hexL (cn x)).toArray.size = 8
  simp [hexL_len]
theorem join_snoc (xs : List (List UInt8)) (x sep : List UInt8) (h : xs ≠ []) : Lib.join (xs ++ [x]) sep = Lib.join xs sep ++ sep ++ x := by
  cases xs with
  | nil => exact absurd rfl h
  | cons y ys =>
    rw [List.cons_append, Lib.join_cons, Lib.join_cons]
    simp [Lib.joinTail, List.append_assoc]
theorem textB_zero : trainTextB [] = ⟨#[]⟩ := rfl
theorem textB_one (p : T3) : trainTextB [p] = pairText p := by
  apply ByteArray.ext
  apply Array.toList_inj.1
  simp [trainTextB, Lib.join_one]
theorem textB_snoc (ps : List T3) (p : T3) (h : ps ≠ []) : trainTextB (ps ++ [p]) = (trainTextB ps ++ ⟨#[32]⟩) ++ pairText p := by
  apply ByteArray.ext
  apply Array.toList_inj.1
  rw [ByteArray.data_append, ByteArray.data_append]
  unfold trainTextB
  rw [List.map_append, List.map_cons, List.map_nil, join_snoc _ _ _ (by simpa using h)]
  simp
theorem teeth_of {ps : List T3} {p : T3} {j : Nat} (hB : trainB ps = true) (hp : ps[j]? = some p) : 6 ≤ p.1 ∧ p.1 ≤ 200 ∧ 6 ≤ p.2.1 ∧ p.2.1 ≤ 200 := by
  simp only [trainB, Bool.and_eq_true] at hB
  have := List.all_eq_true.1 hB.2 p (List.mem_of_getElem? hp)
  simp [pairB, withinB] at this
  omega
theorem decB_teeth {n : Int} (h : n ≤ 200) : (decB n.toNat).size ≤ 201 := Nat.le_trans (decB_size _) (by omega)
theorem pairText_size {p : T3} (h1 : p.1 ≤ 200) (h2 : p.2.1 ≤ 200) : (pairText p).size ≤ 412 := by
  have a1 := decB_teeth h1
  have a2 := decB_teeth h2
  have b1 : (⟨#[47]⟩ : ByteArray).size = 1 := rfl
  have b2 : (⟨#[58]⟩ : ByteArray).size = 1 := rfl
  unfold pairText
  simp only [ByteArray.size_append, numText_sizeY, b1, b2]
  omega

theorem textB_take (ps : List T3) (hB : trainB ps = true) : ∀ j, j ≤ ps.length → (trainTextB (ps.take j)).size ≤ 413 * j
  | 0, _ => Nat.zero_le _
  | j + 1, h => by
    obtain ⟨p, hp⟩ : ∃ p, ps[j]? = some p := ⟨_, List.getElem?_eq_getElem (by omega)⟩
    obtain ⟨_, h1, _, h2⟩ := teeth_of hB hp
    have hs := pairText_size h1 h2
    have ih := textB_take ps hB j (by omega)
    rw [List.take_add_one, hp]
    show (trainTextB (ps.take j ++ [p])).size ≤ _
    cases j with
    | zero =>
      rw [List.take_zero, List.nil_append, textB_one]
      omega
    | succ j =>
      have hne : ps.take (j + 1) ≠ [] := by
        intro h0
        have := congrArg List.length h0
        rw [List.length_take, List.length_nil] at this
        omega
      have b1 : (⟨#[32]⟩ : ByteArray).size = 1 := rfl
      rw [textB_snoc _ _ hne, ByteArray.size_append, ByteArray.size_append, b1]
      omega
theorem textB_size (ps : List T3) (hl : ps.length ≤ 8) (hB : trainB ps = true) : (trainTextB ps).size ≤ 3304 := by
  have := textB_take ps hB ps.length (Nat.le_refl _)
  rw [List.take_length] at this
  omega

theorem boxed_pairY (w : World) (t : TypeId) (a b : Int) (c : Nat) : ∃ W, w.alloc (.cells #[.int .i16 a, .int .i16 b, .float .f32 c] t) = W ∧ W.heap.size = w.heap.size + 1 ∧ Below w.heap.size w W ∧
    ∀ w1, BelowC W w1 → w1.cell? ⟨w.heap.size, 0, none⟩ = some (.int .i16 a) ∧ w1.cell? ⟨w.heap.size, 1, none⟩ = some (.int .i16 b) ∧ w1.cell? ⟨w.heap.size, 2, none⟩ = some (.float .f32 c) := by
  have c0 : (w.alloc (.cells #[.int .i16 a, .int .i16 b, .float .f32 c] t)).cell? ⟨w.heap.size, 0, none⟩ = some (.int .i16 a) := by simp [World.cell?_alloc_at]
  have c1 : (w.alloc (.cells #[.int .i16 a, .int .i16 b, .float .f32 c] t)).cell? ⟨w.heap.size, 1, none⟩ = some (.int .i16 b) := by simp [World.cell?_alloc_at]
  have c2 : (w.alloc (.cells #[.int .i16 a, .int .i16 b, .float .f32 c] t)).cell? ⟨w.heap.size, 2, none⟩ = some (.float .f32 c) := by simp [World.cell?_alloc_at]
  have hsz : w.heap.size < (w.alloc (.cells #[.int .i16 a, .int .i16 b, .float .f32 c] t)).heap.size := by simp
  exact ⟨_, rfl, by simp, Below.alloc (Below.refl _ _) (Nat.le_refl _) _, fun w1 h => ⟨BelowC.cell c0 hsz w1 h, BelowC.cell c1 hsz w1 h, BelowC.cell c2 hsz w1 h⟩⟩

def cellsP (ps : List T3) : List Value := ps.map fun p => .string (pairText p)

set_option maxRecDepth 20000 in
set_option maxHeartbeats 4000000 in
theorem implTrainText_any (ps : List T3) (v : Value) (w : World) (hv : Tr w v ps) (hp : Pow10 w) :
    Calls Tryz.prog 10 #[v] w fun e w' => e = .returned (.string (trainText ps)) ∧ Below w.heap.size w w' := by
  have HV := Lib.hid hv
  have HP := Lib.hid hp
  clear hv hp
  cases hB : trainB ps
  · obtain ⟨a, cap, rfl, hn, hk, hc⟩ := HV.out
    clear hk hc
    go_enter Tryz.func10, Tryz.ntmps10
    go_wp2_with (go_at_call 17; refine (implValidTrain_any ps _ _ HV.out).mono ?_; (rintro e w1 ⟨rfl, hb1⟩; rw [hB]))
    go_ret
    exact ⟨by simp [trainText, hB], hb1⟩
  · have HB := Lib.hid hB
    have hl : 1 ≤ ps.length ∧ ps.length ≤ 8 := by
      simp [trainB, withinB] at hB
      omega
    have HT := Lib.hid (show trainText ps = trainTextB ps by simp [trainText, hB])
    obtain ⟨a, cap, rfl, hn, hk, hc⟩ := HV.out
    have HK := Lib.hid hk
    have HC := Lib.hid hc
    obtain ⟨i0, hi, hz0, hz1, hz2⟩ := info_parts info_strY
    clear hk hc
    go_enter Tryz.func10, Tryz.ntmps10
    go_wp2_with (go_at_call 17; refine (implValidTrain_any ps _ _ HV.out).mono ?_; (rintro e w1 ⟨rfl, hb1⟩; rw [hB]))
    have hs1 := hb1.size
    go_loopw [3, 12] (fun u k wr => ∃ (j g cap2 : Nat), j ≤ ps.length ∧ k = .int .i64 (j : Int) ∧ u = .slice (some ⟨g, 0, none⟩) j cap2 ∧ wr.ownsRow w.heap.size 9 1 u j (cellsP (ps.take j)) ∧ Below w.heap.size w wr)
      (fun _ k _ => (ps.length - intOf k).toNat)
    case atStart =>
      refine ⟨0, w1.heap.size, 0, by omega, rfl, rfl, ?_, by (repeat' (first | (with_reducible exact Below.refl _ _) | (with_reducible assumption) | (with_reducible refine Below.alloc ?_ ?_ _) | (with_reducible refine below_drewN ?_ _) | (with_reducible refine Below.drew ?_) | (with_reducible refine Below.setCell ?_ ?_ _) | (with_reducible exact Nat.le_refl _) | omega | (simp only [World.size_alloc, World.size_setCell, World.size_drew, World.heap_drewN]; omega) | (simp; omega)))⟩
      exact own_base (own_lit w1 w1.heap.size 9 (size := 1) 0 #[] (Nat.le_refl _) (by decide) rfl) hs1
    case round =>
      clear hb1 hs1
      obtain ⟨j, g, cap2, hj, rfl, rfl, ho, hb⟩ := hrel
      by_cases hlt : j < ps.length
      · obtain ⟨b, off, rfl, hbl, hat⟩ := HC.out (by omega)
        obtain ⟨p, hpj⟩ : ∃ p, ps[j]? = some p := ⟨_, List.getElem?_eq_getElem hlt⟩
        obtain ⟨c0, c1, c2⟩ := hat j p hpj
        obtain ⟨t0, t1, t2, t3⟩ := teeth_of HB.out hpj
        obtain ⟨_, _, hcl⟩ := HK.out p (List.mem_of_getElem? hpj)
        have hsz := hb.size
        have d0 := (Below.cell hb (p := ⟨b, _, none⟩) hbl).trans c0
        have d1 := (Below.cell hb (p := ⟨b, _, none⟩) hbl).trans c1
        have d2 := (Below.cell hb (p := ⟨b, _, none⟩) hbl).trans c2
        have HO := Lib.hid ho
        have hE : cellsP (ps.take (j + 1)) = cellsP (ps.take j) ++ [.string (pairText p)] := by
          rw [List.take_add_one, hpj]
          simp [cellsP]
        have HE := Lib.hid hE
        clear hat c0 c1 c2 ho hE hpj
        obtain ⟨p1, p2, p3⟩ := p
        obtain ⟨n1, rfl⟩ : ∃ n : Nat, p1 = (n : Int) := ⟨p1.toNat, by simp at t0; omega⟩
        obtain ⟨n2, rfl⟩ : ∃ n : Nat, p2 = (n : Int) := ⟨p2.toNat, by simp at t2; omega⟩
        simp only [] at t0 t1 t2 t3 hcl d0 d1 d2
        have a1 : (decB n1).size ≤ 201 := Nat.le_trans (decB_size _) (by omega)
        have a2 : (decB n2).size ≤ 201 := Nat.le_trans (decB_size _) (by omega)
        have k1 : IntKind.i64.wrap (n1 : Int) = (n1 : Int) := by rw [IntKind.wrap_i64]; omega
        have k2 : IntKind.i64.wrap (n2 : Int) = (n2 : Int) := by rw [IntKind.wrap_i64]; omega
        have b1 : (⟨#[47]⟩ : ByteArray).size = 1 := rfl
        have b2 : (⟨#[58]⟩ : ByteArray).size = 1 := rfl
        have s1 : ¬ (9223372036854775807 < (decB n1).size + 1) := by omega
        have s2 : ¬ (9223372036854775807 < (decB n1).size + 1 + (decB n2).size) := by omega
        have s3 : ¬ (9223372036854775807 < (decB n1).size + 1 + (decB n2).size + 1) := by omega
        have s5 : ¬ (9223372036854775807 < (decB n1).size + 1 + (decB n2).size + 1 + 8) := by omega
        have s4 := numText_sizeY p3
        clear b1 b2 a1 a2
        go_wp2_with fail
        obtain ⟨W, hW, hWs, hbW, HBx⟩ := boxed_pairY wr 65 n1 n2 p3
        rw [hW]
        clear hW d0 d1 d2
        have q0 : ∀ w1, BelowC W w1 → _ := fun w1 h => (HBx w1 h).1
        have q1 : ∀ w1, BelowC W w1 → _ := fun w1 h => (HBx w1 h).2.1
        have q2 : ∀ w1, BelowC W w1 → _ := fun w1 h => (HBx w1 h).2.2
        have hdn := @BelowC.drewN W
        have HPx : Hid (∀ w1, BelowC W w1 → Pow10 w1) := Lib.hid (fun w1 h => (HP.out.below (hb.trans (hbW.mono hsz))).below h.out)
        clear HBx
        (refine Loose.wp_region_tail1 16 3 (BelowC W) (Loose.Tab [(37, fun args v => ∀ n : Nat, args = #[.int .i64 (n : Int)] → v = .string (decB n)), (8, fun _ v => v = .string (numText p3))]) (v0 := .slice (some ⟨g, 0, none⟩) j cap2) (by kernel_rfl) rfl rfl (by kernel_rfl) (BelowC.start W) (fun _ _ _ h => h) (.inl ⟨by rfl, fun w => by go_simp⟩) ?_; simp only [List.take_succ_cons, List.take_zero, List.drop_succ_cons, List.drop_zero, Act.put, List.setIfInBounds_toArray, List.set_cons_zero, List.set_cons_succ])
        repeat (apply Loose.det; (focus rfl); (focus (intro wq hwq; go_simp; first | done | (with_reducible rfl))); (simp only [Act.put, List.setIfInBounds_toArray, List.set_cons_zero, List.set_cons_succ]))
        (apply Loose.callT; (focus rfl); (focus (intro wq hwq; go_simp; first | done | (with_reducible exact ⟨rfl, rfl⟩) | (with_reducible rfl))); (focus rfl); (focus (intro w1 h1; refine (decimal_any n1 (by omega) _ (HPx.out _ h1)).mono ?_; rintro e w2 ⟨rfl, h2⟩; exact ⟨_, rfl, by intro x hx; simp at hx; rw [show x = n1 by omega], h1.call h2⟩)); (rintro v hv; (obtain rfl := hv n1 rfl); simp only [Act.put, List.setIfInBounds_toArray, List.set_cons_zero, List.set_cons_succ]))
        repeat (apply Loose.det; (focus rfl); (focus (intro wq hwq; go_simp; first | done | (with_reducible rfl))); (simp only [Act.put, List.setIfInBounds_toArray, List.set_cons_zero, List.set_cons_succ]))
        (apply Loose.callT; (focus rfl); (focus (intro wq hwq; go_simp; first | done | (with_reducible exact ⟨rfl, rfl⟩) | (with_reducible rfl))); (focus rfl); (focus (intro w1 h1; refine (decimal_any n2 (by omega) _ (HPx.out _ h1)).mono ?_; rintro e w2 ⟨rfl, h2⟩; exact ⟨_, rfl, by intro x hx; simp at hx; rw [show x = n2 by omega], h1.call h2⟩)); (rintro v hv; (obtain rfl := hv n2 rfl); simp only [Act.put, List.setIfInBounds_toArray, List.set_cons_zero, List.set_cons_succ]))
        repeat (apply Loose.det; (focus rfl); (focus (intro wq hwq; go_simp; first | done | (with_reducible rfl))); (simp only [Act.put, List.setIfInBounds_toArray, List.set_cons_zero, List.set_cons_succ]))
        (apply Loose.callT; (focus rfl); (focus (intro wq hwq; go_simp; first | done | (with_reducible exact ⟨rfl, rfl⟩) | (with_reducible rfl))); (focus rfl); (focus (intro w1 h1; refine (implNumberText_any p3 hcl _).mono ?_; rintro e w2 ⟨rfl, h2⟩; exact ⟨_, rfl, rfl, h1.call h2⟩)); (rintro v rfl; simp only [Act.put, List.setIfInBounds_toArray, List.set_cons_zero, List.set_cons_succ]))
        repeat (apply Loose.det; (focus rfl); (focus (intro wq hwq; go_simp; first | done | (with_reducible rfl))); (simp only [Act.put, List.setIfInBounds_toArray, List.set_cons_zero, List.set_cons_succ]))
        refine Loose.done ?_
        intro w9 hb2
        have ho9 := own_after (own_after HO.out hbW) hb2
        have hb9 := hb.trans ((hbW.trans (hb2.mono (by omega))).mono hsz)
        have hs9 := hb9.size
        (refine Loose.tail_one 16 (by kernel_rfl) rfl ?_; intro K hK; go_simp; refine hK _ _ ?_; clear hK K)
        (refine Loose.tail_one 17 (by kernel_rfl) rfl ?_; intro K hK; refine step_append_lies _ rfl _ _ _ rfl w.heap.size 9 i0 _ 1 16 Tryz.underlying57 hi hz0 hz1 hz2 rfl (by decide) _ _ _ rfl (ho9.alloc _) ⟨w9.heap.size, 0, none⟩ 1 1 ([Value.string (decB n1 ++ ⟨#[47]⟩ ++ decB n2 ++ ⟨#[58]⟩ ++ numText p3)]) rfl rfl (World.news_of_block (heap_alloc_new w9 _)) (by first | exact cellsF_one _ | (intro u hu; simp at hu; subst hu; rfl) | (intro u hu; simp at hu; rcases hu with rfl | rfl | rfl <;> rfl)) (by decide) (by unfold maxLen; omega) (by omega) (by simp; omega) _ rfl ?_; intro g' cap' w10 hown1 hgrow hat hlt1; refine hK _ _ ?_; clear hK K)
        (refine Loose.tail_one 18 (by kernel_rfl) rfl ?_; intro K hK; go_simp; refine hK _ _ ?_; clear hK K; refine Loose.tail_done (by kernel_rfl) ?_)
        have hb10 : Below w.heap.size w w10 := (hb9.alloc hs9 _).grown hgrow (by simp; omega) (fun g hg => (HO.out.lt g hg).1)
        have HO1 := Lib.hid hown1
        clear hown1 hgrow hat hlt1
        go_wp2
        exact ⟨⟨j + 1, g', cap', by omega, rfl, rfl, by rw [HE.out]; exact HO1.out, hb10⟩, by simp [intOf]; omega⟩
      · obtain rfl : j = ps.length := by omega
        rcases own_val ho with ⟨h0, _⟩ | ⟨g2, cap3, h2, hg, hgs, hcap, _⟩
        · simp at h0
        injection h2 with h3 _ h5
        injection h3 with h3
        injection h3 with h3
        subst h3 h5
        have HJ := Lib.hid (Tryz.strings_Join g 0 cap2 (ps.map pairText) ⟨#[32]⟩ wr (fun i x hx => by
          rw [Nat.zero_add]
          refine own_cell ho ?_
          rw [List.take_length]
          simp only [cellsP, List.getElem?_map] at hx ⊢
          cases h : ps[i]? with
          | none => rw [h] at hx; simp at hx
          | some y => rw [h] at hx; simp at hx; subst hx; rfl) hgs (by simp; omega) (by simpa using hcap) (by
            rw [List.map_map]
            have h9 := textB_size ps hl.2 HB.out
            have h10 : (trainTextB ps).size = (Lib.join (ps.map fun p => (pairText p).data.toList) [32]).length := by
              unfold trainTextB
              exact List.size_toArray
            show (Lib.join (ps.map fun p => (pairText p).data.toList) [32]).length ≤ _
            omega))
        rw [List.length_map] at HJ
        clear ho hcap
        go_wp2_with (go_at_call 38; refine (HJ.out).mono ?_; rintro e w2 ⟨rfl, hb2⟩)
        go_ret
        exact ⟨by rw [HT.out]; rfl, below_then hb hb2⟩

theorem textB_next (ps : List T3) (j : Nat) (p : T3) (h : ps[j]? = some p) (hj : 0 < j) : trainTextB (ps.take (j + 1)) = (trainTextB (ps.take j) ++ ⟨#[32]⟩) ++ pairText p := by
  rw [List.take_add_one, h]
  refine textB_snoc _ _ ?_
  intro h0
  have := congrArg List.length h0
  have h2 := (List.getElem?_eq_some_iff.1 h).1
  rw [List.length_take, List.length_nil] at this
  omega
theorem textB_first (ps : List T3) (p : T3) (h : ps[0]? = some p) : trainTextB (ps.take 1) = ⟨#[]⟩ ++ pairText p := by
  rw [show (1 : Nat) = 0 + 1 from rfl, List.take_add_one, h]
  show trainTextB [p] = _
  rw [textB_one]
  apply ByteArray.ext
  rw [ByteArray.data_append]
  simp

end Go.Proofs.YtkgfepakedieaaaGreatDoor
