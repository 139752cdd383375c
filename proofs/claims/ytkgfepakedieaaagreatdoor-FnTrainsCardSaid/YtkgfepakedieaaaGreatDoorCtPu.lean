/- Contracts: strconv.ParseUint(s, 10, 15); a number of teeth is read. -/
import Derived.Test.YtkgfepakedieaaaGreatDoorDeZ
import Derived.Lib.ParseIntBMem
import Derived.Lib.Atoi
import Derived.Lib.ConvBytes
import Derived.Lib.SmallJoins
namespace Go.Proofs.YtkgfepakedieaaaGreatDoor
open Go.RowKit

set_option maxRecDepth 100000 in
set_option maxHeartbeats 4000000 in
theorem parse15_any (t : ByteArray) (hne : t.size ≠ 0) (hmax : t.size ≤ 1048576) (w : World) :
    Calls Tryz.prog 84 #[.string t, .int .i64 10, .int .i64 15] w fun e w' => e = .returned (Lib.uintTupleM 117 32767 (Lib.parseUintM 32767 0 t.data.toList)) ∧ w' = Lib.bytesWorld w 5 t := by
  have hemp : t.toList.isEmpty = false := by
    rw [← decide_eq_emptyBytes]
    exact decide_eq_false (fun h => hne (by rw [h]; rfl))
  have hcv := Lib.run_convert_string_bytes (P := Tryz.prog) w 9 22 5 t (u := .string) Tryz.underlying9 Tryz.underlying22 Tryz.underlying5
  have hB : ∀ j, j < t.size → (Lib.bytesWorld w 5 t).cell? ⟨w.heap.size, j, none⟩ = some (.int .u8 (t.data.toList.getD j 0).toNat) := fun j hj => Lib.bytesWorld_cell w 5 t j hj
  obtain ⟨W1, hW1⟩ : ∃ W1, W1 = Lib.bytesWorld w 5 t := ⟨_, rfl⟩
  rw [← hW1] at hcv hB ⊢
  clear hW1
  obtain ⟨bs, hL⟩ : ∃ bs, bs = t.data.toList := ⟨_, rfl⟩
  have hLn : bs.length = t.size := by rw [hL, Lib.size_eq]
  rw [← hL] at hB ⊢
  clear hL
  have hmv : IntKind.u64.wrap (IntKind.u64.wrap 32768 - 1) = 32767 := by
    rw [IntKind.wrap_u64, IntKind.wrap_u64]
    decide
  have HB := Lib.hid hB
  clear hB
  go_enter Tryz.func84, Tryz.ntmps84
  go_wp2
  go_loopw [12, 13, 101] (fun vu vn vi wr => ∃ (k : Nat) (a : Int), vu = .bool false ∧ vn = .int .u64 a ∧ vi = .int .i64 (k : Int) ∧ k ≤ t.size ∧ 0 ≤ a ∧ a ≤ 32767 ∧ Hid (Lib.parseUintM 32767 0 bs = Lib.parseUintM 32767 a.toNat (bs.drop k)) ∧ wr = W1)
    (fun _ _ vi _ => (t.size - intOf vi).toNat)
  case atStart => exact ⟨0, 0, rfl, rfl, rfl, by omega, by omega, by omega, Lib.hid rfl, rfl⟩
  case round =>
    obtain ⟨k, a, rfl, rfl, rfl, hk, ha0, ha1, hh, hww⟩ := hrel
    obtain rfl : W1 = wr := hww.symm
    by_cases hkn : k < t.size
    · have hc := HB.out k hkn
      have hkl : k < bs.length := by omega
      have hdrop : bs.drop k = bs[k]'hkl :: bs.drop (k + 1) := List.drop_eq_getElem_cons hkl
      have hget : bs.getD k 0 = bs[k]'hkl := by simp [List.getD, List.getElem?_eq_getElem hkl]
      have hdec := hh.out
      rw [hdrop] at hdec
      rw [hget] at hc
      generalize bs[k]'hkl = c at hc hdec
      have hc256 : c.toNat < 256 := c.toNat_lt
      clear hdrop hget hh
      by_cases hdig : 48 ≤ c.toNat ∧ c.toNat ≤ 57
      · obtain ⟨hd0, hd1⟩ := hdig
        obtain ⟨acc, hacc⟩ : ∃ acc, acc = a.toNat := ⟨_, rfl⟩
        rw [← hacc] at hdec
        have hcut : ¬ 1844674407370955162 ≤ acc := by omega
        by_cases hov : 32767 < acc * 10 + (c.toNat - 48)
        · have hF : Lib.parseUintM 32767 acc (c :: bs.drop (k + 1)) = .range := by simp [Lib.parseUintM, hd0, hd1, hcut, hov]
          have HF := Lib.hid (hdec.trans hF)
          have iov : (32767 : Int) < a * 10 + ((c.toNat : Int) - 48) := by omega
          clear hcut hF hov hdec hacc acc
          go_wp2
          all_goals go_ret2
          all_goals exact ⟨by rw [HF.out]; rfl, rfl⟩
        · have hF : Lib.parseUintM 32767 acc (c :: bs.drop (k + 1)) = Lib.parseUintM 32767 (acc * 10 + (c.toNat - 48)) (bs.drop (k + 1)) := by simp [Lib.parseUintM, hd0, hd1, hcut, hov]
          have hN : acc * 10 + (c.toNat - 48) = (a * 10 + ((c.toNat : Int) - 48)).toNat := by omega
          rw [hN] at hF
          have HF := Lib.hid (hdec.trans hF)
          have iov : a * 10 + ((c.toNat : Int) - 48) ≤ 32767 := by omega
          have iov0 : 0 ≤ a * 10 + ((c.toNat : Int) - 48) := by omega
          clear hcut hF hdec hN hov hacc acc
          go_wp2
          exact ⟨⟨k + 1, a * 10 + ((c.toNat : Int) - 48), rfl, rfl, by go_num, by omega, iov0, iov, HF, trivial⟩, by simp [intOf]; omega⟩
      · have hF : Lib.parseUintM 32767 a.toNat (c :: bs.drop (k + 1)) = Lib.NumEnd.syntax := by simp [Lib.parseUintM, hdig]
        have HF := Lib.hid (hdec.trans hF)
        clear hF hdec
        have hv0 := bits_lo_u8 .or (c.toNat : Int) 32
        have hv1 := bits_hi_u8 .or (c.toNat : Int) 32
        have hu0 := bits_lo_u8 .or 95 32
        have hu1 := bits_hi_u8 .or 95 32
        go_wp2_with (go_at_call 95; refine (Tryz.internal_strconv_lower _ _).mono ?_; rintro e w' ⟨rfl, rfl⟩)
        all_goals go_ret2
        all_goals exact ⟨by rw [HF.out]; rfl, rfl⟩
    · obtain rfl : k = t.size := by omega
      have hF : Lib.parseUintM 32767 a.toNat (bs.drop t.size) = .ok a.toNat := by rw [List.drop_eq_nil_of_le (by omega)]; rfl
      have HF := Lib.hid (hh.out.trans hF)
      clear hF hh
      go_wp2
      all_goals go_ret2
      all_goals exact ⟨by rw [HF.out]; show _ = Ending.returned (.tuple #[.int .u64 (a.toNat : Int), .nilIface]); rw [Int.toNat_of_nonneg ha0]; rfl, rfl⟩

theorem parse_le (M : Nat) : ∀ (l : List UInt8) (acc u : Nat), acc ≤ M → Lib.parseUintM M acc l = .ok u → u ≤ M
  | [], acc, u, h, e => by
    simp only [Lib.parseUintM] at e
    cases e
    exact h
  | c :: r, acc, u, h, e => by
    rw [Lib.parseUintM] at e
    split at e
    · split at e
      · cases e
      · split at e
        · cases e
        · exact parse_le M r _ u (by omega) e
    · cases e
theorem wrapI16 {n : Int} (h0 : 0 ≤ n) (h1 : n ≤ 32767) : IntKind.i16.wrap n = n := by
  simp [IntKind.wrap, IntKind.bits, IntKind.signed]
  split <;> omega
/-- A variable that holds an error, or none. -/
def ErrAt (w : World) (g : Nat) : Prop := ∃ ev, w.cell? ⟨g, 0, none⟩ = some ev ∧ (ev = .nilIface ∨ ∃ te pe, ev = .iface te pe)
/-- What the reading of a train asks of the library's variables, in this world and all behind it. -/
def Laid4 (w : World) : Prop := ∀ w', Below w.heap.size w w' → Lib.TabIs Tryz.prog w' "internal/strconv.uint64pow10" .u64 Lib.pow10Tab ∧ (∃ m, w'.cell? ⟨1, 0, none⟩ = some (.int .i64 m)) ∧ ErrAt w' 2 ∧ ErrAt w' 3
theorem Laid4.below {w w' : World} (h : Laid4 w) (hb : Below w.heap.size w w') : Laid4 w' := fun w2 hb2 => h w2 (below_then hb hb2)
theorem Laid4.pow {w : World} (h : Laid4 w) : Pow10 w := fun w' hb => (h w' hb).1
theorem Laid4.max {w : World} (h : Laid4 w) : ∃ m, w.cell? ⟨1, 0, none⟩ = some (.int .i64 m) := (h w (Below.refl _ _)).2.1
theorem Laid4.syn {w : World} (h : Laid4 w) : ErrAt w 2 := (h w (Below.refl _ _)).2.2.1
theorem Laid4.rng {w : World} (h : Laid4 w) : ErrAt w 3 := (h w (Below.refl _ _)).2.2.2
theorem Laid4.drewN {w : World} (h : Laid4 w) (n : Nat) : Laid4 (w.drewN n) := h.below (below_drewN (Below.refl _ _) n)

/-- How strconv.ParseUint ends. -/
def PuEnd (s : ByteArray) (u : Nat) (er : Value) : Prop :=
  u ≤ 32767 ∧ ((er = .nilIface ∧ Lib.parseUintB 15 s.data.toList = .ok u) ∨ ((∃ t v, er = .iface t v) ∧ ∀ x, Lib.parseUintB 15 s.data.toList ≠ .ok x))

set_option maxRecDepth 100000 in
set_option maxHeartbeats 2000000 in
theorem parse15_empty (w : World) :
    Calls Tryz.prog 84 #[.string ⟨#[]⟩, .int .i64 10, .int .i64 15] w fun e w' => e = .returned (.tuple #[.int .u64 0, .iface 117 (.int .i64 2)]) ∧ w = w' := by
  go_enter Tryz.func84, Tryz.ntmps84
  go_wp2
  all_goals go_ret2
  all_goals exact ⟨rfl, rfl⟩

theorem parseB15 (s : ByteArray) (h : s.size ≠ 0) : Lib.parseUintB 15 s.data.toList = Lib.parseUintM 32767 0 s.data.toList := by
  unfold Lib.parseUintB
  rw [if_neg (by intro e; have := list_size s; rw [e] at this; simp at this; omega), show (2 : Nat) ^ 15 - 1 = 32767 by decide]

set_option maxRecDepth 100000 in
set_option maxHeartbeats 2000000 in
theorem parseU_any (s : ByteArray) (hs : s.size ≤ 1048576) (w : World) (hl : Laid4 w) :
    Calls Tryz.prog 67 #[.string s, .int .i64 10, .int .i64 15] w fun e w' => ∃ (u : Nat) (er : Value), e = .returned (.tuple #[.int .u64 (u : Int), er]) ∧ PuEnd s u er ∧ Below w.heap.size w w' := by
  have HL := Lib.hid hl
  clear hl
  by_cases h0 : s.size = 0
  · have hs0 : s = ⟨#[]⟩ := by
      apply ByteArray.ext
      exact Array.eq_empty_of_size_eq_zero h0
    subst hs0
    have hP : ∀ x, Lib.parseUintB 15 (⟨#[]⟩ : ByteArray).data.toList ≠ .ok x := fun x h => by cases h
    have HP := Lib.hid hP
    obtain ⟨ev, hv, hev⟩ := HL.out.syn
    clear hP hs h0
    go_enter Tryz.func67, Tryz.ntmps67
    go_wp2_with (first | (go_at_call 84; refine (parse15_empty _).mono ?_; rintro e w' ⟨rfl, rfl⟩) | (go_at_call 85; refine (Tryz.strconv_toError_syntax _ _ _ _ ev _ (by decide) hv hev).mono ?_; rintro e w' ⟨N, rfl, _, _, hb⟩))
    all_goals go_ret2
    all_goals exact ⟨0, _, rfl, ⟨by omega, .inr ⟨⟨_, _, rfl⟩, HP.out⟩⟩, hb⟩
  · have hb1 := Joins.below_bytesWorld w.heap.size w 5 s (Nat.le_refl _)
    have hpe := parseB15 s h0
    have h48 : s.size ≤ 281474976710656 := by omega
    rcases hE : Lib.parseUintM 32767 0 s.data.toList with u | _ | _
    · have hu : u ≤ 32767 := parse_le _ _ _ _ (by omega) hE
      have HP := Lib.hid (hpe.trans hE)
      have HE := Lib.hid hE
      clear hE hpe
      go_enter Tryz.func67, Tryz.ntmps67
      go_wp2_with (go_at_call 84; refine (parse15_any s h0 hs _).mono ?_; rintro e w' ⟨rfl, rfl⟩; rw [HE.out]; unfold Lib.uintTupleM)
      all_goals go_ret2
      all_goals exact ⟨u, _, rfl, ⟨hu, .inl ⟨rfl, HP.out⟩⟩, hb1⟩
    · have hP : ∀ x, Lib.parseUintB 15 s.data.toList ≠ .ok x := fun x h => by rw [hpe, hE] at h; cases h
      have HP := Lib.hid hP
      have HE := Lib.hid hE
      obtain ⟨ev, hv, hev⟩ := (HL.out.below hb1).syn
      clear hE hpe hP
      go_enter Tryz.func67, Tryz.ntmps67
      go_wp2_with (first | (go_at_call 84; refine (parse15_any s h0 hs _).mono ?_; rintro e w' ⟨rfl, rfl⟩; rw [HE.out]; unfold Lib.uintTupleM) | (go_at_call 85; refine (Tryz.strconv_toError_syntax _ _ _ _ ev _ h48 hv hev).mono ?_; rintro e w' ⟨N, rfl, _, _, hb⟩))
      all_goals go_ret2
      all_goals exact ⟨0, _, rfl, ⟨by omega, .inr ⟨⟨_, _, rfl⟩, HP.out⟩⟩, below_then hb1 hb⟩
    · have hP : ∀ x, Lib.parseUintB 15 s.data.toList ≠ .ok x := fun x h => by rw [hpe, hE] at h; cases h
      have HP := Lib.hid hP
      have HE := Lib.hid hE
      obtain ⟨ev, hv, hev⟩ := (HL.out.below hb1).rng
      clear hE hpe hP
      go_enter Tryz.func67, Tryz.ntmps67
      go_wp2_with (first | (go_at_call 84; refine (parse15_any s h0 hs _).mono ?_; rintro e w' ⟨rfl, rfl⟩; rw [HE.out]; unfold Lib.uintTupleM) | (go_at_call 85; refine (Tryz.strconv_toError_range _ _ _ _ ev _ h48 hv hev).mono ?_; rintro e w' ⟨N, rfl, _, _, hb⟩))
      all_goals go_ret2
      all_goals exact ⟨32767, _, rfl, ⟨by omega, .inr ⟨⟨_, _, rfl⟩, HP.out⟩⟩, below_then hb1 hb⟩

theorem pn_ok {s : ByteArray} {u : Nat} (h : Lib.parseUintB 15 s.data.toList = .ok u) : pn s = if decB u = s then some u else none := by unfold pn; rw [h]
theorem pn_none {s : ByteArray} (h : ∀ x, Lib.parseUintB 15 s.data.toList ≠ .ok x) : pn s = none := by
  unfold pn
  split
  · rename_i u hu
    exact absurd hu (h u)
  · rfl

set_option maxRecDepth 100000 in
set_option maxHeartbeats 2000000 in
theorem count_any (s : ByteArray) (hs : s.size ≤ 1048576) (w : World) (hl : Laid4 w) :
    Calls Tryz.prog 36 #[.string s] w fun e w' => ∃ x : Int, e = .returned (.tuple #[.int .i16 x, .bool (pn s).isSome]) ∧ (∀ u, pn s = some u → x = (u : Int)) ∧ (0 ≤ x ∧ x ≤ 32767) ∧ Below w.heap.size w w' := by
  have HL := Lib.hid hl
  have HS := Lib.hid hs
  clear hl hs
  go_enter Tryz.func36, Tryz.ntmps36
  go_wp2_with fail
  refine (parseU_any s HS.out _ HL.out).mono ?_
  rintro e w1 ⟨u, er, rfl, ⟨hu, hend⟩, hb1⟩
  have k1 : IntKind.i16.wrap (u : Int) = (u : Int) := wrapI16 (by omega) (by omega)
  have k2 : IntKind.i64.wrap (u : Int) = (u : Int) := by rw [IntKind.wrap_i64]; omega
  rcases hend with ⟨rfl, hok⟩ | ⟨⟨t, v, rfl⟩, hno⟩
  · have hpn := pn_ok hok
    have HPN := Lib.hid hpn
    have HP := Lib.hid (HL.out.below hb1).pow
    clear hok hpn
    cases hE : decide (decB u = s)
    · have hE2 : ((decB u).toList == s.toList) = false := by rw [str_eql, hE]
      have HN := Lib.hid (show pn s = none by rw [HPN.out, if_neg (by simpa using hE)])
      clear hE
      go_wp2_with (go_at_call 37; refine (decimal_any u (by omega) _ HP.out).mono ?_; rintro e w2 ⟨rfl, hb2⟩)
      all_goals go_ret2
      all_goals exact ⟨(u : Int), by rw [HN.out]; rfl, by rw [HN.out]; simp, by omega, below_then hb1 hb2⟩
    · have hE2 : ((decB u).toList == s.toList) = true := by rw [str_eql, hE]
      have HN := Lib.hid (show pn s = some u by rw [HPN.out, if_pos (by simpa using hE)])
      clear hE
      go_wp2_with (go_at_call 37; refine (decimal_any u (by omega) _ HP.out).mono ?_; rintro e w2 ⟨rfl, hb2⟩)
      all_goals go_ret2
      all_goals exact ⟨(u : Int), by rw [HN.out]; rfl, by rw [HN.out]; simp, by omega, below_then hb1 hb2⟩
  · have HN := Lib.hid (pn_none hno)
    clear hno
    go_wp2
    all_goals go_ret2
    all_goals exact ⟨(u : Int), by rw [HN.out]; rfl, by rw [HN.out]; simp, by omega, hb1⟩

end Go.Proofs.YtkgfepakedieaaaGreatDoor
