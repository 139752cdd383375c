/- Contracts: a number's decimal digits (strconv.FormatInt; the reference's own recursion). -/
import Derived.Test.YtkgfepakedieaaaDoorCtRn
import Derived.Test.YtkgfepakedieaaaDoorMem
import Derived.Test.YtkgfepakedieaaaDoorShelf
import Derived.Lib.AppendIntMem
import Derived.Deep.RegionWith
namespace Go.Proofs.YtkgfepakedieaaaDoor
open Go.RowKit

def decB (n : Nat) : ByteArray := ⟨(Lib.decDigits n).toArray⟩
def Pow10 (w : World) : Prop := ∀ w', Below w.heap.size w w' → Lib.TabIs Tryd.prog w' "internal/strconv.uint64pow10" .u64 Lib.pow10Tab
theorem Pow10.below {w w' : World} (h : Pow10 w) (hb : Below w.heap.size w w') : Pow10 w' := fun w2 hb2 => h w2 (below_then hb hb2)
theorem decB_small {n : Nat} (h : n < 10) : decB n = ⟨#[48 + UInt8.ofNat n]⟩ := by
  unfold decB
  rw [Lib.decDigits, dif_pos h, UInt8.ofNat_add]
  rfl
theorem decB_big {n : Nat} (h : ¬ n < 10) : decB n = decB (n / 10) ++ ⟨#[48 + UInt8.ofNat (n % 10)]⟩ := by
  apply ByteArray.ext
  apply Array.toList_inj.1
  rw [ByteArray.data_append]
  unfold decB
  conv => lhs; rw [Lib.decDigits, dif_neg h, UInt8.ofNat_add]
  simp
theorem decDigits_le : ∀ (n : Nat), (Lib.decDigits n).length ≤ n + 1 := by
  intro n
  induction n using Nat.strongRecOn with
  | ind n ih =>
    rw [Lib.decDigits]
    split
    · simp
    · rw [List.length_append]
      have := ih (n / 10) (by omega)
      simp
      omega
theorem decB_size (n : Nat) : (decB n).size ≤ n + 1 := by
  show (Lib.decDigits n).toArray.size ≤ n + 1
  simpa using decDigits_le n

theorem conv1 {P : Program} (n : Nat) (h : n < 10) (src dst : TypeId) {e : TypeId} (hs : P.underlying src = some (.slice e)) (he : P.underlying e = some (.int .u8)) (hd : P.underlying dst = some .string) :
    ∀ (W : World) (g : Nat), W.cell? ⟨g, 0, none⟩ = some (.int .u8 (48 + (n : Int))) → (convert src dst (.slice (some ⟨g, 0, none⟩) 1 1)).run P W = .ok (.string ⟨#[48 + UInt8.ofNat n]⟩) W := fun W g hc => by
  rw [show (48 + UInt8.ofNat n) = UInt8.ofNat (48 + n) from (UInt8.ofNat_add 48 n).symm]
  have hn : (UInt8.ofNat (48 + n)).toNat = 48 + n := by
    rw [UInt8.toNat_ofNat']
    omega
  exact run_convert_bytes_back W src dst e ⟨g, 0, none⟩ 1 [UInt8.ofNat (48 + n)] hs he hd (fun j hj => by
    obtain rfl : j = 0 := by simpa using hj
    show W.cell? ⟨g, 0, none⟩ = some (.int .u8 ((UInt8.ofNat (48 + n)).toNat : Int))
    rw [hc, hn]
    rfl)

set_option maxHeartbeats 1000000 in
theorem decimal_any (n : Nat) (hn : n ≤ 1000000) (w : World) (hp : Pow10 w) :
    Calls Tryd.prog 18 #[.int .i64 (n : Int)] w fun e w' => e = .returned (.string (decB n)) ∧ Below w.heap.size w w' := by
  have HT := Lib.hid (hp w (Below.refl _ _))
  go_enter Tryd.func18, Tryd.ntmps18
  go_wp2_with (go_at_call 39; refine (Tryd.strconv_FormatInt_10 (n : Int) (by omega) (by omega) _ HT.out).mono ?_; rintro e w' ⟨rfl, k, os, rfl⟩)
  go_ret
  have h0 : ¬ (n : Int) < 0 := by omega
  exact ⟨by simp [Lib.itoa, decB, h0], Lib.below_grow _ _ (Nat.le_refl _) _ _⟩

set_option maxRecDepth 20000 in
set_option maxHeartbeats 2000000 in
theorem specDecimal_any : ∀ (n : Nat), n ≤ 1000000 → ∀ (w : World),
    Calls Tryd.prog 32 #[.int .i64 (n : Int)] w fun e w' => e = .returned (.string (decB n)) ∧ Below w.heap.size w w' := by
  intro n
  induction n using Nat.strongRecOn with
  | ind n ih =>
    intro hn w
    have H := Lib.hid ih
    clear ih
    go_enter Tryd.func32, Tryd.ntmps32
    by_cases h : n < 10
    · have h1 : (n : Int) < 10 := by omega
      have hcv := conv1 (P := Tryd.prog) n h 66 9 Tryd.underlying66 Tryd.underlying5 Tryd.underlying9
      go_wp2
      go_ret
      exact ⟨by rw [decB_small h]; rfl, by (repeat' (first | (with_reducible exact Below.refl _ _) | (with_reducible assumption) | (with_reducible refine Below.alloc ?_ ?_ _) | (with_reducible refine below_drewN ?_ _) | (with_reducible refine Below.drew ?_) | (with_reducible refine Below.setCell ?_ ?_ _) | (with_reducible exact Nat.le_refl _) | omega | (simp only [World.size_alloc, World.size_setCell, World.size_drew, World.heap_drewN]; omega) | (simp; omega)))⟩
    · have h1 : ¬ (n : Int) < 10 := by omega
      have hD := Lib.hid (decB_big h)
      obtain ⟨q, hq⟩ : ∃ q, q = n / 10 := ⟨_, rfl⟩
      obtain ⟨r, hr⟩ : ∃ r, r = n % 10 := ⟨_, rfl⟩
      have IH : Hid (∀ w, Calls Tryd.prog 32 #[.int .i64 (q : Int)] w fun e w' => e = .returned (.string (decB q)) ∧ Below w.heap.size w w') := Lib.hid (fun w => by rw [hq]; exact H.out (n / 10) (by omega) (by omega) w)
      have hr10 : r < 10 := by omega
      have hcv := conv1 (P := Tryd.prog) r hr10 66 9 Tryd.underlying66 Tryd.underlying5 Tryd.underlying9
      have hsz : (decB q).size ≤ 1000001 := Nat.le_trans (decB_size q) (by omega)
      have HQ := Lib.hid hq
      have HR := Lib.hid hr
      have w1 : (n : Int) / 10 = (q : Int) := by omega
      have w2 : (n : Int).tmod 10 = (r : Int) := by rw [Int.tmod_eq_emod_of_nonneg (by omega)]; omega
      have w3 : IntKind.i64.wrap (q : Int) = (q : Int) := by rw [IntKind.wrap_i64]; omega
      have w4 : IntKind.i64.wrap (48 + (r : Int)) = 48 + (r : Int) := by rw [IntKind.wrap_i64]; omega
      have w5 : IntKind.u8.wrap (48 + (r : Int)) = 48 + (r : Int) := by rw [IntKind.wrap_u8]; omega
      clear hq hr
      go_wp2
      go_region_with (go_at_call 32; refine (IH.out _).mono ?_; rintro e wc ⟨rfl, hbc⟩; try (have hcc := (Below.cell hbc (p := ⟨w.heap.size, 0, none⟩) (by simp)).trans (World.cell?_alloc_at _ _ _ _ rfl)); have hsc := hbc.size; simp at hsc)
      all_goals go_wp2
      all_goals go_ret
      all_goals refine ⟨by rw [hD.out, ← HQ.out, ← HR.out]; rfl, ?_⟩
      all_goals first | exact below_then (by (repeat' (first | (with_reducible exact Below.refl _ _) | (with_reducible assumption) | (with_reducible refine Below.alloc ?_ ?_ _) | (with_reducible refine below_drewN ?_ _) | (with_reducible refine Below.drew ?_) | (with_reducible refine Below.setCell ?_ ?_ _) | (with_reducible exact Nat.le_refl _) | omega | (simp only [World.size_alloc, World.size_setCell, World.size_drew, World.heap_drewN]; omega) | (simp; omega)))) hbc | (have hz : Below w.heap.size w wc := (Below.refl _ _).drew.trans hbc; exact hz.alloc hz.size _)

end Go.Proofs.YtkgfepakedieaaaDoor
