/- Contracts: a number's decimal digits (strconv.FormatInt; the reference's own recursion). -/
import Derived.Test.YtkgfepakedieaaaGreatDoorCtRn
import Derived.Test.YtkgfepakedieaaaGreatDoorMem
import Derived.Test.YtkgfepakedieaaaGreatDoorShelf
import Derived.Lib.AppendIntMem
import Derived.Deep.RegionWith
namespace Go.Proofs.YtkgfepakedieaaaGreatDoor
open Go.RowKit

def decB (n : Nat) : ByteArray := ⟨(Lib.decDigits n).toArray⟩
def Pow10 (w : World) : Prop := ∀ w', Below w.heap.size w w' → Lib.TabIs Tryz.prog w' "internal/strconv.uint64pow10" .u64 Lib.pow10Tab
theorem Pow10.below {w w' : World} (h : Pow10 w) (hb : Below w.heap.size w w') : Pow10 w' := fun w2 hb2 => h w2 (below_then hb hb2)
theorem decB_small {n : Nat} (h : n < 10) : decB n = ⟨#[48 + UInt8.ofNat n]⟩ := by
  unfold decB
  rw [Lib.decDigits, dif_pos h, UInt8.ofNat_add]
  rfl
theorem decB_big {n : Nat} (h : ¬ n < 10) : decB n = decB (n / 10) ++ ⟨#[48 + UInt8.ofNat (n % 10)]⟩ := by
  apply ByteArray.ext
  apply Array.toList_inj.1
  rw [ByteArray.data_append]
  unfold decB
  conv => lhs; rw [Lib.decDigits, dif_neg h, UInt8.ofNat_add]
  simp
theorem decDigits_le : ∀ (n : Nat), (Lib.decDigits n).length ≤ n + 1 := by
  intro n
  induction n using Nat.strongRecOn with
  | ind n ih =>
    rw [Lib.decDigits]
    split
    · simp
    · rw [List.length_append]
      have := ih (n / 10) (by omega)
      simp
      omega
theorem decB_size (n : Nat) : (decB n).size ≤ n + 1 := by
  show (Lib.decDigits n).toArray.size ≤ n + 1
  simpa using decDigits_le n

theorem conv1 {P : Program} (n : Nat) (h : n < 10) (src dst : TypeId) {e : TypeId} (hs : P.underlying src = some (.slice e)) (he : P.underlying e = some (.int .u8)) (hd : P.underlying dst = some .string) :
    ∀ (W : World) (g : Nat), W.cell? ⟨g, 0, none⟩ = some (.int .u8 (48 + (n : Int))) → (convert src dst (.slice (some ⟨g, 0, none⟩) 1 1)).run P W = .ok (.string ⟨#[48 + UInt8.ofNat n]⟩) W := fun W g hc => by
  rw [show (48 + UInt8.ofNat n) = UInt8.ofNat (48 + n) from (UInt8.ofNat_add 48 n).symm]
  have hn : (UInt8.ofNat (48 + n)).toNat = 48 + n := by
    rw [UInt8.toNat_ofNat']
    omega
  exact run_convert_bytes_back W src dst e ⟨g, 0, none⟩ 1 [UInt8.ofNat (48 + n)] hs he hd (fun j hj => by
    obtain rfl : j = 0 := by simpa using hj
    show W.cell? ⟨g, 0, none⟩ = some (.int .u8 ((UInt8.ofNat (48 + n)).toNat : Int))
    rw [hc, hn]
    rfl)

set_option maxRecDepth 100000 in
set_option maxHeartbeats 1000000 in
theorem decimal_any (n : Nat) (hn : n ≤ 1000000) (w : World) (hp : Pow10 w) :
    Calls Tryz.prog 37 #[.int .i64 (n : Int)] w fun e w' => e = .returned (.string (decB n)) ∧ Below w.heap.size w w' := by
  have HT := Lib.hid (hp w (Below.refl _ _))
  go_enter Tryz.func37, Tryz.ntmps37
  go_wp2_with (go_at_call 68; refine (Tryz.strconv_FormatInt_10 (n : Int) (by omega) (by omega) _ HT.out).mono ?_; rintro e w' ⟨rfl, k, os, rfl⟩)
  go_ret
  have h0 : ¬ (n : Int) < 0 := by omega
  exact ⟨by simp [Lib.itoa, decB, h0], Lib.below_grow _ _ (Nat.le_refl _) _ _⟩

end Go.Proofs.YtkgfepakedieaaaGreatDoor
