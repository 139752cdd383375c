/- Contracts: a number is read from its digits (the reference). -/
import Derived.Test.YtkgfepakedieaaaGreatDoorDeZ
import Derived.Test.YtkgfepakedieaaaGreatDoorCtRt
set_option linter.unusedVariables false
set_option linter.unusedSimpArgs false
namespace Go.Proofs.YtkgfepakedieaaaGreatDoor
open Go.RowKit

theorem byte_getN (s : ByteArray) (j : Nat) (h : j < s.size) : s.data.toList[j]? = some (s[j]'h) := by
  have h2 : j < s.data.size := h
  rw [Array.getElem?_toList, Array.getElem?_eq_getElem h2]
  rfl
theorem numV_none {l : List UInt8} {acc : Nat} {c : UInt8} {r : List UInt8} (h : l = c :: r) (hc : ¬ (48 ≤ c.toNat ∧ c.toNat ≤ 57)) : numV acc l = none := by rw [h, numV, if_neg hc]

end Go.Proofs.YtkgfepakedieaaaGreatDoor

/-! Contracts: a train is read from its text (the reference). -/
namespace Go.Proofs.YtkgfepakedieaaaGreatDoor
open Go.RowKit

end Go.Proofs.YtkgfepakedieaaaGreatDoor

/-! Contracts: a train is read from its text (the reference: the walk). -/
namespace Go.Proofs.YtkgfepakedieaaaGreatDoor
open Go.RowKit

end Go.Proofs.YtkgfepakedieaaaGreatDoor
