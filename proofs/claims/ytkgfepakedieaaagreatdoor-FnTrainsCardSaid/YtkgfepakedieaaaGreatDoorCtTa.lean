/- Speeds, torques and powers along a train, as lists of canonical values. No program here. -/
import Derived.Test.YtkgfepakedieaaaGreatDoorCtZc
import Derived.Test.YtkgfepakedieaaaGreatDoorCtZe
import Derived.Test.YtkgfepakedieaaaGreatDoorNeg
import Derived.Test.YtkgfepakedieaaaGreatDoorMkZ
namespace Go.Proofs.YtkgfepakedieaaaGreatDoor
open Go.RowKit

def downC (p : T3) : Nat := cop .quo (floatOfInt .f32 p.2.1) (floatOfInt .f32 p.1)
def speedC (x : Nat) (p : T3) : Nat := cn (fneg (cop .mul x (upC p)))
def torqueC (x : Nat) (p : T3) : Nat := cn (fneg (cop .mul (cop .mul x (downC p)) (cop .sub 1065353216 p.2.2)))
/-- The values at the first axles. -/
def scanR (f : Nat → T3 → Nat) (x : Nat) (ps : List T3) (n : Nat) : List Nat := (List.range n).map fun i => (ps.take i).foldl f x
theorem scanR_succ (f : Nat → T3 → Nat) (x : Nat) (ps : List T3) (n : Nat) : scanR f x ps (n + 1) = scanR f x ps n ++ [(ps.take n).foldl f x] := by
  simp [scanR, List.range_succ]
theorem scanR_len (f : Nat → T3 → Nat) (x : Nat) (ps : List T3) (n : Nat) : (scanR f x ps n).length = n := by simp [scanR]
theorem scanR_get (f : Nat → T3 → Nat) (x : Nat) (ps : List T3) (n i : Nat) (h : i < n) : (scanR f x ps n)[i]? = some ((ps.take i).foldl f x) := by simp [scanR, h]
theorem foldl_step (f : Nat → T3 → Nat) (x : Nat) (ps : List T3) (j : Nat) (p : T3) (h : ps[j]? = some p) : (ps.take (j + 1)).foldl f x = f ((ps.take j).foldl f x) p := by
  rw [List.take_add_one, h, List.foldl_append]
  rfl

theorem SameF.snoc {xs ys : List Nat} {x y : Nat} (h : SameF xs ys) (k : cn x = cn y) : SameF (xs ++ [x]) (ys ++ [y]) := by
  refine ⟨by simp [h.1], fun i a b h1 h2 => ?_⟩
  by_cases hi : i < xs.length
  · rw [List.getElem?_append_left hi] at h1
    rw [List.getElem?_append_left (by rw [← h.1]; exact hi)] at h2
    exact h.2 i a b h1 h2
  · rw [List.getElem?_append_right (by omega)] at h1
    rw [List.getElem?_append_right (by rw [← h.1]; omega), ← h.1] at h2
    have : i - xs.length = 0 := by
      have := (List.getElem?_eq_some_iff.1 h1).1
      simp at this
      omega
    rw [this] at h1 h2
    simp at h1 h2
    rw [← h1, ← h2]
    exact k
theorem cellsF_app (a b : List Nat) : cellsF (a ++ b) = cellsF a ++ cellsF b := by simp [cellsF]
theorem cellsF_one (xs : List Nat) : ∀ u ∈ cellsF xs, u.oneCell' = true := by
  intro u hu
  unfold cellsF at hu
  obtain ⟨x, _, rfl⟩ := List.mem_map.1 hu
  rfl
theorem lt_snoc {xs : List Nat} {r : Nat} (h : ∀ x ∈ xs, x < 2 ^ 32) (hr : r < 2 ^ 32) : ∀ x ∈ xs ++ [r], x < 2 ^ 32 := by
  intro x hx
  rcases List.mem_append.1 hx with h1 | h1
  · exact h x h1
  · rw [List.mem_singleton.1 h1]
    exact hr

theorem cop_fneg {r : Nat} (h : r < 2 ^ 32) (p : Nat) (o : BinOp) : cop o (fneg r) p = cop o (fneg (cn r)) p := cop_congr (cn_fneg h) rfl
theorem speedC_of {x y r : Nat} {p : T3} (hx : cn x = cn y) (hr : cn r = cop .mul x (upC p)) (hl : r < 2 ^ 32) : cn (fneg r) = speedC y p := by
  rw [cn_fneg hl, hr, speedC]
  congr 2
  exact cop_congr hx rfl
theorem cn_speedC (x : Nat) (p : T3) : cn (speedC x p) = speedC x p := by simp [speedC]
theorem cn_torqueC (x : Nat) (p : T3) : cn (torqueC x p) = torqueC x p := by simp [torqueC]
theorem cn_foldl (f : Nat → T3 → Nat) (hf : ∀ x p, cn (f x p) = f x p) (x : Nat) (ps : List T3) : cn (ps.foldl f (cn x)) = ps.foldl f (cn x) := by
  rcases List.eq_nil_or_concat ps with rfl | ⟨qs, q, rfl⟩
  · simp
  · simp [hf]

def askK (ps : List T3) (q : Nat) : Int := if trainB ps then (if plainB q then 0 else 2) else 1
def ask2K (ps : List T3) (p q : Nat) : Int := if trainB ps then (if plainB p && plainB q then 0 else 2) else 1
def speedsR (ps : List T3) (q : Nat) : List Nat := if askK ps q = 0 then scanR speedC (cn q) ps (ps.length + 1) else []
def torquesR (ps : List T3) (q : Nat) : List Nat := if askK ps q = 0 then scanR torqueC (cn q) ps (ps.length + 1) else []
/-- The powers at the first axles. -/
def powS (p q : Nat) (ps : List T3) (n : Nat) : List Nat := (List.range n).map fun i => cop .mul ((ps.take i).foldl speedC (cn p)) ((ps.take i).foldl torqueC (cn q))
theorem powS_succ (p q : Nat) (ps : List T3) (n : Nat) : powS p q ps (n + 1) = powS p q ps n ++ [cop .mul ((ps.take n).foldl speedC (cn p)) ((ps.take n).foldl torqueC (cn q))] := by
  simp [powS, List.range_succ]
theorem powS_len (p q : Nat) (ps : List T3) (n : Nat) : (powS p q ps n).length = n := by simp [powS]
def powersR (ps : List T3) (p q : Nat) : List Nat := if ask2K ps p q = 0 then powS p q ps (ps.length + 1) else []
theorem ask_len {ps : List T3} (h : trainB ps = true) : 1 ≤ ps.length ∧ ps.length ≤ 8 := by
  simp [trainB, withinB] at h
  omega
theorem askK_ok {ps : List T3} {q : Nat} (h : askK ps q = 0) : trainB ps = true ∧ plainB q = true := by
  unfold askK at h
  split at h
  · split at h
    · rename_i h1 h2
      exact ⟨h1, h2⟩
    · simp at h
  · simp at h
theorem ask2K_ok {ps : List T3} {p q : Nat} (h : ask2K ps p q = 0) : trainB ps = true ∧ plainB p = true ∧ plainB q = true := by
  unfold ask2K at h
  split at h
  · split at h
    · rename_i h1 h2
      simp only [Bool.and_eq_true] at h2
      exact ⟨h1, h2⟩
    · simp at h
  · simp at h
theorem speedsR_len (ps : List T3) (q : Nat) : (speedsR ps q).length ≤ 1048576 := by
  unfold speedsR
  split
  · rename_i h
    have := ask_len (askK_ok h).1
    rw [scanR_len]
    omega
  · simp
theorem torquesR_len (ps : List T3) (q : Nat) : (torquesR ps q).length ≤ 1048576 := by
  unfold torquesR
  split
  · rename_i h
    have := ask_len (askK_ok h).1
    rw [scanR_len]
    omega
  · simp
theorem powersR_len (ps : List T3) (p q : Nat) : (powersR ps p q).length ≤ 1048576 := by
  unfold powersR
  split
  · rename_i h
    have := ask_len (ask2K_ok h).1
    rw [powS_len]
    omega
  · simp

end Go.Proofs.YtkgfepakedieaaaGreatDoor
