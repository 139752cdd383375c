/- Trains: speeds and torques of all axles, with a code. -/
import Derived.Test.YtkgfepakedieaaaCtTb
namespace Go.Proofs.Ytkgfepakedieaaa
open Go.RowKit

theorem plain0 : plainB 0 = true := by decide +kernel
theorem ask_l (ps : List T3) (q : Nat) : ask2K ps q 0 = askK ps q := by simp [ask2K, askK, plain0]
theorem ask_r (ps : List T3) (q : Nat) : ask2K ps 0 q = askK ps q := by simp [ask2K, askK, plain0]
theorem codeL_one (ps : List T3) (q : Nat) : codeL ps [q] = askK ps q := by simp [codeL, askK]
theorem codeL_two (ps : List T3) (p q : Nat) : codeL ps [p, q] = ask2K ps p q := by simp [codeL, ask2K]

set_option maxHeartbeats 400000 in
theorem l01Speed_any (a : Nat) (w : World) :
    Calls Try.prog 63 #[.float .f32 a] w fun e w' => e = .returned (.bool (plainB a)) ∧ w = w' := by
  go_enter Try.func63, Try.ntmps63
  go_wp2_with (go_at_call 82; refine (l01Plain_any _ _).mono ?_; rintro e w' ⟨rfl, rfl⟩)
  all_goals (go_ret; exact ⟨rfl, rfl⟩)

set_option maxHeartbeats 1000000 in
theorem l01Asked_any (ps : List T3) (v : Value) (p q : Nat) (w : World) (hv : Tr w v ps) :
    Calls Try.prog 39 #[v, .float .f32 p, .float .f32 q] w fun e w' => e = .returned (.int .i64 (ask2K ps p q)) ∧ w = w' := by
  have HV := Lib.hid hv
  clear hv
  go_enter Try.func39, Try.ntmps39
  cases hB : trainB ps
  · go_wp2_with (go_at_call 52; refine (l01Ok_any ps _ _ HV.out).mono ?_; rintro e w' ⟨rfl, rfl⟩)
    all_goals (go_ret; exact ⟨by simp [ask2K, hB], rfl⟩)
  · go_wp2_with (first | (go_at_call 52; refine (l01Ok_any ps _ _ HV.out).mono ?_; rintro e w' ⟨rfl, rfl⟩) | (go_at_call 63; refine (l01Speed_any _ _).mono ?_; rintro e w' ⟨rfl, rfl⟩))
    all_goals (go_ret; exact ⟨by simp_all [ask2K], rfl⟩)

theorem fs_lit1 (w : World) (q : Nat) : Fs (w.alloc (.cells #[.float .f32 q] 23)) (.slice (some ⟨w.heap.size, 0, none⟩) 1 1) [q] :=
  fs_of_own (xs := [q]) (own_lit w w.heap.size 23 (size := 1) 1 #[.float .f32 q] (Nat.le_refl _) (by decide) rfl)
theorem fs_lit2 (w : World) (p q : Nat) : Fs (w.alloc (.cells #[.float .f32 p, .float .f32 q] 23)) (.slice (some ⟨w.heap.size, 0, none⟩) 2 2) [p, q] :=
  fs_of_own (xs := [p, q]) (own_lit w w.heap.size 23 (size := 1) 2 #[.float .f32 p, .float .f32 q] (Nat.le_refl _) (by decide) rfl)

set_option maxHeartbeats 1000000 in
theorem specSpeedsOf_any (ps : List T3) (v : Value) (q : Nat) (hq : q < 2 ^ 32) (w : World) (hv : Tr w v ps) :
    Calls Try.prog 9 #[v, .float .f32 q] w (GivesF w (askK ps q) (speedsR ps q)) := by
  have HV := Lib.hid hv
  clear hv
  by_cases h0 : askK ps q = 0
  · have HK := Lib.hid (show ask2K ps q 0 = 0 by rw [ask_l]; exact h0)
    have hR : speedsR ps q = _ := if_pos h0
    rw [h0, hR]
    have HB := Lib.hid (askK_ok h0).1
    clear h0 hR
    go_enter Try.func9, Try.ntmps9
    go_wp2_with (first | (go_at_call 39; refine (l01Asked_any ps _ _ _ _ HV.out).mono ?_; rintro e w1 ⟨rfl, rfl⟩; rw [HK.out]) | (go_at_call 40; refine (l01Speeds_any ps _ q _ HV.out HB.out hq).mono ?_; rintro e w2 ⟨u, xs, rfl, ho, hS, hx, hb⟩))
    go_ret2
    exact ⟨_, xs, rfl, ho, hS, hx, hb⟩
  · have hR : speedsR ps q = [] := if_neg h0
    rw [hR]
    generalize hK : askK ps q = K at *
    have HK := Lib.hid (show ask2K ps q 0 = K by rw [ask_l]; exact hK)
    have hne : (K != 0) = true := by simpa using h0
    have hne2 : (K == 0) = false := by simpa using h0
    have hown := own_lit w w.heap.size 23 (size := 1) 0 #[] (Nat.le_refl _) (by decide) rfl
    clear hK hR h0
    go_enter Try.func9, Try.ntmps9
    go_wp2_with (go_at_call 39; refine (l01Asked_any ps _ _ _ _ HV.out).mono ?_; rintro e w1 ⟨rfl, rfl⟩; rw [HK.out])
    go_ret2
    exact ⟨_, [], rfl, hown, SameF.refl _, by simp, by (repeat' (first | (with_reducible exact Below.refl _ _) | (with_reducible assumption) | (with_reducible refine Below.alloc ?_ ?_ _) | (with_reducible refine below_drewN ?_ _) | (with_reducible refine Below.drew ?_) | (with_reducible refine Below.setCell ?_ ?_ _) | (with_reducible exact Nat.le_refl _) | omega | (simp only [World.size_alloc, World.size_setCell, World.size_drew, World.heap_drewN]; omega) | (simp; omega)))⟩

set_option maxHeartbeats 1000000 in
theorem implSpeedsOf_any (ps : List T3) (v : Value) (q : Nat) (hq : q < 2 ^ 32) (w : World) (hv : Tr w v ps) :
    Calls Try.prog 11 #[v, .float .f32 q] w (GivesF w (askK ps q) (speedsR ps q)) := by
  have HV := Lib.hid hv
  have hbA : Below w.heap.size w (w.alloc (.cells #[.float .f32 q] 23)) := (Below.refl _ _).alloc (Nat.le_refl _) _
  have HA := Lib.hid hbA
  clear hv hbA
  by_cases h0 : askK ps q = 0
  · have HK := Lib.hid (show codeL ps [q] = 0 by rw [codeL_one]; exact h0)
    have hR : speedsR ps q = _ := if_pos h0
    rw [h0, hR]
    have HB := Lib.hid (askK_ok h0).1
    clear h0 hR
    go_enter Try.func11, Try.ntmps11
    go_wp2_with (first | (go_at_call 42; refine (trainCode_any ps [q] _ _ _ (HV.out.below HA.out) (fs_lit1 w q)).mono ?_; rintro e w1 ⟨rfl, hb1⟩; rw [HK.out]; have hb := below_then HA.out hb1; have hs := hb.size) | (go_at_call 43; refine (implSpeeds_any ps _ q _ (HV.out.below hb) HB.out hq).mono ?_; rintro e w2 ⟨u, xs, rfl, ho, hS, hx, hb2⟩))
    go_ret2
    exact ⟨_, xs, rfl, own_base ho hs, hS, hx, below_then hb hb2⟩
  · have hR : speedsR ps q = [] := if_neg h0
    rw [hR]
    generalize hK : askK ps q = K at *
    have HK := Lib.hid (show codeL ps [q] = K by rw [codeL_one]; exact hK)
    have hne : (K != 0) = true := by simpa using h0
    have hne2 : (K == 0) = false := by simpa using h0
    clear hK hR h0
    go_enter Try.func11, Try.ntmps11
    go_wp2_with (go_at_call 42; refine (trainCode_any ps [q] _ _ _ (HV.out.below HA.out) (fs_lit1 w q)).mono ?_; rintro e w1 ⟨rfl, hb1⟩; rw [HK.out]; have hb := below_then HA.out hb1)
    go_ret2
    exact ⟨_, [], rfl, ⟨rfl, .inl ⟨rfl, rfl⟩⟩, SameF.refl _, by simp, hb⟩

set_option maxHeartbeats 1000000 in
theorem specTorquesOf_any (ps : List T3) (v : Value) (q : Nat) (hq : q < 2 ^ 32) (w : World) (hv : Tr w v ps) :
    Calls Try.prog 20 #[v, .float .f32 q] w (GivesF w (askK ps q) (torquesR ps q)) := by
  have HV := Lib.hid hv
  clear hv
  by_cases h0 : askK ps q = 0
  · have HK := Lib.hid (show ask2K ps 0 q = 0 by rw [ask_r]; exact h0)
    have hR : torquesR ps q = _ := if_pos h0
    rw [h0, hR]
    have HB := Lib.hid (askK_ok h0).1
    clear h0 hR
    go_enter Try.func20, Try.ntmps20
    go_wp2_with (first | (go_at_call 39; refine (l01Asked_any ps _ _ _ _ HV.out).mono ?_; rintro e w1 ⟨rfl, rfl⟩; rw [HK.out]) | (go_at_call 46; refine (l01Torques_any ps _ q _ HV.out HB.out hq).mono ?_; rintro e w2 ⟨u, xs, rfl, ho, hS, hx, hb⟩))
    go_ret2
    exact ⟨_, xs, rfl, ho, hS, hx, hb⟩
  · have hR : torquesR ps q = [] := if_neg h0
    rw [hR]
    generalize hK : askK ps q = K at *
    have HK := Lib.hid (show ask2K ps 0 q = K by rw [ask_r]; exact hK)
    have hne : (K != 0) = true := by simpa using h0
    have hne2 : (K == 0) = false := by simpa using h0
    have hown := own_lit w w.heap.size 23 (size := 1) 0 #[] (Nat.le_refl _) (by decide) rfl
    clear hK hR h0
    go_enter Try.func20, Try.ntmps20
    go_wp2_with (go_at_call 39; refine (l01Asked_any ps _ _ _ _ HV.out).mono ?_; rintro e w1 ⟨rfl, rfl⟩; rw [HK.out])
    go_ret2
    exact ⟨_, [], rfl, hown, SameF.refl _, by simp, by (repeat' (first | (with_reducible exact Below.refl _ _) | (with_reducible assumption) | (with_reducible refine Below.alloc ?_ ?_ _) | (with_reducible refine below_drewN ?_ _) | (with_reducible refine Below.drew ?_) | (with_reducible refine Below.setCell ?_ ?_ _) | (with_reducible exact Nat.le_refl _) | omega | (simp only [World.size_alloc, World.size_setCell, World.size_drew, World.heap_drewN]; omega) | (simp; omega)))⟩

set_option maxHeartbeats 1000000 in
theorem implTorquesOf_any (ps : List T3) (v : Value) (q : Nat) (hq : q < 2 ^ 32) (w : World) (hv : Tr w v ps) :
    Calls Try.prog 21 #[v, .float .f32 q] w (GivesF w (askK ps q) (torquesR ps q)) := by
  have HV := Lib.hid hv
  have hbA : Below w.heap.size w (w.alloc (.cells #[.float .f32 q] 23)) := (Below.refl _ _).alloc (Nat.le_refl _) _
  have HA := Lib.hid hbA
  clear hv hbA
  by_cases h0 : askK ps q = 0
  · have HK := Lib.hid (show codeL ps [q] = 0 by rw [codeL_one]; exact h0)
    have hR : torquesR ps q = _ := if_pos h0
    rw [h0, hR]
    have HB := Lib.hid (askK_ok h0).1
    clear h0 hR
    go_enter Try.func21, Try.ntmps21
    go_wp2_with (first | (go_at_call 42; refine (trainCode_any ps [q] _ _ _ (HV.out.below HA.out) (fs_lit1 w q)).mono ?_; rintro e w1 ⟨rfl, hb1⟩; rw [HK.out]; have hb := below_then HA.out hb1; have hs := hb.size) | (go_at_call 47; refine (implTorques_any ps _ q _ (HV.out.below hb) HB.out hq).mono ?_; rintro e w2 ⟨u, xs, rfl, ho, hS, hx, hb2⟩))
    go_ret2
    exact ⟨_, xs, rfl, own_base ho hs, hS, hx, below_then hb hb2⟩
  · have hR : torquesR ps q = [] := if_neg h0
    rw [hR]
    generalize hK : askK ps q = K at *
    have HK := Lib.hid (show codeL ps [q] = K by rw [codeL_one]; exact hK)
    have hne : (K != 0) = true := by simpa using h0
    have hne2 : (K == 0) = false := by simpa using h0
    clear hK hR h0
    go_enter Try.func21, Try.ntmps21
    go_wp2_with (go_at_call 42; refine (trainCode_any ps [q] _ _ _ (HV.out.below HA.out) (fs_lit1 w q)).mono ?_; rintro e w1 ⟨rfl, hb1⟩; rw [HK.out]; have hb := below_then HA.out hb1)
    go_ret2
    exact ⟨_, [], rfl, ⟨rfl, .inl ⟨rfl, rfl⟩⟩, SameF.refl _, by simp, hb⟩

end Go.Proofs.Ytkgfepakedieaaa
