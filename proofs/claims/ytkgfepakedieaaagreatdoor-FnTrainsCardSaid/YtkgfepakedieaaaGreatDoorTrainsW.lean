/- The great law on trains: the walk. (written by wip/gen/trains.py.) -/
import Derived.Test.YtkgfepakedieaaaGreatDoorTs1
import Derived.Test.YtkgfepakedieaaaGreatDoorTs2
import Derived.Test.YtkgfepakedieaaaGreatDoorTs3
import Derived.Test.YtkgfepakedieaaaGreatDoorTs4
import Derived.Test.YtkgfepakedieaaaGreatDoorTrF
import Derived.Test.YtkgfepakedieaaaGreatDoorSdZ
import Derived.Test.YtkgfepakedieaaaGreatDoorCtTy
namespace Go.Proofs.YtkgfepakedieaaaGreatDoor.yTrains
open Go.RowKit
set_option linter.unusedVariables false
set_option linter.unusedSimpArgs false

set_option maxRecDepth 100000 in
set_option maxHeartbeats 16000000 in
theorem walk (a b : Option Addr) (n c m d : Nat) (w : World) (h1 : BytesAt w w.heap.size a n) (h2 : BytesAt w w.heap.size b m) (hl4 : Laid4 w) :
    Calls Tryz.prog 3 #[.slice a n c, .slice b m d] w fun e w' => e = .returned (.bool true) ∧ Below w.heap.size w w' := by
  have H1 := Lib.hid h1
  have H2 := Lib.hid h2
  have HLd := Lib.hid hl4
  have hn2 := h1.1
  have hm2 := h2.1
  clear h1 h2 hl4
  refine Fr.enter (n := 366) Tryz.func3 rfl rfl (by simp) ?_
  intro f0 hf0
  have t0 : f0 0 = .slice a n c := hf0 0 (by simp)
  have t1 : f0 1 = .slice b m d := hf0 1 (by simp)
  clear hf0
  have E1 := @Fr.ev_tmp 366
  have E2 := @Fr.ev_const 366
  have E3 := @Fr.up_get
  have E4 := @Fr.ev_func 366
  have E5 := @Fr.ev_global 366
  cases hL : (decide (3000 < (n : Int)) || decide (3000 < (m : Int)))
  · refine wp_seq ?_
    refine wp_region_lit ?_
    refine Fr.l_as rfl rfl (Fr.w_none rfl) (by simp only [Fr.ev_tmp, Fr.ev_const, Fr.up_get, Nat.reduceLT, Nat.reduceEqDiff, ↓reduceIte, t0, t1]; try rfl) ?_
    refine Fr.l_nil ?_
    refine wp_seq ?_
    refine wp_seq ?_
    refine wp_region_lit ?_
    refine Fr.l_mv rfl rfl (Fr.w_none rfl) (by simp only [Fr.ev_tmp, Fr.ev_const, Fr.up_get, Nat.reduceLT, Nat.reduceEqDiff, ↓reduceIte, t0, t1]; try rfl) ?_
    refine Fr.l_mv rfl rfl (Fr.w_none rfl) (by simp only [Fr.ev_tmp, Fr.ev_const, Fr.up_get, Nat.reduceLT, Nat.reduceEqDiff, ↓reduceIte, t0, t1]; try rfl) ?_
    (refine Fr.l_call rfl (Fr.w_none rfl) (by go_simp; first | done | (with_reducible rfl) | (with_reducible exact ⟨rfl, rfl⟩) | (with_reducible exact ⟨⟨rfl, rfl⟩, rfl⟩)) ?_; refine (a2Long_any _ _ _ _ _ _ _ hn2 hm2).mono ?_; rintro e w0 ⟨rfl, rfl⟩; refine ⟨_, rfl, ?_⟩)
    rw [hL]
    refine Fr.l_nil ?_
    refine Fr.l_cond (t := false) (by simp only [Fr.ev_tmp, Fr.ev_const, Fr.up_get, Nat.reduceLT, Nat.reduceEqDiff, ↓reduceIte]; try rfl) (fun h => absurd h (by decide)) (fun _ => ?_)
    refine wp_skip ?_
    clear hL
    refine wp_seq ?_
    refine wp_region_lit ?_
    refine Fr.l_mv rfl rfl (Fr.w_none rfl) (by simp only [Fr.ev_tmp, Fr.ev_const, Fr.up_get, Nat.reduceLT, Nat.reduceEqDiff, ↓reduceIte, t0, t1]; try rfl) ?_
    (refine Fr.l_call rfl (Fr.w_none rfl) (by go_simp; first | done | (with_reducible rfl) | (with_reducible exact ⟨rfl, rfl⟩) | (with_reducible exact ⟨⟨rfl, rfl⟩, rfl⟩)) ?_; refine (a2Train_any _ _ _ _ H1.out).mono ?_; rintro e w1 ⟨uT, ps, rfl, hoT, hlT, hpT, hb1⟩; refine ⟨_, rfl, ?_⟩)
    have hb := hb1; replace HLd := Lib.hid (HLd.out.below hb1); have HpT := Lib.hid (show ∀ p ∈ ps, PG p from hpT); clear hpT; have HP := Lib.hid (tr_of_pg hoT HpT.out)
    refine Fr.l_as rfl rfl (Fr.w_none rfl) (by simp only [Fr.ev_tmp, Fr.ev_const, Fr.up_get, Nat.reduceLT, Nat.reduceEqDiff, ↓reduceIte, t0, t1]; try rfl) ?_
    refine Fr.l_nil ?_
    refine wp_seq ?_
    refine wp_region_lit ?_
    refine Fr.l_mv rfl rfl (Fr.w_none rfl) (by simp only [Fr.ev_tmp, Fr.ev_const, Fr.up_get, Nat.reduceLT, Nat.reduceEqDiff, ↓reduceIte, t0, t1]; try rfl) ?_
    (refine Fr.l_call rfl (Fr.w_none rfl) (by go_simp; first | done | (with_reducible rfl) | (with_reducible exact ⟨rfl, rfl⟩) | (with_reducible exact ⟨⟨rfl, rfl⟩, rfl⟩)) ?_; refine (a2Train_any _ _ _ _ (bytes_go H2.out hb)).mono ?_; rintro e w2 ⟨uQ, qs, rfl, hoQ, hlQ, hpQ, hb2⟩; refine ⟨_, rfl, ?_⟩)
    have HpQ := Lib.hid (show ∀ p ∈ qs, PG p from hpQ); clear hpQ; replace hb := below_then hb hb2; replace HLd := Lib.hid (HLd.out.below hb2); replace HP := Lib.hid (HP.out.below hb2); have HQ := Lib.hid (tr_of_pg hoQ HpQ.out)
    refine Fr.l_as rfl rfl (Fr.w_none rfl) (by simp only [Fr.ev_tmp, Fr.ev_const, Fr.up_get, Nat.reduceLT, Nat.reduceEqDiff, ↓reduceIte, t0, t1]; try rfl) ?_
    refine Fr.l_nil ?_
    refine wp_seq ?_
    refine wp_region_lit ?_
    refine Fr.l_mv rfl rfl (Fr.w_none rfl) (by simp only [Fr.ev_tmp, Fr.ev_const, Fr.up_get, Nat.reduceLT, Nat.reduceEqDiff, ↓reduceIte, t0, t1]; try rfl) ?_
    (refine Fr.l_call rfl (Fr.w_none rfl) (by go_simp; first | done | (with_reducible rfl) | (with_reducible exact ⟨rfl, rfl⟩) | (with_reducible exact ⟨⟨rfl, rfl⟩, rfl⟩)) ?_; refine (a2AnyNumber_any _ _ _ _ (bytes_go H2.out hb)).mono ?_; rintro e w3 ⟨r, rfl, hr, hb3⟩; refine ⟨_, rfl, ?_⟩)
    replace hb := below_then hb hb3; replace HLd := Lib.hid (HLd.out.below hb3); replace HP := Lib.hid (HP.out.below hb3); replace HQ := Lib.hid (HQ.out.below hb3)
    refine Fr.l_as rfl rfl (Fr.w_none rfl) (by simp only [Fr.ev_tmp, Fr.ev_const, Fr.up_get, Nat.reduceLT, Nat.reduceEqDiff, ↓reduceIte, t0, t1]; try rfl) ?_
    refine Fr.l_nil ?_
    have hBP := Lib.hid (trainB_of hlT.1 (by omega) HpT.out)
    have hBQ := Lib.hid (trainB_of hlQ.1 (by omega) HpQ.out)
    have hlb := backT_len ps
    have hBB := Lib.hid (trainB_of (ps := backT ps) (by omega) (by omega) (pg_backT HpT.out))
    have hBJ := Lib.hid (trainB_of (ps := ps ++ qs) (by rw [List.length_append]; omega) (by rw [List.length_append]; omega) (pg_app HpT.out HpQ.out))
    have hne : ps ≠ [] := fun h => by rw [h] at hlT; simp at hlT
    have Hne := Lib.hid hne
    clear hne hoT hoQ
    refine wp_seq ?_
    refine wp_region_lit ?_
    refine Fr.l_mv rfl rfl (Fr.w_none rfl) (by simp only [Fr.ev_tmp, Fr.ev_const, Fr.up_get, Nat.reduceLT, Nat.reduceEqDiff, ↓reduceIte, t0, t1]; try rfl) ?_
    (refine Fr.l_call rfl (Fr.w_none rfl) (by go_simp; first | done | (with_reducible rfl) | (with_reducible exact ⟨rfl, rfl⟩) | (with_reducible exact ⟨⟨rfl, rfl⟩, rfl⟩)) ?_; refine (implNumberText_any _ hr _).mono ?_; rintro e w4 ⟨rfl, hb4⟩; refine ⟨_, rfl, ?_⟩)
    replace hb := below_then hb hb4; replace HLd := Lib.hid (HLd.out.below hb4); replace HP := Lib.hid (HP.out.below hb4); replace HQ := Lib.hid (HQ.out.below hb4)
    (refine Fr.l_call rfl (Fr.w_none rfl) (by go_simp; first | done | (with_reducible rfl) | (with_reducible exact ⟨rfl, rfl⟩) | (with_reducible exact ⟨⟨rfl, rfl⟩, rfl⟩)) ?_; refine (readNumber_yes _ hr _).mono ?_; rintro e w5 ⟨rfl, hb5⟩; refine ⟨_, rfl, ?_⟩)
    replace hb := below_then hb hb5; replace HLd := Lib.hid (HLd.out.below hb5); replace HP := Lib.hid (HP.out.below hb5); replace HQ := Lib.hid (HQ.out.below hb5)
    refine Fr.l_mv rfl rfl (Fr.w_none rfl) (by simp only [Fr.ev_tmp, Fr.ev_const, Fr.up_get, Nat.reduceLT, Nat.reduceEqDiff, ↓reduceIte, t0, t1]; try rfl) ?_
    refine Fr.l_val rfl (Fr.w_none rfl) (by go_simp; first | done | (with_reducible rfl) | (with_reducible exact ⟨rfl, rfl⟩) | (with_reducible exact ⟨⟨rfl, rfl⟩, rfl⟩)) ?_
    refine Fr.l_val rfl (Fr.w_none rfl) (by go_simp; first | done | (with_reducible rfl) | (with_reducible exact ⟨rfl, rfl⟩) | (with_reducible exact ⟨⟨rfl, rfl⟩, rfl⟩)) ?_
    refine Fr.l_as rfl rfl (Fr.w_none rfl) (by simp only [Fr.ev_tmp, Fr.ev_const, Fr.up_get, Nat.reduceLT, Nat.reduceEqDiff, ↓reduceIte, t0, t1]; try rfl) ?_
    refine Fr.l_as rfl rfl (Fr.w_none rfl) (by simp only [Fr.ev_tmp, Fr.ev_const, Fr.up_get, Nat.reduceLT, Nat.reduceEqDiff, ↓reduceIte, t0, t1]; try rfl) ?_
    refine Fr.l_nil ?_
    refine wp_seq ?_
    refine wp_region_lit ?_
    refine Fr.l_mv rfl rfl (Fr.w_none rfl) (by simp only [Fr.ev_tmp, Fr.ev_const, Fr.up_get, Nat.reduceLT, Nat.reduceEqDiff, ↓reduceIte, t0, t1]; try rfl) ?_
    (refine Fr.l_call rfl (Fr.w_none rfl) (by go_simp; first | done | (with_reducible rfl) | (with_reducible exact ⟨rfl, rfl⟩) | (with_reducible exact ⟨⟨rfl, rfl⟩, rfl⟩)) ?_; refine (implTrainText_any ps _ _ HP.out HLd.out.pow).mono ?_; rintro e w6 ⟨rfl, hb6⟩; refine ⟨_, rfl, ?_⟩)
    replace hb := below_then hb hb6; replace HLd := Lib.hid (HLd.out.below hb6); replace HP := Lib.hid (HP.out.below hb6); replace HQ := Lib.hid (HQ.out.below hb6)
    (refine Fr.l_call rfl (Fr.w_none rfl) (by go_simp; first | done | (with_reducible rfl) | (with_reducible exact ⟨rfl, rfl⟩) | (with_reducible exact ⟨⟨rfl, rfl⟩, rfl⟩)) ?_; refine (readTrain_yes hBP.out (fun p hp => pok_of_pg (HpT.out p hp)) Hne.out _ HLd.out).mono ?_; rintro e w7 ⟨u10, rfl, ho10, hb7⟩; refine ⟨_, rfl, ?_⟩)
    replace hb := below_then hb hb7; replace HLd := Lib.hid (HLd.out.below hb7); replace HP := Lib.hid (HP.out.below hb7); replace HQ := Lib.hid (HQ.out.below hb7); have H10 := Lib.hid (tr_of_pg ho10 HpT.out)
    refine Fr.l_mv rfl rfl (Fr.w_none rfl) (by simp only [Fr.ev_tmp, Fr.ev_const, Fr.up_get, Nat.reduceLT, Nat.reduceEqDiff, ↓reduceIte, t0, t1]; try rfl) ?_
    refine Fr.l_val rfl (Fr.w_none rfl) (by go_simp; first | done | (with_reducible rfl) | (with_reducible exact ⟨rfl, rfl⟩) | (with_reducible exact ⟨⟨rfl, rfl⟩, rfl⟩)) ?_
    refine Fr.l_val rfl (Fr.w_none rfl) (by go_simp; first | done | (with_reducible rfl) | (with_reducible exact ⟨rfl, rfl⟩) | (with_reducible exact ⟨⟨rfl, rfl⟩, rfl⟩)) ?_
    refine Fr.l_as rfl rfl (Fr.w_none rfl) (by simp only [Fr.ev_tmp, Fr.ev_const, Fr.up_get, Nat.reduceLT, Nat.reduceEqDiff, ↓reduceIte, t0, t1]; try rfl) ?_
    refine Fr.l_as rfl rfl (Fr.w_none rfl) (by simp only [Fr.ev_tmp, Fr.ev_const, Fr.up_get, Nat.reduceLT, Nat.reduceEqDiff, ↓reduceIte, t0, t1]; try rfl) ?_
    refine Fr.l_nil ?_
    refine wp_seq ?_
    refine wp_region_lit ?_
    refine Fr.l_mv rfl rfl (Fr.w_none rfl) (by simp only [Fr.ev_tmp, Fr.ev_const, Fr.up_get, Nat.reduceLT, Nat.reduceEqDiff, ↓reduceIte, t0, t1]; try rfl) ?_
    (refine Fr.l_call rfl (Fr.w_none rfl) (by go_simp; first | done | (with_reducible rfl) | (with_reducible exact ⟨rfl, rfl⟩) | (with_reducible exact ⟨⟨rfl, rfl⟩, rfl⟩)) ?_; refine (implBack_yes _ _ HP.out hBP.out).mono ?_; rintro e w8 ⟨u12, rfl, ho12, hb8⟩; refine ⟨_, rfl, ?_⟩)
    replace hb := below_then hb hb8; replace HLd := Lib.hid (HLd.out.below hb8); replace HP := Lib.hid (HP.out.below hb8); replace HQ := Lib.hid (HQ.out.below hb8); replace H10 := Lib.hid (H10.out.below hb8); have H12 := Lib.hid (tr_of_pg ho12 (pg_backT HpT.out))
    refine Fr.l_mv rfl rfl (Fr.w_none rfl) (by simp only [Fr.ev_tmp, Fr.ev_const, Fr.up_get, Nat.reduceLT, Nat.reduceEqDiff, ↓reduceIte, t0, t1]; try rfl) ?_
    refine Fr.l_val rfl (Fr.w_none rfl) (by go_simp; first | done | (with_reducible rfl) | (with_reducible exact ⟨rfl, rfl⟩) | (with_reducible exact ⟨⟨rfl, rfl⟩, rfl⟩)) ?_
    refine Fr.l_val rfl (Fr.w_none rfl) (by go_simp; first | done | (with_reducible rfl) | (with_reducible exact ⟨rfl, rfl⟩) | (with_reducible exact ⟨⟨rfl, rfl⟩, rfl⟩)) ?_
    refine Fr.l_as rfl rfl (Fr.w_none rfl) (by simp only [Fr.ev_tmp, Fr.ev_const, Fr.up_get, Nat.reduceLT, Nat.reduceEqDiff, ↓reduceIte, t0, t1]; try rfl) ?_
    refine Fr.l_as rfl rfl (Fr.w_none rfl) (by simp only [Fr.ev_tmp, Fr.ev_const, Fr.up_get, Nat.reduceLT, Nat.reduceEqDiff, ↓reduceIte, t0, t1]; try rfl) ?_
    refine Fr.l_nil ?_
    refine wp_seq ?_
    refine wp_region_lit ?_
    refine Fr.l_mv rfl rfl (Fr.w_none rfl) (by simp only [Fr.ev_tmp, Fr.ev_const, Fr.up_get, Nat.reduceLT, Nat.reduceEqDiff, ↓reduceIte, t0, t1]; try rfl) ?_
    (refine Fr.l_call rfl (Fr.w_none rfl) (by go_simp; first | done | (with_reducible rfl) | (with_reducible exact ⟨rfl, rfl⟩) | (with_reducible exact ⟨⟨rfl, rfl⟩, rfl⟩)) ?_; refine (specBack_yes _ _ HP.out hBP.out).mono ?_; rintro e w9 ⟨u14, rfl, ho14, hb9⟩; refine ⟨_, rfl, ?_⟩)
    replace hb := below_then hb hb9; replace HLd := Lib.hid (HLd.out.below hb9); replace HP := Lib.hid (HP.out.below hb9); replace HQ := Lib.hid (HQ.out.below hb9); replace H10 := Lib.hid (H10.out.below hb9); replace H12 := Lib.hid (H12.out.below hb9); have H14 := Lib.hid (tr_of_pg ho14 (pg_backT HpT.out))
    refine Fr.l_mv rfl rfl (Fr.w_none rfl) (by simp only [Fr.ev_tmp, Fr.ev_const, Fr.up_get, Nat.reduceLT, Nat.reduceEqDiff, ↓reduceIte, t0, t1]; try rfl) ?_
    refine Fr.l_val rfl (Fr.w_none rfl) (by go_simp; first | done | (with_reducible rfl) | (with_reducible exact ⟨rfl, rfl⟩) | (with_reducible exact ⟨⟨rfl, rfl⟩, rfl⟩)) ?_
    refine Fr.l_val rfl (Fr.w_none rfl) (by go_simp; first | done | (with_reducible rfl) | (with_reducible exact ⟨rfl, rfl⟩) | (with_reducible exact ⟨⟨rfl, rfl⟩, rfl⟩)) ?_
    refine Fr.l_as rfl rfl (Fr.w_none rfl) (by simp only [Fr.ev_tmp, Fr.ev_const, Fr.up_get, Nat.reduceLT, Nat.reduceEqDiff, ↓reduceIte, t0, t1]; try rfl) ?_
    refine Fr.l_as rfl rfl (Fr.w_none rfl) (by simp only [Fr.ev_tmp, Fr.ev_const, Fr.up_get, Nat.reduceLT, Nat.reduceEqDiff, ↓reduceIte, t0, t1]; try rfl) ?_
    refine Fr.l_nil ?_
    refine wp_seq ?_
    refine wp_region_lit ?_
    refine Fr.l_mv rfl rfl (Fr.w_none rfl) (by simp only [Fr.ev_tmp, Fr.ev_const, Fr.up_get, Nat.reduceLT, Nat.reduceEqDiff, ↓reduceIte, t0, t1]; try rfl) ?_
    (refine Fr.l_call rfl (Fr.w_none rfl) (by go_simp; first | done | (with_reducible rfl) | (with_reducible exact ⟨rfl, rfl⟩) | (with_reducible exact ⟨⟨rfl, rfl⟩, rfl⟩)) ?_; refine (implBack_yes _ _ H14.out hBB.out).mono ?_; rintro e w10 ⟨u16, rfl, ho16, hb10⟩; refine ⟨_, rfl, ?_⟩)
    rw [backT_back] at ho16; replace hb := below_then hb hb10; replace HLd := Lib.hid (HLd.out.below hb10); replace HP := Lib.hid (HP.out.below hb10); replace HQ := Lib.hid (HQ.out.below hb10); replace H10 := Lib.hid (H10.out.below hb10); replace H12 := Lib.hid (H12.out.below hb10); replace H14 := Lib.hid (H14.out.below hb10); have H16 := Lib.hid (tr_of_pg ho16 HpT.out)
    refine Fr.l_mv rfl rfl (Fr.w_none rfl) (by simp only [Fr.ev_tmp, Fr.ev_const, Fr.up_get, Nat.reduceLT, Nat.reduceEqDiff, ↓reduceIte, t0, t1]; try rfl) ?_
    refine Fr.l_val rfl (Fr.w_none rfl) (by go_simp; first | done | (with_reducible rfl) | (with_reducible exact ⟨rfl, rfl⟩) | (with_reducible exact ⟨⟨rfl, rfl⟩, rfl⟩)) ?_
    refine Fr.l_val rfl (Fr.w_none rfl) (by go_simp; first | done | (with_reducible rfl) | (with_reducible exact ⟨rfl, rfl⟩) | (with_reducible exact ⟨⟨rfl, rfl⟩, rfl⟩)) ?_
    refine Fr.l_as rfl rfl (Fr.w_none rfl) (by simp only [Fr.ev_tmp, Fr.ev_const, Fr.up_get, Nat.reduceLT, Nat.reduceEqDiff, ↓reduceIte, t0, t1]; try rfl) ?_
    refine Fr.l_as rfl rfl (Fr.w_none rfl) (by simp only [Fr.ev_tmp, Fr.ev_const, Fr.up_get, Nat.reduceLT, Nat.reduceEqDiff, ↓reduceIte, t0, t1]; try rfl) ?_
    refine Fr.l_nil ?_
    clear ho10 ho12 ho14 ho16
    obtain ⟨a5, k5, e5, _⟩ := HP.out
    obtain ⟨a6, k6, e6, _⟩ := HQ.out
    obtain ⟨a10, k10, e10, _⟩ := H10.out
    subst e5 e6 e10
    refine Fr.name ?_
    intro f hf
    have f5 : f 5 = .slice a5 ps.length k5 := by rw [hf]; simp only [Fr.up_get, Nat.reduceEqDiff, ↓reduceIte]
    have f6 : f 6 = .slice a6 qs.length k6 := by rw [hf]; simp only [Fr.up_get, Nat.reduceEqDiff, ↓reduceIte]
    have f7 : f 7 = .float .f32 r := by rw [hf]; simp only [Fr.up_get, Nat.reduceEqDiff, ↓reduceIte]
    have f8 : f 8 = .float .f32 (cn r) := by rw [hf]; simp only [Fr.up_get, Nat.reduceEqDiff, ↓reduceIte]
    have f9 : f 9 = .int .i64 0 := by rw [hf]; simp only [Fr.up_get, Nat.reduceEqDiff, ↓reduceIte]
    have f10 : f 10 = .slice a10 ps.length k10 := by rw [hf]; simp only [Fr.up_get, Nat.reduceEqDiff, ↓reduceIte]
    have f11 : f 11 = .int .i64 0 := by rw [hf]; simp only [Fr.up_get, Nat.reduceEqDiff, ↓reduceIte]
    have f12 : f 12 = u12 := by rw [hf]; simp only [Fr.up_get, Nat.reduceEqDiff, ↓reduceIte]
    have f13 : f 13 = .int .i64 0 := by rw [hf]; simp only [Fr.up_get, Nat.reduceEqDiff, ↓reduceIte]
    have f14 : f 14 = u14 := by rw [hf]; simp only [Fr.up_get, Nat.reduceEqDiff, ↓reduceIte]
    have f15 : f 15 = .int .i64 0 := by rw [hf]; simp only [Fr.up_get, Nat.reduceEqDiff, ↓reduceIte]
    have f16 : f 16 = u16 := by rw [hf]; simp only [Fr.up_get, Nat.reduceEqDiff, ↓reduceIte]
    have f17 : f 17 = .int .i64 0 := by rw [hf]; simp only [Fr.up_get, Nat.reduceEqDiff, ↓reduceIte]
    clear hf t0 t1
    refine Fr.wp_code (c' := (Fr.fs (Fr.sn (Fr.sn (Fr.sn (Fr.sn (Fr.sn (Fr.sn (Fr.sn (Fr.sn (Fr.sn (Fr.sn (B3)))))))))))).seq (Fr.sn (Fr.sn (Fr.sn (Fr.sn (Fr.sn (Fr.sn (Fr.sn (Fr.sn (Fr.sn (Fr.sn (Fr.sn (B3))))))))))))) (by kernel_rfl) ?_
    refine e11 (ps := ps) f5 f7 f8 f9 f10 f11 f12 f13 f14 f15 f16 f17 HP.out H10.out H12.out H14.out H16.out hBP.out hr (Below.refl _ _) ?_
    intro wA g hbA hA
    replace hb := below_then hb hbA
    replace HP := Lib.hid (HP.out.below hbA)
    replace HQ := Lib.hid (HQ.out.below hbA)
    replace H10 := Lib.hid (H10.out.below hbA)
    replace H12 := Lib.hid (H12.out.below hbA)
    replace H14 := Lib.hid (H14.out.below hbA)
    replace H16 := Lib.hid (H16.out.below hbA)
    have g5 := (hA 5 (by decide)).trans f5
    have g6 := (hA 6 (by decide)).trans f6
    have g14 := (hA 14 (by decide)).trans f14
    conv => arg 2; whnf
    refine wp_seq ?_
    refine wp_region_lit ?_
    refine Fr.l_mv rfl rfl (Fr.w_none rfl) (by simp only [Fr.ev_tmp, Fr.ev_const, Fr.up_get, Nat.reduceLT, Nat.reduceEqDiff, ↓reduceIte, g5, g6, g14]; try rfl) ?_
    (refine Fr.l_call rfl (Fr.w_none rfl) (by go_simp; first | done | (with_reducible rfl) | (with_reducible exact ⟨rfl, rfl⟩) | (with_reducible exact ⟨⟨rfl, rfl⟩, rfl⟩)) ?_; refine (ratio_yes _ _ HP.out hBP.out).mono ?_; rintro e w13 ⟨rfl, hb13⟩; refine ⟨_, rfl, ?_⟩)
    replace hb := below_then hb hb13; replace HP := Lib.hid (HP.out.below hb13); replace HQ := Lib.hid (HQ.out.below hb13); replace H10 := Lib.hid (H10.out.below hb13); replace H12 := Lib.hid (H12.out.below hb13); replace H14 := Lib.hid (H14.out.below hb13); replace H16 := Lib.hid (H16.out.below hb13)
    refine Fr.l_mv rfl rfl (Fr.w_none rfl) (by simp only [Fr.ev_tmp, Fr.ev_const, Fr.up_get, Nat.reduceLT, Nat.reduceEqDiff, ↓reduceIte, g5, g6, g14]; try rfl) ?_
    refine Fr.l_val rfl (Fr.w_none rfl) (by go_simp; first | done | (with_reducible rfl) | (with_reducible exact ⟨rfl, rfl⟩) | (with_reducible exact ⟨⟨rfl, rfl⟩, rfl⟩)) ?_
    refine Fr.l_val rfl (Fr.w_none rfl) (by go_simp; first | done | (with_reducible rfl) | (with_reducible exact ⟨rfl, rfl⟩) | (with_reducible exact ⟨⟨rfl, rfl⟩, rfl⟩)) ?_
    refine Fr.l_val rfl (Fr.w_none rfl) (by go_simp; first | done | (with_reducible rfl) | (with_reducible exact ⟨rfl, rfl⟩) | (with_reducible exact ⟨⟨rfl, rfl⟩, rfl⟩)) ?_
    refine Fr.l_as rfl rfl (Fr.w_none rfl) (by simp only [Fr.ev_tmp, Fr.ev_const, Fr.up_get, Nat.reduceLT, Nat.reduceEqDiff, ↓reduceIte, g5, g6, g14]; try rfl) ?_
    refine Fr.l_as rfl rfl (Fr.w_none rfl) (by simp only [Fr.ev_tmp, Fr.ev_const, Fr.up_get, Nat.reduceLT, Nat.reduceEqDiff, ↓reduceIte, g5, g6, g14]; try rfl) ?_
    refine Fr.l_as rfl rfl (Fr.w_none rfl) (by simp only [Fr.ev_tmp, Fr.ev_const, Fr.up_get, Nat.reduceLT, Nat.reduceEqDiff, ↓reduceIte, g5, g6, g14]; try rfl) ?_
    refine Fr.l_nil ?_
    refine wp_seq ?_
    refine wp_region_lit ?_
    refine Fr.l_mv rfl rfl (Fr.w_none rfl) (by simp only [Fr.ev_tmp, Fr.ev_const, Fr.up_get, Nat.reduceLT, Nat.reduceEqDiff, ↓reduceIte, g5, g6, g14]; try rfl) ?_
    (refine Fr.l_call rfl (Fr.w_none rfl) (by go_simp; first | done | (with_reducible rfl) | (with_reducible exact ⟨rfl, rfl⟩) | (with_reducible exact ⟨⟨rfl, rfl⟩, rfl⟩)) ?_; refine (ratio_yes _ _ H14.out hBB.out).mono ?_; rintro e w14 ⟨rfl, hb14⟩; refine ⟨_, rfl, ?_⟩)
    rw [(ratio_back ps).1, (ratio_back ps).2]; replace hb := below_then hb hb14; replace HP := Lib.hid (HP.out.below hb14); replace HQ := Lib.hid (HQ.out.below hb14); replace H10 := Lib.hid (H10.out.below hb14); replace H12 := Lib.hid (H12.out.below hb14); replace H14 := Lib.hid (H14.out.below hb14); replace H16 := Lib.hid (H16.out.below hb14)
    refine Fr.l_mv rfl rfl (Fr.w_none rfl) (by simp only [Fr.ev_tmp, Fr.ev_const, Fr.up_get, Nat.reduceLT, Nat.reduceEqDiff, ↓reduceIte, g5, g6, g14]; try rfl) ?_
    refine Fr.l_val rfl (Fr.w_none rfl) (by go_simp; first | done | (with_reducible rfl) | (with_reducible exact ⟨rfl, rfl⟩) | (with_reducible exact ⟨⟨rfl, rfl⟩, rfl⟩)) ?_
    refine Fr.l_val rfl (Fr.w_none rfl) (by go_simp; first | done | (with_reducible rfl) | (with_reducible exact ⟨rfl, rfl⟩) | (with_reducible exact ⟨⟨rfl, rfl⟩, rfl⟩)) ?_
    refine Fr.l_val rfl (Fr.w_none rfl) (by go_simp; first | done | (with_reducible rfl) | (with_reducible exact ⟨rfl, rfl⟩) | (with_reducible exact ⟨⟨rfl, rfl⟩, rfl⟩)) ?_
    refine Fr.l_as rfl rfl (Fr.w_none rfl) (by simp only [Fr.ev_tmp, Fr.ev_const, Fr.up_get, Nat.reduceLT, Nat.reduceEqDiff, ↓reduceIte, g5, g6, g14]; try rfl) ?_
    refine Fr.l_as rfl rfl (Fr.w_none rfl) (by simp only [Fr.ev_tmp, Fr.ev_const, Fr.up_get, Nat.reduceLT, Nat.reduceEqDiff, ↓reduceIte, g5, g6, g14]; try rfl) ?_
    refine Fr.l_as rfl rfl (Fr.w_none rfl) (by simp only [Fr.ev_tmp, Fr.ev_const, Fr.up_get, Nat.reduceLT, Nat.reduceEqDiff, ↓reduceIte, g5, g6, g14]; try rfl) ?_
    refine Fr.l_nil ?_
    refine wp_seq ?_
    refine wp_region_lit ?_
    refine Fr.l_mv rfl rfl (Fr.w_none rfl) (by simp only [Fr.ev_tmp, Fr.ev_const, Fr.up_get, Nat.reduceLT, Nat.reduceEqDiff, ↓reduceIte, g5, g6, g14]; try rfl) ?_
    (refine Fr.l_call rfl (Fr.w_none rfl) (by go_simp; first | done | (with_reducible rfl) | (with_reducible exact ⟨rfl, rfl⟩) | (with_reducible exact ⟨⟨rfl, rfl⟩, rfl⟩)) ?_; refine (ratio_yes _ _ HQ.out hBQ.out).mono ?_; rintro e w15 ⟨rfl, hb15⟩; refine ⟨_, rfl, ?_⟩)
    replace hb := below_then hb hb15; replace HP := Lib.hid (HP.out.below hb15); replace HQ := Lib.hid (HQ.out.below hb15); replace H10 := Lib.hid (H10.out.below hb15); replace H12 := Lib.hid (H12.out.below hb15); replace H14 := Lib.hid (H14.out.below hb15); replace H16 := Lib.hid (H16.out.below hb15)
    refine Fr.l_mv rfl rfl (Fr.w_none rfl) (by simp only [Fr.ev_tmp, Fr.ev_const, Fr.up_get, Nat.reduceLT, Nat.reduceEqDiff, ↓reduceIte, g5, g6, g14]; try rfl) ?_
    refine Fr.l_val rfl (Fr.w_none rfl) (by go_simp; first | done | (with_reducible rfl) | (with_reducible exact ⟨rfl, rfl⟩) | (with_reducible exact ⟨⟨rfl, rfl⟩, rfl⟩)) ?_
    refine Fr.l_val rfl (Fr.w_none rfl) (by go_simp; first | done | (with_reducible rfl) | (with_reducible exact ⟨rfl, rfl⟩) | (with_reducible exact ⟨⟨rfl, rfl⟩, rfl⟩)) ?_
    refine Fr.l_val rfl (Fr.w_none rfl) (by go_simp; first | done | (with_reducible rfl) | (with_reducible exact ⟨rfl, rfl⟩) | (with_reducible exact ⟨⟨rfl, rfl⟩, rfl⟩)) ?_
    refine Fr.l_as rfl rfl (Fr.w_none rfl) (by simp only [Fr.ev_tmp, Fr.ev_const, Fr.up_get, Nat.reduceLT, Nat.reduceEqDiff, ↓reduceIte, g5, g6, g14]; try rfl) ?_
    refine Fr.l_as rfl rfl (Fr.w_none rfl) (by simp only [Fr.ev_tmp, Fr.ev_const, Fr.up_get, Nat.reduceLT, Nat.reduceEqDiff, ↓reduceIte, g5, g6, g14]; try rfl) ?_
    refine Fr.l_as rfl rfl (Fr.w_none rfl) (by simp only [Fr.ev_tmp, Fr.ev_const, Fr.up_get, Nat.reduceLT, Nat.reduceEqDiff, ↓reduceIte, g5, g6, g14]; try rfl) ?_
    refine Fr.l_nil ?_
    refine wp_seq ?_
    refine wp_region_lit ?_
    refine Fr.l_mv rfl rfl (Fr.w_none rfl) (by simp only [Fr.ev_tmp, Fr.ev_const, Fr.up_get, Nat.reduceLT, Nat.reduceEqDiff, ↓reduceIte, g5, g6, g14]; try rfl) ?_
    refine Fr.l_mv rfl rfl (Fr.w_none rfl) (by simp only [Fr.ev_tmp, Fr.ev_const, Fr.up_get, Nat.reduceLT, Nat.reduceEqDiff, ↓reduceIte, g5, g6, g14]; try rfl) ?_
    (refine Fr.l_call rfl (Fr.w_none rfl) (by go_simp; first | done | (with_reducible rfl) | (with_reducible exact ⟨rfl, rfl⟩) | (with_reducible exact ⟨⟨rfl, rfl⟩, rfl⟩)) ?_; refine (implJoin_ok ps qs _ _ _ HP.out HQ.out hBP.out hBQ.out (by omega)).mono ?_; rintro e w16 ⟨u27, rfl, ho27, hb16⟩; refine ⟨_, rfl, ?_⟩)
    replace hb := below_then hb hb16; replace HP := Lib.hid (HP.out.below hb16); replace HQ := Lib.hid (HQ.out.below hb16); replace H10 := Lib.hid (H10.out.below hb16); replace H12 := Lib.hid (H12.out.below hb16); replace H14 := Lib.hid (H14.out.below hb16); replace H16 := Lib.hid (H16.out.below hb16); have H27 := Lib.hid (tr_of_pg ho27 (pg_app HpT.out HpQ.out))
    refine Fr.l_mv rfl rfl (Fr.w_none rfl) (by simp only [Fr.ev_tmp, Fr.ev_const, Fr.up_get, Nat.reduceLT, Nat.reduceEqDiff, ↓reduceIte, g5, g6, g14]; try rfl) ?_
    refine Fr.l_val rfl (Fr.w_none rfl) (by go_simp; first | done | (with_reducible rfl) | (with_reducible exact ⟨rfl, rfl⟩) | (with_reducible exact ⟨⟨rfl, rfl⟩, rfl⟩)) ?_
    refine Fr.l_val rfl (Fr.w_none rfl) (by go_simp; first | done | (with_reducible rfl) | (with_reducible exact ⟨rfl, rfl⟩) | (with_reducible exact ⟨⟨rfl, rfl⟩, rfl⟩)) ?_
    refine Fr.l_as rfl rfl (Fr.w_none rfl) (by simp only [Fr.ev_tmp, Fr.ev_const, Fr.up_get, Nat.reduceLT, Nat.reduceEqDiff, ↓reduceIte, g5, g6, g14]; try rfl) ?_
    refine Fr.l_as rfl rfl (Fr.w_none rfl) (by simp only [Fr.ev_tmp, Fr.ev_const, Fr.up_get, Nat.reduceLT, Nat.reduceEqDiff, ↓reduceIte, g5, g6, g14]; try rfl) ?_
    refine Fr.l_nil ?_
    refine wp_seq ?_
    refine wp_region_lit ?_
    refine Fr.l_mv rfl rfl (Fr.w_none rfl) (by simp only [Fr.ev_tmp, Fr.ev_const, Fr.up_get, Nat.reduceLT, Nat.reduceEqDiff, ↓reduceIte, g5, g6, g14]; try rfl) ?_
    (refine Fr.l_call rfl (Fr.w_none rfl) (by go_simp; first | done | (with_reducible rfl) | (with_reducible exact ⟨rfl, rfl⟩) | (with_reducible exact ⟨⟨rfl, rfl⟩, rfl⟩)) ?_; refine (ratio_yes _ _ H27.out hBJ.out).mono ?_; rintro e w17 ⟨rfl, hb17⟩; refine ⟨_, rfl, ?_⟩)
    replace hb := below_then hb hb17; replace HP := Lib.hid (HP.out.below hb17); replace HQ := Lib.hid (HQ.out.below hb17); replace H10 := Lib.hid (H10.out.below hb17); replace H12 := Lib.hid (H12.out.below hb17); replace H14 := Lib.hid (H14.out.below hb17); replace H16 := Lib.hid (H16.out.below hb17); replace H27 := Lib.hid (H27.out.below hb17)
    refine Fr.l_mv rfl rfl (Fr.w_none rfl) (by simp only [Fr.ev_tmp, Fr.ev_const, Fr.up_get, Nat.reduceLT, Nat.reduceEqDiff, ↓reduceIte, g5, g6, g14]; try rfl) ?_
    refine Fr.l_val rfl (Fr.w_none rfl) (by go_simp; first | done | (with_reducible rfl) | (with_reducible exact ⟨rfl, rfl⟩) | (with_reducible exact ⟨⟨rfl, rfl⟩, rfl⟩)) ?_
    refine Fr.l_val rfl (Fr.w_none rfl) (by go_simp; first | done | (with_reducible rfl) | (with_reducible exact ⟨rfl, rfl⟩) | (with_reducible exact ⟨⟨rfl, rfl⟩, rfl⟩)) ?_
    refine Fr.l_val rfl (Fr.w_none rfl) (by go_simp; first | done | (with_reducible rfl) | (with_reducible exact ⟨rfl, rfl⟩) | (with_reducible exact ⟨⟨rfl, rfl⟩, rfl⟩)) ?_
    refine Fr.l_as rfl rfl (Fr.w_none rfl) (by simp only [Fr.ev_tmp, Fr.ev_const, Fr.up_get, Nat.reduceLT, Nat.reduceEqDiff, ↓reduceIte, g5, g6, g14]; try rfl) ?_
    refine Fr.l_as rfl rfl (Fr.w_none rfl) (by simp only [Fr.ev_tmp, Fr.ev_const, Fr.up_get, Nat.reduceLT, Nat.reduceEqDiff, ↓reduceIte, g5, g6, g14]; try rfl) ?_
    refine Fr.l_as rfl rfl (Fr.w_none rfl) (by simp only [Fr.ev_tmp, Fr.ev_const, Fr.up_get, Nat.reduceLT, Nat.reduceEqDiff, ↓reduceIte, g5, g6, g14]; try rfl) ?_
    refine Fr.l_nil ?_
    refine wp_seq ?_
    refine wp_region_lit ?_
    refine Fr.l_mv rfl rfl (Fr.w_none rfl) (by simp only [Fr.ev_tmp, Fr.ev_const, Fr.up_get, Nat.reduceLT, Nat.reduceEqDiff, ↓reduceIte, g5, g6, g14]; try rfl) ?_
    (refine Fr.l_call rfl (Fr.w_none rfl) (by go_simp; first | done | (with_reducible rfl) | (with_reducible exact ⟨rfl, rfl⟩) | (with_reducible exact ⟨⟨rfl, rfl⟩, rfl⟩)) ?_; refine (reversed_yes _ _ HP.out hBP.out).mono ?_; rintro e w18 ⟨rfl, hb18⟩; refine ⟨_, rfl, ?_⟩)
    replace hb := below_then hb hb18; replace HP := Lib.hid (HP.out.below hb18); replace HQ := Lib.hid (HQ.out.below hb18); replace H10 := Lib.hid (H10.out.below hb18); replace H12 := Lib.hid (H12.out.below hb18); replace H14 := Lib.hid (H14.out.below hb18); replace H16 := Lib.hid (H16.out.below hb18); replace H27 := Lib.hid (H27.out.below hb18)
    refine Fr.l_mv rfl rfl (Fr.w_none rfl) (by simp only [Fr.ev_tmp, Fr.ev_const, Fr.up_get, Nat.reduceLT, Nat.reduceEqDiff, ↓reduceIte, g5, g6, g14]; try rfl) ?_
    refine Fr.l_val rfl (Fr.w_none rfl) (by go_simp; first | done | (with_reducible rfl) | (with_reducible exact ⟨rfl, rfl⟩) | (with_reducible exact ⟨⟨rfl, rfl⟩, rfl⟩)) ?_
    refine Fr.l_val rfl (Fr.w_none rfl) (by go_simp; first | done | (with_reducible rfl) | (with_reducible exact ⟨rfl, rfl⟩) | (with_reducible exact ⟨⟨rfl, rfl⟩, rfl⟩)) ?_
    refine Fr.l_as rfl rfl (Fr.w_none rfl) (by simp only [Fr.ev_tmp, Fr.ev_const, Fr.up_get, Nat.reduceLT, Nat.reduceEqDiff, ↓reduceIte, g5, g6, g14]; try rfl) ?_
    refine Fr.l_as rfl rfl (Fr.w_none rfl) (by simp only [Fr.ev_tmp, Fr.ev_const, Fr.up_get, Nat.reduceLT, Nat.reduceEqDiff, ↓reduceIte, g5, g6, g14]; try rfl) ?_
    refine Fr.l_nil ?_
    refine wp_seq ?_
    refine wp_region_lit ?_
    refine Fr.l_mv rfl rfl (Fr.w_none rfl) (by simp only [Fr.ev_tmp, Fr.ev_const, Fr.up_get, Nat.reduceLT, Nat.reduceEqDiff, ↓reduceIte, g5, g6, g14]; try rfl) ?_
    (refine Fr.l_call rfl (Fr.w_none rfl) (by go_simp; first | done | (with_reducible rfl) | (with_reducible exact ⟨rfl, rfl⟩) | (with_reducible exact ⟨⟨rfl, rfl⟩, rfl⟩)) ?_; refine (reversed_yes _ _ HQ.out hBQ.out).mono ?_; rintro e w19 ⟨rfl, hb19⟩; refine ⟨_, rfl, ?_⟩)
    replace hb := below_then hb hb19; replace HP := Lib.hid (HP.out.below hb19); replace HQ := Lib.hid (HQ.out.below hb19); replace H10 := Lib.hid (H10.out.below hb19); replace H12 := Lib.hid (H12.out.below hb19); replace H14 := Lib.hid (H14.out.below hb19); replace H16 := Lib.hid (H16.out.below hb19); replace H27 := Lib.hid (H27.out.below hb19)
    refine Fr.l_mv rfl rfl (Fr.w_none rfl) (by simp only [Fr.ev_tmp, Fr.ev_const, Fr.up_get, Nat.reduceLT, Nat.reduceEqDiff, ↓reduceIte, g5, g6, g14]; try rfl) ?_
    refine Fr.l_val rfl (Fr.w_none rfl) (by go_simp; first | done | (with_reducible rfl) | (with_reducible exact ⟨rfl, rfl⟩) | (with_reducible exact ⟨⟨rfl, rfl⟩, rfl⟩)) ?_
    refine Fr.l_val rfl (Fr.w_none rfl) (by go_simp; first | done | (with_reducible rfl) | (with_reducible exact ⟨rfl, rfl⟩) | (with_reducible exact ⟨⟨rfl, rfl⟩, rfl⟩)) ?_
    refine Fr.l_as rfl rfl (Fr.w_none rfl) (by simp only [Fr.ev_tmp, Fr.ev_const, Fr.up_get, Nat.reduceLT, Nat.reduceEqDiff, ↓reduceIte, g5, g6, g14]; try rfl) ?_
    refine Fr.l_as rfl rfl (Fr.w_none rfl) (by simp only [Fr.ev_tmp, Fr.ev_const, Fr.up_get, Nat.reduceLT, Nat.reduceEqDiff, ↓reduceIte, g5, g6, g14]; try rfl) ?_
    refine Fr.l_nil ?_
    refine wp_seq ?_
    refine wp_region_lit ?_
    refine Fr.l_mv rfl rfl (Fr.w_none rfl) (by simp only [Fr.ev_tmp, Fr.ev_const, Fr.up_get, Nat.reduceLT, Nat.reduceEqDiff, ↓reduceIte, g5, g6, g14]; try rfl) ?_
    (refine Fr.l_call rfl (Fr.w_none rfl) (by go_simp; first | done | (with_reducible rfl) | (with_reducible exact ⟨rfl, rfl⟩) | (with_reducible exact ⟨⟨rfl, rfl⟩, rfl⟩)) ?_; refine (reversed_yes _ _ H27.out hBJ.out).mono ?_; rintro e w20 ⟨rfl, hb20⟩; refine ⟨_, rfl, ?_⟩)
    rw [rev_join]; replace hb := below_then hb hb20; replace HP := Lib.hid (HP.out.below hb20); replace HQ := Lib.hid (HQ.out.below hb20); replace H10 := Lib.hid (H10.out.below hb20); replace H12 := Lib.hid (H12.out.below hb20); replace H14 := Lib.hid (H14.out.below hb20); replace H16 := Lib.hid (H16.out.below hb20); replace H27 := Lib.hid (H27.out.below hb20)
    refine Fr.l_mv rfl rfl (Fr.w_none rfl) (by simp only [Fr.ev_tmp, Fr.ev_const, Fr.up_get, Nat.reduceLT, Nat.reduceEqDiff, ↓reduceIte, g5, g6, g14]; try rfl) ?_
    refine Fr.l_val rfl (Fr.w_none rfl) (by go_simp; first | done | (with_reducible rfl) | (with_reducible exact ⟨rfl, rfl⟩) | (with_reducible exact ⟨⟨rfl, rfl⟩, rfl⟩)) ?_
    refine Fr.l_val rfl (Fr.w_none rfl) (by go_simp; first | done | (with_reducible rfl) | (with_reducible exact ⟨rfl, rfl⟩) | (with_reducible exact ⟨⟨rfl, rfl⟩, rfl⟩)) ?_
    refine Fr.l_as rfl rfl (Fr.w_none rfl) (by simp only [Fr.ev_tmp, Fr.ev_const, Fr.up_get, Nat.reduceLT, Nat.reduceEqDiff, ↓reduceIte, g5, g6, g14]; try rfl) ?_
    refine Fr.l_as rfl rfl (Fr.w_none rfl) (by simp only [Fr.ev_tmp, Fr.ev_const, Fr.up_get, Nat.reduceLT, Nat.reduceEqDiff, ↓reduceIte, g5, g6, g14]; try rfl) ?_
    refine Fr.l_nil ?_
    have hlj : (ps ++ qs).length = ps.length + qs.length := List.length_append
    obtain ⟨a27, k27, e27, _⟩ := H27.out
    rw [hlj] at e27
    subst e27
    clear ho27
    refine Fr.name ?_
    intro f hf
    have f5 : f 5 = .slice a5 ps.length k5 := by rw [hf]; simp only [Fr.up_get, Nat.reduceEqDiff, ↓reduceIte, g5, g6]
    have f6 : f 6 = .slice a6 qs.length k6 := by rw [hf]; simp only [Fr.up_get, Nat.reduceEqDiff, ↓reduceIte, g5, g6]
    have f18 : f 18 = .int .i64 (rnN ps : Nat) := by rw [hf]; simp only [Fr.up_get, Nat.reduceEqDiff, ↓reduceIte, g5, g6]
    have f19 : f 19 = .int .i64 (rdN ps : Nat) := by rw [hf]; simp only [Fr.up_get, Nat.reduceEqDiff, ↓reduceIte, g5, g6]
    have f20 : f 20 = .int .i64 0 := by rw [hf]; simp only [Fr.up_get, Nat.reduceEqDiff, ↓reduceIte, g5, g6]
    have f21 : f 21 = .int .i64 (rdN ps : Nat) := by rw [hf]; simp only [Fr.up_get, Nat.reduceEqDiff, ↓reduceIte, g5, g6]
    have f22 : f 22 = .int .i64 (rnN ps : Nat) := by rw [hf]; simp only [Fr.up_get, Nat.reduceEqDiff, ↓reduceIte, g5, g6]
    have f23 : f 23 = .int .i64 0 := by rw [hf]; simp only [Fr.up_get, Nat.reduceEqDiff, ↓reduceIte, g5, g6]
    have f26 : f 26 = .int .i64 0 := by rw [hf]; simp only [Fr.up_get, Nat.reduceEqDiff, ↓reduceIte, g5, g6]
    have f27 : f 27 = .slice a27 (ps.length + qs.length) k27 := by rw [hf]; simp only [Fr.up_get, Nat.reduceEqDiff, ↓reduceIte, g5, g6]
    have f28 : f 28 = .int .i64 0 := by rw [hf]; simp only [Fr.up_get, Nat.reduceEqDiff, ↓reduceIte, g5, g6]
    have f29 : f 29 = .int .i64 (rnN (ps ++ qs) : Nat) := by rw [hf]; simp only [Fr.up_get, Nat.reduceEqDiff, ↓reduceIte, g5, g6]
    have f30 : f 30 = .int .i64 (rdN (ps ++ qs) : Nat) := by rw [hf]; simp only [Fr.up_get, Nat.reduceEqDiff, ↓reduceIte, g5, g6]
    have f31 : f 31 = .int .i64 0 := by rw [hf]; simp only [Fr.up_get, Nat.reduceEqDiff, ↓reduceIte, g5, g6]
    have f32 : f 32 = .bool ((ps.length : Int) % 2 == 1) := by rw [hf]; simp only [Fr.up_get, Nat.reduceEqDiff, ↓reduceIte, g5, g6]
    have f33 : f 33 = .int .i64 0 := by rw [hf]; simp only [Fr.up_get, Nat.reduceEqDiff, ↓reduceIte, g5, g6]
    have f34 : f 34 = .bool ((qs.length : Int) % 2 == 1) := by rw [hf]; simp only [Fr.up_get, Nat.reduceEqDiff, ↓reduceIte, g5, g6]
    have f35 : f 35 = .int .i64 0 := by rw [hf]; simp only [Fr.up_get, Nat.reduceEqDiff, ↓reduceIte, g5, g6]
    have f36 : f 36 = .bool (((ps.length : Int) % 2 == 1) != ((qs.length : Int) % 2 == 1)) := by rw [hf]; simp only [Fr.up_get, Nat.reduceEqDiff, ↓reduceIte, g5, g6]
    have f37 : f 37 = .int .i64 0 := by rw [hf]; simp only [Fr.up_get, Nat.reduceEqDiff, ↓reduceIte, g5, g6]
    clear hf g5 g6 g14
    obtain ⟨r1, r2, r3, r4, r5, r6⟩ := ratio_facts HpT.out (by omega)
    obtain ⟨s1, s2, s3, s4, s5, s6⟩ := ratio_facts (pg_app HpT.out HpQ.out) (by omega)
    refine Fr.wp_code (c' := (Fr.fs (Fr.sn (Fr.sn (Fr.sn (Fr.sn (Fr.sn (Fr.sn (Fr.sn (Fr.sn (Fr.sn (Fr.sn (Fr.sn (Fr.sn (Fr.sn (Fr.sn (Fr.sn (Fr.sn (Fr.sn (Fr.sn (Fr.sn (B3))))))))))))))))))))).seq (Fr.sn (Fr.sn (Fr.sn (Fr.sn (Fr.sn (Fr.sn (Fr.sn (Fr.sn (Fr.sn (Fr.sn (Fr.sn (Fr.sn (Fr.sn (Fr.sn (Fr.sn (Fr.sn (Fr.sn (Fr.sn (Fr.sn (Fr.sn (B3)))))))))))))))))))))) (by kernel_rfl) ?_
    refine e21 f5 f6 f18 f19 f20 f21 f22 f23 f26 f27 f28 f31 f32 f33 f34 f35 f36 f37 (by omega) (by omega) r1 r2 (by simp [bne]) rfl (Below.refl _ _) ?_
    intro wB gB hbB hB2
    replace hb := below_then hb hbB
    replace HP := Lib.hid (HP.out.below hbB)
    replace HQ := Lib.hid (HQ.out.below hbB)
    replace H10 := Lib.hid (H10.out.below hbB)
    replace H12 := Lib.hid (H12.out.below hbB)
    replace H14 := Lib.hid (H14.out.below hbB)
    replace H16 := Lib.hid (H16.out.below hbB)
    replace H27 := Lib.hid (H27.out.below hbB)
    have g5 := (hB2 5 (by decide)).trans f5
    have g18 := (hB2 18 (by decide)).trans f18
    have g19 := (hB2 19 (by decide)).trans f19
    have g27 := (hB2 27 (by decide)).trans f27
    have g29 := (hB2 29 (by decide)).trans f29
    have g30 := (hB2 30 (by decide)).trans f30
    refine Fr.wp_code (c' := (Fr.fs (Fr.sn (Fr.sn (Fr.sn (Fr.sn (Fr.sn (Fr.sn (Fr.sn (Fr.sn (Fr.sn (Fr.sn (Fr.sn (Fr.sn (Fr.sn (Fr.sn (Fr.sn (Fr.sn (Fr.sn (Fr.sn (Fr.sn (Fr.sn (B3)))))))))))))))))))))).seq (Fr.sn (Fr.sn (Fr.sn (Fr.sn (Fr.sn (Fr.sn (Fr.sn (Fr.sn (Fr.sn (Fr.sn (Fr.sn (Fr.sn (Fr.sn (Fr.sn (Fr.sn (Fr.sn (Fr.sn (Fr.sn (Fr.sn (Fr.sn (Fr.sn (B3))))))))))))))))))))))) (by kernel_rfl) ?_
    refine e20 g18 g19 g29 g30 r6 s6 (Below.refl _ _) ?_
    intro wC gC hbC hC
    replace hb := below_then hb hbC
    replace HP := Lib.hid (HP.out.below hbC)
    replace HQ := Lib.hid (HQ.out.below hbC)
    replace H10 := Lib.hid (H10.out.below hbC)
    replace H12 := Lib.hid (H12.out.below hbC)
    replace H14 := Lib.hid (H14.out.below hbC)
    replace H16 := Lib.hid (H16.out.below hbC)
    replace H27 := Lib.hid (H27.out.below hbC)
    replace g5 := (hC 5 (by decide) (by decide)).trans g5
    replace g18 := (hC 18 (by decide) (by decide)).trans g18
    replace g19 := (hC 19 (by decide) (by decide)).trans g19
    replace g27 := (hC 27 (by decide) (by decide)).trans g27
    replace g29 := (hC 29 (by decide) (by decide)).trans g29
    replace g30 := (hC 30 (by decide) (by decide)).trans g30
    obtain ⟨n1, n2, n3, n4, q1, n5, n6⟩ := near_four HpT.out hlT.2
    obtain ⟨m1, m2, m3, m4, q2, m5, m6⟩ := near_eight (pg_app HpT.out HpQ.out) (by omega)
    obtain ⟨x1, x2, x3, x4⟩ := quo_cut n5 n6 n4
    obtain ⟨y1, y2, y3, y4⟩ := quo_cut m5 m6 m4
    clear r1 r2 r3 r4 r5 r6 s1 s2 s3 s4 s5 s6 n5 n6 m5 m6
    have N1 := Lib.hid n1
    have N2 := Lib.hid n2
    have M1 := Lib.hid m1
    have M2 := Lib.hid m2
    have X1 := Lib.hid x1
    have X2 := Lib.hid x2
    have X3 := Lib.hid x3
    have X4 := Lib.hid x4
    have Y1 := Lib.hid y1
    have Y2 := Lib.hid y2
    have Y3 := Lib.hid y3
    have Y4 := Lib.hid y4
    have N3 := Lib.hid n3
    have M3 := Lib.hid m3
    clear n1 n2 n3 n4 m1 m2 m3 m4 x1 x2 x3 x4 y1 y2 y3 y4
    conv => arg 2; whnf
    refine wp_seq ?_
    refine wp_region_lit ?_
    refine Fr.l_mv rfl rfl (Fr.w_none rfl) (by simp only [Fr.ev_tmp, Fr.ev_const, Fr.up_get, Nat.reduceLT, Nat.reduceEqDiff, ↓reduceIte, g5, g27]; try rfl) ?_
    (refine Fr.l_call rfl (Fr.w_none rfl) (by go_simp; first | done | (with_reducible rfl) | (with_reducible exact ⟨rfl, rfl⟩) | (with_reducible exact ⟨⟨rfl, rfl⟩, rfl⟩)) ?_; refine (factI_yes _ _ H27.out hBJ.out M3.out).mono ?_; rintro e w28 ⟨rfl, hb28⟩; refine ⟨_, rfl, ?_⟩)
    replace hb := below_then hb hb28; replace HP := Lib.hid (HP.out.below hb28); replace HQ := Lib.hid (HQ.out.below hb28); replace H10 := Lib.hid (H10.out.below hb28); replace H12 := Lib.hid (H12.out.below hb28); replace H14 := Lib.hid (H14.out.below hb28); replace H16 := Lib.hid (H16.out.below hb28); replace H27 := Lib.hid (H27.out.below hb28)
    refine Fr.l_mv rfl rfl (Fr.w_none rfl) (by simp only [Fr.ev_tmp, Fr.ev_const, Fr.up_get, Nat.reduceLT, Nat.reduceEqDiff, ↓reduceIte, g5, g27]; try rfl) ?_
    refine Fr.l_val rfl (Fr.w_none rfl) (by go_simp; first | done | (with_reducible rfl) | (with_reducible exact ⟨rfl, rfl⟩) | (with_reducible exact ⟨⟨rfl, rfl⟩, rfl⟩)) ?_
    refine Fr.l_val rfl (Fr.w_none rfl) (by go_simp; first | done | (with_reducible rfl) | (with_reducible exact ⟨rfl, rfl⟩) | (with_reducible exact ⟨⟨rfl, rfl⟩, rfl⟩)) ?_
    refine Fr.l_as rfl rfl (Fr.w_none rfl) (by simp only [Fr.ev_tmp, Fr.ev_const, Fr.up_get, Nat.reduceLT, Nat.reduceEqDiff, ↓reduceIte, g5, g27]; try rfl) ?_
    refine Fr.l_as rfl rfl (Fr.w_none rfl) (by simp only [Fr.ev_tmp, Fr.ev_const, Fr.up_get, Nat.reduceLT, Nat.reduceEqDiff, ↓reduceIte, g5, g27]; try rfl) ?_
    refine Fr.l_nil ?_
    refine wp_seq ?_
    refine wp_region_lit ?_
    refine Fr.l_mv rfl rfl (Fr.w_none rfl) (by simp only [Fr.ev_tmp, Fr.ev_const, Fr.up_get, Nat.reduceLT, Nat.reduceEqDiff, ↓reduceIte, g5, g27]; try rfl) ?_
    (refine Fr.l_call rfl (Fr.w_none rfl) (by go_simp; first | done | (with_reducible rfl) | (with_reducible exact ⟨rfl, rfl⟩) | (with_reducible exact ⟨⟨rfl, rfl⟩, rfl⟩)) ?_; refine (factI_yes _ _ HP.out hBP.out N3.out).mono ?_; rintro e w29 ⟨rfl, hb29⟩; refine ⟨_, rfl, ?_⟩)
    replace hb := below_then hb hb29; replace HP := Lib.hid (HP.out.below hb29); replace HQ := Lib.hid (HQ.out.below hb29); replace H10 := Lib.hid (H10.out.below hb29); replace H12 := Lib.hid (H12.out.below hb29); replace H14 := Lib.hid (H14.out.below hb29); replace H16 := Lib.hid (H16.out.below hb29); replace H27 := Lib.hid (H27.out.below hb29)
    refine Fr.l_mv rfl rfl (Fr.w_none rfl) (by simp only [Fr.ev_tmp, Fr.ev_const, Fr.up_get, Nat.reduceLT, Nat.reduceEqDiff, ↓reduceIte, g5, g27]; try rfl) ?_
    refine Fr.l_val rfl (Fr.w_none rfl) (by go_simp; first | done | (with_reducible rfl) | (with_reducible exact ⟨rfl, rfl⟩) | (with_reducible exact ⟨⟨rfl, rfl⟩, rfl⟩)) ?_
    refine Fr.l_val rfl (Fr.w_none rfl) (by go_simp; first | done | (with_reducible rfl) | (with_reducible exact ⟨rfl, rfl⟩) | (with_reducible exact ⟨⟨rfl, rfl⟩, rfl⟩)) ?_
    refine Fr.l_as rfl rfl (Fr.w_none rfl) (by simp only [Fr.ev_tmp, Fr.ev_const, Fr.up_get, Nat.reduceLT, Nat.reduceEqDiff, ↓reduceIte, g5, g27]; try rfl) ?_
    refine Fr.l_as rfl rfl (Fr.w_none rfl) (by simp only [Fr.ev_tmp, Fr.ev_const, Fr.up_get, Nat.reduceLT, Nat.reduceEqDiff, ↓reduceIte, g5, g27]; try rfl) ?_
    refine Fr.l_nil ?_
    refine wp_seq ?_
    refine wp_region_lit ?_
    refine Fr.l_mv rfl rfl (Fr.w_none rfl) (by simp only [Fr.ev_tmp, Fr.ev_const, Fr.up_get, Nat.reduceLT, Nat.reduceEqDiff, ↓reduceIte, g5, g27]; try rfl) ?_
    (refine Fr.l_call rfl (Fr.w_none rfl) (by go_simp; first | done | (with_reducible rfl) | (with_reducible exact ⟨rfl, rfl⟩) | (with_reducible exact ⟨⟨rfl, rfl⟩, rfl⟩)) ?_; refine (factS_yes _ _ HP.out hBP.out N3.out).mono ?_; rintro e w30 ⟨rfl, hb30⟩; refine ⟨_, rfl, ?_⟩)
    replace hb := below_then hb hb30; replace HP := Lib.hid (HP.out.below hb30); replace HQ := Lib.hid (HQ.out.below hb30); replace H10 := Lib.hid (H10.out.below hb30); replace H12 := Lib.hid (H12.out.below hb30); replace H14 := Lib.hid (H14.out.below hb30); replace H16 := Lib.hid (H16.out.below hb30); replace H27 := Lib.hid (H27.out.below hb30)
    refine Fr.l_mv rfl rfl (Fr.w_none rfl) (by simp only [Fr.ev_tmp, Fr.ev_const, Fr.up_get, Nat.reduceLT, Nat.reduceEqDiff, ↓reduceIte, g5, g27]; try rfl) ?_
    refine Fr.l_val rfl (Fr.w_none rfl) (by go_simp; first | done | (with_reducible rfl) | (with_reducible exact ⟨rfl, rfl⟩) | (with_reducible exact ⟨⟨rfl, rfl⟩, rfl⟩)) ?_
    refine Fr.l_val rfl (Fr.w_none rfl) (by go_simp; first | done | (with_reducible rfl) | (with_reducible exact ⟨rfl, rfl⟩) | (with_reducible exact ⟨⟨rfl, rfl⟩, rfl⟩)) ?_
    refine Fr.l_as rfl rfl (Fr.w_none rfl) (by simp only [Fr.ev_tmp, Fr.ev_const, Fr.up_get, Nat.reduceLT, Nat.reduceEqDiff, ↓reduceIte, g5, g27]; try rfl) ?_
    refine Fr.l_as rfl rfl (Fr.w_none rfl) (by simp only [Fr.ev_tmp, Fr.ev_const, Fr.up_get, Nat.reduceLT, Nat.reduceEqDiff, ↓reduceIte, g5, g27]; try rfl) ?_
    refine Fr.l_nil ?_
    refine Fr.name ?_
    intro f hf
    have f18 : f 18 = .int .i64 (rnN ps : Nat) := by rw [hf]; simp only [Fr.up_get, Nat.reduceEqDiff, ↓reduceIte, g18, g19, g29, g30]
    have f19 : f 19 = .int .i64 (rdN ps : Nat) := by rw [hf]; simp only [Fr.up_get, Nat.reduceEqDiff, ↓reduceIte, g18, g19, g29, g30]
    have f29 : f 29 = .int .i64 (rnN (ps ++ qs) : Nat) := by rw [hf]; simp only [Fr.up_get, Nat.reduceEqDiff, ↓reduceIte, g18, g19, g29, g30]
    have f30 : f 30 = .int .i64 (rdN (ps ++ qs) : Nat) := by rw [hf]; simp only [Fr.up_get, Nat.reduceEqDiff, ↓reduceIte, g18, g19, g29, g30]
    have f39 : f 39 = .float .f32 (factC (ps ++ qs)) := by rw [hf]; simp only [Fr.up_get, Nat.reduceEqDiff, ↓reduceIte, g18, g19, g29, g30]
    have f40 : f 40 = .int .i64 0 := by rw [hf]; simp only [Fr.up_get, Nat.reduceEqDiff, ↓reduceIte, g18, g19, g29, g30]
    have f41 : f 41 = .float .f32 (factC ps) := by rw [hf]; simp only [Fr.up_get, Nat.reduceEqDiff, ↓reduceIte, g18, g19, g29, g30]
    have f42 : f 42 = .int .i64 0 := by rw [hf]; simp only [Fr.up_get, Nat.reduceEqDiff, ↓reduceIte, g18, g19, g29, g30]
    have f43 : f 43 = .float .f32 (factC ps) := by rw [hf]; simp only [Fr.up_get, Nat.reduceEqDiff, ↓reduceIte, g18, g19, g29, g30]
    have f44 : f 44 = .int .i64 0 := by rw [hf]; simp only [Fr.up_get, Nat.reduceEqDiff, ↓reduceIte, g18, g19, g29, g30]
    clear hf
    refine Fr.wp_code (c' := (Fr.fs (Fr.sn (Fr.sn (Fr.sn (Fr.sn (Fr.sn (Fr.sn (Fr.sn (Fr.sn (Fr.sn (Fr.sn (Fr.sn (Fr.sn (Fr.sn (Fr.sn (Fr.sn (Fr.sn (Fr.sn (Fr.sn (Fr.sn (Fr.sn (Fr.sn (Fr.sn (Fr.sn (Fr.sn (B3)))))))))))))))))))))))))).seq (Fr.sn (Fr.sn (Fr.sn (Fr.sn (Fr.sn (Fr.sn (Fr.sn (Fr.sn (Fr.sn (Fr.sn (Fr.sn (Fr.sn (Fr.sn (Fr.sn (Fr.sn (Fr.sn (Fr.sn (Fr.sn (Fr.sn (Fr.sn (Fr.sn (Fr.sn (Fr.sn (Fr.sn (Fr.sn (B3))))))))))))))))))))))))))) (by kernel_rfl) ?_
    refine e31 f18 f19 f29 f30 f39 f40 f41 f42 f43 f44 X1.out X2.out X3.out X4.out N1.out N2.out Y1.out Y2.out Y3.out Y4.out M1.out M2.out (Below.refl _ _) ?_
    intro wD gD hbD hD
    replace hb := below_then hb hbD
    conv => arg 2; whnf
    refine wp_seq ?_
    refine wp_region_lit ?_
    refine Fr.l_as rfl rfl (Fr.w_none rfl) (by simp only [Fr.ev_tmp, Fr.ev_const, Fr.up_get, Nat.reduceLT, Nat.reduceEqDiff, ↓reduceIte]; try rfl) ?_
    refine Fr.l_nil ?_
    refine wp_ret ?_
    refine Fr.ret (t := 4) rfl (by decide) ?_
    refine ⟨?_, hb⟩
    simp only [Fr.up_get, ↓reduceIte]
  · refine wp_seq ?_
    refine wp_region_lit ?_
    refine Fr.l_as rfl rfl (Fr.w_none rfl) (by simp only [Fr.ev_tmp, Fr.ev_const, Fr.up_get, Nat.reduceLT, Nat.reduceEqDiff, ↓reduceIte, t0, t1]; try rfl) ?_
    refine Fr.l_nil ?_
    refine wp_seq ?_
    refine wp_seq ?_
    refine wp_region_lit ?_
    refine Fr.l_mv rfl rfl (Fr.w_none rfl) (by simp only [Fr.ev_tmp, Fr.ev_const, Fr.up_get, Nat.reduceLT, Nat.reduceEqDiff, ↓reduceIte, t0, t1]; try rfl) ?_
    refine Fr.l_mv rfl rfl (Fr.w_none rfl) (by simp only [Fr.ev_tmp, Fr.ev_const, Fr.up_get, Nat.reduceLT, Nat.reduceEqDiff, ↓reduceIte, t0, t1]; try rfl) ?_
    (refine Fr.l_call rfl (Fr.w_none rfl) (by go_simp; first | done | (with_reducible rfl) | (with_reducible exact ⟨rfl, rfl⟩) | (with_reducible exact ⟨⟨rfl, rfl⟩, rfl⟩)) ?_; refine (a2Long_any _ _ _ _ _ _ _ hn2 hm2).mono ?_; rintro e w0 ⟨rfl, rfl⟩; refine ⟨_, rfl, ?_⟩)
    rw [hL]
    refine Fr.l_nil ?_
    refine Fr.l_cond (t := true) (by simp only [Fr.ev_tmp, Fr.ev_const, Fr.up_get, Nat.reduceLT, Nat.reduceEqDiff, ↓reduceIte]; try rfl) (fun _ => ?_) (fun h => absurd h (by decide))
    refine wp_seq ?_
    refine wp_region_lit ?_
    refine Fr.l_as rfl rfl (Fr.w_none rfl) (by simp only [Fr.ev_tmp, Fr.ev_const, Fr.up_get, Nat.reduceLT, Nat.reduceEqDiff, ↓reduceIte]; try rfl) ?_
    refine Fr.l_nil ?_
    refine wp_ret ?_
    refine Fr.then_ret ?_
    refine Fr.ret (t := 4) rfl (by decide) ?_
    refine ⟨?_, Below.refl _ _⟩
    simp only [Fr.up_get, ↓reduceIte]

end Go.Proofs.YtkgfepakedieaaaGreatDoor.yTrains
