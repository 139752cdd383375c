/- Regions that draw their order: what each operation yields hangs on what has been carried out; an invariant serves every order. -/
import Derived.Test.YtljigmplmlhdnaaFr
import Derived.Test.YtljigmplmlhdnaaLexF
import Derived.Test.YtljigmplmlhdnaaCtSx
import Derived.Test.YtljigmplmlhdnaaFlA
import Derived.Test.YtljigmplmlhdnaaCtC
import Derived.Deep.RegionLaw
import Derived.Deep.RegionWith
import Derived.Test.YtljigmplmlhdnaaMem
set_option linter.unusedVariables false
set_option linter.unusedSimpArgs false
namespace Go.Proofs.Ytljigmplmlhdnaa.Fr
open Go

/-- One operation, run to its end. -/
def stepOk (P : Program) (n : Nat) (f : Nat → Value) (o : Oper) (w : World) (post : Value → World → Prop) : Prop :=
  match (execOp (ev n f) o).run P w with
  | .ok (.value v) w' => post v w'
  | .ok .skip w' => post undef w'
  | .ok (.enter g args) w' => Calls P g args w' (fun e w'' => ∃ v, e = .returned v ∧ post v w'')
  | _ => False

theorem stepOk.val {P : Program} {n : Nat} {f : Nat → Value} {o : Oper} {w w1 : World} {post : Value → World → Prop} {v : Value} (h : (execOp (ev n f) o).run P w = .ok (.value v) w1) (k : post v w1) : stepOk P n f o w post := by
  unfold stepOk
  rw [h]
  exact k
theorem stepOk.skip {P : Program} {n : Nat} {f : Nat → Value} {o : Oper} {w w1 : World} {post : Value → World → Prop} (h : (execOp (ev n f) o).run P w = .ok .skip w1) (k : post undef w1) : stepOk P n f o w post := by
  unfold stepOk
  rw [h]
  exact k
theorem stepOk.call {P : Program} {n : Nat} {f : Nat → Value} {o : Oper} {w w1 : World} {post : Value → World → Prop} {g : FuncId} {args : Array Value} (h : (execOp (ev n f) o).run P w = .ok (.enter g args) w1) (k : Calls P g args w1 (fun e w'' => ∃ v, e = .returned v ∧ post v w'')) : stepOk P n f o w post := by
  unfold stepOk
  rw [h]
  exact k

theorem stepOk.wp {P : Program} {n : Nat} {f : Nat → Value} {d : List Deferred} {o : Oper} {w : World} {post : Value → World → Prop} {next : Act → World → Prop} {Q : Exit → Act → World → Prop} (h : stepOk P n f o w post) (k : ∀ v w', post v w' → next ((Act.mk (ft n f) d).put o.dst v) w') : o.wp P ⟨ft n f, d⟩ w next Q := by
  unfold stepOk at h
  unfold Oper.wp
  rw [eval_fr]
  generalize (execOp (ev n f) o).run P w = r at h
  cases r with
  | halt x w' => exact h.elim
  | ok m w' =>
    cases m with
    | value u => exact k _ _ h
    | skip => exact k _ _ h
    | enter g args =>
      refine Calls.mono h ?_
      rintro e w'' ⟨v, rfl, hp⟩
      exact k _ _ hp
    | _ => exact h.elim

theorem count_set {l : List Bool} {i : Nat} (h : l[i]? = some false) : (l.set i true).count false + 1 = l.count false := by
  induction l generalizing i with
  | nil => simp at h
  | cons b l ih =>
    cases i with
    | zero =>
      simp at h
      subst h
      simp
    | succ i =>
      have h' : l[i]? = some false := by simpa using h
      have := ih h'
      simp only [List.set_cons_succ, List.count_cons]
      omega

def anyB (l : List Oper) : Bool :=
  (l.all fun o => o.guard.isNone) && ((List.range l.length).all fun i => match l[i]? with
    | some o => (o.after.all fun e => !Region.binds .any e || Nat.blt e.on i) && (match o.dst with
      | some d => (List.range i).all fun k => match l[k]? with
        | some ok => ok.dst != some d
        | none => true
      | none => true)
    | none => true)

theorem anyB_spec {l : List Oper} (h : anyB l = true) : (∀ (i : Nat) (o : Oper), l[i]? = some o → o.guard = none ∧ (∀ e ∈ o.after, Region.binds .any e = true → e.on < i)) ∧ ∀ (i k : Nat) (o ok : Oper) (d : Nat), i ≠ k → l[i]? = some o → l[k]? = some ok → o.dst = some d → ok.dst ≠ some d := by
  unfold anyB at h
  rw [Bool.and_eq_true] at h
  obtain ⟨h1, h2⟩ := h
  have key : ∀ (i : Nat) (o : Oper), l[i]? = some o → (∀ e ∈ o.after, Region.binds .any e = true → e.on < i) ∧ ∀ d, o.dst = some d → ∀ (k : Nat) (ok : Oper), k < i → l[k]? = some ok → ok.dst ≠ some d := fun i o ho => by
    have hi := (List.getElem?_eq_some_iff.1 ho).1
    have h3 := List.all_eq_true.1 h2 i (List.mem_range.2 hi)
    rw [ho] at h3
    simp only [Bool.and_eq_true] at h3
    obtain ⟨h4, h5⟩ := h3
    refine ⟨fun e he hb => ?_, fun d hd k ok hk hok => ?_⟩
    · have := Array.all_eq_true_iff_forall_mem.1 h4 e he
      rw [hb] at this
      simpa [Nat.blt_eq] using this
    · rw [hd] at h5
      have := List.all_eq_true.1 h5 k (List.mem_range.2 hk)
      rw [hok] at this
      simpa using this
  refine ⟨fun i o ho => ⟨?_, (key i o ho).1⟩, fun i k o ok d hik ho hok hd hd' => ?_⟩
  · have := List.all_eq_true.1 h1 o (List.mem_of_getElem? ho)
    simpa using this
  · rcases Nat.lt_or_gt_of_ne hik with h' | h'
    · exact (key k ok hok).2 d hd' i o h' ho hd
    · exact (key i o ho).2 d hd k ok h' hok hd'

theorem any_inv {P : Program} {id : Nat} {l : List Oper} {Q : Exit → Act → World → Prop} {n : Nat} {d : List Deferred} {f0 : Nat → Value} {w : World} (pr : Nat → Value → World → Prop) (St : World → World → Prop) (WI : Nat → World → Prop) (hm : P.follows .mixedOrders = true) (hB : anyB l = true)
    (hst : ∀ i v w w', pr i v w → St w w' → pr i v w') (h0 : WI 0 w.drew)
    (hstep : ∀ (i : Nat) (o : Oper), l[i]? = some o → ∀ (f : Nat → Value) (w : World) (c : Nat), c ≤ l.length → (∀ s, (∀ (k : Nat) (ok : Oper), l[k]? = some ok → ok.dst ≠ some s) → f s = f0 s) →
      (∀ e ∈ o.after, Region.binds .any e = true → ∀ oe, l[e.on]? = some oe → ∀ j, oe.dst = some j → pr e.on (f j) w) → WI c w → stepOk P n f o w fun v w' => pr i v w' ∧ St w w' ∧ WI (c + 1) w')
    (hend : ∀ (f : Nat → Value) (w : World), (∀ s, (∀ (k : Nat) (ok : Oper), l[k]? = some ok → ok.dst ≠ some s) → f s = f0 s) → (∀ (i : Nat) (o : Oper), l[i]? = some o → (∀ j, o.dst = some j → pr i (f j) w) ∧ (o.dst = none → ∃ v, pr i v w)) → (∃ c, c ≤ l.length ∧ WI c w) → Q .normal ⟨ft n f, d⟩ w) :
    (Code.region id l.toArray true).wp P Q ⟨ft n f0, d⟩ w := by
  obtain ⟨hG, hD⟩ := anyB_spec hB
  refine wp_region_any hm ?_
  have key : ∀ (fuel : Nat) (L : Array Bool) (f : Nat → Value) (w : World), L.size = l.length → L.toList.count false = fuel → (∀ s, (∀ (k : Nat) (ok : Oper), l[k]? = some ok → ok.dst ≠ some s) → f s = f0 s) →
      (∀ (i : Nat) (o : Oper), l[i]? = some o → L.getD i false = true → (∀ j, o.dst = some j → pr i (f j) w) ∧ (o.dst = none → ∃ v, pr i v w)) → (∃ c, c + fuel = l.length ∧ WI c w) → wpAny P .any l.toArray Q fuel L ⟨ft n f, d⟩ w := by
    intro fuel
    induction fuel with
    | zero =>
      intro L f w hs hc hb hp hw
      have hall : ∀ i, i < l.length → L.getD i false = true := fun i hi => by
        have hnf : false ∉ L.toList := List.count_eq_zero.1 hc
        have : L[i]'(by omega) ≠ false := fun he => hnf (by rw [← he]; exact Array.getElem_mem_toList _)
        simp [show i < L.size by omega]
        cases hb' : L[i]'(by omega)
        · exact (this hb').elim
        · rfl
      refine ⟨?_, hend f w hb (fun i o ho => hp i o ho (hall i (List.getElem?_eq_some_iff.1 ho).1)) ?_⟩
      · rw [List.eq_nil_iff_forall_not_mem]
        intro j hj
        obtain ⟨h1, o, ho, _⟩ := mem_ready.1 hj
        have hjl : j < l.length := by
          have := (List.getElem?_eq_some_iff.1 (show l[j]? = some o by simpa using ho)).1
          exact this
        have h2 := hall j hjl
        simp [show j < L.size by omega] at h1 h2
        rw [h1] at h2
        cases h2
      · obtain ⟨c, hc', hW⟩ := hw
        exact ⟨c, by omega, hW⟩
    | succ fuel ih =>
      intro L f w hs hc hb hp hw
      refine ⟨fun hr => ?_, fun i hi => ?_⟩
      · -- something is ready
        exfalso
        have hex : ∃ i, i < l.length ∧ L.getD i true = false := by
          have : false ∈ L.toList := by
            rw [← List.count_pos_iff, hc]
            omega
          obtain ⟨i, hi, he⟩ := List.getElem_of_mem this
          refine ⟨i, by simpa [hs] using hi, ?_⟩
          have hi' : i < L.size := by simpa using hi
          simp [hi']
          exact he
        have hmin : ∀ m i, i < m → i < l.length → L.getD i true = false → False := by
          intro m
          induction m with
          | zero => intro i hi; omega
          | succ m im =>
            intro i hi hil hun
            have ho : l[i]? = some l[i] := List.getElem?_eq_getElem hil
            have : i ∈ Region.ready .any l.toArray L := by
              refine mem_ready.2 ⟨hun, l[i], by simp, fun e he hbi => ?_⟩
              have hlt := (hG i _ ho).2 e he hbi
              rcases hcase : L.getD e.on true with _ | _
              · exact (im e.on (by omega) (by omega) hcase).elim
              · have hes : e.on < L.size := by omega
                simp [hes] at hcase ⊢
                exact hcase
            rw [hr] at this
            cases this
        obtain ⟨i, hil, hun⟩ := hex
        exact hmin (i + 1) i (by omega) hil hun
      · obtain ⟨hun, o, ho, hed⟩ := mem_ready.1 hi
        have ho' : l[i]? = some o := by simpa using ho
        have hil : i < l.length := (List.getElem?_eq_some_iff.1 ho').1
        have hiL : i < L.size := by omega
        obtain ⟨c, hcf, hW⟩ := hw
        unfold wpOp
        simp only [ho]
        rw [if_pos (w_none (hG i o ho').1)]
        refine .inl ?_
        refine stepOk.wp (hstep i o ho' f w c (by omega) hb ?_ hW) ?_
        · intro e he hbi oe hoe j hj
          exact (hp e.on oe hoe (hed e he hbi)).1 j hj
        · rintro v w' ⟨hv, hS, hW'⟩
          have hcount : (L.setIfInBounds i true).toList.count false = fuel := by
            have h1 : L.toList[i]? = some false := by
              simp [hiL] at hun ⊢
              exact hun
            have := count_set h1
            rw [Array.toList_setIfInBounds]
            omega
          have hpr : ∀ (f' : Nat → Value), (∀ k ok j, k ≠ i → l[k]? = some ok → ok.dst = some j → f' j = f j) → (∀ j, o.dst = some j → pr i (f' j) w') → (o.dst = none → ∃ v, pr i v w') →
              ∀ (k : Nat) (ok : Oper), l[k]? = some ok → (L.setIfInBounds i true).getD k false = true → (∀ j, ok.dst = some j → pr k (f' j) w') ∧ (ok.dst = none → ∃ v, pr k v w') := by
            intro f' h1 h2 h3 k ok hok hk
            by_cases hki : k = i
            · subst hki
              rw [ho'] at hok
              cases hok
              exact ⟨h2, h3⟩
            · rw [getD_set_ne false (fun h => hki h.symm)] at hk
              obtain ⟨p1, p2⟩ := hp k ok hok hk
              exact ⟨fun j hj => by rw [h1 k ok j hki hok hj]; exact hst _ _ _ _ (p1 j hj) hS, fun h => (p2 h).elim fun v hv => ⟨v, hst _ _ _ _ hv hS⟩⟩
          cases hdst : o.dst with
          | none =>
            rw [put_none]
            refine ih _ f w' (by simpa using hs) hcount hb (hpr f (fun _ _ _ _ _ _ => rfl) (fun j hj => by rw [hdst] at hj; cases hj) (fun _ => ⟨v, hv⟩)) ⟨c + 1, by omega, hW'⟩
          | some j =>
            rw [put_fr]
            refine ih _ (up f j v) w' (by simpa using hs) hcount (fun s hs' => ?_) (hpr (up f j v) (fun k ok j' hki hok hj' => up_ne fun h => hD i k o ok j (fun h => hki h.symm) ho' hok hdst (by rw [hj', h])) (fun j' hj' => ?_) (fun h => by rw [hdst] at h; cases h)) ⟨c + 1, by omega, hW'⟩
            · rw [up_ne (fun h => hs' i o ho' (by rw [hdst, h]))]
              exact hb s hs'
            · rw [hdst] at hj'
              cases hj'
              rw [up_same]
              exact hv
  exact key _ _ _ _ (by simp) (by simp) (fun _ _ => rfl) (fun i o ho hL => by
    have := (List.getElem?_eq_some_iff.1 ho).1
    simp [this] at hL) ⟨0, by simp, h0⟩

/-- A frame that is written out, as a function of the slot. -/
theorem of_lit {P : Program} {c : Code} {Q : Exit → Act → World → Prop} {t : Array Value} {n : Nat} {d : List Deferred} {w : World} (hn : t.size = n) (h : ∀ f0 : Nat → Value, (∀ i, f0 i = t.getD i undef) → Code.wp P c Q ⟨ft n f0, d⟩ w) : Code.wp P c Q ⟨t, d⟩ w := by
  rw [fr_of t, hn]
  exact h _ fun _ => rfl

theorem name' {K : Act → World → Prop} {n : Nat} {g : Nat → Value} {d : List Deferred} {w : World} (h : ∀ f, f = g → K ⟨ft n f, d⟩ w) : K ⟨ft n g, d⟩ w := h _ rfl

theorem nameW {K : Act → World → Prop} {a : Act} {w : World} (h : ∀ w', w' = w → K a w') : K a w := h _ rfl

end Go.Proofs.Ytljigmplmlhdnaa.Fr

/-! Contracts: what the reference model draws: a pulley's radius, a belt. -/
namespace Go.Proofs.Ytljigmplmlhdnaa
open Go.RowKit

def pulC (x y : Int) : Nat := cop .quo (floatOfInt .f32 (1 + x)) (floatOfInt .f32 y)
def gapC (x y : Int) : Nat := cop .quo (floatOfInt .f32 x) (floatOfInt .f32 y)
def okW (lo hi w : Nat) : Bool := Flt.fin Ieee.single w && decide (w < 2 ^ 32) && !Flt.sgn Ieee.single w && decide (lo ≤ Flt.rung Ieee.single w) && decide (Flt.rung Ieee.single w ≤ hi)
theorem pul_all : ((List.range 200).all fun n => [1, 3, 4, 16].all fun y => okW 1031798784 1128792064 (pulC (n : Int) y)) = true := by decide +kernel
theorem gap_all : ((List.range 300).all fun n => [1, 3, 7].all fun y => okW 0 1133903872 (gapC (n : Int) y)) = true := by decide +kernel
theorem grip_all : ((List.range 40).all fun n => [20, 30, 64].all fun y => okW 0 1073741824 (gapC (n : Int) y)) = true := by decide +kernel
theorem okW_Po {lo hi w : Nat} (h : okW lo hi w = true) : Po w ∧ lo ≤ Flt.rung Ieee.single w ∧ Flt.rung Ieee.single w ≤ hi := by
  unfold okW at h
  simp only [Bool.and_eq_true, decide_eq_true_eq, Bool.not_eq_true'] at h
  obtain ⟨⟨⟨⟨h1, h2⟩, h3⟩, h4⟩, h5⟩ := h
  exact ⟨⟨⟨h1, h2⟩, h3⟩, h4, h5⟩
/-- A radius that is drawn. -/
def RadD (r : Nat) : Prop := Po r ∧ (1 : Rat) / 16 ≤ A r ∧ A r ≤ 200
theorem rung_const : Flt.rung Ieee.single 1031798784 = 1031798784 ∧ Flt.rung Ieee.single 1128792064 = 1128792064 ∧ Flt.rung Ieee.single 1133903872 = 1133903872 ∧ Flt.rung Ieee.single 1073741824 = 1073741824 := by decide +kernel
theorem sixteenth_A : A 1031798784 = 1 / 16 := A_const (m := 2 ^ 145) (by decide +kernel) (by decide +kernel)
theorem pul_ok {x y : Int} (x0 : 0 ≤ x) (x1 : x < 200) (hy : y ∈ [(1 : Int), 3, 4, 16]) : RadD (pulC x y) := by
  obtain ⟨n, rfl⟩ : ∃ n : Nat, x = (n : Int) := ⟨x.toNat, by omega⟩
  have h := List.all_eq_true.1 (List.all_eq_true.1 pul_all n (List.mem_range.2 (by omega))) y hy
  obtain ⟨h1, h2, h3⟩ := okW_Po h
  obtain ⟨r1, r2, _, _⟩ := rung_const
  have e200 : A 1128792064 = 200 := A_const (m := 200 * 2 ^ 149) (by decide +kernel) (by decide +kernel)
  refine ⟨h1, ?_, ?_⟩
  · rw [← sixteenth_A]; exact A_mono (by rw [r1]; exact h2)
  · rw [← e200]; exact A_mono (by rw [r2]; exact h3)
theorem gap_ok {x y : Int} (x0 : 0 ≤ x) (x1 : x < 300) (hy : y ∈ [(1 : Int), 3, 7]) : Po (gapC x y) ∧ A (gapC x y) ≤ 300 := by
  obtain ⟨n, rfl⟩ : ∃ n : Nat, x = (n : Int) := ⟨x.toNat, by omega⟩
  have h := List.all_eq_true.1 (List.all_eq_true.1 gap_all n (List.mem_range.2 (by omega))) y hy
  obtain ⟨h1, _, h3⟩ := okW_Po h
  obtain ⟨_, _, r3, _⟩ := rung_const
  have e300 : A 1133903872 = 300 := A_const (m := 300 * 2 ^ 149) (by decide +kernel) (by decide +kernel)
  exact ⟨h1, by rw [← e300]; exact A_mono (by rw [r3]; exact h3)⟩
theorem grip_ok {x y : Int} (x0 : 0 ≤ x) (x1 : x < 40) (hy : y ∈ [(20 : Int), 30, 64]) : Po (gapC x y) ∧ A (gapC x y) ≤ 2 := by
  obtain ⟨n, rfl⟩ : ∃ n : Nat, x = (n : Int) := ⟨x.toNat, by omega⟩
  have h := List.all_eq_true.1 (List.all_eq_true.1 grip_all n (List.mem_range.2 (by omega))) y hy
  obtain ⟨h1, _, h3⟩ := okW_Po h
  obtain ⟨_, _, _, r4⟩ := rung_const
  exact ⟨h1, by rw [← two_P.2]; exact A_mono (by rw [r4]; exact h3)⟩

theorem cells_ints (w : World) (t : TypeId) (xs : List Int) : ∀ (i : Nat) (x : Int), xs[i]? = some x → (w.alloc (.cells (xs.map fun z => Value.int .i64 z).toArray t)).cell? ⟨w.heap.size, i, none⟩ = some (.int .i64 x) := by
  intro i x h
  rw [World.cell?_alloc_at (hn := rfl), List.getElem?_toArray, List.getElem?_map, h]
  rfl

set_option maxHeartbeats 1000000 in
theorem pulley_any (g k : Nat) (w : World) (h : Src w g k) (hk : k ≤ 40000) :
    Calls Try.prog 89 #[.pointer (some ⟨g, 0, none⟩)] w (Draws w g (k + 4) fun u => ∃ r : Nat, u = .float .f32 r ∧ RadD r) := by
  have hg := h.lt
  have H := Lib.hid h
  clear h
  go_enter Try.func89, Try.ntmps89
  go_wp2_with fail
  refine (pick_any g k 200 _ H.out (by omega) (by omega) (by omega)).mono ?_
  rintro e w1 ⟨u, rfl, ⟨x, rfl, x0, x1⟩, hs1, hm1⟩
  have hg1 := hs1.lt
  have hw1 : IntKind.i64.wrap (1 + x) = 1 + x := by rw [IntKind.wrap_i64]; omega
  go_wp2_with fail
  refine (among_any g (k + 2) w1.heap.size 4 _ [1, 3, 4, 16] rfl (by omega) (by omega) _ (hs1.after ((Below.refl _ _).alloc (Nat.le_refl _) _)) (by omega) (by omega) (cells_ints w1 _ [1, 3, 4, 16])).mono ?_
  rintro e w2 ⟨u, rfl, ⟨y, rfl, hy⟩, hs2, hm2⟩
  have hR := pul_ok x0 x1 hy
  have hr := fun w0 => F_of_cn (cn_fval .quo (floatOfInt .f32 (1 + x)) (floatOfInt .f32 y) w0) (show F (cop .quo (floatOfInt .f32 (1 + x)) (floatOfInt .f32 y)) from hR.1.1)
  have hfd := fun (z : Nat) (h : z = 0) => h
  go_wp2
  all_goals go_ret
  all_goals exact ⟨_, rfl, ⟨_, rfl, hR⟩, hs2.after (below_drewN (Below.refl _ _) _), ((hm1.trans (Moved.of_below hg1 ((Below.refl _ _).alloc (Nat.le_refl _) _))).trans hm2).drewN _⟩

/-- A belt that is drawn. -/
def BeltD (a b c d : Nat) : Prop := RadD a ∧ RadD b ∧ (∃ e, Po e ∧ A e ≤ 300 ∧ c = cop .add (cop .add a b) e) ∧ Po d ∧ A d ≤ 2

theorem rad_add {a b : Nat} (ha : RadD a) (hb : RadD b) : Po (cop .add a b) ∧ A (cop .add a b) ≤ 401 ∧ (1 : Rat) / 8 ≤ A (cop .add a b) := by
  obtain ⟨a1, a2, a3⟩ := ha
  obtain ⟨b1, b2, b3⟩ := hb
  have e100 : (4194304 : Rat) ≤ 2 ^ (100 : Int) := by decide +kernel
  obtain ⟨s1, s2, s3⟩ := Po.add a1 b1 (by grind)
  obtain ⟨s4, s5⟩ := Nr_def s2
  rw [Rat.pow_one] at s4 s5
  refine ⟨s1, by grind, ?_⟩
  have e8 : (2 : Rat) ^ (-3 : Int) = 1 / 8 := by decide +kernel
  rw [← e8]
  exact fl_pow_ge s3 (by omega) (by rw [e8]; grind)
theorem apart_add {a b e : Nat} (ha : RadD a) (hb : RadD b) (he : Po e) (he1 : A e ≤ 300) : Po (cop .add (cop .add a b) e) ∧ A (cop .add a b) ≤ A (cop .add (cop .add a b) e) ∧ A (cop .add (cop .add a b) e) ≤ 702 := by
  obtain ⟨s1, s2, s3⟩ := rad_add ha hb
  have e100 : (4194304 : Rat) ≤ 2 ^ (100 : Int) := by decide +kernel
  have ne := A_nn e
  obtain ⟨t1, t2, t3⟩ := Po.add s1 he (by grind)
  obtain ⟨t4, t5⟩ := Nr_def t2
  rw [Rat.pow_one] at t4 t5
  exact ⟨t1, fl_ge t3 (by grind), by grind⟩

end Go.Proofs.Ytljigmplmlhdnaa

/-! Contracts: what the reference model draws: a belt. (written by wip/gen/drawn.py.) -/
namespace Go.Proofs.Ytljigmplmlhdnaa
open Go.RowKit
set_option linter.unusedVariables false
set_option linter.unusedSimpArgs false

theorem some_of_F' {op : BinOp} {x y : Nat} (h : F (cop op x y)) : floatBits op .f32 x y = some (cop op x y) := by
  cases hb : floatBits op .f32 x y with
  | some z => simp [cop, hb]
  | none =>
    exfalso
    have e : cop op x y = nan0 := by simp [cop, hb]
    rw [e] at h
    have := fin_isNan h.1
    rw [nan0_isNan] at this
    cases this
theorem fval_F' {op : BinOp} {x y : Nat} (h : F (cop op x y)) (w : World) : fval op .f32 x y w = cop op x y := by simp [fval, some_of_F' h]
theorem fdn_F' {op : BinOp} {x y : Nat} (h : F (cop op x y)) : fdn op .f32 x y = 0 := by simp [fdn, some_of_F' h]

/-- All but two blocks as they were. -/
def Still2 (g p : Nat) (w w' : World) : Prop := w.heap.size ≤ w'.heap.size ∧ ∀ b, b < w.heap.size → b ≠ g → b ≠ p → w'.heap[b]? = w.heap[b]?
theorem Still2.refl (g p : Nat) (w : World) : Still2 g p w w := ⟨Nat.le_refl _, fun _ _ _ _ => rfl⟩
theorem Still2.of_moved {g p : Nat} {w w' : World} (h : Moved g w w') : Still2 g p w w' := ⟨h.1.size, fun b hb h1 _ => h.2 b hb h1⟩
theorem Still2.cell {g p : Nat} {w w' : World} (h : Still2 g p w w') {q : Addr} {v : Value} (hc : w.cell? q = some v) (h1 : q.block ≠ g) (h2 : q.block ≠ p) : w'.cell? q = some v := by
  have hb := World.block_lt_of_cell? w _ hc
  unfold World.cell? at hc ⊢
  rw [h.2 _ hb h1 h2]
  exact hc
def GoodC (a b e : Nat) : Prop := ∃ z, Po z ∧ A z ≤ 300 ∧ e = cop .add (cop .add a b) z
/-- The world in the region: the source, the belt's cells. -/
def InD (g p k : Nat) (W : World) (a b : Nat) (x : Bool) (c : Nat) (w : World) : Prop :=
  Src w g (k + 2 * c) ∧ Moved g W w ∧ ∃ v2, w.ownsRow p 31 5 (.slice (some ⟨p, 0, none⟩) 1 1) 1 [.float .f32 a, .float .f32 b, v2, .float .f32 0, .bool x]
def CellG (p a b : Nat) (w : World) : Prop := ∃ e, GoodC a b e ∧ w.cell? ⟨p, 2, none⟩ = some (.float .f32 e)
def StD (g p a b : Nat) (w w' : World) : Prop := Still2 g p w w' ∧ (CellG p a b w → CellG p a b w')
theorem StD.refl (g p a b : Nat) (w : World) : StD g p a b w w := ⟨Still2.refl _ _ _, id⟩
theorem StD.of_moved {g p a b : Nat} {w w' : World} (h : Moved g w w') (hp : p ≠ g) : StD g p a b w w' := ⟨Still2.of_moved h, fun ⟨e, he, hc⟩ => ⟨e, he, h.cell (p := ⟨p, 2, none⟩) hc hp⟩⟩
theorem InD.more {g p k : Nat} {W : World} {a b : Nat} {x : Bool} {c : Nat} {w : World} (h : InD g p k W a b x c w) : InD g p k W a b x (c + 1) w := ⟨h.1.mono (by omega), h.2.1, h.2.2⟩
theorem InD.moved {g p k : Nat} {W : World} {a b : Nat} {x : Bool} {c : Nat} {w w' : World} (h : InD g p k W a b x c w) (hm : Moved g w w') (hs : Src w' g (k + 2 * (c + 1))) (hp : p ≠ g) : InD g p k W a b x (c + 1) w' := by
  obtain ⟨_, h2, v2, h3⟩ := h
  exact ⟨hs, h2.trans hm, v2, hm.own h3 (fun q hq => by cases hq; exact hp)⟩

def prD (g p a b : Nat) : Nat → Value → World → Prop
  | 0, v, _ => v = .pointer (some ⟨p, 0, none⟩)
  | 1, v, _ => v = .float .f32 a
  | 2, v, _ => v = .pointer (some ⟨p, 1, none⟩)
  | 3, v, _ => v = .float .f32 b
  | 4, v, _ => v = .float .f32 (cop .add a b)
  | 5, v, _ => v = .pointer (some ⟨g, 0, none⟩)
  | 6, v, _ => ∃ y : Int, v = .int .i64 y ∧ 0 ≤ y ∧ y < 300
  | 7, v, _ => ∃ y : Int, v = .float .f32 (floatOfInt .f32 y) ∧ 0 ≤ y ∧ y < 300
  | 8, v, _ => v = .pointer (some ⟨g, 0, none⟩)
  | 9, v, w => ∃ q, v = .slice (some ⟨q, 0, none⟩) 3 3 ∧ q ≠ g ∧ q ≠ p ∧ ∀ (i : Nat) (x : Int), [(1 : Int), 3, 7][i]? = some x → w.cell? ⟨q, i, none⟩ = some (.int .i64 x)
  | 10, v, _ => ∃ y : Int, v = .int .i64 y ∧ y ∈ [(1 : Int), 3, 7]
  | 11, v, _ => ∃ y : Int, v = .float .f32 (floatOfInt .f32 y) ∧ y ∈ [(1 : Int), 3, 7]
  | 12, v, _ => ∃ z, v = .float .f32 z ∧ Po z ∧ A z ≤ 300
  | 13, v, _ => ∃ e, v = .float .f32 e ∧ GoodC a b e
  | 14, v, _ => v = .pointer (some ⟨p, 2, none⟩)
  | _, _, w => CellG p a b w
theorem prD_st {g p a b : Nat} : ∀ i v w w', prD g p a b i v w → StD g p a b w w' → prD g p a b i v w' := by
  intro i v w w' h hs
  match i, h with
  | 9, ⟨q, h1, h2, h3, h4⟩ => exact ⟨q, h1, h2, h3, fun i x hx => hs.1.cell (h4 i x hx) h2 h3⟩
  | 0, h | 1, h | 2, h | 3, h | 4, h | 5, h | 6, h | 7, h | 8, h | 10, h | 11, h | 12, h | 13, h | 14, h => exact h
  | _ + 15, h => exact hs.2 h
theorem notDst {l : List Oper} {s : Nat} (h : (l.all fun o => o.dst != some s) = true) : ∀ (k : Nat) (ok : Oper), l[k]? = some ok → ok.dst ≠ some s := fun k ok hk he => by
  have := List.all_eq_true.1 h ok (List.mem_of_getElem? hk)
  rw [he] at this
  simp at this

set_option maxRecDepth 100000 in
set_option maxHeartbeats 8000000 in
theorem drawnB_any (g k : Nat) (w : World) (h : Src w g k) (hk : k ≤ 1000) :
    Calls Try.prog 70 #[.pointer (some ⟨g, 0, none⟩)] w (Draws w g (k + 100) fun u => ∃ (a b c d : Nat) (x : Bool), u = .agg #[.float .f32 a, .float .f32 b, .float .f32 c, .float .f32 d, .bool x] ∧ BeltD a b c d) := by
  have hg := h.lt
  have H := Lib.hid h
  clear h
  refine Fr.enter (n := 36) Try.func70 rfl rfl (by simp) ?_
  intro f0 hf0
  have t0 : f0 0 = .pointer (some ⟨g, 0, none⟩) := hf0 0 (by simp)
  clear hf0
  have E1 := @Fr.ev_tmp 36
  have E2 := @Fr.ev_const 36
  have E3 := @Fr.up_get
  have E4 := @Fr.ev_func 36
  have E5 := @Fr.ev_global 36
  refine wp_seq ?_
  refine wp_region_lit ?_
  refine Fr.l_val rfl (Fr.w_none rfl) (by go_simp; first | done | (with_reducible rfl) | (with_reducible exact ⟨rfl, rfl⟩) | (with_reducible exact ⟨⟨rfl, rfl⟩, rfl⟩)) ?_
  refine Fr.l_nil ?_
  refine wp_seq ?_
  refine wp_region_lit ?_
  refine Fr.l_mv rfl rfl (Fr.w_none rfl) (by simp only [Fr.ev_tmp, Fr.ev_const, Fr.up_get, Nat.reduceLT, Nat.reduceEqDiff, ↓reduceIte, t0]; try rfl) ?_
  (refine Fr.l_call rfl (Fr.w_none rfl) (by go_simp; first | done | (with_reducible rfl) | (with_reducible exact ⟨rfl, rfl⟩) | (with_reducible exact ⟨⟨rfl, rfl⟩, rfl⟩)) ?_; refine (pulley_any g k _ (H.out.after ((Below.refl _ _).alloc (Nat.le_refl _) _)) (by omega)).mono ?_; rintro e w1 ⟨u, rfl, ⟨a, rfl, ha⟩, hs1, hm1⟩; refine ⟨_, rfl, ?_⟩)
  refine Fr.l_mv rfl rfl (Fr.w_none rfl) (by simp only [Fr.ev_tmp, Fr.ev_const, Fr.up_get, Nat.reduceLT, Nat.reduceEqDiff, ↓reduceIte, t0]; try rfl) ?_
  (refine Fr.l_call rfl (Fr.w_none rfl) (by go_simp; first | done | (with_reducible rfl) | (with_reducible exact ⟨rfl, rfl⟩) | (with_reducible exact ⟨⟨rfl, rfl⟩, rfl⟩)) ?_; refine (pulley_any g (k + 4) _ hs1 (by omega)).mono ?_; rintro e w2 ⟨u, rfl, ⟨b, rfl, hb⟩, hs2, hm2⟩; refine ⟨_, rfl, ?_⟩)
  refine Fr.l_mv rfl rfl (Fr.w_none rfl) (by simp only [Fr.ev_tmp, Fr.ev_const, Fr.up_get, Nat.reduceLT, Nat.reduceEqDiff, ↓reduceIte, t0]; try rfl) ?_
  (refine Fr.l_call rfl (Fr.w_none rfl) (by go_simp; first | done | (with_reducible rfl) | (with_reducible exact ⟨rfl, rfl⟩) | (with_reducible exact ⟨⟨rfl, rfl⟩, rfl⟩)) ?_; refine (one_any g (k + 8) 2 _ hs2 (by omega) (by omega) (by omega)).mono ?_; rintro e w3 ⟨u, rfl, ⟨x, rfl⟩, hs3, hm3⟩; refine ⟨_, rfl, ?_⟩)
  refine Fr.l_val rfl (Fr.w_none rfl) (by go_simp; first | done | (with_reducible rfl) | (with_reducible exact ⟨rfl, rfl⟩) | (with_reducible exact ⟨⟨rfl, rfl⟩, rfl⟩)) ?_
  refine Fr.l_val rfl (Fr.w_none rfl) (by go_simp; first | done | (with_reducible rfl) | (with_reducible exact ⟨rfl, rfl⟩) | (with_reducible exact ⟨⟨rfl, rfl⟩, rfl⟩)) ?_
  refine Fr.l_skip rfl (Fr.w_none rfl) (by go_simp; first | done | (with_reducible rfl) | (with_reducible exact ⟨rfl, rfl⟩) | (with_reducible exact ⟨⟨rfl, rfl⟩, rfl⟩)) ?_
  refine Fr.l_nil ?_
  have s1 := hm1.1.size
  have s2 := hm2.1.size
  have s3 := hm3.1.size
  simp at s1
  have hg3 : g < w3.heap.size := by omega
  have HR0 := own_lit w w.heap.size 31 (size := 5) 1 #[.float .f32 0, .float .f32 0, .float .f32 0, .float .f32 0, .bool false] (Nat.le_refl _) (by decide) rfl
  have HR3 := Lib.hid (hm3.own (hm2.own (hm1.own HR0 (fun q hq => by cases hq; exact Nat.ne_of_gt hg)) (fun q hq => by cases hq; exact Nat.ne_of_gt hg)) (fun q hq => by cases hq; exact Nat.ne_of_gt hg))
  clear HR0
  have hm0 := (((Moved.of_below hg ((Below.refl _ _).alloc (Nat.le_refl _) _)).trans hm1).trans hm2).trans hm3
  have HP0 := own_lit w3 w3.heap.size 31 (size := 5) 1 #[.float .f32 a, .float .f32 b, .float .f32 0, .float .f32 0, .bool x] (Nat.le_refl _) (by decide) rfl
  obtain ⟨p, hp⟩ : ∃ p, p = w3.heap.size := ⟨_, rfl⟩
  have hpg : p ≠ g := by omega
  have hfab := (rad_add ha hb).1.1
  have hfv := fval_F' hfab
  have hfd := fdn_F' hfab
  have hI0 : InD g p (k + 10) w3 a b x 0 ((w3.alloc (.cells #[.float .f32 a, .float .f32 b, .float .f32 0, .float .f32 0, .bool x] 31)).drew) := ⟨hs3.after ((Below.refl _ _).alloc (Nat.le_refl _) _).drew, Moved.of_below hg3 (((Below.refl _ _).alloc (Nat.le_refl _) _).drew), _, own_after (by rw [hp]; exact HP0) (Below.drew (Below.refl _ _))⟩
  have HA := Lib.hid ha
  have HBb := Lib.hid hb
  have HM0 := Lib.hid hm0
  clear HP0 hm1 hm2 hm3 hs1 hs2 hs3 ha hb hm0
  rw [← hp]
  have HPE := Lib.hid hp
  clear hp
  refine wp_seq ?_
  refine Fr.name' ?_
  intro f hf
  have t0 : f 0 = .pointer (some ⟨g, 0, none⟩) := by rw [hf]; simp only [Fr.up_get, Nat.reduceEqDiff, ↓reduceIte, t0]
  have t2 : f 2 = .pointer (some ⟨w.heap.size, 0, none⟩) := by rw [hf]; simp only [Fr.up_get, Nat.reduceEqDiff, ↓reduceIte]
  have t3 : f 3 = .pointer (some ⟨p, 0, none⟩) := by rw [hf]; simp only [Fr.up_get, Nat.reduceEqDiff, ↓reduceIte]
  clear hf
  refine Fr.any_inv (prD g p a b) (StD g p a b) (InD g p (k + 10) w3 a b x) (by kernel_rfl) (by kernel_rfl) prD_st hI0 ?_ ?_
  · intro i o ho fx wx c hc hbase hdep hW
    have b0 := (hbase 0 (notDst (by kernel_rfl))).trans t0
    have b3 := (hbase 3 (notDst (by kernel_rfl))).trans t3
    obtain ⟨hsr, hmv, v2, how⟩ := id hW
    have hgx := hsr.lt
    have hc0 := own_cell how (j := 0) rfl
    have hc1 := own_cell how (j := 1) rfl
    have hc2 := own_cell how (j := 2) rfl
    have hfr := own_free how
    have hpx := (how.lt p rfl).2
    have HOW := Lib.hid how
    have HW := Lib.hid hW
    clear how hW
    match i, ho with
    | 0, ho =>
      cases ho
      clear hdep
      refine Fr.stepOk.val (by go_simp; first | done | (with_reducible rfl) | (with_reducible exact ⟨rfl, rfl⟩) | (with_reducible exact ⟨⟨rfl, rfl⟩, rfl⟩)) ?_
      exact ⟨rfl, StD.refl _ _ _ _ _, HW.out.more⟩
    | 1, ho =>
      cases ho
      have e0 := hdep ⟨0, .data⟩ (by simp) rfl _ rfl _ rfl
      have q0 : fx 11 = _ := e0
      clear hdep
      refine Fr.stepOk.val (by go_simp; first | done | (with_reducible rfl) | (with_reducible exact ⟨rfl, rfl⟩) | (with_reducible exact ⟨⟨rfl, rfl⟩, rfl⟩)) ?_
      exact ⟨rfl, StD.refl _ _ _ _ _, HW.out.more⟩
    | 2, ho =>
      cases ho
      clear hdep
      refine Fr.stepOk.val (by go_simp; first | done | (with_reducible rfl) | (with_reducible exact ⟨rfl, rfl⟩) | (with_reducible exact ⟨⟨rfl, rfl⟩, rfl⟩)) ?_
      exact ⟨rfl, StD.refl _ _ _ _ _, HW.out.more⟩
    | 3, ho =>
      cases ho
      have e2 := hdep ⟨2, .data⟩ (by simp) rfl _ rfl _ rfl
      have q2 : fx 13 = _ := e2
      clear hdep
      refine Fr.stepOk.val (by go_simp; first | done | (with_reducible rfl) | (with_reducible exact ⟨rfl, rfl⟩) | (with_reducible exact ⟨⟨rfl, rfl⟩, rfl⟩)) ?_
      exact ⟨rfl, StD.refl _ _ _ _ _, HW.out.more⟩
    | 4, ho =>
      cases ho
      have e1 := hdep ⟨1, .data⟩ (by simp) rfl _ rfl _ rfl
      have e3 := hdep ⟨3, .data⟩ (by simp) rfl _ rfl _ rfl
      have q1 : fx 12 = _ := e1
      have q3 : fx 14 = _ := e3
      clear hdep
      refine Fr.stepOk.val (by go_simp; first | done | (with_reducible rfl) | (with_reducible exact ⟨rfl, rfl⟩) | (with_reducible exact ⟨⟨rfl, rfl⟩, rfl⟩)) ?_
      exact ⟨rfl, StD.refl _ _ _ _ _, HW.out.more⟩
    | 5, ho =>
      cases ho
      clear hdep
      refine Fr.stepOk.val (by go_simp; first | done | (with_reducible rfl) | (with_reducible exact ⟨rfl, rfl⟩) | (with_reducible exact ⟨⟨rfl, rfl⟩, rfl⟩)) ?_
      exact ⟨rfl, StD.refl _ _ _ _ _, HW.out.more⟩
    | 6, ho =>
      cases ho
      have e5 := hdep ⟨5, .data⟩ (by simp) rfl _ rfl _ rfl
      have q5 : fx 16 = _ := e5
      clear hdep
      refine Fr.stepOk.call (by go_simp; first | done | (with_reducible rfl) | (with_reducible exact ⟨rfl, rfl⟩) | (with_reducible exact ⟨⟨rfl, rfl⟩, rfl⟩)) ?_
      refine (pick_any g (k + 10 + 2 * c) 300 _ hsr (by simp at hc; omega) (by omega) (by omega)).mono ?_
      rintro e' w4 ⟨u, rfl, ⟨y, rfl, y0, y1⟩, hs4, hm4⟩
      exact ⟨_, rfl, ⟨y, rfl, y0, y1⟩, StD.of_moved hm4 hpg, HW.out.moved hm4 (hs4.mono (by omega)) hpg⟩
    | 7, ho =>
      cases ho
      have e6 := hdep ⟨6, .data⟩ (by simp) rfl _ rfl _ rfl
      obtain ⟨y6, q6, y6a, y6b⟩ := e6
      clear hdep
      refine Fr.stepOk.val (by go_simp; first | done | (with_reducible rfl) | (with_reducible exact ⟨rfl, rfl⟩) | (with_reducible exact ⟨⟨rfl, rfl⟩, rfl⟩)) ?_
      exact ⟨⟨y6, rfl, y6a, y6b⟩, StD.refl _ _ _ _ _, HW.out.more⟩
    | 8, ho =>
      cases ho
      clear hdep
      refine Fr.stepOk.val (by go_simp; first | done | (with_reducible rfl) | (with_reducible exact ⟨rfl, rfl⟩) | (with_reducible exact ⟨⟨rfl, rfl⟩, rfl⟩)) ?_
      exact ⟨rfl, StD.refl _ _ _ _ _, HW.out.more⟩
    | 9, ho =>
      cases ho
      clear hdep
      refine Fr.stepOk.val (by go_simp; first | done | (with_reducible rfl) | (with_reducible exact ⟨rfl, rfl⟩) | (with_reducible exact ⟨⟨rfl, rfl⟩, rfl⟩)) ?_
      have hal := Moved.of_below hgx ((Below.refl wx.heap.size wx).alloc (Nat.le_refl _) (.cells #[.int .i64 1, .int .i64 3, .int .i64 7] 2))
      exact ⟨⟨_, rfl, by omega, by omega, cells_ints wx _ [1, 3, 7]⟩, StD.of_moved hal hpg, HW.out.moved hal ((hsr.after ((Below.refl _ _).alloc (Nat.le_refl _) _)).mono (by omega)) hpg⟩
    | 10, ho =>
      cases ho
      have e8 := hdep ⟨8, .data⟩ (by simp) rfl _ rfl _ rfl
      have e9 := hdep ⟨9, .data⟩ (by simp) rfl _ rfl _ rfl
      have q8 : fx 19 = _ := e8
      obtain ⟨q, q9, qg, qp, qc⟩ := e9
      clear hdep
      refine Fr.stepOk.call (by go_simp; first | done | (with_reducible rfl) | (with_reducible exact ⟨rfl, rfl⟩) | (with_reducible exact ⟨⟨rfl, rfl⟩, rfl⟩)) ?_
      refine (among_any g (k + 10 + 2 * c) q 3 3 [1, 3, 7] rfl (by omega) (by omega) _ hsr (by simp at hc; omega) qg qc).mono ?_
      rintro e' w4 ⟨u, rfl, ⟨y, rfl, hy⟩, hs4, hm4⟩
      exact ⟨_, rfl, ⟨y, rfl, hy⟩, StD.of_moved hm4 hpg, HW.out.moved hm4 (hs4.mono (by omega)) hpg⟩
    | 11, ho =>
      cases ho
      have e10 := hdep ⟨10, .data⟩ (by simp) rfl _ rfl _ rfl
      obtain ⟨y10, q10, y10m⟩ := e10
      clear hdep
      refine Fr.stepOk.val (by go_simp; first | done | (with_reducible rfl) | (with_reducible exact ⟨rfl, rfl⟩) | (with_reducible exact ⟨⟨rfl, rfl⟩, rfl⟩)) ?_
      exact ⟨⟨y10, rfl, y10m⟩, StD.refl _ _ _ _ _, HW.out.more⟩
    | 12, ho =>
      cases ho
      have e7 := hdep ⟨7, .data⟩ (by simp) rfl _ rfl _ rfl
      have e11 := hdep ⟨11, .data⟩ (by simp) rfl _ rfl _ rfl
      obtain ⟨y7, q7, y7a, y7b⟩ := e7
      obtain ⟨y11, q11, y11m⟩ := e11
      clear hdep
      have hgo := gap_ok y7a y7b y11m
      have hv := fval_F' (show F (cop .quo (floatOfInt .f32 y7) (floatOfInt .f32 y11)) from hgo.1.1)
      have hd := fdn_F' (show F (cop .quo (floatOfInt .f32 y7) (floatOfInt .f32 y11)) from hgo.1.1)
      have HGO := Lib.hid hgo
      clear hgo
      refine Fr.stepOk.val (by go_simp; first | done | (with_reducible rfl) | (with_reducible exact ⟨rfl, rfl⟩) | (with_reducible exact ⟨⟨rfl, rfl⟩, rfl⟩)) ?_
      exact ⟨⟨_, rfl, HGO.out.1, HGO.out.2⟩, StD.refl _ _ _ _ _, HW.out.more⟩
    | 13, ho =>
      cases ho
      have e4 := hdep ⟨4, .data⟩ (by simp) rfl _ rfl _ rfl
      have e12 := hdep ⟨12, .data⟩ (by simp) rfl _ rfl _ rfl
      have q4 : fx 15 = _ := e4
      obtain ⟨z, q12, hz, hz1⟩ := e12
      clear hdep
      have hgo := apart_add HA.out HBb.out hz hz1
      have hv := fval_F' hgo.1.1
      have hd := fdn_F' hgo.1.1
      have HZ := Lib.hid (And.intro hz hz1)
      clear hgo hz hz1
      refine Fr.stepOk.val (by go_simp; first | done | (with_reducible rfl) | (with_reducible exact ⟨rfl, rfl⟩) | (with_reducible exact ⟨⟨rfl, rfl⟩, rfl⟩)) ?_
      exact ⟨⟨_, rfl, _, HZ.out.1, HZ.out.2, rfl⟩, StD.refl _ _ _ _ _, HW.out.more⟩
    | 14, ho =>
      cases ho
      clear hdep
      refine Fr.stepOk.val (by go_simp; first | done | (with_reducible rfl) | (with_reducible exact ⟨rfl, rfl⟩) | (with_reducible exact ⟨⟨rfl, rfl⟩, rfl⟩)) ?_
      exact ⟨rfl, StD.refl _ _ _ _ _, HW.out.more⟩
    | 15, ho =>
      cases ho
      have e13 := hdep ⟨13, .data⟩ (by simp) rfl _ rfl _ rfl
      have e14 := hdep ⟨14, .data⟩ (by simp) rfl _ rfl _ rfl
      obtain ⟨e, q13, he⟩ := e13
      have q14 : fx 25 = _ := e14
      clear hdep
      have hst := HOW.out.stored 2 (.float .f32 e)
      refine Fr.stepOk.skip (by go_simp; first | done | (with_reducible rfl) | (with_reducible exact ⟨rfl, rfl⟩) | (with_reducible exact ⟨⟨rfl, rfl⟩, rfl⟩)) ?_
      have hcell := own_cell hst.1 (j := 2) (u := .float .f32 e) rfl
      refine ⟨⟨e, he, hcell⟩, ⟨⟨by simp, fun bb hb1 _ hb3 => Below.heap_setCell wx ⟨p, 2, none⟩ _ bb hb3⟩, fun _ => ⟨e, he, hcell⟩⟩, ?_⟩
      exact ⟨(hsr.below ((Below.refl p wx).setCell (p := ⟨p, 2, none⟩) (Nat.le_refl _) _) (by have := HPE.out; omega)).mono (by omega), (hmv.fresh hg3 (by have := HPE.out; omega) 2 _), _, hst.1⟩
    | m + 16, ho => simp at ho
  · intro fx wx hbase hpr hW
    have b0 := (hbase 0 (notDst (by kernel_rfl))).trans t0
    have b2 := (hbase 2 (notDst (by kernel_rfl))).trans t2
    have b3 := (hbase 3 (notDst (by kernel_rfl))).trans t3
    obtain ⟨_, e, he, hce⟩ := (hpr 15 _ rfl).2 rfl
    obtain ⟨c, hc, hsr, hmv, v2, how⟩ := hW
    have hsr' : Src wx g (k + 50) := hsr.mono (by simp at hc; omega)
    obtain rfl : v2 = .float .f32 e := Option.some.inj ((own_cell how (j := 2) rfl).symm.trans hce)
    have hwr : w.heap.size < w3.heap.size := by omega
    have HRx := hmv.own HR3.out (fun q hq => by cases hq; exact Nat.ne_of_gt hg)
    have hpx := (how.lt p rfl).2
    have HE := Lib.hid he
    have HPX := Lib.hid how
    have HMV := Lib.hid hmv
    have HRX := Lib.hid HRx
    clear hpr hbase hce hsr how hmv HRx he hfv hfd
    have hgx := hsr'.lt
    refine wp_seq ?_
    refine wp_region_lit ?_
    refine Fr.l_mv rfl rfl (Fr.w_none rfl) (by simp only [Fr.ev_tmp, Fr.ev_const, Fr.up_get, Nat.reduceLT, Nat.reduceEqDiff, ↓reduceIte, b0, b2, b3]; try rfl) ?_
    (refine Fr.l_call rfl (Fr.w_none rfl) (by go_simp; first | done | (with_reducible rfl) | (with_reducible exact ⟨rfl, rfl⟩) | (with_reducible exact ⟨⟨rfl, rfl⟩, rfl⟩)) ?_; refine (pick_any g (k + 50) 40 _ hsr' (by omega) (by omega) (by omega)).mono ?_; rintro e' w5 ⟨u, rfl, ⟨y, rfl, y0, y1⟩, hs5, hm5⟩; refine ⟨_, rfl, ?_⟩)
    refine Fr.l_val rfl (Fr.w_none rfl) (by go_simp; first | done | (with_reducible rfl) | (with_reducible exact ⟨rfl, rfl⟩) | (with_reducible exact ⟨⟨rfl, rfl⟩, rfl⟩)) ?_
    refine Fr.l_mv rfl rfl (Fr.w_none rfl) (by simp only [Fr.ev_tmp, Fr.ev_const, Fr.up_get, Nat.reduceLT, Nat.reduceEqDiff, ↓reduceIte, b0, b2, b3]; try rfl) ?_
    refine Fr.l_val rfl (Fr.w_none rfl) (by go_simp; first | done | (with_reducible rfl) | (with_reducible exact ⟨rfl, rfl⟩) | (with_reducible exact ⟨⟨rfl, rfl⟩, rfl⟩)) ?_
    (refine Fr.l_call rfl (Fr.w_none rfl) (by go_simp; first | done | (with_reducible rfl) | (with_reducible exact ⟨rfl, rfl⟩) | (with_reducible exact ⟨⟨rfl, rfl⟩, rfl⟩)) ?_; refine (among_any g (k + 52) w5.heap.size 3 3 [20, 30, 64] rfl (by omega) (by omega) _ (hs5.after ((Below.refl _ _).alloc (Nat.le_refl _) _)) (by omega) (by have := hs5.lt; omega) (cells_ints w5 _ [20, 30, 64])).mono ?_; rintro e' w6 ⟨u, rfl, ⟨y2, rfl, hy2⟩, hs6, hm6⟩; refine ⟨_, rfl, ?_⟩)
    have hgo := grip_ok y0 y1 hy2
    have hv := fval_F' (show F (cop .quo (floatOfInt .f32 y) (floatOfInt .f32 y2)) from hgo.1.1)
    have hd := fdn_F' (show F (cop .quo (floatOfInt .f32 y) (floatOfInt .f32 y2)) from hgo.1.1)
    have HG := Lib.hid hgo
    have hg5 := hs5.lt
    have hm56 := (hm5.trans (Moved.of_below hg5 ((Below.refl _ _).alloc (Nat.le_refl _) (.cells #[.int .i64 20, .int .i64 30, .int .i64 64] 2)))).trans hm6
    have HP6 := hm56.own HPX.out (fun q hq => by cases hq; exact hpg)
    have HR6 := hm56.own HRX.out (fun q hq => by cases hq; exact Nat.ne_of_gt hg)
    have c63 := own_cell HP6 (j := 3) rfl
    have f6 := own_free HP6
    have HP7 := Lib.hid (HP6.stored 3 (.float .f32 (cop .quo (floatOfInt .f32 y) (floatOfInt .f32 y2)))).1
    have HR6' := Lib.hid HR6
    have HP6' := Lib.hid HP6
    have HM56 := Lib.hid hm56
    clear hgo hm56 HP6 HR6 hm5
    refine Fr.l_val rfl (Fr.w_none rfl) (by go_simp; first | done | (with_reducible rfl) | (with_reducible exact ⟨rfl, rfl⟩) | (with_reducible exact ⟨⟨rfl, rfl⟩, rfl⟩)) ?_
    refine Fr.l_val rfl (Fr.w_none rfl) (by go_simp; first | done | (with_reducible rfl) | (with_reducible exact ⟨rfl, rfl⟩) | (with_reducible exact ⟨⟨rfl, rfl⟩, rfl⟩)) ?_
    refine Fr.l_val rfl (Fr.w_none rfl) (by go_simp; first | done | (with_reducible rfl) | (with_reducible exact ⟨rfl, rfl⟩) | (with_reducible exact ⟨⟨rfl, rfl⟩, rfl⟩)) ?_
    refine Fr.l_skip rfl (Fr.w_none rfl) (by go_simp; first | done | (with_reducible rfl) | (with_reducible exact ⟨rfl, rfl⟩) | (with_reducible exact ⟨⟨rfl, rfl⟩, rfl⟩)) ?_
    refine Fr.l_nil ?_
    refine wp_seq ?_
    refine Fr.nameW ?_
    intro w7 hw7
    rw [← hw7] at HP7
    have hr7 : w7.ownsRow w.heap.size 31 5 (.slice (some ⟨w.heap.size, 0, none⟩) 1 1) 1 [.float .f32 0, .float .f32 0, .float .f32 0, .float .f32 0, .bool false] := by
      rw [hw7]
      exact own_of_block HR6'.out fun q hq => by cases hq; exact Below.heap_setCell w6 ⟨p, 3, none⟩ _ w.heap.size (by have := HPE.out; show w.heap.size ≠ p; omega)
    have hm7 : Moved g w w7 := by
      rw [hw7]
      exact ((HM0.out.trans HMV.out).trans HM56.out).fresh hg (by have := HPE.out; omega) 3 _
    have hs7 : Src w7 g (k + 60) := by
      rw [hw7]
      exact (hs6.below ((Below.refl p w6).setCell (p := ⟨p, 3, none⟩) (Nat.le_refl _) _) (by have := HPE.out; omega)).mono (by omega)
    clear hw7
    clear hv hd
    have P0 := own_cell HP7.out (j := 0) rfl
    have P1 := own_cell HP7.out (j := 1) rfl
    have P2 := own_cell HP7.out (j := 2) rfl
    have P3 := own_cell HP7.out (j := 3) rfl
    have P4 := own_cell HP7.out (j := 4) rfl
    have R0 := own_cell hr7 (j := 0) rfl
    have R1 := own_cell hr7 (j := 1) rfl
    have R2 := own_cell hr7 (j := 2) rfl
    have R3 := own_cell hr7 (j := 3) rfl
    have R4 := own_cell hr7 (j := 4) rfl
    have rf := own_free hr7
    have HR7 := Lib.hid hr7
    have HM7 := Lib.hid hm7
    have HS7 := Lib.hid hs7
    clear hr7 hm7 hs7 c63 f6
    refine wp_region_lit ?_
    refine Fr.l_val rfl (Fr.w_none rfl) (by go_simp; first | done | (with_reducible rfl) | (with_reducible exact ⟨rfl, rfl⟩) | (with_reducible exact ⟨⟨rfl, rfl⟩, rfl⟩)) ?_
    refine Fr.l_skip rfl (Fr.w_none rfl) (by go_simp; first | done | (with_reducible rfl) | (with_reducible exact ⟨rfl, rfl⟩) | (with_reducible exact ⟨⟨rfl, rfl⟩, rfl⟩)) ?_
    refine Fr.l_nil ?_
    have hr8 := (((((HR7.out.stored 0 (.float .f32 a)).1.stored 1 (.float .f32 b)).1.stored 2 (.float .f32 e)).1.stored 3 (.float .f32 (cop .quo (floatOfInt .f32 y) (floatOfInt .f32 y2)))).1.stored 4 (.bool x)).1
    have hm8 := ((((HM7.out.fresh hg (Nat.le_refl _) 0 (.float .f32 a)).fresh hg (Nat.le_refl _) 1 (.float .f32 b)).fresh hg (Nat.le_refl _) 2 (.float .f32 e)).fresh hg (Nat.le_refl _) 3 (.float .f32 (cop .quo (floatOfInt .f32 y) (floatOfInt .f32 y2)))).fresh hg (Nat.le_refl _) 4 (.bool x)
    have hs8 := HS7.out.below ((((((Below.refl w.heap.size w7).setCell (p := ⟨w.heap.size, 0, none⟩) (Nat.le_refl _) (.float .f32 a)).setCell (p := ⟨w.heap.size, 1, none⟩) (Nat.le_refl _) (.float .f32 b)).setCell (p := ⟨w.heap.size, 2, none⟩) (Nat.le_refl _) (.float .f32 e)).setCell (p := ⟨w.heap.size, 3, none⟩) (Nat.le_refl _) (.float .f32 (cop .quo (floatOfInt .f32 y) (floatOfInt .f32 y2)))).setCell (p := ⟨w.heap.size, 4, none⟩) (Nat.le_refl _) (.bool x)) hg
    refine Fr.nameW ?_
    intro w8 hw8
    rw [← hw8] at hr8 hm8 hs8
    clear hw8 P0 P1 P2 P3 P4 R0 R1 R2 R3 R4 rf
    have F0 := own_cell hr8 (j := 0) rfl
    have F1 := own_cell hr8 (j := 1) rfl
    have F2 := own_cell hr8 (j := 2) rfl
    have F3 := own_cell hr8 (j := 3) rfl
    have F4 := own_cell hr8 (j := 4) rfl
    clear hr8
    refine wp_ret ?_
    refine bodyPost_ret (v := .agg #[.float .f32 a, .float .f32 b, .float .f32 e, .float .f32 (cop .quo (floatOfInt .f32 y) (floatOfInt .f32 y2)), .bool x]) (by simp [results, Try.results70, go_sem, Fr.ft_get, Fr.ft_getD, Fr.up_get, b2, F0, F1, F2, F3, F4]) rfl ?_
    obtain ⟨q, hq, hq1, rfl⟩ := HE.out
    exact ⟨_, rfl, ⟨a, b, _, _, x, rfl, HA.out, HBb.out, ⟨q, hq, hq1, rfl⟩, HG.out.1, HG.out.2⟩, hs8.mono (by omega), hm8⟩

/-- A belt that was drawn. -/
def DrawnB (w : World) (e : Ending) (w' : World) : Prop := ∃ (a b c d : Nat) (x : Bool), e = .returned (.agg #[.float .f32 a, .float .f32 b, .float .f32 c, .float .f32 d, .bool x]) ∧ BeltD a b c d ∧ Below w.heap.size w w'

set_option maxRecDepth 100000 in
set_option maxHeartbeats 4000000 in
theorem a2Belt_any (a : Option Addr) (n cap : Nat) (w : World) (h : BytesAt w w.heap.size a n) :
    Calls Try.prog 36 #[.slice a n cap] w (DrawnB w) := by
  have H := Lib.hid h
  clear h
  go_enter Try.func36, Try.ntmps36
  have HR0 := own_lit w w.heap.size 31 (size := 5) 1 #[.float .f32 0, .float .f32 0, .float .f32 0, .float .f32 0, .bool false] (Nat.le_refl _) (by decide) rfl
  have hal : Below w.heap.size w (w.alloc (.cells #[.float .f32 0, .float .f32 0, .float .f32 0, .float .f32 0, .bool false] 31)) := (Below.refl _ _).alloc (Nat.le_refl _) _
  go_wp2_with fail
  refine (from_any a n cap _ (bytes_go H.out hal)).mono ?_
  rintro e w1 ⟨rfl, hs1, hb1⟩
  have s1 := hb1.size
  simp at s1
  have hs1 : Src w1 (w.heap.size + 1) 0 := by simpa using hs1
  have hl := hs1.lt
  go_wp2_with fail
  refine (drawnB_any (w.heap.size + 1) 0 _ hs1 (by omega)).mono ?_
  rintro e w2 ⟨u, rfl, ⟨x1, x2, x3, x4, x5, rfl, hB⟩, hs2, hm2⟩
  have HR2 := hm2.own (own_after HR0 hb1) (fun q hq => by cases hq; simp)
  have R0 := own_cell HR2 (j := 0) rfl
  have R1 := own_cell HR2 (j := 1) rfl
  have R2 := own_cell HR2 (j := 2) rfl
  have R3 := own_cell HR2 (j := 3) rfl
  have R4 := own_cell HR2 (j := 4) rfl
  have rf := own_free HR2
  have HR8 := Lib.hid (((((HR2.stored 0 (.float .f32 x1)).1.stored 1 (.float .f32 x2)).1.stored 2 (.float .f32 x3)).1.stored 3 (.float .f32 x4)).1.stored 4 (.bool x5)).1
  have HB2 := Lib.hid ((hal.trans (hb1.mono (by simp))).trans (hm2.1.mono (by simp)))
  clear HR0 HR2 hm2
  go_wp2
  refine bodyPost_ret (v := .agg #[.float .f32 x1, .float .f32 x2, .float .f32 x3, .float .f32 x4, .bool x5]) ?_ rfl ?_
  · have F0 := own_cell HR8.out (j := 0) rfl
    have F1 := own_cell HR8.out (j := 1) rfl
    have F2 := own_cell HR8.out (j := 2) rfl
    have F3 := own_cell HR8.out (j := 3) rfl
    have F4 := own_cell HR8.out (j := 4) rfl
    clear R0 R1 R2 R3 R4
    simp [results, Try.results36, go_sem, F0, F1, F2, F3, F4]
  · exact ⟨x1, x2, x3, x4, x5, rfl, hB, (((((HB2.out.setCell (p := ⟨w.heap.size, 0, none⟩) (Nat.le_refl _) _).setCell (p := ⟨w.heap.size, 1, none⟩) (Nat.le_refl _) _).setCell (p := ⟨w.heap.size, 2, none⟩) (Nat.le_refl _) _).setCell (p := ⟨w.heap.size, 3, none⟩) (Nat.le_refl _) _).setCell (p := ⟨w.heap.size, 4, none⟩) (Nat.le_refl _) _)⟩

end Go.Proofs.Ytljigmplmlhdnaa

