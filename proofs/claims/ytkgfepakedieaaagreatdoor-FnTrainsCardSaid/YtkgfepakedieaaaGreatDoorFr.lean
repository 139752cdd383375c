/- Frames as a function of the slot: a walk whose cost does not grow with the frame. -/
import Derived.Test.YtkgfepakedieaaaGreatDoorLoose3
namespace Go.Proofs.YtkgfepakedieaaaGreatDoor.Fr
open Go
set_option linter.unusedVariables false
set_option linter.unusedSimpArgs false

/-- The frame's slots. -/
def ft (n : Nat) (f : Nat → Value) : Array Value := Array.ofFn (n := n) fun i => f i
/-- One slot written. -/
def up (f : Nat → Value) (j : Nat) (v : Value) : Nat → Value := fun i => if i = j then v else f i
/-- What an operand is. -/
def ev (n : Nat) (f : Nat → Value) : Operand → Value
  | .tmp t => if t < n then f t else undef
  | .const v => v
  | .global g => .pointer (some ⟨g, 0, none⟩)
  | .func f => .func (.func f) #[] #[]
def yv : Value → Option Bool
  | .bool b => some b
  | _ => none

section
variable {n : Nat} {f : Nat → Value} {d : List Deferred}
theorem ft_size : (ft n f).size = n := by simp [ft]
theorem ft_get {i : Nat} (h : i < n) : (ft n f)[i]? = some (f i) := by
  have : i < (ft n f).size := by rw [ft_size]; exact h
  rw [Array.getElem?_eq_getElem this]
  simp [ft]
theorem ft_getD {i : Nat} (h : i < n) : (ft n f).getD i undef = f i := by
  rw [Array.getD_eq_getD_getElem?, ft_get h]
  rfl
theorem ft_set {j : Nat} {v : Value} : (ft n f).setIfInBounds j v = ft n (up f j v) := by
  apply Array.ext
  · simp [ft]
  · intro i h1 h2
    have h3 : i < (ft n f).size := by simpa using h1
    rw [Array.getElem_setIfInBounds h3]
    by_cases h : j = i
    · subst h
      rw [if_pos rfl]
      simp [ft, up]
    · have : ¬ i = j := fun e => h e.symm
      rw [if_neg h]
      simp [ft, up, this]
theorem eval_fr : (Act.mk (ft n f) d).eval = ev n f := by
  funext x
  cases x with
  | tmp t =>
    show (ft n f).getD t undef = if t < n then f t else undef
    by_cases h : t < n
    · rw [ft_getD h, if_pos h]
    · have hs : (ft n f).size ≤ t := by rw [ft_size]; exact Nat.not_lt.1 h
      rw [if_neg h, Array.getD_eq_getD_getElem?, Array.getElem?_eq_none hs]
      rfl
  | const v => rfl
  | global g => rfl
  | func f => rfl
theorem put_fr {j : Nat} {v : Value} : (Act.mk (ft n f) d).put (some j) v = Act.mk (ft n (up f j v)) d := by
  show Act.mk ((ft n f).setIfInBounds j v) d = _
  rw [ft_set]
theorem put_none {v : Value} : (Act.mk (ft n f) d).put none v = Act.mk (ft n f) d := rfl
theorem ev_tmp {t : Nat} (h : t < n) : ev n f (.tmp t) = f t := if_pos h
theorem ev_const {v : Value} : ev n f (.const v) = v := rfl
theorem ev_global {g : Nat} : ev n f (.global g) = .pointer (some ⟨g, 0, none⟩) := rfl
theorem ev_func {g : FuncId} : ev n f (.func g) = .func (.func g) #[] #[] := rfl
theorem up_get {j i : Nat} {v : Value} : up f j v i = if i = j then v else f i := rfl
theorem up_same {j : Nat} {v : Value} : up f j v j = v := if_pos rfl
theorem up_ne {j i : Nat} {v : Value} (h : i ≠ j) : up f j v i = f i := if_neg h
/-- Any frame is one. -/
theorem fr_of (t : Array Value) : t = ft t.size fun i => t.getD i undef := by
  apply Array.ext
  · simp [ft]
  · intro i h1 h2
    simp [ft, h1]
theorem yield_fr {ops : Array Oper} {i t : Nat} (h : (ops[i]?).bind (·.dst) = some t) (ht : t < n) : yielded ops (ft n f) i = yv (f t) := by
  rw [Loose.yielded_yb h, ft_get ht]
  cases f t <;> rfl
end

/-! Regions in the order of the text. -/
section
variable {P : Program} {ops : Array Oper} {Q : Exit → Act → World → Prop} {n : Nat} {f : Nat → Value} {d : List Deferred} {o : Oper} {rest : List Oper} {w w1 : World}
theorem l_val {j : Nat} {u : Value} (ho : o.dst = some j) (hw : Region.wanted o (yielded ops (ft n f)) = true) (h : (execOp (ev n f) o).run P w = .ok (.value u) w1)
    (k : wpList P ops Q rest ⟨ft n (up f j u), d⟩ w1) : wpList P ops Q (o :: rest) ⟨ft n f, d⟩ w := by
  refine wpList_step fun K hK => ?_
  rw [if_pos hw]
  unfold Oper.wp
  rw [eval_fr, h]
  show K ((Act.mk (ft n f) d).put o.dst u) w1
  rw [ho, put_fr]
  exact hK _ _ k
theorem l_skip (ho : o.dst = none) (hw : Region.wanted o (yielded ops (ft n f)) = true) (h : (execOp (ev n f) o).run P w = .ok .skip w1)
    (k : wpList P ops Q rest ⟨ft n f, d⟩ w1) : wpList P ops Q (o :: rest) ⟨ft n f, d⟩ w := by
  refine wpList_step fun K hK => ?_
  rw [if_pos hw]
  unfold Oper.wp
  rw [eval_fr, h]
  show K ((Act.mk (ft n f) d).put o.dst undef) w1
  rw [ho, put_none]
  exact hK _ _ k
theorem l_pass {j : Nat} (ho : o.dst = some j) (hw : Region.wanted o (yielded ops (ft n f)) = false)
    (k : wpList P ops Q rest ⟨ft n (up f j undef), d⟩ w) : wpList P ops Q (o :: rest) ⟨ft n f, d⟩ w := by
  refine wpList_step fun K hK => ?_
  rw [if_neg (by rw [hw]; exact Bool.false_ne_true), ho, put_fr]
  exact hK _ _ k
theorem l_call {j : Nat} {g : FuncId} {args : Array Value} (ho : o.dst = some j) (hw : Region.wanted o (yielded ops (ft n f)) = true) (h : (execOp (ev n f) o).run P w = .ok (.enter g args) w1)
    (hc : Calls P g args w1 fun e w2 => ∃ v, e = .returned v ∧ wpList P ops Q rest ⟨ft n (up f j v), d⟩ w2) : wpList P ops Q (o :: rest) ⟨ft n f, d⟩ w := by
  refine wpList_step fun K hK => ?_
  rw [if_pos hw]
  unfold Oper.wp
  rw [eval_fr, h]
  show Calls P g args w1 _
  refine hc.mono ?_
  rintro e w2 ⟨v, rfl, k⟩
  show K ((Act.mk (ft n f) d).put o.dst v) w2
  rw [ho, put_fr]
  exact hK _ _ k
theorem l_nil (h : Q .normal ⟨ft n f, d⟩ w) : wpList P ops Q [] ⟨ft n f, d⟩ w := h
theorem l_cond {c : Operand} {x y : Code} {t : Bool} (hc : ev n f c = .bool t) (ht : t = true → x.wp P Q ⟨ft n f, d⟩ w) (hf : t = false → y.wp P Q ⟨ft n f, d⟩ w) : (Code.cond c x y).wp P Q ⟨ft n f, d⟩ w :=
  wp_cond_split (t := t) (by rw [eval_fr]; exact hc) ht hf
end

/-! Regions that draw their order. -/
section
variable {P : Program} {ops : Array Oper} {C : World → Prop} {T : FuncId → Array Value → Value → Prop} {Q : Act → Prop} {n : Nat} {f : Nat → Value} {d : List Deferred} {o : Oper} {rest : List Oper}
theorem d_det {j : Nat} {u : Value} (ho : o.dst = some j) (hw : Region.wanted o (yielded ops (ft n f)) = true) (h : ∀ w, C w → (execOp (ev n f) o).run P w = .ok (.value u) w)
    (k : Loose.wpL P ops C T Q rest ⟨ft n (up f j u), d⟩) : Loose.wpL P ops C T Q (o :: rest) ⟨ft n f, d⟩ := by
  refine Loose.det (u := u) hw (fun w hw => by rw [eval_fr]; exact h w hw) ?_
  rw [ho, put_fr]
  exact k
theorem d_skip (ho : o.dst = none) (hw : Region.wanted o (yielded ops (ft n f)) = true) (h : ∀ w, C w → (execOp (ev n f) o).run P w = .ok .skip w)
    (k : Loose.wpL P ops C T Q rest ⟨ft n f, d⟩) : Loose.wpL P ops C T Q (o :: rest) ⟨ft n f, d⟩ := by
  refine Loose.detSkip hw (fun w hw => by rw [eval_fr]; exact h w hw) ?_
  rw [ho, put_none]
  exact k
theorem d_pass {j : Nat} (ho : o.dst = some j) (hw : Region.wanted o (yielded ops (ft n f)) = false)
    (k : Loose.wpL P ops C T Q rest ⟨ft n (up f j undef), d⟩) : Loose.wpL P ops C T Q (o :: rest) ⟨ft n f, d⟩ := by
  refine Loose.pass hw ?_
  rw [ho, put_fr]
  exact k
theorem d_flt {j : Nat} {op : BinOp} {x y : Nat} (ho : o.dst = some j) (hw : Region.wanted o (yielded ops (ft n f)) = true) (hd : ∀ w n, C w → C (w.drewN n))
    (h : ∀ w, C w → (execOp (ev n f) o).run P w = .ok (.value (.float .f32 (fval op .f32 x y w))) (w.drewN (fdn op .f32 x y)))
    (k : ∀ r, cn r = cop op x y → r < 2 ^ 32 → Loose.wpL P ops C T Q rest ⟨ft n (up f j (.float .f32 r)), d⟩) : Loose.wpL P ops C T Q (o :: rest) ⟨ft n f, d⟩ := by
  refine Loose.flt hw hd (fun w hw => by rw [eval_fr]; exact h w hw) fun r h1 h2 => ?_
  rw [ho, put_fr]
  exact k r h1 h2
theorem d_call {j : Nat} {tb : List (FuncId × (Array Value → Value → Prop))} {g : FuncId} {args : Array Value} {p : Array Value → Value → Prop} (ho : o.dst = some j) (hw : Region.wanted o (yielded ops (ft n f)) = true)
    (h : ∀ w, C w → (execOp (ev n f) o).run P w = .ok (.enter g args) w) (hf : tb.lookup g = some p)
    (hc : ∀ w, C w → Calls P g args w (fun e w'' => ∃ v, e = .returned v ∧ p args v ∧ C w''))
    (k : ∀ v, p args v → Loose.wpL P ops C (Loose.Tab tb) Q rest ⟨ft n (up f j v), d⟩) : Loose.wpL P ops C (Loose.Tab tb) Q (o :: rest) ⟨ft n f, d⟩ := by
  refine Loose.callT hw (fun w hw => by rw [eval_fr]; exact h w hw) hf hc fun v hv => ?_
  rw [ho, put_fr]
  exact k v hv
end

/-- Slots below m as they were. -/
def Agree (m : Nat) (f g : Nat → Value) : Prop := ∀ i, i < m → g i = f i
theorem Agree.refl (m : Nat) (f : Nat → Value) : Agree m f f := fun _ _ => rfl
theorem Agree.up {m j : Nat} {f g : Nat → Value} {v : Value} (hj : m ≤ j) (h : Agree m f g) : Agree m f (up g j v) := fun i hi => by
  rw [up_ne (by omega)]
  exact h i hi
theorem Agree.trans {m : Nat} {f g h : Nat → Value} (a : Agree m f g) (b : Agree m g h) : Agree m f h := fun i hi => (b i hi).trans (a i hi)
theorem Agree.mono {m k : Nat} {f g : Nat → Value} (hk : k ≤ m) (a : Agree m f g) : Agree k f g := fun i hi => a i (by omega)

/-- Elements of a body. -/
def fs : Code → Code
  | .seq a _ => a
  | c => c
def sn : Code → Code
  | .seq _ b => b
  | c => c
def bb : Code → Code
  | .block _ c => c
  | c => c
def lp : Code → Code
  | .loop c => c
  | c => c
theorem wp_code {P : Program} {c c' : Code} {Q : Exit → Act → World → Prop} {a : Act} {w : World} (h : c = c') (k : Code.wp P c' Q a w) : Code.wp P c Q a w := by
  rw [h]
  exact k

/-! Guards; moves. -/
section
variable {P : Program} {ops : Array Oper} {n : Nat} {f : Nat → Value} {o : Oper}
theorem w_none (hg : o.guard = none) : Region.wanted o (yielded ops (ft n f)) = true := by
  unfold Region.wanted
  rw [hg]
theorem w_yes {i t : Nat} {b : Bool} (hg : o.guard = some (i, b)) (hd : (ops[i]?).bind (·.dst) = some t) (ht : t < n) (hv : f t = .bool b) : Region.wanted o (yielded ops (ft n f)) = true := by
  unfold Region.wanted
  rw [hg]
  show (yielded ops (ft n f) i == some b) = true
  rw [yield_fr hd ht, hv]
  simp [yv]
theorem w_no {i t : Nat} {b : Bool} (hg : o.guard = some (i, b)) (hd : (ops[i]?).bind (·.dst) = some t) (ht : t < n) (hv : f t = .bool (!b) ∨ f t = undef) : Region.wanted o (yielded ops (ft n f)) = false := by
  unfold Region.wanted
  rw [hg]
  show (yielded ops (ft n f) i == some b) = false
  rw [yield_fr hd ht]
  rcases hv with hv | hv <;> rw [hv]
  · cases b <;> rfl
  · rfl
theorem run_mv {x : Operand} (h : o.op = .move x) (w : World) : (execOp (ev n f) o).run P w = .ok (.value (ev n f x)) w := by
  unfold execOp
  rw [h]
  rfl
theorem run_as {x : Operand} (h : o.op = .assign x) (w : World) : (execOp (ev n f) o).run P w = .ok (.value (ev n f x)) w := by
  unfold execOp
  rw [h]
  rfl
end
section
variable {P : Program} {ops : Array Oper} {C : World → Prop} {T : FuncId → Array Value → Value → Prop} {Q : Act → Prop} {Q' : Exit → Act → World → Prop} {n : Nat} {f : Nat → Value} {d : List Deferred} {o : Oper} {rest : List Oper} {w : World}
theorem d_mv {j : Nat} {x : Operand} {v : Value} (ho : o.dst = some j) (hx : o.op = .move x) (hw : Region.wanted o (yielded ops (ft n f)) = true) (hv : ev n f x = v)
    (k : Loose.wpL P ops C T Q rest ⟨ft n (up f j v), d⟩) : Loose.wpL P ops C T Q (o :: rest) ⟨ft n f, d⟩ :=
  d_det ho hw (fun w _ => by rw [run_mv hx, hv]) k
theorem l_mv {j : Nat} {x : Operand} {v : Value} (ho : o.dst = some j) (hx : o.op = .move x) (hw : Region.wanted o (yielded ops (ft n f)) = true) (hv : ev n f x = v)
    (k : wpList P ops Q' rest ⟨ft n (up f j v), d⟩ w) : wpList P ops Q' (o :: rest) ⟨ft n f, d⟩ w :=
  l_val ho hw (by rw [run_mv hx, hv]) k
theorem l_as {j : Nat} {x : Operand} {v : Value} (ho : o.dst = some j) (hx : o.op = .assign x) (hw : Region.wanted o (yielded ops (ft n f)) = true) (hv : ev n f x = v)
    (k : wpList P ops Q' rest ⟨ft n (up f j v), d⟩ w) : wpList P ops Q' (o :: rest) ⟨ft n f, d⟩ w :=
  l_val ho hw (by rw [run_as hx, hv]) k
theorem d_as {j : Nat} {x : Operand} {v : Value} (ho : o.dst = some j) (hx : o.op = .assign x) (hw : Region.wanted o (yielded ops (ft n f)) = true) (hv : ev n f x = v)
    (k : Loose.wpL P ops C T Q rest ⟨ft n (up f j v), d⟩) : Loose.wpL P ops C T Q (o :: rest) ⟨ft n f, d⟩ :=
  d_det ho hw (fun w _ => by rw [run_as hx, hv]) k
end

/-! Slots kept; loops. -/
/-- Slots between lo and hi as they were. -/
def Kp (lo hi : Nat) (f g : Nat → Value) : Prop := ∀ i, lo ≤ i → i < hi → g i = f i
theorem Kp.refl (lo hi : Nat) (f : Nat → Value) : Kp lo hi f f := fun _ _ _ => rfl
theorem Kp.up {lo hi j : Nat} {f g : Nat → Value} {v : Value} (hj : (decide (j < lo) || decide (hi ≤ j)) = true) (h : Kp lo hi f g) : Kp lo hi f (up g j v) := fun i h1 h2 => by
  simp only [Bool.or_eq_true, decide_eq_true_eq] at hj
  rw [up_ne (by omega)]
  exact h i h1 h2
theorem Kp.trans {lo hi : Nat} {f g h : Nat → Value} (a : Kp lo hi f g) (b : Kp lo hi g h) : Kp lo hi f h := fun i h1 h2 => (b i h1 h2).trans (a i h1 h2)
theorem Kp.mono {lo hi lo' hi' : Nat} {f g : Nat → Value} (a : Kp lo hi f g) (h1 : lo ≤ lo') (h2 : hi' ≤ hi) : Kp lo' hi' f g := fun i h3 h4 => a i (by omega) (by omega)
theorem Agree.kp {m lo hi : Nat} {f g : Nat → Value} (a : Agree m f g) (h : hi ≤ m) : Kp lo hi f g := fun i _ h2 => a i (by omega)

theorem l_ops {P : Program} {ops : Array Oper} {Q : Exit → Act → World → Prop} {l : List Oper} {a : Act} {w : World} (h : ∀ OPS, OPS = ops → wpList P OPS Q l a w) : wpList P ops Q l a w := h _ rfl

theorem l_loop {P : Program} {c : Code} {Q : Exit → Act → World → Prop} {n : Nat} {f : Nat → Value} {d : List Deferred} {w : World} (I : (Nat → Value) → World → Prop) (s : Nat) (hs : s < n) (m : Value → Nat) (h0 : I f w)
    (round : ∀ g w', I g w' → c.wp P (Exit.then (fun a w'' => ∃ h, a = ⟨ft n h, d⟩ ∧ I h w'' ∧ m (h s) < m (g s)) Q) ⟨ft n g, d⟩ w') : (Code.loop c).wp P Q ⟨ft n f, d⟩ w := by
  refine wp_loop (fun a w' => ∃ h, a = ⟨ft n h, d⟩ ∧ I h w') (fun a _ => m (a.tmps.getD s undef)) ⟨f, rfl, h0⟩ ?_
  rintro a w' ⟨g, rfl, hI⟩
  refine wp_mono (round g w' hI) fun e a w hq => ?_
  cases e with
  | normal =>
    obtain ⟨h, rfl, hI', hm⟩ := hq
    refine ⟨⟨h, rfl, hI'⟩, ?_⟩
    show m ((ft n h).getD s undef) < m ((ft n g).getD s undef)
    rw [ft_getD hs, ft_getD hs]
    exact hm
  | _ => exact hq

theorem belowC_drew {W w : World} (h : BelowC W w) : BelowC W w.drew := (BelowC.out h).drew

section
variable {K : Act → World → Prop} {Q : Exit → Act → World → Prop} {a : Act} {w : World} {id : Nat}
theorem then_ok (h : K a w) : Exit.then K Q .normal a w := h
theorem then_exit (h : Q (.exit id) a w) : Exit.then K Q (.exit id) a w := h
theorem then_ret (h : Q .ret a w) : Exit.then K Q .ret a w := h
theorem inb_ok (h : Q .normal a w) : Exit.inBlock id Q .normal a w := h
theorem inb_exit (h : Q .normal a w) : Exit.inBlock id Q (.exit id) a w := by
  show (if id = id then Q .normal a w else Q (.exit id) a w)
  rw [if_pos rfl]
  exact h
end

/-- The frame's slots behind a letter. -/
theorem name {P : Program} {c : Code} {Q : Exit → Act → World → Prop} {n : Nat} {g : Nat → Value} {d : List Deferred} {w : World} (h : ∀ f, f = g → Code.wp P c Q ⟨ft n f, d⟩ w) : Code.wp P c Q ⟨ft n g, d⟩ w := h _ rfl

theorem enter {P : Program} {f : FuncId} {fn : Func} {c : Code} {args : Array Value} {w : World} {R : Ending → World → Prop} {n : Nat} (hf : P.funcs[f]? = some fn) (hb : fn.body = some c) (hn : fn.ntmps = n) (ha : args.size ≤ n)
    (h : ∀ f0 : Nat → Value, (∀ i, i < args.size → f0 i = args.getD i undef) → c.wp P (bodyPost P fn R) ⟨ft n f0, []⟩ w) : Calls P f args w R := by
  refine calls_of_wp hf hb ?_
  have hs : (args ++ Array.replicate (fn.ntmps - args.size) undef).size = n := by
    rw [Array.size_append, Array.size_replicate, hn]
    omega
  rw [fr_of (args ++ Array.replicate (fn.ntmps - args.size) undef), hs]
  refine h _ fun i hi => ?_
  show (args ++ Array.replicate (fn.ntmps - args.size) undef).getD i undef = args.getD i undef
  rw [Array.getD_eq_getD_getElem?, Array.getElem?_append_left hi, Array.getD_eq_getD_getElem?]

theorem ret {P : Program} {fn : Func} {R : Ending → World → Prop} {t n : Nat} {g : Nat → Value} {w : World} (h : fn.results = #[.tmp t]) (ht : t < n) (hR : R (.returned (g t)) w) : bodyPost P fn R .ret ⟨ft n g, []⟩ w :=
  bodyPost_ret (results_tmp h _ P w) rfl (by rw [ft_getD ht]; exact hR)

end Go.Proofs.YtkgfepakedieaaaGreatDoor.Fr
