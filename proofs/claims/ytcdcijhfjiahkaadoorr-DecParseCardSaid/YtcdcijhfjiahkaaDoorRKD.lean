/- The abstract machine: one operation of the running call. -/
import Derived.Test.YtcdcijhfjiahkaaDoorRKC
set_option linter.unusedVariables false
set_option linter.unusedSimpArgs false
namespace Go.Proofs.YtcdcijhfjiahkaaDoorR.K
open Go
open Go.RowKit (Below)

/-- What the model's machine has still to do behind a path. -/
def ctxOf (body : Code) : Path → List Item
  | [] => []
  | d :: p => match codeAt body p with
    | none => []
    | some x => match x, d with
      | .seq _ b, 0 => .code b :: ctxOf body p
      | .block id _, 0 => .inBlock id :: ctxOf body p
      | .loop b, 0 => .inLoop b :: ctxOf body p
      | .scope b, _ => .inScope b :: ctxOf body p
      | _, _ => ctxOf body p

def stopTodo (c : Code) (td : List Item) : List Item :=
  match c with
  | .loop b => .code b :: .inLoop b :: td
  | c => .code c :: td

def EnvR (x : Cx) (e : Env) (a : Act) : Prop := ∀ t, RV x (get e t) (a.tmps.getD t undef)

structure SR (x : Cx) (w0 : World) (fz0 : Nat → Prop) (nt : Nat) (st : St) (a : Act) (w : World) : Prop where
  hp : x.hp = w.heap
  H : x.H = st.heap
  env : EnvR x st.env a
  size : a.tmps.size = nt
  defers : a.defers = []
  hr : HR x w0.heap.size
  fz : ∀ b, x.fz b → fz0 b ∨ w0.heap.size ≤ b
  bel : Below w0.heap.size w0 w

/-- The calls that wait. -/
inductive FrsR (C : Ctx) (f0 : Nat) (x : Cx) : List Fr → List Frame → Nat → Prop
  | nil : FrsR C f0 x [] [] f0
  | cons (fr : Fr) (stk : List Fr) (fs : List Frame) (f : Nat) (fn : Func) (body : Code) (a : Act) (id : Nat) (ops : Array Oper) (draw : Bool) (o : Oper) : C.fn fr.f = some fn → fn.body = some body →
      codeAt body fr.path = some (.region id ops draw) → ops[fr.op]? = some o → EnvR x fr.env a → a.defers = [] → a.tmps.size = fn.ntmps → (∀ d, o.dst = some d → d < fn.ntmps) →
      FrsR C f0 x stk fs fr.f → FrsR C f0 x (fr :: stk) (mk fr.f a (.inRegion ops (fr.op :: fr.rest) :: ctxOf body fr.path) :: fs) f

section
variable {P : Program} {C : Ctx}

def stkToks (stk : List Fr) : List Nat := stk.flatMap fun fr => envToks fr.env

theorem EnvR.mono {x x' : Cx} {S : Nat → Prop} (E : Ext x x' S) {e : Env} {a : Act} (h : EnvR x e a) (hS : ∀ T ∈ envToks e, S T) : EnvR x' e a :=
  fun t => RV.mono E (h t) fun T hT => hS T (toks_get e t T hT)

theorem FrsR.mono {x x' : Cx} {S : Nat → Prop} (E : Ext x x' S) {f0 f : Nat} {stk : List Fr} {fs : List Frame} (h : FrsR C f0 x stk fs f) (hS : ∀ T ∈ stkToks stk, S T) : FrsR C f0 x' stk fs f := by
  induction h with
  | nil => exact .nil
  | cons fr stk fs f fn body a id ops draw o h1 h2 h3 h4 h5 h6 h7 h8 h9 ih =>
    exact .cons fr stk fs f fn body a id ops draw o h1 h2 h3 h4 (h5.mono E fun T hT => hS T (by simp [stkToks, hT])) h6 h7 h8 (ih fun T hT => hS T (by
      simp only [stkToks, List.flatMap_cons, List.mem_append] at hT ⊢; exact .inr hT))

theorem put_env {x : Cx} {e : Env} {a : Act} (h : EnvR x e a) {d : Nat} {v : AV} {u : Value} (hv : RV x v u) (hd : d < a.tmps.size) : EnvR x (put e d v) (a.put (some d) u) := by
  intro t
  rw [get_put]
  simp only [Act.put]
  by_cases ht : t = d
  · subst ht
    rw [if_pos rfl]
    have : (a.tmps.setIfInBounds t u).getD t undef = u := by simp [Array.getD, hd]
    rw [this]; exact hv
  · rw [if_neg ht]
    have : (a.tmps.setIfInBounds d u).getD t undef = a.tmps.getD t undef := by
      simp only [Array.getD_eq_getD_getElem?]
      rw [Array.getElem?_setIfInBounds_ne (Ne.symm ht)]
    rw [this]; exact h t

theorem putO_env {x : Cx} {e : Env} {a : Act} (h : EnvR x e a) {d : Option Nat} {v : AV} {u : Value} (hv : RV x v u) (hd : ∀ t, d = some t → t < a.tmps.size) : EnvR x (putO e d v) (a.put d u) := by
  cases d with
  | none => exact h
  | some d => exact put_env h hv (hd d rfl)

theorem put_size (a : Act) (d : Option Nat) (u : Value) : (a.put d u).tmps.size = a.tmps.size := by cases d <;> simp [Act.put]
theorem put_defers (a : Act) (d : Option Nat) (u : Value) : (a.put d u).defers = a.defers := by cases d <;> rfl

/-- What is known of a slot is said of the machine alone. -/
theorem known_env {x : Cx} {e : Env} {a : Act} (h : EnvR x e a) {d : Nat} {v : AV} (hv : RV x v (a.tmps.getD d undef)) : EnvR x (put e d v) a := by
  intro t
  rw [get_put]
  by_cases ht : t = d
  · subst ht; rw [if_pos rfl]; exact hv
  · rw [if_neg ht]; exact h t

/-! ### tokens that are not named -/
theorem fresh_list {l : List Nat} {tok : Nat} (h : l.all (fun T => Nat.blt T tok || Nat.ble (tok + 16) T) = true) : ∀ T ∈ l, ¬ InB tok T := by
  intro T hT
  have := List.all_eq_true.1 h T hT
  simp only [Bool.or_eq_true] at this
  rintro ⟨h1, h2⟩
  rcases this with h | h
  · have := Nat.le_of_ble_eq_true h; omega
  · have := Nat.le_of_ble_eq_true h; omega

theorem freshAt_ok {stk : List Fr} {st : St} {tok : Nat} (h : freshAt stk st tok = true) : (∀ T ∈ envToks st.env, ¬ InB tok T) ∧ (∀ T ∈ heapToks st.heap, ¬ InB tok T) ∧ ∀ T ∈ stkToks stk, ¬ InB tok T := by
  unfold freshAt at h
  simp only [Bool.and_eq_true] at h
  obtain ⟨h1, h2, h3⟩ := h
  refine ⟨fresh_list h1, fresh_list h2, fun T hT => ?_⟩
  simp only [stkToks, List.mem_flatMap] at hT
  obtain ⟨fr, hfr, hT⟩ := hT
  exact fresh_list (List.all_eq_true.1 h3 fr hfr) T hT

theorem exists_fresh (l : List Nat) : ∃ tok, ∀ T ∈ l, ¬ InB tok T := by
  have : ∃ m, ∀ T ∈ l, T ≤ m := by
    induction l with
    | nil => exact ⟨0, fun T h => by cases h⟩
    | cons a l ih =>
      obtain ⟨m, hm⟩ := ih
      refine ⟨max a m, fun T hT => ?_⟩
      rcases List.mem_cons.1 hT with rfl | h
      · omega
      · have := hm T h; omega
  obtain ⟨m, hm⟩ := this
  exact ⟨m + 1, fun T hT => by have := hm T hT; rintro ⟨h1, _⟩; omega⟩

/-- An operation that makes no token does not ask for one. -/
theorem plainOp_tok (e : Env) (h : Heap) (tok tok' : Nat) (op : Op) (hm : makes C op = false) : plainOp C e h tok op = plainOp C e h tok' op := by
  cases op with
  | alloc t => simp [makes] at hm
  | box t y => simp [makes] at hm
  | buildSlice t n ps => simp [makes] at hm
  | makeSlice t n c => simp [makes] at hm
  | convert s d y =>
    simp only [makes] at hm
    simp only [plainOp]
    unfold convert
    cases hd : C.ti d with
    | none => rfl
    | some ti =>
      cases hs : C.ti s with
      | none => rfl
      | some ts =>
        simp only
        split <;> first
          | rfl
          | (rename_i e' s' hse _
             cases he : C.ti e' with
             | none => rfl
             | some te => simp [eltSz, hd, hse, he] at hm)
  | call c =>
    obtain ⟨callee, args, argTypes⟩ := c
    cases callee with
    | builtin b =>
      simp only [plainOp]
      generalize args.toList.map (ev e) = l
      cases b <;> first
        | (simp [makes] at hm; done)
        | (rcases l with _ | ⟨y, _ | ⟨z, _ | ⟨u, l⟩⟩⟩ <;> rfl)
    | _ => rfl
  | makeFunc fn first caps => cases fn <;> rfl
  | _ => rfl

/-! ### the model's steps -/
theorem finish_mk (f : FuncId) (a : Act) (ops : Array Oper) (i : Nat) (rest : List Nat) (td : List Item) (v : Value) {o : Oper} (ho : ops[i]? = some o) :
    (mk f a (.inRegion ops (i :: rest) :: td)).finish v = mk f (a.put o.dst v) (.inRegion ops rest :: td) := by
  unfold mk
  rw [Frame.finish_at, ho]; rfl

theorem step_val {f : FuncId} {a : Act} {ops : Array Oper} {i : Nat} {rest : List Nat} {td : List Item} {cs : List Frame} {w w' : World} {o : Oper} {nx : Go.Next} {v : Value} (ho : ops[i]? = some o)
    (hw : Region.wanted o (yielded ops a.tmps) = true) (hrun : (execOp a.eval o).run P w = .ok nx w') (hnx : nx = .value v ∨ (nx = .skip ∧ v = undef)) :
    step P (lone (mk f a (.inRegion ops (i :: rest) :: td)) cs w) = .next (lone (mk f (a.put o.dst v) (.inRegion ops rest :: td)) cs w') := by
  have hg := stepG_op (P := P) (b := ({ (default : Frame) with fn := f, kind := .normal } : Frame)) (k := td) (cs := cs) (w := w) (rest := rest) ho hw
  rw [← finish_mk f a ops i rest td v ho]
  unfold mk
  refine step_lone_go ?_
  rw [hg]
  rcases hnx with rfl | ⟨rfl, rfl⟩ <;> simp [stepG.apply, hrun]

theorem step_enter {f : FuncId} {a : Act} {ops : Array Oper} {i : Nat} {rest : List Nat} {td : List Item} {cs : List Frame} {w w' : World} {o : Oper} {g : FuncId} {args : Array Value} (ho : ops[i]? = some o)
    (hw : Region.wanted o (yielded ops a.tmps) = true) (hrun : (execOp a.eval o).run P w = .ok (.enter g args) w') :
    step P (lone (mk f a (.inRegion ops (i :: rest) :: td)) cs w) = .next (lone (Frame.enter P g args .normal) (mk f a (.inRegion ops (i :: rest) :: td) :: cs) w') := by
  have hg := stepG_op (P := P) (b := ({ (default : Frame) with fn := f, kind := .normal } : Frame)) (k := td) (cs := cs) (w := w) (rest := rest) ho hw
  unfold mk
  refine step_lone_go ?_
  rw [hg]
  simp [stepG.apply, hrun, Frame.at]

theorem step_skipped {f : FuncId} {a : Act} {ops : Array Oper} {i : Nat} {rest : List Nat} {td : List Item} {cs : List Frame} {w : World} {o : Oper} (ho : ops[i]? = some o)
    (hw : Region.wanted o (yielded ops a.tmps) = false) :
    step P (lone (mk f a (.inRegion ops (i :: rest) :: td)) cs w) = .next (lone (mk f (a.put o.dst undef) (.inRegion ops rest :: td)) cs w) := by
  have := step_op_skip (P := P) (b := ({ (default : Frame) with fn := f, kind := .normal } : Frame)) (a := a) (k := td) (cs := cs) (w := w) (ops := ops) (i := i) (rest := rest) (by simp [ho, hw])
  unfold mk
  rw [this, ho]; rfl

/-- A call of a function value. -/
theorem run_call (hC : CtxOk P C) {a : Act} {w : World} {dst : Option Tmp} {fo : Operand} {args : Array Operand} {ats : Array TypeId} {type : TypeId} {pos : String} {after : Array Edge} {guard : Option (Nat × Bool)}
    {g : Nat} {first caps : List Value} (hf : a.eval fo = .func (.func g) first.toArray caps.toArray) {fn : Func} (hfn : C.fn g = some fn) :
    (execOp a.eval ⟨dst, .call ⟨.value fo, args, ats⟩, type, pos, after, guard⟩).run P w = .ok (.enter g (first ++ args.toList.map a.eval ++ caps).toArray) w := by
  obtain ⟨h1, h2, h3⟩ := hC.fn g fn hfn
  have hb : fn.body.isNone = false := by cases hb : fn.body <;> simp [hb] at h2 ⊢
  have e : first.toArray ++ args.map a.eval ++ caps.toArray = (first ++ args.toList.map a.eval ++ caps).toArray := by
    apply Array.ext'; simp
  simp only [execOp, resolve, hf, Deferred.ofValue, invoke, callFunc, Sem.run_bind, Sem.run_pure, Result.andThen_ok, run_program, h1, h3, hb]
  simp [e]

end
end Go.Proofs.YtcdcijhfjiahkaaDoorR.K
