/- Part 3 of the proof: the machine, the tables and the pure laws that the last text joins. -/
import Derived.Test.YtpdfjgooaaailaaGreatDoorZ2
import Derived.RangeFuncKeeps
set_option linter.unusedVariables false
set_option linter.unusedSimpArgs false
namespace Go.Proofs.YtpdfjgooaaailaaGreatDoor.K
open Go
open Go.RowKit (Below)
def ctxOf (body : Code) : Path → List Item
  | [] => []
  | d :: p => match codeAt body p with
    | none => []
    | some x => match x, d with
      | .seq _ b, 0 => .code b :: ctxOf body p
      | .block id _, 0 => .inBlock id :: ctxOf body p
      | .loop b, 0 => .inLoop b :: ctxOf body p
      | .scope b, _ => .inScope b :: ctxOf body p
      | .rangeFunc _ _ _ b, 0 => [.beginRound, .code b]
      | .rangeFunc _ _ _ _, _ => []
      | _, _ => ctxOf body p
def rnd (body : Code) : Path → Bool
  | [] => false
  | _ :: p => match codeAt body p with
    | some (.rangeFunc _ _ _ _) => true
    | _ => rnd body p
def stopTodo (c : Code) (td : List Item) : List Item :=
  match c with
  | .loop b => .code b :: .inLoop b :: td
  | c => .code c :: td
def EnvR (x : Cx) (e : Env) (a : Act) : Prop := ∀ t, RV x (get e t) (a.tmps.getD t undef)
structure SR (x : Cx) (w0 : World) (fz0 : Lay) (nt : Nat) (st : St) (a : Act) (w : World) : Prop where
  hp : x.hp = w.heap
  H : x.H = st.heap
  env : EnvR x st.env a
  size : a.tmps.size = nt
  defers : a.defers = []
  hr : HR x fz0.own
  fz : ∀ b, x.fz b → fz0.fz b ∨ fz0.own b
  bel : Bel fz0.own w0 w
  new : ∀ k, w0.heap.size ≤ k → fz0.own k
inductive MarksR (x : Cx) (n0 : Nat → Prop) : List Nat → Prop
  | nil : MarksR x n0 []
  | cons (r : Nat) (ms : List Nat) : x.fz r → n0 r → x.hp[r]? = some (.deferred (some [])) → r ∉ ms → MarksR x n0 ms → MarksR x n0 (r :: ms)
def jumpOf : Ex → Option Code
  | .normal => none
  | .ret => some .ret
  | .exit id => some (.exit id)
  | .goto l => some (.goto l)
def lsState : LSt → LoopState
  | .ready => .ready
  | .busy => .busy
  | .done .normal => .ready
  | .done _ => .done
def lsJump : LSt → Option Code
  | .done e => jumpOf e
  | _ => none
structure WaitR (C : Ctx) (x : Cx) (fr : Fr) (F : Frame) (xt : Xt) (fn : Func) (body : Code) (a : Act) (id : Nat) (ops : Array Oper) (draw : Bool) (o : Oper) : Prop where
  hfn : C.fn fr.f = some fn
  hbody : fn.body = some body
  hcode : codeAt body fr.path = some (.region id ops draw)
  hop : ops[fr.op]? = some o
  env : EnvR x fr.env a
  defers : a.defers = []
  size : a.tmps.size = fn.ntmps
  hdst : ∀ d, o.dst = some d → d < fn.ntmps
  hrd : rnd body fr.path = xt.1.isSome
  eq : F = mk xt fr.f a (.inRegion ops (fr.op :: fr.rest) :: ctxOf body fr.path)
def recOf (ls : LSt) (f : Nat) (a : Act) (ps : Array Tmp) (asg b : Code) (d : Nat) : Loop := { state := lsState ls, pending := lsJump ls, fn := f, tmps := a.tmps, params := ps, assign := asg, body := b, defers := d }
def IoR (x : Cx) (b0 : Nat) : Prop := ∀ cs, hget x.H ioTok = some (.box cs) → x.m ioTok = some (b0, 0)
structure LoopR (C : Ctx) (L : Lay) (x : Cx) (lf : Fr) (F : Frame) (l : Nat) (fn : Func) (body : Code) (a : Act) (ms : List Nat) (g : Operand) (ps : Array Tmp) (asg b : Code) (d : Nat) : Prop where
  hfn : C.fn lf.f = some fn
  hbody : fn.body = some body
  hcode : codeAt body lf.path = some (.rangeFunc g ps asg b)
  hrd : rnd body lf.path = false
  env : EnvR x lf.env a
  defers : a.defers = []
  size : a.tmps.size = fn.ntmps
  marks : MarksR x L.own ms
  eq : F = mk (none, ms) lf.f a (.inRangeFunc l :: ctxOf body lf.path)
  tok : yTok ∈ envToks lf.env
  lp : x.lp = some l
  fz : x.fz l
  n0 : L.own l
  io : IoR x L.io
  hp : x.hp[l]? = some (.loop (recOf lf.ls lf.f a ps asg b d))
inductive FrsR (C : Ctx) (f0 : Nat) (L : Lay) (x : Cx) : List Fr → List Frame → Nat → Xt → Prop
  | nil (ms : List Nat) : MarksR x L.own ms → IoR x L.io → FrsR C f0 L x [] [] f0 (none, ms)
  | cons (fr : Fr) (stk : List Fr) (F : Frame) (fs : List Frame) (f : Nat) (xt : Xt) (fn : Func) (body : Code) (a : Act) (id : Nat) (ops : Array Oper) (draw : Bool) (o : Oper) : WaitR C x fr F xt fn body a id ops draw o →
      FrsR C f0 L x stk fs fr.f xt → FrsR C f0 L x (fr :: stk) (F :: fs) f (none, [])
  | loop (lf : Fr) (F : Frame) (f l : Nat) (fn : Func) (body : Code) (a : Act) (ms : List Nat) (g : Operand) (ps : Array Tmp) (asg b : Code) (d : Nat) : LoopR C L x lf F l fn body a ms g ps asg b d → lf.f = f0 →
      FrsR C f0 L x [lf] [F] f (none, [])
  | round (it lf : Fr) (G F : Frame) (l : Nat) (ifn : Func) (ibody : Code) (ai : Act) (id : Nat) (ops : Array Oper) (draw : Bool) (o : Oper) (fn : Func) (body : Code) (a : Act) (ms : List Nat) (g : Operand) (ps : Array Tmp) (asg b : Code) (d : Nat) :
      WaitR C x it G (none, []) ifn ibody ai id ops draw o → LoopR C L x lf F l fn body a ms g ps asg b d → lf.f = f0 → FrsR C f0 L x [it, lf] [G, F] lf.f (some l, [])
section
variable {P : Program} {C : Ctx}
def stkToks (stk : List Fr) : List Nat := ioTok :: stk.flatMap fun fr => envToks fr.env
theorem EnvR.mono {x x' : Cx} {S : Nat → Prop} (E : Ext x x' S) {e : Env} {a : Act} (h : EnvR x e a) (hS : ∀ T ∈ envToks e, S T) : EnvR x' e a :=
  fun t => RV.mono E (h t) fun T hT => hS T (toks_get e t T hT)
theorem FrsR.none {f0 : Nat} {L : Lay} {f : Nat} {x : Cx} {fs : List Frame} {xt : Xt} (h : FrsR C f0 L x [] fs f xt) : ∃ ms, xt = (none, ms) ∧ f = f0 ∧ fs = [] ∧ MarksR x L.own ms ∧ IoR x L.io := by
  cases h with
  | nil ms hM hI => exact ⟨ms, rfl, rfl, rfl, hM, hI⟩
theorem MarksR.mono {x x' : Cx} {S : Nat → Prop} (E : Ext x x' S) {n0 : Nat → Prop} {ms : List Nat} (h : MarksR x n0 ms) : MarksR x' n0 ms := by
  induction h with
  | nil => exact .nil
  | cons r ms h1 h2 h3 h4 _ ih => exact .cons r ms (E.fz r h1).1 h2 ((E.fz r h1).2.trans h3) h4 ih
theorem WaitR.mono {x x' : Cx} {S : Nat → Prop} (E : Ext x x' S) {fr : Fr} {F : Frame} {xt : Xt} {fn : Func} {body : Code} {a : Act} {id : Nat} {ops : Array Oper} {draw : Bool} {o : Oper} (h : WaitR C x fr F xt fn body a id ops draw o) (hS : ∀ T ∈ envToks fr.env, S T) :
    WaitR C x' fr F xt fn body a id ops draw o := { h with env := h.env.mono E hS }
theorem IoR.mono {x x' : Cx} {S : Nat → Prop} (E : Ext x x' S) {b0 : Nat} (h : IoR x b0) (hS : S ioTok) : IoR x' b0 := fun cs hc => by
  obtain ⟨cs', h1, h2⟩ := E.box ioTok hS cs hc
  exact h2.trans (h cs' h1)
theorem LoopR.mono {x x' : Cx} {S : Nat → Prop} (E : Ext x x' S) {L : Lay} {lf : Fr} {F : Frame} {l : Nat} {fn : Func} {body : Code} {a : Act} {ms : List Nat} {g : Operand} {ps : Array Tmp} {asg b : Code} {d : Nat} (h : LoopR C L x lf F l fn body a ms g ps asg b d) (hS : ∀ T ∈ envToks lf.env, S T) (hI : S ioTok) :
    LoopR C L x' lf F l fn body a ms g ps asg b d :=
  { h with env := h.env.mono E hS, marks := h.marks.mono E, lp := (E.lp (hS _ h.tok)).trans h.lp, fz := (E.fz l h.fz).1, hp := (E.fz l h.fz).2.trans h.hp, io := h.io.mono E hI }
theorem FrsR.mono {x x' : Cx} {S : Nat → Prop} (E : Ext x x' S) {f0 : Nat} {L : Lay} {f : Nat} {xt : Xt} {stk : List Fr} {fs : List Frame} (h : FrsR C f0 L x stk fs f xt) (hS : ∀ T ∈ stkToks stk, S T) : FrsR C f0 L x' stk fs f xt := by
  induction h with
  | nil ms h hI => exact .nil ms (h.mono E) (hI.mono E (hS _ (by simp [stkToks])))
  | cons fr stk F fs f xt fn body a id ops draw o h1 _ ih =>
    exact .cons fr stk F fs f xt fn body a id ops draw o (h1.mono E fun T hT => hS T (by simp [stkToks, hT])) (ih fun T hT => hS T (by
      simp only [stkToks, List.flatMap_cons, List.mem_append, List.mem_cons] at hT ⊢; exact hT.elim .inl fun h => .inr (.inr h)))
  | loop lf F f l fn body a ms g ps asg b d h1 h2 => exact .loop lf F f l fn body a ms g ps asg b d (h1.mono E (fun T hT => hS T (by simp [stkToks, hT])) (hS _ (by simp [stkToks]))) h2
  | round it lf G F l ifn ibody ai id ops draw o fn body a ms g ps asg b d h1 h2 h3 =>
    exact .round it lf G F l ifn ibody ai id ops draw o fn body a ms g ps asg b d (h1.mono E fun T hT => hS T (by simp [stkToks, hT])) (h2.mono E (fun T hT => hS T (by simp [stkToks, hT])) (hS _ (by simp [stkToks]))) h3
theorem put_env {x : Cx} {e : Env} {a : Act} (h : EnvR x e a) {d : Nat} {v : AV} {u : Value} (hv : RV x v u) (hd : d < a.tmps.size) : EnvR x (put e d v) (a.put (some d) u) := by
  intro t
  rw [get_put]
  simp only [Act.put]
  by_cases ht : t = d
  · subst ht
    rw [if_pos rfl]
    have : (a.tmps.setIfInBounds t u).getD t undef = u := by simp [Array.getD, hd]
    rw [this]; exact hv
  · rw [if_neg ht]
    have : (a.tmps.setIfInBounds d u).getD t undef = a.tmps.getD t undef := by
      simp only [Array.getD_eq_getD_getElem?]
      rw [Array.getElem?_setIfInBounds_ne (Ne.symm ht)]
    rw [this]; exact h t
theorem putO_env {x : Cx} {e : Env} {a : Act} (h : EnvR x e a) {d : Option Nat} {v : AV} {u : Value} (hv : RV x v u) (hd : ∀ t, d = some t → t < a.tmps.size) : EnvR x (putO e d v) (a.put d u) := by
  cases d with
  | none => exact h
  | some d => exact put_env h hv (hd d rfl)
theorem put_size (a : Act) (d : Option Nat) (u : Value) : (a.put d u).tmps.size = a.tmps.size := by cases d <;> simp [Act.put]
theorem put_defers (a : Act) (d : Option Nat) (u : Value) : (a.put d u).defers = a.defers := by cases d <;> rfl
theorem known_env {x : Cx} {e : Env} {a : Act} (h : EnvR x e a) {d : Nat} {v : AV} (hv : RV x v (a.tmps.getD d undef)) : EnvR x (put e d v) a := by
  intro t
  rw [get_put]
  by_cases ht : t = d
  · subst ht; rw [if_pos rfl]; exact hv
  · rw [if_neg ht]; exact h t
theorem fresh_list {l : List Nat} {tok : Nat} (h : l.all (fun T => Nat.blt T tok || Nat.ble (tok + 16) T) = true) : ∀ T ∈ l, ¬ InB tok T := by
  intro T hT
  have := List.all_eq_true.1 h T hT
  simp only [Bool.or_eq_true] at this
  rintro ⟨h1, h2⟩
  rcases this with h | h
  · have := Nat.le_of_ble_eq_true h; omega
  · have := Nat.le_of_ble_eq_true h; omega
theorem freshAt_ok {stk : List Fr} {st : St} {tok : Nat} (h : freshAt stk st tok = true) : (∀ T ∈ envToks st.env, ¬ InB tok T) ∧ (∀ T ∈ heapToks st.heap, ¬ InB tok T) ∧ ∀ T ∈ stkToks stk, ¬ InB tok T := by
  unfold freshAt at h
  simp only [Bool.and_eq_true] at h
  obtain ⟨h1, h2, h4, h3⟩ := h
  refine ⟨fresh_list h1, fresh_list h2, fun T hT => ?_⟩
  simp only [stkToks, List.mem_cons, List.mem_flatMap] at hT
  rcases hT with rfl | ⟨fr, hfr, hT⟩
  · exact fresh_list (l := [ioTok]) (by simpa using h4) _ (by simp)
  exact fresh_list (List.all_eq_true.1 h3 fr hfr) T hT
theorem exists_fresh (l : List Nat) : ∃ tok, ∀ T ∈ l, ¬ InB tok T := by
  have : ∃ m, ∀ T ∈ l, T ≤ m := by
    induction l with
    | nil => exact ⟨0, fun T h => by cases h⟩
    | cons a l ih =>
      obtain ⟨m, hm⟩ := ih
      refine ⟨max a m, fun T hT => ?_⟩
      rcases List.mem_cons.1 hT with rfl | h
      · omega
      · have := hm T h; omega
  obtain ⟨m, hm⟩ := this
  exact ⟨m + 1, fun T hT => by have := hm T hT; rintro ⟨h1, _⟩; omega⟩
theorem plainOp_tok (e : Env) (h : Heap) (tok tok' : Nat) (op : Op) (hm : makes C op = false) : plainOp C e h tok op = plainOp C e h tok' op := by
  cases op with
  | alloc t => simp [makes] at hm
  | box t y => simp [makes] at hm
  | buildSlice t n ps => simp [makes] at hm
  | makeSlice t n c => simp [makes] at hm
  | convert s d y =>
    simp only [makes] at hm
    simp only [plainOp]
    unfold convert
    cases hd : C.ti d with
    | none => rfl
    | some ti =>
      cases hs : C.ti s with
      | none => rfl
      | some ts =>
        simp only
        split <;> first
          | rfl
          | (rename_i e' s' hse _
             cases he : C.ti e' with
             | none => rfl
             | some te => simp [eltSz, hd, hse, he] at hm)
  | call c =>
    obtain ⟨callee, args, argTypes⟩ := c
    cases callee with
    | builtin b =>
      simp only [plainOp]
      generalize args.toList.map (ev e) = l
      cases b <;> first
        | (simp [makes] at hm; done)
        | (rcases l with _ | ⟨y, _ | ⟨z, _ | ⟨u, l⟩⟩⟩ <;> rfl)
    | _ => rfl
  | makeFunc fn first caps => cases fn <;> rfl
  | _ => rfl
theorem finish_mk (xt : Xt) (f : FuncId) (a : Act) (ops : Array Oper) (i : Nat) (rest : List Nat) (td : List Item) (v : Value) {o : Oper} (ho : ops[i]? = some o) :
    (mk xt f a (.inRegion ops (i :: rest) :: td)).finish v = mk xt f (a.put o.dst v) (.inRegion ops rest :: td) := by
  unfold mk
  rw [Frame.finish_atR, ho, am_put]; rfl
theorem step_val {xt : Xt} {f : FuncId} {a : Act} {ops : Array Oper} {i : Nat} {rest : List Nat} {td : List Item} {cs : List Frame} {w w' : World} {o : Oper} {nx : Go.Next} {v : Value} (ho : ops[i]? = some o)
    (hw : Region.wanted o (yielded ops a.tmps) = true) (hnd : ∀ c, o.op ≠ .defer c) (hrun : (execOp a.eval o).run P w = .ok nx w') (hnx : nx = .value v ∨ (nx = .skip ∧ v = undef)) :
    step P (lone (mk xt f a (.inRegion ops (i :: rest) :: td)) cs w) = .next (lone (mk xt f (a.put o.dst v) (.inRegion ops rest :: td)) cs w') := by
  have hg := stepGR_op (P := P) (b := fk xt f) (a := am xt a) (k := td) (cs := cs) (w := w) (rest := rest) ho hw
  rw [Oper.semAt_eq _ _ _ hnd, am_eval] at hg
  rw [← finish_mk xt f a ops i rest td v ho]
  unfold mk
  refine step_lone_go ?_
  rw [hg]
  rcases hnx with rfl | ⟨rfl, rfl⟩ <;> simp [stepG.apply, hrun]
theorem step_enter {xt : Xt} {f : FuncId} {a : Act} {ops : Array Oper} {i : Nat} {rest : List Nat} {td : List Item} {cs : List Frame} {w w' : World} {o : Oper} {g : FuncId} {args : Array Value} (ho : ops[i]? = some o)
    (hw : Region.wanted o (yielded ops a.tmps) = true) (hnd : ∀ c, o.op ≠ .defer c) (hrun : (execOp a.eval o).run P w = .ok (.enter g args) w') :
    step P (lone (mk xt f a (.inRegion ops (i :: rest) :: td)) cs w) = .next (lone (Frame.enter P g args .normal) (mk xt f a (.inRegion ops (i :: rest) :: td) :: cs) w') := by
  have hg := stepGR_op (P := P) (b := fk xt f) (a := am xt a) (k := td) (cs := cs) (w := w) (rest := rest) ho hw
  rw [Oper.semAt_eq _ _ _ hnd, am_eval] at hg
  unfold mk
  refine step_lone_go ?_
  rw [hg]
  simp [stepG.apply, hrun, Frame.atR]
theorem step_round {xt : Xt} {f : FuncId} {a : Act} {ops : Array Oper} {i : Nat} {rest : List Nat} {td : List Item} {cs : List Frame} {w w' : World} {o : Oper} {l g : Nat} {tmps : Array Value} {asg b : Code} (ho : ops[i]? = some o)
    (hw : Region.wanted o (yielded ops a.tmps) = true) (hnd : ∀ c, o.op ≠ .defer c) (hrun : (execOp a.eval o).run P w = .ok (.round l g tmps asg b) w') :
    step P (lone (mk xt f a (.inRegion ops (i :: rest) :: td)) cs w) = .next (lone (mk (some l, []) g { tmps := tmps, defers := [] } [.code asg, .beginRound, .code b]) (mk xt f a (.inRegion ops (i :: rest) :: td) :: cs) w') := by
  have hg := stepGR_op (P := P) (b := fk xt f) (a := am xt a) (k := td) (cs := cs) (w := w) (rest := rest) ho hw
  rw [Oper.semAt_eq _ _ _ hnd, am_eval] at hg
  have e : mk (some l, []) g { tmps := tmps, defers := [] } [.code asg, .beginRound, .code b] = Frame.round l g tmps asg b .normal := by
    simp [Frame.round, mk, Frame.atR, fk, am, marksD]
  rw [e]
  unfold mk
  refine step_lone_go ?_
  rw [hg]
  simp [stepG.apply, hrun, Frame.atR]
theorem step_skipped {xt : Xt} {f : FuncId} {a : Act} {ops : Array Oper} {i : Nat} {rest : List Nat} {td : List Item} {cs : List Frame} {w : World} {o : Oper} (ho : ops[i]? = some o)
    (hw : Region.wanted o (yielded ops a.tmps) = false) :
    step P (lone (mk xt f a (.inRegion ops (i :: rest) :: td)) cs w) = .next (lone (mk xt f (a.put o.dst undef) (.inRegion ops rest :: td)) cs w) := by
  have := stepR_op_skip (P := P) (b := fk xt f) (a := am xt a) (k := td) (cs := cs) (w := w) (ops := ops) (i := i) (rest := rest) (by simp [ho, am, hw])
  unfold mk
  rw [this, ho, am_put]; rfl
theorem run_call (hC : CtxOk P C) {a : Act} {w : World} {dst : Option Tmp} {fo : Operand} {args : Array Operand} {ats : Array TypeId} {type : TypeId} {pos : String} {after : Array Edge} {guard : Option (Nat × Bool)}
    {g : Nat} {first caps : List Value} (hf : a.eval fo = .func (.func g) first.toArray caps.toArray) {fn : Func} (hfn : C.fn g = some fn) :
    (execOp a.eval ⟨dst, .call ⟨.value fo, args, ats⟩, type, pos, after, guard⟩).run P w = .ok (.enter g (first ++ args.toList.map a.eval ++ caps).toArray) w := by
  obtain ⟨h1, h2, h3⟩ := hC.fn g fn hfn
  have hb : fn.body.isNone = false := by cases hb : fn.body <;> simp [hb] at h2 ⊢
  have e : first.toArray ++ args.map a.eval ++ caps.toArray = (first ++ args.toList.map a.eval ++ caps).toArray := by
    apply Array.ext'; simp
  simp only [execOp, resolve, hf, Deferred.ofValue, invoke, callFunc, Sem.run_bind, Sem.run_pure, Result.andThen_ok, run_program, h1, h3, hb]
  simp [e]
theorem run_yielded {a : Act} {w : World} {dst : Option Tmp} {fo : Operand} {args : Array Operand} {ats : Array TypeId} {type : TypeId} {pos : String} {after : Array Edge} {guard : Option (Nat × Bool)}
    {l : Nat} {r : Loop} (hf : a.eval fo = .func (.yield l) #[] #[]) (h : w.heap[l]? = some (.loop r)) (hs : args.size = r.params.size) :
    (execOp a.eval ⟨dst, .call ⟨.value fo, args, ats⟩, type, pos, after, guard⟩).run P w = .ok (.round l r.fn ((r.params.zip (args.map a.eval)).foldl (fun tmps (t, a) => tmps.setIfInBounds t a) r.tmps) r.assign r.body) w := by
  have := run_yield (P := P) (args := args.map a.eval) h (by simpa using hs)
  simp only [execOp, resolve, hf, Deferred.ofValue, invoke, Sem.run_bind, Sem.run_pure, Result.andThen_ok]
  simpa using this
theorem run_looped (hC : CtxOk P C) {a : Act} {w : World} {fo : Operand} {l : Nat} {g : Nat} {first caps : List Value} (hf : a.eval fo = .func (.func g) first.toArray caps.toArray) {fn : Func} (hfn : C.fn g = some fn) :
    ∃ d, (resolve a.eval (rangeCall fo l) 0).run P w = .ok d w ∧ (invoke d.target d.args).run P w = .ok (.enter g (first ++ [Value.func (.yield l) #[] #[]] ++ caps).toArray) w := by
  obtain ⟨h1, h2, h3⟩ := hC.fn g fn hfn
  have hb : fn.body.isNone = false := by cases hb : fn.body <;> simp [hb] at h2 ⊢
  have hy : a.eval (.const (.func (.yield l) #[] #[])) = .func (.yield l) #[] #[] := rfl
  have e : first.toArray ++ #[Value.func (.yield l) #[] #[]] ++ caps.toArray = (first ++ [Value.func (.yield l) #[] #[]] ++ caps).toArray := by
    apply Array.ext'; simp
  simp only [rangeCall, resolve, hf, Deferred.ofValue, Sem.run_bind, Sem.run_pure, Result.andThen_ok]
  refine ⟨_, rfl, ?_⟩
  simp only [invoke, callFunc, Sem.run_bind, Sem.run_pure, Result.andThen_ok, run_program, h1, h3, hb]
  simp [hy]
def SameC (hp hp' : Array Obj) : Prop := ∀ (b : Nat) c e fr, hp[b]? = some (Obj.cells c e fr) → hp'[b]? = some (Obj.cells c e fr)
theorem RowR.turnL {hp hp' : Array Obj} {ok : Nat → Prop} (H : SameC hp hp') {α : Type} {n : Nat} {R R' : α → List Value → Prop} (hRR : ∀ y vs, R y vs → R' y vs) {l : List α} {a : Option Addr} (h : RowR hp ok n R l a) : RowR hp' ok n R' l a := fun hl => by
  obtain ⟨b, o, c, e, fr, ha, hok, hb, hi⟩ := h hl
  exact ⟨b, o, c, e, fr, ha, hok, H b c e fr hb, fun i h => hRR _ _ (hi i h)⟩
theorem DeepC.turn {hp hp' : Array Obj} {ok : Nat → Prop} (H : SameC hp hp') : ∀ (t : Ty) (y : den t) (vs : List Value), DeepC hp ok t y vs → DeepC hp' ok t y vs
  | .unit, _, _, h => h
  | .bool, _, _, h => h
  | .int _, _, _, h => h
  | .str, _, _, h => h
  | .sl t, l, _, h => by
    obtain ⟨a, cap, rfl, hc, hr⟩ := h
    exact ⟨a, cap, rfl, hc, hr.turnL H fun y vs h => DeepC.turn H t y vs h⟩
  | .own t, l, _, h => by
    obtain ⟨a, cap, rfl, hc, hr⟩ := h
    exact ⟨a, cap, rfl, hc, hr.turnL H fun y vs h => DeepC.turn H t y vs h⟩
  | .pair a b, y, _, h => by
    obtain ⟨v1, v2, rfl, h1, h2⟩ := h
    exact ⟨v1, v2, rfl, DeepC.turn H a _ _ h1, DeepC.turn H b _ _ h2⟩
  | .one t, y, _, h => DeepC.turn (ok := ok) H t y _ h
  | .fn _, _, _, h => h
def turnCx (x : Cx) (hp' : Array Obj) : Cx := { x with hp := hp' }
theorem Place.turn {x : Cx} {hp' : Array Obj} (H : SameC x.hp hp') {tok : Nat} {t : Ty} {a : Option Addr} {off len cap : Nat} (h : Place x tok t a off len cap) : Place (turnCx x hp') tok t a off len cap := by
  rcases h with h | ⟨b, o, c, e, fr, h1, h2, h3, h4⟩
  · exact .inl h
  · exact .inr ⟨b, o, c, e, fr, h1, h2, H b c e fr h3, h4⟩
mutual
theorem RV.turn {x : Cx} {hp' : Array Obj} (H : SameC x.hp hp') : ∀ {v : AV} {w : Value}, RV x v w → RV (turnCx x hp') v w
  | _, _, .undef v => .undef v
  | _, _, .bool b => .bool b
  | _, _, .int k n => .int k n
  | _, _, .str s => .str s
  | _, _, .sl t l f a cap h1 h2 h3 => .sl t l f a cap h1 h2 (h3.turnL H fun y vs h => DeepC.turn H t y vs h)
  | _, _, .nilsl => .nilsl
  | _, _, .who tok f a n cap h => .who tok f a n cap fun t l' ha => by
    obtain ⟨h1, h2, h3, h4⟩ := h t l' ha
    exact ⟨h1, h2, h3, h4.turn H⟩
  | _, _, .ref tok off len f a cap h => .ref tok off len f a cap fun t l' ha => by
    obtain ⟨h1, h2, h3, h4⟩ := h t l' ha
    exact ⟨h1, h2, h3, h4.turn H⟩
  | _, _, .ptr tok off ad h => .ptr tok off ad h
  | _, _, .eptr tok i off ad h => .eptr tok i off ad h
  | _, _, .aptr tok off n t i ad hi h => .aptr tok off n t i ad hi h
  | _, _, .rptr t y off b o c e fr h1 h2 h3 => .rptr t y off b o c e fr h1 (H b c e fr h2) (DeepC.turn H t y _ h3)
  | _, _, .func f as bs vs us h1 h2 => .func f as bs vs us (RVL.turn H h1) (RVL.turn H h2)
  | _, _, .agg cs vs h => .agg cs vs (RVL.turn H h)
  | _, _, .tup cs vs h => .tup cs vs (RVL.turn H h)
  | _, _, .cst v => .cst v
  | _, _, .yld l h => .yld l h
  | _, _, .husk t n a cap => .husk t n a cap
  | _, _, .maybe b => .maybe b
theorem RVL.turn {x : Cx} {hp' : Array Obj} (H : SameC x.hp hp') : ∀ {v : List AV} {w : List Value}, RVL x v w → RVL (turnCx x hp') v w
  | _, _, .nil => .nil
  | _, _, .cons c v cs vs h1 h2 => .cons c v cs vs (RV.turn H h1) (RVL.turn H h2)
end
theorem HR.turn {x : Cx} {n0 : Nat → Prop} {hp' : Array Obj} (H : SameC x.hp hp') (hs : x.hp.size ≤ hp'.size) (h : HR x n0) : HR (turnCx x hp') n0 := by
  refine ⟨fun tok b hb => ?_, h.inj, fun b hb => Nat.lt_of_lt_of_le (h.size b hb) hs⟩
  have := h.blk tok b hb
  cases b with
  | arr t l =>
    rcases this with h | ⟨b, o, c, e, fr, h1, h2, h3, h4, h5, h6, h7⟩
    · exact .inl h
    · exact .inr ⟨b, o, c, e, fr, h1, H b c e fr h2, h3, h4, h5, h6, fun i hi => DeepC.turn H _ _ _ (h7 i hi)⟩
  | fro t l =>
    rcases this with h | ⟨b, o, c, e, fr, h1, h2, h3, h4, h5⟩
    · exact .inl h
    · exact .inr ⟨b, o, c, e, fr, h1, H b c e fr h2, h3, h4, fun i hi => DeepC.turn H _ _ _ (h5 i hi)⟩
  | box cs =>
    obtain ⟨b, c, e, fr, h1, h2, h3, h4, h5, h6, h7⟩ := this
    exact ⟨b, c, e, fr, h1, H b c e fr h2, h3, h4, h5, h6, RVL.turn H h7⟩
theorem EnvR.turn {x : Cx} {hp' : Array Obj} (H : SameC x.hp hp') {e : Env} {a : Act} (h : EnvR x e a) : EnvR (turnCx x hp') e a := fun t => (h t).turn H
theorem sameC_put {w : World} {l : Nat} {o o' : Obj} (h : w.heap[l]? = some o) (hc : o.isCells = false) : SameC w.heap (w.putObj l o').heap := by
  intro b c e fr hb
  have : b ≠ l := by
    rintro rfl
    rw [h] at hb
    cases hb
    simp [Obj.isCells] at hc
  rw [World.putObj_heap_other this]; exact hb
theorem below_put {n0 : Nat → Prop} {w : World} {l : Nat} {o o' : Obj} (hl : n0 l) (h : w.heap[l]? = some o) (hc : o.isCells = false) (hw : o.isWalk = false) : Bel n0 w (w.putObj l o') := by
  refine ⟨rfl, rfl, rfl, by simp [World.putObj], fun k hk => World.putObj_heap_other fun e => hk (e ▸ hl), fun b c e fr hb => ⟨c, e, fr, ?_, rfl⟩⟩
  have : b ≠ l := by
    rintro rfl
    rw [h] at hb
    cases hb
    simp [Obj.isCells] at hc
  rw [World.putObj_heap_other this]; exact hb
theorem SR.turn {x : Cx} {w0 : World} {fz0 : Lay} {nt : Nat} {st : St} {a : Act} {w : World} (h : SR x w0 fz0 nt st a w) {l : Nat} {o o' : Obj} (hl : fz0.own l) (ho : w.heap[l]? = some o) (hc : o.isCells = false) (hw : o.isWalk = false) :
    SR (turnCx x (w.putObj l o').heap) w0 fz0 nt st a (w.putObj l o') := by
  have H : SameC x.hp (w.putObj l o').heap := by rw [h.hp]; exact sameC_put ho hc
  exact ⟨rfl, h.H, h.env.turn H, h.size, h.defers, h.hr.turn H (by rw [h.hp]; simp), h.fz, h.bel.trans (below_put hl ho hc hw), h.new⟩
theorem WaitR.turn {x : Cx} {hp' : Array Obj} (H : SameC x.hp hp') {fr : Fr} {F : Frame} {xt : Xt} {fn : Func} {body : Code} {a : Act} {id : Nat} {ops : Array Oper} {draw : Bool} {o : Oper} (h : WaitR C x fr F xt fn body a id ops draw o) :
    WaitR C (turnCx x hp') fr F xt fn body a id ops draw o := { h with env := h.env.turn H }
theorem MarksR.turn {x : Cx} {n0 : Nat → Prop} {w : World} (hp : x.hp = w.heap) {ms : List Nat} (h : MarksR x n0 ms) {l : Nat} {o' : Obj} (hl : l ∉ ms) : MarksR (turnCx x (w.putObj l o').heap) n0 ms := by
  induction h with
  | nil => exact .nil
  | cons r ms h1 h2 h3 h4 _ ih =>
    simp only [List.mem_cons, not_or] at hl
    refine .cons r ms h1 h2 ?_ h4 (ih hl.2)
    show (w.putObj l o').heap[r]? = _
    rw [World.putObj_heap_other (Ne.symm hl.1), ← hp]; exact h3
theorem MarksR.at {x : Cx} {n0 : Nat → Prop} {ms : List Nat} (h : MarksR x n0 ms) : ∀ r ∈ ms, x.hp[r]? = some (.deferred (some [])) := by
  induction h with
  | nil => intro r hr; cases hr
  | cons r ms h1 h2 h3 h4 _ ih =>
    intro r' hr
    rcases List.mem_cons.1 hr with rfl | hr
    · exact h3
    · exact ih r' hr
theorem LoopR.turn {x : Cx} {L : Lay} {lf : Fr} {F : Frame} {l : Nat} {fn : Func} {body : Code} {a : Act} {ms : List Nat} {g : Operand} {ps : Array Tmp} {asg b : Code} {d : Nat} (h : LoopR C L x lf F l fn body a ms g ps asg b d) {w : World} (hp : x.hp = w.heap) (ls : LSt) :
    LoopR C L (turnCx x (w.putObj l (.loop (recOf ls lf.f a ps asg b d))).heap) { lf with ls := ls } F l fn body a ms g ps asg b d := by
  have hat : w.heap[l]? = some (.loop (recOf lf.ls lf.f a ps asg b d)) := by rw [← hp]; exact h.hp
  have H : SameC x.hp (w.putObj l (.loop (recOf ls lf.f a ps asg b d))).heap := by rw [hp]; exact sameC_put hat rfl
  refine { h with env := h.env.turn H, marks := h.marks.turn hp fun hm => ?_, hp := World.putObj_heap_same (lt_size hat) }
  have := h.marks.at l hm
  rw [h.hp] at this; cases this
end
end Go.Proofs.YtpdfjgooaaailaaGreatDoor.K
namespace Go.Proofs.YtpdfjgooaaailaaGreatDoor.K
open Go
open Go.RowKit (Below)
def StageOk (P : Program) {C : Ctx} (s : Sm C) : Prop :=
  ∀ inst stk f p st r, s.stage inst stk f p st = some r → ∀ (w0 : World) (fz0 : Lay) (x : Cx) (fs : List Frame) (xt : Xt) (a : Act) (w : World) (fn : Func) (body c : Code),
    LayOk w0 fz0 → (∀ w', Bel fz0.own w0 w' → C.inv w') → C.fn f = some fn → fn.body = some body → codeAt body p = some c → rnd body p = xt.1.isSome → SR x w0 fz0 fn.ntmps st a w → FrsR C (C.fid inst) fz0 x stk fs f xt →
    Fin P (RetE C w0 fz0 inst r) (C.fid inst) (mk xt f a (stopTodo c (ctxOf body p))) fs w
section
variable {P : Program} {C : Ctx} (hC : CtxOk P C) {s : Sm C} (hS : SpecOk P s) (hG : StageOk P s) {inst : Nat} {r : den (tyL (C.rts inst))} {w0 : World} {fz0 : Lay} (hfz0 : LayOk w0 fz0) (hinv : ∀ w', Bel fz0.own w0 w' → C.inv w')
theorem SR.n0 {x : Cx} {nt : Nat} {st : St} {a : Act} {w : World} (h : SR x w0 fz0 nt st a w) : ∀ k, w.heap.size ≤ k → fz0.own k := fun k hk => h.new k (Nat.le_trans h.bel.size hk)
theorem SR.next {x x' : Cx} {nt : Nat} {st : St} {a : Act} {w w' : World} {S : Nat → Prop} (h : SR x w0 fz0 nt st a w) (N : NxS x x' fz0.own S w w') (hS : ∀ T ∈ envToks st.env, S T) {dst : Option Nat}
    (hd : ∀ d, dst = some d → d < nt) {v : AV} {u : Value} (hv : RV x' v u) {H : Heap} (hH : x'.H = H) : SR x' w0 fz0 nt { st with env := putO st.env dst v, heap := H } (a.put dst u) w' :=
  ⟨N.hp, hH, putO_env (h.env.mono N.ext hS) hv (fun t ht => by rw [h.size]; exact hd t ht), by rw [put_size]; exact h.size, by rw [put_defers]; exact h.defers, N.hr,
    fun b hb => (N.fz b hb).elim (h.fz b) .inr, h.bel.trans N.bel, h.new⟩
theorem SR.next' {x x' : Cx} {nt : Nat} {st : St} {a : Act} {w w' : World} {S : Nat → Prop} (h : SR x w0 fz0 nt st a w) (N : NxS x x' fz0.own S w w') {e : Env} (he : EnvR x' e a) {dst : Option Nat}
    (hd : ∀ d, dst = some d → d < nt) {v : AV} {u : Value} (hv : RV x' v u) {H : Heap} (hH : x'.H = H) : SR x' w0 fz0 nt { st with env := putO e dst v, heap := H } (a.put dst u) w' :=
  ⟨N.hp, hH, putO_env he hv (fun t ht => by rw [h.size]; exact hd t ht), by rw [put_size]; exact h.size, by rw [put_defers]; exact h.defers, N.hr,
    fun b hb => (N.fz b hb).elim (h.fz b) .inr, h.bel.trans N.bel, h.new⟩
theorem die_RV {x x' : Cx} {h0 : Heap} (h : Heap) (hx : x.H = h0) {v : AV} {u : Value} (h1 : RV x v u) (h2 : RV x' v u) : RV x' (die h0 h v) u := by
  cases v with
  | who tok f =>
    simp only [die]
    split
    · exact h2
    · split
      · rename_i t l hl
        cases h1 with
        | who _ _ a n cap q =>
        have := (q t l (.inl (by rw [hx]; exact hl))).1
        subst this
        exact .husk _ _ _ _
      · exact h2
  | _ => exact h2
theorem get_map (g : AV → AV) (hg : g .undef = .undef) (e : Env) (t : Nat) : get (e.map fun p => (p.1, g p.2)) t = g (get e t) := by
  induction e with
  | nil => exact hg.symm
  | cons p e ih =>
    simp only [List.map_cons, get]
    split
    · rfl
    · exact ih
theorem envDie_env {x x' : Cx} {h0 : Heap} (op : Op) (h : Heap) (hx : x.H = h0) {e : Env} {a : Act} (h1 : EnvR x e a) (h2 : EnvR x' e a) : EnvR x' (envDie op h0 h e) a := by
  unfold envDie
  split
  · intro t
    rw [get_map (die h0 h) rfl]
    exact die_RV h hx (h1 t) (h2 t)
  · exact h2
theorem plain_step (hC : CtxOk P C) {x : Cx} {nt : Nat} {st : St} {a : Act} {w : World} {stk : List Fr} {fs : List Frame} {f : Nat} {xt : Xt} (h : SR x w0 fz0 nt st a w) (hF : FrsR C (C.fid inst) fz0 x stk fs f xt) {o : Oper} {tok : Nat} {c b : Bool} {v1 v2 : AV} {H : Heap}
    (hop : plainOp C st.env st.heap tok o.op = .ok c b v1 v2 H) (hc : c = true) (hm : (!makes C o.op || (o.dst.isSome && freshAt stk st tok)) = true) (hd : ∀ d, o.dst = some d → d < nt) :
    ∃ nx v w' x', (execOp a.eval o).run P w = .ok nx w' ∧ (nx = .value v ∨ (nx = .skip ∧ v = undef)) ∧ SR x' w0 fz0 nt { st with env := putO (envDie o.op st.heap H st.env) o.dst (cond b v1 v2), heap := H } (a.put o.dst v) w' ∧
      FrsR C (C.fid inst) fz0 x' stk fs f xt := by
  have T : ∃ tok', plainOp C st.env st.heap tok' o.op = .ok c b v1 v2 H ∧ (∀ T ∈ envToks st.env, ¬ InB tok' T) ∧ (∀ T ∈ heapToks st.heap, ¬ InB tok' T) ∧ ∀ T ∈ stkToks stk, ¬ InB tok' T := by
    cases hmk : makes C o.op with
    | true =>
      rw [hmk] at hm
      simp only [Bool.not_true, Bool.false_or, Bool.and_eq_true] at hm
      exact ⟨tok, hop, freshAt_ok hm.2⟩
    | false =>
      obtain ⟨tok', ht⟩ := exists_fresh (envToks st.env ++ heapToks st.heap ++ stkToks stk)
      exact ⟨tok', by rw [← hop]; exact plainOp_tok _ _ _ _ _ hmk, fun T hT => ht T (by simp [hT]), fun T hT => ht T (by simp [hT]), fun T hT => ht T (by simp [hT])⟩
  obtain ⟨tok', hop', f1, f2, f3⟩ := T
  have := plainOp_sound (tok := tok') hC.ti h.hr h.hp h.n0 (o := o) h.env (fun _ => by rw [h.H]; exact f2) (fun _ => f1)
  rw [h.H, hop'] at this
  obtain ⟨nx, v, w', x', k1, k2, k3, k4, k5⟩ := this hc
  exact ⟨nx, v, w', x', k1, k2, h.next' k4 (envDie_env o.op H h.H h.env (h.env.mono k4.ext f1)) hd k5 k3, hF.mono k4.ext f3⟩
theorem heapToks_shown (b : Bool) (ts : List Nat) (h : Heap) : heapToks (shown b ts h) = heapToks h := by
  cases b
  · rfl
  · exact heapToks_freeze ts h
theorem call_step (hC : CtxOk P C) {x : Cx} {nt : Nat} {st : St} {a : Act} {w : World} {stk : List Fr} {fs : List Frame} {f : Nat} {xt : Xt} (h : SR x w0 fz0 nt st a w) (hF : FrsR C (C.fid inst) fz0 x stk fs f xt) {vs : List AV} {us : List Value} (hv : RVL x vs us)
    {j : Nat} {y : den (tyL (C.pts j))} (hy : toDenL st.heap (C.pts j) vs = some y) {dst : Option Nat} (hd : ∀ d, dst = some d → d < nt) (hio : C.io j = false) :
    (∀ b, (frzCx x (toksL vs)).fz b → b < w.heap.size) ∧ DenL w.heap (frzCx x (toksL vs)).fz (C.pts j) y us ∧
    ∀ (v : Value) (w' : World) (q : den (tyL (C.rts j))), Ret C w (.plain w (frzCx x (toksL vs)).fz) j q w' v →
      ((hasOwn (tyL (C.rts j)) = false ∨ dst = none) → ∃ x', SR x' w0 fz0 nt { st with env := putO st.env dst (tupOf (C.rts j) (ofDenL (C.rts j) q)), heap := shown (hasSl (tyL (C.rts j))) (toksL vs) st.heap } (a.put dst v) w' ∧
        FrsR C (C.fid inst) fz0 x' stk fs f xt) ∧
      (∀ tok rs hn n, freshAt stk st tok = true → impL tok (C.rts j) q 0 = (rs, hn, n) → n ≤ 16 → ∃ x', SR x' w0 fz0 nt { st with env := putO st.env dst (tupOf (C.rts j) rs), heap := hputs (shown (hasSl (tyL (C.rts j))) (toksL vs) st.heap) hn } (a.put dst v) w' ∧
        FrsR C (C.fid inst) fz0 x' stk fs f xt) := by
  have NF := frz_next h.hr h.hp (tok := 0) (toksL vs)
  have hfzlt : ∀ b, (frzCx x (toksL vs)).fz b → b < w.heap.size := fun b hb => by
    have := NF.hr.size b hb
    rw [NF.hp] at this; exact this
  have hden : DenL w.heap (frzCx x (toksL vs)).fz (C.pts j) y us := by
    have := toDenL_deep h.hr (fz' := (frzCx x (toksL vs)).fz) (fun b hb => .inl hb) (C.pts j) hv (frz_shows h.hr _) (by rw [h.H]; exact hy)
    rw [h.hp] at this; exact this
  refine ⟨hfzlt, hden, fun v w' q hret => ?_⟩
  obtain ⟨ow, ok, rvs, hok, hnd, hown, rfl, hres⟩ := hret.res
  rw [hio] at hres
  have hres : ResL w'.heap ok (C.rts j) q rvs ow := hres
  have hown : ∀ b ∈ ow, w.heap.size ≤ b ∧ ¬ ok b := hown
  have hok : ∀ b, ok b → (frzCx x (toksL vs)).fz b ∨ (w.heap.size ≤ b ∧ b < w'.heap.size) := hok
  have base : ∃ x1, NxS x x1 fz0.own (fun _ => True) w w' ∧ x1.H = shown (hasSl (tyL (C.rts j))) (toksL vs) st.heap ∧ (hasSl (tyL (C.rts j)) = true → ∀ b, ok b → x1.fz b) ∧ (∀ b ∈ ow, ¬ x1.fz b) ∧ (∀ T b, Owns x1 T b → b < w.heap.size) := by
    have ownlt : ∀ (z : Cx), HR z fz0.own → z.hp = w.heap → ∀ T b, Owns z T b → b < w.heap.size := by
      rintro z hz hzp T b ⟨⟨o, ho⟩, hk⟩
      rw [← hzp]
      rcases hk with ⟨t, l, hk⟩ | ⟨cs, hk⟩
      · rcases hz.blk T _ hk with ⟨_, h'⟩ | ⟨B', o', c, e, fr, h1, h2, _⟩
        · rw [ho] at h'; simp at h'
        · rw [ho] at h1; simp only [Option.some.injEq, Prod.mk.injEq] at h1
          rw [h1.1]; exact lt_size h2
      · obtain ⟨B', c, e, fr, h1, h2, _⟩ := hz.blk T _ hk
        rw [ho] at h1; simp only [Option.some.injEq, Prod.mk.injEq] at h1
        rw [h1.1]; exact lt_size h2
    cases hsl : hasSl (tyL (C.rts j)) with
    | true =>
      have N1 : NxS x (frzCx x (toksL vs)) fz0.own (fun _ => True) w w := ⟨frz_ext x _ _, NF.hr, NF.fz, .refl _ _, NF.hp⟩
      have N2 := call_next N1.hr N1.hp h.n0 hret.bel ok
      refine ⟨_, N1.trans N2, by show freeze (toksL vs) x.H = _; rw [h.H]; rfl, fun _ b hb => ?_, fun b hb => ?_, fun T b ho => ownlt _ N1.hr N1.hp T b ho⟩
      · rcases hok b hb with hb' | ⟨h1, h2⟩
        · exact .inl hb'
        · exact .inr ⟨hb, h1, h2⟩
      · obtain ⟨h1, h2⟩ := hown b hb
        rintro (h' | ⟨h', _, _⟩)
        · have := hfzlt b h'; omega
        · exact h2 h'
    | false =>
      have N2 := call_next h.hr h.hp h.n0 hret.bel (fun _ => False)
      refine ⟨_, N2, h.H, (fun hh => by cases hh), fun b hb => ?_, fun T b ho => ownlt _ h.hr h.hp T b ho⟩
      obtain ⟨h1, h2⟩ := hown b hb
      rintro (h' | ⟨h', _, _⟩)
      · have := h.hr.size b h'; rw [h.hp] at this; omega
      · exact h'
  obtain ⟨x1, N1, hH1, hok1, hno1, hlt1⟩ := base
  have hp1 : x1.hp = w'.heap := N1.hp
  constructor
  · intro hcase
    by_cases hdn : dst = none
    · subst hdn
      exact ⟨x1, h.next N1 (fun _ _ => trivial) hd (.undef (oneV rvs)) hH1, hF.mono N1.ext fun _ _ => trivial⟩
    · have ho : hasOwn (tyL (C.rts j)) = false := hcase.resolve_right hdn
      obtain ⟨_, hD⟩ := ResL_plain (C.rts j) ho hres
      have hD1 : DenL x1.hp x1.fz (C.rts j) q rvs := by
        rw [hp1]
        cases hsl : hasSl (tyL (C.rts j)) with
        | true => exact DenL_mono (fun b hb => ⟨hok1 hsl b hb, rfl⟩) _ hD
        | false => exact DenL_noSl _ hsl hD
      have hrv := tupOf_RV (ofDenL_RVL (x := x1) (C.rts j) hD1) (ofDenL_length _ q).symm
      exact ⟨x1, h.next N1 (fun _ _ => trivial) hd hrv hH1, hF.mono N1.ext fun _ _ => trivial⟩
  · intro tok rs hn n hfr himp hn16
    obtain ⟨f1, f2, f3⟩ := freshAt_ok hfr
    have hsl : hasSl (tyL (C.rts j)) = true ∨ ow = [] := by
      cases hsl : hasSl (tyL (C.rts j)) with
      | true => exact .inl rfl
      | false => exact .inr (ResL_plain (C.rts j) (own_sl _ hsl) hres).1
    have hres' : ∃ ok', ResL w'.heap ok' (C.rts j) q rvs ow ∧ ∀ b, ok' b → x1.fz b := by
      cases hs : hasSl (tyL (C.rts j)) with
      | true => exact ⟨ok, hres, hok1 hs⟩
      | false =>
        obtain ⟨h1, h2⟩ := ResL_plain (C.rts j) (own_sl _ hs) hres
        subst h1
        refine ⟨fun _ => False, ?_, fun b hb => hb.elim⟩
        have back : ∀ (ts : List Ty) {y : den (tyL ts)} {vs : List Value}, hasOwn (tyL ts) = false → DenL w'.heap (fun _ => False) ts y vs → ResL w'.heap (fun _ => False) ts y vs [] := by
          have backC : ∀ (t : Ty) (y : den t) (vs : List Value), hasOwn t = false → DeepC w'.heap (fun _ => False) t y vs → ResC w'.heap (fun _ => False) t y vs [] := by
            intro t
            induction t with
            | own t _ => intro y vs ho; simp [hasOwn] at ho
            | pair a b iha ihb =>
              intro y vs ho h
              simp only [hasOwn, Bool.or_eq_false_iff] at ho
              obtain ⟨v1, v2, rfl, k1, k2⟩ := h
              exact ⟨v1, v2, [], [], rfl, rfl, iha _ _ ho.1 k1, ihb _ _ ho.2 k2⟩
            | one t ih => intro y vs ho h; exact ih y vs ho h
            | _ => intro y vs ho h; exact ⟨rfl, h⟩
          have backV : ∀ (t : Ty) (y : den t) (v : Value), hasOwn t = false → DenV w'.heap (fun _ => False) t y v → ResV w'.heap (fun _ => False) t y v [] := by
            intro t y v ho h
            unfold DenV at h
            unfold ResV
            split at h
            · rename_i hag; rw [hag]; obtain ⟨vs, rfl, h⟩ := h; exact ⟨vs, rfl, backC t y vs ho h⟩
            · rename_i hag; rw [hag]; exact ⟨h.1, backC t y _ ho h.2⟩
          intro ts
          induction ts with
          | nil => intro y vs _ h; rw [DenL_0] at h; rw [ResL_0]; exact ⟨h, rfl⟩
          | cons t ts ih =>
            cases ts with
            | nil => intro y vs ho h; rw [DenL_1] at h; rw [ResL_1]; obtain ⟨v, rfl, h⟩ := h; exact ⟨v, rfl, backV t y v ho h⟩
            | cons u ts =>
              intro y vs ho h
              rw [DenL_2] at h
              rw [ResL_2]
              obtain ⟨v, vs', rfl, k1, k2⟩ := h
              have ho' : hasOwn t = false ∧ hasOwn (tyL (u :: ts)) = false := by simpa [tyL, hasOwn] using ho
              exact ⟨v, vs', [], [], rfl, rfl, backV t _ v ho'.1 k1, ih ho'.2 k2⟩
        exact back _ (own_sl _ hs) (DenL_noSl _ hs h2)
    obtain ⟨ok', hres', hok'⟩ := hres'
    obtain ⟨x2, I, k2, k3, k4, k5⟩ := impL_sound (n0 := fz0.own) (w := w') (C.rts j) himp hres' N1.hr hp1 hok' hnd (fun b hb => ⟨h.n0 b (hown b hb).1, hno1 b hb, fun T ho => by
        have := hlt1 T b ho; have := (hown b hb).1; omega⟩) hn16 (fun T hT => by
        rw [hH1, heapToks_shown] at hT
        have := f2 T hT
        unfold InB at this; omega)
    have N2 : NxS x x2 fz0.own (fun T => ¬ InB tok T) w w' := (N1.weaken fun _ _ => trivial).trans (I.nx.weaken fun T hT => by unfold InB at hT; omega)
    have hrv := tupOf_RV k2 (by have := impL_length tok (C.rts j) q 0; rw [himp] at this; exact this.symm)
    exact ⟨x2, h.next N2 f1 hd hrv (by rw [I.H, hH1]), hF.mono N2.ext f3⟩
end
end Go.Proofs.YtpdfjgooaaailaaGreatDoor.K
namespace Go.Proofs.YtpdfjgooaaailaaGreatDoor.K
open Go
open Go.RowKit (Below)
theorem blanks_RVL (x : Cx) : ∀ (cs : List AV) (vs : List Value), cs.length = vs.length → RVL x (cs.map fun _ => .undef) vs
  | [], [], _ => .nil
  | _ :: cs, v :: vs, h => .cons _ _ _ _ (.undef v) (blanks_RVL x cs vs (by simpa using h))
theorem blanks_toks : ∀ cs : List AV, toksL (cs.map fun _ => AV.undef) = []
  | [] => rfl
  | _ :: cs => by simp [toksL, toks, blanks_toks cs]
theorem hget_hdels : ∀ (g : List Nat) (H : Heap) (T : Nat), hget (hdels H g) T = if T ∈ g then none else hget H T
  | [], H, T => by simp [hdels]
  | t :: g, H, T => by
    simp only [hdels, hget_hdels g, hget_hdel, List.mem_cons]
    by_cases h1 : T ∈ g
    · simp [h1]
    · by_cases h2 : T = t
      · simp [h2]
      · simp [h1, h2]
theorem heapToks_hdels : ∀ (g : List Nat) {H : Heap} {T : Nat}, T ∈ heapToks (hdels H g) → T ∈ heapToks H
  | [], _, _, h => h
  | _ :: g, _, _, h => heapToks_del (heapToks_hdels g h)
theorem hget_hputs : ∀ (hn : Heap) (H : Heap) (T : Nat), T ∉ hn.map (·.1) → hget (hputs H hn) T = hget H T
  | [], _, _, _ => rfl
  | (t, b) :: hn, H, T, h => by
    simp only [List.map_cons, List.mem_cons, not_or] at h
    simp only [hputs]
    rw [hget_hputs hn _ _ h.2, hget_hput, if_neg h.1]
theorem impCells_ks (base : Nat) : ∀ (t : Ty) (y : den t) (j : Nat), ∀ p ∈ (impCells base t y j).2.1, base + j ≤ p.1 ∧ p.1 < base + (impCells base t y j).2.2 := by
  intro t
  induction t with
  | own t _ => intro y j p hp; simp [impCells] at hp ⊢; subst hp; exact ⟨Nat.le_refl _, by simp⟩
  | pair a b iha ihb =>
    intro y j p hp
    have m1 := impCells_mono base a y.1 j
    have m2 := impCells_mono base b y.2 (impCells base a y.1 j).2.2
    have hp : p ∈ (impCells base a y.1 j).2.1 ++ (impCells base b y.2 (impCells base a y.1 j).2.2).2.1 := hp
    show base + j ≤ p.1 ∧ p.1 < base + (impCells base b y.2 (impCells base a y.1 j).2.2).2.2
    rcases List.mem_append.1 hp with h | h
    · have := iha y.1 j p h; omega
    · have := ihb y.2 _ p h; omega
  | one t ih => intro y j; exact ih y j
  | _ => intro y j p hp; cases hp
theorem imp_ks (base : Nat) (t : Ty) (y : den t) (j : Nat) : ∀ p ∈ (imp base t y j).2.1, base + j ≤ p.1 ∧ p.1 < base + (imp base t y j).2.2 := by
  have := impCells_ks base t y j
  unfold imp
  split
  · intro p hp; cases hp
  · generalize impCells base t y j = z at this
    obtain ⟨cs, g, jj⟩ := z
    cases isAgg t <;> cases cs <;> exact this
theorem impL_ks (base : Nat) (ts : List Ty) : ∀ (y : den (tyL ts)) (j : Nat), ∀ p ∈ (impL base ts y j).2.1, base + j ≤ p.1 ∧ p.1 < base + (impL base ts y j).2.2 := by
  induction ts with
  | nil => intro y j p hp; rw [impL_0] at hp; cases hp
  | cons t ts ih =>
    cases ts with
    | nil => intro y j; rw [impL_1]; exact imp_ks base t y j
    | cons u ts =>
      intro y j p hp
      rw [impL_2] at hp ⊢
      have m1 := imp_mono base t y.1 j
      have m2 := impL_mono base (u :: ts) y.2 (imp base t y.1 j).2.2
      simp only at hp ⊢
      rcases List.mem_append.1 hp with h | h
      · have := imp_ks base t y.1 j p h; omega
      · have := ih y.2 _ p h; omega
theorem impL_no (base : Nat) (ts : List Ty) : ∀ (y : den (tyL ts)) (j : Nat), hasOwn (tyL ts) = false → impL base ts y j = (ofDenL ts y, [], j) := by
  have one : ∀ (t : Ty) (y : den t) (j : Nat), hasOwn t = false → imp base t y j = (ofDen t y, [], j) := fun t y j h => by unfold imp; rw [h]
  induction ts with
  | nil => intro y j _; rfl
  | cons t ts ih =>
    cases ts with
    | nil => intro y j h; rw [impL_1, one t y j h]; rfl
    | cons u ts =>
      intro y j h
      have h : hasOwn t = false ∧ hasOwn (tyL (u :: ts)) = false := by simpa [tyL, hasOwn] using h
      rw [impL_2, one t y.1 j h.1, ih y.2 j h.2]; rfl
theorem toks_ofDenL (ts : List Ty) : ∀ y : den (tyL ts), toksL (ofDenL ts y) = [] := by
  induction ts with
  | nil => intro y; rfl
  | cons t ts ih =>
    cases ts with
    | nil => intro y; show toks (ofDen t y) ++ [] = []; rw [toks_ofDen t y]; rfl
    | cons u ts => intro y; show toks (ofDen t y.1) ++ toksL (ofDenL (u :: ts) y.2) = []; rw [toks_ofDen t y.1, ih y.2]; rfl
theorem givesC_no {H H' : Heap} : ∀ (t : Ty) {cs : List AV} {g s : List Nat} {cs' : List AV}, hasOwn t = false → givesC H t cs = some (g, s, cs') → givesC H' t cs = some (g, s, cs') ∧ g = [] ∧ (∀ T ∈ s, T ∈ toksL cs) ∧ ∀ T ∈ toksL cs', T ∈ toksL cs := by
  intro t
  induction t with
  | unit => intro cs g s cs' _ h; simp only [givesC, Option.some.injEq, Prod.mk.injEq] at h ⊢; obtain ⟨rfl, rfl, rfl⟩ := h; exact ⟨⟨rfl, rfl, rfl⟩, rfl, fun _ h => (by cases h), fun _ h => h⟩
  | pair a b iha ihb =>
    intro cs g s cs' ho h
    simp only [hasOwn, Bool.or_eq_false_iff] at ho
    simp only [givesC] at h ⊢
    split at h
    · rename_i g1 s1 c1 h1
      obtain ⟨e1, rfl, e3, e4⟩ := iha ho.1 h1
      split at h
      · rename_i g2 s2 c2 h2
        obtain ⟨f1, rfl, f3, f4⟩ := ihb ho.2 h2
        simp only [Option.some.injEq, Prod.mk.injEq] at h
        obtain ⟨rfl, rfl, rfl⟩ := h
        rw [e1]
        simp only [f1]
        exact ⟨trivial, rfl, fun T hT => (List.mem_append.1 hT).elim (e3 T) fun h => e4 T (f3 T h), fun T hT => e4 T (f4 T hT)⟩
      · cases h
    · cases h
  | one t ih => intro cs g s cs' ho h; exact ih ho h
  | own t _ => intro cs g s cs' ho; simp [hasOwn] at ho
  | _ =>
    intro cs g s cs' _ h
    cases cs with
    | nil => simp [givesC] at h
    | cons c cs =>
      simp only [givesC, Option.some.injEq, Prod.mk.injEq] at h ⊢
      obtain ⟨rfl, rfl, rfl⟩ := h
      exact ⟨⟨rfl, rfl, rfl⟩, rfl, fun T hT => by simp [toksL, hT], fun T hT => by simp [toksL, hT]⟩
theorem toksL_cells (v : AV) : ∀ T ∈ toksL (cells v), T ∈ toks v := toks_cells v
theorem givesL_no {H H' : Heap} : ∀ (ts : List Ty) {vs : List AV} {g s : List Nat}, ts.any hasOwn = false → givesL H ts vs = some (g, s) → givesL H' ts vs = some (g, s) ∧ g = [] ∧ ∀ T ∈ s, T ∈ toksL vs
  | [], [], g, s, _, h => by simp only [givesL, Option.some.injEq, Prod.mk.injEq] at h ⊢; obtain ⟨rfl, rfl⟩ := h; exact ⟨⟨rfl, rfl⟩, rfl, fun _ h => (by cases h)⟩
  | [], _ :: _, g, s, _, h => by simp [givesL] at h
  | _ :: _, [], g, s, _, h => by simp [givesL] at h
  | t :: ts, v :: vs, g, s, ho, h => by
    simp only [List.any_cons, Bool.or_eq_false_iff] at ho
    simp only [givesL] at h ⊢
    split at h
    · rename_i g1 s1 g2 s2 h1 h2
      simp only [Option.some.injEq, Prod.mk.injEq] at h
      obtain ⟨rfl, rfl⟩ := h
      obtain ⟨e1, rfl, e3, _⟩ := givesC_no (H' := H') t ho.1 h1
      obtain ⟨f1, rfl, f3⟩ := givesL_no (H' := H') ts ho.2 h2
      rw [e1, f1]
      refine ⟨rfl, rfl, fun T hT => ?_⟩
      simp only [toksL, List.mem_append]
      exact (List.mem_append.1 hT).imp (fun h => toksL_cells v T (e3 T h)) (f3 T)
    · cases h
theorem givesC_arr {H : Heap} : ∀ (t : Ty) {cs : List AV} {g s : List Nat} {cs' : List AV}, givesC H t cs = some (g, s, cs') → ∀ T ∈ g, ∃ t l, hget H T = some (.arr t l) := by
  intro t
  induction t with
  | unit => intro cs g s cs' h T hT; simp [givesC] at h; obtain ⟨rfl, _, _⟩ := h; cases hT
  | pair a b iha ihb =>
    intro cs g s cs' h T hT
    simp only [givesC] at h
    split at h
    · rename_i g1 s1 c1 h1
      split at h
      · rename_i g2 s2 c2 h2
        simp only [Option.some.injEq, Prod.mk.injEq] at h
        obtain ⟨rfl, rfl, rfl⟩ := h
        rcases List.mem_append.1 hT with hT | hT
        · exact iha h1 T hT
        · exact ihb h2 T hT
      · cases h
    · cases h
  | one t ih => intro cs g s cs' h T hT; exact ih h T hT
  | own t _ =>
    intro cs g s cs' h T hT
    cases cs with
    | nil => simp [givesC] at h
    | cons c cs =>
      simp only [givesC] at h
      split at h
      · simp only [Option.some.injEq, Prod.mk.injEq] at h
        obtain ⟨rfl, _, _⟩ := h; cases hT
      · split at h
        · rename_i t' l hl
          simp only [Option.some.injEq, Prod.mk.injEq] at h
          obtain ⟨rfl, _, _⟩ := h
          simp only [List.mem_singleton] at hT
          subst hT
          exact ⟨_, _, hl⟩
        · cases h
      · cases h
  | _ =>
    intro cs g s cs' h T hT
    cases cs with
    | nil => simp [givesC] at h
    | cons c cs =>
      simp only [givesC, Option.some.injEq, Prod.mk.injEq] at h
      obtain ⟨rfl, _, _⟩ := h; cases hT
theorem givesL_arr {H : Heap} : ∀ (ts : List Ty) {vs : List AV} {g s : List Nat}, givesL H ts vs = some (g, s) → ∀ T ∈ g, ∃ t l, hget H T = some (.arr t l)
  | [], [], g, s, h, T, hT => by simp [givesL] at h; obtain ⟨rfl, _⟩ := h; cases hT
  | [], _ :: _, g, s, h, T, hT => by simp [givesL] at h
  | _ :: _, [], g, s, h, T, hT => by simp [givesL] at h
  | t :: ts, v :: vs, g, s, h, T, hT => by
    simp only [givesL] at h
    split at h
    · rename_i g1 s1 g2 s2 h1 h2
      simp only [Option.some.injEq, Prod.mk.injEq] at h
      obtain ⟨rfl, rfl⟩ := h
      rcases List.mem_append.1 hT with hT | hT
      · exact givesC_arr t h1 T hT
      · exact givesL_arr ts h2 T hT
    · cases h
theorem stBox_ext {x : Cx} {T : Nat} {cs cs' : List AV} (h : hget x.H T = some (.box cs)) (S : Nat → Prop) : Ext x (stCx x x.hp T (.box cs')) S := by
  refine ⟨fun k hk => ⟨hk, rfl⟩, .refl _, fun T' _ t l' ha => ?_, fun T' _ cs0 ha => ?_, fun _ => rfl⟩
  · simp only [stCx, AF, hget_hput] at ha
    split at ha
    · rcases ha with ha | ha <;> cases ha
    · exact ⟨l', ha, rfl, rfl⟩
  · simp only [stCx, hget_hput] at ha
    split at ha
    · rename_i hT; subst hT; exact ⟨cs, h, rfl⟩
    · exact ⟨cs0, ha, rfl⟩
section
variable {P : Program} {C : Ctx} {inst : Nat} {w0 : World} {fz0 : Lay}
theorem owns_size {z : Cx} {n0 : Nat → Prop} (hz : HR z n0) {T b : Nat} (h : Owns z T b) : n0 b ∧ ¬ z.fz b ∧ b < z.hp.size := by
  obtain ⟨⟨o, ho⟩, hk⟩ := h
  rcases hk with ⟨t, l, hk⟩ | ⟨cs, hk⟩
  · rcases hz.blk T _ hk with ⟨_, h'⟩ | ⟨B', o', c, e, fr, h1, h2, h3, h4, _⟩
    · rw [ho] at h'; simp at h'
    · rw [ho] at h1; simp only [Option.some.injEq, Prod.mk.injEq] at h1
      rw [h1.1]; exact ⟨h3, h4, lt_size h2⟩
  · obtain ⟨B', c, e, fr, h1, h2, h3, h4, _⟩ := hz.blk T _ hk
    rw [ho] at h1; simp only [Option.some.injEq, Prod.mk.injEq] at h1
    rw [h1.1]; exact ⟨h3, h4, lt_size h2⟩
def ioLay (x0 : Cx) (w : World) (b : Nat) (ow : List Nat) : Lay := ⟨x0.fz, fun k => w.heap.size ≤ k ∨ k = b ∨ k ∈ ow, b⟩
def ioCx (x0 : Cx) (w w' : World) (L : Lay) (ok : Nat → Prop) (gv : List Nat) (T : Nat) (cs : List AV) : Cx :=
  { hp := w'.heap, fz := fun k => x0.fz k ∨ (ok k ∧ L.own k ∧ k < w'.heap.size), m := x0.m, H := hput (hdels x0.H gv) T (.box (cs.map fun _ => .undef)), lp := x0.lp }
theorem io_next {n0 : Nat → Prop} {x0 : Cx} (hr : HR x0 n0) {w w' : World} (hp : x0.hp = w.heap) (hn : ∀ k, w.heap.size ≤ k → n0 k) {T b : Nat} {cs : List AV} {c c' : Array Value} {e e' : TypeId} {fr fr' : Nat × Nat} (hT : hget x0.H T = some (.box cs)) (hm : x0.m T = some (b, 0))
    (hc : w.heap[b]? = some (Obj.cells c e fr)) (hcl : cs.length = c.size) {gv ow : List Nat} (harr : ∀ T ∈ gv, ∃ t l, hget x0.H T = some (.arr t l)) (how : OwOf x0 gv ow) {ok : Nat → Prop}
    (hbel : Bel (ioLay x0 w b ow).own w w') (hc' : w'.heap[b]? = some (Obj.cells c' e' fr')) (hu : Unfrozen c' fr') (hok : ¬ ok b) :
    NxS x0 (ioCx x0 w w' (ioLay x0 w b ow) ok gv T cs) n0 (fun _ => True) w w' ∧ (∀ k, (ioLay x0 w b ow).own k → n0 k) ∧ (∀ k, x0.fz k → ¬ (ioLay x0 w b ow).own k) ∧
    (∀ T' k, Owns (ioCx x0 w w' (ioLay x0 w b ow) ok gv T cs) T' k → (T' = T ∧ k = b) ∨ ¬ (ioLay x0 w b ow).own k) := by
  have hTo : Owns x0 T b := ⟨⟨0, hm⟩, .inr ⟨cs, hT⟩⟩
  obtain ⟨hnb, hfb, hbs⟩ := owns_size hr hTo
  have hown : ∀ k, (ioLay x0 w b ow).own k → n0 k := by
    rintro k (h | rfl | h)
    · exact hn k h
    · exact hnb
    · obtain ⟨T', _, ho⟩ := how.mem k h; exact (owns_size hr ho).1
  have hfz : ∀ k, x0.fz k → ¬ (ioLay x0 w b ow).own k := by
    rintro k hk (h | rfl | h)
    · have := hr.size k hk; rw [hp] at this; omega
    · exact hfb hk
    · obtain ⟨T', _, ho⟩ := how.mem k h; exact (owns_size hr ho).2.1 hk
  have hoth : ∀ T' k, T' ≠ T → T' ∉ gv → Owns x0 T' k → ¬ (ioLay x0 w b ow).own k := by
    rintro T' k h1 h2 ho (h | rfl | h)
    · have := (owns_size hr ho).2.2; rw [hp] at this; omega
    · exact h1 (hr.inj _ _ _ ho hTo)
    · obtain ⟨T'', hg, ho'⟩ := how.mem k h
      have := hr.inj _ _ _ ho ho'
      subst this; exact h2 hg
  have hsame : ∀ k, ¬ (ioLay x0 w b ow).own k → w'.heap[k]? = x0.hp[k]? := fun k hk => by rw [hp]; exact hbel.block k hk
  have hH : ∀ T', T' ≠ T → ∀ bk, hget (ioCx x0 w w' (ioLay x0 w b ow) ok gv T cs).H T' = some bk → T' ∉ gv ∧ hget x0.H T' = some bk := by
    intro T' hne bk h
    simp only [ioCx, hget_hput, if_neg hne, hget_hdels] at h
    split at h
    · cases h
    · rename_i hg; exact ⟨hg, h⟩
  have hHT : hget (ioCx x0 w w' (ioLay x0 w b ow) ok gv T cs).H T = some (.box (cs.map fun _ => .undef)) := by simp [ioCx, hget_hput]
  have E : Ext x0 (ioCx x0 w w' (ioLay x0 w b ow) ok gv T cs) (fun _ => True) := by
    refine ⟨fun k hk => ⟨.inl hk, hsame k (hfz k hk)⟩, by rw [hp]; exact hbel.sizes, fun T' _ t l' ha => ?_, fun T' _ cs' ha => ?_, fun _ => rfl⟩
    · have hne : T' ≠ T := by
        rintro rfl
        unfold AF at ha
        rw [hHT] at ha
        rcases ha with ha | ha <;> cases ha
      rcases ha with ha | ha
      · exact ⟨l', .inl (hH T' hne _ ha).2, rfl, rfl⟩
      · exact ⟨l', .inr (hH T' hne _ ha).2, rfl, rfl⟩
    · by_cases hne : T' = T
      · subst hne; exact ⟨cs, hT, rfl⟩
      · exact ⟨cs', (hH T' hne _ ha).2, rfl⟩
  have hnfz : ∀ k, ¬ x0.fz k → ¬ (ioLay x0 w b ow).own k → ¬ (ioCx x0 w w' (ioLay x0 w b ow) ok gv T cs).fz k := by
    rintro k h1 h2 (h | ⟨_, h, _⟩)
    · exact h1 h
    · exact h2 h
  have hdeep : ∀ (t : Ty) (y : den t) vs, DeepC x0.hp x0.fz t y vs → DeepC w'.heap (ioCx x0 w w' (ioLay x0 w b ow) ok gv T cs).fz t y vs :=
    fun t y vs h => DeepC.mono (fun k hk => ⟨.inl hk, hsame k (hfz k hk)⟩) t y vs h
  have hback : ∀ T' k, Owns (ioCx x0 w w' (ioLay x0 w b ow) ok gv T cs) T' k → Owns x0 T' k ∧ (T' = T ∨ T' ∉ gv) := by
    rintro T' k ⟨ho, hk⟩
    by_cases hne : T' = T
    · subst hne
      exact ⟨⟨ho, .inr ⟨cs, hT⟩⟩, .inl rfl⟩
    · rcases hk with ⟨t, l, hk⟩ | ⟨cs', hk⟩
      · have := hH T' hne _ hk; exact ⟨⟨ho, .inl ⟨t, l, this.2⟩⟩, .inr this.1⟩
      · have := hH T' hne _ hk; exact ⟨⟨ho, .inr ⟨cs', this.2⟩⟩, .inr this.1⟩
  have hR : HR (ioCx x0 w w' (ioLay x0 w b ow) ok gv T cs) n0 := by
    refine ⟨fun T' bk hbk => ?_, fun t1 t2 k h1 h2 => hr.inj t1 t2 k (hback _ _ h1).1 (hback _ _ h2).1, fun k hk => ?_⟩
    · by_cases hne : T' = T
      · subst hne
        rw [hHT] at hbk
        simp only [Option.some.injEq] at hbk
        subst hbk
        obtain ⟨c2, e2, fr2, k1, k2⟩ := hbel.sizes b c e fr hc
        rw [hc'] at k1
        simp only [Option.some.injEq, Obj.cells.injEq] at k1
        refine ⟨b, c', e', fr', hm, hc', hnb, ?_, hu, trivial, blanks_RVL _ _ _ (by simp [k1.1, k2, hcl])⟩
        rintro (h | ⟨h, _⟩)
        · exact hfb h
        · exact hok h
      · obtain ⟨hg, hbk0⟩ := hH T' hne _ hbk
        have h0 := hr.blk T' bk hbk0
        cases bk with
        | arr t l =>
          rcases h0 with h | ⟨B, o, c0, e0, fr0, h1, h2, h3, h4, h5, h6, h7⟩
          · exact .inl h
          · have ho : Owns x0 T' B := ⟨⟨o, h1⟩, .inl ⟨t, l, hbk0⟩⟩
            have hno := hoth T' B hne hg ho
            exact .inr ⟨B, o, c0, e0, fr0, h1, (hsame B hno).trans h2, h3, hnfz B h4 hno, h5, h6, fun i hi => hdeep _ _ _ (h7 i hi)⟩
        | fro t l =>
          rcases h0 with h | ⟨B, o, c0, e0, fr0, h1, h2, h3, h4, h5⟩
          · exact .inl h
          · exact .inr ⟨B, o, c0, e0, fr0, h1, (hsame B (hfz B h3)).trans h2, .inl h3, h4, fun i hi => hdeep _ _ _ (h5 i hi)⟩
        | box cs' =>
          obtain ⟨B, c0, e0, fr0, h1, h2, h3, h4, h5, h6, h7⟩ := h0
          have ho : Owns x0 T' B := ⟨⟨0, h1⟩, .inr ⟨cs', hbk0⟩⟩
          have hno := hoth T' B hne hg ho
          exact ⟨B, c0, e0, fr0, h1, (hsame B hno).trans h2, h3, hnfz B h4 hno, h5, h6, RVL.mono E h7 fun _ _ => trivial⟩
    · rcases hk with hk | ⟨_, _, hk⟩
      · have := hr.size k hk; rw [hp] at this; exact Nat.lt_of_lt_of_le this hbel.size
      · exact hk
  refine ⟨⟨E, hR, fun k hk => ?_, hbel.mono hown, rfl⟩, hown, hfz, fun T' k ho => ?_⟩
  · rcases hk with hk | ⟨_, hk, _⟩
    · exact .inl hk
    · exact .inr (hown k hk)
  · obtain ⟨h1, h2⟩ := hback _ _ ho
    rcases h2 with rfl | h2
    · exact .inl ⟨rfl, by
        obtain ⟨⟨o, ho'⟩, _⟩ := h1; rw [hm] at ho'; cases ho'; rfl⟩
    · by_cases hne : T' = T
      · subst hne; exact .inl ⟨rfl, by
        obtain ⟨⟨o, ho'⟩, _⟩ := h1; rw [hm] at ho'; cases ho'; rfl⟩
      · exact .inr (hoth T' k hne h2 h1)
theorem io_step (hC : CtxOk P C) {x : Cx} {nt : Nat} {st : St} {a : Act} {w : World} {stk : List Fr} {fs : List Frame} {f : Nat} {xt : Xt} (h : SR x w0 fz0 nt st a w) (hF : FrsR C (C.fid inst) fz0 x stk fs f xt) {T : Nat} {vs : List AV} {us : List Value} (hv : RVL x (.ptr T 0 :: vs) us)
    {cs : List AV} (hT : hget st.heap T = some (.box cs)) {j : Nat} (hio : C.io j = true) {gv sh : List Nat} (hg : givesL st.heap (C.pts j) (.agg cs :: vs) = some (gv, sh)) {y : den (tyL (C.pts j))} (hy : toDenL st.heap (C.pts j) (.agg cs :: vs) = some y)
    (hnd : nodupB gv = true) (hdis : ∀ t ∈ gv, t ∉ sh) {dst : Option Nat} (hd : ∀ d, dst = some d → d < nt) {tok : Nat} (hfr : (∀ T ∈ envToks st.env, ¬ InB tok T) ∧ (∀ T ∈ heapToks st.heap, ¬ InB tok T) ∧ ∀ T ∈ stkToks stk, ¬ InB tok T) :
    ∃ L : Lay, LayOk w L ∧ (∀ k, L.own k → fz0.own k) ∧ (∀ n : List Bool, Args C w L j y us true n) ∧
      ∀ (v : Value) (w' : World) (q : den (tyL (C.rts j))), Ret C w L j q w' v → ∀ cs' rs hn n, impL tok (C.rts j) q 0 = (.agg cs' :: rs, hn, n) → n ≤ 16 →
        ∃ x', SR x' w0 fz0 nt { st with env := putO st.env dst (tupOf (C.rts j).tail rs), heap := hput (hputs (hput (hdels (freeze sh st.heap) gv) T (.box (cs.map fun _ => .undef))) hn) T (.box cs') } (a.put dst v) w' ∧
          FrsR C (C.fid inst) fz0 x' stk fs f xt := by
  rw [← h.H] at hT hg hy
  cases hv with
  | cons _ u0 _ us' hv0 hv1 =>
  cases hv0 with
  | ptr _ _ ad hpt =>
  obtain ⟨b, hm, rfl⟩ := hpt cs hT
  obtain ⟨b', c, e, fr, hm', hb, hnb, hfb, hu, _, hcs⟩ := h.hr.blk T _ hT
  rw [hm] at hm'; cases hm'
  obtain ⟨f1, f2, f3⟩ := hfr
  have NF := frz_next h.hr h.hp (tok := tok) sh
  have hT0 : hget (frzCx x sh).H T = some (.box cs) := by
    show hget (freeze sh x.H) T = _
    rw [hget_freeze, hT]; rfl
  have hargs : RVL x (.agg cs :: vs) (.agg c :: us') := by
    have := RV.agg cs c.toList hcs
    rw [Array.toArray_toList] at this
    exact .cons _ _ _ _ this hv1
  obtain ⟨ow, k1, k2⟩ := givesL_sound h.hr (fz' := (frzCx x sh).fz) (fun b hb => .inl hb) (C.pts j) hargs hg hy (frz_shows h.hr _)
  have hnd := nodupB_nodup hnd
  have harr : ∀ T' ∈ gv, ∃ t l, hget (frzCx x sh).H T' = some (.arr t l) := by
    intro T' hT'
    obtain ⟨t, l, hl⟩ := givesL_arr _ hg T' hT'
    refine ⟨t, l, ?_⟩
    show hget (freeze sh x.H) T' = _
    rw [hget_freeze, hl]
    have : sh.elem T' = false := by simpa using hdis T' hT'
    rw [this]; rfl
  have how : OwOf (frzCx x sh) gv ow := by
    have : ∀ {g o : List Nat}, OwOf x g o → (∀ T' ∈ g, ∃ t l, hget (frzCx x sh).H T' = some (.arr t l)) → OwOf (frzCx x sh) g o := by
      intro g o hgo
      induction hgo with
      | nil => intro _; exact .nil
      | skip T g ow _ ih => intro ha; exact .skip _ _ _ (ih fun T' hT' => ha T' (by simp [hT']))
      | take T b g ow ho _ ih =>
        intro ha
        refine .take _ _ _ _ ⟨ho.1, .inl (ha T (by simp))⟩ (ih fun T' hT' => ha T' (by simp [hT']))
    exact this k2 harr
  have hbw : w.heap[b]? = some (Obj.cells c e fr) := by rw [← h.hp]; exact hb
  have hlen : cs.length = c.size := by have := hcs.length; simpa using this
  have hTo : Owns (frzCx x sh) T b := ⟨⟨0, hm⟩, .inr ⟨cs, hT0⟩⟩
  obtain ⟨q1, q2, q3⟩ := owns_size NF.hr hTo
  have hbow : b ∉ ow := by
    intro hbo
    obtain ⟨T', hT', ho⟩ := how.mem b hbo
    have := NF.hr.inj _ _ _ ho hTo
    subst this
    obtain ⟨t, l, hl⟩ := harr _ hT'
    rw [hT0] at hl; cases hl
  have hlay : ∀ k, (ioLay (frzCx x sh) w b ow).own k → fz0.own k := by
    rintro k (hk | rfl | hk)
    · exact h.n0 k hk
    · exact q1
    · obtain ⟨T', _, ho⟩ := how.mem k hk; exact (owns_size NF.hr ho).1
  refine ⟨ioLay (frzCx x sh) w b ow, ⟨fun k hk => ?_, fun k hk => .inl hk⟩, hlay, fun _ => ⟨us', ow, rfl, .inr (.inl rfl), how.nodup NF.hr hnd, fun k hk => ⟨.inr (.inr hk), ?_⟩, c, e, fr, hbw, hu, hbow, q2, ?_⟩, fun v w' q hret cs' rs hn n himp hn16 => ?_⟩
  · have := NF.hr.size k hk
    rw [NF.hp] at this; exact this
  · obtain ⟨T', _, ho⟩ := how.mem k hk; exact (owns_size NF.hr ho).2.1
  · rw [← h.hp]; exact k1
  · obtain ⟨ow', ok', rvs, hok, hnd', hown', rfl, hres⟩ := hret.res
    rw [hio] at hres
    obtain ⟨c', e', fr', hb', hu', hbow', hbok', hres⟩ := hres
    have hb' : w'.heap[b]? = some (Obj.cells c' e' fr') := hb'
    obtain ⟨N1, o1, o2, o3⟩ := io_next NF.hr NF.hp h.n0 hT0 hm hbw hlen harr how hret.bel hb' hu' hbok'
    generalize hx1 : ioCx (frzCx x sh) w w' (ioLay (frzCx x sh) w b ow) ok' gv T cs = x1 at N1 o3
    have hx1fz : ∀ k, x1.fz k ↔ (frzCx x sh).fz k ∨ (ok' k ∧ (ioLay (frzCx x sh) w b ow).own k ∧ k < w'.heap.size) := fun k => by rw [← hx1]; exact Iff.rfl
    have hx1H : x1.H = hput (hdels (freeze sh x.H) gv) T (.box (cs.map fun _ => .undef)) := by rw [← hx1]; rfl
    have hx1m : x1.m = x.m := by rw [← hx1]; rfl
    have hTtok : ¬ InB tok T := f2 T (by rw [← h.H]; exact (toks_hget _ _ _ hT).1)
    obtain ⟨x2, I, r2, r3, r4, r5⟩ := impL_sound (n0 := fz0.own) (w := w') (C.rts j) himp hres N1.hr N1.hp (fun k hk => (hx1fz k).2 ((hok k hk).imp id fun g => ⟨hk, g⟩)) hnd' (fun k hk => by
        obtain ⟨g1, g2⟩ := hown' k hk
        refine ⟨o1 k g1, fun hf => ?_, fun T' ho => ?_⟩
        · rcases (hx1fz k).1 hf with h' | ⟨h', _⟩
          · exact o2 k h' g1
          · exact g2 h'
        · rcases o3 T' k ho with ⟨_, rfl⟩ | h'
          · exact hbow' hk
          · exact h' g1) hn16 (fun T' hT' => by
        rw [hx1H] at hT'
        have : T' ∈ heapToks st.heap := by
          rcases heapToks_hput hT' with g | rfl | g
          · have := heapToks_hdels _ g
            rw [heapToks_freeze, h.H] at this; exact this
          · rw [← h.H]; exact (toks_hget _ _ _ hT).1
          · simp [blkToks, blanks_toks] at g
        have := f2 T' this
        unfold InB at this; omega)
    cases r2 with
    | cons _ _ _ _ r2 r2' =>
    cases r2 with
    | agg _ vs2 r2 =>
    have hkeys := impL_ks tok (C.rts j) q 0
    rw [himp] at hkeys
    have hTn : T ∉ hn.map (·.1) := by
      intro hh
      obtain ⟨p, hp, rfl⟩ := List.mem_map.1 hh
      have := hkeys p hp
      simp only [InB] at hTtok this; omega
    have hT2 : hget x2.H T = some (.box (cs.map fun _ => .undef)) := by rw [I.H, hget_hputs hn _ _ hTn, hx1H, hget_hput, if_pos rfl]
    have hm2 : x2.m T = some (b, 0) := by
      obtain ⟨cs2, _, e2⟩ := I.nx.ext.box T (by unfold InB at hTtok; omega) _ hT2
      rw [e2, hx1m]; exact hm
    have hx2hp : x2.hp = w'.heap := I.nx.hp
    have hf2 : ¬ x2.fz b := by
      rw [I.fz]
      intro hf
      rcases (hx1fz b).1 hf with h' | ⟨h', _⟩
      · exact q2 h'
      · exact hbok' h'
    have E3 := stBox_ext hT2 (cs' := cs') (fun _ => True)
    have hst : stCx x2 w'.heap T (.box cs') = stCx x2 x2.hp T (.box cs') := by rw [hx2hp]
    have N3 := store_next (tok := tok) (T := T) (b := b) I.nx.hr hx2hp ⟨⟨0, hm2⟩, .inr ⟨_, hT2⟩⟩ hf2 hb' hb' rfl (fun _ _ => rfl) rfl (.refl _ _) (.inr ⟨_, cs', hT2, rfl⟩)
      (by
        rw [hst]
        refine ⟨b, _, e', fr', hm2, by show x2.hp[b]? = _; rw [hx2hp]; exact hb', q1, hf2, hu', trivial, RVL.mono E3 (by simpa using r2) fun _ _ => trivial⟩)
    rw [hst] at N3
    have N : NxS x (stCx x2 x2.hp T (.box cs')) fz0.own (fun T => ¬ InB tok T) w w' :=
      ((NF.weaken fun T hT => hT).trans (N1.weaken fun _ _ => trivial)).trans ((I.nx.weaken fun T hT => by first | omega | (unfold InB at hT; omega)).trans (N3.weaken fun T hT => hT))
    have hl : (C.rts j).tail.length = rs.length := by
      have := impL_length tok (C.rts j) q 0
      rw [himp] at this
      simp only [List.length_cons] at this
      rw [List.length_tail]; omega
    have hrv := tupOf_RV (RVL.mono E3 r2' fun _ _ => trivial) hl
    refine ⟨_, h.next N f1 hd hrv ?_, hF.mono N.ext f3⟩
    show hput x2.H T (.box cs') = _
    rw [I.H, hx1H, h.H]
theorem derefs_sound {n0 : Nat → Prop} {x : Cx} (hr : HR x n0) {w : World} (hp : x.hp = w.heap) {ok : Nat → Prop} : ∀ {fl : List Bool} {ts : List Ty} {vs ds : List AV} {us : List Value}, derefs x.H fl ts vs = some ds → RVL x vs us →
    (∀ T ∈ toksL vs, ∀ b, Owns x T b → ok b) → ∃ cs, RVL x ds cs ∧ PtrsL w.heap ok fl ts us cs
  | [], [], [], ds, us, h, hv, _ => by
    simp only [derefs, Option.some.injEq] at h; subst h
    cases hv
    exact ⟨[], .nil, .nil⟩
  | [], [], _ :: _, ds, us, h, hv, _ => by cases h
  | [], _ :: _, _, ds, us, h, hv, _ => by cases h
  | b :: fl, [], vs, ds, us, h, hv, _ => by cases b <;> simp [derefs] at h
  | b :: fl, t :: ts, [], ds, us, h, hv, _ => by cases b <;> simp [derefs] at h
  | false :: fl, t :: ts, v :: vs, ds, us, h, hv, hok => by
    simp only [derefs] at h
    split at h
    · rename_i r hr'
      simp only [Option.some.injEq] at h; subst h
      cases hv with
      | cons _ u _ us h1 h2 =>
      obtain ⟨cs, k1, k2⟩ := derefs_sound hr hp hr' h2 (fun T' hT' => hok T' (by simp [toksL, hT']))
      exact ⟨u :: cs, .cons _ _ _ _ h1 k1, .keep _ _ _ _ _ _ k2⟩
    · cases h
  | true :: fl, t :: ts, v :: vs, ds, us, h, hv, hok => by
    cases v with
    | ptr T off =>
      simp only [derefs] at h
      split at h
      · rename_i cs r hoff hT hr'
        have hoff := beq_true hoff
        subst hoff
        cases hv with
        | cons _ u _ us h1 h2 =>
        cases h1 with
        | ptr _ _ ad hpt =>
        obtain ⟨b, hm, rfl⟩ := hpt cs hT
        obtain ⟨b', c, e, fr, hm', hb, hnb, hfb, hu, _, hcs⟩ := hr.blk T _ hT
        rw [hm] at hm'; cases hm'
        have hob : ok b := hok T (by simp [toksL, toks]) b ⟨⟨0, hm⟩, .inr ⟨cs, hT⟩⟩
        obtain ⟨ds', k1, k2⟩ := derefs_sound hr hp hr' h2 (fun T' hT' => hok T' (by simp [toksL, hT']))
        rw [hp] at hb
        have hrow := RVL.take (csz t) hcs
        have hrow : RVL x (cs.take (csz t)) (row c 0 (csz t)) := by simpa [row] using hrow
        split at h
        · rename_i hchk hag
          simp only [Option.some.injEq] at h; subst h
          exact ⟨_ :: ds', .cons _ _ _ _ (.agg _ _ hrow) k1, .cons fl t ts b c e fr _ us ds' hob hb (by rw [hag]) k2⟩
        · rename_i c0 hchk hag hc0
          simp only [Option.some.injEq] at h; subst h
          rw [hc0] at hrow
          generalize hrw : row c 0 (csz t) = rw0 at hrow
          cases hrow with
          | cons _ v1 _ _ g1 g2 =>
          cases g2
          exact ⟨v1 :: ds', .cons _ _ _ _ g1 k1, .cons fl t ts b c e fr v1 us ds' hob hb (by rw [hag]; exact hrw) k2⟩
        · cases h
      · cases h
    | _ => cases h
theorem rd_step (hC : CtxOk P C) {x : Cx} {nt : Nat} {st : St} {a : Act} {w : World} {stk : List Fr} {fs : List Frame} {f : Nat} {xt : Xt} (h : SR x w0 fz0 nt st a w) (hF : FrsR C (C.fid inst) fz0 x stk fs f xt) {vs : List AV} {us : List Value} (hv : RVL x vs us)
    {j : Nat} {fl : List Bool} {ds : List AV} (hds : derefs st.heap fl (C.pts j) vs = some ds) (hsl : hasSl (tyL (C.rts j)) = false) (hio : C.io j = false)
    {y : den (tyL (C.pts j))} (hy : toDenL st.heap (C.pts j) ds = some y) {dst : Option Nat} (hd : ∀ d, dst = some d → d < nt) :
    ∃ fz : Nat → Prop, (∀ b, fz b → b < w.heap.size) ∧ RdArgs w.heap fz fl (C.pts j) y us ∧
      ∀ (v : Value) (w' : World) (q : den (tyL (C.rts j))), Ret C w (.plain w fz) j q w' v → ∃ x', SR x' w0 fz0 nt { st with env := putO st.env dst (tupOf (C.rts j) (ofDenL (C.rts j) q)) } (a.put dst v) w' ∧ FrsR C (C.fid inst) fz0 x' stk fs f xt := by
  rw [← h.H] at hds hy
  obtain ⟨fz, hfz⟩ : ∃ fz : Nat → Prop, ∀ b, fz b ↔ (frzCx x (toksL ds)).fz b ∨ ∃ T ∈ toksL vs, Owns x T b := ⟨_, fun b => Iff.rfl⟩
  have NF := frz_next h.hr h.hp (tok := 0) (toksL ds)
  have hlt : ∀ b, fz b → b < w.heap.size := fun b hb => by
    rcases (hfz b).1 hb with hb | ⟨T, _, ho⟩
    · have := NF.hr.size b hb
      rw [NF.hp] at this; exact this
    · have := (owns_size h.hr ho).2.2
      rw [h.hp] at this; exact this
  obtain ⟨cs, k1, k2⟩ := derefs_sound h.hr h.hp (ok := fz) hds hv (fun T hT b ho => (hfz b).2 (.inr ⟨T, hT, ho⟩))
  have hden : DenL w.heap fz (C.pts j) y cs := by
    have := toDenL_deep h.hr (fz' := fz) (fun b hb => (hfz b).2 (.inl (.inl hb))) (C.pts j) k1 (fun T hT t l ha b o hm => (hfz b).2 (.inl (frz_shows h.hr _ T hT t l ha b o hm))) hy
    rw [h.hp] at this; exact this
  refine ⟨fz, hlt, ⟨cs, k2, hden⟩, fun v w' q hret => ?_⟩
  obtain ⟨ow, ok, rvs, hok, hnd, hown, rfl, hres⟩ := hret.res
  rw [hio] at hres
  have hres : ResL w'.heap ok (C.rts j) q rvs ow := hres
  have N2 := call_next h.hr h.hp h.n0 hret.bel (fun _ => False)
  obtain ⟨_, hD⟩ := ResL_plain (C.rts j) (own_sl _ hsl) hres
  have hD1 : DenL (callCx x w w' (fun _ => False)).hp (callCx x w w' (fun _ => False)).fz (C.rts j) q rvs := DenL_noSl _ hsl hD
  have hrv := tupOf_RV (ofDenL_RVL (x := callCx x w w' (fun _ => False)) (C.rts j) hD1) (ofDenL_length _ q).symm
  exact ⟨_, h.next N2 (fun _ _ => trivial) hd hrv h.H, hF.mono N2.ext fun _ _ => trivial⟩
theorem parL_RVL {x : Cx} (ts : List Ty) : ∀ {fl : List Bool} {y : den (tyL ts)} {us ds : List Value}, PtrsL x.hp x.fz fl ts us ds → DenL x.hp x.fz ts y ds → RVL x (parL fl ts y) us := by
  have one : ∀ (t : Ty) (y : den t) {b : Nat} {c : Array Value} {e : TypeId} {fr : Nat × Nat} {d : Value}, x.fz b → x.hp[b]? = some (Obj.cells c e fr) → (match isAgg t with
      | true => d = .agg (row c 0 (csz t)).toArray
      | false => row c 0 (csz t) = [d]) → DenV x.hp x.fz t y d → RV x (.rptr t y 0) (.pointer (some ⟨b, 0, none⟩)) := by
    intro t y b c e fr d h1 h2 h3 h4
    refine .rptr t y 0 b 0 c e fr h1 h2 ?_
    unfold DenV at h4
    cases hag : isAgg t with
    | true =>
      rw [hag] at h3 h4
      obtain ⟨vs, rfl, h4⟩ := h4
      simp only [Value.agg.injEq] at h3
      have : vs = row c 0 (csz t) := by simpa using congrArg Array.toList h3
      rw [← this]; exact h4
    | false =>
      rw [hag] at h3 h4
      simp only at h3
      rw [h3]; exact h4.2
  induction ts with
  | nil =>
    intro fl y us ds hp hd
    cases hp; exact .nil
  | cons t ts ih =>
    cases ts with
    | nil =>
      intro fl y us ds hp hd
      rw [DenL_1] at hd
      obtain ⟨v, rfl, hd⟩ := hd
      cases hp with
      | keep fl _ _ _ vs ds k =>
        cases k
        exact .cons _ _ _ _ (ofDen_RV hd) .nil
      | cons fl _ _ b c e fr _ vs ds k1 k2 k3 k4 =>
        cases k4
        exact .cons _ _ _ _ (one t y k1 k2 k3 hd) .nil
    | cons u ts =>
      intro fl y us ds hp hd
      rw [DenL_2] at hd
      obtain ⟨v, vs', rfl, hd1, hd2⟩ := hd
      cases hp with
      | keep fl _ _ _ vs ds k => exact .cons _ _ _ _ (ofDen_RV hd1) (ih k hd2)
      | cons fl _ _ b c e fr _ vs ds k1 k2 k3 k4 => exact .cons _ _ _ _ (one t y.1 k1 k2 k3 hd1) (ih k4 hd2)
end
end Go.Proofs.YtpdfjgooaaailaaGreatDoor.K
namespace Go.Proofs.YtpdfjgooaaailaaGreatDoor.K
open Go
open Go.RowKit (Below)
section
variable {P : Program} {C : Ctx} (hC : CtxOk P C) {s : Sm C} (hS : SpecOk P s) (hG : StageOk P s) {inst : Nat} {r : den (tyL (C.rts inst))} {w0 : World} {fz0 : Lay} (hfz0 : LayOk w0 fz0) (hinv : ∀ w', Bel fz0.own w0 w' → C.inv w')
theorem get_pick (l : List (Nat × Shape)) (e : Env) (t : Nat) : get (l.map fun p => (p.1, get e p.1)) t = .undef ∨ get (l.map fun p => (p.1, get e p.1)) t = get e t := by
  induction l with
  | nil => exact .inl rfl
  | cons p l ih =>
    simp only [List.map_cons, get]
    split
    · rename_i h
      have := Nat.eq_of_beq_eq_true h
      subst this
      exact .inr rfl
    · exact ih
theorem EnvR.pick {x : Cx} {e : Env} {a : Act} (h : EnvR x e a) (o : Option Ann) : EnvR x (pickE o e) a := by
  cases o with
  | none => exact h
  | some an =>
    intro t
    rcases get_pick an.live e t with h0 | h1
    · show RV x (get (an.live.map fun p => (p.1, get e p.1)) t) _
      rw [h0]; exact .undef _
    · show RV x (get (an.live.map fun p => (p.1, get e p.1)) t) _
      rw [h1]; exact h t
theorem get_parEnv : ∀ (vs : List AV) (i t : Nat), get (parEnv i vs) t = if t < i then .undef else vs.getD (t - i) .undef
  | [], i, t => by simp [parEnv, get]
  | v :: vs, i, t => by
    simp only [parEnv, get]
    by_cases h : i = t
    · subst h; simp [beq_self]
    · rw [beq_ne h]
      simp only
      rw [get_parEnv vs (i + 1) t]
      by_cases h1 : t < i
      · rw [if_pos (by omega), if_pos h1]
      · rw [if_neg (by omega), if_neg h1]
        have : t - i = (t - (i + 1)) + 1 := by omega
        rw [this]; rfl
theorem enter_mk {g : Nat} {fn : Func} {body : Code} (hf : P.funcs[g]? = some fn) (hb : fn.body = some body) (args : Array Value) :
    Frame.enter P g args .normal = mk (none, []) g { tmps := args ++ Array.replicate (fn.ntmps - args.size) undef, defers := [] } [.code body] := by
  simp [Frame.enter, mk, fk, am, marksD, Frame.atR, hf, hb]
theorem enter_env {x : Cx} {vs : List AV} {us : List Value} (h : RVL x vs us) (n : Nat) : EnvR x (parEnv 0 vs) { tmps := us.toArray ++ Array.replicate n undef, defers := [] } := by
  intro t
  rw [get_parEnv]
  simp only [Nat.not_lt_zero, if_false, Nat.sub_zero]
  have hl := h.length
  by_cases ht : t < vs.length
  · have e : vs.getD t .undef = vs[t] := by simp [List.getD, ht]
    obtain ⟨u, hu, hr⟩ := RVL.get t h (List.getElem?_eq_getElem ht)
    rw [e]
    have : ((us.toArray ++ Array.replicate n undef).getD t undef) = u := by
      simp only [Array.getD_eq_getD_getElem?]
      rw [Array.getElem?_append_left (by simp; omega)]
      simp [hu]
    rw [this]; exact hr
  · have e : vs.getD t .undef = .undef := by simp [List.getD, List.getElem?_eq_none (show vs.length ≤ t by omega)]
    rw [e]; exact .undef _
theorem Fin.of_stop {R : Ending → World → Prop} {f0 f : FuncId} {xt : Xt} {a : Act} {c : Code} {td : List Item} {fs : List Frame} {w : World} (h : Fin P R f0 (mk xt f a (stopTodo c td)) fs w) :
    Fin P R f0 (mk xt f a (.code c :: td)) fs w := by
  cases c with
  | loop b => exact Fin.of_step (fun cs => k_loop) h
  | _ => exact h
variable {f : Nat} {xt : Xt} {fn : Func} {body : Code} (hfn : C.fn f = some fn) (hbody : fn.body = some body)
abbrev FinS (P : Program) (C : Ctx) (w0 : World) (fz0 : Lay) (inst : Nat) (r : den (tyL (C.rts inst))) (fr : Frame) (fs : List Frame) (w : World) : Prop :=
  Fin P (RetE C w0 fz0 inst r) (C.fid inst) fr fs w
theorem putPs_env {x : Cx} : ∀ {ds : List Nat} {vs : List AV} {us : List Value} {e : Env} {t : Array Value} (hv : RVL x vs us) (hl : ds.length = us.length) (hd : ∀ d ∈ ds, d < t.size) (h : EnvR x e { tmps := t, defers := [] }),
    EnvR x (putPs ds vs e) { tmps := (ds.zip us).foldl (fun t p => t.setIfInBounds p.1 p.2) t, defers := [] } ∧ ((ds.zip us).foldl (fun t p => t.setIfInBounds p.1 p.2) t).size = t.size := by
  intro ds
  induction ds with
  | nil => intro vs us e t hv hl hd h; cases vs <;> exact ⟨h, rfl⟩
  | cons d ds ih =>
    intro vs us e t hv hl hd h
    cases hv with
    | nil => cases hl
    | cons v u vs us h1 h2 =>
      have := put_env (d := d) h h1 (hd d (by simp))
      obtain ⟨k1, k2⟩ := ih (e := put e d v) (t := t.setIfInBounds d u) h2 (by simpa using hl) (fun d' hd' => by simpa using hd d' (by simp [hd'])) this
      refine ⟨k1, ?_⟩
      simpa using k2
theorem foldl_zip {ps : Array Nat} {us : List Value} (t : Array Value) : (ps.zip us.toArray).foldl (fun tmps (d, a) => tmps.setIfInBounds d a) t = (ps.toList.zip us).foldl (fun t p => t.setIfInBounds p.1 p.2) t := by
  rw [← Array.foldl_toList, Array.toList_zip]
include hG hfz0 hinv hfn hbody in
theorem yield_sound {path : Path} {id : Nat} {ops : Array Oper} {draw : Bool} {lf : Fr} {fs : List Frame} {i : Nat} {rest : List Nat} {o : Oper}
    (hat : codeAt body path = some (.region id ops draw)) (hrd : rnd body path = xt.1.isSome) (ho : ops[i]? = some o) (hd : ∀ d, o.dst = some d → d < fn.ntmps)
    {st : St} {x : Cx} {a : Act} {w : World} {fo : Operand} {args : Array Operand} {ats : Array TypeId} (hop : o.op = .call ⟨.value fo, args, ats⟩) (hfo : ev st.env fo = .yld)
    {lfn : Func} {lb : Code} {g0 : Operand} {ps : Array Tmp} {asg b0 : Code} (hlfn : C.fn lf.f = some lfn) (hls : lf.ls = .ready) (hlb : lfn.body = some lb) (hlc : codeAt lb lf.path = some (.rangeFunc g0 ps asg b0))
    (hn : args.size = ps.size) (hps : ps.toList.all (fun d => Nat.blt d lfn.ntmps) = true)
    (h : s.stage inst [{ f := f, path := path, op := i, rest := rest, env := pickE (C.ann inst f ((i + 1000000) :: path)) st.env, salt := st.salt }, lf] lf.f (0 :: lf.path)
      { env := putPs ps.toList (args.toList.map (ev st.env)) lf.env, heap := st.heap, salt := subSalt lf.salt 4094 } = some r)
    (hR : SR x w0 fz0 fn.ntmps st a w) (hF : FrsR C (C.fid inst) fz0 x [lf] fs f xt)
    (hw : Region.wanted o (yielded ops a.tmps) = true) : FinS P C w0 fz0 inst r (mk xt f a (.inRegion ops (i :: rest) :: ctxOf body path)) fs w := by
  cases hF with
  | cons _ _ F fs' _ xt' fn' body' a' id' ops' draw' o' hW hF' =>
    have h1 := hW.hfn; rw [hlfn] at h1; cases h1
    have h2 := hW.hbody; rw [hlb] at h2; cases h2
    have h3 := hW.hcode; rw [hlc] at h3; cases h3
  | loop _ F _ l fn' body' a' ms g ps' asg' b d hL hf0 =>
    have h1 := hL.hfn; rw [hlfn] at h1; cases h1
    have h2 := hL.hbody; rw [hlb] at h2; cases h2
    have h3 := hL.hcode; rw [hlc] at h3; cases h3
    have hfv := ev_RV hR.env fo
    rw [hfo] at hfv
    generalize hfoe : a.eval fo = fv at hfv
    cases hfv with
    | yld l' hl' =>
    have e := hL.lp; rw [hl'] at e; cases e
    have hat' : w.heap[l]? = some (.loop (recOf lf.ls lf.f a' ps asg b0 d)) := by rw [← hR.hp]; exact hL.hp
    have hargs := ev_RVL hR.env args.toList
    have hrun : (execOp a.eval o).run P w = .ok (.round l lf.f ((ps.zip (args.map a.eval)).foldl (fun tmps (t, a) => tmps.setIfInBounds t a) a'.tmps) asg b0) w := by
      obtain ⟨dst, op, type, pos, after, guard⟩ := o
      simp only at hop
      subst hop
      exact run_yielded hfoe hat' hn
    have hnd : ∀ c, o.op ≠ .defer c := fun c h => by rw [hop] at h; cases h
    refine Fin.of_step (fs' := mk (none, []) f a (.inRegion ops (i :: rest) :: ctxOf body path) :: [F]) (fun cs => step_round ho hw hnd hrun) ?_
    have hmap : args.map a.eval = (args.toList.map a.eval).toArray := by apply Array.ext'; simp
    rw [hmap, foldl_zip]
    have ha' : EnvR x lf.env { tmps := a'.tmps, defers := [] } := fun t => hL.env t
    obtain ⟨q1, q2⟩ := putPs_env (ds := ps.toList) hargs (by simp [hn]) (fun d hd' => by
      have := List.all_eq_true.1 hps d hd'
      have := Nat.le_of_ble_eq_true this
      rw [hL.size]; exact this) ha'
    refine Fin.of_stop (c := asg) (td := [.beginRound, .code b0]) ?_
    have hc1 : codeAt lb (0 :: lf.path) = some asg := by simp only [codeAt, hlc]
    have hcx : ctxOf lb (0 :: lf.path) = [.beginRound, .code b0] := by simp only [ctxOf, hlc]
    have hr1 : rnd lb (0 :: lf.path) = true := by simp only [rnd, hlc]
    have := hG inst _ lf.f (0 :: lf.path) _ r h w0 fz0 x [mk (none, []) f a (.inRegion ops (i :: rest) :: ctxOf body path), F] (some l, []) _ w lfn lb asg hfz0 hinv hlfn hlb hc1 hr1
      ⟨hR.hp, hR.H, q1, by rw [q2]; exact hL.size, rfl, hR.hr, hR.fz, hR.bel, hR.new⟩
      (.round _ _ _ _ l fn body a id ops draw o lfn lb a' ms _ ps asg b0 d ⟨hfn, hbody, hat, ho, hR.env.pick _, hR.defers, hR.size, hd, hrd, rfl⟩ hL hf0)
    rw [hcx] at this
    exact this
include hC hS hG hfz0 hinv hfn hbody in
theorem doOp_sound {path : Path} {id : Nat} {ops : Array Oper} {draw : Bool} {stk : List Fr} {fs : List Frame} {K : St → Option (den (tyL (C.rts inst)))} {i : Nat} {rest : List Nat} {o : Oper}
    (hat : codeAt body path = some (.region id ops draw)) (hrd : rnd body path = xt.1.isSome) (ho : ops[i]? = some o) (hd : ∀ d, o.dst = some d → d < fn.ntmps)
    (hK : ∀ st x a w, K st = some r → SR x w0 fz0 fn.ntmps st a w → FrsR C (C.fid inst) fz0 x stk fs f xt → FinS P C w0 fz0 inst r (mk xt f a (.inRegion ops rest :: ctxOf body path)) fs w)
    {st : St} {x : Cx} {a : Act} {w : World} (h : doOp s inst stk f path i rest o K st = some r) (hR : SR x w0 fz0 fn.ntmps st a w) (hF : FrsR C (C.fid inst) fz0 x stk fs f xt)
    (hw : Region.wanted o (yielded ops a.tmps) = true) : FinS P C w0 fz0 inst r (mk xt f a (.inRegion ops (i :: rest) :: ctxOf body path)) fs w := by
  unfold doOp at h
  simp only [forceN_eq] at h
  split at h
  ·
    rename_i fo args ats hop
    split at h
    · rename_i g first caps hfo
      split at h
      · cases h
      · rename_i gfn hgfn
        have hfv := ev_RV hR.env fo
        rw [hfo] at hfv
        have hargs := ev_RVL hR.env args.toList
        generalize hfoe : a.eval fo = fv at hfv
        cases hfv with
        | func _ _ _ vs1 vs2 q1 q2 =>
        have hrv : RVL x (first ++ args.toList.map (ev st.env) ++ caps) (vs1 ++ args.toList.map a.eval ++ vs2) := (q1.append hargs).append q2
        have hrun : (execOp a.eval o).run P w = .ok (.enter g (vs1 ++ args.toList.map a.eval ++ vs2).toArray) w := by
          obtain ⟨dst, op, type, pos, after, guard⟩ := o
          simp only at hop
          subst hop
          exact run_call hC hfoe hgfn
        have hnd : ∀ c, o.op ≠ .defer c := fun c h => by rw [hop] at h; cases h
        obtain ⟨g1, g2, g3⟩ := hC.fn g gfn hgfn
        refine Fin.of_step (fs' := mk xt f a (.inRegion ops (i :: rest) :: ctxOf body path) :: fs) (fun cs => by rw [step_enter ho hw hnd hrun]; rfl) ?_
        split at h
        ·
          rename_i j hdisp
          split at h
          ·
            rename_i hio
            unfold ioCall at h
            split at h
            · rename_i T off vs' hvs
              split at h
              · rename_i cs hT
                split at h
                · rename_i gv sh y hchk hg hy
                  split at h
                  · cases h
                  · rename_i hnd
                    simp only [Bool.and_eq_true] at hchk hnd
                    obtain ⟨hbeq, hoff, hfr⟩ := hchk
                    have hfid := beq_true hbeq
                    have hoff := beq_true hoff
                    subst hoff
                    rw [hvs] at hrv
                    obtain ⟨q, hq, hk⟩ := Option.bind_eq_some_iff.1 h
                    have hfr : ∃ tok', ((∀ T ∈ envToks st.env, ¬ InB tok' T) ∧ (∀ T ∈ heapToks st.heap, ¬ InB tok' T) ∧ ∀ T ∈ stkToks stk, ¬ InB tok' T) ∧ ∀ q, impL tok' (C.rts j) q 0 = impL (tokBase st.salt (o.dst.getD 0)) (C.rts j) q 0 := by
                      rw [Bool.or_eq_true] at hfr
                      rcases hfr with h1 | h1
                      · obtain ⟨tok', ht⟩ := exists_fresh (envToks st.env ++ heapToks st.heap ++ stkToks stk)
                        rw [Bool.not_eq_true'] at h1
                        exact ⟨tok', ⟨fun T hT => ht T (by simp [hT]), fun T hT => ht T (by simp [hT]), fun T hT => ht T (by simp [hT])⟩, fun q => by rw [impL_no _ _ _ _ h1, impL_no _ _ _ _ h1]⟩
                      · exact ⟨_, freshAt_ok h1, fun q => rfl⟩
                    obtain ⟨tok', hfr, hti⟩ := hfr
                    obtain ⟨L, c1, c2, c3, c4⟩ := io_step hC hR hF hrv hT hio hg hy hnd.1 (fun t ht => by have := List.all_eq_true.1 hnd.2 t ht; simpa using this) (dst := o.dst) hd hfr
                    have hcalls := hS j y q hq w L _ c1 (by rw [hfid, hgfn]; rfl) (fun w' hw' => hinv w' (hR.bel.trans (hw'.mono c2))) (by rw [hio]; exact c3 _)
                    rw [hfid] at hcalls
                    refine Fin.call (G := fun v w' => Ret C w L j q w' v) hcalls fun v w' hret => ?_
                    rw [finish_mk xt f a ops i rest _ v ho]
                    split at hk
                    · rename_i cs' rs hn n himp
                      split at hk
                      · rename_i hn16
                        obtain ⟨x', k1, k2⟩ := c4 v w' q hret cs' rs hn n ((hti q).trans himp) (Nat.le_of_ble_eq_true hn16)
                        exact hK _ x' _ w' hk k1 k2
                      · cases hk
                    · cases hk
                · cases h
              · cases h
            · cases h
          rename_i hio
          split at h
          ·
            rename_i bf fl hrd
            unfold rdCall at h
            split at h
            · cases h
            · rename_i ds hds
              split at h
              · rename_i y hchk hy
                simp only [Bool.and_eq_true, Bool.not_eq_true'] at hchk
                obtain ⟨hbeq, hsl⟩ := hchk
                have hfid := beq_true hbeq
                obtain ⟨q, hq, hk⟩ := Option.bind_eq_some_iff.1 h
                obtain ⟨fz, c1, c2, c3⟩ := rd_step hC hR hF hrv hds hsl hio hy (dst := o.dst) hd
                have hcalls := hS j y q hq w _ _ (LayOk.plain c1) (by rw [hfid, hgfn]; rfl) (fun w' hw' => hinv w' (hR.bel.trans (hw'.mono hR.n0))) (by rw [hio, hrd]; exact c2)
                rw [hfid] at hcalls
                refine Fin.call (G := fun v w' => Ret C w (.plain w fz) j q w' v) hcalls fun v w' hret => ?_
                rw [finish_mk xt f a ops i rest _ v ho]
                obtain ⟨x', k1, k2⟩ := c3 v w' q hret
                exact hK _ x' _ w' hk k1 k2
              · cases h
          rename_i hrd
          split at h
          · rename_i y hbeq hy
            have hfid := beq_true hbeq
            obtain ⟨q, hq, hk⟩ := Option.bind_eq_some_iff.1 h
            obtain ⟨c1, c2, c3⟩ := call_step hC hR hF hrv hy (dst := o.dst) hd hio
            have hcalls := hS j y q hq w _ _ (LayOk.plain c1) (by rw [hfid, hgfn]; rfl) (fun w' hw' => hinv w' (hR.bel.trans (hw'.mono hR.n0))) (by rw [hio, hrd]; exact c2)
            rw [hfid] at hcalls
            refine Fin.call (G := fun v w' => Ret C w (.plain w (frzCx x (toksL (first ++ args.toList.map (ev st.env) ++ caps))).fz) j q w' v) hcalls fun v w' hret => ?_
            rw [finish_mk xt f a ops i rest _ v ho]
            obtain ⟨d1, d2⟩ := c3 v w' q hret
            split at hk
            · rename_i hown d' hdst
              split at hk
              · rename_i rs hn n hfr himp
                split at hk
                · rename_i hn16
                  obtain ⟨x', k1, k2⟩ := d2 _ rs hn n hfr himp (Nat.le_of_ble_eq_true hn16)
                  exact hK _ x' _ w' hk k1 k2
                · cases hk
              · cases hk
            · rename_i hno
              have : hasOwn (tyL (C.rts j)) = false ∨ o.dst = none := by
                cases h1 : hasOwn (tyL (C.rts j)) with
                | false => exact .inl rfl
                | true =>
                  cases h2 : o.dst with
                  | none => exact .inr rfl
                  | some d' => exact absurd h2 (hno d' h1)
              obtain ⟨x', k1, k2⟩ := d1 this
              exact hK _ x' _ w' hk k1 k2
          · cases h
        ·
          obtain ⟨gbody, hgb⟩ := Option.isSome_iff_exists.1 g2
          rw [enter_mk g1 hgb]
          split at h
          · rename_i hle
            have hle := Nat.le_of_ble_eq_true hle
            have hlen := hrv.length
            refine Fin.of_stop (c := gbody) (td := []) ?_
            refine hG inst _ g [] _ r h w0 fz0 x (mk xt f a (.inRegion ops (i :: rest) :: ctxOf body path) :: fs) (none, []) _ w gfn gbody gbody hfz0 hinv hgfn hgb rfl rfl ?_ ?_
            · exact ⟨hR.hp, hR.H, enter_env hrv _, by simp at hle hlen ⊢; omega, rfl, hR.hr, hR.fz, hR.bel, hR.new⟩
            · exact .cons { f := f, path := path, op := i, rest := rest, env := pickE (C.ann inst f ((i + 1000000) :: path)) st.env, salt := st.salt } stk _ fs g xt fn body a id ops draw o ⟨hfn, hbody, hat, ho, hR.env.pick _, hR.defers, hR.size, hd, hrd, rfl⟩ hF
          · cases h
        · cases h
    ·
      rename_i hfo
      split at h
      · rename_i lf
        split at h
        · rename_i lfn hlfn hls
          split at h
          · cases h
          · rename_i lb hlb
            split at h
            · rename_i g0 ps asg b0 hlc
              split at h
              · rename_i hchk
                rw [Bool.and_eq_true] at hchk
                obtain ⟨hn, hps⟩ := hchk
                have hn := beq_true hn
                exact yield_sound hG hfz0 hinv hfn hbody hat hrd ho hd hop hfo hlfn hls hlb hlc hn hps h hR hF hw
              · cases h
            · cases h
        · cases h
      · cases h
    · cases h
  ·
    rename_i op hnc
    split at h
    · cases h
    · cases h
    · rename_i c b v1 v2 H hop hm
      cases hc : c with
      | false => rw [hc] at h; simp at h
      | true =>
        rw [hc] at h
        simp only [cond_true] at h
        obtain ⟨nx, v, w', x', k1, k2, k3, k4⟩ := plain_step hC hR hF hop hc hm hd
        have hnd : ∀ c, o.op ≠ .defer c := fun c h => by rw [h] at hop; cases hop
        refine Fin.of_step (fs' := fs) (fun cs => step_val ho hw hnd k1 k2) ?_
        cases b with
        | true => exact hK _ x' _ w' h k3 k4
        | false => exact hK _ x' _ w' h k3 k4
theorem yielded_none {x : Cx} {e : Env} {a : Act} (h : EnvR x e a) {ops : Array Oper} {j d : Nat} (hj : (ops[j]?).bind (·.dst) = some d) {v : Value} (hv : get e d = .cst v) (hnb : ∀ b, v = .bool b → False) : yielded ops a.tmps j = none := by
  have hr := h d
  rw [hv] at hr
  generalize hve : a.tmps.getD d undef = gv at hr
  cases hr with
  | cst _ =>
  unfold yielded
  rw [hj]
  cases ht : a.tmps[d]? with
  | none => simp [ht]
  | some u =>
    have : u = v := by simpa [Array.getD_eq_getD_getElem?, ht] using hve
    subst this
    simp only [Option.bind_some, ht]
    cases u with
    | bool b => exact (hnb b rfl).elim
    | _ => rfl
include hC hS hG hfz0 hinv hfn hbody in
theorem runOps_sound {path : Path} {id : Nat} {ops : Array Oper} {draw : Bool} {stk : List Fr} {fs : List Frame} {K : St → Option (den (tyL (C.rts inst)))}
    (hat : codeAt body path = some (.region id ops draw)) (hrd : rnd body path = xt.1.isSome)
    (hK : ∀ st x a w, K st = some r → SR x w0 fz0 fn.ntmps st a w → FrsR C (C.fid inst) fz0 x stk fs f xt → FinS P C w0 fz0 inst r (mk xt f a (ctxOf body path)) fs w) :
    ∀ (l : List Nat) (st : St) (x : Cx) (a : Act) (w : World), runOps s inst stk f fn.ntmps path ops K l st = some r → SR x w0 fz0 fn.ntmps st a w → FrsR C (C.fid inst) fz0 x stk fs f xt →
      FinS P C w0 fz0 inst r (mk xt f a (.inRegion ops l :: ctxOf body path)) fs w := by
  intro l
  induction l with
  | nil =>
    intro st x a w h hR hF
    exact Fin.of_step (fun cs => k_region_end) (hK st x a w h hR hF)
  | cons i rest ih =>
    intro st x a w h hR hF
    simp only [runOps] at h
    split at h
    · cases h
    · rename_i o ho
      split at h
      · cases h
      · rename_i hdst
        have hd : ∀ d, o.dst = some d → d < fn.ntmps := by
          intro d hd
          rw [hd] at hdst
          exact Nat.lt_of_succ_le (Nat.le_of_ble_eq_true hdst)
        split at h
        ·
          rename_i hg
          exact doOp_sound hC hS hG hfz0 hinv hfn hbody hat hrd ho hd (fun st x a w h hR hF => ih st x a w h hR hF) h hR hF (by simp [Region.wanted, hg])
        · rename_i j want hg
          split at h
          · cases h
          · rename_i d hjd
            split at h
            · rename_i g hgd
              have hv := hR.env d
              rw [hgd] at hv
              generalize hve : a.tmps.getD d undef = gv at hv
              cases hv with
              | bool _ =>
              have hlt : d < a.tmps.size := by
                rcases Nat.lt_or_ge d a.tmps.size with h' | h'
                · exact h'
                · rw [Array.getD_eq_getD_getElem?, Array.getElem?_eq_none h'] at hve; simp [undef] at hve
              have hy : yielded ops a.tmps j = some g := by
                unfold yielded
                rw [hjd]
                have : a.tmps[d]? = some (.bool g) := by
                  rw [Array.getD_eq_getD_getElem?, Array.getElem?_eq_getElem hlt] at hve
                  rw [Array.getElem?_eq_getElem hlt]
                  simpa using hve
                simp [this]
              have hwant : ∀ b, g = b → Region.wanted o (yielded ops a.tmps) = (b == want) := by
                intro b hb; subst hb; simp [Region.wanted, hg, hy]
              have known : ∀ b, g = b → SR x w0 fz0 fn.ntmps { st with env := put st.env d (.bool b) } a w := by
                intro b hb; subst hb
                exact ⟨hR.hp, hR.H, known_env hR.env (by rw [hve]; exact .bool _), hR.size, hR.defers, hR.hr, hR.fz, hR.bel, hR.new⟩
              have yes : ∀ b, g = b → (b == want) = true → doOp s inst stk f path i rest o (fun st => runOps s inst stk f fn.ntmps path ops K rest st) { st with env := put st.env d (.bool b) } = some r →
                  FinS P C w0 fz0 inst r (mk xt f a (.inRegion ops (i :: rest) :: ctxOf body path)) fs w := by
                intro b hb hbw h
                exact doOp_sound hC hS hG hfz0 hinv hfn hbody hat hrd ho hd (fun st x a w h hR hF => ih st x a w h hR hF) h (known b hb) hF (by rw [hwant b hb, hbw])
              have no : ∀ b, g = b → (b == want) = false → runOps s inst stk f fn.ntmps path ops K rest { st with env := putO (put st.env d (.bool b)) o.dst (.cst undef) } = some r →
                  FinS P C w0 fz0 inst r (mk xt f a (.inRegion ops (i :: rest) :: ctxOf body path)) fs w := by
                intro b hb hbw h
                refine Fin.of_step (fun cs => step_skipped ho (by rw [hwant b hb, hbw])) ?_
                have k := known b hb
                exact ih _ x _ w h ⟨k.hp, k.H, putO_env k.env (.cst _) (fun t ht => by rw [hR.size]; exact hd t ht), by rw [put_size]; exact hR.size, by rw [put_defers]; exact hR.defers, hR.hr, hR.fz, hR.bel, hR.new⟩ hF
              split at h
              · cases hge : g with
                | true => rw [hge] at h; exact yes true hge rfl h
                | false => rw [hge] at h; exact no false hge rfl h
              · cases hge : g with
                | true => rw [hge] at h; exact no true hge rfl h
                | false => rw [hge] at h; exact yes false hge rfl h
            · rename_i v hgd
              split at h
              · cases h
              · rename_i hnb
                have hy := yielded_none (ops := ops) hR.env hjd hgd (fun b hb => hnb b hb)
                refine Fin.of_step (fun cs => step_skipped ho (by simp [Region.wanted, hg, hy])) ?_
                exact ih _ x _ w h ⟨hR.hp, hR.H, putO_env hR.env (.cst _) (fun t ht => by rw [hR.size]; exact hd t ht), by rw [put_size]; exact hR.size, by rw [put_defers]; exact hR.defers, hR.hr, hR.fz, hR.bel, hR.new⟩ hF
            · cases h
end
end Go.Proofs.YtpdfjgooaaailaaGreatDoor.K
