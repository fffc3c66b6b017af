/- The abstract machine: regions whose operations go in an order that is drawn. -/
import Derived.Test.YtcdcijhfjiahkaaDoorRKF
import Derived.Orders
set_option linter.unusedVariables false
set_option linter.unusedSimpArgs false
namespace Go.Proofs.YtcdcijhfjiahkaaDoorR.K
open Go
open Go.RowKit (Below)

section
variable {P : Program} {C : Ctx}

theorem plain_congr {e e' : Env} {H : Heap} {tok : Nat} {op : Op} (hc : calm op = true) (h : ∀ x ∈ reads op, ev e' x = ev e x) : plainOp C e' H tok op = plainOp C e H tok op := by
  cases op with
  | slice t x lo hi mx =>
    have hx : ev e' x = ev e x := h x (by simp [reads])
    have hlo : lo.map (ev e') = lo.map (ev e) := by cases lo with
      | none => rfl
      | some y => simp [h y (by simp [reads])]
    have hhi : hi.map (ev e') = hi.map (ev e) := by cases hi with
      | none => rfl
      | some y => simp [h y (by simp [reads])]
    have hmx : mx.map (ev e') = mx.map (ev e) := by cases mx with
      | none => rfl
      | some y => simp [h y (by simp [reads])]
    simp only [plainOp, hx, hlo, hhi, hmx]
  | build t ps =>
    have : (ps.toList.map fun p => (p.1, ev e' p.2)) = ps.toList.map fun p => (p.1, ev e p.2) := by
      refine List.map_congr_left fun p hp => ?_
      rw [h p.2 (by simp only [reads, List.mem_map]; exact ⟨p, hp, rfl⟩)]
    simp only [plainOp, this]
  | call c =>
    obtain ⟨callee, args, ats⟩ := c
    cases callee with
    | builtin b =>
      have : args.toList.map (ev e') = args.toList.map (ev e) := by
        refine List.map_congr_left fun x hx => h x ?_
        cases b <;> simpa [reads] using hx
      simp only [plainOp, this]
    | _ => simp [calm] at hc
  | _ => first
    | (simp [calm] at hc; done)
    | (simp only [plainOp]; simp only [reads, List.mem_cons, List.not_mem_nil, or_false, forall_eq_or_imp, forall_eq] at h; simp only [h])

theorem freeze_nil (H : Heap) : freeze [] H = H := by
  induction H with
  | nil => rfl
  | cons p H ih => obtain ⟨u, b⟩ := p; simp only [freeze, ih]; cases b <;> rfl

theorem v_heap {v v1 v2 : AV} {H H' : Heap} {c b : Bool} (h : OR.v v H = .ok c b v1 v2 H') : H' = H := by
  simp only [OR.v, OR.ok.injEq] at h; exact h.2.2.2.2.symm
theorem cv_heap {v v1 v2 : AV} {H H' : Heap} {c b c' : Bool} (h : OR.cv c' v H = .ok c b v1 v2 H') : H' = H := by
  simp only [OR.cv, OR.ok.injEq] at h; exact h.2.2.2.2.symm
theorem ok_heap {v1 v2 u1 u2 : AV} {H H' : Heap} {c b c' b' : Bool} (h : OR.ok c' b' u1 u2 H = .ok c b v1 v2 H') : H' = H := by
  simp only [OR.ok.injEq] at h; exact h.2.2.2.2.symm

theorem binOp_heap {op : BinOp} {t : Nat} {x y v1 v2 : AV} {H H' : Heap} {c b : Bool} (h : binOp C op t x y H = .ok c b v1 v2 H') : H' = H := by
  unfold binOp at h
  repeat' (first | exact v_heap h | exact cv_heap h | exact ok_heap h | cases h | split at h)

theorem convert_heap {s d tok : Nat} {x v1 v2 : AV} {H H' : Heap} {c b : Bool} (h : convert C s d x tok H = .ok c b v1 v2 H') (hm : (eltSz C d).isSome = false) : H' = H := by
  unfold convert at h
  unfold eltSz at hm
  cases hd : C.ti d with
  | none => simp [hd] at h
  | some ti =>
    cases hs : C.ti s with
    | none => simp [hd, hs] at h
    | some ts =>
      simp only [hd, hs] at h hm
      split at h
      · exact v_heap h
      · exact v_heap h
      · rename_i e _ hsh
        simp only [hsh] at hm
        cases he : C.ti e with
        | none => simp [he] at h
        | some te => simp [he] at hm
      · repeat' (first | exact v_heap h | exact cv_heap h | exact ok_heap h | cases h | split at h)
      · cases h

theorem calm_heap {e : Env} {H H' : Heap} {tok : Nat} {op : Op} {c b : Bool} {v1 v2 : AV} (hc : calm op = true) (hm : makes C op = false) (h : plainOp C e H tok op = .ok c b v1 v2 H') : H' = H := by
  cases op with
  | binOp op t x y ty => exact binOp_heap h
  | convert s d x => exact convert_heap h hm
  | unOp op t x => simp only [plainOp] at h; unfold unOp at h; repeat' (first | exact v_heap h | exact cv_heap h | exact ok_heap h | cases h | split at h)
  | load t p =>
    simp only [plainOp] at h
    split at h
    · unfold loadOp at h; repeat' (first | exact v_heap h | exact cv_heap h | exact ok_heap h | cases h | split at h)
    · cases h
  | slice t x lo hi mx =>
    simp only [plainOp] at h
    split at h
    · split at h
      · unfold sliceOp at h; repeat' (first | exact v_heap h | exact cv_heap h | exact ok_heap h | cases h | split at h)
      · cases h
    · cases h
  | fieldAddr t x f =>
    simp only [plainOp] at h
    split at h
    · unfold fieldAddrOp at h; repeat' (first | exact v_heap h | exact cv_heap h | exact ok_heap h | cases h | split at h)
    · cases h
  | field t x f =>
    simp only [plainOp] at h
    split at h
    · unfold fieldOp at h; repeat' (first | exact v_heap h | exact cv_heap h | exact ok_heap h | cases h | split at h)
    · cases h
  | indexAddr t x i =>
    simp only [plainOp] at h
    split at h
    · unfold indexAddrOp at h; repeat' (first | exact v_heap h | exact cv_heap h | exact ok_heap h | cases h | split at h)
    · cases h
  | index t x i =>
    simp only [plainOp] at h
    split at h
    · unfold indexOp at h; repeat' (first | exact v_heap h | exact cv_heap h | exact ok_heap h | cases h | split at h)
    · cases h
  | extract x i => simp only [plainOp] at h; unfold extractOp at h; repeat' (first | exact v_heap h | exact cv_heap h | exact ok_heap h | cases h | split at h)
  | call cl =>
    obtain ⟨callee, args, ats⟩ := cl
    cases callee with
    | builtin bi =>
      simp only [plainOp] at h
      unfold builtinOp at h
      split at h <;> first
        | (simp [calm] at hc; done)
        | (repeat' (first | exact v_heap h | exact cv_heap h | exact ok_heap h | cases h | split at h))
    | _ => simp [calm] at hc
  | _ => first
    | (simp [calm] at hc; done)
    | (simp only [plainOp] at h; repeat' (first | exact v_heap h | exact cv_heap h | exact ok_heap h | cases h | split at h))

theorem ev_put_other {e : Env} {d : Nat} {v : AV} {x : Operand} (h : x ≠ .tmp d) : ev (put e d v) x = ev e x := by
  cases x with
  | tmp t =>
    simp only [ev]
    rw [get_put, if_neg]
    intro hc; subst hc; exact h rfl
  | _ => rfl

theorem ev_get {e e' : Env} {x : Operand} (h : ∀ t, x = .tmp t → get e' t = get e t) : ev e' x = ev e x := by
  cases x with
  | tmp t => exact h t rfl
  | _ => rfl

section
variable {s : Sm C} {inst : Nat}

/-- What a calm operation leaves hangs on what it looks at alone. -/
theorem calm_do {stk : List Fr} {f : Nat} {path : Path} {i : Nat} {rest : List Nat} {o : Oper} {K : St → Option (den (tyL (C.rts inst)))} {st : St} {r : den (tyL (C.rts inst))} (hc : calmAt (C := C) inst o st = true)
    (h : doOp s inst stk f path i rest o K st = some r) : ∃ v, K { st with env := putO st.env o.dst v } = some r ∧
      ∀ (rest' : List Nat) (K' : St → Option (den (tyL (C.rts inst)))) (e' : Env), (∀ x ∈ reads o.op, ev e' x = ev st.env x) → doOp s inst stk f path i rest' o K' { st with env := e' } = K' { st with env := putO e' o.dst v } := by
  unfold doOp at h
  simp only at h
  split at h
  · rename_i fo args ats hop
    unfold calmAt at hc
    rw [hop] at hc
    simp only at hc
    split at h
    · rename_i g first caps hfo
      rw [hfo] at hc
      simp only at hc
      split at h
      · cases h
      · rename_i gfn hgfn
        split at h
        · rename_i j hdisp
          rw [hdisp] at hc
          simp only [Bool.and_eq_true, Bool.or_eq_true, Bool.not_eq_true'] at hc
          obtain ⟨hc1, hc2⟩ := hc
          split at h
          · rename_i y hbeq hy
            obtain ⟨q, hq, hk⟩ := Option.bind_eq_some_iff.1 h
            have hsh : shown (hasSl (tyL (C.rts j))) (toksL (first ++ args.toList.map (ev st.env) ++ caps)) st.heap = st.heap := by
              rcases hc2 with h2 | h2
              · rw [h2]; rfl
              · rw [List.isEmpty_iff] at h2
                rw [h2]
                cases hasSl (tyL (C.rts j))
                · rfl
                · exact freeze_nil _
            have hno : ∀ d, hasOwn (tyL (C.rts j)) = true → o.dst = some d → False := by
              intro d h1 h2
              rcases hc1 with h3 | h3
              · rw [h3] at h1; cases h1
              · rw [h2] at h3; cases h3
            split at hk
            · rename_i d' h1 h2; exact (hno d' h1 h2).elim
            rw [hsh] at hk
            refine ⟨_, hk, fun rest' K' e' he => ?_⟩
            have efo : ev e' fo = .func g first caps := by rw [← hfo]; exact he fo (by simp [hop, reads])
            have eargs : args.toList.map (ev e') = args.toList.map (ev st.env) := List.map_congr_left fun x hx => he x (by simp [hop, reads, hx])
            unfold doOp
            rw [hop]
            simp only [efo, hgfn, eargs, hdisp, hbeq, hy, hq, Option.bind_some]
            rw [hsh]
          · cases h
        · rename_i hdisp; rw [hdisp] at hc; cases hc
        · cases h
    · cases h
  · rename_i op hnc
    have hcalm : calm o.op = true ∧ makes C o.op = false := by
      unfold calmAt at hc
      split at hc
      · rename_i fo args ats hop; exact absurd hop (hnc fo args ats)
      · simpa using hc
    obtain ⟨k1, k2⟩ := hcalm
    split at h
    · cases h
    · cases h
    · rename_i c b v1 v2 H hop hm
      have hH := calm_heap k1 k2 hop
      subst hH
      cases c with
      | false => cases h
      | true =>
        simp only [cond_true] at h
        refine ⟨cond b v1 v2, by cases b <;> exact h, fun rest' K' e' he => ?_⟩
        have hop' : plainOp C e' st.heap (tokBase st.salt (o.dst.getD 0)) o.op = .ok true b v1 v2 st.heap := by rw [plain_congr k1 he]; exact hop
        unfold doOp
        split
        · rename_i fo args ats hop2; exact absurd hop2 (hnc fo args ats)
        · simp only [hop', k2, Bool.not_false, Bool.true_or, cond_true]
          cases b <;> rfl

/-- A guard that lets its operation out. -/
def Off (v : AV) (want : Bool) : Prop := v = .bool (!want) ∨ ∃ u, v = .cst u ∧ ∀ b, u = .bool b → False

/-- An operation, done at last. -/
def OpDone (s : Sm C) (inst : Nat) (stk : List Fr) (f ntmps : Nat) (path : Path) (ops : Array Oper) (st : St) (e : Env) (i : Nat) : Prop :=
  ∃ o, ops[i]? = some o ∧ (∀ d, o.dst = some d → d < ntmps) ∧
    ((∃ v, (∀ d, o.dst = some d → get e d = v) ∧ (∀ (rest : List Nat) (K : St → Option (den (tyL (C.rts inst)))) (e' : Env), (∀ x ∈ reads o.op, ev e' x = ev e x) →
        doOp s inst stk f path i rest o K { st with env := e' } = K { st with env := putO e' o.dst v }) ∧ ∀ j want, o.guard = some (j, want) → ∃ d, dstAt ops j = some d ∧ get e d = .bool want) ∨
     ((∀ d, o.dst = some d → get e d = .cst undef) ∧ ∃ j want d, o.guard = some (j, want) ∧ dstAt ops j = some d ∧ Off (get e d) want))

/-- What is looked at before a region is drawn. -/
structure FreeAt (ops : Array Oper) (m i : Nat) (o : Oper) : Prop where
  edge : ∀ e ∈ o.after.toList, Region.binds .any e = true → e.on < i
  sees : ∀ t, .tmp t ∈ reads o.op → ∀ j, j < m → dstAt ops j = some t → bindsOn o j = true
  guard : ∀ j want, o.guard = some (j, want) → j < m ∧ bindsOn o j = true
  dst : ∀ d, o.dst = some d → ∀ j, j < m → j ≠ i → dstAt ops j ≠ some d

theorem freeOk_edge {ops : Array Oper} {m i : Nat} {o : Oper} (h : freeOk ops m i = true) (ho : ops[i]? = some o) : ∀ e ∈ o.after.toList, Region.binds .any e = true → e.on < i := by
  unfold freeOk at h
  rw [ho] at h
  simp only [Bool.and_eq_true, List.all_eq_true] at h
  intro e he hb
  have := h.1 e he
  rw [hb] at this
  simp only [Bool.not_true, Bool.false_or] at this
  exact Nat.lt_of_succ_le (Nat.le_of_ble_eq_true this)

theorem freeOk_at {ops : Array Oper} {m i : Nat} {o : Oper} (h : freeOk ops m i = true) (ho : ops[i]? = some o) (hi : i < m) : FreeAt ops m i o := by
  refine ⟨freeOk_edge h ho, ?_, ?_, ?_⟩
  all_goals
    unfold freeOk at h
    rw [ho] at h
    have hlt : Nat.blt i m = true := Nat.ble_eq_true_of_le hi
    simp only [Bool.and_eq_true, hlt, Bool.not_true, Bool.false_or] at h
    obtain ⟨_, h1, h2, h3⟩ := h
  · intro t ht j hj hd
    have := List.all_eq_true.1 h1 _ ht
    simp only [seesFree] at this
    have := List.all_eq_true.1 this j (List.mem_range.2 hj)
    rw [hd] at this
    simpa [beq_self] using this
  · intro j want hg
    rw [hg] at h2
    simp only [Bool.and_eq_true] at h2
    exact ⟨Nat.lt_of_succ_le (Nat.le_of_ble_eq_true h2.1), h2.2⟩
  · intro d hd j hj hne hdj
    rw [hd] at h3
    have := List.all_eq_true.1 h3 j (List.mem_range.2 hj)
    rw [hdj, beq_ne hne] at this
    simp [beq_self] at this

theorem binds_lt {ops : Array Oper} {i : Nat} {o : Oper} (h : ∀ e ∈ o.after.toList, Region.binds .any e = true → e.on < i) {j : Nat} (hb : bindsOn o j = true) : j < i := by
  unfold bindsOn at hb
  obtain ⟨e, he, hb⟩ := List.any_eq_true.1 hb
  simp only [Bool.and_eq_true] at hb
  have := h e he hb.1
  rw [beq_true hb.2] at this
  exact this

theorem get_known {e : Env} {d : Nat} {b : Bool} (h : get e d = .bool b) (t : Nat) : get (put e d (.bool b)) t = get e t := by
  rw [get_put]
  split
  · rename_i ht; subst ht; exact h.symm
  · rfl

theorem get_putO (e : Env) (o : Option Nat) (v : AV) (t : Nat) : get (putO e o v) t = if o = some t then v else get e t := by
  cases o with
  | none => simp [putO]
  | some d =>
    simp only [putO, get_put, Option.some.injEq]
    by_cases h : t = d
    · subst h; simp
    · rw [if_neg h, if_neg (Ne.symm h)]

theorem free_trace {stk : List Fr} {f ntmps : Nat} {path : Path} {ops : Array Oper} {K : St → Option (den (tyL (C.rts inst)))} {m : Nat} {r : den (tyL (C.rts inst))} (hok : ∀ i, i < m → freeOk ops m i = true) :
    ∀ (n k : Nat) (st : St), k + n = m → runFree s inst stk f ntmps path ops K (List.range' k n) st = some r →
      ∃ e, K { st with env := e } = some r ∧ (∀ t, (∀ i, k ≤ i → i < m → dstAt ops i ≠ some t) → get e t = get st.env t) ∧ ∀ i, k ≤ i → i < m → OpDone s inst stk f ntmps path ops st e i := by
  intro n
  induction n with
  | zero =>
    intro k st hk h
    exact ⟨st.env, h, fun _ _ => rfl, fun i h1 h2 => by omega⟩
  | succ n ih =>
    intro k st hk h
    rw [List.range'_succ] at h
    simp only [runFree] at h
    split at h
    · cases h
    · rename_i o ho
      split at h
      · cases h
      · rename_i hdc
        simp only [Bool.and_eq_true] at hdc
        obtain ⟨hdst, hcalm⟩ := hdc
        have hd : ∀ d, o.dst = some d → d < ntmps := by
          intro d hd
          rw [hd] at hdst
          exact Nat.lt_of_succ_le (Nat.le_of_ble_eq_true hdst)
        have F := freeOk_at (hok k (by omega)) ho (by omega)
        have hdk : dstAt ops k = o.dst := by simp [dstAt, ho]
        -- the steps behind
        have go : ∀ (st' : St) (v : AV), st'.heap = st.heap → st'.salt = st.salt → (∀ t, get st'.env t = get st.env t) →
            runFree s inst stk f ntmps path ops K (List.range' (k + 1) n) { st' with env := putO st'.env o.dst v } = some r →
            ∃ e, K { st with env := e } = some r ∧ (∀ t, (∀ i, k ≤ i → i < m → dstAt ops i ≠ some t) → get e t = get st.env t) ∧ (∀ i, k + 1 ≤ i → i < m → OpDone s inst stk f ntmps path ops st e i) ∧ (∀ d, o.dst = some d → get e d = v) ∧
              (∀ t j, j < k → dstAt ops j = some t → get e t = get st.env t) ∧ ∀ x ∈ reads o.op, ev e x = ev st'.env x := by
          intro st' v hh hsl hg hrun
          obtain ⟨e, h1, h2, h3⟩ := ih (k + 1) _ (by omega) hrun
          have unaff : ∀ t, (∀ i, k + 1 ≤ i → i < m → dstAt ops i ≠ some t) → o.dst ≠ some t → get e t = get st.env t := by
            intro t ht hne
            rw [h2 t ht]
            show get (putO st'.env o.dst v) t = _
            rw [get_putO, if_neg hne]
            exact hg t
          have old : ∀ t j, j < k → dstAt ops j = some t → get e t = get st.env t := by
            intro t j hj hdj
            obtain ⟨oj, hoj⟩ : ∃ oj, ops[j]? = some oj := by
              unfold dstAt at hdj
              cases hx : ops[j]? with
              | none => rw [hx] at hdj; cases hdj
              | some oj => exact ⟨oj, rfl⟩
            have Fj := freeOk_at (hok j (by omega)) hoj (by omega)
            have hojd : oj.dst = some t := by simpa [dstAt, hoj] using hdj
            refine unaff t (fun i h1 h2 => Fj.dst t hojd i h2 (by omega)) ?_
            rw [← hdk]
            exact Fj.dst t hojd k (by omega) (by omega)
          refine ⟨e, ?_, fun t ht => unaff t (fun i h1 h2 => ht i (by omega) h2) (by rw [← hdk]; exact ht k (by omega) (by omega)), fun i h1 h2 => ?_, fun d hd => ?_, old, fun x hx => ?_⟩
          · have : ({ st with env := e } : St) = { env := e, heap := st'.heap, salt := st'.salt } := by rw [hh, hsl]
            rw [this]; exact h1
          · have := h3 i h1 h2
            unfold OpDone at this ⊢
            simpa only [hh, hsl] using this
          · rw [h2 d (fun i h1 h2 => F.dst d hd i h2 (by omega))]
            show get (putO st'.env o.dst v) d = v
            rw [get_putO, if_pos hd]
          · refine ev_get fun t ht => ?_
            subst ht
            rw [hg t]
            by_cases hex : ∃ j, j < m ∧ dstAt ops j = some t
            · obtain ⟨j, hj, hdj⟩ := hex
              have hjk := binds_lt (ops := ops) F.edge (F.sees t hx j hj hdj)
              exact old t j hjk hdj
            · exact unaff t (fun i _ h2 hdi => hex ⟨i, h2, hdi⟩) (by rw [← hdk]; exact fun hdi => hex ⟨k, by omega, hdi⟩)
        have fin : ∀ (st' : St), st'.heap = st.heap → st'.salt = st.salt → (∀ t, get st'.env t = get st.env t) → calmAt (C := C) inst o st' = true → (∀ j want, o.guard = some (j, want) → ∃ d, dstAt ops j = some d ∧ get st.env d = .bool want) →
            doOp s inst stk f path k (List.range' (k + 1) n) o (fun st => runFree s inst stk f ntmps path ops K (List.range' (k + 1) n) st) st' = some r →
            ∃ e, K { st with env := e } = some r ∧ (∀ t, (∀ i, k ≤ i → i < m → dstAt ops i ≠ some t) → get e t = get st.env t) ∧ ∀ i, k ≤ i → i < m → OpDone s inst stk f ntmps path ops st e i := by
          intro st' hh hsl hg hca hgu hdo
          obtain ⟨v, hk1, hk2⟩ := calm_do hca hdo
          obtain ⟨e, e1, e2, e3, e4, e5, e6⟩ := go st' v hh hsl hg hk1
          refine ⟨e, e1, e2, fun i h1 h2 => ?_⟩
          by_cases hik : i = k
          · subst hik
            refine ⟨o, ho, hd, .inl ⟨v, e4, fun rest K' e' he => ?_, fun j want hgd => ?_⟩⟩
            · have := hk2 rest K' e' fun x hx => (he x hx).trans (e6 x hx)
              have q : ({ st with env := e' } : St) = { st' with env := e' } := by rw [← hh, ← hsl]
              have q2 : ({ st with env := putO e' o.dst v } : St) = { st' with env := putO e' o.dst v } := by rw [← hh, ← hsl]
              rw [q, q2]; exact this
            · obtain ⟨d, hd1, hd2⟩ := hgu j want hgd
              obtain ⟨hjm, hjb⟩ := F.guard j want hgd
              exact ⟨d, hd1, by rw [e5 d j (binds_lt (ops := ops) F.edge hjb) hd1]; exact hd2⟩
          · exact e3 i (by omega) h2
        have skip : ∀ (st' : St), st'.heap = st.heap → st'.salt = st.salt → (∀ t, get st'.env t = get st.env t) → (∃ j want d, o.guard = some (j, want) ∧ dstAt ops j = some d ∧ Off (get st.env d) want) →
            runFree s inst stk f ntmps path ops K (List.range' (k + 1) n) { st' with env := putO st'.env o.dst (.cst undef) } = some r →
            ∃ e, K { st with env := e } = some r ∧ (∀ t, (∀ i, k ≤ i → i < m → dstAt ops i ≠ some t) → get e t = get st.env t) ∧ ∀ i, k ≤ i → i < m → OpDone s inst stk f ntmps path ops st e i := by
          intro st' hh hsl hg hgu hdo
          obtain ⟨e, e1, e2, e3, e4, e5, e6⟩ := go st' (.cst undef) hh hsl hg hdo
          refine ⟨e, e1, e2, fun i h1 h2 => ?_⟩
          by_cases hik : i = k
          · subst hik
            obtain ⟨j, want, d, hgd, hd1, hd2⟩ := hgu
            obtain ⟨hjm, hjb⟩ := F.guard j want hgd
            exact ⟨o, ho, hd, .inr ⟨e4, j, want, d, hgd, hd1, by rw [e5 d j (binds_lt (ops := ops) F.edge hjb) hd1]; exact hd2⟩⟩
          · exact e3 i (by omega) h2
        split at h
        · rename_i hg
          exact fin st rfl rfl (fun _ => rfl) hcalm (fun j want h' => by rw [hg] at h'; cases h') h
        · rename_i j want hg
          split at h
          · cases h
          · rename_i d hjd
            have hjd : dstAt ops j = some d := hjd
            split at h
            · rename_i g hgd
              obtain ⟨hjm, hjb⟩ := F.guard j want hg
              have knw : ∀ b, g = b → ∀ t, get (put st.env d (.bool b)) t = get st.env t := fun b hb t => get_known (by rw [hgd, hb]) t
              have cal : ∀ b, g = b → calmAt (C := C) inst o { st with env := put st.env d (.bool b) } = true := by
                intro b hb
                have e1 : ∀ x, ev (put st.env d (.bool b)) x = ev st.env x := fun x => ev_get fun t _ => knw b hb t
                unfold calmAt at hcalm ⊢
                split
                · rename_i fo args ats hop
                  rw [hop] at hcalm
                  simp only at hcalm
                  have e2 : args.toList.map (ev (put st.env d (.bool b))) = args.toList.map (ev st.env) := List.map_congr_left fun x _ => e1 x
                  simp only [e1, e2]
                  exact hcalm
                · rename_i op hnc
                  split at hcalm
                  · rename_i fo args ats hop; exact absurd hop (hnc fo args ats)
                  · exact hcalm
              split at h
              · cases hge : g with
                | true =>
                  rw [hge] at h
                  exact fin { st with env := put st.env d (.bool true) } rfl rfl (knw true hge) (cal true hge) (fun j' want' h' => by rw [hg] at h'; cases h'; exact ⟨d, hjd, by rw [hgd, hge]⟩) h
                | false =>
                  rw [hge] at h
                  exact skip { st with env := put st.env d (.bool false) } rfl rfl (knw false hge) ⟨j, true, d, hg, hjd, .inl (by rw [hgd, hge]; rfl)⟩ h
              · cases hge : g with
                | true =>
                  rw [hge] at h
                  exact skip { st with env := put st.env d (.bool true) } rfl rfl (knw true hge) ⟨j, false, d, hg, hjd, .inl (by rw [hgd, hge]; rfl)⟩ h
                | false =>
                  rw [hge] at h
                  exact fin { st with env := put st.env d (.bool false) } rfl rfl (knw false hge) (cal false hge) (fun j' want' h' => by rw [hg] at h'; cases h'; exact ⟨d, hjd, by rw [hgd, hge]⟩) h
            · rename_i v hgd
              split at h
              · cases h
              · rename_i hnb
                exact skip st rfl rfl (fun _ => rfl) ⟨j, want, d, hg, hjd, .inr ⟨v, hgd, fun b hb => hnb b hb⟩⟩ h
            · cases h

/-! ### any order -/
theorem ready_spec {ops : Array Oper} {listed : Array Bool} {i : Nat} (h : i ∈ Region.ready .any ops listed) : i < ops.size ∧ listed.getD i true = false ∧ ∃ o, ops[i]? = some o ∧ ∀ e ∈ o.after.toList, Region.binds .any e = true → listed.getD e.on false = true := by
  unfold Region.ready at h
  simp only [List.mem_filter, List.mem_range, Bool.and_eq_true, Bool.not_eq_true'] at h
  obtain ⟨h1, h2, h3⟩ := h
  refine ⟨h1, h2, ops[i], Array.getElem?_eq_getElem h1, fun e he hb => ?_⟩
  rw [Array.getElem?_eq_getElem h1] at h3
  simp only [Option.map_some, Option.getD_some, Array.all_eq_true'] at h3
  have := h3 e (Array.mem_toList_iff.1 he)
  rw [hb] at this
  simpa using this

theorem ready_of {ops : Array Oper} {listed : Array Bool} {i : Nat} {o : Oper} (h1 : listed.getD i true = false) (ho : ops[i]? = some o) (h : ∀ e ∈ o.after.toList, Region.binds .any e = true → listed.getD e.on false = true) :
    i ∈ Region.ready .any ops listed := by
  unfold Region.ready
  have hi : i < ops.size := by
    rcases Nat.lt_or_ge i ops.size with h | h
    · exact h
    · rw [Array.getElem?_eq_none h] at ho; cases ho
  simp only [List.mem_filter, List.mem_range, Bool.and_eq_true, Bool.not_eq_true']
  refine ⟨hi, h1, ?_⟩
  rw [ho]
  simp only [Option.map_some, Option.getD_some, Array.all_eq_true']
  intro e he
  cases hb : Region.binds .any e with
  | false => rfl
  | true => simp [h e (Array.mem_toList_iff.2 he) hb]

/-- The number of those that wait. -/
def waits (listed : Array Bool) : Nat → Nat
  | 0 => 0
  | k + 1 => waits listed k + (match listed.getD k true with
    | true => 0
    | false => 1)

theorem getD_set (listed : Array Bool) (i k : Nat) (d : Bool) (hi : i < listed.size) : (listed.setIfInBounds i true).getD k d = if k = i then true else listed.getD k d := by
  simp only [Array.getD_eq_getD_getElem?]
  by_cases h : k = i
  · subst h; rw [if_pos rfl]; simp [hi]
  · rw [if_neg h, Array.getElem?_setIfInBounds_ne (Ne.symm h)]

theorem waits_set (listed : Array Bool) (i : Nat) (hi : i < listed.size) (hl : listed.getD i true = false) : ∀ k, waits (listed.setIfInBounds i true) k + (if i < k then 1 else 0) = waits listed k
  | 0 => by simp [waits]
  | k + 1 => by
    have ih := waits_set listed i hi hl k
    simp only [waits]
    rw [getD_set _ _ _ _ hi]
    by_cases h : k = i
    · subst h
      rw [if_pos rfl, hl]
      simp only [Nat.lt_irrefl, if_false, Nat.add_zero] at ih
      simp [ih]
    · rw [if_neg h]
      by_cases h2 : i < k
      · rw [if_pos (by omega)]; rw [if_pos h2] at ih; omega
      · rw [if_neg (by omega)]; rw [if_neg h2] at ih; omega

theorem waits_pos (listed : Array Bool) {i : Nat} (hl : listed.getD i true = false) : ∀ k, i < k → 1 ≤ waits listed k
  | 0, h => by omega
  | k + 1, h => by
    simp only [waits]
    by_cases hk : i = k
    · subst hk; rw [hl]; simp
    · have := waits_pos listed hl k (by omega); omega

theorem least {p : Nat → Prop} : ∀ i, p i → ∃ k, k ≤ i ∧ p k ∧ ∀ j, j < k → ¬ p j := by
  intro i
  induction i using Nat.strongRecOn with
  | _ i ih =>
    intro h
    by_cases hex : ∃ j, j < i ∧ p j
    · obtain ⟨j, hj, hp⟩ := hex
      obtain ⟨k, h1, h2, h3⟩ := ih j hj hp
      exact ⟨k, by omega, h2, h3⟩
    · exact ⟨i, Nat.le_refl _, h, fun j hj hp => hex ⟨j, hj, hp⟩⟩

/-- The first that waits may go, its edges going back. -/
theorem ready_least {ops : Array Oper} {listed : Array Bool} (hsz : listed.size = ops.size) (hedge : ∀ i o, ops[i]? = some o → ∀ e ∈ o.after.toList, Region.binds .any e = true → e.on < i) {i0 : Nat} (h0 : i0 < ops.size) (hl : listed.getD i0 true = false) :
    ∃ k, k ≤ i0 ∧ k ∈ Region.ready .any ops listed := by
  obtain ⟨k, h1, h2, h3⟩ := least (p := fun i => listed.getD i true = false) i0 hl
  have hk : k < ops.size := by omega
  refine ⟨k, h1, ready_of h2 (Array.getElem?_eq_getElem hk) fun e he hb => ?_⟩
  have hlt := hedge k _ (Array.getElem?_eq_getElem hk) e he hb
  have := h3 e.on hlt
  simp only [Bool.not_eq_false] at this
  have hin : e.on < listed.size := by omega
  simp only [Array.getD_eq_getD_getElem?, Array.getElem?_eq_getElem hin, Option.getD_some] at this ⊢
  exact this

theorem pick_some {l : List Nat} (t : Nat) (h : l ≠ []) : ∃ i, l[t % l.length]? = some i ∧ i ∈ l := by
  have hpos : 0 < l.length := by cases l with
    | nil => exact absurd rfl h
    | cons a l => simp
  have hlt := Nat.mod_lt t hpos
  exact ⟨l[t % l.length], List.getElem?_eq_getElem hlt, List.getElem_mem hlt⟩

theorem go_next {ops : Array Oper} {listed : Array Bool} (fuel t : Nat) {i : Nat} (h : (Region.ready .any ops listed)[t % (Region.ready .any ops listed).length]? = some i) :
    Region.linearise.go .any ops (fuel + 1) t listed [] = i :: Region.linearise.go .any ops fuel (t / (Region.ready .any ops listed).length) (listed.setIfInBounds i true) [] := by
  simp only [Region.linearise.go]
  show (match (Region.ready .any ops listed)[t % (Region.ready .any ops listed).length]? with
    | some i => Region.linearise.go .any ops fuel (t / (Region.ready .any ops listed).length) (listed.setIfInBounds i true) [i]
    | none => [].reverse) = _
  rw [h]
  simp only
  rw [linearise_go_acc]
  rfl

/-- The tail goes in its order. -/
theorem go_tail {ops : Array Oper} (hedge : ∀ i o, ops[i]? = some o → ∀ e ∈ o.after.toList, Region.binds .any e = true → e.on < i) :
    ∀ (n k fuel t : Nat) (listed : Array Bool), k + n = ops.size → n ≤ fuel → listed.size = ops.size → (∀ i, i < k → listed.getD i true = true) → (∀ i, k ≤ i → i < ops.size → listed.getD i true = false) →
      (∀ i o, k ≤ i → ops[i]? = some o → ∀ j, j < i → bindsOn o j = true) → Region.linearise.go .any ops fuel t listed [] = List.range' k n := by
  intro n
  induction n with
  | zero =>
    intro k fuel t listed hk hf hsz h1 h2 h3
    have hnil : Region.ready .any ops listed = [] := by
      cases hr : Region.ready .any ops listed with
      | nil => rfl
      | cons a l =>
        obtain ⟨q1, q2, _⟩ := ready_spec (ops := ops) (listed := listed) (i := a) (by rw [hr]; simp)
        rw [h1 a (by omega)] at q2; cases q2
    cases fuel with
    | zero => rfl
    | succ fuel =>
      simp only [Region.linearise.go]
      show (match (Region.ready .any ops listed)[t % (Region.ready .any ops listed).length]? with
        | some i => Region.linearise.go .any ops fuel (t / (Region.ready .any ops listed).length) (listed.setIfInBounds i true) [i]
        | none => [].reverse) = _
      rw [hnil]; rfl
  | succ n ih =>
    intro k fuel t listed hk hf hsz h1 h2 h3
    obtain ⟨fuel, rfl⟩ : ∃ f, fuel = f + 1 := ⟨fuel - 1, by omega⟩
    have hkl : k < ops.size := by omega
    obtain ⟨k', hk', hrk⟩ := ready_least hsz hedge hkl (h2 k (Nat.le_refl _) hkl)
    obtain ⟨i, hi, him⟩ := pick_some t (l := Region.ready .any ops listed) (by intro h; rw [h] at hrk; cases hrk)
    have hik : i = k := by
      obtain ⟨q1, q2, o, q3, q4⟩ := ready_spec him
      rcases Nat.lt_trichotomy i k with h | h | h
      · rw [h1 i h] at q2; cases q2
      · exact h
      · have hb := h3 i o (by omega) q3 k h
        unfold bindsOn at hb
        obtain ⟨e, he, hb⟩ := List.any_eq_true.1 hb
        simp only [Bool.and_eq_true] at hb
        have := q4 e he hb.1
        rw [beq_true hb.2] at this
        have h2k := h2 k (Nat.le_refl _) hkl
        simp only [Array.getD_eq_getD_getElem?, Array.getElem?_eq_getElem (show k < listed.size by omega), Option.getD_some] at this h2k
        rw [this] at h2k; cases h2k
    subst hik
    rw [go_next fuel t hi, List.range'_succ]
    congr 1
    refine ih (i + 1) fuel _ _ (by omega) (by omega) (by simp [hsz]) (fun j hj => ?_) (fun j hj1 hj2 => ?_) (fun j o hj ho l hl => h3 j o (by omega) ho l hl)
    · rw [getD_set _ _ _ _ (by omega)]
      by_cases h : j = i
      · rw [if_pos h]
      · rw [if_neg h]; exact h1 j (by omega)
    · rw [getD_set _ _ _ _ (by omega), if_neg (by omega)]
      exact h2 j (by omega) hj2

/-- Of what waits, nothing is known. -/
def mask (ops : Array Oper) (listed : Array Bool) (e : Env) : Nat → Env
  | 0 => e
  | k + 1 => match listed.getD k true with
    | true => mask ops listed e k
    | false => putO (mask ops listed e k) (dstAt ops k) .undef

theorem get_mask (ops : Array Oper) (listed : Array Bool) (e : Env) (t : Nat) : ∀ k, get (mask ops listed e k) t = .undef ∨ (get (mask ops listed e k) t = get e t ∧ ∀ i, i < k → listed.getD i true = false → dstAt ops i ≠ some t)
  | 0 => .inr ⟨rfl, fun i h => by omega⟩
  | k + 1 => by
    simp only [mask]
    cases hl : listed.getD k true with
    | true =>
      simp only
      refine (get_mask ops listed e t k).imp id fun ⟨h1, h2⟩ => ⟨h1, fun i hi hli => ?_⟩
      by_cases h : i = k
      · subst h; rw [hl] at hli; cases hli
      · exact h2 i (by omega) hli
    | false =>
      simp only
      rw [get_putO]
      by_cases hd : dstAt ops k = some t
      · rw [if_pos hd]; exact .inl rfl
      · rw [if_neg hd]
        refine (get_mask ops listed e t k).imp id fun ⟨h1, h2⟩ => ⟨h1, fun i hi hli => ?_⟩
        by_cases h : i = k
        · subst h; exact hd
        · exact h2 i (by omega) hli

theorem get_mask_on (ops : Array Oper) (listed : Array Bool) (e : Env) (t : Nat) : ∀ k, (∀ i, i < k → listed.getD i true = false → dstAt ops i ≠ some t) → get (mask ops listed e k) t = get e t
  | 0, _ => rfl
  | k + 1, h => by
    simp only [mask]
    have ih := get_mask_on ops listed e t k fun i hi => h i (by omega)
    cases hl : listed.getD k true with
    | true => exact ih
    | false => simp only; rw [get_putO, if_neg (h k (by omega) hl)]; exact ih

end

section
variable (hC : CtxOk P C) {s : Sm C} (hS : SpecOk P s) (hG : StageOk P s) {inst : Nat} {r : den (tyL (C.rts inst))} {w0 : World} {fz0 : Nat → Prop} (hfz0 : ∀ b, fz0 b → b < w0.heap.size) (hinv : C.inv w0)
variable {f : Nat} {fn : Func} {body : Code} (hfn : C.fn f = some fn) (hbody : fn.body = some body)

theorem SR.env_ext {x : Cx} {nt : Nat} {st : St} {a : Act} {w : World} {e' : Env} (h : SR x w0 fz0 nt st a w) (he : ∀ t, get e' t = .undef ∨ get e' t = get st.env t) : SR x w0 fz0 nt { st with env := e' } a w :=
  ⟨h.hp, h.H, fun t => by
    rcases he t with h' | h'
    · show RV x (get e' t) _; rw [h']; exact .undef _
    · show RV x (get e' t) _; rw [h']; exact h.env t, h.size, h.defers, h.hr, h.fz, h.bel⟩

include hC hS hG hfz0 hinv hfn hbody in
theorem free_any {path : Path} {id : Nat} {ops : Array Oper} {draw : Bool} {stk : List Fr} {fs : List Frame} {K : St → Option (den (tyL (C.rts inst)))} (hat : codeAt body path = some (.region id ops draw))
    (hK : ∀ st x a w, K st = some r → SR x w0 fz0 fn.ntmps st a w → FrsR C (C.fid inst) x stk fs f → FinS P C w0 fz0 inst r (mk f a (ctxOf body path)) fs w)
    {m : Nat} (hm : m ≤ ops.size) (hok : ∀ i, i < ops.size → freeOk ops m i = true) (htl : ∀ i o, m ≤ i → ops[i]? = some o → ∀ j, j < i → bindsOn o j = true) {st : St} {e : Env}
    (hdone : ∀ i, i < m → OpDone s inst stk f fn.ntmps path ops st e i) (hrun : runOps s inst stk f fn.ntmps path ops K (List.range' m (ops.size - m)) { st with env := e } = some r) :
    ∀ (fuel t : Nat) (listed : Array Bool) (x : Cx) (a : Act) (w : World), listed.size = ops.size → (∀ i, m ≤ i → i < ops.size → listed.getD i true = false) → waits listed ops.size ≤ fuel →
      SR x w0 fz0 fn.ntmps { st with env := mask ops listed e m } a w → FrsR C (C.fid inst) x stk fs f → FinS P C w0 fz0 inst r (mk f a (.inRegion ops (Region.linearise.go .any ops fuel t listed []) :: ctxOf body path)) fs w := by
  have hedge : ∀ i o, ops[i]? = some o → ∀ e ∈ o.after.toList, Region.binds .any e = true → e.on < i := by
    intro i o ho
    have hi : i < ops.size := by
      rcases Nat.lt_or_ge i ops.size with h | h
      · exact h
      · rw [Array.getElem?_eq_none h] at ho; cases ho
    exact freeOk_edge (hok i hi) ho
  intro fuel
  induction fuel with
  | zero =>
    intro t listed x a w hsz hl hw hR hF
    have hall : ∀ i, i < ops.size → listed.getD i true = true := fun i hi => by
      cases h : listed.getD i true with
      | true => rfl
      | false => have := waits_pos listed h ops.size hi; omega
    have hn : ops.size = m := by
      rcases Nat.lt_or_ge m ops.size with h | h
      · have h1 := hl m (Nat.le_refl _) h; rw [hall m h] at h1; cases h1
      · omega
    rw [hn] at hrun
    simp only [Nat.sub_self, List.range'_zero] at hrun
    refine Fin.of_step (fun cs => step_region_end) (hK _ x a w hrun (hR.env_ext (e' := e) fun t => .inr ?_) hF)
    exact (get_mask_on ops listed e t m fun i hi h => by rw [hall i (by omega)] at h; cases h).symm
  | succ fuel ih =>
    intro t listed x a w hsz hl hw hR hF
    by_cases hex : ∃ i, i < m ∧ listed.getD i true = false
    · obtain ⟨i0, hi0, hl0⟩ := hex
      obtain ⟨k', _, hrk⟩ := ready_least hsz hedge (show i0 < ops.size by omega) hl0
      obtain ⟨i, hi, him⟩ := pick_some t (l := Region.ready .any ops listed) (by intro h; rw [h] at hrk; cases hrk)
      obtain ⟨q1, q2, o, q3, q4⟩ := ready_spec him
      have lst : ∀ j, bindsOn o j = true → listed.getD j true = true := by
        intro j hb
        have hji := binds_lt (ops := ops) (hedge i o q3) hb
        unfold bindsOn at hb
        obtain ⟨e', he', hb⟩ := List.any_eq_true.1 hb
        simp only [Bool.and_eq_true] at hb
        have := q4 e' he' hb.1
        rw [beq_true hb.2] at this
        simp only [Array.getD_eq_getD_getElem?, Array.getElem?_eq_getElem (show j < listed.size by omega), Option.getD_some] at this ⊢
        exact this
      have him : i < m := by
        rcases Nat.lt_or_ge i m with h | h
        · exact h
        · have := lst i0 (htl i o h q3 i0 (by omega))
          rw [hl0] at this; cases this
      have F := freeOk_at (hok i q1) q3 him
      have hdi : dstAt ops i = o.dst := by simp [dstAt, q3]
      rw [go_next fuel t hi]
      -- the state behind it
      have next : ∀ (x' : Cx) (a' : Act) (w' : World) (v : AV), SR x' w0 fz0 fn.ntmps { st with env := putO (mask ops listed e m) o.dst v } a' w' → (∀ d, o.dst = some d → get e d = v) → FrsR C (C.fid inst) x' stk fs f →
          FinS P C w0 fz0 inst r (mk f a' (.inRegion ops (Region.linearise.go .any ops fuel (t / (Region.ready .any ops listed).length) (listed.setIfInBounds i true) []) :: ctxOf body path)) fs w' := by
        intro x' a' w' v hR' hv hF'
        refine ih _ (listed.setIfInBounds i true) x' a' w' (by simp [hsz]) (fun j h1 h2 => ?_) ?_ (SR.env_ext (st := { st with env := putO (mask ops listed e m) o.dst v }) hR' (e' := mask ops (listed.setIfInBounds i true) e m) fun u => ?_) hF'
        · rw [getD_set _ _ _ _ (by omega), if_neg (by omega)]; exact hl j h1 h2
        · have := waits_set listed i (by omega) q2 ops.size
          rw [if_pos q1] at this; omega
        · show _ = _ ∨ _ = get (putO (mask ops listed e m) o.dst v) u
          rw [get_putO]
          rcases get_mask ops (listed.setIfInBounds i true) e u m with h | ⟨h1, h2⟩
          · exact .inl h
          · refine .inr ?_
            rw [h1]
            by_cases hd : o.dst = some u
            · rw [if_pos hd]; exact hv u hd
            · rw [if_neg hd]
              refine (get_mask_on ops listed e u m fun j hj hlj => ?_).symm
              by_cases hji : j = i
              · subst hji; rw [hdi]; exact hd
              · exact h2 j hj (by rw [getD_set _ _ _ _ (by omega), if_neg hji]; exact hlj)
      -- what it looks at is known
      have seen : ∀ t j, j < m → bindsOn o j = true → dstAt ops j = some t → get (mask ops listed e m) t = get e t := by
        intro t j hj hb hd
        refine get_mask_on ops listed e t m fun i' hi' hl' hd' => ?_
        by_cases h : i' = j
        · subst h; rw [lst i' hb] at hl'; cases hl'
        · obtain ⟨oj, hoj⟩ : ∃ oj, ops[j]? = some oj := ⟨ops[j], Array.getElem?_eq_getElem (by omega)⟩
          have Fj := freeOk_at (hok j (by omega)) hoj hj
          exact Fj.dst t (by simpa [dstAt, hoj] using hd) i' hi' h hd'
      have looks : ∀ y ∈ reads o.op, ev (mask ops listed e m) y = ev e y := by
        intro y hy
        refine ev_get fun t ht => ?_
        subst ht
        by_cases hexj : ∃ j, j < m ∧ dstAt ops j = some t
        · obtain ⟨j, hj, hd⟩ := hexj
          exact seen t j hj (F.sees t hy j hj hd) hd
        · exact get_mask_on ops listed e t m fun i' hi' _ hd' => hexj ⟨i', hi', hd'⟩
      obtain ⟨o', ho', hd, hcase⟩ := hdone i him
      rw [q3] at ho'; cases ho'
      -- a guard's value
      have gval : ∀ j want b, o.guard = some (j, want) → (∃ d, dstAt ops j = some d ∧ get e d = .bool b) → yielded ops a.tmps j = some b := by
        rintro j want b hg ⟨d, hjd, hgd⟩
        obtain ⟨hjm, hjb⟩ := F.guard j want hg
        have hv := hR.env d
        have : get (mask ops listed e m) d = .bool b := (seen d j hjm hjb hjd).trans hgd
        simp only at hv
        rw [this] at hv
        generalize hve : a.tmps.getD d undef = gv at hv
        cases hv with
        | bool _ =>
        have hlt : d < a.tmps.size := by
          rcases Nat.lt_or_ge d a.tmps.size with h' | h'
          · exact h'
          · rw [Array.getD_eq_getD_getElem?, Array.getElem?_eq_none h'] at hve; simp [undef] at hve
        unfold yielded
        have hjd : (ops[j]?).bind (·.dst) = some d := hjd
        rw [hjd]
        have : a.tmps[d]? = some (.bool b) := by
          rw [Array.getD_eq_getD_getElem?, Array.getElem?_eq_getElem hlt] at hve
          rw [Array.getElem?_eq_getElem hlt]
          simpa using hve
        simp [this]
      rcases hcase with ⟨v, hv, hdo, hgu⟩ | ⟨hund, j, want, d, hg, hjd, hgd⟩
      · have hwant : Region.wanted o (yielded ops a.tmps) = true := by
          cases hg : o.guard with
          | none => simp [Region.wanted, hg]
          | some p =>
            obtain ⟨j, want⟩ := p
            simp [Region.wanted, hg, gval j want want hg (hgu j want hg)]
        have hdec : ∀ q : Prop, Decidable q := fun q => Classical.propDecidable q
        let tgt : St := { st with env := putO (mask ops listed e m) o.dst v }
        let K' : St → Option (den (tyL (C.rts inst))) := fun st' => @ite _ (st' = tgt) (hdec _) (some r) none
        have hK1 : K' tgt = some r := @if_pos (tgt = tgt) (hdec _) rfl _ (some r) none
        refine doOp_sound hC hS hG hfz0 hinv hfn hbody hat q3 hd (K := K') (fun st' x' a' w' hk hR' hF' => ?_) ((hdo _ K' _ looks).trans hK1) hR hF hwant
        have hst : st' = tgt := by
          simp only [K'] at hk
          by_cases h : st' = tgt
          · exact h
          · rw [if_neg h] at hk; cases hk
        subst hst
        exact next x' a' w' v hR' hv hF'
      · have hwn : Region.wanted o (yielded ops a.tmps) = false := by
          rcases hgd with hgd | ⟨u, hgd, hnb⟩
          · simp [Region.wanted, hg, gval j want (!want) hg ⟨d, hjd, hgd⟩]
          · obtain ⟨hjm, hjb⟩ := F.guard j want hg
            have := yielded_none (ops := ops) hR.env hjd ((seen d j hjm hjb hjd).trans hgd) hnb
            simp [Region.wanted, hg, this]
        refine Fin.of_step (fun cs => step_skipped q3 hwn) ?_
        exact next x _ w (.cst undef) ⟨hR.hp, hR.H, putO_env hR.env (.cst _) (fun t ht => by rw [hR.size]; exact hd t ht), by rw [put_size]; exact hR.size, by rw [put_defers]; exact hR.defers, hR.hr, hR.fz, hR.bel⟩ hund hF
    · have hall : ∀ i, i < m → listed.getD i true = true := fun i hi => by
        cases h : listed.getD i true with
        | true => rfl
        | false => exact absurd ⟨i, hi, h⟩ hex
      have hfu : ops.size - m ≤ fuel + 1 := by
        have : ∀ k, m ≤ k → k ≤ ops.size → k - m ≤ waits listed k := by
          intro k
          induction k with
          | zero => intro _ _; omega
          | succ k ihk =>
            intro h1 h2
            simp only [waits]
            by_cases hmk : m ≤ k
            · have := ihk hmk (by omega)
              rw [hl k hmk (by omega)]
              simp only; omega
            · omega
        have := this ops.size hm (Nat.le_refl _); omega
      rw [go_tail hedge (ops.size - m) m (fuel + 1) t listed (by omega) hfu hsz hall hl htl]
      refine runOps_sound hC hS hG hfz0 hinv hfn hbody hat hK _ { st with env := e } x a w hrun (hR.env_ext (e' := e) fun t => .inr ?_) hF
      exact (get_mask_on ops listed e t m fun i hi h => by rw [hall i hi] at h; cases h).symm

include hC hS hG hfz0 hinv hfn hbody in
theorem runRegion_sound {path : Path} {id : Nat} {ops : Array Oper} {draw : Bool} {stk : List Fr} {fs : List Frame} {K : St → Option (den (tyL (C.rts inst)))}
    (hat : codeAt body path = some (.region id ops draw))
    (hK : ∀ st x a w, K st = some r → SR x w0 fz0 fn.ntmps st a w → FrsR C (C.fid inst) x stk fs f → FinS P C w0 fz0 inst r (mk f a (ctxOf body path)) fs w)
    {st : St} {x : Cx} {a : Act} {w : World} (h : runRegion s inst stk f fn.ntmps path ops draw K st = some r) (hR : SR x w0 fz0 fn.ntmps st a w) (hF : FrsR C (C.fid inst) x stk fs f) :
    FinS P C w0 fz0 inst r (mk f a (.code (.region id ops draw) :: ctxOf body path)) fs w := by
  unfold runRegion at h
  split at h
  · exact Fin.of_step (fun cs => step_region) (runOps_sound hC hS hG hfz0 hinv hfn hbody hat hK _ st x a w h hR hF)
  · simp only at h
    split at h
    · rename_i hdr
      generalize freeCount ops ops.size = m at h hdr
      unfold drawOk at hdr
      simp only [Bool.and_eq_true, List.all_eq_true, List.mem_range] at hdr
      obtain ⟨hm, hok, htl⟩ := hdr
      have hm := Nat.le_of_ble_eq_true hm
      have htl : ∀ i o, m ≤ i → ops[i]? = some o → ∀ j, j < i → bindsOn o j = true := by
        intro i o hi ho j hj
        have hlt : i < ops.size := by
          rcases Nat.lt_or_ge i ops.size with h | h
          · exact h
          · rw [Array.getElem?_eq_none h] at ho; cases ho
        have := htl i hlt
        rw [ho] at this
        have hnb : Nat.blt i m = false := by
          cases hb : Nat.blt i m with
          | false => rfl
          | true => have := Nat.lt_of_succ_le (Nat.le_of_ble_eq_true hb); omega
        rw [hnb] at this
        simp only [Bool.false_or, List.all_eq_true, List.mem_range] at this
        exact this j hj
      rw [List.range_eq_range'] at h
      obtain ⟨e, h1, h2, h3⟩ := free_trace (fun i hi => hok i (by omega)) m 0 st (by omega) h
      refine Fin.of_step (fs' := fs) (w' := { w with drawn := w.drawn + 1 }) (fun cs => step_region_draw) ?_
      simp only [Region.schedule, hC.mixed, Bool.true_or, if_true, Region.linearise]
      refine free_any hC hS hG hfz0 hinv hfn hbody hat hK hm hok htl (fun i hi => h3 i (by omega) hi) h1 ops.size _ _ x a _ (by simp) (fun i h1 h2 => by simp [Array.getD, h2]) ?_ ?_ hF
      · have : ∀ k, waits (Array.replicate ops.size false) k ≤ k := by
          intro k
          induction k with
          | zero => simp [waits]
          | succ k ih => simp only [waits]; split <;> omega
        exact this _
      · have hR' : SR x w0 fz0 fn.ntmps st a { w with drawn := w.drawn + 1 } := ⟨hR.hp, hR.H, hR.env, hR.size, hR.defers, hR.hr, hR.fz, hR.bel.drew⟩
        refine hR'.env_ext fun t => ?_
        rcases get_mask ops (Array.replicate ops.size false) e t m with h' | ⟨h4, h5⟩
        · exact .inl h'
        · refine .inr (h4.trans (h2 t fun i _ hi => h5 i hi ?_))
          simp [Array.getD, show i < ops.size by omega]
    · cases h

/-! ### the forms that stops want -/
/-- Behind an exit. -/
def FinE (P : Program) (C : Ctx) (w0 : World) (fz0 : Nat → Prop) (inst : Nat) (r : den (tyL (C.rts inst))) (f : Nat) (fs : List Frame) (td : List Item) (a : Act) (w : World) : Ex → Prop
  | .normal => FinS P C w0 fz0 inst r (mk f a td) fs w
  | .ret => ∀ todo, FinS P C w0 fz0 inst r (mkRet f a todo) fs w
  | .exit id => ∃ k', exitTo id td = some k' ∧ FinS P C w0 fz0 inst r (mk f a k') fs w
  | .goto l => ∃ k', gotoIn l td = some k' ∧ FinS P C w0 fz0 inst r (mk f a k') fs w

end
end
end Go.Proofs.YtcdcijhfjiahkaaDoorR.K
