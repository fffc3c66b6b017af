/- The abstract machine: control, and the calls as a whole. -/
import Derived.Test.YtcdcijhfjiahkaaDoorRKG
import Derived.Scope
set_option linter.unusedVariables false
set_option linter.unusedSimpArgs false
namespace Go.Proofs.YtcdcijhfjiahkaaDoorR.K
open Go
open Go.RowKit (Below)

section
variable {P : Program} {C : Ctx} (hC : CtxOk P C) {s : Sm C} (hS : SpecOk P s) (hG : StageOk P s) {inst : Nat} {r : den (tyL (C.rts inst))} {w0 : World} {fz0 : Nat → Prop} (hfz0 : ∀ b, fz0 b → b < w0.heap.size) (hinv : C.inv w0)
variable {f : Nat} {fn : Func} {body : Code} (hfn : C.fn f = some fn) (hbody : fn.body = some body)

/-- An exit passes an item that does not catch it. -/
theorem FinE.pass {fs : List Frame} {td : List Item} {a : Act} {w : World} {it : Item} {e : Ex} (hn : e ≠ .normal) (hx : ∀ id, e = .exit id → exitTo id (it :: td) = exitTo id td) (hg : ∀ l, e = .goto l → gotoIn l (it :: td) = gotoIn l td)
    (h : FinE P C w0 fz0 inst r f fs td a w e) : FinE P C w0 fz0 inst r f fs (it :: td) a w e := by
  cases e with
  | normal => exact absurd rfl hn
  | ret => exact h
  | exit id => obtain ⟨k', h1, h2⟩ := h; exact ⟨k', by rw [hx id rfl]; exact h1, h2⟩
  | goto l => obtain ⟨k', h1, h2⟩ := h; exact ⟨k', by rw [hg l rfl]; exact h1, h2⟩

theorem ctxOf_seq0 {p : Path} {a b : Code} (h : codeAt body p = some (.seq a b)) : ctxOf body (0 :: p) = .code b :: ctxOf body p := by simp only [ctxOf, h]
theorem ctxOf_seq1 {p : Path} {a b : Code} (h : codeAt body p = some (.seq a b)) : ctxOf body (1 :: p) = ctxOf body p := by simp only [ctxOf, h]
theorem ctxOf_cond {p : Path} {c : Operand} {a b : Code} {d : Nat} (h : codeAt body p = some (.cond c a b)) : ctxOf body (d :: p) = ctxOf body p := by simp only [ctxOf, h]
theorem ctxOf_block {p : Path} {id : Nat} {b : Code} (h : codeAt body p = some (.block id b)) : ctxOf body (0 :: p) = .inBlock id :: ctxOf body p := by simp only [ctxOf, h]
theorem ctxOf_loop {p : Path} {b : Code} (h : codeAt body p = some (.loop b)) : ctxOf body (0 :: p) = .inLoop b :: ctxOf body p := by simp only [ctxOf, h]
theorem ctxOf_scope {p : Path} {b : Code} {d : Nat} (h : codeAt body p = some (.scope b)) : ctxOf body (d :: p) = .inScope b :: ctxOf body p := by simp only [ctxOf, h]

include hG hfz0 hinv hfn hbody in
/-- A stop is reached. -/
theorem stop_sound {stk : List Fr} {fs : List Frame} {p : Path} {c : Code} {an : Ann} {st : St} {x : Cx} {a : Act} {w : World} (hp : codeAt body p = some c)
    (h : (match canon an stk st with
      | some st => s.stage inst stk f p st
      | none => none) = some r) (hR : SR x w0 fz0 fn.ntmps st a w) (hF : FrsR C (C.fid inst) x stk fs f) : FinS P C w0 fz0 inst r (mk f a (stopTodo c (ctxOf body p))) fs w := by
  split at h
  · rename_i st' hc
    obtain ⟨x', h1, h2⟩ := canon_sound hc hR hF
    exact hG inst stk f p st' r h w0 fz0 x' fs a w fn body c hfz0 hinv hfn hbody hp h1 h2
  · cases h

theorem EnvR.known {x : Cx} {st : St} {a : Act} (h : EnvR x st.env a) {c : Operand} {v : Bool} (hv : ev st.env c = .bool v) : EnvR x (known c v st).env a ∧ a.eval c = .bool v := by
  have hr := ev_RV h c
  rw [hv] at hr
  generalize hve : a.eval c = u at hr
  cases hr with
  | bool _ =>
    refine ⟨?_, rfl⟩
    unfold K.known
    split
    · rename_i t
      refine known_env h ?_
      have : a.eval (.tmp t) = a.tmps.getD t undef := rfl
      rw [← this, hve]; exact .bool v
    · exact h

theorem cond_sound {stk : List Fr} {fs : List Frame} {c : Operand} {x1 y1 : Code} {A B : St → Option (den (tyL (C.rts inst)))} {st : St} {x : Cx} {a : Act} {w : World} {td : List Item}
    (h : (match ev st.env c with
      | .bool v => cond v (A (known c true st)) (B (known c false st))
      | _ => none) = some r) (hR : SR x w0 fz0 fn.ntmps st a w) (hF : FrsR C (C.fid inst) x stk fs f)
    (hA : ∀ st x a w, A st = some r → SR x w0 fz0 fn.ntmps st a w → FrsR C (C.fid inst) x stk fs f → FinS P C w0 fz0 inst r (mk f a (.code x1 :: td)) fs w)
    (hB : ∀ st x a w, B st = some r → SR x w0 fz0 fn.ntmps st a w → FrsR C (C.fid inst) x stk fs f → FinS P C w0 fz0 inst r (mk f a (.code y1 :: td)) fs w) :
    FinS P C w0 fz0 inst r (mk f a (.code (.cond c x1 y1) :: td)) fs w := by
  split at h
  · rename_i v hv
    obtain ⟨h1, h2⟩ := EnvR.known hR.env hv
    have hkn : ∀ v', v = v' → SR x w0 fz0 fn.ntmps (known c v' st) a w := by
      intro v' hv'
      subst hv'
      have : (known c v st).heap = st.heap := by unfold known; split <;> rfl
      exact ⟨hR.hp, by rw [this]; exact hR.H, h1, hR.size, hR.defers, hR.hr, hR.fz, hR.bel⟩
    cases v with
    | true => exact Fin.of_step (fun cs => step_cond h2) (hA _ x _ w h (hkn _ rfl) hF)
    | false => exact Fin.of_step (fun cs => step_cond h2) (hB _ x _ w h (hkn _ rfl) hF)
  · cases h

include hC hS hG hfz0 hinv hfn hbody in
theorem run_sound {stk : List Fr} {fs : List Frame} : ∀ (c : Code) (p : Path) (st : St) (K : Ex → St → Option (den (tyL (C.rts inst)))) (x : Cx) (a : Act) (w : World), codeAt body p = some c →
    run s inst stk f fn.ntmps p c st K = some r → SR x w0 fz0 fn.ntmps st a w → FrsR C (C.fid inst) x stk fs f →
    (∀ e st x a w, K e st = some r → SR x w0 fz0 fn.ntmps st a w → FrsR C (C.fid inst) x stk fs f → FinE P C w0 fz0 inst r f fs (ctxOf body p) a w e) →
    FinS P C w0 fz0 inst r (mk f a (.code c :: ctxOf body p)) fs w := by
  intro c
  induction c with
  | seq c1 c2 ih1 ih2 =>
    intro p st K x a w hp h hR hF hK
    unfold run at h
    split at h
    · exact Fin.of_stop (stop_sound hG hfz0 hinv hfn hbody hp h hR hF)
    · simp only at h
      refine Fin.of_step (fun cs => step_seq) ?_
      have h0 : codeAt body (0 :: p) = some c1 := by simp only [codeAt, hp]
      have h1 : codeAt body (1 :: p) = some c2 := by simp only [codeAt, hp]
      have := ih1 (0 :: p) st _ x a w h0 h hR hF (fun e st x a w hk hR hF => by
        rw [ctxOf_seq0 hp]
        split at hk
        · have := ih2 (1 :: p) st _ x a w h1 hk hR hF (fun e st x a w hk hR hF => by rw [ctxOf_seq1 hp]; exact hK e st x a w hk hR hF)
          rw [ctxOf_seq1 hp] at this
          exact this
        · rename_i hne
          exact FinE.pass (fun h => hne h) (fun id _ => rfl) (fun l _ => rfl) (hK e st x a w hk hR hF))
      rw [ctxOf_seq0 hp] at this
      exact this
  | cond c c1 c2 ih1 ih2 =>
    intro p st K x a w hp h hR hF hK
    unfold run at h
    split at h
    · exact Fin.of_stop (stop_sound hG hfz0 hinv hfn hbody hp h hR hF)
    · simp only at h
      have h0 : codeAt body (0 :: p) = some c1 := by simp only [codeAt, hp]
      have h1 : codeAt body (1 :: p) = some c2 := by simp only [codeAt, hp]
      refine cond_sound (stk := stk) (A := fun st => run s inst stk f fn.ntmps (0 :: p) c1 st K) (B := fun st => run s inst stk f fn.ntmps (1 :: p) c2 st K) h hR hF ?_ ?_
      · intro st x a w h hR hF
        have := ih1 (0 :: p) st _ x a w h0 h hR hF (fun e st x a w hk hR hF => by rw [ctxOf_cond hp]; exact hK e st x a w hk hR hF)
        rw [ctxOf_cond hp] at this; exact this
      · intro st x a w h hR hF
        have := ih2 (1 :: p) st _ x a w h1 h hR hF (fun e st x a w hk hR hF => by rw [ctxOf_cond hp]; exact hK e st x a w hk hR hF)
        rw [ctxOf_cond hp] at this; exact this
  | block id c1 ih1 =>
    intro p st K x a w hp h hR hF hK
    unfold run at h
    split at h
    · exact Fin.of_stop (stop_sound hG hfz0 hinv hfn hbody hp h hR hF)
    · simp only at h
      refine Fin.of_step (fun cs => step_block) ?_
      have h0 : codeAt body (0 :: p) = some c1 := by simp only [codeAt, hp]
      have := ih1 (0 :: p) st _ x a w h0 h hR hF (fun e st x a w hk hR hF => by
        rw [ctxOf_block hp]
        split at hk
        · rename_i j
          split at hk
          · rename_i hj
            have hj := beq_true hj; subst hj
            exact ⟨ctxOf body p, by simp [exitTo], hK .normal st x a w hk hR hF⟩
          · rename_i hj
            have hj := beq_false hj
            refine FinE.pass (by simp) (fun id' he => ?_) (fun l _ => rfl) (hK _ st x a w hk hR hF)
            cases he
            have : (id == j) = false := by simp; exact fun h => hj h.symm
            simp [exitTo, this]
        · rename_i hne
          cases e with
          | normal => exact Fin.of_step (fun cs => step_inBlock) (hK .normal st x a w hk hR hF)
          | exit j => exact absurd rfl (hne j)
          | ret => exact hK .ret st x a w hk hR hF
          | goto l => exact FinE.pass (by simp) (fun id' he => by cases he) (fun l _ => rfl) (hK _ st x a w hk hR hF))
      rw [ctxOf_block hp] at this
      exact this
  | scope c1 ih1 =>
    intro p st K x a w hp h hR hF hK
    unfold run at h
    split at h
    · exact Fin.of_stop (stop_sound hG hfz0 hinv hfn hbody hp h hR hF)
    · simp only at h
      refine Fin.of_step (fun cs => step_scope) ?_
      have h0 : codeAt body (0 :: p) = some c1 := by simp only [codeAt, hp]
      have := ih1 (0 :: p) st _ x a w h0 h hR hF (fun e st x a w hk hR hF => by
        rw [ctxOf_scope hp]
        split at hk
        · rename_i l
          split at hk
          · rename_i c' hl
            have h2 : codeAt body ((l + 2) :: p) = some c' := by simp only [codeAt, hp]; exact hl
            split at hk
            · have := Fin.of_stop (stop_sound hG hfz0 hinv hfn hbody h2 hk hR hF)
              rw [ctxOf_scope hp] at this
              exact ⟨_, by simp only [gotoIn, hl], this⟩
            · cases hk
          · rename_i hl
            refine FinE.pass (by simp) (fun id' he => by cases he) (fun l' he => ?_) (hK _ st x a w hk hR hF)
            cases he
            simp only [gotoIn, hl]
        · rename_i hne
          cases e with
          | normal => exact Fin.of_step (fun cs => step_inScope) (hK .normal st x a w hk hR hF)
          | exit j => exact FinE.pass (by simp) (fun id' he => rfl) (fun l he => by cases he) (hK _ st x a w hk hR hF)
          | ret => exact hK .ret st x a w hk hR hF
          | goto l => exact absurd rfl (hne l))
      rw [ctxOf_scope hp] at this
      exact this
  | region id ops draw =>
    intro p st K x a w hp h hR hF hK
    unfold run at h
    split at h
    · exact Fin.of_stop (stop_sound hG hfz0 hinv hfn hbody hp h hR hF)
    · simp only at h
      exact runRegion_sound hC hS hG hfz0 hinv hfn hbody hp (fun st x a w hk hR hF => hK .normal st x a w hk hR hF) h hR hF
  | skip =>
    intro p st K x a w hp h hR hF hK
    unfold run at h
    split at h
    · exact Fin.of_stop (stop_sound hG hfz0 hinv hfn hbody hp h hR hF)
    · exact Fin.of_step (fun cs => step_skip) (hK .normal st x a w h hR hF)
  | label l =>
    intro p st K x a w hp h hR hF hK
    unfold run at h
    split at h
    · exact Fin.of_stop (stop_sound hG hfz0 hinv hfn hbody hp h hR hF)
    · exact Fin.of_step (fun cs => step_label) (hK .normal st x a w h hR hF)
  | exit id =>
    intro p st K x a w hp h hR hF hK
    unfold run at h
    split at h
    · exact Fin.of_stop (stop_sound hG hfz0 hinv hfn hbody hp h hR hF)
    · obtain ⟨k', h1, h2⟩ := hK (.exit id) st x a w h hR hF
      exact Fin.of_step (fun cs => step_exit h1) h2
  | goto l =>
    intro p st K x a w hp h hR hF hK
    unfold run at h
    split at h
    · exact Fin.of_stop (stop_sound hG hfz0 hinv hfn hbody hp h hR hF)
    · obtain ⟨k', h1, h2⟩ := hK (.goto l) st x a w h hR hF
      exact Fin.of_step (fun cs => step_goto h1) h2
  | ret =>
    intro p st K x a w hp h hR hF hK
    unfold run at h
    split at h
    · exact Fin.of_stop (stop_sound hG hfz0 hinv hfn hbody hp h hR hF)
    · exact Fin.of_step (fun cs => step_ret) (hK .ret st x a w h hR hF (.code .ret :: ctxOf body p))
  | _ =>
    intro p st K x a w hp h hR hF hK
    unfold run at h
    split at h
    · exact Fin.of_stop (stop_sound hG hfz0 hinv hfn hbody hp h hR hF)
    · cases h

include hC hS hG hfz0 hinv hfn hbody in
theorem kont_sound {stk : List Fr} {fs : List Frame} {R : St → Option (den (tyL (C.rts inst)))}
    (hRet : ∀ st x a w, R st = some r → SR x w0 fz0 fn.ntmps st a w → FrsR C (C.fid inst) x stk fs f → ∀ todo, FinS P C w0 fz0 inst r (mkRet f a todo) fs w) :
    ∀ (p : Path) (e : Ex) (st : St) (x : Cx) (a : Act) (w : World), kont s inst stk f fn.ntmps body R p e st = some r → SR x w0 fz0 fn.ntmps st a w → FrsR C (C.fid inst) x stk fs f →
      FinE P C w0 fz0 inst r f fs (ctxOf body p) a w e := by
  intro p
  induction p with
  | nil =>
    intro e st x a w h hR hF
    cases e with
    | normal => exact Fin.of_step (fun cs => step_end) (hRet st x a w h hR hF [])
    | ret => exact fun todo => hRet st x a w h hR hF todo
    | exit id => simp [kont] at h
    | goto l => simp [kont] at h
  | cons d p ih =>
    intro e st x a w h hR hF
    unfold kont at h
    split at h
    · cases h
    · rename_i c hp
      split at h
      · -- the first of two
        rename_i c1 c2
        rw [ctxOf_seq0 hp]
        split at h
        · have h1 : codeAt body (1 :: p) = some c2 := by simp only [codeAt, hp]
          have := run_sound hC hS hG hfz0 hinv hfn hbody c2 (1 :: p) st _ x a w h1 h hR hF (fun e st x a w hk hR hF => by rw [ctxOf_seq1 hp]; exact ih e st x a w hk hR hF)
          rw [ctxOf_seq1 hp] at this
          exact this
        · rename_i hne
          exact FinE.pass (fun h => hne h) (fun id _ => rfl) (fun l _ => rfl) (ih e st x a w h hR hF)
      · rw [ctxOf_seq1 hp]; exact ih e st x a w h hR hF
      · rw [ctxOf_cond hp]; exact ih e st x a w h hR hF
      · rw [ctxOf_cond hp]; exact ih e st x a w h hR hF
      · rename_i id c1
        rw [ctxOf_block hp]
        split at h
        · rename_i j
          split at h
          · rename_i hj
            have hj := beq_true hj; subst hj
            exact ⟨ctxOf body p, by simp [exitTo], ih .normal st x a w h hR hF⟩
          · rename_i hj
            have hj := beq_false hj
            refine FinE.pass (by simp) (fun id' he => ?_) (fun l _ => rfl) (ih _ st x a w h hR hF)
            cases he
            have : (id == j) = false := by simp; exact fun h => hj h.symm
            simp [exitTo, this]
        · rename_i hne
          cases e with
          | normal => exact Fin.of_step (fun cs => step_inBlock) (ih .normal st x a w h hR hF)
          | exit j => exact absurd rfl (hne j)
          | ret => exact ih .ret st x a w h hR hF
          | goto l => exact FinE.pass (by simp) (fun id' he => by cases he) (fun l _ => rfl) (ih _ st x a w h hR hF)
      · rename_i c1
        rw [ctxOf_loop hp]
        split at h
        · split at h
          · exact Fin.of_step (fun cs => step_inLoop) (stop_sound hG hfz0 hinv hfn hbody hp h hR hF)
          · cases h
        · rename_i hne
          exact FinE.pass (fun h => hne h) (fun id _ => rfl) (fun l _ => rfl) (ih e st x a w h hR hF)
      · rename_i c1
        rw [ctxOf_scope hp]
        split at h
        · rename_i l
          split at h
          · rename_i c' hl
            have h2 : codeAt body ((l + 2) :: p) = some c' := by simp only [codeAt, hp]; exact hl
            split at h
            · have := Fin.of_stop (stop_sound hG hfz0 hinv hfn hbody h2 h hR hF)
              rw [ctxOf_scope hp] at this
              exact ⟨_, by simp only [gotoIn, hl], this⟩
            · cases h
          · rename_i hl
            refine FinE.pass (by simp) (fun id' he => by cases he) (fun l' he => ?_) (ih _ st x a w h hR hF)
            cases he
            simp only [gotoIn, hl]
        · rename_i hne
          cases e with
          | normal => exact Fin.of_step (fun cs => step_inScope) (ih .normal st x a w h hR hF)
          | exit j => exact FinE.pass (by simp) (fun id' he => rfl) (fun l he => by cases he) (ih _ st x a w h hR hF)
          | ret => exact ih .ret st x a w h hR hF
          | goto l => exact absurd rfl (hne l)
      · cases h

/-! ### returns -/
theorem leaving_mk {P : Program} {f : Nat} {fn : Func} {a : Act} {todo : List Item} {us : List Value} {w : World} (hf : P.funcs[f]? = some fn) (hd : a.defers = []) (h : (fn.results.toList.mapM (resOne a)).run P w = Result.ok us w) :
    (mkRet f a todo).leaving P w (.returned (oneV us)) := by
  refine ⟨rfl, ?_, rfl, fn, hf, ?_⟩
  · show a.defers = []; exact hd
  · exact results_run h

theorem noOwn_tyL : ∀ (ts : List Ty), ts.any hasOwn = false → hasOwn (tyL ts) = false
  | [], _ => rfl
  | [t], h => by simpa [tyL] using h
  | t :: u :: ts, h => by
    simp only [List.any_cons, Bool.or_eq_false_iff] at h
    have := noOwn_tyL (u :: ts) (by simp [h.2])
    simp [tyL, hasOwn, h.1, this]

theorem plain_ResC {hp : Array Obj} {ok : Nat → Prop} (t : Ty) : ∀ (y : den t) (vs : List Value), hasOwn t = false → DeepC hp ok t y vs → ResC hp ok t y vs [] := by
  induction t with
  | own t _ => intro y vs ho; simp [hasOwn] at ho
  | pair a b iha ihb =>
    intro y vs ho h
    simp only [hasOwn, Bool.or_eq_false_iff] at ho
    obtain ⟨v1, v2, rfl, k1, k2⟩ := h
    exact ⟨v1, v2, [], [], rfl, rfl, iha _ _ ho.1 k1, ihb _ _ ho.2 k2⟩
  | one t ih => intro y vs ho h; exact ih y vs ho h
  | _ => intro y vs ho h; exact ⟨rfl, h⟩

theorem plain_ResL {hp : Array Obj} {ok : Nat → Prop} (ts : List Ty) : ∀ {y : den (tyL ts)} {vs : List Value}, hasOwn (tyL ts) = false → DenL hp ok ts y vs → ResL hp ok ts y vs [] := by
  have backV : ∀ (t : Ty) (y : den t) (v : Value), hasOwn t = false → DenV hp ok t y v → ResV hp ok t y v [] := by
    intro t y v ho h
    unfold DenV at h
    unfold ResV
    split at h
    · rename_i hag; rw [hag]; obtain ⟨vs, rfl, h⟩ := h; exact ⟨vs, rfl, plain_ResC t y vs ho h⟩
    · rename_i hag; rw [hag]; exact ⟨h.1, plain_ResC t y _ ho h.2⟩
  induction ts with
  | nil => intro y vs _ h; rw [DenL_0] at h; rw [ResL_0]; exact ⟨h, rfl⟩
  | cons t ts ih =>
    cases ts with
    | nil => intro y vs ho h; rw [DenL_1] at h; rw [ResL_1]; obtain ⟨v, rfl, h⟩ := h; exact ⟨v, rfl, backV t y v ho h⟩
    | cons u ts =>
      intro y vs ho h
      rw [DenL_2] at h
      rw [ResL_2]
      obtain ⟨v, vs', rfl, k1, k2⟩ := h
      have ho' : hasOwn t = false ∧ hasOwn (tyL (u :: ts)) = false := by simpa [tyL, hasOwn] using ho
      exact ⟨v, vs', [], [], rfl, rfl, backV t _ v ho'.1 k1, ih ho'.2 k2⟩

include hC in
theorem finish_sound {f : Nat} {fn : Func} (hfn : C.fn f = some fn) {st : St} {x : Cx} {a : Act} {w : World} (hid : f = C.fid inst) (h : finish inst fn.results.toList st = some r) (hR : SR x w0 fz0 fn.ntmps st a w) (todo : List Item) :
    FinS P C w0 fz0 inst r (mkRet f a todo) [] w := by
  unfold finish at h
  split at h
  · cases h
  · rename_i vs hvs
    split at h
    · rename_i hg
      obtain ⟨us, h1, h2⟩ := resultsOf_sound (P := P) hC.ti hR.hr hR.hp hR.H hR.env hvs
      obtain ⟨g1, g2, g3⟩ := hC.fn f fn hfn
      refine Fin.done (v := oneV us) hid (leaving_mk g1 hR.defers h2) ⟨_, rfl, hR.bel, ?_⟩
      have old : ∀ b, x.fz b → fz0 b ∨ w0.heap.size ≤ b ∧ b < w.heap.size := fun b hb => by
        rcases hR.fz b hb with h | h
        · exact .inl h
        · have := hR.hr.size b hb; rw [hR.hp] at this; exact .inr ⟨h, this⟩
      rw [← hR.H] at h
      split at hg
      · -- nothing is given away
        rename_i hno
        have hno := noOwn_tyL _ hno
        have NF := frz_next hR.hr hR.hp (tok := 0) (toksL vs)
        have hden := toDenL_deep hR.hr (fz' := (frzCx x (toksL vs)).fz) (fun b hb => .inl hb) (C.rts inst) h1 (frz_shows hR.hr _) h
        rw [hR.hp] at hden
        refine ⟨[], (frzCx x (toksL vs)).fz, us, fun b hb => ?_, List.nodup_nil, (fun b hb => by cases hb), rfl, plain_ResL _ hno hden⟩
        rcases NF.fz b hb with h' | h'
        · exact old b h'
        · have := NF.hr.size b hb; rw [NF.hp] at this; exact .inr ⟨h', this⟩
      · rename_i hyes
        split at hg
        · rename_i g sh hgv
          simp only [Bool.and_eq_true, List.all_eq_true, Bool.not_eq_true'] at hg
          obtain ⟨hnd, hdis⟩ := hg
          have hnd := nodupB_nodup hnd
          rw [← hR.H] at hgv
          have NF := frz_next hR.hr hR.hp (tok := 0) sh
          obtain ⟨ow, k1, k2⟩ := givesL_sound hR.hr (fz' := (frzCx x sh).fz) (fun b hb => .inl hb) (C.rts inst) h1 hgv h (frz_shows hR.hr _)
          rw [hR.hp] at k1
          refine ⟨ow, (frzCx x sh).fz, us, fun b hb => ?_, k2.nodup hR.hr hnd, fun b hb => ?_, rfl, k1⟩
          · rcases NF.fz b hb with h' | h'
            · exact old b h'
            · have := NF.hr.size b hb; rw [NF.hp] at this; exact .inr ⟨h', this⟩
          · obtain ⟨T, hT, ho⟩ := k2.mem b hb
            have hTs : T ∉ sh := by have := hdis T hT; simpa using this
            have hn : w0.heap.size ≤ b ∧ ¬ x.fz b := by
              obtain ⟨⟨o, ho⟩, hk⟩ := ho
              rcases hk with ⟨t, l, hk⟩ | ⟨cs, hk⟩
              · rcases hR.hr.blk T _ hk with ⟨_, h'⟩ | ⟨B', o', c, e, fr, q1, q2, q3, q4, _⟩
                · rw [ho] at h'; cases h'
                · rw [ho] at q1; cases q1; exact ⟨q3, q4⟩
              · obtain ⟨B', c, e, fr, q1, q2, q3, q4, _⟩ := hR.hr.blk T _ hk
                rw [ho] at q1; cases q1; exact ⟨q3, q4⟩
            refine ⟨hn.1, ?_⟩
            rintro (h' | ⟨T', hT', ⟨t, l, hk⟩, o, hm⟩)
            · exact hn.2 h'
            · have := hR.hr.inj T T' b ho ⟨⟨o, hm⟩, .inl ⟨t, l, hk⟩⟩
              subst this
              exact hTs hT'
        · cases hg
    · cases h

include hC hS hG hfz0 hinv in
theorem retTo_sound : ∀ (stk : List Fr) {fs : List Frame} {f : Nat} {fn : Func} (hfn : C.fn f = some fn) {st : St} {x : Cx} {a : Act} {w : World}, retTo s inst stk fn.results.toList st = some r →
    SR x w0 fz0 fn.ntmps st a w → FrsR C (C.fid inst) x stk fs f → ∀ todo, FinS P C w0 fz0 inst r (mkRet f a todo) fs w := by
  intro stk
  induction stk with
  | nil =>
    intro fs f fn hfn st x a w h hR hF todo
    cases hF
    exact finish_sound hC hfn rfl h hR todo
  | cons fr stk ih =>
    intro fs f fn hfn st x a w h hR hF todo
    unfold retTo at h
    split at h
    · cases h
    · rename_i vs hvs
      obtain ⟨us, h1, h2⟩ := resultsOf_sound (P := P) hC.ti hR.hr hR.hp hR.H hR.env hvs
      obtain ⟨g1, g2, g3⟩ := hC.fn f fn hfn
      cases hF with
      | cons _ _ fs' _ fn' body' a' id ops draw o q1 q2 q3 q4 q5 q6 q7 q8 q9 =>
      simp only [q1, q2, q3, q4] at h
      refine Fin.leave (leaving_mk g1 hR.defers h2) ?_
      rw [finish_mk fr.f a' ops fr.op fr.rest _ _ q4]
      refine runOps_sound hC hS hG hfz0 hinv q1 q2 q3 (fun st x a w hk hR hF => ?_) fr.rest _ x _ w h ?_ q9
      · exact kont_sound hC hS hG hfz0 hinv q1 q2 (fun st x a w h hR hF todo => ih q1 h hR hF todo) fr.path .normal st x a w hk hR hF
      · exact ⟨hR.hp, hR.H, putO_env q5 (oneOf_RV h1) (fun t ht => by rw [q7]; exact q8 t ht), by rw [put_size]; exact q7, by rw [put_defers]; exact q6, hR.hr, hR.fz, hR.bel⟩

include hC hS hG hfz0 hinv in
/-- One stop's work is good, if that of the stops behind it is. -/
theorem stageStep_sound {stk : List Fr} {f : Nat} {p : Path} {st : St} (h : stageStep s inst stk f p st = some r) {x : Cx} {fs : List Frame} {a : Act} {w : World} {fn : Func} {body c : Code} (hfn : C.fn f = some fn) (hbody : fn.body = some body)
    (hp : codeAt body p = some c) (hR : SR x w0 fz0 fn.ntmps st a w) (hF : FrsR C (C.fid inst) x stk fs f) : FinS P C w0 fz0 inst r (mk f a (stopTodo c (ctxOf body p))) fs w := by
  unfold stageStep at h
  simp only [hfn, hbody, hp] at h
  have hK : ∀ (p : Path) (e : Ex) (st : St) (x : Cx) (a : Act) (w : World), kont s inst stk f fn.ntmps body (retTo s inst stk fn.results.toList) p e st = some r → SR x w0 fz0 fn.ntmps st a w → FrsR C (C.fid inst) x stk fs f →
      FinE P C w0 fz0 inst r f fs (ctxOf body p) a w e := kont_sound hC hS hG hfz0 hinv hfn hbody fun st x a w h hR hF todo => retTo_sound hC hS hG hfz0 hinv stk hfn h hR hF todo
  cases c with
  | skip => exact Fin.of_step (fun cs => step_skip) (hK p .normal st x a w h hR hF)
  | label l => exact Fin.of_step (fun cs => step_label) (hK p .normal st x a w h hR hF)
  | ret => exact Fin.of_step (fun cs => step_ret) (hK p .ret st x a w h hR hF _)
  | exit id =>
    obtain ⟨k', h1, h2⟩ := hK p (.exit id) st x a w h hR hF
    exact Fin.of_step (fun cs => step_exit h1) h2
  | goto l =>
    obtain ⟨k', h1, h2⟩ := hK p (.goto l) st x a w h hR hF
    exact Fin.of_step (fun cs => step_goto h1) h2
  | region id ops draw => exact runRegion_sound hC hS hG hfz0 hinv hfn hbody hp (fun st x a w hk hR hF => hK p .normal st x a w hk hR hF) h hR hF
  | seq c1 c2 =>
    refine Fin.of_step (fun cs => step_seq) ?_
    have := run_sound hC hS hG hfz0 hinv hfn hbody c1 (0 :: p) st _ x a w (by simp only [codeAt, hp]) h hR hF (fun e st x a w hk hR hF => hK _ e st x a w hk hR hF)
    rw [ctxOf_seq0 hp] at this; exact this
  | cond cd c1 c2 =>
    refine cond_sound (stk := stk) (A := fun st => run s inst stk f fn.ntmps (0 :: p) c1 st _) (B := fun st => run s inst stk f fn.ntmps (1 :: p) c2 st _) h hR hF ?_ ?_
    · intro st x a w h hR hF
      have := run_sound hC hS hG hfz0 hinv hfn hbody c1 (0 :: p) st _ x a w (by simp only [codeAt, hp]) h hR hF (fun e st x a w hk hR hF => by rw [ctxOf_cond hp]; exact hK p e st x a w hk hR hF)
      rw [ctxOf_cond hp] at this; exact this
    · intro st x a w h hR hF
      have := run_sound hC hS hG hfz0 hinv hfn hbody c2 (1 :: p) st _ x a w (by simp only [codeAt, hp]) h hR hF (fun e st x a w hk hR hF => by rw [ctxOf_cond hp]; exact hK p e st x a w hk hR hF)
      rw [ctxOf_cond hp] at this; exact this
  | block id c1 =>
    refine Fin.of_step (fun cs => step_block) ?_
    have := run_sound hC hS hG hfz0 hinv hfn hbody c1 (0 :: p) st _ x a w (by simp only [codeAt, hp]) h hR hF (fun e st x a w hk hR hF => hK _ e st x a w hk hR hF)
    rw [ctxOf_block hp] at this; exact this
  | loop c1 =>
    have := run_sound hC hS hG hfz0 hinv hfn hbody c1 (0 :: p) st _ x a w (by simp only [codeAt, hp]) h hR hF (fun e st x a w hk hR hF => hK _ e st x a w hk hR hF)
    rw [ctxOf_loop hp] at this; exact this
  | scope c1 =>
    refine Fin.of_step (fun cs => step_scope) ?_
    have := run_sound hC hS hG hfz0 hinv hfn hbody c1 (0 :: p) st _ x a w (by simp only [codeAt, hp]) h hR hF (fun e st x a w hk hR hF => hK _ e st x a w hk hR hF)
    rw [ctxOf_scope hp] at this; exact this
  | _ => cases h

/-- What is laid from outside is met. -/
def ExtOk (P : Program) (C : Ctx) : Prop :=
  ∀ i g, C.ext i = some g → ∀ y r, g y = some r → ∀ (w : World) (fz0 : Nat → Prop) (vs : List Value), (∀ b, fz0 b → b < w.heap.size) → (C.fn (C.fid i)).isSome = true → C.inv w → DenL w.heap fz0 (C.pts i) y vs →
    Calls P (C.fid i) vs.toArray w (RetE C w fz0 i r)

theorem DenL_length {hp : Array Obj} {ok : Nat → Prop} (ts : List Ty) : ∀ {y : den (tyL ts)} {vs : List Value}, DenL hp ok ts y vs → vs.length = ts.length := by
  induction ts with
  | nil => intro y vs h; rw [DenL_0] at h; subst h; rfl
  | cons t ts ih =>
    cases ts with
    | nil => intro y vs h; rw [DenL_1] at h; obtain ⟨v, rfl, _⟩ := h; rfl
    | cons u ts => intro y vs h; rw [DenL_2] at h; obtain ⟨v, vs', rfl, _, h⟩ := h; simp [ih h]

/-- The machine is sound at every depth. -/
theorem sem_sound (hC : CtxOk P C) (hE : ExtOk P C) (hP : ∀ i fn, C.fn (C.fid i) = some fn → (C.pts i).length ≤ fn.ntmps) : ∀ k, SpecOk P (sem C k) ∧ StageOk P (sem C k) := by
  intro k
  induction k with
  | zero => exact ⟨fun i y r h => (by cases h), fun inst stk f p st r h => (by cases h)⟩
  | succ k ih =>
    obtain ⟨hS, hG⟩ := ih
    have hG' : StageOk P (sem C (k + 1)) := by
      intro inst stk f p st r h w0 fz0 x fs a w fn body c hfz0 hinv hfn hbody hp hR hF
      exact stageStep_sound hC hS hG hfz0 hinv h hfn hbody hp hR hF
    refine ⟨fun i y r h w fz0 vs hfz0 hfn hinv hy => ?_, hG'⟩
    have h : (match C.ext i with
        | some g => g y
        | none => stageStep (sem C k) i [] (C.fid i) [] { env := parEnv 0 (ofDenL (C.pts i) y), heap := [], salt := 0 }) = some r := h
    split at h
    · rename_i g hg
      exact hE i g hg y r h w fz0 vs hfz0 hfn hinv hy
    · obtain ⟨fn, hfn'⟩ := Option.isSome_iff_exists.1 hfn
      obtain ⟨g1, g2, g3⟩ := hC.fn _ fn hfn'
      obtain ⟨body, hbody⟩ := Option.isSome_iff_exists.1 g2
      have hlen := DenL_length _ hy
      have hP := hP i fn hfn'
      refine Fin.calls ?_
      rw [enter_mk g1 hbody]
      refine Fin.of_stop (c := body) (td := []) ?_
      let x : Cx := { hp := w.heap, fz := fz0, m := fun _ => none, H := [] }
      have hx : HR x w.heap.size := ⟨(fun tok b hb => by cases hb), (fun t1 t2 b h1 _ => by obtain ⟨⟨o, h⟩, _⟩ := h1; cases h), hfz0⟩
      refine stageStep_sound hC hS hG hfz0 hinv (x := x) h hfn' hbody rfl ?_ .nil
      exact ⟨rfl, rfl, enter_env (x := x) (ofDenL_RVL (x := x) _ hy) _, by simp; omega, rfl, hx, fun b hb => .inl hb, .refl _ _⟩

end
end Go.Proofs.YtcdcijhfjiahkaaDoorR.K
