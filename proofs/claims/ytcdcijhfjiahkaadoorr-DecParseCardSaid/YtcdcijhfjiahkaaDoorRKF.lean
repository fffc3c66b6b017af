/- The abstract machine: control. -/
import Derived.Test.YtcdcijhfjiahkaaDoorRKE
set_option linter.unusedVariables false
set_option linter.unusedSimpArgs false
namespace Go.Proofs.YtcdcijhfjiahkaaDoorR.K
open Go
open Go.RowKit (Below)

section
variable {P : Program} {C : Ctx} (hC : CtxOk P C) {s : Sm C} (hS : SpecOk P s) (hG : StageOk P s) {inst : Nat} {r : den (tyL (C.rts inst))} {w0 : World} {fz0 : Nat → Prop} (hfz0 : ∀ b, fz0 b → b < w0.heap.size) (hinv : C.inv w0)

theorem get_pick (l : List (Nat × Shape)) (e : Env) (t : Nat) : get (l.map fun p => (p.1, get e p.1)) t = .undef ∨ get (l.map fun p => (p.1, get e p.1)) t = get e t := by
  induction l with
  | nil => exact .inl rfl
  | cons p l ih =>
    simp only [List.map_cons, get]
    split
    · rename_i h
      have := Nat.eq_of_beq_eq_true h
      subst this
      exact .inr rfl
    · exact ih
theorem EnvR.pick {x : Cx} {e : Env} {a : Act} (h : EnvR x e a) (o : Option Ann) : EnvR x (pickE o e) a := by
  cases o with
  | none => exact h
  | some an =>
    intro t
    rcases get_pick an.live e t with h0 | h1
    · show RV x (get (an.live.map fun p => (p.1, get e p.1)) t) _
      rw [h0]; exact .undef _
    · show RV x (get (an.live.map fun p => (p.1, get e p.1)) t) _
      rw [h1]; exact h t
theorem get_parEnv : ∀ (vs : List AV) (i t : Nat), get (parEnv i vs) t = if t < i then .undef else vs.getD (t - i) .undef
  | [], i, t => by simp [parEnv, get]
  | v :: vs, i, t => by
    simp only [parEnv, get]
    by_cases h : i = t
    · subst h; simp [beq_self]
    · rw [beq_ne h]
      simp only
      rw [get_parEnv vs (i + 1) t]
      by_cases h1 : t < i
      · rw [if_pos (by omega), if_pos h1]
      · rw [if_neg (by omega), if_neg h1]
        have : t - i = (t - (i + 1)) + 1 := by omega
        rw [this]; rfl

/-- A call that is begun. -/
theorem enter_mk {g : Nat} {fn : Func} {body : Code} (hf : P.funcs[g]? = some fn) (hb : fn.body = some body) (args : Array Value) :
    Frame.enter P g args .normal = mk g { tmps := args ++ Array.replicate (fn.ntmps - args.size) undef, defers := [] } [.code body] := by
  simp [Frame.enter, mk, Frame.at, hf, hb]

theorem enter_env {x : Cx} {vs : List AV} {us : List Value} (h : RVL x vs us) (n : Nat) : EnvR x (parEnv 0 vs) { tmps := us.toArray ++ Array.replicate n undef, defers := [] } := by
  intro t
  rw [get_parEnv]
  simp only [Nat.not_lt_zero, if_false, Nat.sub_zero]
  have hl := h.length
  by_cases ht : t < vs.length
  · have e : vs.getD t .undef = vs[t] := by simp [List.getD, ht]
    obtain ⟨u, hu, hr⟩ := RVL.get t h (List.getElem?_eq_getElem ht)
    rw [e]
    have : ((us.toArray ++ Array.replicate n undef).getD t undef) = u := by
      simp only [Array.getD_eq_getD_getElem?]
      rw [Array.getElem?_append_left (by simp; omega)]
      simp [hu]
    rw [this]; exact hr
  · have e : vs.getD t .undef = .undef := by simp [List.getD, List.getElem?_eq_none (show vs.length ≤ t by omega)]
    rw [e]; exact .undef _

theorem Fin.of_stop {R : Ending → World → Prop} {f0 f : FuncId} {a : Act} {c : Code} {td : List Item} {fs : List Frame} {w : World} (h : Fin P R f0 (mk f a (stopTodo c td)) fs w) :
    Fin P R f0 (mk f a (.code c :: td)) fs w := by
  cases c with
  | loop b => exact Fin.of_step (fun cs => step_loop) h
  | _ => exact h

variable {f : Nat} {fn : Func} {body : Code} (hfn : C.fn f = some fn) (hbody : fn.body = some body)

/-- The end of this call is reached, as it should be. -/
abbrev FinS (P : Program) (C : Ctx) (w0 : World) (fz0 : Nat → Prop) (inst : Nat) (r : den (tyL (C.rts inst))) (fr : Frame) (fs : List Frame) (w : World) : Prop :=
  Fin P (RetE C w0 fz0 inst r) (C.fid inst) fr fs w

include hC hS hG hfz0 hinv hfn hbody in
theorem doOp_sound {path : Path} {id : Nat} {ops : Array Oper} {draw : Bool} {stk : List Fr} {fs : List Frame} {K : St → Option (den (tyL (C.rts inst)))} {i : Nat} {rest : List Nat} {o : Oper}
    (hat : codeAt body path = some (.region id ops draw)) (ho : ops[i]? = some o) (hd : ∀ d, o.dst = some d → d < fn.ntmps)
    (hK : ∀ st x a w, K st = some r → SR x w0 fz0 fn.ntmps st a w → FrsR C (C.fid inst) x stk fs f → FinS P C w0 fz0 inst r (mk f a (.inRegion ops rest :: ctxOf body path)) fs w)
    {st : St} {x : Cx} {a : Act} {w : World} (h : doOp s inst stk f path i rest o K st = some r) (hR : SR x w0 fz0 fn.ntmps st a w) (hF : FrsR C (C.fid inst) x stk fs f)
    (hw : Region.wanted o (yielded ops a.tmps) = true) : FinS P C w0 fz0 inst r (mk f a (.inRegion ops (i :: rest) :: ctxOf body path)) fs w := by
  unfold doOp at h
  simp only at h
  split at h
  · -- a call
    rename_i fo args ats hop
    split at h
    · rename_i g first caps hfo
      split at h
      · cases h
      · rename_i gfn hgfn
        -- what the call is handed
        have hfv := ev_RV hR.env fo
        rw [hfo] at hfv
        have hargs := ev_RVL hR.env args.toList
        generalize hfoe : a.eval fo = fv at hfv
        cases hfv with
        | func _ _ _ vs1 vs2 q1 q2 =>
        have hrv : RVL x (first ++ args.toList.map (ev st.env) ++ caps) (vs1 ++ args.toList.map a.eval ++ vs2) := (q1.append hargs).append q2
        have hrun : (execOp a.eval o).run P w = .ok (.enter g (vs1 ++ args.toList.map a.eval ++ vs2).toArray) w := by
          obtain ⟨dst, op, type, pos, after, guard⟩ := o
          simp only at hop
          subst hop
          exact run_call hC hfoe hgfn
        obtain ⟨g1, g2, g3⟩ := hC.fn g gfn hgfn
        refine Fin.of_step (fs' := mk f a (.inRegion ops (i :: rest) :: ctxOf body path) :: fs) (fun cs => by rw [step_enter ho hw hrun]; rfl) ?_
        split at h
        · -- another instance
          rename_i j hdisp
          split at h
          · rename_i y hbeq hy
            have hfid := beq_true hbeq
            obtain ⟨q, hq, hk⟩ := Option.bind_eq_some_iff.1 h
            obtain ⟨c1, c2, c3⟩ := call_step hC hR hF hrv hy (dst := o.dst) hd
            have hcalls := hS j y q hq w _ _ c1 (by rw [hfid, hgfn]; rfl) (hC.keeps _ _ hinv hR.bel) c2
            rw [hfid] at hcalls
            refine Fin.call (G := fun v w' => Ret C w (frzCx x (toksL (first ++ args.toList.map (ev st.env) ++ caps))).fz j q w' v) hcalls fun v w' hret => ?_
            rw [finish_mk f a ops i rest _ v ho]
            obtain ⟨d1, d2⟩ := c3 v w' q hret
            split at hk
            · rename_i hown d' hdst
              split at hk
              · rename_i rs hn n hfr himp
                split at hk
                · rename_i hn16
                  obtain ⟨x', k1, k2⟩ := d2 _ rs hn n hfr himp (Nat.le_of_ble_eq_true hn16)
                  exact hK _ x' _ w' hk k1 k2
                · cases hk
              · cases hk
            · rename_i hno
              have : hasOwn (tyL (C.rts j)) = false ∨ o.dst = none := by
                cases h1 : hasOwn (tyL (C.rts j)) with
                | false => exact .inl rfl
                | true =>
                  cases h2 : o.dst with
                  | none => exact .inr rfl
                  | some d' => exact absurd h2 (hno d' h1)
              obtain ⟨x', k1, k2⟩ := d1 this
              exact hK _ x' _ w' hk k1 k2
          · cases h
        · -- gone into
          obtain ⟨gbody, hgb⟩ := Option.isSome_iff_exists.1 g2
          rw [enter_mk g1 hgb]
          split at h
          · rename_i hle
            have hle := Nat.le_of_ble_eq_true hle
            have hlen := hrv.length
            refine Fin.of_stop (c := gbody) (td := []) ?_
            refine hG inst _ g [] _ r h w0 fz0 x (mk f a (.inRegion ops (i :: rest) :: ctxOf body path) :: fs) _ w gfn gbody gbody hfz0 hinv hgfn hgb rfl ?_ ?_
            · exact ⟨hR.hp, hR.H, enter_env hrv _, by simp at hle hlen ⊢; omega, rfl, hR.hr, hR.fz, hR.bel⟩
            · exact .cons { f := f, path := path, op := i, rest := rest, env := pickE (C.ann inst f ((i + 1000000) :: path)) st.env, salt := st.salt } stk fs g fn body a id ops draw o hfn hbody hat ho (hR.env.pick _) hR.defers hR.size hd hF
          · cases h
        · cases h
    · cases h
  · -- what calls nothing
    rename_i op hnc
    split at h
    · cases h
    · cases h
    · rename_i c b v1 v2 H hop hm
      cases hc : c with
      | false => rw [hc] at h; simp at h
      | true =>
        rw [hc] at h
        simp only [cond_true] at h
        obtain ⟨nx, v, w', x', k1, k2, k3, k4⟩ := plain_step hC hR hF hop hc hm hd
        refine Fin.of_step (fs' := fs) (fun cs => step_val ho hw k1 k2) ?_
        cases b with
        | true => exact hK _ x' _ w' h k3 k4
        | false => exact hK _ x' _ w' h k3 k4

theorem yielded_none {x : Cx} {e : Env} {a : Act} (h : EnvR x e a) {ops : Array Oper} {j d : Nat} (hj : (ops[j]?).bind (·.dst) = some d) {v : Value} (hv : get e d = .cst v) (hnb : ∀ b, v = .bool b → False) : yielded ops a.tmps j = none := by
  have hr := h d
  rw [hv] at hr
  generalize hve : a.tmps.getD d undef = gv at hr
  cases hr with
  | cst _ =>
  unfold yielded
  rw [hj]
  cases ht : a.tmps[d]? with
  | none => simp [ht]
  | some u =>
    have : u = v := by simpa [Array.getD_eq_getD_getElem?, ht] using hve
    subst this
    simp only [Option.bind_some, ht]
    cases u with
    | bool b => exact (hnb b rfl).elim
    | _ => rfl

include hC hS hG hfz0 hinv hfn hbody in
theorem runOps_sound {path : Path} {id : Nat} {ops : Array Oper} {draw : Bool} {stk : List Fr} {fs : List Frame} {K : St → Option (den (tyL (C.rts inst)))}
    (hat : codeAt body path = some (.region id ops draw))
    (hK : ∀ st x a w, K st = some r → SR x w0 fz0 fn.ntmps st a w → FrsR C (C.fid inst) x stk fs f → FinS P C w0 fz0 inst r (mk f a (ctxOf body path)) fs w) :
    ∀ (l : List Nat) (st : St) (x : Cx) (a : Act) (w : World), runOps s inst stk f fn.ntmps path ops K l st = some r → SR x w0 fz0 fn.ntmps st a w → FrsR C (C.fid inst) x stk fs f →
      FinS P C w0 fz0 inst r (mk f a (.inRegion ops l :: ctxOf body path)) fs w := by
  intro l
  induction l with
  | nil =>
    intro st x a w h hR hF
    exact Fin.of_step (fun cs => step_region_end) (hK st x a w h hR hF)
  | cons i rest ih =>
    intro st x a w h hR hF
    simp only [runOps] at h
    split at h
    · cases h
    · rename_i o ho
      split at h
      · cases h
      · rename_i hdst
        have hd : ∀ d, o.dst = some d → d < fn.ntmps := by
          intro d hd
          rw [hd] at hdst
          exact Nat.lt_of_succ_le (Nat.le_of_ble_eq_true hdst)
        split at h
        · -- no guard
          rename_i hg
          exact doOp_sound hC hS hG hfz0 hinv hfn hbody hat ho hd (fun st x a w h hR hF => ih st x a w h hR hF) h hR hF (by simp [Region.wanted, hg])
        · rename_i j want hg
          split at h
          · cases h
          · rename_i d hjd
            split at h
            · rename_i g hgd
              -- the guard's value, in the model's machine
              have hv := hR.env d
              rw [hgd] at hv
              generalize hve : a.tmps.getD d undef = gv at hv
              cases hv with
              | bool _ =>
              have hlt : d < a.tmps.size := by
                rcases Nat.lt_or_ge d a.tmps.size with h' | h'
                · exact h'
                · rw [Array.getD_eq_getD_getElem?, Array.getElem?_eq_none h'] at hve; simp [undef] at hve
              have hy : yielded ops a.tmps j = some g := by
                unfold yielded
                rw [hjd]
                have : a.tmps[d]? = some (.bool g) := by
                  rw [Array.getD_eq_getD_getElem?, Array.getElem?_eq_getElem hlt] at hve
                  rw [Array.getElem?_eq_getElem hlt]
                  simpa using hve
                simp [this]
              have hwant : ∀ b, g = b → Region.wanted o (yielded ops a.tmps) = (b == want) := by
                intro b hb; subst hb; simp [Region.wanted, hg, hy]
              have known : ∀ b, g = b → SR x w0 fz0 fn.ntmps { st with env := put st.env d (.bool b) } a w := by
                intro b hb; subst hb
                exact ⟨hR.hp, hR.H, known_env hR.env (by rw [hve]; exact .bool _), hR.size, hR.defers, hR.hr, hR.fz, hR.bel⟩
              have yes : ∀ b, g = b → (b == want) = true → doOp s inst stk f path i rest o (fun st => runOps s inst stk f fn.ntmps path ops K rest st) { st with env := put st.env d (.bool b) } = some r →
                  FinS P C w0 fz0 inst r (mk f a (.inRegion ops (i :: rest) :: ctxOf body path)) fs w := by
                intro b hb hbw h
                exact doOp_sound hC hS hG hfz0 hinv hfn hbody hat ho hd (fun st x a w h hR hF => ih st x a w h hR hF) h (known b hb) hF (by rw [hwant b hb, hbw])
              have no : ∀ b, g = b → (b == want) = false → runOps s inst stk f fn.ntmps path ops K rest { st with env := putO (put st.env d (.bool b)) o.dst (.cst undef) } = some r →
                  FinS P C w0 fz0 inst r (mk f a (.inRegion ops (i :: rest) :: ctxOf body path)) fs w := by
                intro b hb hbw h
                refine Fin.of_step (fun cs => step_skipped ho (by rw [hwant b hb, hbw])) ?_
                have k := known b hb
                exact ih _ x _ w h ⟨k.hp, k.H, putO_env k.env (.cst _) (fun t ht => by rw [hR.size]; exact hd t ht), by rw [put_size]; exact hR.size, by rw [put_defers]; exact hR.defers, hR.hr, hR.fz, hR.bel⟩ hF
              split at h
              · cases hge : g with
                | true => rw [hge] at h; exact yes true hge rfl h
                | false => rw [hge] at h; exact no false hge rfl h
              · cases hge : g with
                | true => rw [hge] at h; exact no true hge rfl h
                | false => rw [hge] at h; exact yes false hge rfl h
            · rename_i v hgd
              split at h
              · cases h
              · rename_i hnb
                have hy := yielded_none (ops := ops) hR.env hjd hgd (fun b hb => hnb b hb)
                refine Fin.of_step (fun cs => step_skipped ho (by simp [Region.wanted, hg, hy])) ?_
                exact ih _ x _ w h ⟨hR.hp, hR.H, putO_env hR.env (.cst _) (fun t ht => by rw [hR.size]; exact hd t ht), by rw [put_size]; exact hR.size, by rw [put_defers]; exact hR.defers, hR.hr, hR.fz, hR.bel⟩ hF
            · cases h

end
end Go.Proofs.YtcdcijhfjiahkaaDoorR.K
