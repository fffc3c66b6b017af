/- The abstract machine: a region's operations. -/
import Derived.Test.YtcdcijhfjiahkaaDoorRKD
set_option linter.unusedVariables false
set_option linter.unusedSimpArgs false
namespace Go.Proofs.YtcdcijhfjiahkaaDoorR.K
open Go
open Go.RowKit (Below)

/-- What holds of the stops of one depth. -/
def StageOk (P : Program) {C : Ctx} (s : Sm C) : Prop :=
  ∀ inst stk f p st r, s.stage inst stk f p st = some r → ∀ (w0 : World) (fz0 : Nat → Prop) (x : Cx) (fs : List Frame) (a : Act) (w : World) (fn : Func) (body c : Code),
    (∀ b, fz0 b → b < w0.heap.size) → C.inv w0 → C.fn f = some fn → fn.body = some body → codeAt body p = some c → SR x w0 fz0 fn.ntmps st a w → FrsR C (C.fid inst) x stk fs f →
    Fin P (RetE C w0 fz0 inst r) (C.fid inst) (mk f a (stopTodo c (ctxOf body p))) fs w

section
variable {P : Program} {C : Ctx} (hC : CtxOk P C) {s : Sm C} (hS : SpecOk P s) (hG : StageOk P s) {inst : Nat} {r : den (tyL (C.rts inst))} {w0 : World} {fz0 : Nat → Prop} (hfz0 : ∀ b, fz0 b → b < w0.heap.size) (hinv : C.inv w0)

theorem SR.n0 {x : Cx} {nt : Nat} {st : St} {a : Act} {w : World} (h : SR x w0 fz0 nt st a w) : w0.heap.size ≤ w.heap.size := h.bel.size

/-- One step on: the state behind an operation. -/
theorem SR.next {x x' : Cx} {nt : Nat} {st : St} {a : Act} {w w' : World} {S : Nat → Prop} (h : SR x w0 fz0 nt st a w) (N : NxS x x' w0.heap.size S w w') (hS : ∀ T ∈ envToks st.env, S T) {dst : Option Nat}
    (hd : ∀ d, dst = some d → d < nt) {v : AV} {u : Value} (hv : RV x' v u) {H : Heap} (hH : x'.H = H) : SR x' w0 fz0 nt { st with env := putO st.env dst v, heap := H } (a.put dst u) w' :=
  ⟨N.hp, hH, putO_env (h.env.mono N.ext hS) hv (fun t ht => by rw [h.size]; exact hd t ht), by rw [put_size]; exact h.size, by rw [put_defers]; exact h.defers, N.hr,
    fun b hb => (N.fz b hb).elim (h.fz b) .inr, h.bel.trans N.bel⟩

/-- The machine's own tokens of one operation are away from all that is named. -/
theorem plain_step (hC : CtxOk P C) {x : Cx} {nt : Nat} {st : St} {a : Act} {w : World} {stk : List Fr} {fs : List Frame} {f : Nat} (h : SR x w0 fz0 nt st a w) (hF : FrsR C (C.fid inst) x stk fs f) {o : Oper} {tok : Nat} {c b : Bool} {v1 v2 : AV} {H : Heap}
    (hop : plainOp C st.env st.heap tok o.op = .ok c b v1 v2 H) (hc : c = true) (hm : (!makes C o.op || (o.dst.isSome && freshAt stk st tok)) = true) (hd : ∀ d, o.dst = some d → d < nt) :
    ∃ nx v w' x', (execOp a.eval o).run P w = .ok nx w' ∧ (nx = .value v ∨ (nx = .skip ∧ v = undef)) ∧ SR x' w0 fz0 nt { st with env := putO st.env o.dst (cond b v1 v2), heap := H } (a.put o.dst v) w' ∧
      FrsR C (C.fid inst) x' stk fs f := by
  -- a token that is not named
  have T : ∃ tok', plainOp C st.env st.heap tok' o.op = .ok c b v1 v2 H ∧ (∀ T ∈ envToks st.env, ¬ InB tok' T) ∧ (∀ T ∈ heapToks st.heap, ¬ InB tok' T) ∧ ∀ T ∈ stkToks stk, ¬ InB tok' T := by
    cases hmk : makes C o.op with
    | true =>
      rw [hmk] at hm
      simp only [Bool.not_true, Bool.false_or, Bool.and_eq_true] at hm
      exact ⟨tok, hop, freshAt_ok hm.2⟩
    | false =>
      obtain ⟨tok', ht⟩ := exists_fresh (envToks st.env ++ heapToks st.heap ++ stkToks stk)
      exact ⟨tok', by rw [← hop]; exact plainOp_tok _ _ _ _ _ hmk, fun T hT => ht T (by simp [hT]), fun T hT => ht T (by simp [hT]), fun T hT => ht T (by simp [hT])⟩
  obtain ⟨tok', hop', f1, f2, f3⟩ := T
  have := plainOp_sound (tok := tok') hC.ti h.hr h.hp h.n0 (o := o) h.env (fun _ => by rw [h.H]; exact f2) (fun _ => f1)
  rw [h.H, hop'] at this
  obtain ⟨nx, v, w', x', k1, k2, k3, k4, k5⟩ := this hc
  exact ⟨nx, v, w', x', k1, k2, h.next k4 f1 hd k5 k3, hF.mono k4.ext f3⟩

theorem toksL_ev (e : Env) (l : List Operand) : ∀ T ∈ toksL (l.map (ev e)), T ∈ envToks e := by
  intro T hT
  induction l with
  | nil => cases hT
  | cons o l ih =>
    simp only [List.map_cons, toksL, List.mem_append] at hT
    rcases hT with h | h
    · exact toks_ev e o T h
    · exact ih h

theorem toks_func {e : Env} {fo : Operand} {g : Nat} {first caps : List AV} (h : ev e fo = .func g first caps) (args : List Operand) : ∀ T ∈ toksL (first ++ args.map (ev e) ++ caps), T ∈ envToks e := by
  intro T hT
  have := toks_ev e fo
  rw [h] at this
  simp only [toks, List.mem_append] at this
  rw [toksL_append, toksL_append] at hT
  simp only [List.mem_append] at hT
  rcases hT with (h | h) | h
  · exact this T (.inl h)
  · exact toksL_ev e args T h
  · exact this T (.inr h)

theorem heapToks_shown (b : Bool) (ts : List Nat) (h : Heap) : heapToks (shown b ts h) = heapToks h := by
  cases b
  · rfl
  · exact heapToks_freeze ts h

/-- The state behind a call of another instance. -/
theorem call_step (hC : CtxOk P C) {x : Cx} {nt : Nat} {st : St} {a : Act} {w : World} {stk : List Fr} {fs : List Frame} {f : Nat} (h : SR x w0 fz0 nt st a w) (hF : FrsR C (C.fid inst) x stk fs f) {vs : List AV} {us : List Value} (hv : RVL x vs us)
    {j : Nat} {y : den (tyL (C.pts j))} (hy : toDenL st.heap (C.pts j) vs = some y) {dst : Option Nat} (hd : ∀ d, dst = some d → d < nt) :
    (∀ b, (frzCx x (toksL vs)).fz b → b < w.heap.size) ∧ DenL w.heap (frzCx x (toksL vs)).fz (C.pts j) y us ∧
    ∀ (v : Value) (w' : World) (q : den (tyL (C.rts j))), Ret C w (frzCx x (toksL vs)).fz j q w' v →
      ((hasOwn (tyL (C.rts j)) = false ∨ dst = none) → ∃ x', SR x' w0 fz0 nt { st with env := putO st.env dst (tupOf (C.rts j) (ofDenL (C.rts j) q)), heap := shown (hasSl (tyL (C.rts j))) (toksL vs) st.heap } (a.put dst v) w' ∧
        FrsR C (C.fid inst) x' stk fs f) ∧
      (∀ tok rs hn n, freshAt stk st tok = true → impL tok (C.rts j) q 0 = (rs, hn, n) → n ≤ 16 → ∃ x', SR x' w0 fz0 nt { st with env := putO st.env dst (tupOf (C.rts j) rs), heap := hputs (shown (hasSl (tyL (C.rts j))) (toksL vs) st.heap) hn } (a.put dst v) w' ∧
        FrsR C (C.fid inst) x' stk fs f) := by
  have NF := frz_next h.hr h.hp (tok := 0) (toksL vs)
  have hfzlt : ∀ b, (frzCx x (toksL vs)).fz b → b < w.heap.size := fun b hb => by
    have := NF.hr.size b hb
    rw [NF.hp] at this; exact this
  have hden : DenL w.heap (frzCx x (toksL vs)).fz (C.pts j) y us := by
    have := toDenL_deep h.hr (fz' := (frzCx x (toksL vs)).fz) (fun b hb => .inl hb) (C.pts j) hv (frz_shows h.hr _) (by rw [h.H]; exact hy)
    rw [h.hp] at this; exact this
  refine ⟨hfzlt, hden, fun v w' q hret => ?_⟩
  obtain ⟨ow, ok, rvs, hok, hnd, hown, rfl, hres⟩ := hret.res
  -- behind the call: with or without what was shown
  have base : ∃ x1, NxS x x1 w0.heap.size (fun _ => True) w w' ∧ x1.H = shown (hasSl (tyL (C.rts j))) (toksL vs) st.heap ∧ (hasSl (tyL (C.rts j)) = true → ∀ b, ok b → x1.fz b) ∧ (∀ b ∈ ow, ¬ x1.fz b) ∧ (∀ T b, Owns x1 T b → b < w.heap.size) := by
    have ownlt : ∀ (z : Cx), HR z w0.heap.size → z.hp = w.heap → ∀ T b, Owns z T b → b < w.heap.size := by
      rintro z hz hzp T b ⟨⟨o, ho⟩, hk⟩
      rw [← hzp]
      rcases hk with ⟨t, l, hk⟩ | ⟨cs, hk⟩
      · rcases hz.blk T _ hk with ⟨_, h'⟩ | ⟨B', o', c, e, fr, h1, h2, _⟩
        · rw [ho] at h'; simp at h'
        · rw [ho] at h1; simp only [Option.some.injEq, Prod.mk.injEq] at h1
          rw [h1.1]; exact lt_size h2
      · obtain ⟨B', c, e, fr, h1, h2, _⟩ := hz.blk T _ hk
        rw [ho] at h1; simp only [Option.some.injEq, Prod.mk.injEq] at h1
        rw [h1.1]; exact lt_size h2
    cases hsl : hasSl (tyL (C.rts j)) with
    | true =>
      have N1 : NxS x (frzCx x (toksL vs)) w0.heap.size (fun _ => True) w w := ⟨frz_ext x _ _, NF.hr, NF.fz, .refl _ _, NF.hp⟩
      have N2 := call_next N1.hr N1.hp h.n0 hret.bel ok
      refine ⟨_, N1.trans N2, by show freeze (toksL vs) x.H = _; rw [h.H]; rfl, fun _ b hb => ?_, fun b hb => ?_, fun T b ho => ownlt _ N1.hr N1.hp T b ho⟩
      · rcases hok b hb with hb' | ⟨h1, h2⟩
        · exact .inl hb'
        · exact .inr ⟨hb, h1, h2⟩
      · obtain ⟨h1, h2⟩ := hown b hb
        rintro (h' | ⟨h', _, _⟩)
        · have := hfzlt b h'; omega
        · exact h2 h'
    | false =>
      have N2 := call_next h.hr h.hp h.n0 hret.bel (fun _ => False)
      refine ⟨_, N2, h.H, (fun hh => by cases hh), fun b hb => ?_, fun T b ho => ownlt _ h.hr h.hp T b ho⟩
      obtain ⟨h1, h2⟩ := hown b hb
      rintro (h' | ⟨h', _, _⟩)
      · have := h.hr.size b h'; rw [h.hp] at this; omega
      · exact h'
  obtain ⟨x1, N1, hH1, hok1, hno1, hlt1⟩ := base
  have hp1 : x1.hp = w'.heap := N1.hp
  constructor
  · intro hcase
    -- nothing is given away, or it is not kept
    by_cases hdn : dst = none
    · subst hdn
      exact ⟨x1, h.next N1 (fun _ _ => trivial) hd (.undef (oneV rvs)) hH1, hF.mono N1.ext fun _ _ => trivial⟩
    · have ho : hasOwn (tyL (C.rts j)) = false := hcase.resolve_right hdn
      obtain ⟨_, hD⟩ := ResL_plain (C.rts j) ho hres
      have hD1 : DenL x1.hp x1.fz (C.rts j) q rvs := by
        rw [hp1]
        cases hsl : hasSl (tyL (C.rts j)) with
        | true => exact DenL_mono (fun b hb => ⟨hok1 hsl b hb, rfl⟩) _ hD
        | false => exact DenL_noSl _ hsl hD
      have hrv := tupOf_RV (ofDenL_RVL (x := x1) (C.rts j) hD1) (ofDenL_length _ q).symm
      exact ⟨x1, h.next N1 (fun _ _ => trivial) hd hrv hH1, hF.mono N1.ext fun _ _ => trivial⟩
  · intro tok rs hn n hfr himp hn16
    obtain ⟨f1, f2, f3⟩ := freshAt_ok hfr
    have hsl : hasSl (tyL (C.rts j)) = true ∨ ow = [] := by
      cases hsl : hasSl (tyL (C.rts j)) with
      | true => exact .inl rfl
      | false => exact .inr (ResL_plain (C.rts j) (own_sl _ hsl) hres).1
    have hres' : ∃ ok', ResL w'.heap ok' (C.rts j) q rvs ow ∧ ∀ b, ok' b → x1.fz b := by
      cases hs : hasSl (tyL (C.rts j)) with
      | true => exact ⟨ok, hres, hok1 hs⟩
      | false =>
        obtain ⟨h1, h2⟩ := ResL_plain (C.rts j) (own_sl _ hs) hres
        subst h1
        refine ⟨fun _ => False, ?_, fun b hb => hb.elim⟩
        have back : ∀ (ts : List Ty) {y : den (tyL ts)} {vs : List Value}, hasOwn (tyL ts) = false → DenL w'.heap (fun _ => False) ts y vs → ResL w'.heap (fun _ => False) ts y vs [] := by
          have backC : ∀ (t : Ty) (y : den t) (vs : List Value), hasOwn t = false → DeepC w'.heap (fun _ => False) t y vs → ResC w'.heap (fun _ => False) t y vs [] := by
            intro t
            induction t with
            | own t _ => intro y vs ho; simp [hasOwn] at ho
            | pair a b iha ihb =>
              intro y vs ho h
              simp only [hasOwn, Bool.or_eq_false_iff] at ho
              obtain ⟨v1, v2, rfl, k1, k2⟩ := h
              exact ⟨v1, v2, [], [], rfl, rfl, iha _ _ ho.1 k1, ihb _ _ ho.2 k2⟩
            | one t ih => intro y vs ho h; exact ih y vs ho h
            | _ => intro y vs ho h; exact ⟨rfl, h⟩
          have backV : ∀ (t : Ty) (y : den t) (v : Value), hasOwn t = false → DenV w'.heap (fun _ => False) t y v → ResV w'.heap (fun _ => False) t y v [] := by
            intro t y v ho h
            unfold DenV at h
            unfold ResV
            split at h
            · rename_i hag; rw [hag]; obtain ⟨vs, rfl, h⟩ := h; exact ⟨vs, rfl, backC t y vs ho h⟩
            · rename_i hag; rw [hag]; exact ⟨h.1, backC t y _ ho h.2⟩
          intro ts
          induction ts with
          | nil => intro y vs _ h; rw [DenL_0] at h; rw [ResL_0]; exact ⟨h, rfl⟩
          | cons t ts ih =>
            cases ts with
            | nil => intro y vs ho h; rw [DenL_1] at h; rw [ResL_1]; obtain ⟨v, rfl, h⟩ := h; exact ⟨v, rfl, backV t y v ho h⟩
            | cons u ts =>
              intro y vs ho h
              rw [DenL_2] at h
              rw [ResL_2]
              obtain ⟨v, vs', rfl, k1, k2⟩ := h
              have ho' : hasOwn t = false ∧ hasOwn (tyL (u :: ts)) = false := by simpa [tyL, hasOwn] using ho
              exact ⟨v, vs', [], [], rfl, rfl, backV t _ v ho'.1 k1, ih ho'.2 k2⟩
        exact back _ (own_sl _ hs) (DenL_noSl _ hs h2)
    obtain ⟨ok', hres', hok'⟩ := hres'
    obtain ⟨x2, I, k2, k3, k4, k5⟩ := impL_sound (n0 := w0.heap.size) (w := w') (C.rts j) himp hres' N1.hr hp1 hok' hnd (fun b hb => ⟨by have := (hown b hb).1; have := h.n0; omega, hno1 b hb, fun T ho => by
        have := hlt1 T b ho; have := (hown b hb).1; omega⟩) hn16 (fun T hT => by
        rw [hH1, heapToks_shown] at hT
        have := f2 T hT
        unfold InB at this; omega)
    have N2 : NxS x x2 w0.heap.size (fun T => ¬ InB tok T) w w' := (N1.weaken fun _ _ => trivial).trans (I.nx.weaken fun T hT => by unfold InB at hT; omega)
    have hrv := tupOf_RV k2 (by have := impL_length tok (C.rts j) q 0; rw [himp] at this; exact this.symm)
    exact ⟨x2, h.next N2 f1 hd hrv (by rw [I.H, hH1]), hF.mono N2.ext f3⟩

end
end Go.Proofs.YtcdcijhfjiahkaaDoorR.K
