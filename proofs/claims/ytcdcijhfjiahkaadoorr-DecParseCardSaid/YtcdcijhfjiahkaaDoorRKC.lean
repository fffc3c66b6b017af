/- The abstract machine: results brought in, and a call's own results. -/
import Derived.Test.YtcdcijhfjiahkaaDoorRKB
set_option linter.unusedVariables false
set_option linter.unusedSimpArgs false
namespace Go.Proofs.YtcdcijhfjiahkaaDoorR.K
open Go
open Go.RowKit (Below)

section
variable {P : Program} {C : Ctx} {x : Cx} {n0 tok : Nat} (hr : HR x n0) {w : World} (hp : x.hp = w.heap)

theorem impCells_mono (base : Nat) : ∀ (t : Ty) (y : den t) (j : Nat), j ≤ (impCells base t y j).2.2 := by
  intro t
  induction t with
  | own t _ => intro y j; simp [impCells]
  | pair a b iha ihb => intro y j; exact Nat.le_trans (iha y.1 j) (ihb y.2 (impCells base a y.1 j).2.2)
  | one t ih => intro y j; exact ih y j
  | _ => intro y j; exact Nat.le_refl _

theorem toks_ofDen (t : Ty) (y : den t) : toks (ofDen t y) = [] := by
  cases t <;> first
    | rfl
    | exact toks_cellsOf (.pair _ _) y
    | exact toks_cellsOf (.one _) y

def ImpOut (x : Cx) (n0 : Nat) (w : World) (base j j' : Nat) (hn : Heap) (ow : List Nat) (R : Cx → Prop) (T0 : List Nat) : Prop :=
  ∃ x', Imp x x' n0 (base + j) (base + j') w hn ∧ R x' ∧ j ≤ j' ∧ (∀ T ∈ T0, base + j ≤ T ∧ T < base + j') ∧ (∀ b, b ∉ ow → (∀ T, ¬ Owns x T b) → ∀ T, ¬ Owns x' T b)

theorem imp_sound {ok : Nat → Prop} {base : Nat} {t : Ty} {y : den t} {j : Nat} {av : AV} {hn : Heap} {j' : Nat} {v : Value} {ow : List Nat} {x : Cx} (hi : imp base t y j = (av, hn, j'))
    (hres : ResV w.heap ok t y v ow) (hr : HR x n0) (hp : x.hp = w.heap) (hok : ∀ b, ok b → x.fz b) (hnd : ow.Nodup) (hown : ∀ b ∈ ow, n0 ≤ b ∧ ¬ x.fz b ∧ ∀ T, ¬ Owns x T b) (hj : j' ≤ 16)
    (hfr : ∀ T ∈ heapToks x.H, T < base + j ∨ base + 16 ≤ T) : ImpOut x n0 w base j j' hn ow (fun x' => RV x' av v) (toks av) := by
  unfold imp at hi
  split at hi
  · rename_i ho
    simp only [Prod.mk.injEq] at hi
    obtain ⟨rfl, rfl, rfl⟩ := hi
    obtain ⟨rfl, hd⟩ := ResV_plain ho hres
    refine ⟨x, .refl hr hp _, ofDen_RV (DenV_mono (fun b hb => ⟨hok b hb, by rw [hp]⟩) hd), Nat.le_refl _, ?_, fun b _ h => h⟩
    rw [toks_ofDen]; intro T hT; cases hT
  · generalize hic : impCells base t y j = z at hi
    obtain ⟨cs, g, jj⟩ := z
    unfold ResV at hres
    split at hi
    · rename_i cs' h' j'' hag heq
      simp only [Prod.mk.injEq] at heq hi
      obtain ⟨rfl, rfl, rfl⟩ := heq
      obtain ⟨rfl, rfl, rfl⟩ := hi
      rw [hag] at hres
      obtain ⟨vs, rfl, hres⟩ := hres
      obtain ⟨x', k1, k2, k3, k4, k5⟩ := impCells_sound t y j hic hres hr hp hok hnd hown hj hfr
      exact ⟨x', k1, .agg _ _ k2, k3, by simpa [toks] using k4, k5⟩
    · rename_i c cs' h' j'' hag heq
      simp only [Prod.mk.injEq] at heq hi
      obtain ⟨rfl, rfl, rfl⟩ := heq
      obtain ⟨rfl, rfl, rfl⟩ := hi
      rw [hag] at hres
      obtain ⟨_, hres⟩ := hres
      obtain ⟨x', k1, k2, k3, k4, k5⟩ := impCells_sound t y j hic hres hr hp hok hnd hown hj hfr
      cases k2 with
      | cons _ _ _ _ q1 q2 => exact ⟨x', k1, q1, k3, fun T hT => k4 T (by simp [toksL, hT]), k5⟩
    · rename_i h' j'' hag heq
      simp only [Prod.mk.injEq] at heq hi
      obtain ⟨rfl, rfl, rfl⟩ := heq
      rw [hag] at hres
      obtain ⟨_, hres⟩ := hres
      obtain ⟨x', k1, k2, k3, k4, k5⟩ := impCells_sound t y j hic hres hr hp hok hnd hown (by obtain ⟨_, _, rfl⟩ := hi; exact hj) hfr
      cases k2

theorem imp_mono (base : Nat) (t : Ty) (y : den t) (j : Nat) : j ≤ (imp base t y j).2.2 := by
  have := impCells_mono base t y j
  unfold imp
  split
  · exact Nat.le_refl _
  · generalize impCells base t y j = z at this
    obtain ⟨cs, g, jj⟩ := z
    cases isAgg t <;> cases cs <;> exact this

theorem impL_0 (base : Nat) (y : den (tyL [])) (j : Nat) : impL base [] y j = ([], [], j) := rfl
theorem impL_1 (base : Nat) (t : Ty) (y : den (tyL [t])) (j : Nat) : impL base [t] y j = ([(imp base t y j).1], (imp base t y j).2.1, (imp base t y j).2.2) := rfl
theorem impL_2 (base : Nat) (t u : Ty) (ts : List Ty) (y : den (tyL (t :: u :: ts))) (j : Nat) : impL base (t :: u :: ts) y j =
  ((imp base t y.1 j).1 :: (impL base (u :: ts) y.2 (imp base t y.1 j).2.2).1, (imp base t y.1 j).2.1 ++ (impL base (u :: ts) y.2 (imp base t y.1 j).2.2).2.1, (impL base (u :: ts) y.2 (imp base t y.1 j).2.2).2.2) := rfl

theorem impL_mono (base : Nat) (ts : List Ty) : ∀ (y : den (tyL ts)) (j : Nat), j ≤ (impL base ts y j).2.2 := by
  induction ts with
  | nil => intro y j; rw [impL_0]; exact Nat.le_refl _
  | cons t ts ih =>
    cases ts with
    | nil => intro y j; rw [impL_1]; exact imp_mono base t y j
    | cons u ts => intro y j; rw [impL_2]; exact Nat.le_trans (imp_mono base t y.1 j) (ih y.2 _)

theorem impL_sound {ok : Nat → Prop} {base : Nat} (ts : List Ty) : ∀ {y : den (tyL ts)} {j : Nat} {vs : List Value} {ow : List Nat} {x : Cx} {rs : List AV} {hn : Heap} {j' : Nat}, impL base ts y j = (rs, hn, j') →
    ResL w.heap ok ts y vs ow → HR x n0 → x.hp = w.heap → (∀ b, ok b → x.fz b) → ow.Nodup → (∀ b ∈ ow, n0 ≤ b ∧ ¬ x.fz b ∧ ∀ T, ¬ Owns x T b) → j' ≤ 16 →
    (∀ T ∈ heapToks x.H, T < base + j ∨ base + 16 ≤ T) →
    ImpOut x n0 w base j j' hn ow (fun x' => RVL x' rs vs) (toksL rs) := by
  induction ts with
  | nil =>
    intro y j vs ow x rs hn j' hi hres hr hp hok hnd hown hj hfr
    rw [ResL_0] at hres
    rw [impL_0] at hi
    simp only [Prod.mk.injEq] at hi
    obtain ⟨rfl, rfl, rfl⟩ := hi
    obtain ⟨rfl, rfl⟩ := hres
    exact ⟨x, .refl hr hp _, .nil, Nat.le_refl _, (fun T hT => by cases hT), fun b _ h => h⟩
  | cons t ts ih =>
    cases ts with
    | nil =>
      intro y j vs ow x rs hn j' hi hres hr hp hok hnd hown hj hfr
      rw [ResL_1] at hres
      rw [impL_1] at hi
      generalize hz : imp base t y j = z at hi
      obtain ⟨av, g, j1⟩ := z
      simp only [Prod.mk.injEq] at hi
      obtain ⟨rfl, rfl, rfl⟩ := hi
      obtain ⟨v, rfl, hres⟩ := hres
      obtain ⟨x', k1, k2, k3, k4, k5⟩ := imp_sound hz hres hr hp hok hnd hown hj hfr
      exact ⟨x', k1, .cons _ _ _ _ k2 .nil, k3, fun T hT => k4 T (by simpa [toksL] using hT), k5⟩
    | cons u ts =>
      intro y j vs ow x rs hn j' hi hres hr hp hok hnd hown hj hfr
      rw [ResL_2] at hres
      rw [impL_2] at hi
      generalize hz : imp base t y.1 j = z at hi
      obtain ⟨av, g, j1⟩ := z
      simp only at hi
      generalize hz2 : impL base (u :: ts) y.2 j1 = z2 at hi
      obtain ⟨avs, g2, j2⟩ := z2
      simp only [Prod.mk.injEq] at hi
      obtain ⟨rfl, rfl, rfl⟩ := hi
      obtain ⟨v, vs', o1, o2, rfl, rfl, r1, r2⟩ := hres
      rw [List.nodup_append] at hnd
      obtain ⟨nd1, nd2, ndx⟩ := hnd
      have m2 := impL_mono base (u :: ts) y.2 j1
      rw [hz2] at m2
      simp only at m2
      obtain ⟨x1, i1, k1, l1, t1, q1⟩ := imp_sound hz r1 hr hp hok nd1 (fun b hb => hown b (by simp [hb])) (by omega) hfr
      have hp1 : x1.hp = w.heap := i1.nx.hp
      obtain ⟨x2, i2, k2, l2, t2, q2⟩ := ih hz2 r2 i1.nx.hr hp1 (fun b hb => by rw [i1.fz]; exact hok b hb) nd2
        (fun b hb => by
          obtain ⟨f1, f2, f3⟩ := hown b (by simp [hb])
          exact ⟨f1, by rw [i1.fz]; exact f2, q1 b (fun h => ndx b h b hb rfl) f3⟩) hj
        (fun T hT => by
          rcases i1.toks T hT with h | h
          · have := hfr T h; omega
          · left; omega)
      refine ⟨x2, i1.trans (by omega) (by omega) i2, .cons _ _ _ _ (RV.mono i2.nx.ext k1 fun T hT => by have := t1 T hT; omega) k2, by omega, fun T hT => ?_, fun b hb h T => ?_⟩
      · simp only [toksL, List.mem_append] at hT
        rcases hT with h | h
        · have := t1 T h; omega
        · have := t2 T h; omega
      · exact q2 b (fun h' => hb (by simp [h'])) (q1 b (fun h' => hb (by simp [h'])) h) T

/-! ### a call's own results -/
theorem oneOf_RV {x : Cx} {vs : List AV} {us : List Value} (h : RVL x vs us) : RV x (oneOf vs) (oneV us) := by
  cases h with
  | nil => exact .tup [] [] .nil
  | cons c v cs us h1 h2 =>
    cases h2 with
    | nil => exact h1
    | cons c' v' cs us h2 h3 => exact .tup _ _ (.cons _ _ _ _ h1 (.cons _ _ _ _ h2 h3))

theorem tupOf_RV {x : Cx} {ts : List Ty} {vs : List AV} {us : List Value} (h : RVL x vs us) (hl : ts.length = vs.length) : RV x (tupOf ts vs) (oneV us) := by
  have e : tupOf ts vs = oneOf vs := by
    unfold tupOf oneOf
    split
    · rfl
    · rename_i h1
      split
      · rename_i v
        exfalso
        match ts, hl with
        | [t], _ => exact h1 t v rfl rfl
      · rfl
  rw [e]; exact oneOf_RV h

theorem ofDenL_length (ts : List Ty) : ∀ y : den (tyL ts), (ofDenL ts y).length = ts.length := by
  induction ts with
  | nil => intro y; rfl
  | cons t ts ih =>
    cases ts with
    | nil => intro y; rfl
    | cons u ts => intro y; show (ofDen t y.1 :: ofDenL (u :: ts) y.2).length = _; rw [List.length_cons, ih y.2]; rfl

theorem impL_length (base : Nat) (ts : List Ty) : ∀ (y : den (tyL ts)) (j : Nat), (impL base ts y j).1.length = ts.length := by
  induction ts with
  | nil => intro y j; rfl
  | cons t ts ih =>
    cases ts with
    | nil => intro y j; rfl
    | cons u ts => intro y j; rw [impL_2, List.length_cons, ih y.2]; rfl

def resOne (a : Act) : ResultVar → Sem Value
  | .tmp t => pure (a.tmps.getD t undef)
  | .cell ad t => do loadVar t (← asAddr (a.tmps.getD ad undef))

theorem results_eq (fn : Func) (a : Act) : results fn a.tmps = (do
    let vs ← fn.results.mapM (resOne a)
    pure (if h : vs.size = 1 then vs[0] else .tuple vs)) := by
  unfold results
  congr 1

theorem resultsOf_sound (hT : CtxTI P C) (hr : HR x n0) (hp : x.hp = w.heap) {st : St} (hH : x.H = st.heap) {a : Act} (henv : ∀ t, RV x (get st.env t) (a.tmps.getD t undef)) :
    ∀ {rs : List ResultVar} {vs : List AV}, resultsOf (C := C) rs st = some vs → ∃ us, RVL x vs us ∧
      (rs.mapM (resOne a)).run P w = Result.ok us w
  | [], vs, h => by
    simp only [resultsOf, Option.some.injEq] at h; subst h
    exact ⟨[], .nil, by simp⟩
  | .tmp t :: rs, vs, h => by
    simp only [resultsOf] at h
    split at h
    · rename_i vs' hv
      simp only [Option.some.injEq] at h; subst h
      obtain ⟨us, h1, h2⟩ := resultsOf_sound hT hr hp hH henv hv
      refine ⟨_ :: us, .cons _ _ _ _ (henv t) h1, ?_⟩
      simp only [List.mapM_cons, resOne, Sem.run_bind, Sem.run_pure, Result.andThen_ok, h2]
    · simp at h
  | .cell ad t :: rs, vs, h => by
    simp only [resultsOf] at h
    split at h
    · rename_i ti hti
      split at h
      · rename_i v v2 h2 vs' hl hv
        simp only [Option.some.injEq] at h; subst h
        obtain ⟨us, h1, h2⟩ := resultsOf_sound hT hr hp hH henv hv
        have := loadOp_pure (P := P) hr hp (hT _ _ hti) (henv ad)
        rw [hH, hl] at this
        obtain ⟨u, k1, k2⟩ := this.2 rfl
        have hrun : (resOne a (.cell ad t)).run P w = .ok u w := by
          simp only [resOne]
          cases hv : a.tmps.getD ad undef with
          | pointer o =>
            cases o with
            | some p => rw [hv] at k1; simpa [Instr.loadAt, Instr.sureAddr, asAddr] using k1
            | none => rw [hv] at k1; simp [Instr.loadAt, Instr.sureAddr] at k1
          | _ => rw [hv] at k1; simp [Instr.loadAt, Instr.sureAddr] at k1
        refine ⟨u :: us, .cons _ _ _ _ k2 h1, ?_⟩
        rw [List.mapM_cons, Sem.run_bind]
        simp only [hrun, Sem.run_bind, Sem.run_pure, Result.andThen_ok, h2]
      · simp at h
    · simp at h

theorem results_run {fn : Func} {a : Act} {us : List Value} (h : (fn.results.toList.mapM (resOne a)).run P w = Result.ok us w) : (results fn a.tmps).run P w = .ok (oneV us) w := by
  rw [results_eq, Array.mapM_eq_mapM_toList]
  simp only [Sem.run_bind, Sem.run_map, h, Result.andThen_ok, Sem.run_pure]
  congr 1
  match us with
  | [] => rfl
  | [v] => rfl
  | _ :: _ :: _ => rfl

/-- The blocks of slices that are given away. -/
inductive OwOf (x : Cx) : List Nat → List Nat → Prop
  | nil : OwOf x [] []
  | skip (T : Nat) (g ow : List Nat) : OwOf x g ow → OwOf x (T :: g) ow
  | take (T b : Nat) (g ow : List Nat) : Owns x T b → OwOf x g ow → OwOf x (T :: g) (b :: ow)

theorem OwOf.append {x : Cx} {g ow g' ow' : List Nat} (h : OwOf x g ow) (k : OwOf x g' ow') : OwOf x (g ++ g') (ow ++ ow') := by
  induction h with
  | nil => exact k
  | skip T g ow _ ih => exact .skip T _ _ ih
  | take T b g ow ho _ ih => exact .take T b _ _ ho ih

theorem OwOf.mem {x : Cx} {g ow : List Nat} (h : OwOf x g ow) : ∀ b ∈ ow, ∃ T ∈ g, Owns x T b := by
  induction h with
  | nil => intro b hb; cases hb
  | skip T g ow _ ih => intro b hb; obtain ⟨T', h1, h2⟩ := ih b hb; exact ⟨T', by simp [h1], h2⟩
  | take T b g ow ho _ ih =>
    intro b' hb
    rcases List.mem_cons.1 hb with rfl | hb
    · exact ⟨T, by simp, ho⟩
    · obtain ⟨T', h1, h2⟩ := ih b' hb; exact ⟨T', by simp [h1], h2⟩

theorem nodupB_nodup : ∀ {l : List Nat}, nodupB l = true → l.Nodup
  | [], _ => List.nodup_nil
  | x :: l, h => by
    simp only [nodupB, Bool.and_eq_true, Bool.not_eq_true', List.elem_eq_mem, decide_eq_false_iff_not] at h
    exact List.nodup_cons.2 ⟨h.1, nodupB_nodup h.2⟩

theorem OwOf.nodup {x : Cx} (hr : HR x n0) {g ow : List Nat} (h : OwOf x g ow) (hg : g.Nodup) : ow.Nodup := by
  induction h with
  | nil => exact List.nodup_nil
  | skip T g ow _ ih => exact ih (List.nodup_cons.1 hg).2
  | take T b g ow ho h ih =>
    obtain ⟨h1, h2⟩ := List.nodup_cons.1 hg
    refine List.nodup_cons.2 ⟨fun hb => ?_, ih h2⟩
    obtain ⟨T', k1, k2⟩ := h.mem b hb
    have := hr.inj T T' b ho k2
    subst this
    exact h1 k1

theorem givesC_sound (hr : HR x n0) {fz' : Nat → Prop} (hf : ∀ b, x.fz b → fz' b) : ∀ (t : Ty) {cs : List AV} {vs : List Value} {y : den t} {g sh : List Nat} {rest rest' : List AV},
    RVL x cs vs → givesC x.H t cs = some (g, sh, rest) → ofCells t (cs.map (deep x.H)) = some (y, rest') → Shows x fz' sh →
    ∃ vs1 vs2 ow, vs = vs1 ++ vs2 ∧ ResC x.hp fz' t y vs1 ow ∧ rest' = rest.map (deep x.H) ∧ RVL x rest vs2 ∧ OwOf x g ow := by
  intro t
  have one : ∀ (t : Ty), t ≠ .unit → ∀ {c : AV} {cs : List AV} {v : Value} {vs : List Value} {y : den t} {rest' : List AV}, RV x c v → RVL x cs vs →
      (match ofCell t (deep x.H c) with
      | some x_1 => some (x_1, cs.map (deep x.H))
      | none => none) = some (y, rest') → Shows x fz' (toks c) → DeepC x.hp fz' t y [v] ∧ rest' = cs.map (deep x.H) := by
    intro t htu c cs v vs y rest' h1 h2 ho hs
    split at ho
    · rename_i y' hy
      obtain ⟨e1, e2⟩ := Prod.mk.inj (Option.some.inj ho)
      subst e1
      exact ⟨ofCell_deep hr hf h1 hs hy htu, e2.symm⟩
    · cases ho
  induction t with
  | unit =>
    intro cs vs y g sh rest rest' h hg ho hs
    simp only [givesC, Option.some.injEq, Prod.mk.injEq] at hg
    obtain ⟨rfl, rfl, rfl⟩ := hg
    simp only [ofCells, Option.some.injEq, Prod.mk.injEq] at ho
    exact ⟨[], vs, [], rfl, ⟨rfl, rfl⟩, ho.2.symm, h, .nil⟩
  | pair a b iha ihb =>
    intro cs vs y g sh rest rest' h hg ho hs
    simp only [givesC] at hg
    split at hg
    · rename_i g1 s1 c1 hg1
      split at hg
      · rename_i g2 s2 c2 hg2
        simp only [Option.some.injEq, Prod.mk.injEq] at hg
        obtain ⟨rfl, rfl, rfl⟩ := hg
        simp only [ofCells] at ho
        split at ho
        · rename_i y1 r1 ho1
          split at ho
          · rename_i y2 r2 ho2
            simp only [Option.some.injEq, Prod.mk.injEq] at ho
            obtain ⟨rfl, rfl⟩ := ho
            obtain ⟨v1, v2, o1, rfl, k1, rfl, k3, k4⟩ := iha h hg1 ho1 (fun T hT => hs T (by simp [hT]))
            obtain ⟨v3, v4, o3, rfl, q1, rfl, q3, q4⟩ := ihb k3 hg2 ho2 (fun T hT => hs T (by simp [hT]))
            exact ⟨v1 ++ v3, v4, o1 ++ o3, by simp, ⟨v1, v3, o1, o3, rfl, rfl, k1, q1⟩, rfl, q3, k4.append q4⟩
          · simp at ho
        · simp at ho
      · simp at hg
    · simp at hg
  | one t ih => intro cs vs y g sh rest rest' h hg ho hs; exact ih h hg ho hs
  | own t _ =>
    intro cs vs y g sh rest rest' h hg ho hs
    cases h with
    | nil => simp [givesC] at hg
    | cons c v cs vs h1 h2 =>
      simp only [givesC] at hg
      simp only [List.map_cons, ofCells] at ho
      split at hg
      · simp only [Option.some.injEq, Prod.mk.injEq] at hg
        obtain ⟨rfl, rfl, rfl⟩ := hg
        cases h1
        simp only [deep, ofCell, Option.some.injEq, Prod.mk.injEq] at ho
        obtain ⟨rfl, rfl⟩ := ho
        exact ⟨[_], vs, [], rfl, ⟨none, 0, rfl, Nat.le_refl _, .inl ⟨rfl, rfl, rfl⟩⟩, rfl, h2, .nil⟩
      · rename_i tk f
        split at hg
        · rename_i t' l hl
          simp only [Option.some.injEq, Prod.mk.injEq] at hg
          obtain ⟨rfl, rfl, rfl⟩ := hg
          simp only [deep, hl, ofCell] at ho
          split at ho
          · rename_i y' hy
            split at hy
            · rename_i he
              subst he
              obtain ⟨e1, e2⟩ := Prod.mk.inj (Option.some.inj ho)
              have hy := Option.some.inj hy
              subst e1; subst e2
              subst hy
              cases h1 with
              | who _ _ a n cap q =>
              obtain ⟨g1, g2, g3, g4⟩ := q t' l (.inl hl)
              subst g1
              rcases g4 with ⟨g5, g6⟩ | ⟨b, o, c, e, fr, g5, rfl, g7, g8⟩
              · exact ⟨[_], vs, [], rfl, ⟨a, cap, rfl, g2, .inl ⟨List.eq_nil_of_length_eq_zero g5, g6, rfl⟩⟩, rfl, h2, .skip _ _ _ .nil⟩
              · rcases hr.blk _ _ hl with ⟨_, h⟩ | ⟨b', o', c', e', fr', k1, k2, k3, k4, k5, k6, k7⟩
                · rw [g5] at h; cases h
                rw [g5] at k1; cases k1
                rw [g7] at k2
                simp only [Option.some.injEq, Obj.cells.injEq] at k2
                obtain ⟨rfl, rfl, rfl⟩ := k2
                refine ⟨[_], vs, [b], rfl, ⟨_, cap, rfl, g2, .inr ⟨b, o, c, e, fr, rfl, by simp, g7, k5, by simpa using g8, fun i hi => ?_⟩⟩, rfl, h2, .take _ b _ _ ⟨⟨o, g5⟩, .inl ⟨t', l, hl⟩⟩ .nil⟩
                exact DeepC.mono (fun b hb => ⟨hf b hb, rfl⟩) _ _ _ (k7 i hi)
            · cases hy
          · cases ho
        · simp at hg
      · simp at hg
  | _ =>
    intro cs vs y g sh rest rest' h hg ho hs
    cases h with
    | nil => simp [givesC] at hg
    | cons c v cs vs h1 h2 =>
      simp only [givesC, Option.some.injEq, Prod.mk.injEq] at hg
      obtain ⟨rfl, rfl, rfl⟩ := hg
      simp only [List.map_cons, ofCells] at ho
      obtain ⟨k1, k2⟩ := one _ (by simp) h1 h2 ho hs
      exact ⟨[v], vs, [], rfl, ⟨rfl, k1⟩, k2, h2, .nil⟩

theorem toDen_one {H : Heap} {t : Ty} {c : AV} {y : den t} (hag : isAgg t = false) (ho : toDen H t c = some y) : t ≠ .unit ∧ ofCell t (deep H c) = some y := by
  cases t <;> first
    | (simp [isAgg] at hag; done)
    | (simp [toDen, isAgg] at ho; done)
    | exact ⟨by simp, by simpa only [toDen, isAgg] using ho⟩

theorem toDen_agg {H : Heap} {t : Ty} {c : AV} {y : den t} (hag : isAgg t = true) (ho : toDen H t c = some y) : ∃ cs, c = .agg cs ∧ ofCells t (cs.map (deep H)) = some (y, []) := by
  unfold toDen at ho
  rw [hag] at ho
  cases c with
  | agg cs =>
    refine ⟨cs, rfl, ?_⟩
    simp only at ho
    split at ho
    · rename_i y' hy
      have ho := Option.some.inj ho
      subst ho; exact hy
    · cases ho
  | _ => simp at ho

theorem ofCell_cells {H : Heap} {t : Ty} {c : AV} {y : den t} (ho : ofCell t (deep H c) = some y) : cells c = [c] := by
  cases c with
  | agg cs => cases t <;> simp [deep, ofCell] at ho
  | _ => rfl

theorem ofCells_one {t : Ty} {c : AV} {y : den t} (hag : isAgg t = false) (htu : t ≠ .unit) (ho : ofCell t c = some y) : ofCells t [c] = some (y, []) := by
  cases t <;> first
    | (simp [isAgg] at hag; done)
    | exact absurd rfl htu
    | simp only [ofCells, ho]

theorem givesV_sound (hr : HR x n0) {fz' : Nat → Prop} (hf : ∀ b, x.fz b → fz' b) {t : Ty} {c : AV} {v : Value} {y : den t} {g sh : List Nat} (h : RV x c v)
    (hg : givesC x.H t (cells c) = some (g, sh, [])) (ho : toDen x.H t c = some y) (hs : Shows x fz' sh) : ∃ ow, ResV x.hp fz' t y v ow ∧ OwOf x g ow := by
  unfold ResV
  cases hag : isAgg t with
  | true =>
    obtain ⟨cs, rfl, hy⟩ := toDen_agg hag ho
    cases h with
    | agg _ vs h =>
    simp only [cells] at hg
    obtain ⟨v1, v2, ow, rfl, k1, k2, k3, k4⟩ := givesC_sound hr hf t h hg hy hs
    cases k3
    exact ⟨ow, ⟨v1, by simp, k1⟩, k4⟩
  | false =>
    obtain ⟨htu, hy⟩ := toDen_one hag ho
    rw [ofCell_cells hy] at hg
    have hoc := ofCells_one hag htu hy
    obtain ⟨v1, v2, ow, e, k1, k2, k3, k4⟩ := givesC_sound hr hf t (.cons _ _ _ _ h .nil) hg (by simpa using hoc) hs
    cases k3
    simp only [List.append_nil] at e
    subst e
    exact ⟨ow, ⟨htu, k1⟩, k4⟩

theorem givesL_sound (hr : HR x n0) {fz' : Nat → Prop} (hf : ∀ b, x.fz b → fz' b) (ts : List Ty) : ∀ {cs : List AV} {vs : List Value} {y : den (tyL ts)} {g sh : List Nat}, RVL x cs vs →
    givesL x.H ts cs = some (g, sh) → toDenL x.H ts cs = some y → Shows x fz' sh → ∃ ow, ResL x.hp fz' ts y vs ow ∧ OwOf x g ow := by
  induction ts with
  | nil =>
    intro cs vs y g sh h hg ho hs
    cases h with
    | nil =>
      simp only [givesL, Option.some.injEq, Prod.mk.injEq] at hg
      obtain ⟨rfl, rfl⟩ := hg
      exact ⟨[], by rw [ResL_0]; exact ⟨rfl, rfl⟩, .nil⟩
    | cons => simp [givesL] at hg
  | cons t ts ih =>
    intro cs vs y g sh h hg ho hs
    cases h with
    | nil => simp [givesL] at hg
    | cons c v cs vs h1 h2 =>
      simp only [givesL] at hg
      split at hg
      · rename_i g1 s1 g2 s2 hg1 hg2
        simp only [Option.some.injEq, Prod.mk.injEq] at hg
        obtain ⟨rfl, rfl⟩ := hg
        cases ts with
        | nil =>
          cases h2 with
          | cons => rw [toDenL_12] at ho; cases ho
          | nil =>
            rw [toDenL_11] at ho
            simp only [givesL, Option.some.injEq, Prod.mk.injEq] at hg2
            obtain ⟨rfl, rfl⟩ := hg2
            obtain ⟨ow, k1, k2⟩ := givesV_sound hr hf h1 hg1 ho (fun T hT => hs T (by simp [hT]))
            exact ⟨ow, by rw [ResL_1]; exact ⟨v, rfl, k1⟩, by simpa using k2⟩
        | cons u ts =>
          rw [toDenL_22] at ho
          split at ho
          · rename_i y1 hy1
            split at ho
            · rename_i y2 hy2
              have e := Option.some.inj ho
              subst e
              obtain ⟨o1, k1, k2⟩ := givesV_sound hr hf h1 hg1 hy1 (fun T hT => hs T (by simp [hT]))
              obtain ⟨o2, q1, q2⟩ := ih h2 hg2 hy2 (fun T hT => hs T (by simp [hT]))
              refine ⟨o1 ++ o2, ?_, k2.append q2⟩
              show (∃ v0 vs0 a0 b0, (v :: vs) = v0 :: vs0 ∧ (o1 ++ o2) = a0 ++ b0 ∧ ResV x.hp fz' t y1 v0 a0 ∧ ResL x.hp fz' (u :: ts) y2 vs0 b0)
              exact ⟨v, vs, o1, o2, rfl, rfl, k1, q1⟩
            · cases ho
          · cases ho
      · cases hg

end
end Go.Proofs.YtcdcijhfjiahkaaDoorR.K
