/- The abstract machine: what calls are handed and return. -/
import Derived.Test.YtcdcijhfjiahkaaDoorRKA
set_option linter.unusedVariables false
set_option linter.unusedSimpArgs false
namespace Go.Proofs.YtcdcijhfjiahkaaDoorR.K
open Go
open Go.RowKit (Below)

structure CtxOk (P : Program) (C : Ctx) : Prop where
  ti : CtxTI P C
  fn : ∀ f fn, C.fn f = some fn → P.funcs[f]? = some fn ∧ fn.body.isSome = true ∧ (fn.name == "runtime.NumGoroutine") = false
  mixed : P.follows .mixedOrders = true
  keeps : ∀ w w', C.inv w → Below w.heap.size w w' → C.inv w'

/-! ### results -/
/-- A result's cells: shared parts lie in 'ok', slices that are given away in the blocks 'ow'. -/
def ResC (hp : Array Obj) (ok : Nat → Prop) : (t : Ty) → den t → List Value → List Nat → Prop
  | .own t, l, vs, ow => ∃ a cap, vs = [.slice a (List.length l) cap] ∧ List.length l ≤ cap ∧ ((l = [] ∧ cap = 0 ∧ ow = []) ∨
      ∃ b o c e fr, ow = [b] ∧ a = some ⟨b, o, none⟩ ∧ hp[b]? = some (Obj.cells c e fr) ∧ Unfrozen c fr ∧ o + cap * csz t ≤ c.size ∧ Rows hp ok t l c o)
  | .pair a b, y, vs, ow => ∃ v1 v2 o1 o2, vs = v1 ++ v2 ∧ ow = o1 ++ o2 ∧ ResC hp ok a y.1 v1 o1 ∧ ResC hp ok b y.2 v2 o2
  | .one t, y, vs, ow => ResC hp ok t y vs ow
  | .unit, y, vs, ow => ow = [] ∧ DeepC hp ok .unit y vs
  | .bool, y, vs, ow => ow = [] ∧ DeepC hp ok .bool y vs
  | .int k, y, vs, ow => ow = [] ∧ DeepC hp ok (.int k) y vs
  | .str, y, vs, ow => ow = [] ∧ DeepC hp ok .str y vs
  | .sl t, y, vs, ow => ow = [] ∧ DeepC hp ok (.sl t) y vs
  | .fn f, y, vs, ow => ow = [] ∧ DeepC hp ok (.fn f) y vs

def ResV (hp : Array Obj) (ok : Nat → Prop) (t : Ty) (y : den t) (v : Value) (ow : List Nat) : Prop :=
  match isAgg t with
  | true => ∃ vs : List Value, v = .agg vs.toArray ∧ ResC hp ok t y vs ow
  | false => t ≠ .unit ∧ ResC hp ok t y [v] ow

def ResL (hp : Array Obj) (ok : Nat → Prop) : (ts : List Ty) → den (tyL ts) → List Value → List Nat → Prop
  | [], _, vs, ow => vs = [] ∧ ow = []
  | [t], y, vs, ow => ∃ v, vs = [v] ∧ ResV hp ok t y v ow
  | t :: u :: ts, y, vs, ow => ∃ v vs' o1 o2, vs = v :: vs' ∧ ow = o1 ++ o2 ∧ ResV hp ok t y.1 v o1 ∧ ResL hp ok (u :: ts) y.2 vs' o2

theorem ResL_0 (hp : Array Obj) (ok : Nat → Prop) (y : den (tyL [])) (vs : List Value) (ow : List Nat) : ResL hp ok [] y vs ow = (vs = [] ∧ ow = []) := rfl
theorem ResL_1 (hp : Array Obj) (ok : Nat → Prop) (t : Ty) (y : den (tyL [t])) (vs : List Value) (ow : List Nat) : ResL hp ok [t] y vs ow = ∃ v, vs = [v] ∧ ResV hp ok t y v ow := rfl
theorem ResL_2 (hp : Array Obj) (ok : Nat → Prop) (t u : Ty) (ts : List Ty) (y : den (tyL (t :: u :: ts))) (vs : List Value) (ow : List Nat) :
  ResL hp ok (t :: u :: ts) y vs ow = ∃ v vs' o1 o2, vs = v :: vs' ∧ ow = o1 ++ o2 ∧ ResV hp ok t y.1 v o1 ∧ ResL hp ok (u :: ts) y.2 vs' o2 := rfl

/-- One value, or a tuple. -/
def oneV : List Value → Value
  | [v] => v
  | vs => .tuple vs.toArray

/-- What a call of instance 'i' leaves behind. -/
structure Ret (C : Ctx) (w : World) (fz0 : Nat → Prop) (i : Nat) (r : den (tyL (C.rts i))) (w' : World) (v : Value) : Prop where
  bel : Below w.heap.size w w'
  res : ∃ (ow : List Nat) (ok : Nat → Prop) (vs : List Value), (∀ b, ok b → fz0 b ∨ (w.heap.size ≤ b ∧ b < w'.heap.size)) ∧ ow.Nodup ∧ (∀ b ∈ ow, w.heap.size ≤ b ∧ ¬ ok b) ∧
    v = oneV vs ∧ ResL w'.heap ok (C.rts i) r vs ow

def RetE (C : Ctx) (w : World) (fz0 : Nat → Prop) (i : Nat) (r : den (tyL (C.rts i))) (e : Ending) (w' : World) : Prop :=
  ∃ v, e = .returned v ∧ Ret C w fz0 i r w' v

/-- The calls of one depth are met. -/
def SpecOk (P : Program) {C : Ctx} (s : Sm C) : Prop :=
  ∀ i y r, s.callF i y = some r → ∀ (w : World) (fz0 : Nat → Prop) (vs : List Value), (∀ b, fz0 b → b < w.heap.size) → (C.fn (C.fid i)).isSome = true → C.inv w → DenL w.heap fz0 (C.pts i) y vs →
    Calls P (C.fid i) vs.toArray w (RetE C w fz0 i r)

section
variable {P : Program} {C : Ctx} {x : Cx} {n0 tok : Nat} (hr : HR x n0) {w : World} (hp : x.hp = w.heap)

theorem ResC_plain {hp : Array Obj} {ok : Nat → Prop} : ∀ (t : Ty) (y : den t) (vs : List Value) (ow : List Nat), hasOwn t = false → ResC hp ok t y vs ow → ow = [] ∧ DeepC hp ok t y vs
  | .unit, _, _, _, _, h => h
  | .bool, _, _, _, _, h => h
  | .int _, _, _, _, _, h => h
  | .str, _, _, _, _, h => h
  | .sl _, _, _, _, _, h => h
  | .own _, _, _, _, ho, _ => by simp [hasOwn] at ho
  | .pair a b, y, _, _, ho, h => by
    simp only [hasOwn, Bool.or_eq_false_iff] at ho
    obtain ⟨v1, v2, o1, o2, rfl, rfl, h1, h2⟩ := h
    obtain ⟨rfl, d1⟩ := ResC_plain a _ _ _ ho.1 h1
    obtain ⟨rfl, d2⟩ := ResC_plain b _ _ _ ho.2 h2
    exact ⟨rfl, v1, v2, rfl, d1, d2⟩
  | .one t, y, _, _, ho, h => ResC_plain t y _ _ ho h
  | .fn _, _, _, _, _, h => h

theorem DeepC_noSl {hp hp' : Array Obj} {ok ok' : Nat → Prop} : ∀ (t : Ty) (y : den t) (vs : List Value), hasSl t = false → DeepC hp ok t y vs → DeepC hp' ok' t y vs
  | .unit, _, _, _, h => h
  | .bool, _, _, _, h => h
  | .int _, _, _, _, h => h
  | .str, _, _, _, h => h
  | .sl _, _, _, ho, _ => by simp [hasSl] at ho
  | .own _, _, _, ho, _ => by simp [hasSl] at ho
  | .pair a b, y, _, ho, h => by
    simp only [hasSl, Bool.or_eq_false_iff] at ho
    obtain ⟨v1, v2, rfl, h1, h2⟩ := h
    exact ⟨v1, v2, rfl, DeepC_noSl a _ _ ho.1 h1, DeepC_noSl b _ _ ho.2 h2⟩
  | .one t, y, _, ho, h => DeepC_noSl (hp := hp) (ok := ok) t y _ ho h
  | .fn _, _, _, _, h => h

theorem own_sl : ∀ (t : Ty), hasSl t = false → hasOwn t = false
  | .unit, _ => rfl
  | .bool, _ => rfl
  | .int _, _ => rfl
  | .str, _ => rfl
  | .sl _, h => by simp [hasSl] at h
  | .own _, h => by simp [hasSl] at h
  | .pair a b, h => by
    simp only [hasSl, Bool.or_eq_false_iff] at h
    simp [hasOwn, own_sl a h.1, own_sl b h.2]
  | .one t, h => own_sl t h
  | .fn _, _ => rfl

theorem ResV_plain {hp : Array Obj} {ok : Nat → Prop} {t : Ty} {y : den t} {v : Value} {ow : List Nat} (ho : hasOwn t = false) (h : ResV hp ok t y v ow) : ow = [] ∧ DenV hp ok t y v := by
  unfold ResV at h
  unfold DenV
  split at h
  · rename_i hag
    rw [hag]
    obtain ⟨vs, rfl, h⟩ := h
    obtain ⟨h1, h2⟩ := ResC_plain t _ _ _ ho h
    exact ⟨h1, vs, rfl, h2⟩
  · rename_i hag
    rw [hag]
    obtain ⟨h1, h2⟩ := ResC_plain t _ _ _ ho h.2
    exact ⟨h1, h.1, h2⟩

theorem ResL_plain {hp : Array Obj} {ok : Nat → Prop} (ts : List Ty) : ∀ {y : den (tyL ts)} {vs : List Value} {ow : List Nat}, hasOwn (tyL ts) = false → ResL hp ok ts y vs ow → ow = [] ∧ DenL hp ok ts y vs := by
  induction ts with
  | nil => intro y vs ow _ h; rw [ResL_0] at h; exact ⟨h.2, by rw [DenL_0]; exact h.1⟩
  | cons t ts ih =>
    cases ts with
    | nil =>
      intro y vs ow ho h
      rw [ResL_1] at h
      obtain ⟨v, rfl, h⟩ := h
      obtain ⟨h1, h2⟩ := ResV_plain ho h
      exact ⟨h1, by rw [DenL_1]; exact ⟨v, rfl, h2⟩⟩
    | cons u ts =>
      intro y vs ow ho h
      rw [ResL_2] at h
      obtain ⟨v, vs', o1, o2, rfl, rfl, h1, h2⟩ := h
      have ho' : hasOwn t = false ∧ hasOwn (tyL (u :: ts)) = false := by
        simpa [tyL, hasOwn] using ho
      obtain ⟨rfl, k1⟩ := ResV_plain ho'.1 h1
      obtain ⟨rfl, k2⟩ := ih ho'.2 h2
      exact ⟨rfl, by rw [DenL_2]; exact ⟨v, vs', rfl, k1, k2⟩⟩

theorem DenV_noSl {hp hp' : Array Obj} {ok ok' : Nat → Prop} {t : Ty} {y : den t} {v : Value} (ho : hasSl t = false) (h : DenV hp ok t y v) : DenV hp' ok' t y v := by
  unfold DenV at h ⊢
  split at h
  · obtain ⟨vs, rfl, h⟩ := h; exact ⟨vs, rfl, DeepC_noSl t _ _ ho h⟩
  · exact ⟨h.1, DeepC_noSl t _ _ ho h.2⟩

theorem DenL_noSl {hp hp' : Array Obj} {ok ok' : Nat → Prop} (ts : List Ty) : ∀ {y : den (tyL ts)} {vs : List Value}, hasSl (tyL ts) = false → DenL hp ok ts y vs → DenL hp' ok' ts y vs := by
  induction ts with
  | nil => intro y vs _ h; rw [DenL_0] at h ⊢; exact h
  | cons t ts ih =>
    cases ts with
    | nil => intro y vs ho h; rw [DenL_1] at h ⊢; obtain ⟨v, rfl, h⟩ := h; exact ⟨v, rfl, DenV_noSl ho h⟩
    | cons u ts =>
      intro y vs ho h
      rw [DenL_2] at h ⊢
      obtain ⟨v, vs', rfl, h1, h2⟩ := h
      have ho' : hasSl t = false ∧ hasSl (tyL (u :: ts)) = false := by simpa [tyL, hasSl] using ho
      exact ⟨v, vs', rfl, DenV_noSl ho'.1 h1, ih ho'.2 h2⟩

theorem DenV_mono {hp hp' : Array Obj} {ok ok' : Nat → Prop} (H : ∀ b, ok b → ok' b ∧ hp'[b]? = hp[b]?) {t : Ty} {y : den t} {v : Value} (h : DenV hp ok t y v) : DenV hp' ok' t y v := by
  unfold DenV at h ⊢
  split at h
  · obtain ⟨vs, rfl, h⟩ := h; exact ⟨vs, rfl, DeepC.mono H t _ _ h⟩
  · exact ⟨h.1, DeepC.mono H t _ _ h.2⟩

theorem DenL_mono {hp hp' : Array Obj} {ok ok' : Nat → Prop} (H : ∀ b, ok b → ok' b ∧ hp'[b]? = hp[b]?) (ts : List Ty) : ∀ {y : den (tyL ts)} {vs : List Value}, DenL hp ok ts y vs → DenL hp' ok' ts y vs := by
  induction ts with
  | nil => intro y vs h; rw [DenL_0] at h ⊢; exact h
  | cons t ts ih =>
    cases ts with
    | nil => intro y vs h; rw [DenL_1] at h ⊢; obtain ⟨v, rfl, h⟩ := h; exact ⟨v, rfl, DenV_mono H h⟩
    | cons u ts =>
      intro y vs h
      rw [DenL_2] at h ⊢
      obtain ⟨v, vs', rfl, h1, h2⟩ := h
      exact ⟨v, vs', rfl, DenV_mono H h1, ih h2⟩

/-- Behind a call: new blocks, none of them this run's own. -/
def callCx (x : Cx) (w w' : World) (ok : Nat → Prop) : Cx :=
  { x with hp := w'.heap, fz := fun b => x.fz b ∨ (ok b ∧ w.heap.size ≤ b ∧ b < w'.heap.size) }

theorem call_next (hr : HR x n0) (hp : x.hp = w.heap) (hn : n0 ≤ w.heap.size) {w' : World} (hb : Below w.heap.size w w') (ok : Nat → Prop) : NxS x (callCx x w w' ok) n0 (fun _ => True) w w' := by
  have hg : Grew w.heap w'.heap := ⟨hb.size, hb.block⟩
  have hg' : Grew x.hp w'.heap := by rw [hp]; exact hg
  have E : Ext x (callCx x w w' ok) (fun _ => True) :=
    ⟨fun b h => ⟨.inl h, hg'.2 b (hr.size b h)⟩, hg'.sizes, fun T _ t l h => ⟨l, h, rfl, rfl⟩, fun T _ cs h => ⟨cs, h, rfl⟩⟩
  have hdeep : ∀ (t : Ty) (y : den t) vs, DeepC x.hp x.fz t y vs → DeepC w'.heap (callCx x w w' ok).fz t y vs :=
    fun t y vs h => DeepC.mono (fun b hb => ⟨.inl hb, hg'.2 b (hr.size b hb)⟩) t y vs h
  have hnf : ∀ b, b < x.hp.size → ¬ x.fz b → ¬ (callCx x w w' ok).fz b := by
    intro b hb h
    rintro (h' | ⟨_, h', _⟩)
    · exact h h'
    · rw [hp] at hb; omega
  refine ⟨E, ⟨fun T b hb0 => ?_, fun t1 t2 B h1 h2 => hr.inj t1 t2 B h1 h2, fun b hb0 => ?_⟩, fun b hb0 => ?_, hb.mono hn, rfl⟩
  · have h0 := hr.blk T b hb0
    cases b with
    | arr t l =>
      rcases h0 with h | ⟨B, o, c, e, fr, h1, h2, h3, h4, h5, h6, h7⟩
      · exact .inl h
      · exact .inr ⟨B, o, c, e, fr, h1, hg'.at h2, h3, hnf B (lt_size h2) h4, h5, h6, fun i hi => hdeep _ _ _ (h7 i hi)⟩
    | fro t l =>
      rcases h0 with h | ⟨B, o, c, e, fr, h1, h2, h3, h4, h5⟩
      · exact .inl h
      · exact .inr ⟨B, o, c, e, fr, h1, hg'.at h2, .inl h3, h4, fun i hi => hdeep _ _ _ (h5 i hi)⟩
    | box cs =>
      obtain ⟨B, c, e, fr, h1, h2, h3, h4, h5, h6, h7⟩ := h0
      exact ⟨B, c, e, fr, h1, hg'.at h2, h3, hnf B (lt_size h2) h4, h5, h6, RVL.mono E h7 fun _ _ => trivial⟩
  · rcases hb0 with h | ⟨_, _, h⟩
    · exact Nat.lt_of_lt_of_le (hr.size b h) hg'.1
    · exact h
  · rcases hb0 with h | ⟨_, h, _⟩
    · exact .inl h
    · right; omega

/-! ### results that are given away, as new tokens -/
/-- What is brought in: the state behind it, and the cells. -/
structure Imp (x x' : Cx) (n0 lo hi : Nat) (w : World) (hn : Heap) : Prop where
  nx : NxS x x' n0 (fun T => T < lo ∨ hi ≤ T) w w
  H : x'.H = hputs x.H hn
  fz : x'.fz = x.fz
  toks : ∀ T ∈ heapToks x'.H, T ∈ heapToks x.H ∨ (lo ≤ T ∧ T < hi)
  own : ∀ b, (∀ T, ¬ Owns x T b) → ∀ T, Owns x' T b → lo ≤ T ∧ T < hi

theorem hputs_append (h a b : Heap) : hputs h (a ++ b) = hputs (hputs h a) b := by
  induction a generalizing h with
  | nil => rfl
  | cons p a ih => obtain ⟨t, v⟩ := p; exact ih _

theorem heapToks_hput {h : Heap} {t T : Nat} {b : Blk} (hT : T ∈ heapToks (hput h t b)) : T ∈ heapToks h ∨ T = t ∨ T ∈ blkToks b := by
  induction h with
  | nil => simp [hput, heapToks] at hT; rcases hT with h | h; exact .inr (.inl h); exact .inr (.inr h)
  | cons p h ih =>
    obtain ⟨u, c⟩ := p
    simp only [hput] at hT
    split at hT
    · simp only [heapToks, List.flatMap_cons, List.mem_append, List.mem_cons] at hT ⊢
      rcases hT with (hT | hT) | hT
      · exact .inl (.inl (.inl hT))
      · exact .inr (.inr hT)
      · exact .inl (.inr hT)
    · simp only [heapToks, List.flatMap_cons, List.mem_append, List.mem_cons] at hT ih ⊢
      rcases hT with (hT | hT) | hT
      · exact .inl (.inl (.inl hT))
      · exact .inl (.inl (.inr hT))
      · rcases ih hT with h | h
        · exact .inl (.inr h)
        · exact .inr h

theorem Imp.refl {x : Cx} (hr : HR x n0) (hp : x.hp = w.heap) (lo : Nat) : Imp x x n0 lo lo w [] :=
  ⟨⟨.refl _ _, hr, fun _ h => .inl h, .refl _ _, hp⟩, rfl, rfl, fun T h => .inl h, fun b h T hT => absurd hT (h T)⟩

theorem Imp.trans {x y z : Cx} {a b c : Nat} {h1 h2 : Heap} (hab : a ≤ b) (hbc : b ≤ c) (p : Imp x y n0 a b w h1) (q : Imp y z n0 b c w h2) : Imp x z n0 a c w (h1 ++ h2) := by
  refine ⟨(p.nx.weaken fun T h => by omega).trans (q.nx.weaken fun T h => by omega), by rw [q.H, p.H, hputs_append], q.fz.trans p.fz, fun T hT => ?_, fun B hB T hT => ?_⟩
  · rcases q.toks T hT with h | h
    · rcases p.toks T h with h | h
      · exact .inl h
      · right; omega
    · right; omega
  · by_cases hy : ∀ T, ¬ Owns y T B
    · have := q.own B hy T hT; omega
    · -- 'B' is owned by a token that was brought in before
      have : ∃ T', Owns y T' B := Classical.byContradiction fun h => hy fun T' hT' => h ⟨T', hT'⟩
      obtain ⟨T', hT'⟩ := this
      have h1 := p.own B hB T' hT'
      -- it is owned still, by the same token
      by_cases hTT : T < b ∨ c ≤ T
      · obtain ⟨⟨o, ho⟩, hk⟩ := hT
        have back : Owns y T B := by
          rcases hk with ⟨t, l, hk⟩ | ⟨cs, hk⟩
          · obtain ⟨l', k1, k2, k3⟩ := q.nx.ext.af T hTT t l (.inl hk)
            rcases k1 with k1 | k1
            · exact ⟨⟨o, by rw [← k3]; exact ho⟩, .inl ⟨t, l', k1⟩⟩
            · -- it can't be one that is not turned any more
              exfalso
              rcases q.nx.hr.blk T _ hk with ⟨_, h⟩ | ⟨B', o', c', e', fr', g1, g2, g3, g4, _⟩
              · rw [ho] at h; cases h
              · rcases p.nx.hr.blk T _ k1 with ⟨_, h⟩ | ⟨B'', o'', c'', e'', fr'', f1, f2, f3, _⟩
                · rw [← k3, ho] at h; cases h
                · rw [← k3, g1] at f1; cases f1
                  rw [q.fz] at g4
                  exact g4 f3
          · obtain ⟨cs', k1, k3⟩ := q.nx.ext.box T hTT cs hk
            exact ⟨⟨o, by rw [← k3]; exact ho⟩, .inr ⟨cs', k1⟩⟩
        have := p.own B hB T back; omega
      · omega

theorem impCells_sound {ok : Nat → Prop} {base : Nat} : ∀ (t : Ty) (y : den t) (j : Nat) {cs : List AV} {hn : Heap} {j' : Nat} {vs : List Value} {ow : List Nat} {x : Cx}, impCells base t y j = (cs, hn, j') →
    ResC w.heap ok t y vs ow → HR x n0 → x.hp = w.heap → (∀ b, ok b → x.fz b) → ow.Nodup → (∀ b ∈ ow, n0 ≤ b ∧ ¬ x.fz b ∧ ∀ T, ¬ Owns x T b) → j' ≤ 16 → (∀ T ∈ heapToks x.H, T < base + j ∨ base + 16 ≤ T) →
    ∃ x', Imp x x' n0 (base + j) (base + j') w hn ∧ RVL x' cs vs ∧ j ≤ j' ∧ (∀ T ∈ toksL cs, base + j ≤ T ∧ T < base + j') ∧ (∀ b, b ∉ ow → (∀ T, ¬ Owns x T b) → ∀ T, ¬ Owns x' T b) := by
  intro t
  have plain : ∀ (t : Ty) (y : den t) (j : Nat) {vs : List Value} {ow : List Nat} {x : Cx}, ow = [] ∧ DeepC w.heap ok t y vs → HR x n0 → x.hp = w.heap → (∀ b, ok b → x.fz b) →
      ∃ x', Imp x x' n0 (base + j) (base + j) w [] ∧ RVL x' (cellsOf t y) vs ∧ j ≤ j ∧ (∀ T ∈ toksL (cellsOf t y), base + j ≤ T ∧ T < base + j) ∧ (∀ b, b ∉ ow → (∀ T, ¬ Owns x T b) → ∀ T, ¬ Owns x' T b) := by
    intro t y j vs ow x h hr hp hok
    refine ⟨x, .refl hr hp _, cells_RVL t y vs (DeepC.mono (fun b hb => ⟨hok b hb, by rw [hp]⟩) t y vs h.2), Nat.le_refl _, ?_, fun b _ h => h⟩
    rw [toks_cellsOf]; intro T hT; cases hT
  induction t with
  | own t ih =>
    intro y j cs hn j' vs ow x hi hres hr hp hok hnd hown hj hfr
    simp only [impCells, Prod.mk.injEq] at hi
    obtain ⟨rfl, rfl, rfl⟩ := hi
    obtain ⟨a, cap, rfl, hle, hcase⟩ := hres
    have hft : ∀ T ∈ heapToks x.H, T ≠ base + j := fun T hT => by have := hfr T hT; omega
    have who : ∀ (x' : Cx), x'.H = hput x.H (base + j) (.arr t y) → Place x' (base + j) t a 0 (List.length y) cap → RVL x' [.who (base + j) false] [.slice a (List.length y) cap] := by
      intro x' hH hpl
      refine .cons _ _ _ _ (.who _ _ _ _ _ fun t' l' ha => ?_) .nil
      have : t' = t ∧ HEq l' y := by
        unfold AF at ha
        rw [hH] at ha
        rcases ha with ha | ha
        · simp only [hget_hput, if_true, Option.some.injEq, Blk.arr.injEq] at ha
          obtain ⟨rfl, h⟩ := ha; exact ⟨rfl, h.symm⟩
        · simp only [hget_hput, if_true, Option.some.injEq] at ha; cases ha
      obtain ⟨rfl, hl'⟩ := this
      cases hl'
      exact ⟨rfl, hle, by simp, hpl⟩
    have imp : ∀ (x' : Cx), NxS x x' n0 (fun T => T ≠ base + j) w w → x'.H = hput x.H (base + j) (.arr t y) → x'.fz = x.fz → (∀ T b, Owns x' T b → T ≠ base + j → Owns x T b) →
        Imp x x' n0 (base + j) (base + (j + 1)) w [(base + j, .arr t y)] := by
      intro x' h1 h2 h3 h4
      refine ⟨h1.weaken fun T hT => by omega, h2, h3, fun T hT => ?_, fun b hb T hT => ?_⟩
      · rw [h2] at hT
        rcases heapToks_hput hT with h | h | h
        · exact .inl h
        · right; omega
        · simp [blkToks] at h
      · by_cases hTe : T = base + j
        · omega
        · exact absurd (h4 T b hT hTe) (hb T)
    have htk : ∀ T ∈ toksL [AV.who (base + j) false], base + j ≤ T ∧ T < base + (j + 1) := by
      intro T hT; simp [toksL, toks] at hT; omega
    rcases hcase with ⟨h1, h2, rfl⟩ | ⟨b, o, c, e, fr, rfl, rfl, hb, hfrz, hcap, hrows⟩
    · have hblk : BlkR (newCx x w.heap (base + j) none (.arr t y)) n0 (base + j) (.arr t y) := .inl ⟨h1, by simp [newCx]⟩
      have N := new_nextS (w' := w) hr hp hft (Grew.refl _) (.refl _ _) (fun B o h => by cases h) (fun B hB => by have := hr.size B hB; rw [hp] at this; exact this) hblk
      refine ⟨_, imp _ N rfl rfl (fun T b hT hne => ?_), who _ rfl (.inl ⟨by rw [h1]; rfl, h2⟩), by omega, htk, fun b _ hb T hT => ?_⟩
      · obtain ⟨⟨o, ho⟩, hk⟩ := hT
        simp only [newCx, if_neg hne] at ho
        simp only [newCx, hget_hput, if_neg hne] at hk
        exact ⟨⟨o, ho⟩, hk⟩
      · obtain ⟨⟨o, ho⟩, hk⟩ := hT
        by_cases hne : T = base + j
        · subst hne; simp [newCx] at ho
        · simp only [newCx, if_neg hne] at ho
          simp only [newCx, hget_hput, if_neg hne] at hk
          exact hb T ⟨⟨o, ho⟩, hk⟩
    · obtain ⟨hn0, hnf, hno⟩ := hown b (by simp)
      have hsz : List.length y * csz t ≤ cap * csz t := Nat.mul_le_mul_right _ hle
      have hblk : BlkR (newCx x w.heap (base + j) (some (b, o)) (.arr t y)) n0 (base + j) (.arr t y) := by
        refine .inr ⟨b, o, c, e, fr, by simp [newCx], hb, hn0, hnf, hfrz, by omega, fun i hi => ?_⟩
        exact DeepC.mono (fun b hb => ⟨hok b hb, rfl⟩) _ _ _ (hrows i hi)
      have N := reuse_nextS (w' := w) hr hp hft hnf hno (fun _ _ => rfl) rfl (.refl _) (.refl _ _) hblk
      refine ⟨_, imp _ N rfl rfl (fun T b' hT hne => ?_), who _ rfl (.inr ⟨b, o, c, e, fr, by simp [newCx], by simp, hb, by rw [Nat.zero_add]; exact hcap⟩), by omega, htk, fun b' hb' hnb T hT => ?_⟩
      · obtain ⟨⟨o', ho⟩, hk⟩ := hT
        simp only [newCx, if_neg hne] at ho
        simp only [newCx, hget_hput, if_neg hne] at hk
        exact ⟨⟨o', ho⟩, hk⟩
      · obtain ⟨⟨o', ho⟩, hk⟩ := hT
        by_cases hne : T = base + j
        · subst hne
          simp [newCx] at ho
          exact hb' (by simp [ho.1])
        · simp only [newCx, if_neg hne] at ho
          simp only [newCx, hget_hput, if_neg hne] at hk
          exact hnb T ⟨⟨o', ho⟩, hk⟩
  | pair a b iha ihb =>
    intro y j cs hn j' vs ow x hi hres hr hp hok hnd hown hj hfr
    obtain ⟨v1, v2, o1, o2, rfl, rfl, r1, r2⟩ := hres
    simp only [impCells] at hi
    generalize h1 : impCells base a y.1 j = z1 at hi
    obtain ⟨c1, g1, j1⟩ := z1
    simp only at hi
    generalize h2 : impCells base b y.2 j1 = z2 at hi
    obtain ⟨c2, g2, j2⟩ := z2
    simp only [Prod.mk.injEq] at hi
    obtain ⟨rfl, rfl, rfl⟩ := hi
    rw [List.nodup_append] at hnd
    obtain ⟨nd1, nd2, ndx⟩ := hnd
    -- the second part needs no more than is there
    have mono : ∀ (t : Ty) (y : den t) (j : Nat), j ≤ (impCells base t y j).2.2 := by
      intro t
      induction t with
      | own t _ => intro y j; simp [impCells]
      | pair a b iha ihb =>
        intro y j
        simp only [impCells]
        have k1 := iha y.1 j
        have k2 := ihb y.2 (impCells base a y.1 j).2.2
        exact Nat.le_trans k1 k2
      | one t ih => intro y j; exact ih y j
      | _ => intro y j; exact Nat.le_refl _
    have m2 := mono b y.2 j1
    rw [h2] at m2
    simp only at m2
    obtain ⟨x1, i1, k1, l1, t1, q1⟩ := iha y.1 j h1 r1 hr hp hok nd1 (fun b hb => hown b (by simp [hb])) (by omega) hfr
    have hp1 : x1.hp = w.heap := i1.nx.hp
    obtain ⟨x2, i2, k2, l2, t2, q2⟩ := ihb y.2 j1 h2 r2 i1.nx.hr hp1 (fun b hb => by rw [i1.fz]; exact hok b hb) nd2
      (fun b hb => by
        obtain ⟨f1, f2, f3⟩ := hown b (by simp [hb])
        exact ⟨f1, by rw [i1.fz]; exact f2, q1 b (fun h => ndx b h b hb rfl) f3⟩) hj
      (fun T hT => by
        rcases i1.toks T hT with h | h
        · have := hfr T h; omega
        · left; omega)
    refine ⟨x2, i1.trans (by omega) (by omega) i2, (RVL.mono i2.nx.ext k1 fun T hT => by have := t1 T hT; omega).append k2, by omega, fun T hT => ?_, fun b hb h T => ?_⟩
    · rw [toksL_append] at hT
      rcases List.mem_append.1 hT with h | h
      · have := t1 T h; omega
      · have := t2 T h; omega
    · exact q2 b (fun h' => hb (by simp [h'])) (q1 b (fun h' => hb (by simp [h'])) h) T
  | one t ih =>
    intro y j cs hn j' vs ow x hi hres hr hp hok hnd hown hj hfr
    exact ih y j hi hres hr hp hok hnd hown hj hfr
  | unit => intro y j cs hn j' vs ow x hi hres hr hp hok _ _ _ _; simp only [impCells, Prod.mk.injEq] at hi; obtain ⟨rfl, rfl, rfl⟩ := hi; exact plain _ _ _ hres hr hp hok
  | bool => intro y j cs hn j' vs ow x hi hres hr hp hok _ _ _ _; simp only [impCells, Prod.mk.injEq] at hi; obtain ⟨rfl, rfl, rfl⟩ := hi; exact plain _ _ _ hres hr hp hok
  | int k => intro y j cs hn j' vs ow x hi hres hr hp hok _ _ _ _; simp only [impCells, Prod.mk.injEq] at hi; obtain ⟨rfl, rfl, rfl⟩ := hi; exact plain _ _ _ hres hr hp hok
  | str => intro y j cs hn j' vs ow x hi hres hr hp hok _ _ _ _; simp only [impCells, Prod.mk.injEq] at hi; obtain ⟨rfl, rfl, rfl⟩ := hi; exact plain _ _ _ hres hr hp hok
  | sl t _ => intro y j cs hn j' vs ow x hi hres hr hp hok _ _ _ _; simp only [impCells, Prod.mk.injEq] at hi; obtain ⟨rfl, rfl, rfl⟩ := hi; exact plain _ _ _ hres hr hp hok
  | fn f => intro y j cs hn j' vs ow x hi hres hr hp hok _ _ _ _; simp only [impCells, Prod.mk.injEq] at hi; obtain ⟨rfl, rfl, rfl⟩ := hi; exact plain _ _ _ hres hr hp hok

end
end Go.Proofs.YtcdcijhfjiahkaaDoorR.K
