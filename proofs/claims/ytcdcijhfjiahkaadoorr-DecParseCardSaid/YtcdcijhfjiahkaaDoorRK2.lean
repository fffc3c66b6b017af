/- The abstract machine: its lists, its readings of memory, and the model's machine under it. -/
import Derived.Test.YtcdcijhfjiahkaaDoorRK1
set_option linter.unusedVariables false
set_option linter.unusedSimpArgs false
namespace Go.Proofs.YtcdcijhfjiahkaaDoorR.K
open Go
open Go.RowKit (Below)

theorem beq_true {u t : Nat} (h : Nat.beq u t = true) : u = t := Nat.eq_of_beq_eq_true h
theorem beq_false {u t : Nat} (h : Nat.beq u t = false) : u ≠ t := Nat.ne_of_beq_eq_false h
theorem beq_self (t : Nat) : Nat.beq t t = true := Nat.beq_refl t
theorem beq_ne {u t : Nat} (h : u ≠ t) : Nat.beq u t = false := by
  cases hb : Nat.beq u t with
  | false => rfl
  | true => exact absurd (beq_true hb) h

theorem get_put (e : Env) (t u : Nat) (v : AV) : get (put e t v) u = if u = t then v else get e u := by
  induction e with
  | nil =>
    simp only [put, get]
    by_cases h : t = u
    · subst h; simp [beq_self]
    · simp [beq_ne h, Ne.symm h]
  | cons p e ih =>
    obtain ⟨s, x⟩ := p
    simp only [put]
    by_cases h : s = t
    · subst h
      simp only [beq_self, get]
      by_cases k : s = u
      · subst k; simp [beq_self]
      · simp [beq_ne k, Ne.symm k]
    · simp only [beq_ne h, get]
      by_cases k : s = u
      · subst k; simp [beq_self, h]
      · simp only [beq_ne k]; exact ih

theorem hget_hput (e : Heap) (t u : Nat) (v : Blk) : hget (hput e t v) u = if u = t then some v else hget e u := by
  induction e with
  | nil =>
    simp only [hput, hget]
    by_cases h : t = u
    · subst h; simp [beq_self]
    · simp [beq_ne h, Ne.symm h]
  | cons p e ih =>
    obtain ⟨s, x⟩ := p
    simp only [hput]
    by_cases h : s = t
    · subst h
      simp only [beq_self, hget]
      by_cases k : s = u
      · subst k; simp [beq_self]
      · simp [beq_ne k, Ne.symm k]
    · simp only [beq_ne h, hget]
      by_cases k : s = u
      · subst k; simp [beq_self, h]
      · simp only [beq_ne k]; exact ih

theorem hget_hdel (e : Heap) (t u : Nat) : hget (hdel e t) u = if u = t then none else hget e u := by
  induction e with
  | nil => simp [hdel, hget]
  | cons p e ih =>
    obtain ⟨s, x⟩ := p
    simp only [hdel]
    by_cases h : s = t
    · subst h
      simp only [beq_self, hget, ih]
      by_cases k : s = u
      · subst k; simp
      · simp [beq_ne k, Ne.symm k]
    · simp only [beq_ne h, hget, ih]
      by_cases k : s = u
      · subst k; simp [beq_self, h]
      · simp [beq_ne k]

def frz (b : Bool) : Blk → Blk
  | .arr t l => match b with
    | true => .fro t l
    | false => .arr t l
  | x => x

theorem hget_freeze (ts : List Nat) (e : Heap) (u : Nat) : hget (freeze ts e) u = (hget e u).map (frz (ts.elem u)) := by
  induction e with
  | nil => simp [freeze, hget]
  | cons p e ih =>
    obtain ⟨s, x⟩ := p
    simp only [freeze, hget]
    by_cases h : s = u
    · subst h
      simp only [beq_self, Option.map_some, Option.some.injEq]
      cases x <;> simp only [frz]
      cases List.elem s ts <;> rfl
    · simp only [beq_ne h]; exact ih

theorem AF_freeze {ts : List Nat} {e : Heap} {u : Nat} {t : Ty} {l : List (den t)} (h : AF (freeze ts e) u t l) : AF e u t l := by
  unfold AF at *
  rw [hget_freeze] at h
  cases hg : hget e u with
  | none => simp [hg] at h
  | some b =>
    cases b with
    | arr t' l' =>
      simp only [hg, Option.map_some, frz] at h
      rcases h with h | h
      · split at h
        · simp at h
        · left; exact h
      · split at h
        · left; simpa using h
        · simp at h
    | fro t' l' => simp only [hg, Option.map_some, frz] at h; right; simpa using h
    | box cs => simp [hg, frz] at h

theorem box_freeze {ts : List Nat} {e : Heap} {u : Nat} {cs : List AV} (h : hget (freeze ts e) u = some (.box cs)) : hget e u = some (.box cs) := by
  rw [hget_freeze] at h
  cases hg : hget e u with
  | none => simp [hg] at h
  | some b =>
    cases b with
    | arr t' l' => simp only [hg, Option.map_some, frz] at h; split at h <;> simp at h
    | fro t' l' => simp [hg, frz] at h
    | box cs => simpa [hg, frz] using h

theorem AF.unique {H : Heap} {u : Nat} {t t' : Ty} {l : List (den t)} {l' : List (den t')} (h : AF H u t l) (h' : AF H u t' l') : t = t' ∧ HEq l l' := by
  rcases h with h | h <;> rcases h' with h' | h' <;> rw [h] at h' <;> simp at h'
  · obtain ⟨rfl, h⟩ := h'; exact ⟨rfl, h⟩
  · obtain ⟨rfl, h⟩ := h'; exact ⟨rfl, h⟩

/-! ### which tokens are named -/
theorem toks_get (e : Env) (t : Nat) : ∀ T ∈ toks (get e t), T ∈ envToks e := by
  induction e with
  | nil => intro T h; simp [get, toks] at h
  | cons p e ih =>
    obtain ⟨s, x⟩ := p
    intro T h
    simp only [get] at h
    simp only [envToks, List.flatMap_cons, List.mem_append]
    split at h
    · exact .inl h
    · exact .inr (ih T h)

theorem toks_hget (e : Heap) (t : Nat) (b : Blk) (h : hget e t = some b) : t ∈ heapToks e ∧ ∀ T ∈ blkToks b, T ∈ heapToks e := by
  induction e with
  | nil => simp [hget] at h
  | cons p e ih =>
    obtain ⟨s, x⟩ := p
    simp only [hget] at h
    simp only [heapToks, List.flatMap_cons, List.mem_append, List.mem_cons]
    split at h
    · rename_i hb
      simp only [Option.some.injEq] at h; subst h
      have := beq_true hb; subst this
      exact ⟨.inl (.inl rfl), fun T hT => .inl (.inr hT)⟩
    · obtain ⟨h1, h2⟩ := ih h
      exact ⟨.inr h1, fun T hT => .inr (h2 T hT)⟩

/-! ### a slice of the run's own, or a part of it, as a pure value -/
/-- The memory of these tokens is among what is not turned any more. -/
def Shows (x : Cx) (fz' : Nat → Prop) (ts : List Nat) : Prop :=
  ∀ T ∈ ts, ∀ t l, AF x.H T t l → ∀ b o, x.m T = some (b, o) → fz' b

theorem af_deep {x : Cx} {n0 : Nat} (hr : HR x n0) {tok : Nat} {t : Ty} {l : List (den t)} (h : AF x.H tok t l) :
    (l = [] ∧ x.m tok = none) ∨ ∃ b o c e fr, x.m tok = some (b, o) ∧ x.hp[b]? = some (Obj.cells c e fr) ∧ o + l.length * csz t ≤ c.size ∧
      ∀ i (h : i < l.length), DeepC x.hp x.fz t l[i] (row c (o + i * csz t) (csz t)) := by
  rcases h with h | h
  · rcases hr.blk tok _ h with h | ⟨b, o, c, e, fr, h1, h2, h3, h4, h5, h6, h7⟩
    · exact .inl h
    · exact .inr ⟨b, o, c, e, fr, h1, h2, h6, h7⟩
  · rcases hr.blk tok _ h with h | ⟨b, o, c, e, fr, h1, h2, h3, h4, h5⟩
    · exact .inl h
    · exact .inr ⟨b, o, c, e, fr, h1, h2, h4, h5⟩

theorem af_row {x : Cx} {n0 : Nat} (hr : HR x n0) {fz' : Nat → Prop} (hf : ∀ b, x.fz b → fz' b) {tok : Nat} {t : Ty} {l : List (den t)} (h : AF x.H tok t l)
    (hs : ∀ b o, x.m tok = some (b, o) → fz' b) {a : Option Addr} {off len cap : Nat} (hlen : off + len ≤ l.length) (hp : Place x tok t a off len cap) :
    RowR x.hp fz' (csz t) (DeepC x.hp fz' t) ((l.drop off).take len) a := by
  intro hne
  have hn : len ≠ 0 := by
    rintro rfl; simp at hne
  rcases hp with ⟨h0, _⟩ | ⟨b, o, c, e, fr, h1, h2, h3, h4⟩
  · exact absurd h0 hn
  rcases af_deep hr h with ⟨_, h5⟩ | ⟨b', o', c', e', fr', h5, h6, h7, h8⟩
  · rw [h1] at h5; simp at h5
  rw [h1] at h5; simp only [Option.some.injEq, Prod.mk.injEq] at h5
  obtain ⟨rfl, rfl⟩ := h5
  rw [h3] at h6; simp only [Option.some.injEq, Obj.cells.injEq] at h6
  obtain ⟨rfl, rfl, rfl⟩ := h6
  refine ⟨b, o + off * csz t, c, e, fr, h2, hs b o h1, h3, fun i hi => ?_⟩
  have hi' : i < len := by simp at hi; omega
  have := DeepC.mono (fun b hb => ⟨hf b hb, rfl⟩) t _ _ (h8 (off + i) (by omega))
  have e1 : o + off * csz t + i * csz t = o + (off + i) * csz t := by rw [Nat.add_mul]; omega
  rw [e1]
  simpa using this

theorem ofCell_deep {x : Cx} {n0 : Nat} (hr : HR x n0) {fz' : Nat → Prop} (hf : ∀ b, x.fz b → fz' b) {c : AV} {v : Value} (h : RV x c v)
    (hs : Shows x fz' (toks c)) {t : Ty} {y : den t} (ho : ofCell t (deep x.H c) = some y) (hu : t ≠ .unit) : DeepC x.hp fz' t y [v] := by
  have key : ∀ (t' : Ty) (l : List (den t')) (f : Bool) (a : Option Addr) (cap : Nat), l.length ≤ cap → RowR x.hp fz' (csz t') (DeepC x.hp fz' t') l a →
      ofCell t (.sl t' l f) = some y → DeepC x.hp fz' t y [.slice a l.length cap] := by
    intro t' l f a cap hc hrow ho
    cases t <;> simp only [ofCell] at ho <;> try (simp at ho; done)
    · split at ho
      · rename_i he; subst he; simp only [Option.some.injEq] at ho; subst ho; exact ⟨a, cap, rfl, hc, hrow⟩
      · simp at ho
    · split at ho
      · rename_i he; subst he; simp only [Option.some.injEq] at ho; subst ho; exact ⟨a, cap, rfl, hc, hrow⟩
      · simp at ho
  cases h with
  | undef => cases t <;> simp [deep, ofCell] at ho
  | bool b => cases t <;> simp [deep, ofCell] at ho; subst ho; rfl
  | int k n =>
    cases t <;> simp only [deep, ofCell] at ho <;> try (simp at ho; done)
    split at ho
    · rename_i he; subst he; simp at ho; subst ho; rfl
    · simp at ho
  | str s => cases t <;> simp [deep, ofCell] at ho; subst ho; rfl
  | sl t' l f a cap h1 h2 h3 => exact key t' l f a cap h1 (RowR.mono (fun b hb => ⟨hf b hb, rfl⟩) h3) (by simpa [deep] using ho)
  | nilsl =>
    cases t <;> simp [deep, ofCell] at ho
    · subst ho; exact ⟨none, 0, rfl, Nat.le_refl _, fun h => absurd rfl h⟩
    · subst ho; exact ⟨none, 0, rfl, Nat.le_refl _, fun h => absurd rfl h⟩
  | who tok f a n cap h =>
    have go : ∀ (t' : Ty) (l : List (den t')), AF x.H tok t' l → ofCell t (.sl t' l false) = some y → DeepC x.hp fz' t y [.slice a n cap] := by
      intro t' l ha ho
      obtain ⟨h1, h2, h3, h4⟩ := h t' l ha
      subst h1
      have := af_row hr hf ha (fun b o hm => hs tok (by simp [toks]) t' l ha b o hm) (off := 0) (len := l.length) (by simp) h4
      simp only [List.drop_zero, List.take_length] at this
      exact key t' l false a cap h2 this ho
    simp only [deep] at ho
    split at ho
    · rename_i t' l hg; exact go t' l (.inl hg) ho
    · rename_i t' l hg; exact go t' l (.inr hg) ho
    · cases t <;> simp [ofCell] at ho
  | ref tok off len f a cap h =>
    have go : ∀ (t' : Ty) (l : List (den t')), AF x.H tok t' l → ofCell t (.sl t' ((l.drop off).take len) false) = some y → DeepC x.hp fz' t y [.slice a len cap] := by
      intro t' l ha ho
      obtain ⟨h1, h2, h3, h4⟩ := h t' l ha
      have hlen : ((l.drop off).take len).length = len := by simp; omega
      have := af_row hr hf ha (fun b o hm => hs tok (by simp [toks]) t' l ha b o hm) (off := off) (len := len) h1 h4
      have k := key t' ((l.drop off).take len) false a cap (by rw [hlen]; exact h2) this ho
      rwa [hlen] at k
    simp only [deep] at ho
    split at ho
    · rename_i t' l hg; exact go t' l (.inl hg) ho
    · rename_i t' l hg; exact go t' l (.inr hg) ho
    · cases t <;> simp [ofCell] at ho
  | ptr => cases t <;> simp [deep, ofCell] at ho
  | eptr => cases t <;> simp [deep, ofCell] at ho
  | rptr => cases t <;> simp [deep, ofCell] at ho
  | func f as bs vs us h1 h2 =>
    cases t with
    | fn g =>
      cases as with
      | cons _ _ => simp [deep, ofCell] at ho
      | nil =>
        cases bs with
        | cons _ _ => simp [deep, ofCell] at ho
        | nil =>
          cases h1; cases h2
          simp only [deep, ofCell] at ho
          split at ho
          · rename_i hb; have := beq_true hb; subst this; rfl
          · simp at ho
    | _ => simp [deep, ofCell] at ho
  | agg => cases t <;> simp [deep, ofCell] at ho
  | tup => cases t <;> simp [deep, ofCell] at ho
  | cst => cases t <;> simp [deep, ofCell] at ho

theorem ofCells_deep {x : Cx} {n0 : Nat} (hr : HR x n0) {fz' : Nat → Prop} (hf : ∀ b, x.fz b → fz' b) : ∀ (t : Ty) {cs : List AV} {vs : List Value} {y : den t} {rest : List AV},
    RVL x cs vs → Shows x fz' (toksL cs) → ofCells t (cs.map (deep x.H)) = some (y, rest) →
    ∃ vs1 vs2 cs2, vs = vs1 ++ vs2 ∧ DeepC x.hp fz' t y vs1 ∧ rest = cs2.map (deep x.H) ∧ RVL x cs2 vs2 ∧ (∀ T ∈ toksL cs2, T ∈ toksL cs) := by
  intro t
  induction t with
  | unit => intro cs vs y rest h hs ho; simp [ofCells] at ho; subst ho; exact ⟨[], vs, cs, rfl, rfl, rfl, h, fun _ h => h⟩
  | pair a b iha ihb =>
    intro cs vs y rest h hs ho
    simp only [ofCells] at ho
    split at ho
    · rename_i y1 r1 h1
      split at ho
      · rename_i y2 r2 h2
        simp only [Option.some.injEq, Prod.mk.injEq] at ho
        obtain ⟨rfl, rfl⟩ := ho
        obtain ⟨v1, v2, c2, rfl, d1, rfl, k2, t2⟩ := iha h hs h1
        obtain ⟨v3, v4, c4, rfl, d3, rfl, k4, t4⟩ := ihb k2 (fun T hT => hs T (t2 T hT)) h2
        exact ⟨v1 ++ v3, v4, c4, by simp, ⟨v1, v3, rfl, d1, d3⟩, rfl, k4, fun T hT => t2 T (t4 T hT)⟩
      · simp at ho
    · simp at ho
  | one t ih => intro cs vs y rest h hs ho; exact ih h hs ho
  | _ =>
    intro cs vs y rest h hs ho
    cases h with
    | nil => simp [ofCells] at ho
    | cons c v cs vs h1 h2 =>
      simp only [List.map_cons, ofCells] at ho
      split at ho
      · rename_i y' hy
        obtain ⟨e1, e2⟩ := Prod.mk.inj (Option.some.inj ho)
        subst e1; subst e2
        exact ⟨[v], vs, cs, rfl, ofCell_deep hr hf h1 (fun T hT => hs T (by simp [toksL, hT])) hy (by simp), rfl, h2, fun T hT => by simp [toksL, hT]⟩
      · simp at ho

/-- What a call is handed, or returns: one value. -/
def DenV (hp : Array Obj) (ok : Nat → Prop) (t : Ty) (y : den t) (v : Value) : Prop :=
  match isAgg t with
  | true => ∃ vs : List Value, v = .agg vs.toArray ∧ DeepC hp ok t y vs
  | false => t ≠ .unit ∧ DeepC hp ok t y [v]

theorem toDen_deep {x : Cx} {n0 : Nat} (hr : HR x n0) {fz' : Nat → Prop} (hf : ∀ b, x.fz b → fz' b) {t : Ty} {c : AV} {v : Value} {y : den t}
    (h : RV x c v) (hs : Shows x fz' (toks c)) (ho : toDen x.H t c = some y) : DenV x.hp fz' t y v := by
  unfold toDen at ho
  unfold DenV
  split at ho
  · rename_i c cs hag
    rw [hag]
    cases h with
    | agg cs vs h =>
      split at ho
      · rename_i y' hy
        simp only [Option.some.injEq] at ho; subst ho
        obtain ⟨v1, v2, c2, rfl, d1, hr2, k2, _⟩ := ofCells_deep hr hf t h (by simpa [toks] using hs) hy
        cases c2 with
        | cons _ _ => simp at hr2
        | nil => cases k2; simp only [List.append_nil]; exact ⟨v1, rfl, d1⟩
      · simp at ho
  · rename_i hag
    rw [hag]
    cases t <;> simp only [isAgg] at hag <;> first
      | (simp at hag; done)
      | (simp at ho; done)
      | exact ⟨by simp, ofCell_deep hr hf h hs ho (by simp)⟩
  · simp at ho

theorem ofDen_RV {x : Cx} {t : Ty} {y : den t} {v : Value} (h : DenV x.hp x.fz t y v) : RV x (ofDen t y) v := by
  unfold DenV at h
  cases t with
  | unit => simp [isAgg] at h
  | bool => obtain ⟨_, h⟩ := h; simp only [DeepC, List.cons.injEq, and_true] at h; subst h; exact .bool _
  | int => obtain ⟨_, h⟩ := h; simp only [DeepC, List.cons.injEq, and_true] at h; subst h; exact .int _ _
  | str => obtain ⟨_, h⟩ := h; simp only [DeepC, List.cons.injEq, and_true] at h; subst h; exact .str _
  | sl t =>
    obtain ⟨_, a, cap, h1, h2, h3⟩ := h
    simp only [List.cons.injEq, and_true] at h1; subst h1
    exact .sl t y false a cap h2 (by simp) h3
  | own t =>
    obtain ⟨_, a, cap, h1, h2, h3⟩ := h
    simp only [List.cons.injEq, and_true] at h1; subst h1
    exact .sl t y false a cap h2 (by simp) h3
  | pair a b => obtain ⟨vs, rfl, h⟩ := h; exact .agg _ _ (cells_RVL (.pair a b) y vs h)
  | one t => obtain ⟨vs, rfl, h⟩ := h; exact .agg _ _ (cells_RVL t y vs h)
  | fn f => obtain ⟨_, h⟩ := h; simp only [DeepC, List.cons.injEq, and_true] at h; subst h; exact .func f [] [] [] [] .nil .nil

def DenL (hp : Array Obj) (ok : Nat → Prop) : (ts : List Ty) → den (tyL ts) → List Value → Prop
  | [], _, vs => vs = []
  | [t], x, vs => ∃ v, vs = [v] ∧ DenV hp ok t x v
  | t :: u :: ts, x, vs => ∃ v vs', vs = v :: vs' ∧ DenV hp ok t x.1 v ∧ DenL hp ok (u :: ts) x.2 vs'

theorem toDenL_00 (H : Heap) : toDenL H [] [] = some () := rfl
theorem toDenL_01 (H : Heap) (v : AV) (vs : List AV) : toDenL H [] (v :: vs) = none := rfl
theorem toDenL_10 (H : Heap) (t : Ty) : toDenL H [t] [] = none := rfl
theorem toDenL_11 (H : Heap) (t : Ty) (v : AV) : toDenL H [t] [v] = toDen H t v := rfl
theorem toDenL_12 (H : Heap) (t : Ty) (v u : AV) (vs : List AV) : toDenL H [t] (v :: u :: vs) = none := rfl
theorem toDenL_20 (H : Heap) (t u : Ty) (ts : List Ty) : toDenL H (t :: u :: ts) [] = none := rfl
theorem toDenL_22 (H : Heap) (t u : Ty) (ts : List Ty) (v : AV) (vs : List AV) : toDenL H (t :: u :: ts) (v :: vs) = (match toDen H t v with
  | some x => match toDenL H (u :: ts) vs with
    | some y => some (x, y)
    | none => none
  | none => none) := rfl
theorem DenL_0 (hp : Array Obj) (ok : Nat → Prop) (x : den (tyL [])) (vs : List Value) : DenL hp ok [] x vs = (vs = []) := rfl
theorem DenL_1 (hp : Array Obj) (ok : Nat → Prop) (t : Ty) (x : den (tyL [t])) (vs : List Value) : DenL hp ok [t] x vs = ∃ v, vs = [v] ∧ DenV hp ok t x v := rfl
theorem DenL_2 (hp : Array Obj) (ok : Nat → Prop) (t u : Ty) (ts : List Ty) (x : den (tyL (t :: u :: ts))) (vs : List Value) :
  DenL hp ok (t :: u :: ts) x vs = ∃ v vs', vs = v :: vs' ∧ DenV hp ok t x.1 v ∧ DenL hp ok (u :: ts) x.2 vs' := rfl

theorem toDenL_deep {x : Cx} {n0 : Nat} (hr : HR x n0) {fz' : Nat → Prop} (hf : ∀ b, x.fz b → fz' b) (ts : List Ty) : ∀ {cs : List AV} {vs : List Value} {y : den (tyL ts)},
    RVL x cs vs → Shows x fz' (toksL cs) → toDenL x.H ts cs = some y → DenL x.hp fz' ts y vs := by
  induction ts with
  | nil =>
    intro cs vs y h hs ho
    cases h with
    | nil => rw [DenL_0]
    | cons => rw [toDenL_01] at ho; cases ho
  | cons t ts ih =>
    cases ts with
    | nil =>
      intro cs vs y h hs ho
      cases h with
      | nil => rw [toDenL_10] at ho; cases ho
      | cons c v cs vs h1 h2 =>
        cases h2 with
        | cons => rw [toDenL_12] at ho; cases ho
        | nil =>
          rw [toDenL_11] at ho
          rw [DenL_1]
          exact ⟨v, rfl, toDen_deep hr hf h1 (fun T hT => hs T (by simp [toksL, hT])) ho⟩
    | cons u ts =>
      intro cs vs y h hs ho
      cases h with
      | nil => rw [toDenL_20] at ho; cases ho
      | cons c v cs vs h1 h2 =>
        rw [toDenL_22] at ho
        rw [DenL_2]
        split at ho
        · rename_i y1 hy1
          split at ho
          · rename_i y2 hy2
            have e := Option.some.inj ho
            subst e
            exact ⟨v, vs, rfl, toDen_deep hr hf h1 (fun T hT => hs T (by simp [toksL, hT])) hy1, ih h2 (fun T hT => hs T (by simp [toksL, hT])) hy2⟩
          · cases ho
        · cases ho

theorem ofDenL_RVL {x : Cx} (ts : List Ty) : ∀ {y : den (tyL ts)} {vs : List Value}, DenL x.hp x.fz ts y vs → RVL x (ofDenL ts y) vs := by
  induction ts with
  | nil => intro y vs h; cases h; exact .nil
  | cons t ts ih =>
    cases ts with
    | nil => intro y vs h; obtain ⟨v, rfl, h⟩ := h; exact .cons _ _ _ _ (ofDen_RV h) .nil
    | cons u ts =>
      intro y vs h
      obtain ⟨v, vs, rfl, h1, h2⟩ := h
      exact .cons _ _ _ _ (ofDen_RV h1) (ih h2)

/-! ### the model's machine -/
def mk (f : FuncId) (a : Act) (td : List Item) : Frame := ({ (default : Frame) with fn := f, kind := .normal } : Frame).at a td
def mkRet (f : FuncId) (a : Act) (td : List Item) : Frame := { mk f a td with mode := .returning }

/-- From here the run comes to the end of the call of 'f0', as R says. -/
def Fin (P : Program) (R : Ending → World → Prop) (f0 : FuncId) (fr : Frame) (fs : List Frame) (w : World) : Prop :=
  ∀ cs, ∃ e w' fr', R e w' ∧ Comes P (lone fr (fs ++ cs) w) (lone fr' cs w') e ∧ fr'.fn = f0 ∧ fr'.leaving P w' e

section
variable {P : Program} {R : Ending → World → Prop} {f0 : FuncId}

theorem Fin.of_step {fr fr' : Frame} {fs fs' : List Frame} {w w' : World} (hs : ∀ cs, step P (lone fr (fs ++ cs) w) = .next (lone fr' (fs' ++ cs) w'))
    (h : Fin P R f0 fr' fs' w') : Fin P R f0 fr fs w := fun cs => by
  obtain ⟨e, w₂, fr₂, hR, hc, hf, hl⟩ := h cs
  exact ⟨e, w₂, fr₂, hR, Comes.of_steps (.one (hs cs)) hc, hf, hl⟩

theorem Fin.call {g : FuncId} {args : Array Value} {caller : Frame} {fs : List Frame} {w : World} {G : Value → World → Prop}
    (hc : Calls P g args w fun e w' => ∃ v, e = .returned v ∧ G v w') (h : ∀ v w', G v w' → Fin P R f0 (caller.finish v) fs w') :
    Fin P R f0 (Frame.enter P g args .normal) (caller :: fs) w := fun cs => by
  obtain ⟨e, w₁, fr₁, ⟨v, rfl, hg⟩, hcm, _, hl⟩ := hc (caller :: (fs ++ cs))
  obtain ⟨e₂, w₂, fr₂, hR, hc₂, hf, hl₂⟩ := h v w₁ hg cs
  exact ⟨e₂, w₂, fr₂, hR, Comes.of_steps hcm (Comes.of_steps (.one (step_leave_returned hl)) hc₂), hf, hl₂⟩

theorem Fin.leave {fr caller : Frame} {fs : List Frame} {w : World} {v : Value} (hl : fr.leaving P w (.returned v)) (h : Fin P R f0 (caller.finish v) fs w) :
    Fin P R f0 fr (caller :: fs) w := Fin.of_step (fun cs => step_leave_returned hl) h

theorem Fin.done {fr : Frame} {w : World} {v : Value} (hf : fr.fn = f0) (hl : fr.leaving P w (.returned v)) (hR : R (.returned v) w) : Fin P R f0 fr [] w :=
  fun cs => ⟨.returned v, w, fr, hR, Steps.refl _ _, hf, hl⟩

theorem Fin.calls {args : Array Value} {w : World} (h : Fin P R f0 (Frame.enter P f0 args .normal) [] w) : Calls P f0 args w R := fun cs => by
  obtain ⟨e, w', fr', hR, hc, hf, hl⟩ := h cs
  exact ⟨e, w', fr', hR, hc, hf, hl⟩

end
end Go.Proofs.YtcdcijhfjiahkaaDoorR.K
