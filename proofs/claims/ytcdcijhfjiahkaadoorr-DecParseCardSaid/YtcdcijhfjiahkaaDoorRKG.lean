/- The abstract machine: the form that a stop wants. -/
import Derived.Test.YtcdcijhfjiahkaaDoorRKI
set_option linter.unusedVariables false
set_option linter.unusedSimpArgs false
namespace Go.Proofs.YtcdcijhfjiahkaaDoorR.K
open Go
open Go.RowKit (Below)

section
variable {P : Program} {C : Ctx} {x : Cx} {n0 : Nat} {w : World}

theorem hget_append (n h : Heap) (t : Nat) : hget (n ++ h) t = match hget n t with
    | some b => some b
    | none => hget h t := by
  induction n with
  | nil => rfl
  | cons p n ih =>
    obtain ⟨u, b⟩ := p
    simp only [List.cons_append, hget]
    split
    · rfl
    · exact ih

theorem hget_blank (h : Heap) (t : Nat) : hget (blank h) t = (hget h t).map fun
    | .box cs => .box (cs.map fun _ => .undef)
    | b => b := by
  induction h with
  | nil => rfl
  | cons p h ih =>
    obtain ⟨u, b⟩ := p
    simp only [blank, hget]
    split
    · cases b <;> rfl
    · exact ih

theorem undefs_RVL (x : Cx) : ∀ (cs : List AV) (vs : List Value), cs.length = vs.length → RVL x (cs.map fun _ => .undef) vs
  | [], [], _ => .nil
  | c :: cs, v :: vs, h => .cons _ _ _ _ (.undef v) (undefs_RVL x cs vs (by simpa using h))
  | [], _ :: _, h => by simp at h
  | _ :: _, [], h => by simp at h

/-- The heap is told anew, its memory being the same. -/
theorem retell {x : Cx} (hr : HR x n0) (hp : x.hp = w.heap) {H' : Heap} (h : ∀ T b, hget H' T = some b → hget x.H T = some b ∨ ∃ cs cs' B c e fr, b = .box cs' ∧ hget x.H T = some (.box cs) ∧ x.m T = some (B, 0) ∧
    x.hp[B]? = some (Obj.cells c e fr) ∧ RVL x cs' c.toList) : NxS x { x with H := H' } n0 (fun _ => True) w w := by
  have E : Ext x { x with H := H' } (fun _ => True) := by
    refine ⟨fun _ h => ⟨h, rfl⟩, .refl _, fun T _ t l ha => ?_, fun T _ cs' ha => ?_⟩
    · rcases ha with ha | ha
      · rcases h T _ ha with h1 | ⟨cs, cs', B, c, e, fr, h1, _⟩
        · exact ⟨l, .inl h1, rfl, rfl⟩
        · cases h1
      · rcases h T _ ha with h1 | ⟨cs, cs', B, c, e, fr, h1, _⟩
        · exact ⟨l, .inr h1, rfl, rfl⟩
        · cases h1
    · rcases h T _ ha with h1 | ⟨cs, cs'', B, c, e, fr, h1, h2, _⟩
      · exact ⟨cs', h1, rfl⟩
      · exact ⟨cs, h2, rfl⟩
  refine ⟨E, ⟨fun T b hb => ?_, fun t1 t2 B h1 h2 => ?_, hr.size⟩, fun b h => .inl h, .refl _ _, hp⟩
  · rcases h T b hb with h1 | ⟨cs, cs', B, c, e, fr, rfl, h2, h3, h4, h5⟩
    · have := hr.blk T b h1
      cases b with
      | arr t l => exact this
      | fro t l => exact this
      | box cs =>
        obtain ⟨B, c, e, fr, k1, k2, k3, k4, k5, k6, k7⟩ := this
        exact ⟨B, c, e, fr, k1, k2, k3, k4, k5, k6, RVL.mono E k7 fun _ _ => trivial⟩
    · obtain ⟨B', c', e', fr', k1, k2, k3, k4, k5, k6, k7⟩ := hr.blk T _ h2
      rw [h3] at k1; cases k1
      rw [h4] at k2
      simp only [Option.some.injEq, Obj.cells.injEq] at k2
      obtain ⟨rfl, rfl, rfl⟩ := k2
      exact ⟨B, c, e, fr, h3, h4, k3, k4, k5, k6, RVL.mono E h5 fun _ _ => trivial⟩
  · have back : ∀ T, Owns { x with H := H' } T B → Owns x T B := by
      rintro T ⟨ho, hk⟩
      refine ⟨ho, ?_⟩
      rcases hk with ⟨t, l, hk⟩ | ⟨cs, hk⟩
      · rcases h T _ hk with h1 | ⟨cs, cs', B', c, e, fr, h1, _⟩
        · exact .inl ⟨t, l, h1⟩
        · cases h1
      · rcases h T _ hk with h1 | ⟨cs, cs', B', c, e, fr, h1, h2, _⟩
        · exact .inr ⟨_, h1⟩
        · exact .inr ⟨_, h2⟩
    exact hr.inj t1 t2 B (back t1 h1) (back t2 h2)

theorem blank_next {x : Cx} (hr : HR x n0) (hp : x.hp = w.heap) : NxS x { x with H := blank x.H } n0 (fun _ => True) w w := by
  refine retell hr hp fun T b hb => ?_
  rw [hget_blank] at hb
  cases hg : hget x.H T with
  | none => simp [hg] at hb
  | some b0 =>
    simp only [hg, Option.map_some, Option.some.injEq] at hb
    cases b0 with
    | arr t l => simp only at hb; subst hb; exact .inl rfl
    | fro t l => simp only at hb; subst hb; exact .inl rfl
    | box cs =>
      simp only at hb; subst hb
      obtain ⟨B, c, e, fr, k1, k2, k3, k4, k5, k6, k7⟩ := hr.blk T _ hg
      exact .inr ⟨cs, _, B, c, e, fr, rfl, rfl, k1, k2, undefs_RVL x cs _ k7.length⟩

/-- Boxes of which nothing is known. -/
def Blank (H : Heap) : Prop := ∀ T cs, hget H T = some (.box cs) → ∀ c ∈ cs, c = .undef

theorem toksL_undef {cs : List AV} (h : ∀ c ∈ cs, c = .undef) : toksL cs = [] := by
  induction cs with
  | nil => rfl
  | cons c cs ih =>
    have h1 := h c (by simp)
    subst h1
    have := ih fun c hc => h c (by simp [hc])
    simp [toksL, toks, this]

/-- A slice's token is another one from here on. -/
theorem ren_next {x : Cx} (hr : HR x n0) (hp : x.hp = w.heap) (hbl : Blank x.H) {T : Nat} {loc : Option (Nat × Nat)} {t : Ty} {l' : List (den t)} {H' : Heap} (hT : hget H' T = some (.arr t l'))
    (hsrc : (l' = [] ∧ loc = none) ∨ ∃ tok l k, hget x.H tok = some (.arr t l) ∧ loc = x.m tok ∧ l' = l.take k ∧ (tok = T ∨ hget H' tok = none))
    (hoth : ∀ u b, u ≠ T → hget H' u = some b → hget x.H u = some b) :
    NxS x { x with m := fun u => if u = T then loc else x.m u, H := H' } n0 (fun u => u ≠ T) w w := by
  have E : Ext x { x with m := fun u => if u = T then loc else x.m u, H := H' } (fun u => u ≠ T) := by
    refine ⟨fun _ h => ⟨h, rfl⟩, .refl _, fun u hu t l ha => ?_, fun u hu cs ha => ?_⟩
    · refine ⟨l, ?_, rfl, by simp [hu]⟩
      rcases ha with ha | ha
      · exact .inl (hoth u _ hu ha)
      · exact .inr (hoth u _ hu ha)
    · exact ⟨cs, hoth u _ hu ha, by simp [hu]⟩
  refine ⟨E, ⟨fun u b hb => ?_, fun t1 t2 B h1 h2 => ?_, hr.size⟩, fun b h => .inl h, .refl _ _, hp⟩
  · by_cases hu : u = T
    · subst hu
      rw [hT] at hb
      simp only [Option.some.injEq] at hb; subst hb
      rcases hsrc with ⟨h1, h2⟩ | ⟨tok, l, k, h1, h2, h3, _⟩
      · exact .inl ⟨h1, by simp [h2]⟩
      · rcases hr.blk _ _ h1 with ⟨g1, g2⟩ | ⟨B, o, c, e, fr, g1, g2, g3, g4, g5, g6, g7⟩
        · exact .inl ⟨by rw [h3, g1]; simp, by simp [h2, g2]⟩
        · refine .inr ⟨B, o, c, e, fr, by simp [h2, g1], g2, g3, g4, g5, ?_, fun i hi => ?_⟩
          · have : l'.length * csz t ≤ l.length * csz t := Nat.mul_le_mul_right _ (by rw [h3]; simp; omega)
            omega
          · have hi' : i < l.length := by rw [h3] at hi; simp at hi; omega
            have := g7 i hi'
            have e1 : l'[i] = l[i] := by subst h3; simp
            rw [e1]; exact this
    · have h0 := hr.blk u b (hoth u b hu hb)
      cases b with
      | arr t0 l0 =>
        rcases h0 with ⟨g1, g2⟩ | ⟨B, o, c, e, fr, g1, g2⟩
        · exact .inl ⟨g1, by simp [hu, g2]⟩
        · exact .inr ⟨B, o, c, e, fr, by simp [hu, g1], g2⟩
      | fro t0 l0 =>
        rcases h0 with ⟨g1, g2⟩ | ⟨B, o, c, e, fr, g1, g2⟩
        · exact .inl ⟨g1, by simp [hu, g2]⟩
        · exact .inr ⟨B, o, c, e, fr, by simp [hu, g1], g2⟩
      | box cs =>
        obtain ⟨B, c, e, fr, k1, k2, k3, k4, k5, k6, k7⟩ := h0
        refine ⟨B, c, e, fr, by simp [hu, k1], k2, k3, k4, k5, k6, RVL.mono E k7 fun q hq => ?_⟩
        rw [toksL_undef (hbl u cs (hoth u _ hu hb))] at hq; cases hq
  · have back : ∀ u, Owns { x with m := fun u => if u = T then loc else x.m u, H := H' } u B → ∃ v, Owns x v B ∧ ((u ≠ T ∧ v = u) ∨ (u = T ∧ (v = T ∨ hget H' v = none))) := by
      rintro u ⟨⟨o, ho⟩, hk⟩
      by_cases hu : u = T
      · subst hu
        simp only [if_true] at ho
        rcases hsrc with ⟨_, h2⟩ | ⟨tok, l, k, h1, h2, h3, h4⟩
        · rw [h2] at ho; cases ho
        · exact ⟨tok, ⟨⟨o, by rw [← h2]; exact ho⟩, .inl ⟨t, l, h1⟩⟩, .inr ⟨rfl, h4⟩⟩
      · simp only [if_neg hu] at ho
        refine ⟨u, ⟨⟨o, ho⟩, ?_⟩, .inl ⟨hu, rfl⟩⟩
        rcases hk with ⟨t', l, hk⟩ | ⟨cs, hk⟩
        · exact .inl ⟨t', l, hoth u _ hu hk⟩
        · exact .inr ⟨cs, hoth u _ hu hk⟩
    obtain ⟨v1, o1, c1⟩ := back t1 h1
    obtain ⟨v2, o2, c2⟩ := back t2 h2
    have hv := hr.inj v1 v2 B o1 o2
    subst hv
    rcases c1 with ⟨a1, a2⟩ | ⟨a1, a2⟩ <;> rcases c2 with ⟨b1, b2⟩ | ⟨b1, b2⟩
    · rw [← a2, ← b2]
    · exfalso
      subst a2
      rcases b2 with b2 | b2
      · exact a1 b2
      · obtain ⟨_, hk⟩ := h1
        rcases hk with ⟨t', l, hk⟩ | ⟨cs, hk⟩ <;> simp only at hk <;> rw [b2] at hk <;> cases hk
    · exfalso
      subst b2
      rcases a2 with a2 | a2
      · exact b1 a2
      · obtain ⟨_, hk⟩ := h2
        rcases hk with ⟨t', l, hk⟩ | ⟨cs, hk⟩ <;> simp only at hk <;> rw [a2] at hk <;> cases hk
    · rw [a1, b1]

/-! ### a stop's slots -/
theorem hget_mem {h : Heap} {t : Nat} {b : Blk} (k : hget h t = some b) : t ∈ h.map (·.1) := by
  induction h with
  | nil => cases k
  | cons p h ih =>
    obtain ⟨u, c⟩ := p
    simp only [hget] at k
    split at k
    · rename_i hb; simp [beq_true hb]
    · simp [ih k]

theorem hget_none {h : Heap} {t : Nat} (k : t ∉ h.map (·.1)) : hget h t = none := by
  cases hg : hget h t with
  | none => rfl
  | some b => exact absurd (hget_mem hg) k

theorem deep_congr {H H' : Heap} : ∀ (v : AV), (∀ T ∈ toks v, hget H T = hget H' T) → deep H v = deep H' v := by
  intro v h
  cases v with
  | who tok f => simp only [deep]; rw [h tok (by simp [toks])]
  | ref tok off len f => simp only [deep]; rw [h tok (by simp [toks])]
  | _ => rfl

theorem deeps_congr {H H' : Heap} : ∀ (cs : List AV), (∀ T ∈ toksL cs, hget H T = hget H' T) → cs.map (deep H) = cs.map (deep H')
  | [], _ => rfl
  | c :: cs, h => by
    simp only [List.map_cons]
    rw [deep_congr c fun T hT => h T (by simp [toksL, hT]), deeps_congr cs fun T hT => h T (by simp [toksL, hT])]

theorem toDen_congr {H H' : Heap} (t : Ty) (v : AV) (h : ∀ T ∈ toks v, hget H T = hget H' T) : toDen H t v = toDen H' t v := by
  unfold toDen
  split
  · rename_i cs hag; rw [deeps_congr cs (by simpa [toks] using h)]
  · rw [deep_congr _ h]
  · rfl

theorem freeze_append (ts : List Nat) (a b : Heap) : freeze ts (a ++ b) = freeze ts a ++ freeze ts b := by
  induction a with
  | nil => rfl
  | cons p a ih => obtain ⟨u, c⟩ := p; simp only [List.cons_append, freeze, ih]

theorem freeze_id (ts : List Nat) (a : Heap) (h : ∀ T ∈ a.map (·.1), T ∉ ts) : freeze ts a = a := by
  induction a with
  | nil => rfl
  | cons p a ih =>
    obtain ⟨u, c⟩ := p
    simp only [freeze]
    rw [ih fun T hT => h T (by simp only [List.map_cons, List.mem_cons]; exact .inr hT)]
    have : ts.elem u = false := by
      have := h u (by simp)
      simpa using this
    rw [this]
    cases c <;> rfl

/-- The tokens that slots are laid at are named by no other slot. -/
def Fits (out : List Nat) : List (Shape × AV) → Prop
  | [] => True
  | (sh, v) :: l => (∀ T t, sh = .own T t → T ∉ out ∧ ∀ q ∈ l, T ∉ toks q.2) ∧ (∀ q ∈ l, ∀ T t, q.1 = .own T t → T ∉ toks v) ∧ Fits out l

theorem fitB_fits {out : List Nat} : ∀ (l pre : List (Shape × AV)), fitB out pre l = true → Fits out l ∧ ∀ p ∈ pre, ∀ q ∈ l, ∀ T t, q.1 = .own T t → T ∉ toks p.2
  | [], pre, _ => ⟨trivial, fun _ _ _ hq => by cases hq⟩
  | (sh, v) :: l, pre, h => by
    simp only [fitB, Bool.and_eq_true] at h
    obtain ⟨h1, h2⟩ := h
    obtain ⟨k1, k2⟩ := fitB_fits l ((sh, v) :: pre) h2
    have own : ∀ T t, sh = .own T t → T ∉ out ∧ ∀ q ∈ pre ++ l, T ∉ toks q.2 := by
      intro T t hs
      subst hs
      simp only [Bool.and_eq_true, Bool.not_eq_true', List.all_eq_true] at h1
      obtain ⟨a1, a2⟩ := h1
      exact ⟨by simpa using a1, fun q hq => by simpa using a2 q hq⟩
    refine ⟨⟨fun T t hs => ⟨(own T t hs).1, fun q hq => (own T t hs).2 q (by simp [hq])⟩, fun q hq T t hs => k2 (sh, v) (by simp) q hq T t hs, k1⟩, fun p hp q hq T t hs => ?_⟩
    rcases List.mem_cons.1 hq with rfl | hq
    · exact (own T t hs).2 p (by simp [hp])
    · exact k2 p (by simp [hp]) q hq T t hs

/-- What a slot keeps lies at its own token. -/
theorem canonV_keys {sh : Shape} {v v' : AV} {h h' n : Heap} (k : canonV sh v h = some (v', h', n)) : ∀ T ∈ n.map (·.1), ∃ t, sh = .own T t := by
  intro T hT
  unfold canonV at k
  split at k
  · simp only [Option.some.injEq, Prod.mk.injEq] at k; obtain ⟨_, _, rfl⟩ := k; cases hT
  · split at k
    · simp only [Option.some.injEq, Prod.mk.injEq] at k; obtain ⟨_, _, rfl⟩ := k; cases hT
    · cases k
  · split at k
    · simp only [Option.some.injEq, Prod.mk.injEq] at k; obtain ⟨_, _, rfl⟩ := k
      simp only [List.map_cons, List.map_nil, List.mem_singleton] at hT; exact ⟨_, by rw [hT]⟩
    · split at k
      · split at k
        · simp only [Option.some.injEq, Prod.mk.injEq] at k; obtain ⟨_, _, rfl⟩ := k
          simp only [List.map_cons, List.map_nil, List.mem_singleton] at hT; exact ⟨_, by rw [hT]⟩
        · cases k
      · cases k
    · split at k
      · split at k
        · simp only [Option.some.injEq, Prod.mk.injEq] at k; obtain ⟨_, _, rfl⟩ := k
          simp only [List.map_cons, List.map_nil, List.mem_singleton] at hT; exact ⟨_, by rw [hT]⟩
        · cases k
      · cases k
    · cases k

theorem canonL_keys : ∀ {sl : List (Shape × AV)} {h h' n : Heap} {vs : List AV}, canonL sl h = some (vs, h', n) → ∀ T ∈ n.map (·.1), ∃ q ∈ sl, ∃ t, q.1 = .own T t
  | [], h, h', n, vs, k => by
    simp only [canonL, Option.some.injEq, Prod.mk.injEq] at k; obtain ⟨_, _, rfl⟩ := k; intro T hT; cases hT
  | (sh, v) :: sl, h, h', n, vs, k => by
    simp only [canonL] at k
    split at k
    · rename_i v1 h1 n1 e1
      split at k
      · rename_i vs2 h2 n2 e2
        simp only [Option.some.injEq, Prod.mk.injEq] at k
        obtain ⟨_, _, rfl⟩ := k
        intro T hT
        simp only [List.map_append, List.mem_append] at hT
        rcases hT with hT | hT
        · obtain ⟨t, ht⟩ := canonV_keys e1 T hT
          exact ⟨_, List.mem_cons_self .., t, ht⟩
        · obtain ⟨q, hq, hr⟩ := canonL_keys e2 T hT
          exact ⟨q, List.mem_cons_of_mem _ hq, hr⟩
      · cases k
    · cases k

/-- Boxes stay. -/
theorem canonV_box {sh : Shape} {v v' : AV} {h h' n : Heap} (k : canonV sh v h = some (v', h', n)) {T : Nat} {cs : List AV} (hb : hget h T = some (.box cs)) : hget h' T = some (.box cs) := by
  have del : ∀ tok t' (l : List (den t')), hget h tok = some (.arr t' l) → hget (hdel h tok) T = some (.box cs) := by
    intro tok t' l hl
    rw [hget_hdel]
    by_cases hT : T = tok
    · subst hT; rw [hl] at hb; cases hb
    · rw [if_neg hT]; exact hb
  unfold canonV at k
  split at k
  · simp only [Option.some.injEq, Prod.mk.injEq] at k; obtain ⟨_, rfl, _⟩ := k; exact hb
  · split at k
    · simp only [Option.some.injEq, Prod.mk.injEq] at k; obtain ⟨_, rfl, _⟩ := k
      rw [hget_freeze, hb]; rfl
    · cases k
  · split at k
    · simp only [Option.some.injEq, Prod.mk.injEq] at k; obtain ⟨_, rfl, _⟩ := k; exact hb
    · split at k
      · rename_i hl
        split at k
        · simp only [Option.some.injEq, Prod.mk.injEq] at k; obtain ⟨_, rfl, _⟩ := k; exact del _ _ _ hl
        · cases k
      · cases k
    · split at k
      · rename_i hl _
        split at k
        · simp only [Option.some.injEq, Prod.mk.injEq] at k; obtain ⟨_, rfl, _⟩ := k; exact del _ _ _ hl
        · cases k
      · cases k
    · cases k

theorem canonL_box : ∀ {sl : List (Shape × AV)} {h h' n : Heap} {vs : List AV}, canonL sl h = some (vs, h', n) → ∀ {T : Nat} {cs : List AV}, hget h T = some (.box cs) → hget h' T = some (.box cs)
  | [], h, h', n, vs, k, T, cs, hb => by
    simp only [canonL, Option.some.injEq, Prod.mk.injEq] at k; obtain ⟨_, rfl, _⟩ := k; exact hb
  | (sh, v) :: sl, h, h', n, vs, k, T, cs, hb => by
    simp only [canonL] at k
    split at k
    · rename_i v1 h1 n1 e1
      split at k
      · rename_i vs2 h2 n2 e2
        simp only [Option.some.injEq, Prod.mk.injEq] at k
        obtain ⟨_, rfl, _⟩ := k
        exact canonL_box e2 (canonV_box e1 hb)
      · cases k
    · cases k

/-- The old token's slice under the new one. -/
theorem own_step {x : Cx} (hr : HR x n0) (hp : x.hp = w.heap) (hbl : Blank x.H) {acc h : Heap} (hH : x.H = acc ++ h) {T tok : Nat} {t : Ty} {l : List (den t)} {k : Nat} (hT : T ∉ acc.map (·.1)) (htok : tok ∉ acc.map (·.1))
    (hg : hget h tok = some (.arr t l)) (hk : k ≤ l.length) {v : AV} {f : Bool} {a : Option Addr} {cap : Nat} (hcap : k ≤ cap) (hpl : Place x tok t a 0 k cap) :
    ∃ x', NxS x x' n0 (fun u => u ≠ T) w w ∧ x'.H = acc ++ (T, .arr t (l.take k)) :: hdel h tok ∧ Blank x'.H ∧ RV x' (.who T false) (.slice a k cap) := by
  have hgx : hget x.H tok = some (.arr t l) := by rw [hH, hget_append, hget_none htok]; exact hg
  have hT' : hget (acc ++ (T, Blk.arr t (l.take k)) :: hdel h tok) T = some (.arr t (l.take k)) := by
    rw [hget_append, hget_none hT]; simp [hget, beq_self]
  have hoth : ∀ u b, u ≠ T → hget (acc ++ (T, Blk.arr t (l.take k)) :: hdel h tok) u = some b → hget x.H u = some b := by
    intro u b hu hb
    rw [hH, hget_append]
    rw [hget_append] at hb
    cases hga : hget acc u with
    | some b' => rw [hga] at hb; exact hb
    | none =>
      rw [hga] at hb
      simp only [hget] at hb
      rw [beq_ne (Ne.symm hu)] at hb
      simp only at hb
      rw [hget_hdel] at hb
      split at hb
      · cases hb
      · exact hb
  have N := ren_next hr hp hbl (T := T) (loc := x.m tok) (t := t) (l' := l.take k) hT' (.inr ⟨tok, l, k, hgx, rfl, rfl, by
    by_cases h' : tok = T
    · exact .inl h'
    · refine .inr ?_
      rw [hget_append, hget_none htok]
      simp only [hget]
      rw [beq_ne (Ne.symm h'), hget_hdel]
      simp⟩) hoth
  refine ⟨_, N, rfl, ?_, ?_⟩
  · intro u cs hu c hc
    by_cases h' : u = T
    · subst h'; simp only at hu; rw [hT'] at hu; cases hu
    · exact hbl u cs (hoth u _ h' hu) c hc
  · refine .who T false a k cap fun t' l' ha => ?_
    have : Blk.arr t' l' = Blk.arr t (l.take k) := by
      rcases ha with ha | ha
      · simp only at ha; rw [hT'] at ha; exact (Option.some.inj ha).symm
      · simp only at ha; rw [hT'] at ha; cases ha
    cases this
    refine ⟨by simp; omega, hcap, by simp, ?_⟩
    rcases hpl with hpl | ⟨b, o, c, e, fr, p1, p2, p3, p4⟩
    · exact .inl hpl
    · exact .inr ⟨b, o, c, e, fr, by simp [p1], p2, p3, p4⟩

theorem canonV_sound {x : Cx} (hr : HR x n0) (hp : x.hp = w.heap) (hbl : Blank x.H) {acc h h' n : Heap} (hH : x.H = acc ++ h) {sh : Shape} {v v' : AV} {u : Value} (hv : RV x v u) (k : canonV sh v h = some (v', h', n))
    (hacc : ∀ T ∈ acc.map (·.1), T ∉ toks v) (hnew : ∀ T ∈ n.map (·.1), T ∉ acc.map (·.1)) :
    ∃ x', NxS x x' n0 (fun u => u ∉ n.map (·.1)) w w ∧ x'.H = acc ++ n ++ h' ∧ Blank x'.H ∧ RV x' v' u ∧ (∀ T ∈ toks v', T ∈ n.map (·.1) ∨ (sh = .keep ∧ T ∈ toks v)) := by
  have hcg : ∀ T ∈ toks v, hget h T = hget x.H T := by
    intro T hT
    rw [hH, hget_append, hget_none fun hm => hacc T hm hT]
  unfold canonV at k
  split at k
  · simp only [Option.some.injEq, Prod.mk.injEq] at k; obtain ⟨rfl, rfl, rfl⟩ := k
    exact ⟨x, (Nx.refl hr 0 hp : NxS x x n0 _ w w) |> fun N => ⟨.refl _ _, N.hr, N.fz, N.bel, N.hp⟩, by simpa using hH, hbl, hv, fun T hT => .inr ⟨rfl, hT⟩⟩
  · rename_i t
    split at k
    · rename_i y hy
      simp only [Option.some.injEq, Prod.mk.injEq] at k; obtain ⟨rfl, rfl, rfl⟩ := k
      have NF := frz_next hr hp (tok := 0) (toks v)
      have hy' : toDen x.H t v = some y := by rw [← hy]; exact (toDen_congr t v hcg).symm
      have hd := toDen_deep hr (fz' := (frzCx x (toks v)).fz) (fun b hb => .inl hb) hv (frz_shows hr _) hy'
      refine ⟨frzCx x (toks v), ⟨frz_ext x _ _, NF.hr, NF.fz, .refl _ _, NF.hp⟩, ?_, ?_, ofDen_RV (x := frzCx x (toks v)) hd, ?_⟩
      · show freeze (toks v) x.H = _
        rw [hH, freeze_append, freeze_id _ acc hacc]; simp
      · intro T cs hT c hc
        have hT : hget (freeze (toks v) x.H) T = some (.box cs) := hT
        rw [hget_freeze] at hT
        cases hg : hget x.H T with
        | none => simp [hg] at hT
        | some b0 =>
          cases b0 with
          | box cs0 => simp [hg, frz] at hT; subst hT; exact hbl T _ hg c hc
          | arr t l => simp only [hg, Option.map_some, frz] at hT; split at hT <;> cases hT
          | fro t l => simp [hg, frz] at hT
      · intro T hT; rw [toks_ofDen] at hT; cases hT
    · cases k
  · rename_i T t
    split at k
    · -- nil
      simp only [Option.some.injEq, Prod.mk.injEq] at k; obtain ⟨rfl, rfl, rfl⟩ := k
      have hT : T ∉ acc.map (·.1) := hnew T (by simp)
      have hT' : hget (acc ++ (T, Blk.arr t ([] : List (den t))) :: h) T = some (.arr t ([] : List (den t))) := by
        rw [hget_append, hget_none hT]; simp [hget, beq_self]
      have hoth : ∀ u b, u ≠ T → hget (acc ++ (T, Blk.arr t ([] : List (den t))) :: h) u = some b → hget x.H u = some b := by
        intro u b hu hb
        rw [hH, hget_append]
        rw [hget_append] at hb
        cases hga : hget acc u with
        | some b' => rw [hga] at hb; exact hb
        | none => rw [hga] at hb; simp only [hget] at hb; rw [beq_ne (Ne.symm hu)] at hb; exact hb
      have N := ren_next hr hp hbl (T := T) (loc := none) (t := t) (l' := ([] : List (den t))) hT' (.inl ⟨rfl, rfl⟩) hoth
      refine ⟨_, N.weaken fun u hu => by simpa using hu, by simp, ?_, ?_, fun T' hT' => .inl (by simpa [toks] using hT')⟩
      · intro u cs hu c hc
        by_cases h' : u = T
        · subst h'; simp only at hu; rw [hT'] at hu; cases hu
        · exact hbl u cs (hoth u _ h' hu) c hc
      · cases hv
        refine .who T false none 0 0 fun t' l' ha => ?_
        have : Blk.arr t' l' = Blk.arr t ([] : List (den t)) := by
          rcases ha with ha | ha
          · simp only at ha; rw [hT'] at ha; exact (Option.some.inj ha).symm
          · simp only at ha; rw [hT'] at ha; cases ha
        cases this
        exact ⟨rfl, Nat.le_refl _, fun _ => rfl, .inl ⟨rfl, rfl⟩⟩
    · rename_i tok f
      split at k
      · rename_i t' l hl
        split at k
        · rename_i e
          subst e
          simp only [Option.some.injEq, Prod.mk.injEq] at k; obtain ⟨rfl, rfl, rfl⟩ := k
          cases hv with
          | who _ _ a m cap hh =>
          have htok : tok ∉ acc.map (·.1) := fun hm => hacc tok hm (by simp [toks])
          have hgx : hget x.H tok = some (.arr t' l) := by rw [← hcg tok (by simp [toks])]; exact hl
          obtain ⟨h1, h2, h3, h4⟩ := hh t' l (.inl hgx)
          subst h1
          obtain ⟨x', N, k1, k2, k3⟩ := own_step hr hp hbl hH (T := T) (hnew T (by simp)) htok hl (Nat.le_refl _) (v := .undef) (f := f) h2 h4
          refine ⟨x', N.weaken fun u hu => by simpa using hu, ?_, k2, k3, fun T' hT' => .inl (by simpa [toks] using hT')⟩
          rw [k1, List.take_length]; simp
        · cases k
      · cases k
    · rename_i tok off len f
      split at k
      · rename_i t' l hl hoff
        have hoff := beq_true hoff
        subst hoff
        split at k
        · rename_i e
          subst e
          simp only [Option.some.injEq, Prod.mk.injEq] at k; obtain ⟨rfl, rfl, rfl⟩ := k
          cases hv with
          | ref _ _ _ _ a cap hh =>
          have htok : tok ∉ acc.map (·.1) := fun hm => hacc tok hm (by simp [toks])
          have hgx : hget x.H tok = some (.arr t' l) := by rw [← hcg tok (by simp [toks])]; exact hl
          obtain ⟨h1, h2, h3, h4⟩ := hh t' l (.inl hgx)
          obtain ⟨x', N, k1, k2, k3⟩ := own_step hr hp hbl hH (T := T) (hnew T (by simp)) htok hl (k := len) (by omega) (v := .undef) (f := f) h2 h4
          refine ⟨x', N.weaken fun u hu => by simpa using hu, ?_, k2, k3, fun T' hT' => .inl (by simpa [toks] using hT')⟩
          rw [k1]; simp
        · cases k
      · cases k
    · cases k

theorem canonL_sound {out : List Nat} : ∀ {sl : List (Shape × AV)} {x : Cx} {acc h h' n : Heap} {vs : List AV} {us : List Value}, HR x n0 → x.hp = w.heap → Blank x.H → x.H = acc ++ h → RVL x (sl.map (·.2)) us →
    canonL sl h = some (vs, h', n) → Fits out sl → (∀ T ∈ acc.map (·.1), ∀ q ∈ sl, T ∉ toks q.2) → ((acc ++ n).map (·.1)).Nodup →
    ∃ x', NxS x x' n0 (fun u => u ∉ n.map (·.1)) w w ∧ x'.H = acc ++ n ++ h' ∧ RVL x' vs us
  | [], x, acc, h, h', n, vs, us, hr, hp, hbl, hH, hv, k, _, _, _ => by
    simp only [canonL, Option.some.injEq, Prod.mk.injEq] at k; obtain ⟨rfl, rfl, rfl⟩ := k
    cases hv
    exact ⟨x, (Nx.refl hr 0 hp : NxS x x n0 _ w w) |> fun N => ⟨.refl _ _, N.hr, N.fz, N.bel, N.hp⟩, by simpa using hH, .nil⟩
  | (sh, v) :: sl, x, acc, h, h', n, vs, us, hr, hp, hbl, hH, hv, k, hfit, hacc, hnd => by
    simp only [canonL] at k
    split at k
    · rename_i v1 h1 n1 e1
      split at k
      · rename_i vs2 h2 n2 e2
        simp only [Option.some.injEq, Prod.mk.injEq] at k
        obtain ⟨rfl, rfl, rfl⟩ := k
        obtain ⟨f1, f2, f3⟩ := hfit
        cases hv with
        | cons _ u _ us hv hvs =>
        have hnd' : ((acc ++ n1) ++ n2).map (·.1) |>.Nodup := by rw [List.append_assoc]; exact hnd
        obtain ⟨x1, N1, k1, k2, k3, k4⟩ := canonV_sound hr hp hbl hH hv e1 (fun T hT => hacc T hT _ (List.mem_cons_self ..)) (fun T hT hT' => by
          rw [List.append_assoc, List.map_append, List.nodup_append] at hnd'
          exact hnd'.2.2 T hT' T (by simp only [List.map_append, List.mem_append]; exact .inl hT) rfl)
        have own1 : ∀ T ∈ n1.map (·.1), ∀ q ∈ sl, T ∉ toks q.2 := by
          intro T hT q hq
          obtain ⟨t, ht⟩ := canonV_keys e1 T hT
          exact (f1 T t ht).2 q hq
        have hvs1 : RVL x1 (sl.map (·.2)) us := RVL.mono N1.ext hvs fun T hT hT' => by
          have : ∀ (l : List (Shape × AV)), T ∈ toksL (l.map (·.2)) → ∃ q ∈ l, T ∈ toks q.2 := by
            intro l
            induction l with
            | nil => intro h; cases h
            | cons q l ih =>
              intro h
              simp only [List.map_cons, toksL, List.mem_append] at h
              rcases h with h | h
              · exact ⟨q, List.mem_cons_self .., h⟩
              · obtain ⟨q', h1, h2⟩ := ih h; exact ⟨q', List.mem_cons_of_mem _ h1, h2⟩
          obtain ⟨q, hq, hqt⟩ := this sl hT
          exact own1 T hT' q hq hqt
        obtain ⟨x2, N2, j1, j2⟩ := canonL_sound (acc := acc ++ n1) N1.hr N1.hp k2 k1 hvs1 e2 f3 (fun T hT q hq => by
          simp only [List.map_append, List.mem_append] at hT
          rcases hT with hT | hT
          · exact hacc T hT q (List.mem_cons_of_mem _ hq)
          · exact own1 T hT q hq) hnd'
        refine ⟨x2, (N1.weaken fun u hu => ?_).trans (N2.weaken fun u hu => ?_), by rw [j1]; simp, .cons _ _ _ _ (RV.mono N2.ext k3 fun T hT hT2 => ?_) j2⟩
        · simp only [List.map_append, List.mem_append] at hu; exact fun h => hu (.inl h)
        · simp only [List.map_append, List.mem_append] at hu; exact fun h => hu (.inr h)
        · rcases k4 T hT with h | ⟨hs, h⟩
          · rw [List.map_append, List.nodup_append] at hnd'
            exact hnd'.2.2 T (by simp only [List.map_append, List.mem_append]; exact .inr h) T hT2 rfl
          · obtain ⟨q, hq, t, ht⟩ := canonL_keys e2 T hT2
            exact f2 q hq T t ht h
      · cases k
    · cases k

/-! ### boxes -/
/-- The model's cells of the boxes that a stop keeps. -/
def boxUs (x : Cx) : List (Nat × List Shape) → Heap → List Value
  | [], _ => []
  | (tok, _) :: ts, h => match hget h tok with
    | some (.box _) => (match x.m tok with
      | some (b, _) => (match x.hp[b]? with
        | some (.cells c _ _) => c.toList
        | _ => [])
      | none => []) ++ boxUs x ts h
    | _ => boxUs x ts h

theorem boxUs_box {x : Cx} {tok : Nat} {shs : List Shape} {ts : List (Nat × List Shape)} {h : Heap} {cs : List AV} {b o : Nat} {c : Array Value} {e : TypeId} {fr : Nat × Nat} (h1 : hget h tok = some (.box cs)) (h2 : x.m tok = some (b, o))
    (h3 : x.hp[b]? = some (Obj.cells c e fr)) : boxUs x ((tok, shs) :: ts) h = c.toList ++ boxUs x ts h := by
  simp only [boxUs, h1, h2, h3]

theorem boxUs_not {x : Cx} {tok : Nat} {shs : List Shape} {ts : List (Nat × List Shape)} {h : Heap} (h1 : ∀ cs, hget h tok ≠ some (.box cs)) : boxUs x ((tok, shs) :: ts) h = boxUs x ts h := by
  simp only [boxUs]
  first
    | (split; · rename_i cs hc; exact absurd hc (h1 cs)
       rfl)
    | skip

theorem boxSlots_RVL {x : Cx} (hr : HR x n0) : ∀ {ts : List (Nat × List Shape)} {bs : List (Shape × AV)}, boxSlots ts x.H = some bs → RVL x (bs.map (·.2)) (boxUs x ts x.H)
  | [], bs, h => by simp only [boxSlots, Option.some.injEq] at h; subst h; exact .nil
  | (tok, shs) :: ts, bs, h => by
    simp only [boxSlots] at h
    split at h
    · cases h
    · rename_i l hl
      have ih := boxSlots_RVL hr hl
      split at h
      · rename_i cs hg
        split at h
        · rename_i hlen
          have hlen := beq_true hlen
          simp only [Option.some.injEq] at h; subst h
          obtain ⟨b, c, e, fr, h1, h2, _, _, _, _, h7⟩ := hr.blk tok _ hg
          rw [boxUs_box hg h1 h2, List.map_append, List.map_snd_zip (by omega)]
          exact h7.append ih
        · cases h
      · rename_i hg
        have hnb : ∀ cs, hget x.H tok ≠ some (.box cs) := by
          intro cs hc
          rename_i hg'
          rw [hg] at hc
          exact hg' cs (Option.some.inj hc)
        rw [boxUs_not hnb]
        split at h
        · simp only [Option.some.injEq] at h; subst h; exact ih
        · cases h
      · cases h

theorem rebuild_sound {x x1 : Cx} (hr : HR x n0) (hp : x1.hp = x.hp) : ∀ {ts : List (Nat × List Shape)} {bs : List (Shape × AV)} {hl : Heap} {vs : List AV} {hs : Heap}, boxSlots ts x.H = some bs →
    (∀ p ∈ ts, ∀ cs, hget x.H p.1 = some (.box cs) → x1.m p.1 = x.m p.1) → RVL x1 vs (boxUs x ts x.H) → rebuild ts x.H hl vs = some hs → ∀ T b, hget hs T = some b →
    (hget hl T = some b ∧ ∀ cs, b ≠ .box cs) ∨ ∃ cs cs0 B c e fr, b = .box cs ∧ hget x.H T = some (.box cs0) ∧ x1.m T = some (B, 0) ∧ x1.hp[B]? = some (Obj.cells c e fr) ∧ RVL x1 cs c.toList
  | [], bs, hl, vs, hs, _, _, _, h, T, b, hT => by
    simp only [rebuild, Option.some.injEq] at h; subst h; cases hT
  | (tok, shs) :: ts, bs, hl, vs, hs, hb, hm, hv, h, T, b, hT => by
    simp only [boxSlots] at hb
    split at hb
    · cases hb
    · rename_i l hbl
      simp only [rebuild] at h
      split at h
      · rename_i cs hg
        rw [hg] at hb
        simp only at hb
        split at hb
        · rename_i hlen
          have hlen := beq_true hlen
          obtain ⟨B, c, e, fr, h1, h2, _, _, _, _, h7⟩ := hr.blk tok _ hg
          rw [boxUs_box hg h1 h2] at hv
          have hcl : c.toList.length = shs.length := by rw [hlen]; exact h7.length.symm
          have hv1 := RVL.take shs.length hv
          rw [List.take_left' hcl] at hv1
          have hv2 := RVL.drop shs.length hv
          rw [List.drop_left' hcl] at hv2
          split at h
          · rename_i hs' hrb
            simp only [Option.some.injEq] at h; subst h
            simp only [hget] at hT
            split at hT
            · rename_i hbq
              have hbq := beq_true hbq; subst hbq
              simp only [Option.some.injEq] at hT; subst hT
              exact .inr ⟨_, cs, B, c, e, fr, rfl, hg, by rw [hm (tok, shs) (List.mem_cons_self ..) cs hg]; exact h1, by rw [hp]; exact h2, hv1⟩
            · exact rebuild_sound hr hp hbl (fun p hp' => hm p (List.mem_cons_of_mem _ hp')) hv2 hrb T b hT
          · cases h
        · cases hb
      · rename_i hnb
        rw [boxUs_not hnb] at hv
        split at h
        · rename_i t l' hs' hg hrb
          simp only [Option.some.injEq] at h; subst h
          simp only [hget] at hT
          split at hT
          · rename_i hbq
            have hbq := beq_true hbq; subst hbq
            simp only [Option.some.injEq] at hT; subst hT
            exact .inl ⟨hg, fun cs h => by cases h⟩
          · exact rebuild_sound hr hp hbl (fun p hp' => hm p (List.mem_cons_of_mem _ hp')) hv hrb T b hT
        · rename_i t l' hs' hg hrb
          simp only [Option.some.injEq] at h; subst h
          simp only [hget] at hT
          split at hT
          · rename_i hbq
            have hbq := beq_true hbq; subst hbq
            simp only [Option.some.injEq] at hT; subst hT
            exact .inl ⟨hg, fun cs h => by cases h⟩
          · exact rebuild_sound hr hp hbl (fun p hp' => hm p (List.mem_cons_of_mem _ hp')) hv hrb T b hT
        · cases h

theorem rebuild_keys : ∀ {ts : List (Nat × List Shape)} {h0 hl : Heap} {vs : List AV} {hs : Heap}, rebuild ts h0 hl vs = some hs → ∀ T ∈ hs.map (·.1), T ∈ ts.map (·.1)
  | [], h0, hl, vs, hs, h => by simp only [rebuild, Option.some.injEq] at h; subst h; intro T hT; cases hT
  | (tok, shs) :: ts, h0, hl, vs, hs, h => by
    simp only [rebuild] at h
    split at h
    · split at h
      · rename_i hs' hrb
        simp only [Option.some.injEq] at h; subst h
        intro T hT
        simp only [List.map_cons, List.mem_cons] at hT ⊢
        exact hT.imp id (rebuild_keys hrb T)
      · cases h
    · split at h
      · rename_i hs' _ hrb
        simp only [Option.some.injEq] at h; subst h
        intro T hT
        simp only [List.map_cons, List.mem_cons] at hT ⊢
        exact hT.imp id (rebuild_keys hrb T)
      · rename_i hs' _ hrb
        simp only [Option.some.injEq] at h; subst h
        intro T hT
        simp only [List.map_cons, List.mem_cons] at hT ⊢
        exact hT.imp id (rebuild_keys hrb T)
      · cases h

theorem RVL_zip {x : Cx} (f : Nat → Value) : ∀ {ls : List Nat} {vs : List AV}, RVL x vs (ls.map f) → ∀ t, RV x (get (ls.zip vs) t) (f t)
  | [], _, _, t => .undef _
  | u :: ls, [], h, t => .undef _
  | u :: ls, v :: vs, .cons _ _ _ _ h1 h2, t => by
    simp only [List.zip_cons_cons, get]
    split
    · rename_i hb
      have hb := beq_true hb; subst hb; exact h1
    · exact RVL_zip f h2 t

/-- A stop's form is as good as what was there. -/
theorem canon_sound {w0 : World} {fz0 : Nat → Prop} {nt f0 f : Nat} {a : Ann} {stk : List Fr} {fs : List Frame} {st st' : St} {x : Cx} {ac : Act} (h : canon a stk st = some st') (hR : SR x w0 fz0 nt st ac w) (hF : FrsR C f0 x stk fs f) :
    ∃ x', SR x' w0 fz0 nt st' ac w ∧ FrsR C f0 x' stk fs f := by
  unfold canon at h
  split at h
  · cases h
  · rename_i bs hbs
    simp only at h
    split at h
    · cases h
    · rename_i hfit
      split at h
      · cases h
      · rename_i vs hl n hcan
        split at h
        · cases h
        · rename_i hs hreb
          split at h
          · rename_i hnd
            simp only [Option.some.injEq] at h; subst h
            have hnd := nodupB_nodup hnd
            obtain ⟨hfit, _⟩ := fitB_fits _ _ hfit
            rw [← hR.H] at hbs hcan hreb
            -- what the slots stand for
            have hlive : RVL x (a.live.map fun p => get st.env p.1) (a.live.map fun p => ac.tmps.getD p.1 undef) := by
              generalize a.live = ls
              induction ls with
              | nil => exact .nil
              | cons p ls ih => exact .cons _ _ _ _ (hR.env p.1) ih
            have hbox := boxSlots_RVL hR.hr hbs
            have hslots : RVL x (((a.live.map fun p => (p.2, get st.env p.1)) ++ bs).map (·.2)) ((a.live.map fun p => ac.tmps.getD p.1 undef) ++ boxUs x a.toks x.H) := by
              rw [List.map_append, List.map_map]
              exact RVL.append hlive hbox
            have N0 := blank_next hR.hr hR.hp
            have hbl : Blank (blank x.H) := by
              intro T cs hT c hc
              rw [hget_blank] at hT
              cases hg : hget x.H T with
              | none => simp [hg] at hT
              | some b0 =>
                simp only [hg, Option.map_some, Option.some.injEq] at hT
                cases b0 with
                | box cs0 => simp only [Blk.box.injEq] at hT; subst hT; simp only [List.mem_map] at hc; obtain ⟨_, _, rfl⟩ := hc; rfl
                | arr t l => cases hT
                | fro t l => cases hT
            obtain ⟨x1, N1, k1, k2⟩ := canonL_sound (n0 := w0.heap.size) (w := w) (acc := []) (x := { x with H := blank x.H }) N0.hr N0.hp hbl rfl (RVL.mono N0.ext hslots fun _ _ => trivial) hcan hfit (fun T hT => by cases hT) (by
              rw [List.map_append, List.nodup_append] at hnd; simpa using hnd.1)
            simp only [List.nil_append] at k1
            -- nothing of the tokens outside is laid anew
            have hout : ∀ T, T ∈ a.toks.map (·.1) ++ stkToks stk → T ∉ n.map (·.1) := by
              intro T hT hTn
              obtain ⟨q, hq, t, ht⟩ := canonL_keys hcan T hTn
              have : ∀ (l : List (Shape × AV)), Fits (a.toks.map (·.1) ++ stk.flatMap fun fr => envToks fr.env) l → q ∈ l → T ∉ a.toks.map (·.1) ++ stk.flatMap fun fr => envToks fr.env := by
                intro l
                induction l with
                | nil => intro _ h; cases h
                | cons p l ih =>
                  intro hf hq
                  obtain ⟨f1, f2, f3⟩ := hf
                  rcases List.mem_cons.1 hq with rfl | hq
                  · exact (f1 T t ht).1
                  · exact ih f3 hq
              exact this _ hfit hq hT
            have hp1 : x1.hp = x.hp := by rw [N1.hp, hR.hp]
            have hmb : ∀ p ∈ a.toks, ∀ cs, hget x.H p.1 = some (.box cs) → x1.m p.1 = x.m p.1 ∧ ∃ cs', hget x1.H p.1 = some (.box cs') := by
              intro p hp cs hg
              have hpn : p.1 ∉ n.map (·.1) := hout p.1 (List.mem_append.2 (.inl (List.mem_map_of_mem hp)))
              have h1 : hget (blank x.H) p.1 = some (.box (cs.map fun _ => .undef)) := by rw [hget_blank, hg]; rfl
              have h2 := canonL_box hcan h1
              have h3 : hget x1.H p.1 = some (.box (cs.map fun _ => .undef)) := by rw [k1, hget_append, hget_none hpn]; exact h2
              obtain ⟨_, _, h4⟩ := N1.ext.box p.1 hpn _ h3
              exact ⟨h4, _, h3⟩
            have hlen : (a.live.map fun p => ac.tmps.getD p.1 undef).length = a.live.length := by simp
            have kv1 := RVL.take a.live.length k2
            rw [List.take_left' hlen] at kv1
            have kv2 := RVL.drop a.live.length k2
            rw [List.drop_left' hlen] at kv2
            have N2 := retell N1.hr N1.hp (H' := n ++ hs) (fun T b hT => by
              rw [hget_append] at hT
              rw [k1, hget_append]
              cases hn : hget n T with
              | some b' => rw [hn] at hT; exact .inl hT
              | none =>
                rw [hn] at hT
                rcases rebuild_sound (x1 := x1) hR.hr hp1 hbs (fun p hp cs hg => (hmb p hp cs hg).1) kv2 hreb T b hT with ⟨h1, _⟩ | ⟨cs, cs0, B, c, e, fr, h1, h2, h3, h4, h5⟩
                · exact .inl h1
                · have hTk : T ∈ a.toks.map (·.1) := by
                    have := hget_mem hT
                    exact rebuild_keys hreb T this
                  obtain ⟨p, hp, rfl⟩ := List.mem_map.1 hTk
                  obtain ⟨_, cs', h6⟩ := hmb p hp cs0 h2
                  rw [k1, hget_append, hn] at h6
                  exact .inr ⟨cs', cs, B, c, e, fr, h1, h6, h3, h4, h5⟩)
            have N : NxS x { x1 with H := n ++ hs } w0.heap.size (fun u => u ∉ n.map (·.1)) w w := ((N0.weaken fun _ _ => trivial).trans N1).trans (N2.weaken fun _ _ => trivial)
            refine ⟨{ x1 with H := n ++ hs }, ⟨N.hp, rfl, fun t => ?_, hR.size, hR.defers, N.hr, fun b hb => (N.fz b hb).elim (hR.fz b) .inr, hR.bel⟩, hF.mono N.ext fun T hT => hout T (List.mem_append.2 (.inr hT))⟩
            have hz := RVL_zip (x := x1) (fun u => ac.tmps.getD u undef) (ls := a.live.map (·.1)) (vs := vs.take a.live.length) (by rw [List.map_map]; exact kv1) t
            exact RV.mono N2.ext hz fun _ _ => trivial
          · cases h

end
end Go.Proofs.YtcdcijhfjiahkaaDoorR.K
