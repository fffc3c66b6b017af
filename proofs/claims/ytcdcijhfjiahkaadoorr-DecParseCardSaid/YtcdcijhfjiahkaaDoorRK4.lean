/- The abstract machine: its operations that make or turn memory, shown against the model's. -/
import Derived.Test.YtcdcijhfjiahkaaDoorRK3
set_option linter.unusedVariables false
set_option linter.unusedSimpArgs false
namespace Go.Proofs.YtcdcijhfjiahkaaDoorR.K
open Go
open Go.RowKit (Below)

section
variable {P : Program} {C : Ctx} (hT : CtxTI P C) {x : Cx} {n0 tok : Nat} (hr : HR x n0) {w : World} (hp : x.hp = w.heap)

theorem NxS.trans {x y z : Cx} {n0 : Nat} {S : Nat → Prop} {a b c : World} (h : NxS x y n0 S a b) (k : NxS y z n0 S b c) : NxS x z n0 S a c :=
  ⟨h.ext.trans k.ext, k.hr, fun b hb => (k.fz b hb).elim (h.fz b) .inr, h.bel.trans k.bel, k.hp⟩

/-! ### nothing is turned any more of these tokens' memory -/
def frzCx (x : Cx) (ts : List Nat) : Cx :=
  { x with fz := fun b => x.fz b ∨ ∃ T ∈ ts, (∃ t l, hget x.H T = some (.arr t l)) ∧ ∃ o, x.m T = some (b, o), H := freeze ts x.H }

theorem frz_ext (x : Cx) (ts : List Nat) (S : Nat → Prop) : Ext x (frzCx x ts) S :=
  ⟨fun b h => ⟨.inl h, rfl⟩, .refl _, fun T _ t l h => ⟨l, AF_freeze h, rfl, rfl⟩, fun T _ cs h => ⟨cs, box_freeze h, rfl⟩⟩

include hr in
theorem frz_hr (ts : List Nat) : HR (frzCx x ts) n0 := by
  have hdeep : ∀ (t : Ty) (y : den t) vs, DeepC x.hp x.fz t y vs → DeepC (frzCx x ts).hp (frzCx x ts).fz t y vs :=
    fun t y vs h => DeepC.mono (fun b hb => ⟨.inl hb, rfl⟩) t y vs h
  refine ⟨fun T b hb => ?_, fun t1 t2 b h1 h2 => ?_, fun b hb => ?_⟩
  · simp only [frzCx] at hb
    rw [hget_freeze] at hb
    cases hg : hget x.H T with
    | none => simp [hg] at hb
    | some b0 =>
      simp only [hg, Option.map_some, Option.some.injEq] at hb
      have hb0 := hr.blk T b0 hg
      cases b0 with
      | arr t l =>
        cases he : ts.elem T with
        | true =>
          simp only [frz, he] at hb
          subst hb
          rcases hb0 with h | ⟨b, o, c, e, fr, h1, h2, h3, h4, h5, h6, h7⟩
          · exact .inl h
          · refine .inr ⟨b, o, c, e, fr, h1, h2, .inr ⟨T, by simpa using he, ⟨t, l, hg⟩, o, h1⟩, h6, fun i hi => hdeep _ _ _ (h7 i hi)⟩
        | false =>
          simp only [frz, he] at hb
          subst hb
          rcases hb0 with h | ⟨b, o, c, e, fr, h1, h2, h3, h4, h5, h6, h7⟩
          · exact .inl h
          · refine .inr ⟨b, o, c, e, fr, h1, h2, h3, ?_, h5, h6, fun i hi => hdeep _ _ _ (h7 i hi)⟩
            rintro (h | ⟨T', hT', ⟨t', l', hl'⟩, o', ho'⟩)
            · exact h4 h
            · have := hr.inj T T' b ⟨⟨o, h1⟩, .inl ⟨t, l, hg⟩⟩ ⟨⟨o', ho'⟩, .inl ⟨t', l', hl'⟩⟩
              subst this
              simp [List.elem_eq_mem, hT'] at he
      | fro t l =>
        simp only [frz] at hb
        subst hb
        rcases hb0 with h | ⟨b, o, c, e, fr, h1, h2, h3, h4, h5⟩
        · exact .inl h
        · exact .inr ⟨b, o, c, e, fr, h1, h2, .inl h3, h4, fun i hi => hdeep _ _ _ (h5 i hi)⟩
      | box cs =>
        simp only [frz] at hb
        subst hb
        obtain ⟨b, c, e, fr, h1, h2, h3, h4, h5, h6, h7⟩ := hb0
        refine ⟨b, c, e, fr, h1, h2, h3, ?_, h5, h6, RVL.mono (frz_ext x ts fun _ => True) h7 fun _ _ => trivial⟩
        rintro (h | ⟨T', hT', ⟨t', l', hl'⟩, o', ho'⟩)
        · exact h4 h
        · have := hr.inj T T' b ⟨⟨0, h1⟩, .inr ⟨cs, hg⟩⟩ ⟨⟨o', ho'⟩, .inl ⟨t', l', hl'⟩⟩
          subst this
          rw [hg] at hl'; simp at hl'
  · have back : ∀ T b, Owns (frzCx x ts) T b → Owns x T b := by
      rintro T b ⟨ho, h⟩
      refine ⟨ho, ?_⟩
      rcases h with ⟨t, l, h⟩ | ⟨cs, h⟩
      · left
        simp only [frzCx] at h
        rw [hget_freeze] at h
        cases hg : hget x.H T with
        | none => simp [hg] at h
        | some b0 =>
          cases b0 with
          | arr t' l' => exact ⟨t', l', rfl⟩
          | fro t' l' => simp [hg, frz] at h
          | box cs => simp [hg, frz] at h
      · exact .inr ⟨cs, box_freeze h⟩
    exact hr.inj t1 t2 b (back t1 b h1) (back t2 b h2)
  · rcases hb with h | ⟨T, _, ⟨t, l, hl⟩, o, ho⟩
    · exact hr.size b h
    · rcases hr.blk T _ hl with ⟨_, h⟩ | ⟨b', o', c, e, fr, h1, h2, _⟩
      · rw [ho] at h; simp at h
      · rw [ho] at h1; simp only [Option.some.injEq, Prod.mk.injEq] at h1
        rw [h1.1]
        exact (Array.getElem?_eq_some_iff.1 h2).1

include hr hp in
theorem frz_next (ts : List Nat) : Nx x (frzCx x ts) n0 tok w w := by
  refine ⟨frz_ext x ts _, frz_hr hr ts, fun b hb => ?_, .refl _ _, hp⟩
  rcases hb with h | ⟨T, _, ⟨t, l, hl⟩, o, ho⟩
  · exact .inl h
  · rcases hr.blk T _ hl with ⟨_, h⟩ | ⟨b', o', c, e, fr, h1, h2, h3, _⟩
    · rw [ho] at h; simp at h
    · rw [ho] at h1; simp only [Option.some.injEq, Prod.mk.injEq] at h1
      right; rw [h1.1]; exact h3

include hr in
theorem frz_shows (ts : List Nat) : Shows x (frzCx x ts).fz ts := by
  intro T hT t l ha b o hm
  rcases ha with ha | ha
  · exact .inr ⟨T, hT, ⟨t, l, ha⟩, o, hm⟩
  · rcases hr.blk T _ ha with ⟨_, h⟩ | ⟨b', o', c, e, fr, h1, h2, h3, _⟩
    · rw [hm] at h; simp at h
    · rw [hm] at h1; simp only [Option.some.injEq, Prod.mk.injEq] at h1
      left; rw [h1.1]; exact h3

theorem heapToks_freeze (ts : List Nat) (h : Heap) : heapToks (freeze ts h) = heapToks h := by
  induction h with
  | nil => rfl
  | cons p h ih =>
    obtain ⟨u, b⟩ := p
    simp only [heapToks, freeze, List.flatMap_cons] at *
    rw [ih]
    congr 1
    cases b with
    | arr t l => cases List.elem u ts <;> rfl
    | fro => rfl
    | box => rfl

/-! ### a new block -/
def newCx (x : Cx) (hp' : Array Obj) (tok : Nat) (loc : Option (Nat × Nat)) (b : Blk) : Cx :=
  { x with hp := hp', m := fun T => if T = tok then loc else x.m T, H := hput x.H tok b }

def InB (tok T : Nat) : Prop := tok ≤ T ∧ T < tok + 16

theorem fresh_hget {H : Heap} (hf : ∀ T ∈ heapToks H, ¬ InB tok T) : hget H tok = none := by
  cases h : hget H tok with
  | none => rfl
  | some b => exact absurd ⟨Nat.le_refl _, by omega⟩ (hf tok (toks_hget H tok b h).1)

/-- Blocks are added at the end; those that were there stand. -/
def Grew (hp hp' : Array Obj) : Prop := hp.size ≤ hp'.size ∧ ∀ b, b < hp.size → hp'[b]? = hp[b]?

theorem Grew.refl (hp : Array Obj) : Grew hp hp := ⟨Nat.le_refl _, fun _ _ => rfl⟩

theorem lt_size {hp : Array Obj} {b : Nat} {o : Obj} (h : hp[b]? = some o) : b < hp.size := (Array.getElem?_eq_some_iff.1 h).1

theorem Grew.at {hp hp' : Array Obj} (h : Grew hp hp') {b : Nat} {o : Obj} (k : hp[b]? = some o) : hp'[b]? = some o := by rw [h.2 b (lt_size k)]; exact k

theorem Grew.sizes {hp hp' : Array Obj} (h : Grew hp hp') : SameSizes hp hp' := fun b c e fr k => ⟨c, e, fr, h.at k, rfl⟩

theorem push_grew (hp : Array Obj) (o : Obj) : Grew hp (hp.push o) := ⟨by simp, fun b h => by rw [Array.getElem?_push, if_neg (by omega)]⟩

include hr in
theorem new_extS {hp' : Array Obj} (hg : Grew x.hp hp') (loc : Option (Nat × Nat)) (b : Blk) : Ext x (newCx x hp' tok loc b) (fun T => T ≠ tok) := by
  have ne : ∀ T, T ≠ tok → T ≠ tok := fun T h => h
  refine ⟨fun b h => ⟨h, hg.2 b (hr.size b h)⟩, hg.sizes, fun T hT t l h => ?_, fun T hT cs h => ?_⟩
  · have hn := ne T hT
    simp only [newCx, AF, hget_hput, if_neg hn] at h
    exact ⟨l, h, rfl, by simp [newCx, hn]⟩
  · have hn := ne T hT
    simp only [newCx, hget_hput, if_neg hn] at h
    exact ⟨cs, h, by simp [newCx, hn]⟩

theorem inB_ne {tok T : Nat} (h : ¬ InB tok T) : T ≠ tok := fun e => h (by subst e; exact ⟨Nat.le_refl _, by omega⟩)

include hr in
theorem new_ext {hp' : Array Obj} (hg : Grew x.hp hp') (loc : Option (Nat × Nat)) (b : Blk) : Ext x (newCx x hp' tok loc b) (fun T => ¬ InB tok T) :=
  (new_extS hr hg loc b).weaken fun T h => inB_ne h

/-- A new token, whose memory (if any) is new. -/
theorem new_nextS (hr : HR x n0) (hp : x.hp = w.heap) (hf : ∀ T ∈ heapToks x.H, T ≠ tok) {w' : World} (hg : Grew w.heap w'.heap) (hb : Below n0 w w') {loc : Option (Nat × Nat)} {b : Blk}
    (hloc : ∀ B o, loc = some (B, o) → w.heap.size ≤ B) (hbsz : ∀ B, x.fz B → B < w'.heap.size)
    (hblk : BlkR (newCx x w'.heap tok loc b) n0 tok b) : NxS x (newCx x w'.heap tok loc b) n0 (fun T => T ≠ tok) w w' := by
  have hg' : Grew x.hp w'.heap := by rw [hp]; exact hg
  have E := new_extS (tok := tok) hr hg' loc b
  have hdeep : ∀ (t : Ty) (y : den t) vs, DeepC x.hp x.fz t y vs → DeepC w'.heap x.fz t y vs :=
    fun t y vs h => DeepC.mono (fun b hb => ⟨hb, hg'.2 b (hr.size b hb)⟩) t y vs h
  refine ⟨E, ⟨fun T b' hb' => ?_, fun t1 t2 B h1 h2 => ?_, fun B hB => hbsz B hB⟩, fun B h => .inl h, hb, rfl⟩
  · simp only [newCx, hget_hput] at hb'
    split at hb'
    · rename_i hT
      subst hT
      simp only [Option.some.injEq] at hb'; subst hb'
      exact hblk
    · rename_i hT
      have h0 := hr.blk T b' hb'
      obtain ⟨_, hin⟩ := toks_hget _ _ _ hb'
      cases b' with
      | arr t l =>
        rcases h0 with ⟨h1, h2⟩ | ⟨B, o, c, e, fr, h1, h2, h3, h4, h5, h6, h7⟩
        · exact .inl ⟨h1, by simp [newCx, hT, h2]⟩
        · exact .inr ⟨B, o, c, e, fr, by simp [newCx, hT, h1], hg'.at h2, h3, h4, h5, h6, fun i hi => hdeep _ _ _ (h7 i hi)⟩
      | fro t l =>
        rcases h0 with ⟨h1, h2⟩ | ⟨B, o, c, e, fr, h1, h2, h3, h4, h5⟩
        · exact .inl ⟨h1, by simp [newCx, hT, h2]⟩
        · exact .inr ⟨B, o, c, e, fr, by simp [newCx, hT, h1], hg'.at h2, h3, h4, fun i hi => hdeep _ _ _ (h5 i hi)⟩
      | box cs =>
        obtain ⟨B, c, e, fr, h1, h2, h3, h4, h5, h6, h7⟩ := h0
        exact ⟨B, c, e, fr, by simp [newCx, hT, h1], hg'.at h2, h3, h4, h5, h6, RVL.mono E h7 fun T' hT' => hf T' (hin T' hT')⟩
  · have key : ∀ T, Owns (newCx x w'.heap tok loc b) T B → (T = tok ∧ w.heap.size ≤ B) ∨ (T ≠ tok ∧ Owns x T B ∧ B < w.heap.size) := by
      rintro T ⟨⟨o, ho⟩, h⟩
      by_cases hT : T = tok
      · subst hT
        simp [newCx] at ho
        exact .inl ⟨rfl, hloc B o ho⟩
      · simp only [newCx, if_neg hT] at ho
        simp only [newCx, hget_hput, if_neg hT] at h
        have own : Owns x T B := ⟨⟨o, ho⟩, h⟩
        refine .inr ⟨hT, own, ?_⟩
        rw [← hp]
        rcases h with ⟨t, l, h⟩ | ⟨cs, h⟩
        · rcases hr.blk T _ h with ⟨_, h'⟩ | ⟨B', o', c, e, fr, h1, h2, _⟩
          · rw [ho] at h'; simp at h'
          · rw [ho] at h1; simp only [Option.some.injEq, Prod.mk.injEq] at h1
            rw [h1.1]; exact lt_size h2
        · obtain ⟨B', c, e, fr, h1, h2, _⟩ := hr.blk T _ h
          rw [ho] at h1; simp only [Option.some.injEq, Prod.mk.injEq] at h1
          rw [h1.1]; exact lt_size h2
    rcases key t1 h1 with ⟨a1, a2⟩ | ⟨a1, a2, a3⟩ <;> rcases key t2 h2 with ⟨b1, b2⟩ | ⟨b1, b2, b3⟩
    · rw [a1, b1]
    · omega
    · omega
    · exact hr.inj t1 t2 B a2 b2

theorem new_next (hr : HR x n0) (hp : x.hp = w.heap) (hf : ∀ T ∈ heapToks x.H, ¬ InB tok T) {w' : World} (hg : Grew w.heap w'.heap) (hb : Below n0 w w') {loc : Option (Nat × Nat)} {b : Blk}
    (hloc : ∀ B o, loc = some (B, o) → w.heap.size ≤ B) (hbsz : ∀ B, x.fz B → B < w'.heap.size)
    (hblk : BlkR (newCx x w'.heap tok loc b) n0 tok b) : Nx x (newCx x w'.heap tok loc b) n0 tok w w' :=
  (new_nextS hr hp (fun T hT => inB_ne (hf T hT)) hg hb hloc hbsz hblk).weaken fun T h => inB_ne h

theorem unfrozen_zero (c : Array Value) : Unfrozen c (0, 0) := fun o _ h => by simp at h

/-! ### a variable's cells -/
theorem solid_one {av : AV} {v : Value} (h : RV x av v) (hs : solid av = true) : v.oneCell' = true ∧ v.cells = #[v] := by
  cases h with
  | cst v => cases v <;> simp [solid] at hs <;> exact ⟨rfl, rfl⟩
  | undef => simp [solid] at hs
  | agg => simp [solid] at hs
  | tup => simp [solid] at hs
  | _ => exact ⟨rfl, rfl⟩

theorem all_one : ∀ {cs : List AV} {vs : List Value}, RVL x cs vs → cs.all solid = true → ∀ v ∈ vs, v.oneCell' = true
  | _, _, .nil, _, v, h => by cases h
  | _, _, .cons c v cs vs h1 h2, hs, u, hu => by
    simp only [List.all_cons, Bool.and_eq_true] at hs
    rcases List.mem_cons.1 hu with rfl | hu
    · exact (solid_one h1 hs.1).1
    · exact all_one h2 hs.2 u hu

theorem cells_RV {av : AV} {v : Value} {n : Nat} (h : RV x av v) (hf : fits av n = true) :
    RVL x (cells av) v.cells.toList ∧ v.cells.size = n ∧ (cells av).all solid = true ∧ (cells av).length = n := by
  unfold fits at hf
  simp only [Bool.and_eq_true] at hf
  obtain ⟨h1, h2⟩ := hf
  have h1 := Nat.eq_of_beq_eq_true h1
  have one : solid av = true → cells av = [av] → RVL x (cells av) v.cells.toList ∧ v.cells.size = n ∧ (cells av).all solid = true ∧ (cells av).length = n := by
    intro hs hc
    rw [hc] at h1 h2 ⊢
    rw [(solid_one h hs).2]
    exact ⟨.cons _ _ _ _ h .nil, by simpa using h1, h2, h1⟩
  cases av with
  | agg cs =>
    cases h with
    | agg _ vs h =>
    simp only [cells] at h1 h2 ⊢
    have := h.length
    exact ⟨by simpa [Value.cells] using h, by simp [Value.cells]; omega, h2, h1⟩
  | _ => exact one (by simpa [cells] using h2) rfl

theorem toks_cells (av : AV) : ∀ T ∈ toksL (cells av), T ∈ toks av := by
  intro T hT
  cases av with
  | agg cs => simpa [cells, toks] using hT
  | _ => simpa [cells, toksL] using hT

theorem below_push (hn : n0 ≤ w.heap.size) {w' : World} (h1 : w'.os = w.os) (h2 : w'.tape = w.tape) (h3 : w'.output = w.output) (hg : Grew w.heap w'.heap) : Below n0 w w' :=
  ⟨h1, h2, h3, hg.1, fun k hk => hg.2 k (by omega)⟩

include hr hp in
theorem box_next (hn : n0 ≤ w.heap.size) (hf : ∀ T ∈ heapToks x.H, ¬ InB tok T) {cs : List AV} {c : Array Value} (e : TypeId) (h : RVL x cs c.toList) (hs : cs.all solid = true)
    (hcs : ∀ T ∈ toksL cs, ¬ InB tok T) :
    Nx x (newCx x (w.heap.push (Obj.cells c e)) tok (some (w.heap.size, 0)) (.box cs)) n0 tok w { w with heap := w.heap.push (Obj.cells c e) } := by
  have hg := push_grew w.heap (Obj.cells c e)
  have hg' : Grew x.hp (w.heap.push (Obj.cells c e)) := by rw [hp]; exact hg
  refine new_next (w' := { w with heap := w.heap.push (Obj.cells c e) }) hr hp hf hg (below_push hn rfl rfl rfl hg) (fun B o h => by simp at h; omega)
    (fun B hB => Nat.lt_of_lt_of_le (hr.size B hB) (by rw [hp]; simp)) ?_
  refine ⟨w.heap.size, c, e, (0, 0), by simp [newCx], by simp [newCx], hn, ?_, unfrozen_zero _, trivial, RVL.mono (new_ext (tok := tok) hr hg' _ _) h hcs⟩
  intro hfz
  have := hr.size _ hfz
  rw [hp] at this; omega

include hT hr hp in
theorem alloc_sound (hn : n0 ≤ w.heap.size) (hf : ∀ T ∈ heapToks x.H, ¬ InB tok T) {t : Nat} {ti : TI} (hti : C.ti t = some ti) :
    OkV P x n0 tok w (Instr.alloc t true (.tuple #[])) (.v (.ptr tok 0) (hput x.H tok (.box ti.zero))) := fun _ => by
  have ok := hT _ _ hti
  obtain ⟨i, z, hi, hs, hb, hz, hzc⟩ := ok.infos
  have hrun : (Instr.alloc t true (.tuple #[])).run P w = .ok (.pointer (some ⟨w.heap.size, 0, none⟩)) { w with heap := w.heap.push (Obj.cells z.cells t) } := by
    simp [Instr.alloc, zeroValue, typeInfo, hi, hz, newVar, newRow]
  have hrv : RVL x ti.zero z.cells.toList := by
    rw [← hzc]
    have : ∀ l : List Value, RVL x (l.map avOf) l := by
      intro l; induction l with
      | nil => exact .nil
      | cons v l ih => exact .cons _ _ _ _ (avOf_RV x v) ih
    exact this _
  have htk : ∀ T ∈ toksL ti.zero, ¬ InB tok T := by
    rw [← hzc]
    have h0 : ∀ v, toks (avOf v) = [] := by
      intro v; unfold avOf; split <;> rfl
    have : ∀ l : List Value, toksL (l.map avOf) = [] := by
      intro l; induction l with
      | nil => rfl
      | cons v l ih => simp [toksL, h0, ih]
    rw [this]; simp
  have := box_next hr hp hn hf (tok := tok) t hrv ok.zs htk
  exact ⟨_, _, _, hrun, rfl, this, .ptr _ _ _ fun cs hc => ⟨w.heap.size, by simp [newCx], rfl⟩⟩

include hr hp in
theorem box_sound (hn : n0 ≤ w.heap.size) (hf : ∀ T ∈ heapToks x.H, ¬ InB tok T) {t : Nat} {ti : TI} {av : AV} {v : Value} (h : RV x av v)
    (hfit : fits av ti.size = true) (htk : ∀ T ∈ toks av, ¬ InB tok T) :
    OkV P x n0 tok w (Instr.box t v) (.v (.ptr tok 0) (hput x.H tok (.box (cells av)))) := fun _ => by
  obtain ⟨h1, h2, h3, h4⟩ := cells_RV h hfit
  have hrun : (Instr.box t v).run P w = .ok (.pointer (some ⟨w.heap.size, 0, none⟩)) { w with heap := w.heap.push (Obj.cells v.cells t) } := by
    simp [Instr.box, newVar, newRow]
  have := box_next hr hp hn hf (tok := tok) t h1 h3 (fun T hT => htk T (toks_cells av T hT))
  exact ⟨_, _, _, hrun, rfl, this, .ptr _ _ _ fun cs hc => ⟨w.heap.size, by simp [newCx], rfl⟩⟩

/-! ### cells laid over cells -/
theorem overlay_list : ∀ (l : List Value) (off k : Nat) (c : Array Value), off + k + l.length ≤ c.size →
    ((l.zipIdx k).foldl (fun cs (p : Value × Nat) => cs.setIfInBounds (off + p.2) p.1) c).toList = c.toList.take (off + k) ++ l ++ c.toList.drop (off + k + l.length)
  | [], off, k, c, h => by simp
  | v :: l, off, k, c, h => by
    simp only [List.zipIdx_cons, List.foldl_cons]
    simp only [List.length_cons] at h
    have := overlay_list l off (k + 1) (c.setIfInBounds (off + k) v) (by simp; omega)
    rw [this]
    simp only [Array.toList_setIfInBounds, List.length_cons]
    have hlt : off + k < c.toList.length := by simp; omega
    rw [List.drop_set_of_lt (by omega)]
    have e : (c.toList.set (off + k) v).take (off + (k + 1)) = c.toList.take (off + k) ++ [v] := by
      rw [← Nat.add_assoc, List.take_add_one]
      rw [List.take_set_of_le (Nat.le_refl _)]
      simp at hlt
      simp [List.getElem?_set, hlt]
    rw [e]
    simp [List.append_assoc]
    congr 1
    omega

theorem overlay_arr (v : Array Value) (off : Nat) (c : Array Value) (h : off + v.size ≤ c.size) :
    (v.zipIdx.foldl (fun cs (p : Value × Nat) => cs.setIfInBounds (off + p.2) p.1) c).toList = c.toList.take off ++ v.toList ++ c.toList.drop (off + v.size) := by
  rw [← Array.foldl_toList, Array.toList_zipIdx]
  have := overlay_list v.toList off 0 c (by simpa using h)
  simpa using this

theorem setCells_RVL {cs new : List AV} {vs us : List Value} (h : RVL x cs vs) (k : RVL x new us) (off : Nat) :
    RVL x (setCells cs off new) (vs.take off ++ us ++ vs.drop (off + us.length)) := by
  unfold setCells
  rw [k.length]
  exact ((h.take off).append k).append (h.drop _)

/-- One step of the model's 'fill'. -/
theorem fill_step {place : Nat → Option (Nat × Nat)} {c : Array Value} {i off sz : Nat} {v : Value} {rest : List (Nat × Value)} (hpl : place i = some (off, sz)) (hv : v.cells.size = sz)
    (hle : off + sz ≤ c.size) : ∃ c', Instr.fill place c ((i, v) :: rest) = Instr.fill place c' rest ∧ c'.toList = c.toList.take off ++ v.cells.toList ++ c.toList.drop (off + v.cells.size) := by
  refine ⟨_, ?_, overlay_arr v.cells off c (by omega)⟩
  simp only [Instr.fill, hpl]
  rw [if_neg (by simp; omega)]

theorem all_solid_set {cs new : List AV} (h : cs.all solid = true) (k : new.all solid = true) (off : Nat) : (setCells cs off new).all solid = true := by
  unfold setCells
  simp only [List.all_append, Bool.and_eq_true]
  exact ⟨⟨List.all_eq_true.2 fun v hv => List.all_eq_true.1 h v (List.mem_of_mem_take hv), k⟩, List.all_eq_true.2 fun v hv => List.all_eq_true.1 h v (List.mem_of_mem_drop hv)⟩

theorem setCells_length {cs new : List AV} {off : Nat} (h : off + new.length ≤ cs.length) : (setCells cs off new).length = cs.length := by
  unfold setCells; simp; omega

theorem fillCells_sound {t : Nat} {ti : TI} (ok : TIok P t ti) {places : Array (Nat × Nat)} (hpl : ∀ f o n ag, fieldOf ti f = some (o, n, ag) → places[f]? = some (o, n)) :
    ∀ {ps : List (Nat × AV)} {qs : List (Nat × Value)} {cs cs' : List AV} {c : Array Value}, ps.map (·.1) = qs.map (·.1) → RVL x (ps.map (·.2)) (qs.map (·.2)) → RVL x cs c.toList →
      fillCells ti ps cs = some cs' → ∃ c', Instr.fill (places[·]?) c qs = some c' ∧ RVL x cs' c'.toList
  | [], [], cs, cs', c, _, _, h, hf => by
    simp only [fillCells, Option.some.injEq] at hf; subst hf
    exact ⟨c, rfl, h⟩
  | [], _ :: _, _, _, _, hm, _, _, _ => by simp at hm
  | _ :: _, [], _, _, _, hm, _, _, _ => by simp at hm
  | (f, av) :: ps, (f', v) :: qs, cs, cs', c, hm, hv, h, hf => by
    simp only [List.map_cons, List.cons.injEq] at hm
    obtain ⟨rfl, hm⟩ := hm
    simp only [List.map_cons] at hv
    cases hv with
    | cons _ _ _ _ hv1 hv2 =>
    simp only [fillCells] at hf
    split at hf
    · rename_i o n ag hfo
      split at hf
      · rename_i hfit hle
        have hle := Nat.le_of_ble_eq_true hle
        obtain ⟨k1, k2, k3, k4⟩ := cells_RV hv1 hfit
        have hlen := h.length
        obtain ⟨c1, e1, e2⟩ := fill_step (place := (places[·]?)) (c := c) (rest := qs) (hpl f o n ag hfo) k2 (by simp at hlen; omega)
        have h1 : RVL x (setCells cs o (cells av)) c1.toList := by
          rw [e2]
          have := setCells_RVL h k1 o
          simpa using this
        obtain ⟨c', e3, h3⟩ := fillCells_sound ok hpl hm hv2 h1 hf
        exact ⟨c', by rw [e1]; exact e3, h3⟩
      · simp at hf
    · simp at hf

theorem parts_ev {e : Env} {a : Act} (h : ∀ t, RV x (get e t) (a.tmps.getD t undef)) : ∀ l : List (Nat × Operand),
    (l.map fun p => (p.1, ev e p.2)).map (·.1) = (l.map fun p => (p.1, a.eval p.2)).map (·.1) ∧ RVL x ((l.map fun p => (p.1, ev e p.2)).map (·.2)) ((l.map fun p => (p.1, a.eval p.2)).map (·.2))
  | [] => ⟨rfl, .nil⟩
  | p :: l => by
    obtain ⟨h1, h2⟩ := parts_ev h l
    exact ⟨by simp only [List.map_cons, h1], .cons _ _ _ _ (ev_RV h _) h2⟩

include hT hr hp in
theorem build_sound {t : Nat} {ti : TI} (hti : C.ti t = some ti) {e : Env} {a : Act} (henv : ∀ t, RV x (get e t) (a.tmps.getD t undef)) (ps : Array (Nat × Operand)) {fs : List (Nat × Nat)} (hsh : ti.sh = .st fs)
    {cs : List AV} (hf : fillCells ti (ps.toList.map fun p => (p.1, ev e p.2)) ti.zero = some cs) :
    OkV P x n0 tok w (Instr.build t (ps.map fun (i, o) => (i, a.eval o))) (.v (.agg cs) x.H) := by
  have ok := hT _ _ hti
  obtain ⟨i, z, hi, hs, hb, hz, hzc⟩ := ok.infos
  obtain ⟨fields, hfields⟩ := ok.struct hsh
  have hzr : RVL x ti.zero z.cells.toList := by
    rw [← hzc]
    have : ∀ l : List Value, RVL x (l.map avOf) l := by
      intro l; induction l with
      | nil => exact .nil
      | cons v l ih => exact .cons _ _ _ _ (avOf_RV x v) ih
    exact this _
  -- the places of the fields
  have hpls : ∃ places : Array (Nat × Nat), (fields.mapM fun f => (do pure (f.offset, ← Go.sizeOf f.type) : Sem (Nat × Nat))).run P w = .ok places w ∧ (∀ f o n ag, fieldOf ti f = some (o, n, ag) → places[f]? = some (o, n)) := by
    have hfl := ok.fl
    have hfs := ok.fls
    have hall : ∀ fd ∈ fields.toList, ∃ n, (Go.sizeOf fd.type).run P w = .ok n w ∧ n = ((P.info? fd.type).map (·.size)).getD 0 := by
      intro fd hfd
      have hmem : (fd.offset, (match P.underlying fd.type with
        | some _ => ((P.info? fd.type).map (·.size)).getD 0
        | none => 0), aggD (P.underlying fd.type)) ∈ ti.fl := by
        rw [← hfl]; simp only [flOf, hfields]
        exact List.mem_map.2 ⟨fd, hfd, rfl⟩
      have hne := List.all_eq_true.1 hfs _ hmem
      cases hi' : P.info? fd.type with
      | none =>
        exfalso
        simp only [hi'] at hne
        cases hu : P.underlying fd.type <;> simp [hu] at hne
      | some i => exact ⟨i.size, by simp [Go.sizeOf, typeInfo, hi'], by simp⟩
    have hrun : ∀ (l : List Field), (∀ fd ∈ l, ∃ n, (Go.sizeOf fd.type).run P w = .ok n w ∧ n = ((P.info? fd.type).map (·.size)).getD 0) →
        (l.mapM fun f => (do pure (f.offset, ← Go.sizeOf f.type) : Sem (Nat × Nat))).run P w = .ok (l.map fun f => (f.offset, ((P.info? f.type).map (·.size)).getD 0)) w := by
      intro l
      induction l with
      | nil => intro _; simp
      | cons fd l ih =>
        intro h
        obtain ⟨n, h1, h2⟩ := h fd (by simp)
        have := ih fun fd' h' => h fd' (by simp [h'])
        simp only [List.mapM_cons, Sem.run_bind, h1, Result.andThen_ok, Sem.run_pure, this, h2, List.map_cons]
    refine ⟨(fields.toList.map fun f => (f.offset, ((P.info? f.type).map (·.size)).getD 0)).toArray, ?_, ?_⟩
    · rw [Array.mapM_eq_mapM_toList, Sem.run_map, hrun fields.toList hall]
      rfl
    · intro f o n ag hfo
      obtain ⟨fields', fd, g1, g2, g3, g4, g5, g6, g7⟩ := ok.field hfo
      rw [hfields] at g1
      simp only [Option.some.injEq, TypeDesc.struct.injEq] at g1; subst g1
      simp [g2, g3, g4]
  obtain ⟨places, hp1, hp2⟩ := hpls
  obtain ⟨m1, m2⟩ := parts_ev henv ps.toList
  obtain ⟨c', hfill, hrv⟩ := fillCells_sound ok hp2 m1 m2 hzr hf
  refine .v hr hp ⟨.agg c', ?_, ?_⟩
  · have e1 : (ps.map fun (i, o) => (i, a.eval o)).toList = ps.toList.map fun p => (p.1, a.eval p.2) := by simp
    have hp1' : (fields.mapM fun f => Prod.mk f.offset <$> Go.sizeOf f.type).run P w = .ok places w := by simpa using hp1
    have hfill' : Instr.fill (fun i => places[i]?) z.cells (ps.toList.map fun p => (p.1, a.eval p.2)) = some c' := hfill
    simp [Instr.build, zeroValue, typeInfo, hi, hz, run_underlying hfields, hp1', hfill']
  · have := RV.agg (x := x) cs c'.toList hrv
    simpa using this

end
end Go.Proofs.YtcdcijhfjiahkaaDoorR.K
