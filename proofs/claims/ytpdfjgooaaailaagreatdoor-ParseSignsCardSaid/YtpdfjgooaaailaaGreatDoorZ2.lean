/- Part 2 of the proof: the machine, the tables and the pure laws that the last text joins. -/
import Derived.Test.YtpdfjgooaaailaaGreatDoorZ1
set_option linter.unusedVariables false
set_option linter.unusedSimpArgs false
namespace Go.Proofs.YtpdfjgooaaailaaGreatDoor.K
open Go
open Go.RowKit (Below)
section
variable {P : Program} {C : Ctx} (hT : CtxTI P C) {x : Cx} {n0 : Nat → Prop} {tok : Nat} (hr : HR x n0) {w : World} (hp : x.hp = w.heap)
theorem NxS.trans {x y z : Cx} {n0 : Nat → Prop} {S : Nat → Prop} {a b c : World} (h : NxS x y n0 S a b) (k : NxS y z n0 S b c) : NxS x z n0 S a c :=
  ⟨h.ext.trans k.ext, k.hr, fun b hb => (k.fz b hb).elim (h.fz b) .inr, h.bel.trans k.bel, k.hp⟩
def frzCx (x : Cx) (ts : List Nat) : Cx :=
  { x with fz := fun b => x.fz b ∨ ∃ T ∈ ts, (∃ t l, hget x.H T = some (.arr t l)) ∧ ∃ o, x.m T = some (b, o), H := freeze ts x.H }
theorem frz_ext (x : Cx) (ts : List Nat) (S : Nat → Prop) : Ext x (frzCx x ts) S :=
  ⟨fun b h => ⟨.inl h, rfl⟩, .refl _, fun T _ t l h => ⟨l, AF_freeze h, rfl, rfl⟩, fun T _ cs h => ⟨cs, box_freeze h, rfl⟩, fun _ => rfl⟩
include hr in
theorem frz_hr (ts : List Nat) : HR (frzCx x ts) n0 := by
  have hdeep : ∀ (t : Ty) (y : den t) vs, DeepC x.hp x.fz t y vs → DeepC (frzCx x ts).hp (frzCx x ts).fz t y vs :=
    fun t y vs h => DeepC.mono (fun b hb => ⟨.inl hb, rfl⟩) t y vs h
  refine ⟨fun T b hb => ?_, fun t1 t2 b h1 h2 => ?_, fun b hb => ?_⟩
  · simp only [frzCx] at hb
    rw [hget_freeze] at hb
    cases hg : hget x.H T with
    | none => simp [hg] at hb
    | some b0 =>
      simp only [hg, Option.map_some, Option.some.injEq] at hb
      have hb0 := hr.blk T b0 hg
      cases b0 with
      | arr t l =>
        cases he : ts.elem T with
        | true =>
          simp only [frz, he] at hb
          subst hb
          rcases hb0 with h | ⟨b, o, c, e, fr, h1, h2, h3, h4, h5, h6, h7⟩
          · exact .inl h
          · refine .inr ⟨b, o, c, e, fr, h1, h2, .inr ⟨T, by simpa using he, ⟨t, l, hg⟩, o, h1⟩, h6, fun i hi => hdeep _ _ _ (h7 i hi)⟩
        | false =>
          simp only [frz, he] at hb
          subst hb
          rcases hb0 with h | ⟨b, o, c, e, fr, h1, h2, h3, h4, h5, h6, h7⟩
          · exact .inl h
          · refine .inr ⟨b, o, c, e, fr, h1, h2, h3, ?_, h5, h6, fun i hi => hdeep _ _ _ (h7 i hi)⟩
            rintro (h | ⟨T', hT', ⟨t', l', hl'⟩, o', ho'⟩)
            · exact h4 h
            · have := hr.inj T T' b ⟨⟨o, h1⟩, .inl ⟨t, l, hg⟩⟩ ⟨⟨o', ho'⟩, .inl ⟨t', l', hl'⟩⟩
              subst this
              simp [List.elem_eq_mem, hT'] at he
      | fro t l =>
        simp only [frz] at hb
        subst hb
        rcases hb0 with h | ⟨b, o, c, e, fr, h1, h2, h3, h4, h5⟩
        · exact .inl h
        · exact .inr ⟨b, o, c, e, fr, h1, h2, .inl h3, h4, fun i hi => hdeep _ _ _ (h5 i hi)⟩
      | box cs =>
        simp only [frz] at hb
        subst hb
        obtain ⟨b, c, e, fr, h1, h2, h3, h4, h5, h6, h7⟩ := hb0
        refine ⟨b, c, e, fr, h1, h2, h3, ?_, h5, h6, RVL.mono (frz_ext x ts fun _ => True) h7 fun _ _ => trivial⟩
        rintro (h | ⟨T', hT', ⟨t', l', hl'⟩, o', ho'⟩)
        · exact h4 h
        · have := hr.inj T T' b ⟨⟨0, h1⟩, .inr ⟨cs, hg⟩⟩ ⟨⟨o', ho'⟩, .inl ⟨t', l', hl'⟩⟩
          subst this
          rw [hg] at hl'; simp at hl'
  · have back : ∀ T b, Owns (frzCx x ts) T b → Owns x T b := by
      rintro T b ⟨ho, h⟩
      refine ⟨ho, ?_⟩
      rcases h with ⟨t, l, h⟩ | ⟨cs, h⟩
      · left
        simp only [frzCx] at h
        rw [hget_freeze] at h
        cases hg : hget x.H T with
        | none => simp [hg] at h
        | some b0 =>
          cases b0 with
          | arr t' l' => exact ⟨t', l', rfl⟩
          | fro t' l' => simp [hg, frz] at h
          | box cs => simp [hg, frz] at h
      · exact .inr ⟨cs, box_freeze h⟩
    exact hr.inj t1 t2 b (back t1 b h1) (back t2 b h2)
  · rcases hb with h | ⟨T, _, ⟨t, l, hl⟩, o, ho⟩
    · exact hr.size b h
    · rcases hr.blk T _ hl with ⟨_, h⟩ | ⟨b', o', c, e, fr, h1, h2, _⟩
      · rw [ho] at h; simp at h
      · rw [ho] at h1; simp only [Option.some.injEq, Prod.mk.injEq] at h1
        rw [h1.1]
        exact (Array.getElem?_eq_some_iff.1 h2).1
include hr hp in
theorem frz_next (ts : List Nat) : Nx x (frzCx x ts) n0 tok w w := by
  refine ⟨frz_ext x ts _, frz_hr hr ts, fun b hb => ?_, .refl _ _, hp⟩
  rcases hb with h | ⟨T, _, ⟨t, l, hl⟩, o, ho⟩
  · exact .inl h
  · rcases hr.blk T _ hl with ⟨_, h⟩ | ⟨b', o', c, e, fr, h1, h2, h3, _⟩
    · rw [ho] at h; simp at h
    · rw [ho] at h1; simp only [Option.some.injEq, Prod.mk.injEq] at h1
      right; rw [h1.1]; exact h3
include hr in
theorem frz_shows (ts : List Nat) : Shows x (frzCx x ts).fz ts := by
  intro T hT t l ha b o hm
  rcases ha with ha | ha
  · exact .inr ⟨T, hT, ⟨t, l, ha⟩, o, hm⟩
  · rcases hr.blk T _ ha with ⟨_, h⟩ | ⟨b', o', c, e, fr, h1, h2, h3, _⟩
    · rw [hm] at h; simp at h
    · rw [hm] at h1; simp only [Option.some.injEq, Prod.mk.injEq] at h1
      left; rw [h1.1]; exact h3
theorem heapToks_freeze (ts : List Nat) (h : Heap) : heapToks (freeze ts h) = heapToks h := by
  induction h with
  | nil => rfl
  | cons p h ih =>
    obtain ⟨u, b⟩ := p
    simp only [heapToks, freeze, List.flatMap_cons] at *
    rw [ih]
    congr 1
    cases b with
    | arr t l => cases List.elem u ts <;> rfl
    | fro => rfl
    | box => rfl
def newCx (x : Cx) (hp' : Array Obj) (tok : Nat) (loc : Option (Nat × Nat)) (b : Blk) : Cx :=
  { x with hp := hp', m := fun T => if T = tok then loc else x.m T, H := hput x.H tok b }
def InB (tok T : Nat) : Prop := tok ≤ T ∧ T < tok + 16
def Grew (hp hp' : Array Obj) : Prop := hp.size ≤ hp'.size ∧ ∀ b, b < hp.size → hp'[b]? = hp[b]?
theorem Grew.refl (hp : Array Obj) : Grew hp hp := ⟨Nat.le_refl _, fun _ _ => rfl⟩
theorem lt_size {hp : Array Obj} {b : Nat} {o : Obj} (h : hp[b]? = some o) : b < hp.size := (Array.getElem?_eq_some_iff.1 h).1
theorem Grew.at {hp hp' : Array Obj} (h : Grew hp hp') {b : Nat} {o : Obj} (k : hp[b]? = some o) : hp'[b]? = some o := by rw [h.2 b (lt_size k)]; exact k
theorem Grew.sizes {hp hp' : Array Obj} (h : Grew hp hp') : SameSizes hp hp' := fun b c e fr k => ⟨c, e, fr, h.at k, rfl⟩
theorem push_grew (hp : Array Obj) (o : Obj) : Grew hp (hp.push o) := ⟨by simp, fun b h => by rw [Array.getElem?_push, if_neg (by omega)]⟩
include hr in
theorem new_extS {hp' : Array Obj} (hg : Grew x.hp hp') (loc : Option (Nat × Nat)) (b : Blk) : Ext x (newCx x hp' tok loc b) (fun T => T ≠ tok) := by
  have ne : ∀ T, T ≠ tok → T ≠ tok := fun T h => h
  refine ⟨fun b h => ⟨h, hg.2 b (hr.size b h)⟩, hg.sizes, fun T hT t l h => ?_, fun T hT cs h => ?_, fun _ => rfl⟩
  · have hn := ne T hT
    simp only [newCx, AF, hget_hput, if_neg hn] at h
    exact ⟨l, h, rfl, by simp [newCx, hn]⟩
  · have hn := ne T hT
    simp only [newCx, hget_hput, if_neg hn] at h
    exact ⟨cs, h, by simp [newCx, hn]⟩
theorem inB_ne {tok T : Nat} (h : ¬ InB tok T) : T ≠ tok := fun e => h (by subst e; exact ⟨Nat.le_refl _, by omega⟩)
include hr in
theorem new_ext {hp' : Array Obj} (hg : Grew x.hp hp') (loc : Option (Nat × Nat)) (b : Blk) : Ext x (newCx x hp' tok loc b) (fun T => ¬ InB tok T) :=
  (new_extS hr hg loc b).weaken fun T h => inB_ne h
theorem new_nextS (hr : HR x n0) (hp : x.hp = w.heap) (hf : ∀ T ∈ heapToks x.H, T ≠ tok) {w' : World} (hg : Grew w.heap w'.heap) (hb : Bel n0 w w') {loc : Option (Nat × Nat)} {b : Blk}
    (hloc : ∀ B o, loc = some (B, o) → w.heap.size ≤ B) (hbsz : ∀ B, x.fz B → B < w'.heap.size)
    (hblk : BlkR (newCx x w'.heap tok loc b) n0 tok b) : NxS x (newCx x w'.heap tok loc b) n0 (fun T => T ≠ tok) w w' := by
  have hg' : Grew x.hp w'.heap := by rw [hp]; exact hg
  have E := new_extS (tok := tok) hr hg' loc b
  have hdeep : ∀ (t : Ty) (y : den t) vs, DeepC x.hp x.fz t y vs → DeepC w'.heap x.fz t y vs :=
    fun t y vs h => DeepC.mono (fun b hb => ⟨hb, hg'.2 b (hr.size b hb)⟩) t y vs h
  refine ⟨E, ⟨fun T b' hb' => ?_, fun t1 t2 B h1 h2 => ?_, fun B hB => hbsz B hB⟩, fun B h => .inl h, hb, rfl⟩
  · simp only [newCx, hget_hput] at hb'
    split at hb'
    · rename_i hT
      subst hT
      simp only [Option.some.injEq] at hb'; subst hb'
      exact hblk
    · rename_i hT
      have h0 := hr.blk T b' hb'
      obtain ⟨_, hin⟩ := toks_hget _ _ _ hb'
      cases b' with
      | arr t l =>
        rcases h0 with ⟨h1, h2⟩ | ⟨B, o, c, e, fr, h1, h2, h3, h4, h5, h6, h7⟩
        · exact .inl ⟨h1, by simp [newCx, hT, h2]⟩
        · exact .inr ⟨B, o, c, e, fr, by simp [newCx, hT, h1], hg'.at h2, h3, h4, h5, h6, fun i hi => hdeep _ _ _ (h7 i hi)⟩
      | fro t l =>
        rcases h0 with ⟨h1, h2⟩ | ⟨B, o, c, e, fr, h1, h2, h3, h4, h5⟩
        · exact .inl ⟨h1, by simp [newCx, hT, h2]⟩
        · exact .inr ⟨B, o, c, e, fr, by simp [newCx, hT, h1], hg'.at h2, h3, h4, fun i hi => hdeep _ _ _ (h5 i hi)⟩
      | box cs =>
        obtain ⟨B, c, e, fr, h1, h2, h3, h4, h5, h6, h7⟩ := h0
        exact ⟨B, c, e, fr, by simp [newCx, hT, h1], hg'.at h2, h3, h4, h5, h6, RVL.mono E h7 fun T' hT' => hf T' (hin T' hT')⟩
  · have key : ∀ T, Owns (newCx x w'.heap tok loc b) T B → (T = tok ∧ w.heap.size ≤ B) ∨ (T ≠ tok ∧ Owns x T B ∧ B < w.heap.size) := by
      rintro T ⟨⟨o, ho⟩, h⟩
      by_cases hT : T = tok
      · subst hT
        simp [newCx] at ho
        exact .inl ⟨rfl, hloc B o ho⟩
      · simp only [newCx, if_neg hT] at ho
        simp only [newCx, hget_hput, if_neg hT] at h
        have own : Owns x T B := ⟨⟨o, ho⟩, h⟩
        refine .inr ⟨hT, own, ?_⟩
        rw [← hp]
        rcases h with ⟨t, l, h⟩ | ⟨cs, h⟩
        · rcases hr.blk T _ h with ⟨_, h'⟩ | ⟨B', o', c, e, fr, h1, h2, _⟩
          · rw [ho] at h'; simp at h'
          · rw [ho] at h1; simp only [Option.some.injEq, Prod.mk.injEq] at h1
            rw [h1.1]; exact lt_size h2
        · obtain ⟨B', c, e, fr, h1, h2, _⟩ := hr.blk T _ h
          rw [ho] at h1; simp only [Option.some.injEq, Prod.mk.injEq] at h1
          rw [h1.1]; exact lt_size h2
    rcases key t1 h1 with ⟨a1, a2⟩ | ⟨a1, a2, a3⟩ <;> rcases key t2 h2 with ⟨b1, b2⟩ | ⟨b1, b2, b3⟩
    · rw [a1, b1]
    · omega
    · omega
    · exact hr.inj t1 t2 B a2 b2
theorem new_next (hr : HR x n0) (hp : x.hp = w.heap) (hf : ∀ T ∈ heapToks x.H, ¬ InB tok T) {w' : World} (hg : Grew w.heap w'.heap) (hb : Bel n0 w w') {loc : Option (Nat × Nat)} {b : Blk}
    (hloc : ∀ B o, loc = some (B, o) → w.heap.size ≤ B) (hbsz : ∀ B, x.fz B → B < w'.heap.size)
    (hblk : BlkR (newCx x w'.heap tok loc b) n0 tok b) : Nx x (newCx x w'.heap tok loc b) n0 tok w w' :=
  (new_nextS hr hp (fun T hT => inB_ne (hf T hT)) hg hb hloc hbsz hblk).weaken fun T h => inB_ne h
theorem unfrozen_zero (c : Array Value) : Unfrozen c (0, 0) := fun o _ h => by simp at h
theorem solid_one {av : AV} {v : Value} (h : RV x av v) (hs : solid av = true) : v.oneCell' = true ∧ v.cells = #[v] := by
  cases h with
  | cst v => cases v <;> simp [solid] at hs <;> exact ⟨rfl, rfl⟩
  | yld => simp [solid] at hs
  | husk => simp [solid] at hs
  | maybe => simp [solid] at hs
  | undef => simp [solid] at hs
  | agg => simp [solid] at hs
  | tup => simp [solid] at hs
  | _ => exact ⟨rfl, rfl⟩
theorem all_one : ∀ {cs : List AV} {vs : List Value}, RVL x cs vs → cs.all solid = true → ∀ v ∈ vs, v.oneCell' = true
  | _, _, .nil, _, v, h => by cases h
  | _, _, .cons c v cs vs h1 h2, hs, u, hu => by
    simp only [List.all_cons, Bool.and_eq_true] at hs
    rcases List.mem_cons.1 hu with rfl | hu
    · exact (solid_one h1 hs.1).1
    · exact all_one h2 hs.2 u hu
theorem cells_RV {av : AV} {v : Value} {n : Nat} (h : RV x av v) (hf : fits av n = true) :
    RVL x (cells av) v.cells.toList ∧ v.cells.size = n ∧ (cells av).all solid = true ∧ (cells av).length = n := by
  unfold fits at hf
  simp only [Bool.and_eq_true] at hf
  obtain ⟨h1, h2⟩ := hf
  have h1 := Nat.eq_of_beq_eq_true h1
  have one : solid av = true → cells av = [av] → RVL x (cells av) v.cells.toList ∧ v.cells.size = n ∧ (cells av).all solid = true ∧ (cells av).length = n := by
    intro hs hc
    rw [hc] at h1 h2 ⊢
    rw [(solid_one h hs).2]
    exact ⟨.cons _ _ _ _ h .nil, by simpa using h1, h2, h1⟩
  cases av with
  | agg cs =>
    cases h with
    | agg _ vs h =>
    simp only [cells] at h1 h2 ⊢
    have := h.length
    exact ⟨by simpa [Value.cells] using h, by simp [Value.cells]; omega, h2, h1⟩
  | _ => exact one (by simpa [cells] using h2) rfl
theorem toks_cells (av : AV) : ∀ T ∈ toksL (cells av), T ∈ toks av := by
  intro T hT
  cases av with
  | agg cs => simpa [cells, toks] using hT
  | _ => simpa [cells, toksL] using hT
theorem below_push (hn : ∀ k, w.heap.size ≤ k → n0 k) {w' : World} (h1 : w'.os = w.os) (h2 : w'.tape = w.tape) (h3 : w'.output = w.output) (hg : Grew w.heap w'.heap) : Bel n0 w w' :=
  ⟨h1, h2, h3, hg.1, fun k hk => hg.2 k (Nat.lt_of_not_le fun h => hk (hn k h)), hg.sizes⟩
include hr hp in
theorem box_next (hn : ∀ k, w.heap.size ≤ k → n0 k) (hf : ∀ T ∈ heapToks x.H, ¬ InB tok T) {cs : List AV} {c : Array Value} (e : TypeId) (h : RVL x cs c.toList) (hs : cs.all solid = true)
    (hcs : ∀ T ∈ toksL cs, ¬ InB tok T) :
    Nx x (newCx x (w.heap.push (Obj.cells c e)) tok (some (w.heap.size, 0)) (.box cs)) n0 tok w { w with heap := w.heap.push (Obj.cells c e) } := by
  have hg := push_grew w.heap (Obj.cells c e)
  have hg' : Grew x.hp (w.heap.push (Obj.cells c e)) := by rw [hp]; exact hg
  refine new_next (w' := { w with heap := w.heap.push (Obj.cells c e) }) hr hp hf hg (below_push hn rfl rfl rfl hg) (fun B o h => by simp at h; omega)
    (fun B hB => Nat.lt_of_lt_of_le (hr.size B hB) (by rw [hp]; simp)) ?_
  refine ⟨w.heap.size, c, e, (0, 0), by simp [newCx], by simp [newCx], hn _ (Nat.le_refl _), ?_, unfrozen_zero _, trivial, RVL.mono (new_ext (tok := tok) hr hg' _ _) h hcs⟩
  intro hfz
  have := hr.size _ hfz
  rw [hp] at this; omega
include hT hr hp in
theorem alloc_sound (hn : ∀ k, w.heap.size ≤ k → n0 k) (hf : ∀ T ∈ heapToks x.H, ¬ InB tok T) {t : Nat} {ti : TI} (hti : C.ti t = some ti) :
    OkV P x n0 tok w (Instr.alloc t true (.tuple #[])) (.v (.ptr tok 0) (hput x.H tok (.box ti.zero))) := fun _ => by
  have ok := hT _ _ hti
  obtain ⟨i, z, hi, hs, hb, hz, hzc⟩ := ok.infos
  have hrun : (Instr.alloc t true (.tuple #[])).run P w = .ok (.pointer (some ⟨w.heap.size, 0, none⟩)) { w with heap := w.heap.push (Obj.cells z.cells t) } := by
    simp [Instr.alloc, zeroValue, typeInfo, hi, hz, newVar, newRow]
  have hrv : RVL x ti.zero z.cells.toList := by
    rw [← hzc]
    have : ∀ l : List Value, RVL x (l.map avOf) l := by
      intro l; induction l with
      | nil => exact .nil
      | cons v l ih => exact .cons _ _ _ _ (avOf_RV x v) ih
    exact this _
  have htk : ∀ T ∈ toksL ti.zero, ¬ InB tok T := by
    rw [← hzc]
    have h0 : ∀ v, toks (avOf v) = [] := by
      intro v; unfold avOf; split <;> rfl
    have : ∀ l : List Value, toksL (l.map avOf) = [] := by
      intro l; induction l with
      | nil => rfl
      | cons v l ih => simp [toksL, h0, ih]
    rw [this]; simp
  have := box_next hr hp hn hf (tok := tok) t hrv ok.zs htk
  exact ⟨_, _, _, hrun, rfl, this, .ptr _ _ _ fun cs hc => ⟨w.heap.size, by simp [newCx], rfl⟩⟩
include hr hp in
theorem box_sound (hn : ∀ k, w.heap.size ≤ k → n0 k) (hf : ∀ T ∈ heapToks x.H, ¬ InB tok T) {t : Nat} {ti : TI} {av : AV} {v : Value} (h : RV x av v)
    (hfit : fits av ti.size = true) (htk : ∀ T ∈ toks av, ¬ InB tok T) :
    OkV P x n0 tok w (Instr.box t v) (.v (.ptr tok 0) (hput x.H tok (.box (cells av)))) := fun _ => by
  obtain ⟨h1, h2, h3, h4⟩ := cells_RV h hfit
  have hrun : (Instr.box t v).run P w = .ok (.pointer (some ⟨w.heap.size, 0, none⟩)) { w with heap := w.heap.push (Obj.cells v.cells t) } := by
    simp [Instr.box, newVar, newRow]
  have := box_next hr hp hn hf (tok := tok) t h1 h3 (fun T hT => htk T (toks_cells av T hT))
  exact ⟨_, _, _, hrun, rfl, this, .ptr _ _ _ fun cs hc => ⟨w.heap.size, by simp [newCx], rfl⟩⟩
theorem overlay_list : ∀ (l : List Value) (off k : Nat) (c : Array Value), off + k + l.length ≤ c.size →
    ((l.zipIdx k).foldl (fun cs (p : Value × Nat) => cs.setIfInBounds (off + p.2) p.1) c).toList = c.toList.take (off + k) ++ l ++ c.toList.drop (off + k + l.length)
  | [], off, k, c, h => by simp
  | v :: l, off, k, c, h => by
    simp only [List.zipIdx_cons, List.foldl_cons]
    simp only [List.length_cons] at h
    have := overlay_list l off (k + 1) (c.setIfInBounds (off + k) v) (by simp; omega)
    rw [this]
    simp only [Array.toList_setIfInBounds, List.length_cons]
    have hlt : off + k < c.toList.length := by simp; omega
    rw [List.drop_set_of_lt (by omega)]
    have e : (c.toList.set (off + k) v).take (off + (k + 1)) = c.toList.take (off + k) ++ [v] := by
      rw [← Nat.add_assoc, List.take_add_one]
      rw [List.take_set_of_le (Nat.le_refl _)]
      simp at hlt
      simp [List.getElem?_set, hlt]
    rw [e]
    simp [List.append_assoc]
    congr 1
    omega
theorem overlay_arr (v : Array Value) (off : Nat) (c : Array Value) (h : off + v.size ≤ c.size) :
    (v.zipIdx.foldl (fun cs (p : Value × Nat) => cs.setIfInBounds (off + p.2) p.1) c).toList = c.toList.take off ++ v.toList ++ c.toList.drop (off + v.size) := by
  rw [← Array.foldl_toList, Array.toList_zipIdx]
  have := overlay_list v.toList off 0 c (by simpa using h)
  simpa using this
theorem setCells_RVL {cs new : List AV} {vs us : List Value} (h : RVL x cs vs) (k : RVL x new us) (off : Nat) :
    RVL x (setCells cs off new) (vs.take off ++ us ++ vs.drop (off + us.length)) := by
  unfold setCells
  rw [k.length]
  exact ((h.take off).append k).append (h.drop _)
theorem fill_step {place : Nat → Option (Nat × Nat)} {c : Array Value} {i off sz : Nat} {v : Value} {rest : List (Nat × Value)} (hpl : place i = some (off, sz)) (hv : v.cells.size = sz)
    (hle : off + sz ≤ c.size) : ∃ c', Instr.fill place c ((i, v) :: rest) = Instr.fill place c' rest ∧ c'.toList = c.toList.take off ++ v.cells.toList ++ c.toList.drop (off + v.cells.size) := by
  refine ⟨_, ?_, overlay_arr v.cells off c (by omega)⟩
  simp only [Instr.fill, hpl]
  rw [if_neg (by simp; omega)]
theorem fillCells_sound {t : Nat} {ti : TI} (ok : TIok P t ti) {places : Array (Nat × Nat)} (hpl : ∀ f o n ag, fieldOf ti f = some (o, n, ag) → places[f]? = some (o, n)) :
    ∀ {ps : List (Nat × AV)} {qs : List (Nat × Value)} {cs cs' : List AV} {c : Array Value}, ps.map (·.1) = qs.map (·.1) → RVL x (ps.map (·.2)) (qs.map (·.2)) → RVL x cs c.toList →
      fillCells ti ps cs = some cs' → ∃ c', Instr.fill (places[·]?) c qs = some c' ∧ RVL x cs' c'.toList
  | [], [], cs, cs', c, _, _, h, hf => by
    simp only [fillCells, Option.some.injEq] at hf; subst hf
    exact ⟨c, rfl, h⟩
  | [], _ :: _, _, _, _, hm, _, _, _ => by simp at hm
  | _ :: _, [], _, _, _, hm, _, _, _ => by simp at hm
  | (f, av) :: ps, (f', v) :: qs, cs, cs', c, hm, hv, h, hf => by
    simp only [List.map_cons, List.cons.injEq] at hm
    obtain ⟨rfl, hm⟩ := hm
    simp only [List.map_cons] at hv
    cases hv with
    | cons _ _ _ _ hv1 hv2 =>
    simp only [fillCells] at hf
    split at hf
    · rename_i o n ag hfo
      split at hf
      · rename_i hfit hle
        have hle := Nat.le_of_ble_eq_true hle
        obtain ⟨k1, k2, k3, k4⟩ := cells_RV hv1 hfit
        have hlen := h.length
        obtain ⟨c1, e1, e2⟩ := fill_step (place := (places[·]?)) (c := c) (rest := qs) (hpl f o n ag hfo) k2 (by simp at hlen; omega)
        have h1 : RVL x (setCells cs o (cells av)) c1.toList := by
          rw [e2]
          have := setCells_RVL h k1 o
          simpa using this
        obtain ⟨c', e3, h3⟩ := fillCells_sound ok hpl hm hv2 h1 hf
        exact ⟨c', by rw [e1]; exact e3, h3⟩
      · simp at hf
    · simp at hf
theorem parts_ev {e : Env} {a : Act} (h : ∀ t, RV x (get e t) (a.tmps.getD t undef)) : ∀ l : List (Nat × Operand),
    (l.map fun p => (p.1, ev e p.2)).map (·.1) = (l.map fun p => (p.1, a.eval p.2)).map (·.1) ∧ RVL x ((l.map fun p => (p.1, ev e p.2)).map (·.2)) ((l.map fun p => (p.1, a.eval p.2)).map (·.2))
  | [] => ⟨rfl, .nil⟩
  | p :: l => by
    obtain ⟨h1, h2⟩ := parts_ev h l
    exact ⟨by simp only [List.map_cons, h1], .cons _ _ _ _ (ev_RV h _) h2⟩
include hT hr hp in
theorem build_sound {t : Nat} {ti : TI} (hti : C.ti t = some ti) {e : Env} {a : Act} (henv : ∀ t, RV x (get e t) (a.tmps.getD t undef)) (ps : Array (Nat × Operand)) {fs : List (Nat × Nat)} (hsh : ti.sh = .st fs)
    {cs : List AV} (hf : fillCells ti (ps.toList.map fun p => (p.1, ev e p.2)) ti.zero = some cs) :
    OkV P x n0 tok w (Instr.build t (ps.map fun (i, o) => (i, a.eval o))) (.v (.agg cs) x.H) := by
  have ok := hT _ _ hti
  obtain ⟨i, z, hi, hs, hb, hz, hzc⟩ := ok.infos
  obtain ⟨fields, hfields⟩ := ok.struct hsh
  have hzr : RVL x ti.zero z.cells.toList := by
    rw [← hzc]
    have : ∀ l : List Value, RVL x (l.map avOf) l := by
      intro l; induction l with
      | nil => exact .nil
      | cons v l ih => exact .cons _ _ _ _ (avOf_RV x v) ih
    exact this _
  have hpls : ∃ places : Array (Nat × Nat), (fields.mapM fun f => (do pure (f.offset, ← Go.sizeOf f.type) : Sem (Nat × Nat))).run P w = .ok places w ∧ (∀ f o n ag, fieldOf ti f = some (o, n, ag) → places[f]? = some (o, n)) := by
    have hfl := ok.fl
    have hfs := ok.fls
    have hall : ∀ fd ∈ fields.toList, ∃ n, (Go.sizeOf fd.type).run P w = .ok n w ∧ n = ((P.info? fd.type).map (·.size)).getD 0 := by
      intro fd hfd
      have hmem : (fd.offset, (match P.underlying fd.type with
        | some _ => ((P.info? fd.type).map (·.size)).getD 0
        | none => 0), aggD (P.underlying fd.type)) ∈ ti.fl := by
        rw [← hfl]; simp only [flOf, hfields]
        exact List.mem_map.2 ⟨fd, hfd, rfl⟩
      have hne := List.all_eq_true.1 hfs _ hmem
      cases hi' : P.info? fd.type with
      | none =>
        exfalso
        simp only [hi'] at hne
        cases hu : P.underlying fd.type <;> simp [hu] at hne
      | some i => exact ⟨i.size, by simp [Go.sizeOf, typeInfo, hi'], by simp⟩
    have hrun : ∀ (l : List Field), (∀ fd ∈ l, ∃ n, (Go.sizeOf fd.type).run P w = .ok n w ∧ n = ((P.info? fd.type).map (·.size)).getD 0) →
        (l.mapM fun f => (do pure (f.offset, ← Go.sizeOf f.type) : Sem (Nat × Nat))).run P w = .ok (l.map fun f => (f.offset, ((P.info? f.type).map (·.size)).getD 0)) w := by
      intro l
      induction l with
      | nil => intro _; simp
      | cons fd l ih =>
        intro h
        obtain ⟨n, h1, h2⟩ := h fd (by simp)
        have := ih fun fd' h' => h fd' (by simp [h'])
        simp only [List.mapM_cons, Sem.run_bind, h1, Result.andThen_ok, Sem.run_pure, this, h2, List.map_cons]
    refine ⟨(fields.toList.map fun f => (f.offset, ((P.info? f.type).map (·.size)).getD 0)).toArray, ?_, ?_⟩
    · rw [Array.mapM_eq_mapM_toList, Sem.run_map, hrun fields.toList hall]
      rfl
    · intro f o n ag hfo
      obtain ⟨fields', fd, g1, g2, g3, g4, g5, g6, g7⟩ := ok.field hfo
      rw [hfields] at g1
      simp only [Option.some.injEq, TypeDesc.struct.injEq] at g1; subst g1
      simp [g2, g3, g4]
  obtain ⟨places, hp1, hp2⟩ := hpls
  obtain ⟨m1, m2⟩ := parts_ev henv ps.toList
  obtain ⟨c', hfill, hrv⟩ := fillCells_sound ok hp2 m1 m2 hzr hf
  refine .v hr hp ⟨.agg c', ?_, ?_⟩
  · have e1 : (ps.map fun (i, o) => (i, a.eval o)).toList = ps.toList.map fun p => (p.1, a.eval p.2) := by simp
    have hp1' : (fields.mapM fun f => Prod.mk f.offset <$> Go.sizeOf f.type).run P w = .ok places w := by simpa using hp1
    have hfill' : Instr.fill (fun i => places[i]?) z.cells (ps.toList.map fun p => (p.1, a.eval p.2)) = some c' := hfill
    simp [Instr.build, zeroValue, typeInfo, hi, hz, run_underlying hfields, hp1', hfill']
  · have := RV.agg (x := x) cs c'.toList hrv
    simpa using this
theorem fillArr_sound (sz : Nat) :
    ∀ {ps : List (Nat × AV)} {qs : List (Nat × Value)} {cs cs' : List AV} {c : Array Value}, ps.map (·.1) = qs.map (·.1) → RVL x (ps.map (·.2)) (qs.map (·.2)) → RVL x cs c.toList →
      fillArr sz ps cs = some cs' → ∃ c', Instr.fill (fun i => some (i * sz, sz)) c qs = some c' ∧ RVL x cs' c'.toList
  | [], [], cs, cs', c, _, _, h, hf => by
    simp only [fillArr, Option.some.injEq] at hf; subst hf
    exact ⟨c, rfl, h⟩
  | [], _ :: _, _, _, _, hm, _, _, _ => by simp at hm
  | _ :: _, [], _, _, _, hm, _, _, _ => by simp at hm
  | (f, av) :: ps, (f', v) :: qs, cs, cs', c, hm, hv, h, hf => by
    simp only [List.map_cons, List.cons.injEq] at hm
    obtain ⟨rfl, hm⟩ := hm
    simp only [List.map_cons] at hv
    cases hv with
    | cons _ _ _ _ hv1 hv2 =>
    simp only [fillArr] at hf
    split at hf
    · rename_i hfit hle
      have hle := Nat.le_of_ble_eq_true hle
      obtain ⟨k1, k2, k3, k4⟩ := cells_RV hv1 hfit
      have hlen := h.length
      obtain ⟨c1, e1, e2⟩ := fill_step (place := fun i => some (i * sz, sz)) (i := f) (off := f * sz) (sz := sz) (c := c) (rest := qs) rfl k2 (by simp at hlen; omega)
      have h1 : RVL x (setCells cs (f * sz) (cells av)) c1.toList := by
        rw [e2]
        have := setCells_RVL h k1 (f * sz)
        simpa using this
      obtain ⟨c', e3, h3⟩ := fillArr_sound sz hm hv2 h1 hf
      exact ⟨c', by rw [e1]; exact e3, h3⟩
    · simp at hf
include hT hr hp in
theorem buildArr_sound {t : Nat} {ti : TI} (hti : C.ti t = some ti) {e : Env} {a : Act} (henv : ∀ t, RV x (get e t) (a.tmps.getD t undef)) (ps : Array (Nat × Operand)) {n et : Nat} (hsh : ti.sh = .arr n et)
    {te : TI} (hte : C.ti et = some te) {cs : List AV} (hf : fillArr te.size (ps.toList.map fun p => (p.1, ev e p.2)) ti.zero = some cs) :
    OkV P x n0 tok w (Instr.build t (ps.map fun (i, o) => (i, a.eval o))) (.v (.agg cs) x.H) := by
  have ok := hT _ _ hti
  obtain ⟨i, z, hi, hs, hb, hz, hzc⟩ := ok.infos
  obtain ⟨d, hd, hds⟩ := ok.desc
  rw [hsh] at hds
  have hu : P.underlying t = some (.array n et) := by
    rw [hd]; cases d <;> simp [shOf] at hds ⊢; exact hds
  have hzr : RVL x ti.zero z.cells.toList := by
    rw [← hzc]
    have : ∀ l : List Value, RVL x (l.map avOf) l := by
      intro l; induction l with
      | nil => exact .nil
      | cons v l ih => exact .cons _ _ _ _ (avOf_RV x v) ih
    exact this _
  obtain ⟨m1, m2⟩ := parts_ev henv ps.toList
  obtain ⟨c', hfill, hrv⟩ := fillArr_sound te.size m1 m2 hzr hf
  refine .v hr hp ⟨.agg c', ?_, ?_⟩
  · have hfill' : Instr.fill (fun i => some (i * te.size, te.size)) z.cells (ps.toList.map fun p => (p.1, a.eval p.2)) = some c' := hfill
    simp [Instr.build, zeroValue, typeInfo, hi, hz, run_underlying hu, (hT _ _ hte).sizeOf w, hfill']
  · have := RV.agg (x := x) cs c'.toList hrv
    simpa using this
end
end Go.Proofs.YtpdfjgooaaailaaGreatDoor.K
namespace Go.Proofs.YtpdfjgooaaailaaGreatDoor.K
open Go
open Go.RowKit (Below)
section
variable {P : Program} {C : Ctx} (hT : CtxTI P C) {x : Cx} {n0 : Nat → Prop} {tok : Nat} (hr : HR x n0) {w : World} (hp : x.hp = w.heap)
theorem elemTy_ok (hT : CtxTI P C) {st e : Nat} {t : Ty} {te : TI} (h : elemTy C st = some (e, t, te)) :
    P.underlying st = some (.slice e) ∧ TIok P e te ∧ te.ty = some t ∧ 1 ≤ te.size ∧ 1 ≤ te.bytes := by
  unfold elemTy at h
  split at h
  · rename_i ti hti
    split at h
    · rename_i e' hs
      split at h
      · rename_i te' hte
        split at h
        · rename_i t' ht hsz
          simp only [Option.some.injEq, Prod.mk.injEq] at h
          obtain ⟨rfl, rfl, rfl⟩ := h
          simp only [Bool.and_eq_true] at hsz
          exact ⟨(hT _ _ hti).slice hs, hT _ _ hte, ht, Nat.le_of_ble_eq_true hsz.1, Nat.le_of_ble_eq_true hsz.2⟩
        · simp at h
      · simp at h
    · simp at h
  · simp at h
theorem TIok.pure {t : Nat} {ti : TI} (ok : TIok P t ti) {ty : Ty} (h : ti.ty = some ty) : csz ty = ti.size ∧ Go.Proofs.YtpdfjgooaaailaaGreatDoor.K.isAgg ty = ti.agg ∧ ofCells ty ti.zero = some (dfl ty, []) := by
  have := ok.ty
  unfold tyFits at this
  rw [h] at this
  exact this
theorem avs_RVL (x : Cx) : ∀ l : List Value, RVL x (l.map avOf) l
  | [] => .nil
  | v :: l => .cons _ _ _ _ (avOf_RV x v) (avs_RVL x l)
theorem avs_deep (H : Heap) (l : List Value) : (l.map avOf).map (deep H) = l.map avOf := by
  have h0 : ∀ v, deep H (avOf v) = avOf v := by
    intro v; unfold avOf; split <;> rfl
  simp [h0]
theorem avs_toks (l : List Value) : toksL (l.map avOf) = [] := by
  have h0 : ∀ v, toks (avOf v) = [] := by
    intro v; unfold avOf; split <;> rfl
  induction l with
  | nil => rfl
  | cons v l ih => simp [toksL, h0, ih]
include hr in
theorem zero_deep {t : Nat} {ti : TI} (ok : TIok P t ti) {ty : Ty} (h : ti.ty = some ty) : ∃ i z, P.info? t = some i ∧ i.size = ti.size ∧ i.bytes = ti.bytes ∧ i.zero = some z ∧
    DeepC x.hp x.fz ty (dfl ty) z.cells.toList := by
  obtain ⟨i, z, hi, hs, hb, hz, hzc⟩ := ok.infos
  obtain ⟨_, _, h3⟩ := ok.pure h
  refine ⟨i, z, hi, hs, hb, hz, ?_⟩
  rw [← hzc, ← avs_deep x.H] at h3
  obtain ⟨v1, v2, c2, h4, h5, h6, h7, _⟩ := ofCells_deep hr (fun b hb => hb) ty (avs_RVL x z.cells.toList) (by rw [avs_toks]; intro T hT; cases hT) h3
  cases c2 with
  | cons _ _ => simp at h6
  | nil => cases h7; rw [h4]; simpa using h5
theorem alloc_size (w : World) (o : Obj) : (w.alloc o).heap.size = w.heap.size + 1 := by
  show (w.heap.push o).size = _
  simp
theorem alloc_new (w : World) (o : Obj) : (w.alloc o).heap[w.heap.size]? = some o := by
  show (w.heap.push o)[w.heap.size]? = _
  rw [Array.getElem?_push, if_pos rfl]
theorem alloc_grew (w : World) (o : Obj) : Grew w.heap (w.alloc o).heap := ⟨by rw [alloc_size]; omega, fun b h => by
  show (w.heap.push o)[b]? = w.heap[b]?
  rw [Array.getElem?_push, if_neg (Nat.ne_of_lt h)]⟩
theorem made_row {z : Array Value} {n s i : Nat} (hz : z.size = s) (hi : i < n) (hs : 0 < s) : row (madeCells z (n * s)) (i * s) s = z.toList := by
  unfold row madeCells
  apply List.ext_getElem?
  intro j
  rw [List.getElem?_take]
  by_cases hj : j < s
  · have hlt : i * s + j < n * s := by
      have : (i + 1) * s ≤ n * s := Nat.mul_le_mul_right _ hi
      rw [Nat.add_mul] at this; omega
    have hmod : (i * s + j) % s = j := by rw [Nat.mul_comm, Nat.mul_add_mod, Nat.mod_eq_of_lt hj]
    simp [hj, List.getElem?_drop, hlt, hz, hmod]
  · have : z.toList.length ≤ j := by simp; omega
    simp [hj, List.getElem?_eq_none this]
include hT hr hp in
theorem makeSlice_sound (hn : ∀ k, w.heap.size ≤ k → n0 k) (hf : ∀ T ∈ heapToks x.H, ¬ InB tok T) {st e : Nat} {ty : Ty} {te : TI} (he : elemTy C st = some (e, ty, te)) {k k' : IntKind} {n c : Int} :
    OkV P x n0 tok w (Instr.makeSlice st (.int k n) (.int k' c)) (.cv (decide (0 ≤ n) && (decide (n ≤ c) && decide ((te.bytes : Int) * c ≤ 281474976710656))) (.who tok false)
      (hput x.H tok (.arr ty (List.replicate n.toNat (dfl ty))))) := fun hc => by
  simp only [Bool.and_eq_true, decide_eq_true_eq] at hc
  obtain ⟨h0, hnc, hby⟩ := hc
  obtain ⟨hu, ok, hty, h1, h2⟩ := elemTy_ok hT he
  obtain ⟨i, z, hi, hs, hb, hz, hd⟩ := zero_deep hr ok hty
  obtain ⟨hcs, _, _⟩ := ok.pure hty
  have hc0 : 0 ≤ c := by omega
  have hc63 : c ≤ 9223372036854775807 := by
    have : c ≤ (te.bytes : Int) * c := by
      have := Int.mul_le_mul_of_nonneg_right (show (1 : Int) ≤ te.bytes by omega) hc0
      omega
    omega
  have hrun := run_make (P := P) w st e i z hu hi hz k k' n c h0 hnc (by rw [hb]; exact hby) hc63
  have hzs : z.cells.size = csz ty := by have := hd.length; simpa using this
  have hg := alloc_grew w (Obj.cells (madeCells z.cells (c.toNat * i.size)) e)
  have hnew := alloc_new w (Obj.cells (madeCells z.cells (c.toNat * i.size)) e)
  have hg' : Grew x.hp (w.alloc (Obj.cells (madeCells z.cells (c.toNat * i.size)) e)).heap := by rw [hp]; exact hg
  have hbig : n.toNat * csz ty ≤ c.toNat * csz ty := Nat.mul_le_mul_right _ (by omega)
  have hsz : (madeCells z.cells (c.toNat * i.size)).size = c.toNat * csz ty := by rw [size_madeCells, hs, ← hcs]
  refine ⟨_, _, _, hrun, rfl, new_next (loc := some (w.heap.size, 0)) hr hp hf hg
    (below_push hn rfl rfl rfl hg) (fun B o h => by simp at h; omega)
    (fun B hB => Nat.lt_of_lt_of_le (hr.size B hB) hg'.1) ?_, ?_⟩
  · refine .inr ⟨w.heap.size, 0, madeCells z.cells (c.toNat * i.size), e, (0, 0), by simp [newCx], hnew, hn _ (Nat.le_refl _), ?_, unfrozen_zero _, ?_, ?_⟩
    · intro hfz
      have := hr.size _ hfz
      rw [hp] at this; omega
    · rw [hsz]; simpa using hbig
    · intro j hj
      simp only [List.length_replicate] at hj
      have hrow : row (madeCells z.cells (c.toNat * i.size)) (j * csz ty) (csz ty) = z.cells.toList := by
        have e1 : c.toNat * i.size = c.toNat * csz ty := by rw [hs, ← hcs]
        rw [e1]; exact made_row hzs (by omega) (by omega)
      simp only [List.getElem_replicate, Nat.zero_add]
      rw [hrow]
      exact DeepC.mono (fun b hb => ⟨hb, hg'.2 b (hr.size b hb)⟩) _ _ _ hd
  · refine .who _ _ _ _ _ fun t' l ha => ?_
    have : t' = ty ∧ HEq l (List.replicate n.toNat (dfl ty)) := by
      rcases ha with ha | ha
      · simp only [newCx, hget_hput, if_true, Option.some.injEq, Blk.arr.injEq] at ha
        obtain ⟨rfl, h⟩ := ha; exact ⟨rfl, h.symm⟩
      · simp only [newCx, hget_hput, if_true, Option.some.injEq] at ha; cases ha
    obtain ⟨rfl, hl⟩ := this
    cases hl
    refine ⟨by simp, by omega, by simp, .inr ⟨w.heap.size, 0, madeCells z.cells (c.toNat * i.size), e, (0, 0), by simp [newCx], by simp, hnew, ?_⟩⟩
    rw [hsz]; simp
include hr hp in
theorem bytes_sound (hn : ∀ k, w.heap.size ≤ k → n0 k) (hf : ∀ T ∈ heapToks x.H, ¬ InB tok T) {src dst e : Nat} (s : List UInt8) (hd : P.underlying dst = some (.slice e)) (he : P.underlying e = some (.int .u8))
    (hs : (P.underlying src).isSome = true) :
    OkV P x n0 tok w (Go.convert src dst (.string ⟨s.toArray⟩)) (.v (.who tok false) (hput x.H tok (.arr (.int .u8) (s.map fun b => (b.toNat : Int))))) := fun _ => by
  obtain ⟨u, hu⟩ := Option.isSome_iff_exists.1 hs
  have hrun := Lib.run_convert_string_bytes (P := P) w src dst e ⟨s.toArray⟩ hu hd he
  have hsz : (ByteArray.mk s.toArray).size = s.length := by simp [ByteArray.size]
  have hcs := Lib.bytesWorld_size w e ⟨s.toArray⟩
  have hg : Grew w.heap (Lib.bytesWorld w e ⟨s.toArray⟩).heap := ⟨by omega, fun b hb => Lib.bytesWorld_at_old w e _ b hb⟩
  have hg' : Grew x.hp (Lib.bytesWorld w e ⟨s.toArray⟩).heap := by rw [hp]; exact hg
  have hnew := Lib.bytesWorld_at_new w e ⟨s.toArray⟩
  have hcap : s.length ≤ grownCap w s.length 0 e := grownCap_ge w s.length 0 e
  have hlen : (Lib.bytesCells w e ⟨s.toArray⟩).size = grownCap w s.length 0 e := by
    simp [Lib.bytesCells, hsz]; omega
  refine ⟨_, _, _, hrun, rfl, new_next (loc := some (w.heap.size, 0)) hr hp hf hg
    (below_push hn rfl rfl rfl hg) (fun B o h => by simp at h; omega)
    (fun B hB => Nat.lt_of_lt_of_le (hr.size B hB) (by rw [hp]; omega)) ?_, ?_⟩
  · refine .inr ⟨w.heap.size, 0, _, e, _, by simp [newCx], hnew, hn _ (Nat.le_refl _), ?_, ?_, ?_, ?_⟩
    · intro hfz
      have := hr.size _ hfz
      rw [hp] at this; omega
    · intro o ho hh; omega
    · simp [csz]; omega
    · intro j hj
      simp only [List.length_map] at hj
      simp only [DeepC, csz, Nat.zero_add, Nat.mul_one, List.getElem_map]
      unfold row
      have hlt : j < (Lib.bytesCells w e ⟨s.toArray⟩).toList.length := by simp [hlen]; omega
      rw [List.drop_eq_getElem_cons hlt]
      simp only [List.take_succ_cons, List.take_zero, List.cons.injEq, and_true]
      simp [Lib.bytesCells, Array.getElem_append, hj]
  · rw [hsz]
    refine .who _ _ _ _ _ fun t' l ha => ?_
    have : t' = .int .u8 ∧ HEq l (s.map fun b => (b.toNat : Int)) := by
      rcases ha with ha | ha
      · simp only [newCx, hget_hput, if_true, Option.some.injEq, Blk.arr.injEq] at ha
        obtain ⟨rfl, h⟩ := ha; exact ⟨rfl, h.symm⟩
      · simp only [newCx, hget_hput, if_true, Option.some.injEq] at ha; cases ha
    obtain ⟨rfl, hl⟩ := this
    cases hl
    refine ⟨by simp, hcap, by simp, .inr ⟨w.heap.size, 0, _, e, _, by simp [newCx], by simp, hnew, ?_⟩⟩
    simp [csz]; omega
end
end Go.Proofs.YtpdfjgooaaailaaGreatDoor.K
namespace Go.Proofs.YtpdfjgooaaailaaGreatDoor.K
open Go
open Go.RowKit (Below)
section
variable {P : Program} {C : Ctx} (hT : CtxTI P C) {x : Cx} {n0 : Nat → Prop} {tok : Nat} (hr : HR x n0) {w : World} (hp : x.hp = w.heap)
theorem get_overlay {α : Type} {c vs : List α} {s : Nat} (h : s + vs.length ≤ c.length) (k : Nat) :
    (c.take s ++ vs ++ c.drop (s + vs.length))[k]? = if k < s then c[k]? else if k < s + vs.length then vs[k - s]? else c[k]? := by
  have hs : (c.take s).length = s := by simp; omega
  by_cases h1 : k < s
  · rw [if_pos h1, List.append_assoc, List.getElem?_append_left (by omega), List.getElem?_take, if_pos h1]
  · rw [if_neg h1, List.append_assoc, List.getElem?_append_right (by omega), hs]
    by_cases h2 : k < s + vs.length
    · rw [if_pos h2, List.getElem?_append_left (by omega)]
    · rw [if_neg h2, List.getElem?_append_right (by omega), List.getElem?_drop]
      congr 1
      omega
theorem row_get (c : Array Value) (o n k : Nat) : (row c o n)[k]? = if k < n then c.toList[o + k]? else none := by
  unfold row
  rw [List.getElem?_take]
  split <;> simp [List.getElem?_drop]
theorem row_out {c c' : Array Value} {s q m : Nat} {vs : List Value} (h : s + vs.length ≤ c.size) (hc : c'.toList = c.toList.take s ++ vs ++ c.toList.drop (s + vs.length))
    (hd : q + m ≤ s ∨ s + vs.length ≤ q) : row c' q m = row c q m := by
  apply List.ext_getElem?
  intro k
  rw [row_get, row_get, hc, get_overlay (by simpa using h)]
  by_cases hk : k < m
  · rw [if_pos hk, if_pos hk]
    by_cases h1 : q + k < s
    · rw [if_pos h1]
    · rw [if_neg h1, if_neg (by omega)]
  · rw [if_neg hk, if_neg hk]
theorem row_in {c c' : Array Value} {p off n : Nat} {vs : List Value} (h : p + n ≤ c.size) (ho : off + vs.length ≤ n)
    (hc : c'.toList = c.toList.take (p + off) ++ vs ++ c.toList.drop (p + off + vs.length)) :
    row c' p n = (row c p n).take off ++ vs ++ (row c p n).drop (off + vs.length) := by
  have hl : (row c p n).length = n := row_length h
  apply List.ext_getElem?
  intro k
  rw [row_get, hc, get_overlay (by simp; omega), get_overlay (by omega), row_get]
  by_cases hk : k < n
  · rw [if_pos hk, if_pos hk]
    by_cases h1 : k < off
    · rw [if_pos h1, if_pos (by omega)]
    · rw [if_neg h1, if_neg (by omega)]
      by_cases h2 : k < off + vs.length
      · rw [if_pos h2, if_pos (by omega)]; congr 1; omega
      · rw [if_neg h2, if_neg (by omega)]
  · rw [if_neg hk, if_neg hk, if_neg (by omega), if_neg (by omega)]
theorem setCells_heap (b : Nat) : ∀ (vs : List Value) (o : Nat) (w : World) (c : Array Value) (e : TypeId) (fr : Nat × Nat), w.heap[b]? = some (Obj.cells c e fr) → o + vs.length ≤ c.size →
    ∃ c', (w.setCells b o vs).heap[b]? = some (Obj.cells c' e fr) ∧ c'.toList = c.toList.take o ++ vs ++ c.toList.drop (o + vs.length) ∧ (∀ k, k ≠ b → (w.setCells b o vs).heap[k]? = w.heap[k]?) ∧
      (w.setCells b o vs).heap.size = w.heap.size ∧ (w.setCells b o vs).os = w.os ∧ (w.setCells b o vs).tape = w.tape ∧ (w.setCells b o vs).output = w.output
  | [], o, w, c, e, fr, hb, h => ⟨c, hb, by simp, fun _ _ => rfl, rfl, rfl, rfl, rfl⟩
  | v :: vs, o, w, c, e, fr, hb, h => by
    simp only [List.length_cons] at h
    have h1 : (w.setCell ⟨b, o, none⟩ v).heap[b]? = some (Obj.cells (c.setIfInBounds o v) e fr) := by
      simp [World.setCell, Array.getElem?_modify, hb]
    obtain ⟨c', k1, k2, k3, k4, k5, k6, k7⟩ := setCells_heap b vs (o + 1) (w.setCell ⟨b, o, none⟩ v) _ e fr h1 (by simp; omega)
    refine ⟨c', k1, ?_, fun k hk => ?_, ?_, k5, k6, k7⟩
    · rw [k2]
      have hlt : o < c.toList.length := by simp; omega
      simp only [Array.toList_setIfInBounds, List.length_cons]
      rw [List.drop_set_of_lt (by omega), List.take_add_one, List.take_set_of_le (Nat.le_refl _)]
      simp at hlt
      simp [List.getElem?_set, hlt]
      congr 1
      omega
    · rw [World.setCells, k3 k hk]
      simp [World.setCell, Array.getElem?_modify, Ne.symm hk]
    · rw [World.setCells, k4]
      simp [World.setCell]
theorem below_set {b : Nat} (hn : n0 b) {w w' : World} (h1 : w'.os = w.os) (h2 : w'.tape = w.tape) (h3 : w'.output = w.output) (hs : w'.heap.size = w.heap.size) (ho : ∀ k, k ≠ b → w'.heap[k]? = w.heap[k]?) (hss : SameSizes w.heap w'.heap) : Bel n0 w w' :=
  ⟨h1, h2, h3, by omega, fun k hk => ho k (fun e => hk (e ▸ hn)), hss⟩
theorem set_sizes {b : Nat} {w w' : World} {c c' : Array Value} {e : TypeId} {fr : Nat × Nat} (hb : w.heap[b]? = some (Obj.cells c e fr)) (hb' : w'.heap[b]? = some (Obj.cells c' e fr)) (hsz : c'.size = c.size)
    (ho : ∀ k, k ≠ b → w'.heap[k]? = w.heap[k]?) : SameSizes w.heap w'.heap := fun k c0 e0 fr0 h0 => by
  by_cases hkb : k = b
  · subst hkb
    rw [hb] at h0; simp only [Option.some.injEq, Obj.cells.injEq] at h0
    exact ⟨c', e, fr, hb', by rw [hsz, h0.1]⟩
  · exact ⟨c0, e0, fr0, by rw [ho k hkb]; exact h0, rfl⟩
theorem storeVar_run {t : Nat} {ti : TI} (ok : TIok P t ti) {w : World} {b o : Nat} {c : Array Value} {e : TypeId} {fr : Nat × Nat} (hb : w.heap[b]? = some (Obj.cells c e fr)) (hf : Unfrozen c fr)
    {v : Value} (hv : v.cells.size = ti.size) (h1 : ∀ u ∈ v.cells.toList, u.oneCell' = true) (hle : o + ti.size ≤ c.size) :
    (storeVar t ⟨b, o, none⟩ v).run P w = .ok () (w.setCells b o v.cells.toList) := by
  have hcell : ∀ j, j < v.cells.toList.length → (w.cell? ⟨b, o + 0 + j, none⟩).isSome = true := by
    intro j hj
    simp at hj
    have : o + j < c.size := by omega
    simp [World.cell?, hb, this]
  have hfr : ∀ j, j < v.cells.toList.length → w.frozen? ⟨b, o + 0 + j, none⟩ = false := by
    intro j hj
    simp at hj
    obtain ⟨lo, hi⟩ := fr
    have := hf (o + j) (by omega)
    simp only [World.frozen?, hb, Nat.add_zero]
    simp only at this
    simp; omega
  have hst := run_storeCells_cells (P := P) b o v.cells.toList 0 w hcell hfr h1
  simp only [Nat.add_zero] at hst
  simp [storeVar, ok.sizeOf w, hv, hst]
def stCx (x : Cx) (hp' : Array Obj) (T : Nat) (b : Blk) : Cx := { x with hp := hp', H := hput x.H T b }
theorem store_next {T b : Nat} (hr : HR x n0) (hp : x.hp = w.heap) (hown : Owns x T b) (hnf : ¬ x.fz b) {w' : World} {c c' : Array Value} {e : TypeId} {fr : Nat × Nat} (hb : w.heap[b]? = some (Obj.cells c e fr))
    (hb' : w'.heap[b]? = some (Obj.cells c' e fr)) (hsz : c'.size = c.size) (hoth : ∀ k, k ≠ b → w'.heap[k]? = w.heap[k]?) (hs : w'.heap.size = w.heap.size) (hbel : Bel n0 w w') {blk : Blk}
    (hk : (∃ t l l', hget x.H T = some (.arr t l) ∧ blk = .arr t l' ∧ l'.length = l.length) ∨ (∃ cs cs', hget x.H T = some (.box cs) ∧ blk = .box cs'))
    (hblk : BlkR (stCx x w'.heap T blk) n0 T blk) : Nx x (stCx x w'.heap T blk) n0 tok w w' := by
  have E : ∀ S, Ext x (stCx x w'.heap T blk) S := by
    intro S
    refine ⟨fun k hk => ⟨hk, ?_⟩, fun k c0 e0 fr0 h0 => ?_, fun T' _ t l' ha => ?_, fun T' _ cs' ha => ?_, fun _ => rfl⟩
    · have : k ≠ b := fun h => hnf (h ▸ hk)
      rw [hp]; exact hoth k this
    · rw [hp] at h0
      by_cases hkb : k = b
      · subst hkb
        rw [hb] at h0; simp only [Option.some.injEq, Obj.cells.injEq] at h0
        exact ⟨c', e, fr, hb', by rw [hsz, h0.1]⟩
      · exact ⟨c0, e0, fr0, by rw [show (stCx x w'.heap T blk).hp[k]? = w.heap[k]? from hoth k hkb]; exact h0, rfl⟩
    · simp only [stCx, AF, hget_hput] at ha
      split at ha
      · rename_i hT
        subst hT
        rcases hk with ⟨t0, l0, l0', h1, rfl, h3⟩ | ⟨cs, cs', h1, rfl⟩
        · simp only [Option.some.injEq] at ha
          rcases ha with ha | ha
          · cases ha; exact ⟨l0, .inl h1, h3.symm, rfl⟩
          · cases ha
        · simp at ha
      · exact ⟨l', ha, rfl, rfl⟩
    · simp only [stCx, hget_hput] at ha
      split at ha
      · rename_i hT
        subst hT
        rcases hk with ⟨t0, l0, l0', h1, rfl, h3⟩ | ⟨cs, cs'', h1, rfl⟩
        · simp at ha
        · exact ⟨cs, h1, rfl⟩
      · exact ⟨cs', ha, rfl⟩
  have back : ∀ T' B, Owns (stCx x w'.heap T blk) T' B → Owns x T' B := by
    rintro T' B ⟨ho, h⟩
    refine ⟨ho, ?_⟩
    by_cases hT : T' = T
    · subst hT; exact hown.2
    · simpa only [stCx, hget_hput, if_neg hT] using h
  have hdeep : ∀ (t : Ty) (y : den t) vs, DeepC x.hp x.fz t y vs → DeepC w'.heap x.fz t y vs :=
    fun t y vs h => DeepC.mono (fun k hk => ⟨hk, by rw [hp]; exact hoth k fun h => hnf (h ▸ hk)⟩) t y vs h
  refine ⟨E _, ⟨fun T' b' hb0 => ?_, fun t1 t2 B h1 h2 => hr.inj t1 t2 B (back _ _ h1) (back _ _ h2), fun B hB => ?_⟩, fun B h => .inl h, hbel, rfl⟩
  · simp only [stCx, hget_hput] at hb0
    split at hb0
    · rename_i hT
      subst hT
      simp only [Option.some.injEq] at hb0; subst hb0
      exact hblk
    · rename_i hT
      have h0 := hr.blk T' b' hb0
      have hne : ∀ B, Owns x T' B → B ≠ b := fun B h e => hT (hr.inj T' T b (e ▸ h) hown)
      have hat : ∀ (B : Nat) o, B ≠ b → x.hp[B]? = o → w'.heap[B]? = o := fun B o h k => by rw [hoth B h, ← hp]; exact k
      cases b' with
      | arr t l =>
        rcases h0 with h | ⟨B, o, c1, e1, fr1, h1, h2, h3, h4, h5, h6, h7⟩
        · exact .inl h
        · exact .inr ⟨B, o, c1, e1, fr1, h1, hat B _ (hne B ⟨⟨o, h1⟩, .inl ⟨t, l, hb0⟩⟩) h2, h3, h4, h5, h6, fun i hi => hdeep _ _ _ (h7 i hi)⟩
      | fro t l =>
        rcases h0 with h | ⟨B, o, c1, e1, fr1, h1, h2, h3, h4, h5⟩
        · exact .inl h
        · exact .inr ⟨B, o, c1, e1, fr1, h1, hat B _ (fun e => hnf (e ▸ h3)) h2, h3, h4, fun i hi => hdeep _ _ _ (h5 i hi)⟩
      | box cs =>
        obtain ⟨B, c1, e1, fr1, h1, h2, h3, h4, h5, h6, h7⟩ := h0
        exact ⟨B, c1, e1, fr1, h1, hat B _ (hne B ⟨⟨0, h1⟩, .inr ⟨cs, hb0⟩⟩) h2, h3, h4, h5, h6, RVL.mono (E fun _ => True) h7 fun _ _ => trivial⟩
  · have := hr.size B hB
    rw [hp] at this
    show B < w'.heap.size
    omega
theorem deep_cellsOf (H : Heap) : ∀ (t : Ty) (y : den t), (cellsOf t y).map (deep H) = cellsOf t y
  | .unit, _ => rfl
  | .bool, _ => rfl
  | .int _, _ => rfl
  | .str, _ => rfl
  | .sl _, _ => rfl
  | .own _, _ => rfl
  | .pair a b, y => by simp [cellsOf, deep_cellsOf H a, deep_cellsOf H b]
  | .one t, y => deep_cellsOf H t y
  | .fn _, _ => rfl
theorem toks_cellsOf : ∀ (t : Ty) (y : den t), toksL (cellsOf t y) = []
  | .unit, _ => rfl
  | .bool, _ => rfl
  | .int _, _ => rfl
  | .str, _ => rfl
  | .sl _, _ => rfl
  | .own _, _ => rfl
  | .pair a b, y => by
    have app : ∀ a b : List AV, toksL (a ++ b) = toksL a ++ toksL b := by
      intro a b; induction a with
      | nil => rfl
      | cons v a ih => simp [toksL, ih]
    simp [cellsOf, app, toks_cellsOf a, toks_cellsOf b]
  | .one t, y => toks_cellsOf t y
  | .fn _, _ => rfl
theorem toksL_append (a b : List AV) : toksL (a ++ b) = toksL a ++ toksL b := by
  induction a with
  | nil => rfl
  | cons v a ih => simp [toksL, ih]
theorem toksL_take {a : List AV} {n T : Nat} (h : T ∈ toksL (a.take n)) : T ∈ toksL a := by
  have := toksL_append (a.take n) (a.drop n)
  rw [List.take_append_drop] at this
  rw [this]; exact List.mem_append_left _ h
theorem toksL_drop {a : List AV} {n T : Nat} (h : T ∈ toksL (a.drop n)) : T ∈ toksL a := by
  have := toksL_append (a.take n) (a.drop n)
  rw [List.take_append_drop] at this
  rw [this]; exact List.mem_append_right _ h
def OkS (P : Program) (x : Cx) (n0 : Nat → Prop) (tok : Nat) (w : World) (s : Sem Unit) (h : Heap) : Prop :=
  ∃ w' x', s.run P w = .ok () w' ∧ x'.H = h ∧ Nx x x' n0 tok w w'
include hT hr hp in
theorem storeOp_sound {t : Nat} {ti : TI} (hti : C.ti t = some ti) {ap av : AV} {vp v : Value} (h1 : RV x ap vp) (h2 : RV x av v) {h' : Heap} (hs : storeOp ti ap av x.H = some h') :
    OkS P x n0 tok w (Instr.storeAt t vp v) h' := by
  have ok := hT _ _ hti
  unfold storeOp at hs
  split at hs
  · simp at hs
  · rename_i hfit
    obtain ⟨g1, g2, g3, g4⟩ := cells_RV h2 hfit
    have hone := all_one g1 g3
    split at hs
    · rename_i tk off
      cases h1 with
      | ptr _ _ ad h1 =>
      split at hs
      · rename_i cs hg
        split at hs
        · rename_i hle
          have hle := Nat.le_of_ble_eq_true hle
          simp only [Option.some.injEq] at hs; subst hs
          obtain ⟨b, hm, rfl⟩ := h1 cs hg
          obtain ⟨b', c, e, fr, hm', hb, hn, hnf, hfr, hsol, hrv⟩ := hr.blk _ _ hg
          rw [hm] at hm'; cases hm'
          rw [hp] at hb
          have hlen := hrv.length
          simp at hlen
          have hvl : v.cells.toList.length = ti.size := by simpa using g2
          have hrun := storeVar_run ok (o := off) hb hfr g2 hone (by omega)
          obtain ⟨c', k1, k2, k3, k4, k5, k6, k7⟩ := setCells_heap b v.cells.toList off w c e fr hb (by omega)
          have hsz : c'.size = c.size := by
            have := congrArg List.length k2
            simp at this; omega
          refine ⟨_, _, by simp [Instr.storeAt, Instr.sureAddr, hrun], rfl, store_next (c' := c') hr hp ⟨⟨0, hm⟩, .inr ⟨cs, hg⟩⟩ hnf hb k1 hsz k3 k4 (below_set hn k5 k6 k7 k4 k3 (set_sizes hb k1 hsz k3))
            (.inr ⟨cs, _, hg, rfl⟩) ?_⟩
          refine ⟨b, c', e, fr, hm, k1, hn, hnf, ?_, trivial, ?_⟩
          · intro o ho; exact hfr o (by omega)
          · rw [k2]
            have := setCells_RVL hrv g1 off
            refine RVL.mono (S := fun _ => True) ?_ this fun _ _ => trivial
            refine ⟨fun k hk => ⟨hk, ?_⟩, fun k c0 e0 fr0 h0 => ?_, fun T' _ t' l' ha => ?_, fun T' _ cs' ha => ?_, fun _ => rfl⟩
            · have : k ≠ b := fun h => hnf (h ▸ hk)
              rw [hp]; exact k3 k this
            · rw [hp] at h0
              by_cases hkb : k = b
              · subst hkb
                rw [hb] at h0; simp only [Option.some.injEq, Obj.cells.injEq] at h0
                exact ⟨c', e, fr, k1, by rw [hsz, h0.1]⟩
              · exact ⟨c0, e0, fr0, by rw [← h0]; exact k3 k hkb, rfl⟩
            · simp only [stCx, AF, hget_hput] at ha
              split at ha
              · simp at ha
              · exact ⟨l', ha, rfl, rfl⟩
            · simp only [stCx, hget_hput] at ha
              split at ha
              · rename_i hT; subst hT; exact ⟨cs, hg, rfl⟩
              · exact ⟨cs', ha, rfl⟩
        · simp at hs
      · simp at hs
    · rename_i tk i off
      cases h1 with
      | eptr _ _ _ ad h1 =>
      split at hs
      · rename_i t' l hg
        split at hs
        · rename_i hle
          have hle := Nat.le_of_ble_eq_true hle
          split at hs
          · rename_i y hy
            split at hs
            · rename_i hnt
              simp only [Option.some.injEq] at hs; subst hs
              obtain ⟨hi, b, o, hm, rfl⟩ := h1 t' l (.inl hg)
              rcases hr.blk _ _ hg with ⟨hl, _⟩ | ⟨b', o', c, e, fr, hm', hb, hn, hnf, hfr, hsz0, hd⟩
              · subst hl; simp at hi
              rw [hm] at hm'; cases hm'
              have hb0 := hb
              rw [hp] at hb
              have hvl : v.cells.toList.length = ti.size := by simpa using g2
              have hilen : (i + 1) * csz t' ≤ l.length * csz t' := Nat.mul_le_mul_right _ hi
              rw [Nat.add_mul] at hilen
              have hrun := storeVar_run ok (o := o + i * csz t' + off) hb hfr g2 hone (by omega)
              obtain ⟨c', k1, k2, k3, k4, k5, k6, k7⟩ := setCells_heap b v.cells.toList (o + i * csz t' + off) w c e fr hb (by omega)
              have hsz : c'.size = c.size := by
                have := congrArg List.length k2
                simp at this; omega
              have N1 := frz_next hr hp (tok := tok) (toks av)
              have hr1 := N1.hr
              have hg1 : hget (frzCx x (toks av)).H tk = some (.arr t' l) := by
                simp only [frzCx]; rw [hget_freeze, hg]; simp only [Option.map_some, frz]
                cases he : (toks av).elem tk with
                | true => rw [he] at hnt; simp at hnt
                | false => rfl
              have hnf1 : ¬ (frzCx x (toks av)).fz b := by
                rcases hr1.blk _ _ hg1 with ⟨hl, _⟩ | ⟨b', o', c1, e1, fr1, hm1, _, _, h4, _⟩
                · subst hl; simp at hi
                · have : (frzCx x (toks av)).m tk = some (b, o) := hm
                  rw [this] at hm1; cases hm1; exact h4
              have hdi := hd i hi
              have hrow : RVL x (setCells (cellsOf t' l[i]) off (cells av)) (row c' (o + i * csz t') (csz t')) := by
                rw [row_in (off := off) (by omega) (by omega) k2]
                exact setCells_RVL (cells_RVL t' _ _ hdi) g1 off
              have e0 : l.getD i (dfl t') = l[i] := by simp [List.getD, hi]
              rw [e0] at hy
              have e1 : setCells (cellsOf t' l[i]) off ((cells av).map (deep x.H)) = (setCells (cellsOf t' l[i]) off (cells av)).map (deep x.H) := by
                unfold setCells
                simp only [List.map_append, List.map_take, List.map_drop, deep_cellsOf, List.length_map]
              rw [e1] at hy
              have hshow : Shows x (frzCx x (toks av)).fz (toksL (setCells (cellsOf t' l[i]) off (cells av))) := by
                intro T hT
                apply frz_shows hr (toks av)
                unfold setCells at hT
                rw [toksL_append, toksL_append] at hT
                rcases List.mem_append.1 hT with hT | hT
                · rcases List.mem_append.1 hT with hT | hT
                  · have := toksL_take hT; rw [toks_cellsOf] at this; cases this
                  · exact toks_cells av T hT
                · have := toksL_drop hT; rw [toks_cellsOf] at this; cases this
              obtain ⟨v1, v2, c2, q1, q2, q3, q4, _⟩ := ofCells_deep hr (fz' := (frzCx x (toks av)).fz) (fun b hb => .inl hb) t' hrow hshow hy
              have q1' : row c' (o + i * csz t') (csz t') = v1 := by
                cases c2 with
                | cons _ _ => simp at q3
                | nil => cases q4; simpa using q1
              refine ⟨_, _, by simp [Instr.storeAt, Instr.sureAddr, hrun], ?_, N1.trans (store_next (x := frzCx x (toks av)) (T := tk) (b := b) (c' := c') hr1 hp ⟨⟨o, hm⟩, .inl ⟨t', l, hg1⟩⟩ hnf1 hb k1 hsz k3 k4
                (below_set hn k5 k6 k7 k4 k3 (set_sizes hb k1 hsz k3)) (.inl ⟨t', l, l.set i y, hg1, rfl, by simp⟩) ?_)⟩
              · rfl
              · refine .inr ⟨b, o, c', e, fr, hm, k1, hn, hnf1, fun o ho => hfr o (by omega), by rw [List.length_set]; omega, fun j hj => ?_⟩
                rw [List.length_set] at hj
                have hmono : ∀ (t : Ty) (y : den t) vs, DeepC x.hp (frzCx x (toks av)).fz t y vs → DeepC (w.setCells b (o + i * csz t' + off) v.cells.toList).heap (frzCx x (toks av)).fz t y vs :=
                  fun t y vs h => DeepC.mono (fun k hk => ⟨hk, by rw [hp]; exact k3 k fun h => hnf1 (h ▸ hk)⟩) t y vs h
                by_cases hji : j = i
                · subst hji
                  rw [List.getElem_set_self, q1']
                  exact hmono _ _ _ q2
                · rw [List.getElem_set_ne (Ne.symm hji)]
                  have hdj := DeepC.mono (hp' := x.hp) (ok' := (frzCx x (toks av)).fz) (fun b hb => ⟨.inl hb, rfl⟩) _ _ _ (hd j hj)
                  have := hmono _ _ _ hdj
                  rw [row_out (s := o + i * csz t' + off) (by omega) k2]
                  · exact this
                  · rcases Nat.lt_or_gt_of_ne hji with h | h
                    · left
                      have : (j + 1) * csz t' ≤ i * csz t' := Nat.mul_le_mul_right _ h
                      rw [Nat.add_mul] at this; omega
                    · right
                      have : (i + 1) * csz t' ≤ j * csz t' := Nat.mul_le_mul_right _ h
                      rw [Nat.add_mul] at this; omega
            · simp at hs
          · simp at hs
        · simp at hs
      · simp at hs
    · simp at hs
end
end Go.Proofs.YtpdfjgooaaailaaGreatDoor.K
namespace Go.Proofs.YtpdfjgooaaailaaGreatDoor.K
open Go
open Go.RowKit (Below)
section
variable {P : Program} {C : Ctx} (hT : CtxTI P C) {x : Cx} {n0 : Nat → Prop} {tok : Nat} (hr : HR x n0) {w : World} (hp : x.hp = w.heap)
theorem DenV.cells {hp : Array Obj} {ok : Nat → Prop} {t : Ty} {y : den t} {v : Value} (h : DenV hp ok t y v) (hv : v.oneCell' = true ∨ Go.Proofs.YtpdfjgooaaailaaGreatDoor.K.isAgg t = true) :
    DeepC hp ok t y v.cells.toList ∧ v.cells.size = csz t := by
  unfold DenV at h
  split at h
  · obtain ⟨vs, rfl, h⟩ := h
    have := h.length
    exact ⟨by simpa [Value.cells] using h, by simpa [Value.cells] using this⟩
  · rename_i hag
    obtain ⟨_, h⟩ := h
    have hc : v.cells = #[v] := by
      rcases hv with hv | hv
      · cases v <;> simp [Value.oneCell'] at hv <;> rfl
      · rw [hag] at hv; cases hv
    have := h.length
    rw [hc]
    exact ⟨by simpa using h, by simpa using this⟩
theorem DeepC.one : ∀ (t : Ty) {hp : Array Obj} {ok : Nat → Prop} (y : den t) (vs : List Value), DeepC hp ok t y vs → ∀ v ∈ vs, v.oneCell' = true
  | .unit, _, _, _, _, h, v, hv => by cases h; cases hv
  | .bool, _, _, _, _, h, v, hv => by cases h; simp at hv; subst hv; rfl
  | .int _, _, _, _, _, h, v, hv => by cases h; simp at hv; subst hv; rfl
  | .str, _, _, _, _, h, v, hv => by cases h; simp at hv; subst hv; rfl
  | .sl _, _, _, _, _, h, v, hv => by obtain ⟨_, _, rfl, _⟩ := h; simp at hv; subst hv; rfl
  | .own _, _, _, _, _, h, v, hv => by obtain ⟨_, _, rfl, _⟩ := h; simp at hv; subst hv; rfl
  | .pair a b, _, _, y, _, h, v, hv => by
    obtain ⟨v1, v2, rfl, h1, h2⟩ := h
    rcases List.mem_append.1 hv with hv | hv
    · exact DeepC.one a _ _ h1 v hv
    · exact DeepC.one b _ _ h2 v hv
  | .one t, _, _, y, _, h, v, hv => DeepC.one t y _ h v hv
  | .fn _, _, _, _, _, h, v, hv => by cases h; simp at hv; subst hv; rfl
theorem DenV.isOne {hp : Array Obj} {ok : Nat → Prop} {t : Ty} {y : den t} {v : Value} (h : DenV hp ok t y v) : v.oneCell' = true ∨ Go.Proofs.YtpdfjgooaaailaaGreatDoor.K.isAgg t = true := by
  unfold DenV at h
  split at h
  · rename_i hag; exact .inr hag
  · exact .inl (DeepC.one t _ _ h.2 v (by simp))
def Rows (hp : Array Obj) (ok : Nat → Prop) (t : Ty) (l : List (den t)) (c : Array Value) (o : Nat) : Prop :=
  ∀ i (h : i < l.length), DeepC hp ok t l[i] (row c (o + i * csz t) (csz t))
theorem elemsOf_some {H : Heap} {t : Ty} {ps : List (Nat × AV)} : ∀ {n i : Nat} {l : List (den t)}, elemsOf H t ps i n = some l → l.length = n ∧ ∀ j (h : j < l.length),
    (match ps.find? (fun p => Nat.beq p.1 (i + j)) with
      | some p => toDen H t p.2 = some l[j]
      | none => l[j] = dfl t)
  | 0, i, l, h => by simp only [elemsOf, Option.some.injEq] at h; subst h; exact ⟨rfl, fun j hj => by simp at hj⟩
  | n + 1, i, l, h => by
    simp only [elemsOf] at h
    split at h
    · rename_i y ys h1 h2
      simp only [Option.some.injEq] at h; subst h
      obtain ⟨k1, k2⟩ := elemsOf_some h2
      refine ⟨by simp [k1], fun j hj => ?_⟩
      cases j with
      | zero =>
        simp only [Nat.add_zero, List.getElem_cons_zero]
        split at h1
        · rename_i p hp; rw [hp]; exact h1
        · rename_i hp; rw [hp]; simpa using h1.symm
      | succ j =>
        have := k2 j (by simpa using hj)
        rw [show i + 1 + j = i + (j + 1) by omega] at this
        simpa using this
    · simp at h
theorem fill_rows {s n : Nat} (hs : 0 < s) : ∀ (qs : List (Nat × Value)) (c : Array Value), c.size = n * s → (∀ q ∈ qs, q.2.cells.size = s ∧ q.1 < n) → nodupB (qs.map (·.1)) = true →
    ∃ c', Instr.fill (fun i => some (i * s, s)) c qs = some c' ∧ c'.size = n * s ∧ ∀ i, i < n →
      row c' (i * s) s = (match qs.find? (fun q => Nat.beq q.1 i) with
        | some q => q.2.cells.toList
        | none => row c (i * s) s)
  | [], c, hc, _, _ => ⟨c, rfl, hc, fun i _ => rfl⟩
  | (j, v) :: qs, c, hc, hq, hd => by
    obtain ⟨h1, h2⟩ := hq (j, v) (by simp)
    change v.cells.size = s at h1
    change j < n at h2
    have hjn : (j + 1) * s ≤ n * s := Nat.mul_le_mul_right _ h2
    rw [Nat.add_mul] at hjn
    obtain ⟨c1, e1, e2⟩ := fill_step (place := fun i => some (i * s, s)) (c := c) (i := j) (rest := qs) rfl h1 (by omega)
    have hc1 : c1.size = n * s := by
      have := congrArg List.length e2
      simp at this; omega
    simp only [List.map_cons, nodupB, Bool.and_eq_true, Bool.not_eq_true'] at hd
    obtain ⟨c', k1, k2, k3⟩ := fill_rows hs qs c1 hc1 (fun q hqm => hq q (by simp [hqm])) hd.2
    refine ⟨c', by rw [e1]; exact k1, k2, fun i hi => ?_⟩
    rw [k3 i hi]
    simp only [List.find?_cons]
    by_cases hji : j = i
    · subst hji
      have hnone : qs.find? (fun q => Nat.beq q.1 j) = none := by
        rw [List.find?_eq_none]
        intro q hqm hb
        have := Nat.eq_of_beq_eq_true hb
        have hmem : j ∈ qs.map (·.1) := List.mem_map.2 ⟨q, hqm, this⟩
        have := hd.1
        rw [List.elem_eq_mem] at this
        simp at this
        exact absurd hmem (by simpa using this)
      rw [hnone, beq_self]
      simp only
      rw [row_in (p := j * s) (off := 0) (n := s) (c := c) (vs := v.cells.toList) (by omega) (by simp; omega) (by simpa using e2)]
      have hrl : (row c (j * s) s).length = s := row_length (by omega)
      rw [List.drop_eq_nil_iff.2 (by rw [hrl]; simp; omega)]
      simp
    · rw [beq_ne hji]
      simp only
      cases hfd : qs.find? (fun q => Nat.beq q.1 i) with
      | some q => rfl
      | none =>
        simp only
        rw [row_out (c := c) (s := j * s) (vs := v.cells.toList) (by simp; omega) (by simpa using e2)]
        simp
        rcases Nat.lt_or_gt_of_ne hji with h | h
        · right
          have : (j + 1) * s ≤ i * s := Nat.mul_le_mul_right _ h
          rw [Nat.add_mul] at this; omega
        · left
          have : (i + 1) * s ≤ j * s := Nat.mul_le_mul_right _ h
          rw [Nat.add_mul] at this; omega
theorem find_pair {ps : List (Nat × AV)} {qs : List (Nat × Value)} (i : Nat) : ps.map (·.1) = qs.map (·.1) → RVL x (ps.map (·.2)) (qs.map (·.2)) →
    (ps.find? (fun p => Nat.beq p.1 i) = none ∧ qs.find? (fun q => Nat.beq q.1 i) = none) ∨ ∃ p q, ps.find? (fun p => Nat.beq p.1 i) = some p ∧ qs.find? (fun q => Nat.beq q.1 i) = some q ∧ RV x p.2 q.2 ∧ p ∈ ps := by
  induction ps generalizing qs with
  | nil =>
    intro h _
    cases qs with
    | nil => exact .inl ⟨rfl, rfl⟩
    | cons => simp at h
  | cons p ps ih =>
    intro h hv
    cases qs with
    | nil => simp at h
    | cons q qs =>
      simp only [List.map_cons, List.cons.injEq] at h
      simp only [List.map_cons] at hv
      cases hv with
      | cons _ _ _ _ h1 h2 =>
      simp only [List.find?_cons]
      rw [h.1]
      cases hb : Nat.beq q.1 i with
      | true => exact .inr ⟨p, q, rfl, rfl, h1, by simp⟩
      | false =>
        rcases ih h.2 h2 with h | ⟨p', q', k1, k2, k3, k4⟩
        · exact .inl h
        · exact .inr ⟨p', q', k1, k2, k3, by simp [k4]⟩
theorem toksL_mem {vs : List AV} {v : AV} (h : v ∈ vs) : ∀ T ∈ toks v, T ∈ toksL vs := by
  induction vs with
  | nil => cases h
  | cons u vs ih =>
    intro T hT
    simp only [toksL, List.mem_append]
    rcases List.mem_cons.1 h with rfl | h
    · exact .inl hT
    · exact .inr (ih h T hT)
theorem zero_cells_row {z : Array Value} {n s i : Nat} (hz : z.size = s) (hi : i < n) (hs : 0 < s) : row ((Array.range (n * s)).map (z[· % z.size]!)) (i * s) s = z.toList := made_row hz hi hs
include hT hr hp in
theorem buildSlice_sound (hn : ∀ k, w.heap.size ≤ k → n0 k) (hf : ∀ T ∈ heapToks x.H, ¬ InB tok T) {st e : Nat} {ty : Ty} {te : TI} (he : elemTy C st = some (e, ty, te)) {env : Env} {a : Act}
    (henv : ∀ t, RV x (get env t) (a.tmps.getD t undef)) (ps : Array (Nat × Operand)) {n : Nat} {l : List (den ty)} (hl : elemsOf x.H ty (ps.toList.map fun p => (p.1, ev env p.2)) 0 n = some l)
    (hsz : n * te.size ≤ 16777216) (hnd : nodupB (ps.toList.map (·.1)) = true) (hlt : ∀ p ∈ ps.toList, p.1 < n) :
    OkV P x n0 tok w (Instr.buildSlice st n (ps.map fun (i, o) => (i, a.eval o))) (.v (.who tok true) (hput (freeze (toksL (ps.toList.map fun p => ev env p.2)) x.H) tok (.arr ty l))) := fun _ => by
  obtain ⟨hu, ok, hty, h1, h2⟩ := elemTy_ok hT he
  obtain ⟨i, z, hi, hs, hb, hz, hd⟩ := zero_deep hr ok hty
  obtain ⟨hcs, _, _⟩ := ok.pure hty
  have hzs : z.cells.size = csz ty := by have := hd.length; simpa using this
  obtain ⟨hll, hel⟩ := elemsOf_some hl
  obtain ⟨m1, m2⟩ := parts_ev henv ps.toList
  let ts := toksL (ps.toList.map fun p => ev env p.2)
  have N1 := frz_next hr hp (tok := tok) ts
  have hshow : ∀ p ∈ (ps.toList.map fun p => (p.1, ev env p.2)), Shows x (frzCx x ts).fz (toks p.2) := by
    intro p hp T hT
    obtain ⟨q, hq, rfl⟩ := List.mem_map.1 hp
    exact frz_shows hr ts T (toksL_mem (List.mem_map.2 ⟨q, hq, rfl⟩) T hT)
  have hpart : ∀ p q, p ∈ (ps.toList.map fun p => (p.1, ev env p.2)) → RV x p.2 q → ∀ y, toDen x.H ty p.2 = some y → DeepC x.hp (frzCx x ts).fz ty y q.cells.toList ∧ q.cells.size = csz ty := by
    intro p q hp hrv y hy
    have := toDen_deep hr (fz' := (frzCx x ts).fz) (fun b hb => .inl hb) hrv (hshow p hp) hy
    exact this.cells this.isOne
  have hall : ∀ q ∈ (ps.toList.map fun p => (p.1, a.eval p.2)), q.2.cells.size = csz ty ∧ q.1 < n := by
    intro q hq
    obtain ⟨p0, hp0, rfl⟩ := List.mem_map.1 hq
    have hlt0 := hlt p0 hp0
    refine ⟨?_, hlt0⟩
    rcases find_pair (x := x) p0.1 m1 m2 with ⟨hnone, _⟩ | ⟨p, q, k1, k2, k3, k4⟩
    · rw [List.find?_eq_none] at hnone
      exact absurd (beq_self p0.1) (hnone (p0.1, ev env p0.2) (List.mem_map.2 ⟨p0, hp0, rfl⟩))
    · have h3 := hel p0.1 (by omega)
      rw [Nat.zero_add, k1] at h3
      have huniq : p = (p0.1, ev env p0.2) := by
        have hfst : p.1 = p0.1 := Nat.eq_of_beq_eq_true (by have := List.find?_some k1; simpa using this)
        have hnd' : nodupB ((ps.toList.map fun p => (p.1, ev env p.2)).map (·.1)) = true := by
          rw [List.map_map]; exact hnd
        have key : ∀ (l : List (Nat × AV)), nodupB (l.map (·.1)) = true → ∀ a ∈ l, ∀ b ∈ l, a.1 = b.1 → a = b := by
          intro l
          induction l with
          | nil => intro _ a ha; cases ha
          | cons c l ih =>
            intro hnd a ha b hb hab
            simp only [List.map_cons, nodupB, Bool.and_eq_true, Bool.not_eq_true', List.elem_eq_mem, decide_eq_false_iff_not] at hnd
            rcases List.mem_cons.1 ha with ha' | ha' <;> rcases List.mem_cons.1 hb with hb' | hb'
            · rw [ha', hb']
            · exact absurd (List.mem_map.2 ⟨b, hb', by rw [← hab, ha']⟩) hnd.1
            · exact absurd (List.mem_map.2 ⟨a, ha', by rw [hab, hb']⟩) hnd.1
            · exact ih hnd.2 a ha' b hb' hab
        exact key _ hnd' p k4 _ (List.mem_map.2 ⟨p0, hp0, rfl⟩) hfst
      subst huniq
      exact (hpart _ _ k4 (ev_RV henv p0.2) _ h3).2
  have hnd' : nodupB ((ps.toList.map fun p => (p.1, a.eval p.2)).map (·.1)) = true := by rw [List.map_map]; exact hnd
  obtain ⟨c', k1, k2, k3⟩ := fill_rows (s := csz ty) (n := n) (by omega) (ps.toList.map fun p => (p.1, a.eval p.2)) ((Array.range (n * csz ty)).map (z.cells[· % z.cells.size]!)) (by simp) hall hnd'
  have hrows : Rows x.hp (frzCx x ts).fz ty l c' 0 := by
    intro j hj
    rw [Nat.zero_add, k3 j (by omega)]
    have h3 := hel j hj
    rw [Nat.zero_add] at h3
    rcases find_pair (x := x) j m1 m2 with ⟨e1, e2⟩ | ⟨p, q, e1, e2, e3, e4⟩
    · rw [e1] at h3
      rw [e2]
      simp only at h3 ⊢
      rw [zero_cells_row hzs (by omega) (by omega), h3]
      exact DeepC.mono (fun b hb => ⟨.inl hb, rfl⟩) _ _ _ hd
    · rw [e1] at h3
      rw [e2]
      exact (hpart p q.2 e4 e3 _ h3).1
  have hrun : (Instr.buildSlice st n (ps.map fun (i, o) => (i, a.eval o))).run P w = .ok (.slice (some ⟨w.heap.size, 0, none⟩) n n) (w.alloc (Obj.cells c' e)) := by
    have e1 : (ps.map fun (i, o) => (i, a.eval o)).toList = ps.toList.map fun p => (p.1, a.eval p.2) := by simp
    have hsz' : ¬ (16777216 < n * csz ty) := by rw [hcs]; omega
    by_cases hn0 : n = 0
    · subst hn0
      have hps : ps.toList = [] := by
        cases hpl : ps.toList with
        | nil => rfl
        | cons p l => have := hlt p (by rw [hpl]; simp); omega
      have hc' : c' = #[] := by
        have : c'.size = 0 := by omega
        exact Array.eq_empty_of_size_eq_zero this
      have hps' : ps = #[] := by
        apply Array.ext'; simpa using hps
      subst hps'
      simp [Instr.buildSlice, run_underlying hu, ok.sizeOf, Instr.fill, newRow, hc', Array.range_zero']
    · have hne : ¬ (n * csz ty = 0) := by
        intro h
        rcases Nat.mul_eq_zero.1 h with h | h <;> omega
      have hs2 : te.size = csz ty := hcs.symm
      have k1' := k1
      simp [Instr.buildSlice, run_underlying hu, ok.sizeOf, hs2, hsz', hne, zeroValue, typeInfo, hi, hz, newRow, k1']
  have hg := alloc_grew w (Obj.cells c' e)
  have hnew := alloc_new w (Obj.cells c' e)
  have hg1 : Grew (frzCx x ts).hp (w.alloc (Obj.cells c' e)).heap := by show Grew x.hp _; rw [hp]; exact hg
  refine ⟨_, _, _, hrun, ?_, N1.trans (new_next (x := frzCx x ts) (loc := some (w.heap.size, 0)) (b := .arr ty l) N1.hr hp (by simp only [frzCx]; rw [heapToks_freeze]; exact hf) hg
    (below_push hn rfl rfl rfl hg) (fun B o h => by simp at h; omega) (fun B hB => Nat.lt_of_lt_of_le (N1.hr.size B hB) hg1.1) ?_), ?_⟩
  · rfl
  · refine .inr ⟨w.heap.size, 0, c', e, (0, 0), by simp [newCx], hnew, hn _ (Nat.le_refl _), ?_, unfrozen_zero _, by rw [k2, hll]; simp, ?_⟩
    · intro hfz
      have := N1.hr.size _ hfz
      have e : (frzCx x ts).hp.size = w.heap.size := by show x.hp.size = _; rw [hp]
      omega
    · intro j hj
      exact DeepC.mono (fun b hb => ⟨hb, hg1.2 b (N1.hr.size b hb)⟩) _ _ _ (hrows j hj)
  · refine .who _ _ _ _ _ fun t' l' ha => ?_
    have : t' = ty ∧ HEq l' l := by
      rcases ha with ha | ha
      · simp only [newCx, hget_hput, if_true, Option.some.injEq, Blk.arr.injEq] at ha
        obtain ⟨rfl, h⟩ := ha; exact ⟨rfl, h.symm⟩
      · simp only [newCx, hget_hput, if_true, Option.some.injEq] at ha; cases ha
    obtain ⟨rfl, hl'⟩ := this
    cases hl'
    refine ⟨hll.symm, Nat.le_refl _, fun _ => rfl, .inr ⟨w.heap.size, 0, c', e, (0, 0), by simp [newCx], by simp, hnew, ?_⟩⟩
    rw [k2]; simp
end
end Go.Proofs.YtpdfjgooaaailaaGreatDoor.K
namespace Go.Proofs.YtpdfjgooaaailaaGreatDoor.K
open Go
open Go.RowKit (Below)
section
variable {P : Program} {C : Ctx} (hT : CtxTI P C) {x : Cx} {n0 : Nat → Prop} {tok : Nat} (hr : HR x n0) {w : World} (hp : x.hp = w.heap)
def SlC (x : Cx) (t : Ty) (ys : List (den t)) (v : Value) : Prop :=
  ∃ a cap, v = .slice a ys.length cap ∧ ys.length ≤ cap ∧ (ys ≠ [] → ∃ b o c e fr, a = some ⟨b, o, none⟩ ∧ x.hp[b]? = some (Obj.cells c e fr) ∧ Rows x.hp x.fz t ys c o)
include hr in
theorem toDen_SlC {av : AV} {v : Value} {t : Ty} {ys : List (den t)} (h : RV x av v) (ho : toDen x.H (.sl t) av = some ys) : SlC x t ys v := by
  have ho' : ofCell (.sl t) (deep x.H av) = some ys := by
    cases av <;> simpa [toDen, isAgg] using ho
  have af : ∀ {tk : Nat} {t' : Ty} {l : List (den t')} {a : Option Addr} {off len cap : Nat}, AF x.H tk t' l → off + len ≤ l.length → len ≤ cap → Place x tk t' a off len cap →
      ofCell (.sl t) (.sl t' ((l.drop off).take len) false) = some ys → SlC x t ys (.slice a len cap) := by
    intro tk t' l a off len cap ha h1 h2 h3 ho
    simp only [ofCell] at ho
    split at ho
    · rename_i he
      subst he
      simp only [Option.some.injEq] at ho; subst ho
      have hlen : ((l.drop off).take len).length = len := by simp; omega
      refine ⟨a, cap, by rw [hlen], by rw [hlen]; exact h2, fun hne => ?_⟩
      have hpos : 0 < len := by
        rcases Nat.eq_zero_or_pos len with h | h
        · subst h; simp at hne
        · exact h
      rcases h3 with ⟨h4, _⟩ | ⟨b, o, c, e, fr, h4, h5, h6, h7⟩
      · omega
      rcases af_deep hr ha with ⟨_, h8⟩ | ⟨b', o', c', e', fr', g1, g2, g3, g4⟩
      · rw [h4] at h8; cases h8
      rw [h4] at g1; cases g1
      refine ⟨b, o + off * csz t', c', e', fr', h5, g2, fun i hi => ?_⟩
      rw [hlen] at hi
      have := g4 (off + i) (by omega)
      have e1 : o + off * csz t' + i * csz t' = o + (off + i) * csz t' := by rw [Nat.add_mul]; omega
      rw [e1]
      simpa using this
    · simp at ho
  cases h with
  | sl t' l f a cap h1 h2 h3 =>
    simp only [deep, ofCell] at ho'
    split at ho'
    · rename_i he
      subst he
      simp only [Option.some.injEq] at ho'; subst ho'
      refine ⟨a, cap, rfl, h1, fun hne => ?_⟩
      obtain ⟨b, o, c, e, fr, g1, g2, g3, g4⟩ := h3 hne
      exact ⟨b, o, c, e, fr, g1, g3, g4⟩
    · simp at ho'
  | nilsl =>
    simp only [deep, ofCell, Option.some.injEq] at ho'; subst ho'
    exact ⟨none, 0, rfl, Nat.le_refl _, fun h => absurd rfl h⟩
  | who tk f a n cap q =>
    simp only [deep] at ho'
    split at ho'
    · rename_i t' l hg
      obtain ⟨g1, g2, g3, g4⟩ := q t' l (.inl hg)
      subst g1
      exact af (.inl hg) (off := 0) (len := l.length) (by simp) g2 g4 (by simpa using ho')
    · rename_i t' l hg
      obtain ⟨g1, g2, g3, g4⟩ := q t' l (.inr hg)
      subst g1
      exact af (.inr hg) (off := 0) (len := l.length) (by simp) g2 g4 (by simpa using ho')
    · simp [ofCell] at ho'
  | ref tk off len f a cap q =>
    simp only [deep] at ho'
    split at ho'
    · rename_i t' l hg
      obtain ⟨g1, g2, g3, g4⟩ := q t' l (.inl hg)
      exact af (.inl hg) g1 g2 g4 ho'
    · rename_i t' l hg
      obtain ⟨g1, g2, g3, g4⟩ := q t' l (.inr hg)
      exact af (.inr hg) g1 g2 g4 ho'
    · simp [ofCell] at ho'
  | _ => simp [deep, ofCell] at ho'
structure News (P : Program) (x : Cx) (w : World) (t : Ty) (ys : List (den t)) (v : Value) (news : List Value) : Prop where
  len : ∀ w', (Builtin.lenOf v).run P w' = .ok ys.length w'
  first : ∀ w', w'.heap = w.heap → (Builtin.firstCells (csz t) ys.length v).run P w' = .ok news.toArray w'
  size : news.length = ys.length * csz t
  rows : Rows x.hp x.fz t ys news.toArray 0
theorem row_toArray (l : List Value) (o n : Nat) : row l.toArray o n = (l.drop o).take n := rfl
include hp in
theorem SlC.news {t : Ty} {ys : List (den t)} {v : Value} (h : SlC x t ys v) (hs : 0 < csz t) : ∃ news, News P x w t ys v news := by
  obtain ⟨a, cap, rfl, hc, hrow⟩ := h
  by_cases hne : ys = []
  · subst hne
    refine ⟨[], fun w' => by simp [Builtin.lenOf], fun w' _ => ?_, by simp, fun i hi => by simp at hi⟩
    cases a <;> simp [Builtin.firstCells, loadCells, loadCellsFrom]
  · obtain ⟨b, o, c, e, fr, rfl, hb, hrows⟩ := hrow hne
    have hpos : 0 < ys.length := List.length_pos_iff.2 hne
    have hbound : o + ys.length * csz t ≤ c.size := by
      have h1 := DeepC.length _ _ _ (hrows (ys.length - 1) (by omega))
      unfold row at h1
      simp at h1
      have : ys.length * csz t = (ys.length - 1) * csz t + csz t := by
        rw [← Nat.succ_mul]; congr 1; omega
      omega
    have hlen : (row c o (ys.length * csz t)).length = ys.length * csz t := row_length hbound
    refine ⟨row c o (ys.length * csz t), fun w' => by simp [Builtin.lenOf], fun w' hw => ?_, hlen, fun i hi => ?_⟩
    · have hb' : w'.heap[b]? = some (Obj.cells c e fr) := by rw [hw, ← hp]; exact hb
      exact run_firstCells_some (P := P) w' (csz t) ys.length ⟨b, o, none⟩ _ cap _ hlen (fun j u hu => by rw [addr_add]; exact range_row hb' j u hu)
    · have := hrows i hi
      have hle : (i + 1) * csz t ≤ ys.length * csz t := Nat.mul_le_mul_right _ hi
      rw [Nat.add_mul] at hle
      have e1 : row (row c o (ys.length * csz t)).toArray (0 + i * csz t) (csz t) = row c (o + i * csz t) (csz t) := by
        rw [row_toArray, Nat.zero_add, row_sub (m := ys.length * csz t) (by omega)]
      rw [e1]; exact this
include hr hp in
theorem newsOf_sound {av : AV} {v : Value} {t : Ty} {ys : List (den t)} (h : RV x av v) (ho : newsOf x.H t av = some ys) (hs : 0 < csz t) : ∃ news, News P x w t ys v news := by
  unfold newsOf at ho
  split at ho
  · rename_i s
    split at ho
    · simp only [Option.some.injEq] at ho; subst ho
      cases h
      refine ⟨s.map fun b => .int .u8 (b.toNat : Int), fun w' => by simp [Builtin.lenOf, ByteArray.size], fun w' _ => ?_, by simp [csz], fun i hi => ?_⟩
      · simp only [Builtin.firstCells, List.length_map]
        have e : (ByteArray.mk s.toArray).extract 0 s.length = ⟨s.toArray⟩ := by
          apply ByteArray.ext
          apply Array.ext'
          simp [ByteArray.data_extract, Array.toList_extract]
        simp [e]
      · simp only [List.length_map] at hi
        simp only [DeepC, csz, Nat.mul_one, Nat.zero_add, List.getElem_map]
        rw [row_toArray]
        have hlt : i < (s.map fun b => Value.int .u8 (b.toNat : Int)).length := by simpa using hi
        rw [List.drop_eq_getElem_cons hlt]
        simp
    · simp at ho
  · exact (toDen_SlC hr h ho).news hp hs
theorem rows_append {hp : Array Obj} {ok : Nat → Prop} {t : Ty} {l1 l2 : List (den t)} {a b : List Value} {r : List Value} (h1 : a.length = l1.length * csz t) (h2 : b.length = l2.length * csz t)
    (k1 : Rows hp ok t l1 a.toArray 0) (k2 : Rows hp ok t l2 b.toArray 0) : Rows hp ok t (l1 ++ l2) (a ++ b ++ r).toArray 0 := by
  intro i hi
  simp only [List.length_append] at hi
  by_cases h : i < l1.length
  · have hle : (i + 1) * csz t ≤ l1.length * csz t := Nat.mul_le_mul_right _ h
    rw [Nat.add_mul] at hle
    rw [List.getElem_append_left h]
    have e : row (a ++ b ++ r).toArray (0 + i * csz t) (csz t) = row a.toArray (0 + i * csz t) (csz t) := by
      apply List.ext_getElem?
      intro k
      rw [row_get, row_get]
      split
      · simp only [List.append_assoc]
        rw [List.getElem?_append_left (by omega)]
      · rfl
    rw [e]; exact k1 i h
  · have hlt : i - l1.length < l2.length := by omega
    rw [List.getElem_append_right (by omega)]
    have hle : (i - l1.length + 1) * csz t ≤ l2.length * csz t := Nat.mul_le_mul_right _ hlt
    rw [Nat.add_mul] at hle
    have hi2 : i * csz t = l1.length * csz t + (i - l1.length) * csz t := by rw [← Nat.add_mul]; congr 1; omega
    have e : row (a ++ b ++ r).toArray (0 + i * csz t) (csz t) = row b.toArray (0 + (i - l1.length) * csz t) (csz t) := by
      apply List.ext_getElem?
      intro k
      rw [row_get, row_get]
      split
      · rename_i hk
        simp only [List.append_assoc]
        rw [List.getElem?_append_right (by omega)]
        rw [List.getElem?_append_left (by omega)]
        congr 1
        omega
      · rfl
    rw [e]; exact k2 _ hlt
theorem run_append_fit {t tx ty e : Nat} {ts : List Nat} {i : TypeInfo} (ht : P.underlying t = some (.slice e)) {dx : TypeDesc} (hx : P.underlying tx = some dx) (hxi : ∀ k, dx ≠ .int k) (hi : P.info? e = some i)
    {base : Option Addr} {sLen sCap n : Nat} {v : Value} {news : List Value} (hlen : ∀ w', (Builtin.lenOf v).run P w' = .ok n w')
    (hfirst : (Builtin.firstCells i.size n v).run P w = .ok news.toArray w) (hfit : sLen + n ≤ sCap) {w' : World}
    (hst : ∀ a, base = some a → (storeCells (a.add (sLen * i.size)) news).run P w = .ok () w') (hno : base = none → w' = w) :
    (Builtin.append_ (t :: tx :: ts).toArray ty #[.slice base sLen sCap, v]).run P w = .ok (.slice base (sLen + n) sCap) w' := by
  have hz : (match dx with
    | .int _ => true
    | _ => false) = false := by cases dx <;> first | rfl | exact absurd rfl (hxi _)
  cases base with
  | none =>
    have := hno rfl
    subst this
    simp [Builtin.append_, run_underlying ht, run_underlying hx, sizeOf, typeInfo, hi, hz, hlen, hfit, hfirst]
  | some a =>
    have := hst a rfl
    simp [Builtin.append_, run_underlying ht, run_underlying hx, sizeOf, typeInfo, hi, hz, hlen, hfit, hfirst, this]
theorem run_append_grown {t tx ty e : Nat} {ts : List Nat} {i : TypeInfo} {z : Value} (ht : P.underlying t = some (.slice e)) {dx : TypeDesc} (hx : P.underlying tx = some dx) (hxi : ∀ k, dx ≠ .int k) (hi : P.info? e = some i)
    (hz : i.zero = some z) {base : Option Addr} {sLen sCap n : Nat} {v : Value} {olds news : List Value} (hlen : ∀ w', (Builtin.lenOf v).run P w' = .ok n w')
    (hfirst : ∀ w', w'.heap = w.heap → (Builtin.firstCells i.size n v).run P w' = .ok news.toArray w')
    (holds : ∀ w', w'.heap = w.heap → (Builtin.firstCells i.size sLen (.slice base sLen sCap)).run P w' = .ok olds.toArray w')
    (hfit : sCap < sLen + n) (hroom : (sLen + n) * i.bytes ≤ 140737488355328) (hby : 1 ≤ i.bytes) :
    (Builtin.append_ (t :: tx :: ts).toArray ty #[.slice base sLen sCap, v]).run P w =
      .ok (.slice (some ⟨w.heap.size, 0, none⟩) (sLen + n) (grownCap w (sLen + n) sCap e))
        (w.drew.alloc (Obj.cells (olds ++ news ++ (Builtin.zeroCells z.cells (grownCap w (sLen + n) sCap e - (sLen + n))).toList).toArray e)) := by
  have hzz : (match dx with
    | .int _ => true
    | _ => false) = false := by cases dx <;> first | rfl | exact absurd rfl (hxi _)
  have hn : ¬ (sLen + n ≤ sCap) := by omega
  have hle : sLen + n ≤ (sLen + n) * i.bytes := Nat.le_mul_of_pos_right _ hby
  have h63' : ¬ (9223372036854775807 < ((sLen : Int) + (n : Int)) ∧ i.bytes = 0) := by omega
  have h48' : ¬ (281474976710656 < Builtin.nextslicecap (sLen + n) sCap * i.bytes) := by
    have := growslice_fits hfit hroom
    omega
  have e1 := hfirst w.drew rfl
  have e2 := holds w.drew rfl
  simp [Builtin.append_, run_underlying ht, run_underlying hx, sizeOf, typeInfo, zeroValue, hi, hz, hzz, hlen, hn, h63', h48', Question.forced, e1, e2, newRow, grownCap]
  congr 2
  apply Array.ext'
  simp
def delCx (x : Cx) (tk : Nat) : Cx := { x with H := hdel x.H tk }
theorem AF_del {H : Heap} {tk u : Nat} {t : Ty} {l : List (den t)} (h : AF (hdel H tk) u t l) : u ≠ tk ∧ AF H u t l := by
  unfold AF at *
  rw [hget_hdel] at h
  by_cases hu : u = tk
  · rw [if_pos hu] at h; simp at h
  · rw [if_neg hu] at h; exact ⟨hu, h⟩
include hr hp in
theorem del_next (tk : Nat) : Nx x (delCx x tk) n0 tok w w := by
  have E : ∀ S, Ext x (delCx x tk) S := fun S => ⟨fun _ h => ⟨h, rfl⟩, .refl _, fun T _ t l h => ⟨l, (AF_del h).2, rfl, rfl⟩, fun T _ cs h => by
    simp only [delCx, hget_hdel] at h
    split at h
    · cases h
    · exact ⟨cs, h, rfl⟩, fun _ => rfl⟩
  have hg : ∀ T b, hget (delCx x tk).H T = some b → T ≠ tk ∧ hget x.H T = some b := by
    intro T b h
    simp only [delCx, hget_hdel] at h
    split at h
    · cases h
    · rename_i hne; exact ⟨hne, h⟩
  refine ⟨E _, ⟨fun T b h => ?_, fun t1 t2 B h1 h2 => ?_, hr.size⟩, fun b h => .inl h, .refl _ _, hp⟩
  · obtain ⟨_, h⟩ := hg T b h
    have := hr.blk T b h
    cases b with
    | arr t l => exact this
    | fro t l => exact this
    | box cs =>
      obtain ⟨B, c, e, fr, k1, k2, k3, k4, k5, k6, k7⟩ := this
      exact ⟨B, c, e, fr, k1, k2, k3, k4, k5, k6, RVL.mono (E fun _ => True) k7 fun _ _ => trivial⟩
  · have back : ∀ T, Owns (delCx x tk) T B → Owns x T B := by
      rintro T ⟨ho, h⟩
      refine ⟨ho, ?_⟩
      rcases h with ⟨t, l, h⟩ | ⟨cs, h⟩
      · exact .inl ⟨t, l, (hg T _ h).2⟩
      · exact .inr ⟨cs, (hg T _ h).2⟩
    exact hr.inj t1 t2 B (back t1 h1) (back t2 h2)
theorem heapToks_del {H : Heap} {tk T : Nat} (h : T ∈ heapToks (hdel H tk)) : T ∈ heapToks H := by
  induction H with
  | nil => exact h
  | cons p H ih =>
    obtain ⟨u, b⟩ := p
    simp only [hdel] at h
    simp only [heapToks, List.flatMap_cons, List.mem_append] at *
    split at h
    · exact .inr (ih h)
    · simp only [List.flatMap_cons, List.mem_append] at h
      rcases h with h | h
      · exact .inl h
      · exact .inr (ih h)
theorem reuse_nextS {b : Nat} (hr : HR x n0) (hp : x.hp = w.heap) (hf : ∀ T ∈ heapToks x.H, T ≠ tok) (hnf : ¬ x.fz b) (hno : ∀ T, ¬ Owns x T b) {w' : World}
    (hoth : ∀ k, k ≠ b → w'.heap[k]? = w.heap[k]?) (hs : w'.heap.size = w.heap.size) (hsz : SameSizes w.heap w'.heap) (hbel : Bel n0 w w') {o : Nat} {blk : Blk}
    (hblk : BlkR (newCx x w'.heap tok (some (b, o)) blk) n0 tok blk) : NxS x (newCx x w'.heap tok (some (b, o)) blk) n0 (fun T => T ≠ tok) w w' := by
  have ne : ∀ T, T ≠ tok → T ≠ tok := fun T h => h
  have E : Ext x (newCx x w'.heap tok (some (b, o)) blk) (fun T => T ≠ tok) := by
    refine ⟨fun k hk => ⟨hk, ?_⟩, by rw [hp]; exact hsz, fun T hT t l h => ?_, fun T hT cs h => ?_, fun _ => rfl⟩
    · have : k ≠ b := fun h => hnf (h ▸ hk)
      rw [hp]; exact hoth k this
    · have hn := ne T hT
      simp only [newCx, AF, hget_hput, if_neg hn] at h
      exact ⟨l, h, rfl, by simp [newCx, hn]⟩
    · have hn := ne T hT
      simp only [newCx, hget_hput, if_neg hn] at h
      exact ⟨cs, h, by simp [newCx, hn]⟩
  have hdeep : ∀ (t : Ty) (y : den t) vs, DeepC x.hp x.fz t y vs → DeepC w'.heap x.fz t y vs :=
    fun t y vs h => DeepC.mono (fun k hk => ⟨hk, by rw [hp]; exact hoth k fun h => hnf (h ▸ hk)⟩) t y vs h
  refine ⟨E, ⟨fun T b' hb' => ?_, fun t1 t2 B h1 h2 => ?_, fun B hB => ?_⟩, fun B h => .inl h, hbel, rfl⟩
  · simp only [newCx, hget_hput] at hb'
    split at hb'
    · rename_i hT
      subst hT
      simp only [Option.some.injEq] at hb'; subst hb'
      exact hblk
    · rename_i hT
      have h0 := hr.blk T b' hb'
      obtain ⟨_, hin⟩ := toks_hget _ _ _ hb'
      have hat : ∀ (B : Nat) o, B ≠ b → x.hp[B]? = o → w'.heap[B]? = o := fun B o h k => by rw [hoth B h, ← hp]; exact k
      cases b' with
      | arr t l =>
        rcases h0 with ⟨h1, h2⟩ | ⟨B, o, c, e, fr, h1, h2, h3, h4, h5, h6, h7⟩
        · exact .inl ⟨h1, by simp [newCx, hT, h2]⟩
        · exact .inr ⟨B, o, c, e, fr, by simp [newCx, hT, h1], hat B _ (fun e => hno T (e ▸ ⟨⟨o, h1⟩, .inl ⟨t, l, hb'⟩⟩)) h2, h3, h4, h5, h6, fun i hi => hdeep _ _ _ (h7 i hi)⟩
      | fro t l =>
        rcases h0 with ⟨h1, h2⟩ | ⟨B, o, c, e, fr, h1, h2, h3, h4, h5⟩
        · exact .inl ⟨h1, by simp [newCx, hT, h2]⟩
        · exact .inr ⟨B, o, c, e, fr, by simp [newCx, hT, h1], hat B _ (fun e => hnf (e ▸ h3)) h2, h3, h4, fun i hi => hdeep _ _ _ (h5 i hi)⟩
      | box cs =>
        obtain ⟨B, c, e, fr, h1, h2, h3, h4, h5, h6, h7⟩ := h0
        exact ⟨B, c, e, fr, by simp [newCx, hT, h1], hat B _ (fun e => hno T (e ▸ ⟨⟨0, h1⟩, .inr ⟨cs, hb'⟩⟩)) h2, h3, h4, h5, h6, RVL.mono E h7 fun T' hT' => hf T' (hin T' hT')⟩
  · have key : ∀ T, Owns (newCx x w'.heap tok (some (b, o)) blk) T B → (T = tok ∧ B = b) ∨ (T ≠ tok ∧ Owns x T B) := by
      rintro T ⟨⟨o', ho⟩, h⟩
      by_cases hT : T = tok
      · subst hT
        simp [newCx] at ho
        exact .inl ⟨rfl, ho.1.symm⟩
      · simp only [newCx, if_neg hT] at ho
        simp only [newCx, hget_hput, if_neg hT] at h
        exact .inr ⟨hT, ⟨o', ho⟩, h⟩
    rcases key t1 h1 with ⟨a1, a2⟩ | ⟨a1, a2⟩ <;> rcases key t2 h2 with ⟨b1, b2⟩ | ⟨b1, b2⟩
    · rw [a1, b1]
    · subst a2; exact absurd b2 (hno t2)
    · subst b2; exact absurd a2 (hno t1)
    · exact hr.inj t1 t2 B a2 b2
  · have := hr.size B hB
    rw [hp] at this
    show B < w'.heap.size
    omega
theorem reuse_next {b : Nat} (hr : HR x n0) (hp : x.hp = w.heap) (hf : ∀ T ∈ heapToks x.H, ¬ InB tok T) (hnf : ¬ x.fz b) (hno : ∀ T, ¬ Owns x T b) {w' : World}
    (hoth : ∀ k, k ≠ b → w'.heap[k]? = w.heap[k]?) (hs : w'.heap.size = w.heap.size) (hsz : SameSizes w.heap w'.heap) (hbel : Bel n0 w w') {o : Nat} {blk : Blk}
    (hblk : BlkR (newCx x w'.heap tok (some (b, o)) blk) n0 tok blk) : Nx x (newCx x w'.heap tok (some (b, o)) blk) n0 tok w w' :=
  (reuse_nextS hr hp (fun T hT => inB_ne (hf T hT)) hnf hno hoth hs hsz hbel hblk).weaken fun T h => inB_ne h
end
end Go.Proofs.YtpdfjgooaaailaaGreatDoor.K
namespace Go.Proofs.YtpdfjgooaaailaaGreatDoor.K
open Go
open Go.RowKit (Below)
section
variable {P : Program} {C : Ctx} (hT : CtxTI P C) {x : Cx} {n0 : Nat → Prop} {tok : Nat} (hr : HR x n0) {w : World} (hp : x.hp = w.heap)
theorem notInt_ok (hT : CtxTI P C) {t : Nat} (h : notInt C t = true) : ∃ d, P.underlying t = some d ∧ ∀ k, d ≠ .int k := by
  unfold notInt at h
  split at h
  · rename_i ti hti
    split at h
    · rename_i e hs
      exact ⟨_, (hT _ _ hti).slice hs, fun k => by simp⟩
    · rename_i hs
      exact ⟨_, (hT _ _ hti).str hs, fun k => by simp⟩
    · simp at h
  · simp at h
def delO (H : Heap) : Option Nat → Heap
  | some tk => hdel H tk
  | none => H
theorem append_core (hr : HR x n0) (hp : x.hp = w.heap) (hn : ∀ k, w.heap.size ≤ k → n0 k) (hf : ∀ T ∈ heapToks x.H, ¬ InB tok T) {st tx ty e : Nat} {ts : List Nat} {t : Ty} {te : TI} (ok : TIok P e te) (hty : te.ty = some t)
    (hu : P.underlying st = some (.slice e)) {dx : TypeDesc} (hx : P.underlying tx = some dx) (hxi : ∀ k, dx ≠ .int k) (h1 : 1 ≤ te.size) (h2 : 1 ≤ te.bytes)
    {l ys : List (den t)} {base : Option Addr} {sCap : Nat} {v : Value} (hl : SlC x t l (.slice base l.length sCap)) {news : List Value} (hnews : News P x w t ys v news)
    (room : (l.length + ys.length) * te.bytes ≤ 140737488355328) (del : Option Nat)
    (hin : l.length + ys.length ≤ sCap → (l.length = 0 ∧ ys.length = 0 ∧ sCap = 0) ∨ ∃ tk b o c e' fr lf, del = some tk ∧ hget x.H tk = some (.arr t lf) ∧ x.m tk = some (b, o) ∧ base = some ⟨b, o, none⟩ ∧
      x.hp[b]? = some (Obj.cells c e' fr) ∧ o + sCap * csz t ≤ c.size ∧ l = lf.take l.length ∧ l.length ≤ lf.length) :
    ∃ v' w' x', (Builtin.append_ (st :: tx :: ts).toArray ty #[.slice base l.length sCap, v]).run P w = .ok v' w' ∧
      x'.H = hput (delO x.H del) tok (.arr t (l ++ ys)) ∧ Nx x x' n0 tok w w' ∧ RV x' (.who tok false) v' := by
  obtain ⟨i, z, hi, hs, hb, hz, hd⟩ := zero_deep hr ok hty
  obtain ⟨hcs, _, _⟩ := ok.pure hty
  have hpos : 0 < csz t := by omega
  have hzs : z.cells.size = csz t := by have := hd.length; simpa using this
  obtain ⟨olds, ho⟩ := hl.news (P := P) hp hpos
  have D : ∃ x1, Nx x x1 n0 tok w w ∧ x1.H = delO x.H del ∧ x1.hp = x.hp ∧ x1.fz = x.fz ∧ x1.m = x.m ∧ (∀ T ∈ heapToks x1.H, ¬ InB tok T) := by
    cases del with
    | none => exact ⟨x, .refl hr tok hp, rfl, rfl, rfl, rfl, hf⟩
    | some tk => exact ⟨delCx x tk, del_next hr hp tk, rfl, rfl, rfl, rfl, fun T hT => hf T (heapToks_del hT)⟩
  obtain ⟨x1, N1, hH1, hhp1, hfz1, hm1, hf1⟩ := D
  have hp1 : x1.hp = w.heap := by rw [hhp1, hp]
  have who : ∀ (hp' : Array Obj) (loc : Option (Nat × Nat)) (a : Option Addr) (cap : Nat), l.length + ys.length ≤ cap →
      Place (newCx x1 hp' tok loc (.arr t (l ++ ys))) tok t a 0 (l.length + ys.length) cap →
      RV (newCx x1 hp' tok loc (.arr t (l ++ ys))) (.who tok false) (.slice a (l.length + ys.length) cap) := by
    intro hp' loc a cap hc hpl
    refine .who _ _ _ _ _ fun t' l' ha => ?_
    have : t' = t ∧ HEq l' (l ++ ys) := by
      rcases ha with ha | ha
      · simp only [newCx, hget_hput, if_true, Option.some.injEq, Blk.arr.injEq] at ha
        obtain ⟨rfl, h⟩ := ha; exact ⟨rfl, h.symm⟩
      · simp only [newCx, hget_hput, if_true, Option.some.injEq] at ha; cases ha
    obtain ⟨rfl, hl'⟩ := this
    cases hl'
    exact ⟨by simp, hc, by simp, hpl⟩
  by_cases hfit : l.length + ys.length ≤ sCap
  · rcases hin hfit with ⟨g1, g2, g3⟩ | ⟨tk, b, o, c, e', fr, lf, rfl, g2, g3, rfl, g5, g6, g7, g8⟩
    ·
      have hnil : news = [] := by
        have := hnews.size
        rw [g2, Nat.zero_mul] at this
        exact List.eq_nil_of_length_eq_zero this
      subst hnil
      have hrun := run_append_fit (P := P) (w := w) (w' := w) (ts := ts) (ty := ty) (sLen := l.length) (base := base) hu hx hxi hi hnews.len (by rw [hs, ← hcs]; exact hnews.first w rfl) hfit (fun a _ => rfl) (fun _ => rfl)
      have e1 : l ++ ys = [] := by
        rw [List.eq_nil_of_length_eq_zero g1, List.eq_nil_of_length_eq_zero g2]; rfl
      refine ⟨_, _, newCx x1 w.heap tok none (.arr t (l ++ ys)), hrun, by show hput x1.H tok _ = _; rw [hH1], ?_, who _ _ _ _ hfit (.inl ⟨by omega, g3⟩)⟩
      refine N1.trans (new_next (w' := w) N1.hr hp1 hf1 (Grew.refl _) (.refl _ _) (fun B o h => by cases h) (fun B hB => ?_) ?_)
      · have := N1.hr.size B hB
        rw [hp1] at this; exact this
      · exact .inl ⟨e1, by simp [newCx]⟩
    ·
      rw [hp] at g5
      rcases hr.blk _ _ g2 with ⟨hl0, hm0⟩ | ⟨b', o', c', e'', fr', k1, k2, k3, k4, k5, k6, k7⟩
      · rw [g3] at hm0; cases hm0
      rw [g3] at k1; cases k1
      rw [hp] at k2
      rw [g5] at k2
      simp only [Option.some.injEq, Obj.cells.injEq] at k2
      obtain ⟨rfl, rfl, rfl⟩ := k2
      have hsz : (l.length + ys.length) * csz t ≤ sCap * csz t := Nat.mul_le_mul_right _ hfit
      rw [Nat.add_mul] at hsz
      have hnl : news.length = ys.length * csz t := hnews.size
      have hone : ∀ u ∈ news, u.oneCell' = true := by
        intro u hu'
        obtain ⟨j, hj, rfl⟩ := List.getElem_of_mem hu'
        have hj' : j / csz t < ys.length := by
          rw [Nat.div_lt_iff_lt_mul hpos]; omega
        have hd := hnews.rows (j / csz t) hj'
        have hmem : news[j] ∈ row news.toArray (0 + j / csz t * csz t) (csz t) := by
          rw [row_toArray, Nat.zero_add]
          have hmod : j % csz t < csz t := Nat.mod_lt _ hpos
          have hdm : j / csz t * csz t + j % csz t = j := by rw [Nat.mul_comm]; exact Nat.div_add_mod j (csz t)
          have : ((news.drop (j / csz t * csz t)).take (csz t))[j % csz t]? = some news[j] := by
            rw [List.getElem?_take, if_pos hmod, List.getElem?_drop, hdm]
            exact List.getElem?_eq_getElem hj
          exact List.mem_of_getElem? this
        exact DeepC.one t _ _ hd _ hmem
      have hst : (storeCells ((⟨b, o, none⟩ : Addr).add (l.length * i.size)) news).run P w = .ok () (w.setCells b (o + l.length * csz t) news) := by
        rw [addr_add, hs, ← hcs]
        have hcell : ∀ j, j < news.length → (w.cell? ⟨b, o + l.length * csz t + 0 + j, none⟩).isSome = true := by
          intro j hj
          have : o + l.length * csz t + 0 + j < c.size := by omega
          simp only [World.cell?, g5]
          simp [this]; omega
        have hfr : ∀ j, j < news.length → w.frozen? ⟨b, o + l.length * csz t + 0 + j, none⟩ = false := by
          intro j hj
          obtain ⟨lo, hi'⟩ := fr
          have := k5 (o + l.length * csz t + j) (by omega)
          simp only [World.frozen?, g5, Nat.add_zero]
          simp only at this
          simp; omega
        have := run_storeCells_cells (P := P) b (o + l.length * csz t) news 0 w hcell hfr hone
        simpa using this
      have hrun := run_append_fit (P := P) (w := w) (w' := w.setCells b (o + l.length * csz t) news) (ts := ts) (ty := ty) (sLen := l.length) (base := some ⟨b, o, none⟩) hu hx hxi hi hnews.len
        (by rw [hs, ← hcs]; exact hnews.first w rfl) hfit (fun a ha => by cases ha; exact hst) (fun h => by cases h)
      obtain ⟨c', q1, q2, q3, q4, q5, q6, q7⟩ := setCells_heap b news (o + l.length * csz t) w c e' fr g5 (by omega)
      have hcsz : c'.size = c.size := by
        have := congrArg List.length q2
        simp at this; omega
      have hss : SameSizes w.heap (w.setCells b (o + l.length * csz t) news).heap := by
        intro k c0 e0 fr0 h0
        by_cases hkb : k = b
        · subst hkb
          rw [g5] at h0; simp only [Option.some.injEq, Obj.cells.injEq] at h0
          exact ⟨c', e', fr, q1, by rw [hcsz, h0.1]⟩
        · exact ⟨c0, e0, fr0, by rw [q3 k hkb]; exact h0, rfl⟩
      have hno : ∀ T, ¬ Owns x1 T b := by
        rintro T ⟨⟨o', ho'⟩, hT⟩
        rw [hm1] at ho'
        rw [hH1] at hT
        simp only [delO] at hT
        have hTk : T ≠ tk ∧ Owns x T b := by
          rcases hT with ⟨t', l', hT⟩ | ⟨cs, hT⟩
          · simp only [hget_hdel] at hT
            split at hT
            · cases hT
            · rename_i hne; exact ⟨hne, ⟨o', ho'⟩, .inl ⟨t', l', hT⟩⟩
          · simp only [hget_hdel] at hT
            split at hT
            · cases hT
            · rename_i hne; exact ⟨hne, ⟨o', ho'⟩, .inr ⟨cs, hT⟩⟩
        exact hTk.1 (hr.inj T tk b hTk.2 ⟨⟨o, g3⟩, .inl ⟨t, lf, g2⟩⟩)
      refine ⟨_, _, newCx x1 (w.setCells b (o + l.length * csz t) news).heap tok (some (b, o)) (.arr t (l ++ ys)), hrun, by show hput x1.H tok _ = _; rw [hH1], ?_, ?_⟩
      · refine N1.trans (reuse_next N1.hr hp1 hf1 (by rw [hfz1]; exact k4) hno q3 q4 hss (below_set k3 q5 q6 q7 q4 q3 hss) ?_)
        refine .inr ⟨b, o, c', e', fr, by simp [newCx], q1, k3, by show ¬ x1.fz b; rw [hfz1]; exact k4, fun o ho => k5 o (by omega), by rw [List.length_append, Nat.add_mul]; omega, fun j hj => ?_⟩
        have hmono : ∀ (t0 : Ty) (y : den t0) vs, DeepC x.hp x.fz t0 y vs → DeepC (w.setCells b (o + l.length * csz t) news).heap x1.fz t0 y vs :=
          fun t0 y vs h => by
            rw [hfz1]
            exact DeepC.mono (fun k hk => ⟨hk, by rw [hp]; exact q3 k fun h => k4 (h ▸ hk)⟩) t0 y vs h
        simp only [List.length_append] at hj
        by_cases hjl : j < l.length
        · have hle : (j + 1) * csz t ≤ l.length * csz t := Nat.mul_le_mul_right _ hjl
          rw [Nat.add_mul] at hle
          rw [List.getElem_append_left hjl, row_out (c := c) (s := o + l.length * csz t) (by omega) q2 (.inl (by omega))]
          have h7 := k7 j (by omega)
          have e1 : l[j] = lf[j]'(by omega) := by
            have := congrArg (fun z => z[j]?) g7
            simp only [List.getElem?_take, if_pos hjl] at this
            rw [List.getElem?_eq_getElem hjl, List.getElem?_eq_getElem (by omega)] at this
            exact Option.some.inj this
          rw [e1]
          exact hmono _ _ _ h7
        · have hlt : j - l.length < ys.length := by omega
          rw [List.getElem_append_right (by omega)]
          have hd := hnews.rows (j - l.length) hlt
          have hj2 : j * csz t = l.length * csz t + (j - l.length) * csz t := by rw [← Nat.add_mul]; congr 1; omega
          have hle : (j - l.length + 1) * csz t ≤ ys.length * csz t := Nat.mul_le_mul_right _ hlt
          rw [Nat.add_mul] at hle
          have e1 : row c' (o + j * csz t) (csz t) = row news.toArray (0 + (j - l.length) * csz t) (csz t) := by
            apply List.ext_getElem?
            intro k
            rw [row_get, row_get, q2, get_overlay (by simp; omega)]
            by_cases hk : k < csz t
            · rw [if_pos hk, if_pos hk, if_neg (by omega), if_pos (by omega)]
              simp only
              congr 1
              omega
            · rw [if_neg hk, if_neg hk]
          rw [e1]
          exact hmono _ _ _ hd
      · refine who _ _ _ _ hfit (.inr ⟨b, o, c', e', fr, by simp [newCx], by simp, q1, by rw [Nat.zero_add]; omega⟩)
  ·
    have hrun := run_append_grown (P := P) (w := w) (ts := ts) (ty := ty) (sLen := l.length) (base := base) (olds := olds) (news := news) hu hx hxi hi hz hnews.len
      (by rw [hs, ← hcs]; exact hnews.first) (by rw [hs, ← hcs]; exact ho.first) (by omega) (by rw [hb]; exact room) (by omega)
    generalize hgc : grownCap w (l.length + ys.length) sCap e = gc at hrun
    have hge : l.length + ys.length ≤ gc := by rw [← hgc]; exact grownCap_ge w _ _ e
    generalize hrest : (Builtin.zeroCells z.cells (gc - (l.length + ys.length))).toList = rest at hrun
    have hrl : rest.length = (gc - (l.length + ys.length)) * csz t := by
      rw [← hrest, Array.length_toList, size_zeroCells, hzs]
    have hg : Grew w.heap (w.drew.alloc (Obj.cells (olds ++ news ++ rest).toArray e)).heap := alloc_grew w.drew _
    have hnew : (w.drew.alloc (Obj.cells (olds ++ news ++ rest).toArray e)).heap[w.heap.size]? = some (Obj.cells (olds ++ news ++ rest).toArray e) := alloc_new w.drew _
    have hg1 : Grew x1.hp (w.drew.alloc (Obj.cells (olds ++ news ++ rest).toArray e)).heap := by rw [hp1]; exact hg
    have htot : (olds ++ news ++ rest).length = gc * csz t := by
      have e1 := ho.size
      have e2 := hnews.size
      have e3 : gc * csz t = l.length * csz t + ys.length * csz t + (gc - (l.length + ys.length)) * csz t := by
        rw [← Nat.add_mul, ← Nat.add_mul]; congr 1; omega
      simp only [List.length_append]; omega
    have hbig : (l.length + ys.length) * csz t ≤ gc * csz t := Nat.mul_le_mul_right _ hge
    refine ⟨_, _, newCx x1 (w.drew.alloc (Obj.cells (olds ++ news ++ rest).toArray e)).heap tok (some (w.heap.size, 0)) (.arr t (l ++ ys)), hrun, by show hput x1.H tok _ = _; rw [hH1], ?_, ?_⟩
    · refine N1.trans (new_next N1.hr hp1 hf1 hg (below_push hn rfl rfl rfl hg) (fun B o h => by simp at h; omega) (fun B hB => Nat.lt_of_lt_of_le (N1.hr.size B hB) hg1.1) ?_)
      refine .inr ⟨w.heap.size, 0, _, e, (0, 0), by simp [newCx], hnew, hn _ (Nat.le_refl _), ?_, unfrozen_zero _, by simp only [List.size_toArray, htot, List.length_append]; omega, fun j hj => ?_⟩
      · intro hfz
        have := N1.hr.size _ hfz
        rw [hp1] at this; omega
      · have := rows_append (r := rest) ho.size hnews.size ho.rows hnews.rows j hj
        refine DeepC.mono (fun b hb => ⟨by show x1.fz b; rw [hfz1]; exact hb, ?_⟩) _ _ _ this
        have := hg1.2 b (by rw [hhp1]; exact hr.size b hb)
        rw [hhp1] at this
        exact this
    · refine who _ _ _ _ hge (.inr ⟨w.heap.size, 0, _, e, (0, 0), by simp [newCx], by simp, hnew, by simp only [List.size_toArray, htot, Nat.zero_add]; omega⟩)
include hT hr hp in
theorem appendOp_sound (hn : ∀ k, w.heap.size ≤ k → n0 k) (hf : ∀ T ∈ heapToks x.H, ¬ InB tok T) {st tx ty : Nat} {ts : List Nat} (htx : notInt C tx = true) {as ax : AV} {vs vx : Value} (h1 : RV x as vs) (h2 : RV x ax vx) :
    OkV P x n0 tok w (Builtin.append_ (st :: tx :: ts).toArray ty #[vs, vx]) (appendOp C st as ax tok x.H) := by
  obtain ⟨dx, hx, hxi⟩ := notInt_ok hT htx
  unfold appendOp
  split
  · trivial
  · rename_i e t te he
    obtain ⟨hu, ok, hty, hs1, hs2⟩ := elemTy_ok hT he
    obtain ⟨hcs, _, _⟩ := ok.pure hty
    split
    · trivial
    · rename_i ys hys
      obtain ⟨news, hnews⟩ := newsOf_sound (P := P) hr hp h2 hys (by omega)
      have rm : ∀ {n : Nat}, Nat.ble ((n + ys.length) * te.bytes) 140737488355328 = true → (n + ys.length) * te.bytes ≤ 140737488355328 := fun h => Nat.le_of_ble_eq_true h
      have fin : ∀ {l : List (den t)} {c : Bool} {del : Option Nat}, toDen x.H (.sl t) as = some l → (c = true → Nat.ble ((l.length + ys.length) * te.bytes) 140737488355328 = true) →
          (∀ base sCap, vs = .slice base l.length sCap → c = true → l.length + ys.length ≤ sCap → (l.length = 0 ∧ ys.length = 0 ∧ sCap = 0) ∨ ∃ tk b o c e' fr lf, del = some tk ∧ hget x.H tk = some (.arr t lf) ∧ x.m tk = some (b, o) ∧
            base = some ⟨b, o, none⟩ ∧ x.hp[b]? = some (Obj.cells c e' fr) ∧ o + sCap * csz t ≤ c.size ∧ l = lf.take l.length ∧ l.length ≤ lf.length) →
          OkV P x n0 tok w (Builtin.append_ (st :: tx :: ts).toArray ty #[vs, vx]) (.cv c (.who tok false) (hput (delO x.H del) tok (.arr t (l ++ ys)))) := by
        intro l c del hl hc hin hct
        obtain ⟨base, sCap, hv, hle, hrow⟩ := toDen_SlC hr h1 hl
        subst hv
        obtain ⟨v', w', x', k1, k2, k3, k4⟩ := append_core (P := P) hr hp hn hf (tok := tok) (ts := ts) (ty := ty) ok hty hu hx hxi hs1 hs2 (l := l) ⟨base, sCap, rfl, hle, hrow⟩ hnews (rm (hc hct)) del (hin base sCap rfl hct)
        exact ⟨v', w', x', k1, k2, k3, k4⟩
      split
      ·
        cases h1
        have := fin (l := []) (c := Nat.ble ((0 + ys.length) * te.bytes) 140737488355328) (del := none) (by simp [toDen, isAgg, deep, ofCell]) (fun h => h) (fun base sCap hv _ hle => by
          cases hv; left; exact ⟨rfl, by omega, rfl⟩)
        simpa [delO] using this
      ·
        rename_i t' l
        split
        · rename_i l' hl'
          split at hl'
          · rename_i het
            subst het
            simp only [Option.some.injEq] at hl'; subst hl'
            cases h1 with
            | sl _ _ _ a cap q1 q2 q3 =>
            refine fin (del := none) (by simp [toDen, isAgg, deep, ofCell]) (fun h => by simp only [Bool.and_eq_true] at h; exact h.1) (fun base sCap hv hc hle => ?_)
            cases hv
            simp only [Bool.and_eq_true, Bool.or_eq_true, decide_eq_true_eq] at hc
            have := q2 rfl
            left; omega
          · simp at hl'
        · trivial
      · rename_i tk full
        split
        · rename_i t' lf hg
          split
          · rename_i l' hl'
            split at hl'
            · rename_i het
              subst het
              simp only [Option.some.injEq] at hl'; subst hl'
              cases h1 with
              | who _ _ a n cap q =>
              obtain ⟨g1, g2, g3, g4⟩ := q t' lf (.inl hg)
              subst g1
              have hto : toDen x.H (.sl t') (.who tk full) = some lf := by simp [toDen, isAgg, deep, hg, ofCell]
              refine fin (del := some tk) hto (fun h => h) (fun base sCap hv hc hle => ?_)
              cases hv
              rcases g4 with ⟨g5, g6⟩ | ⟨b, o, c, e', fr, g5, g6, g7, g8⟩
              · left; omega
              · right
                exact ⟨tk, b, o, c, e', fr, lf, rfl, hg, g5, by rw [g6]; simp, g7, by simpa using g8, by simp, Nat.le_refl _⟩
            · simp at hl'
          · trivial
        · rename_i t' lf hg
          split
          · rename_i l' hl'
            split at hl'
            · rename_i het
              subst het
              simp only [Option.some.injEq] at hl'; subst hl'
              cases h1 with
              | who _ _ a n cap q =>
              obtain ⟨g1, g2, g3, g4⟩ := q t' lf (.inr hg)
              subst g1
              have hto : toDen x.H (.sl t') (.who tk true) = some lf := by simp [toDen, isAgg, deep, hg, ofCell]
              refine fin (del := none) hto (fun h => by simp only [Bool.and_eq_true] at h; exact h.1) (fun base sCap hv hc hle => ?_)
              cases hv
              simp only [Bool.and_eq_true, Bool.or_eq_true, decide_eq_true_eq] at hc
              have := g3 rfl
              left; omega
            · simp at hl'
          · trivial
        · trivial
      · rename_i tk off len full
        split
        · rename_i t' lf hg
          split
          · rename_i l' hl'
            split at hl'
            · rename_i het
              subst het
              simp only [Option.some.injEq] at hl'; subst hl'
              cases h1 with
              | ref _ _ _ _ a cap q =>
              obtain ⟨g1, g2, g3, g4⟩ := q t' lf (.inl hg)
              have hto : toDen x.H (.sl t') (.ref tk off len full) = some ((lf.drop off).take len) := by simp [toDen, isAgg, deep, hg, ofCell]
              have hlen : ((lf.drop off).take len).length = len := by simp; omega
              split
              · split
                · rename_i ho
                  have := Nat.eq_of_beq_eq_true ho
                  subst this
                  have hto' : toDen x.H (.sl t') (.ref tk 0 len false) = some (lf.take len) := by simpa using hto
                  have hlen' : (lf.take len).length = len := by simp; omega
                  refine fin (del := some tk) hto' (fun h => by rw [hlen']; exact h) (fun base sCap hv hc hle => ?_)
                  rw [hlen'] at hv hle ⊢
                  cases hv
                  rcases g4 with ⟨g5, g6⟩ | ⟨b, o, c, e', fr, g5, g6, g7, g8⟩
                  · left; omega
                  · right
                    exact ⟨tk, b, o, c, e', fr, lf, rfl, hg, g5, by rw [g6]; simp, g7, by simpa using g8, rfl, by omega⟩
                · trivial
              · refine fin (del := none) hto (fun h => by rw [hlen]; simp only [Bool.and_eq_true] at h; exact h.1) (fun base sCap hv hc hle => ?_)
                rw [hlen] at hv hle ⊢
                cases hv
                simp only [Bool.and_eq_true, Bool.or_eq_true, decide_eq_true_eq] at hc
                have := g3 rfl
                left; omega
            · simp at hl'
          · trivial
        · rename_i t' lf hg
          split
          · rename_i l' hl'
            split at hl'
            · rename_i het
              subst het
              simp only [Option.some.injEq] at hl'; subst hl'
              cases h1 with
              | ref _ _ _ _ a cap q =>
              obtain ⟨g1, g2, g3, g4⟩ := q t' lf (.inr hg)
              have hto : toDen x.H (.sl t') (.ref tk off len true) = some ((lf.drop off).take len) := by simp [toDen, isAgg, deep, hg, ofCell]
              have hlen : ((lf.drop off).take len).length = len := by simp; omega
              refine fin (del := none) hto (fun h => by rw [hlen]; simp only [Bool.and_eq_true] at h; exact h.1) (fun base sCap hv hc hle => ?_)
              rw [hlen] at hv hle ⊢
              cases hv
              simp only [Bool.and_eq_true, Bool.or_eq_true, decide_eq_true_eq] at hc
              have := g3 rfl
              left; omega
            · simp at hl'
          · trivial
        · trivial
      · trivial
end
end Go.Proofs.YtpdfjgooaaailaaGreatDoor.K
namespace Go.Proofs.YtpdfjgooaaailaaGreatDoor.K
open Go
open Go.RowKit (Below)
section
variable {P : Program} {C : Ctx} (hT : CtxTI P C) {x : Cx} {n0 : Nat → Prop} {tok : Nat} (hr : HR x n0) {w : World} (hp : x.hp = w.heap)
def OkN (P : Program) (x : Cx) (n0 : Nat → Prop) (tok : Nat) (w : World) (s : Sem Go.Next) : OR → Prop
  | .no => True
  | .ok c b v1 v2 h => c = true → ∃ nx v w' x', s.run P w = .ok nx w' ∧ (nx = .value v ∨ (nx = .skip ∧ v = undef)) ∧ x'.H = h ∧ Nx x x' n0 tok w w' ∧ RV x' (cond b v1 v2) v
theorem okn {s : Sem Value} {r : OR} (h : OkV P x n0 tok w s r) : OkN P x n0 tok w (do pure (Go.Next.value (← s))) r := by
  cases r with
  | no => trivial
  | ok c b v1 v2 hh =>
    intro hc
    obtain ⟨v, w', x', h1, h2, h3, h4⟩ := h hc
    exact ⟨.value v, v, w', x', by simp [h1], .inl rfl, h2, h3, h4⟩
theorem toks_ev (e : Env) (o : Operand) : ∀ T ∈ toks (ev e o), T ∈ envToks e := by
  intro T hT
  cases o with
  | tmp t => exact toks_get e t T hT
  | const v =>
    simp only [ev] at hT
    unfold avOf at hT
    split at hT <;> simp [toks] at hT
  | global g => simp [ev, toks] at hT
  | func f => simp [ev, toks, toksL] at hT
include hT hr hp in
theorem plainOp_sound (hn : ∀ k, w.heap.size ≤ k → n0 k) {o : Oper} {e : Env} {a : Act} (henv : ∀ t, RV x (get e t) (a.tmps.getD t undef)) (hfH : makes C o.op = true → ∀ T ∈ heapToks x.H, ¬ InB tok T)
    (hfE : makes C o.op = true → ∀ T ∈ envToks e, ¬ InB tok T) : OkN P x n0 tok w (execOp a.eval o) (plainOp C e x.H tok o.op) := by
  obtain ⟨dst, op, type, pos, after, guard⟩ := o
  have hev := ev_RV henv
  cases op with
  | move y => exact okn (OkV.v (s := pure (a.eval y)) hr hp ⟨_, rfl, hev y⟩)
  | assign y => exact okn (OkV.v (s := pure (a.eval y)) hr hp ⟨_, rfl, hev y⟩)
  | pick c y z =>
    simp only [plainOp]
    split
    · rename_i b hb
      have hc := hev c
      rw [hb] at hc
      generalize hcv : a.eval c = cv at hc
      cases hc
      refine fun _ => ⟨_, _, w, x, by simp [execOp, hcv, asBool]; rfl, .inl rfl, rfl, .refl hr tok hp, ?_⟩
      cases b
      · exact hev z
      · exact hev y
    · trivial
  | alloc t =>
    simp only [plainOp]
    split
    · rename_i ti hti
      exact okn (alloc_sound hT hr hp hn (hfH rfl) hti)
    · trivial
  | box t y =>
    simp only [plainOp]
    split
    · rename_i ti hti
      split
      · rename_i hfit
        exact okn (box_sound hr hp hn (hfH rfl) (hev y) hfit (fun T hT => hfE rfl T (toks_ev e y T hT)))
      · trivial
    · trivial
  | build t ps =>
    simp only [plainOp]
    split
    · rename_i ti hti
      split
      · rename_i fs cs hsh hf
        exact okn (build_sound hT hr hp hti henv ps hsh hf)
      · rename_i n et hsh
        split
        · rename_i te hte
          split
          · rename_i cs hf
            exact okn (buildArr_sound hT hr hp hti henv ps hsh hte hf)
          · trivial
        · trivial
      · trivial
    · trivial
  | buildSlice t n ps =>
    simp only [plainOp]
    split
    · rename_i e' ty te he
      split
      · rename_i l hl hchk
        simp only [Bool.and_eq_true] at hchk
        obtain ⟨c1, c2, c3⟩ := hchk
        exact okn (buildSlice_sound hT hr hp hn (hfH rfl) he henv ps hl (Nat.le_of_ble_eq_true c1) c2 (fun p hp' => by
          have := List.all_eq_true.1 c3 p hp'
          exact Nat.lt_of_succ_le (Nat.le_of_ble_eq_true this)))
      · trivial
    · trivial
  | load t p =>
    simp only [plainOp]
    split
    · rename_i ti hti
      exact okn (loadOp_sound hr hp (hT _ _ hti) (hev p))
    · trivial
  | store t p v =>
    simp only [plainOp]
    split
    · rename_i ti hti
      split
      · rename_i h' hs
        obtain ⟨w', x', k1, k2, k3⟩ := storeOp_sound hT hr hp (tok := tok) hti (hev p) (hev v) hs
        exact fun _ => ⟨.skip, undef, w', x', by simp [execOp, k1], .inr ⟨rfl, rfl⟩, k2, k3, .undef _⟩
      · trivial
    · trivial
  | nilCheck y =>
    have hy := hev y
    simp only [plainOp]
    split <;> first
      | trivial
      | (rename_i hb
         rw [hb] at hy
         generalize hcv : a.eval y = cv at hy
         have hy' := hy
         cases hy
         exact fun _ => ⟨_, _, w, x, by simp [execOp, hcv], .inl rfl, rfl, .refl hr tok hp, hy'⟩)
  | binOp op t y z yt => exact okn (binOp_sound hT hr hp op t _ _ _ _ y z (hev y) (hev z))
  | unOp op t y => exact okn (unOp_sound hr hp op _ _ (hev y))
  | convert s d y =>
    by_cases hel : (eltSz C d).isSome = true
    · exact okn (convert_sound hT hr hp (hev y) (fun e' s' h1 h2 h3 => bytes_sound hr hp hn (hfH hel) s' h1 h2 h3))
    · exact okn (convert_sound' hT hr hp (hev y) (by simpa using hel))
  | slice t y lo hi mx =>
    simp only [plainOp]
    split
    · rename_i hf
      split
      · rename_i l u m h1 h2 h3
        exact okn (sliceOp_sound hT hr hp hf (hev y) (optI_is henv h1) (optI_is henv h2) (optI_is henv h3))
      · trivial
    · trivial
  | fieldAddr t y f =>
    simp only [plainOp]
    split
    · rename_i ti hti
      exact okn (fieldAddrOp_sound hr hp (hT _ _ hti) f (hev y))
    · trivial
  | field t y f =>
    simp only [plainOp]
    split
    · rename_i ti hti
      exact okn (fieldOp_sound hr hp (hT _ _ hti) f (hev y))
    · trivial
  | indexAddr t y i =>
    simp only [plainOp]
    split
    · rename_i hf
      exact okn (indexAddr_sound hT hr hp hf (hev y) (hev i))
    · exact okn (arrAddr_sound hT hr hp (hev y) (hev i))
  | index t y i =>
    simp only [plainOp]
    split
    · rename_i hf
      exact okn (indexOp_sound hT hr hp hf (hev y) (hev i))
    · exact okn (arrIndex_sound hT hr hp (hev y) (hev i))
  | extract t i => exact okn (extract_sound hr hp i (hev t))
  | makeSlice t n c =>
    simp only [plainOp]
    split
    · rename_i e' ty te k1 n' k2 c' he hn' hc'
      have h1 := hev n
      have h2 := hev c
      rw [hn'] at h1
      rw [hc'] at h2
      split
      · generalize hnv : a.eval n = nv at h1
        generalize hcv : a.eval c = cv at h2
        cases h1; cases h2
        have := okn (makeSlice_sound hT hr hp hn (hfH rfl) (tok := tok) (k := k1) (k' := k2) (n := n') (c := c') he)
        simp only [execOp, hnv, hcv]
        exact this
      · trivial
    · trivial
  | makeFunc fn first caps =>
    cases fn with
    | func f =>
      refine okn (OkV.v (s := Instr.makeFunc (.func f) (first.map a.eval) (caps.map a.eval)) hr hp ⟨_, rfl, ?_⟩)
      have h1 := ev_RVL henv first.toList
      have h2 := ev_RVL henv caps.toList
      have := RV.func f _ _ _ _ h1 h2
      have e1 : first.map a.eval = (first.toList.map a.eval).toArray := by apply Array.ext'; simp
      have e2 : caps.map a.eval = (caps.toList.map a.eval).toArray := by apply Array.ext'; simp
      rw [e1, e2]
      exact this
    | _ => trivial
  | call c =>
    obtain ⟨callee, args, argTypes⟩ := c
    cases callee with
    | builtin b =>
      have hargs := ev_RVL henv args.toList
      have hrun : ∀ s : Sem Value, (∀ cs, Go.builtin b argTypes type cs (args.map a.eval) = (do pure (Go.Next.value (← s)))) →
          execOp a.eval ⟨dst, .call ⟨.builtin b, args, argTypes⟩, type, pos, after, guard⟩ = (do pure (Go.Next.value (← s))) := by
        intro s hs
        simp [execOp, resolve, invoke, hs]
      simp only [plainOp]
      unfold builtinOp
      have hat : argTypes = argTypes.toList.toArray := by simp
      split
      · rename_i ax hargs'
        rw [hargs'] at hargs
        split
        · rename_i t ts hts
          split
          · rename_i n hf hn'
            generalize hav : args.toList.map a.eval = avs at hargs
            cases hargs with
            | cons _ v _ vs q1 q2 =>
            cases q2
            have hm : args.map a.eval = #[v] := by apply Array.ext'; simpa using hav
            have := okn (len_sound (ty := type) (ts := ts) (tok := tok) hT hr hp hf q1 hn')
            rw [hrun (Builtin.len_ argTypes type (args.map a.eval)) (fun cs => rfl), hm, hat, hts]
            exact this
          · trivial
        · trivial
      · rename_i ax ay hargs'
        rw [hargs'] at hargs
        split
        · rename_i v hv
          generalize hav : args.toList.map a.eval = avs at hargs
          cases hargs with
          | cons _ v1 _ vs q1 q2 =>
          cases q2 with
          | cons _ v2 _ vs q2 q3 =>
          cases q3
          have hm : args.map a.eval = #[v1, v2] := by apply Array.ext'; simpa using hav
          have := okn (maxmin_sound (P := P) (tok := tok) hr hp q1 q2 hv argTypes type)
          rw [hrun (Builtin.max_ argTypes type (args.map a.eval)) (fun cs => rfl), hm]
          exact this
        · trivial
      · rename_i ax ay hargs'
        rw [hargs'] at hargs
        split
        · rename_i v hv
          generalize hav : args.toList.map a.eval = avs at hargs
          cases hargs with
          | cons _ v1 _ vs q1 q2 =>
          cases q2 with
          | cons _ v2 _ vs q2 q3 =>
          cases q3
          have hm : args.map a.eval = #[v1, v2] := by apply Array.ext'; simpa using hav
          have := okn (maxmin_sound (P := P) (tok := tok) hr hp q1 q2 hv argTypes type)
          rw [hrun (Builtin.min_ argTypes type (args.map a.eval)) (fun cs => rfl), hm]
          exact this
        · trivial
      · rename_i as ax hargs'
        rw [hargs'] at hargs
        split
        · rename_i st tx ts hts
          split
          · rename_i htx
            generalize hav : args.toList.map a.eval = avs at hargs
            cases hargs with
            | cons _ v1 _ vs q1 q2 =>
            cases q2 with
            | cons _ v2 _ vs q2 q3 =>
            cases q3
            have hm : args.map a.eval = #[v1, v2] := by apply Array.ext'; simpa using hav
            have := okn (appendOp_sound (st := st) (ty := type) (ts := ts) (tok := tok) hT hr hp hn (hfH rfl) htx q1 q2)
            rw [hrun (Builtin.append_ argTypes type (args.map a.eval)) (fun cs => rfl), hm, hat, hts]
            exact this
          · trivial
        · trivial
      · trivial
    | _ => trivial
  | _ => trivial
end
end Go.Proofs.YtpdfjgooaaailaaGreatDoor.K
namespace Go.Proofs.YtpdfjgooaaailaaGreatDoor.K
open Go
open Go.RowKit (Below)
structure CtxOk (P : Program) (C : Ctx) : Prop where
  ti : CtxTI P C
  fn : ∀ f fn, C.fn f = some fn → P.funcs[f]? = some fn ∧ fn.body.isSome = true ∧ (fn.name == "runtime.NumGoroutine") = false
  mixed : P.follows .mixedOrders = true
  keeps : ∀ w w', C.inv w → Below w.heap.size w w' → C.inv w'
def ResC (hp : Array Obj) (ok : Nat → Prop) : (t : Ty) → den t → List Value → List Nat → Prop
  | .own t, l, vs, ow => ∃ a cap, vs = [.slice a (List.length l) cap] ∧ List.length l ≤ cap ∧ ((l = [] ∧ cap = 0 ∧ ow = []) ∨
      ∃ b o c e fr, ow = [b] ∧ a = some ⟨b, o, none⟩ ∧ hp[b]? = some (Obj.cells c e fr) ∧ Unfrozen c fr ∧ o + cap * csz t ≤ c.size ∧ Rows hp ok t l c o)
  | .pair a b, y, vs, ow => ∃ v1 v2 o1 o2, vs = v1 ++ v2 ∧ ow = o1 ++ o2 ∧ ResC hp ok a y.1 v1 o1 ∧ ResC hp ok b y.2 v2 o2
  | .one t, y, vs, ow => ResC hp ok t y vs ow
  | .unit, y, vs, ow => ow = [] ∧ DeepC hp ok .unit y vs
  | .bool, y, vs, ow => ow = [] ∧ DeepC hp ok .bool y vs
  | .int k, y, vs, ow => ow = [] ∧ DeepC hp ok (.int k) y vs
  | .str, y, vs, ow => ow = [] ∧ DeepC hp ok .str y vs
  | .sl t, y, vs, ow => ow = [] ∧ DeepC hp ok (.sl t) y vs
  | .fn f, y, vs, ow => ow = [] ∧ DeepC hp ok (.fn f) y vs
def ResV (hp : Array Obj) (ok : Nat → Prop) (t : Ty) (y : den t) (v : Value) (ow : List Nat) : Prop :=
  match isAgg t with
  | true => ∃ vs : List Value, v = .agg vs.toArray ∧ ResC hp ok t y vs ow
  | false => t ≠ .unit ∧ ResC hp ok t y [v] ow
def ResL (hp : Array Obj) (ok : Nat → Prop) : (ts : List Ty) → den (tyL ts) → List Value → List Nat → Prop
  | [], _, vs, ow => vs = [] ∧ ow = []
  | [t], y, vs, ow => ∃ v, vs = [v] ∧ ResV hp ok t y v ow
  | t :: u :: ts, y, vs, ow => ∃ v vs' o1 o2, vs = v :: vs' ∧ ow = o1 ++ o2 ∧ ResV hp ok t y.1 v o1 ∧ ResL hp ok (u :: ts) y.2 vs' o2
theorem ResL_0 (hp : Array Obj) (ok : Nat → Prop) (y : den (tyL [])) (vs : List Value) (ow : List Nat) : ResL hp ok [] y vs ow = (vs = [] ∧ ow = []) := rfl
theorem ResL_1 (hp : Array Obj) (ok : Nat → Prop) (t : Ty) (y : den (tyL [t])) (vs : List Value) (ow : List Nat) : ResL hp ok [t] y vs ow = ∃ v, vs = [v] ∧ ResV hp ok t y v ow := rfl
theorem ResL_2 (hp : Array Obj) (ok : Nat → Prop) (t u : Ty) (ts : List Ty) (y : den (tyL (t :: u :: ts))) (vs : List Value) (ow : List Nat) :
  ResL hp ok (t :: u :: ts) y vs ow = ∃ v vs' o1 o2, vs = v :: vs' ∧ ow = o1 ++ o2 ∧ ResV hp ok t y.1 v o1 ∧ ResL hp ok (u :: ts) y.2 vs' o2 := rfl
def oneV : List Value → Value
  | [v] => v
  | vs => .tuple vs.toArray
structure Lay where
  fz : Nat → Prop
  own : Nat → Prop
  io : Nat
structure LayOk (w : World) (L : Lay) : Prop where
  lt : ∀ b, L.fz b → b < w.heap.size
  new : ∀ k, w.heap.size ≤ k → L.own k
abbrev Lay.plain (w : World) (fz : Nat → Prop) : Lay := ⟨fz, fun k => w.heap.size ≤ k, 0⟩
theorem LayOk.plain {w : World} {fz : Nat → Prop} (h : ∀ b, fz b → b < w.heap.size) : LayOk w (.plain w fz) := ⟨h, fun _ h => h⟩
def IoL (hp : Array Obj) (ok : Nat → Prop) (b0 : Nat) (ts : List Ty) (r : den (tyL ts)) (vs : List Value) (ow : List Nat) : Prop :=
  ∃ c e fr, hp[b0]? = some (Obj.cells c e fr) ∧ Unfrozen c fr ∧ b0 ∉ ow ∧ ¬ ok b0 ∧ ResL hp ok ts r (.agg c :: vs) ow
def Outs (hp : Array Obj) (ok : Nat → Prop) (b0 : Nat) (ts : List Ty) (r : den (tyL ts)) (vs : List Value) (ow : List Nat) : Bool → Prop
  | false => ResL hp ok ts r vs ow
  | true => IoL hp ok b0 ts r vs ow
inductive PtrsL (hp : Array Obj) (ok : Nat → Prop) : List Bool → List Ty → List Value → List Value → Prop
  | nil : PtrsL hp ok [] [] [] []
  | keep (fl : List Bool) (t : Ty) (ts : List Ty) (v : Value) (vs ds : List Value) : PtrsL hp ok fl ts vs ds → PtrsL hp ok (false :: fl) (t :: ts) (v :: vs) (v :: ds)
  | cons (fl : List Bool) (t : Ty) (ts : List Ty) (b : Nat) (c : Array Value) (e : TypeId) (fr : Nat × Nat) (d : Value) (vs ds : List Value) : ok b → hp[b]? = some (Obj.cells c e fr) → (match isAgg t with
      | true => d = .agg (row c 0 (csz t)).toArray
      | false => row c 0 (csz t) = [d]) → PtrsL hp ok fl ts vs ds → PtrsL hp ok (true :: fl) (t :: ts) (.pointer (some ⟨b, 0, none⟩) :: vs) (d :: ds)
theorem PtrsL.length {hp : Array Obj} {ok : Nat → Prop} {fl : List Bool} {ts : List Ty} {ps ds : List Value} (h : PtrsL hp ok fl ts ps ds) : ps.length = ds.length := by
  induction h with
  | nil => rfl
  | keep _ _ _ _ _ _ _ ih => simp [ih]
  | cons _ _ _ _ _ _ _ _ _ _ _ _ _ _ ih => simp [ih]
def RdArgs (hp : Array Obj) (ok : Nat → Prop) (fl : List Bool) (ts : List Ty) (y : den (tyL ts)) (vs : List Value) : Prop :=
  ∃ ds, PtrsL hp ok fl ts vs ds ∧ DenL hp ok ts y ds
def Args (C : Ctx) (w : World) (L : Lay) (i : Nat) (y : den (tyL (C.pts i))) (vs : List Value) : Bool → List Bool → Prop
  | false, [] => DenL w.heap L.fz (C.pts i) y vs
  | false, b :: fl => RdArgs w.heap L.fz (b :: fl) (C.pts i) y vs
  | true, _ => ∃ vs' ow, vs = .pointer (some ⟨L.io, 0, none⟩) :: vs' ∧ L.own L.io ∧ ow.Nodup ∧ (∀ b ∈ ow, L.own b ∧ ¬ L.fz b) ∧ IoL w.heap L.fz L.io (C.pts i) y vs' ow
structure Ret (C : Ctx) (w : World) (L : Lay) (i : Nat) (r : den (tyL (C.rts i))) (w' : World) (v : Value) : Prop where
  bel : Bel L.own w w'
  res : ∃ (ow : List Nat) (ok : Nat → Prop) (vs : List Value), (∀ b, ok b → L.fz b ∨ (L.own b ∧ b < w'.heap.size)) ∧ ow.Nodup ∧ (∀ b ∈ ow, L.own b ∧ ¬ ok b) ∧
    v = oneV vs ∧ Outs w'.heap ok L.io (C.rts i) r vs ow (C.io i)
def RetE (C : Ctx) (w : World) (L : Lay) (i : Nat) (r : den (tyL (C.rts i))) (e : Ending) (w' : World) : Prop :=
  ∃ v, e = .returned v ∧ Ret C w L i r w' v
def SpecOk (P : Program) {C : Ctx} (s : Sm C) : Prop :=
  ∀ i y r, s.callF i y = some r → ∀ (w : World) (L : Lay) (vs : List Value), LayOk w L → (C.fn (C.fid i)).isSome = true → (∀ w', Bel L.own w w' → C.inv w') → Args C w L i y vs (C.io i) (C.rd i) →
    Calls P (C.fid i) vs.toArray w (RetE C w L i r)
section
variable {P : Program} {C : Ctx} {x : Cx} {n0 : Nat → Prop} {tok : Nat} (hr : HR x n0) {w : World} (hp : x.hp = w.heap)
theorem ResC_plain {hp : Array Obj} {ok : Nat → Prop} : ∀ (t : Ty) (y : den t) (vs : List Value) (ow : List Nat), hasOwn t = false → ResC hp ok t y vs ow → ow = [] ∧ DeepC hp ok t y vs
  | .unit, _, _, _, _, h => h
  | .bool, _, _, _, _, h => h
  | .int _, _, _, _, _, h => h
  | .str, _, _, _, _, h => h
  | .sl _, _, _, _, _, h => h
  | .own _, _, _, _, ho, _ => by simp [hasOwn] at ho
  | .pair a b, y, _, _, ho, h => by
    simp only [hasOwn, Bool.or_eq_false_iff] at ho
    obtain ⟨v1, v2, o1, o2, rfl, rfl, h1, h2⟩ := h
    obtain ⟨rfl, d1⟩ := ResC_plain a _ _ _ ho.1 h1
    obtain ⟨rfl, d2⟩ := ResC_plain b _ _ _ ho.2 h2
    exact ⟨rfl, v1, v2, rfl, d1, d2⟩
  | .one t, y, _, _, ho, h => ResC_plain t y _ _ ho h
  | .fn _, _, _, _, _, h => h
theorem DeepC_noSl {hp hp' : Array Obj} {ok ok' : Nat → Prop} : ∀ (t : Ty) (y : den t) (vs : List Value), hasSl t = false → DeepC hp ok t y vs → DeepC hp' ok' t y vs
  | .unit, _, _, _, h => h
  | .bool, _, _, _, h => h
  | .int _, _, _, _, h => h
  | .str, _, _, _, h => h
  | .sl _, _, _, ho, _ => by simp [hasSl] at ho
  | .own _, _, _, ho, _ => by simp [hasSl] at ho
  | .pair a b, y, _, ho, h => by
    simp only [hasSl, Bool.or_eq_false_iff] at ho
    obtain ⟨v1, v2, rfl, h1, h2⟩ := h
    exact ⟨v1, v2, rfl, DeepC_noSl a _ _ ho.1 h1, DeepC_noSl b _ _ ho.2 h2⟩
  | .one t, y, _, ho, h => DeepC_noSl (hp := hp) (ok := ok) t y _ ho h
  | .fn _, _, _, _, h => h
theorem own_sl : ∀ (t : Ty), hasSl t = false → hasOwn t = false
  | .unit, _ => rfl
  | .bool, _ => rfl
  | .int _, _ => rfl
  | .str, _ => rfl
  | .sl _, h => by simp [hasSl] at h
  | .own _, h => by simp [hasSl] at h
  | .pair a b, h => by
    simp only [hasSl, Bool.or_eq_false_iff] at h
    simp [hasOwn, own_sl a h.1, own_sl b h.2]
  | .one t, h => own_sl t h
  | .fn _, _ => rfl
theorem ResV_plain {hp : Array Obj} {ok : Nat → Prop} {t : Ty} {y : den t} {v : Value} {ow : List Nat} (ho : hasOwn t = false) (h : ResV hp ok t y v ow) : ow = [] ∧ DenV hp ok t y v := by
  unfold ResV at h
  unfold DenV
  split at h
  · rename_i hag
    rw [hag]
    obtain ⟨vs, rfl, h⟩ := h
    obtain ⟨h1, h2⟩ := ResC_plain t _ _ _ ho h
    exact ⟨h1, vs, rfl, h2⟩
  · rename_i hag
    rw [hag]
    obtain ⟨h1, h2⟩ := ResC_plain t _ _ _ ho h.2
    exact ⟨h1, h.1, h2⟩
theorem ResL_plain {hp : Array Obj} {ok : Nat → Prop} (ts : List Ty) : ∀ {y : den (tyL ts)} {vs : List Value} {ow : List Nat}, hasOwn (tyL ts) = false → ResL hp ok ts y vs ow → ow = [] ∧ DenL hp ok ts y vs := by
  induction ts with
  | nil => intro y vs ow _ h; rw [ResL_0] at h; exact ⟨h.2, by rw [DenL_0]; exact h.1⟩
  | cons t ts ih =>
    cases ts with
    | nil =>
      intro y vs ow ho h
      rw [ResL_1] at h
      obtain ⟨v, rfl, h⟩ := h
      obtain ⟨h1, h2⟩ := ResV_plain ho h
      exact ⟨h1, by rw [DenL_1]; exact ⟨v, rfl, h2⟩⟩
    | cons u ts =>
      intro y vs ow ho h
      rw [ResL_2] at h
      obtain ⟨v, vs', o1, o2, rfl, rfl, h1, h2⟩ := h
      have ho' : hasOwn t = false ∧ hasOwn (tyL (u :: ts)) = false := by
        simpa [tyL, hasOwn] using ho
      obtain ⟨rfl, k1⟩ := ResV_plain ho'.1 h1
      obtain ⟨rfl, k2⟩ := ih ho'.2 h2
      exact ⟨rfl, by rw [DenL_2]; exact ⟨v, vs', rfl, k1, k2⟩⟩
theorem DenV_noSl {hp hp' : Array Obj} {ok ok' : Nat → Prop} {t : Ty} {y : den t} {v : Value} (ho : hasSl t = false) (h : DenV hp ok t y v) : DenV hp' ok' t y v := by
  unfold DenV at h ⊢
  split at h
  · obtain ⟨vs, rfl, h⟩ := h; exact ⟨vs, rfl, DeepC_noSl t _ _ ho h⟩
  · exact ⟨h.1, DeepC_noSl t _ _ ho h.2⟩
theorem DenL_noSl {hp hp' : Array Obj} {ok ok' : Nat → Prop} (ts : List Ty) : ∀ {y : den (tyL ts)} {vs : List Value}, hasSl (tyL ts) = false → DenL hp ok ts y vs → DenL hp' ok' ts y vs := by
  induction ts with
  | nil => intro y vs _ h; rw [DenL_0] at h ⊢; exact h
  | cons t ts ih =>
    cases ts with
    | nil => intro y vs ho h; rw [DenL_1] at h ⊢; obtain ⟨v, rfl, h⟩ := h; exact ⟨v, rfl, DenV_noSl ho h⟩
    | cons u ts =>
      intro y vs ho h
      rw [DenL_2] at h ⊢
      obtain ⟨v, vs', rfl, h1, h2⟩ := h
      have ho' : hasSl t = false ∧ hasSl (tyL (u :: ts)) = false := by simpa [tyL, hasSl] using ho
      exact ⟨v, vs', rfl, DenV_noSl ho'.1 h1, ih ho'.2 h2⟩
theorem DenV_mono {hp hp' : Array Obj} {ok ok' : Nat → Prop} (H : ∀ b, ok b → ok' b ∧ hp'[b]? = hp[b]?) {t : Ty} {y : den t} {v : Value} (h : DenV hp ok t y v) : DenV hp' ok' t y v := by
  unfold DenV at h ⊢
  split at h
  · obtain ⟨vs, rfl, h⟩ := h; exact ⟨vs, rfl, DeepC.mono H t _ _ h⟩
  · exact ⟨h.1, DeepC.mono H t _ _ h.2⟩
theorem DenL_mono {hp hp' : Array Obj} {ok ok' : Nat → Prop} (H : ∀ b, ok b → ok' b ∧ hp'[b]? = hp[b]?) (ts : List Ty) : ∀ {y : den (tyL ts)} {vs : List Value}, DenL hp ok ts y vs → DenL hp' ok' ts y vs := by
  induction ts with
  | nil => intro y vs h; rw [DenL_0] at h ⊢; exact h
  | cons t ts ih =>
    cases ts with
    | nil => intro y vs h; rw [DenL_1] at h ⊢; obtain ⟨v, rfl, h⟩ := h; exact ⟨v, rfl, DenV_mono H h⟩
    | cons u ts =>
      intro y vs h
      rw [DenL_2] at h ⊢
      obtain ⟨v, vs', rfl, h1, h2⟩ := h
      exact ⟨v, vs', rfl, DenV_mono H h1, ih h2⟩
def callCx (x : Cx) (w w' : World) (ok : Nat → Prop) : Cx :=
  { x with hp := w'.heap, fz := fun b => x.fz b ∨ (ok b ∧ w.heap.size ≤ b ∧ b < w'.heap.size) }
theorem call_next (hr : HR x n0) (hp : x.hp = w.heap) (hn : ∀ k, w.heap.size ≤ k → n0 k) {w' : World} (hb : Bel (fun k => w.heap.size ≤ k) w w') (ok : Nat → Prop) : NxS x (callCx x w w' ok) n0 (fun _ => True) w w' := by
  have hg : Grew w.heap w'.heap := ⟨hb.size, fun b h => hb.block b (by omega)⟩
  have hg' : Grew x.hp w'.heap := by rw [hp]; exact hg
  have E : Ext x (callCx x w w' ok) (fun _ => True) :=
    ⟨fun b h => ⟨.inl h, hg'.2 b (hr.size b h)⟩, hg'.sizes, fun T _ t l h => ⟨l, h, rfl, rfl⟩, fun T _ cs h => ⟨cs, h, rfl⟩, fun _ => rfl⟩
  have hdeep : ∀ (t : Ty) (y : den t) vs, DeepC x.hp x.fz t y vs → DeepC w'.heap (callCx x w w' ok).fz t y vs :=
    fun t y vs h => DeepC.mono (fun b hb => ⟨.inl hb, hg'.2 b (hr.size b hb)⟩) t y vs h
  have hnf : ∀ b, b < x.hp.size → ¬ x.fz b → ¬ (callCx x w w' ok).fz b := by
    intro b hb h
    rintro (h' | ⟨_, h', _⟩)
    · exact h h'
    · rw [hp] at hb; omega
  refine ⟨E, ⟨fun T b hb0 => ?_, fun t1 t2 B h1 h2 => hr.inj t1 t2 B h1 h2, fun b hb0 => ?_⟩, fun b hb0 => ?_, hb.mono hn, rfl⟩
  · have h0 := hr.blk T b hb0
    cases b with
    | arr t l =>
      rcases h0 with h | ⟨B, o, c, e, fr, h1, h2, h3, h4, h5, h6, h7⟩
      · exact .inl h
      · exact .inr ⟨B, o, c, e, fr, h1, hg'.at h2, h3, hnf B (lt_size h2) h4, h5, h6, fun i hi => hdeep _ _ _ (h7 i hi)⟩
    | fro t l =>
      rcases h0 with h | ⟨B, o, c, e, fr, h1, h2, h3, h4, h5⟩
      · exact .inl h
      · exact .inr ⟨B, o, c, e, fr, h1, hg'.at h2, .inl h3, h4, fun i hi => hdeep _ _ _ (h5 i hi)⟩
    | box cs =>
      obtain ⟨B, c, e, fr, h1, h2, h3, h4, h5, h6, h7⟩ := h0
      exact ⟨B, c, e, fr, h1, hg'.at h2, h3, hnf B (lt_size h2) h4, h5, h6, RVL.mono E h7 fun _ _ => trivial⟩
  · rcases hb0 with h | ⟨_, _, h⟩
    · exact Nat.lt_of_lt_of_le (hr.size b h) hg'.1
    · exact h
  · rcases hb0 with h | ⟨_, h, _⟩
    · exact .inl h
    · exact .inr (hn b h)
structure Imp (x x' : Cx) (n0 : Nat → Prop) (lo hi : Nat) (w : World) (hn : Heap) : Prop where
  nx : NxS x x' n0 (fun T => T < lo ∨ hi ≤ T) w w
  H : x'.H = hputs x.H hn
  fz : x'.fz = x.fz
  toks : ∀ T ∈ heapToks x'.H, T ∈ heapToks x.H ∨ (lo ≤ T ∧ T < hi)
  own : ∀ b, (∀ T, ¬ Owns x T b) → ∀ T, Owns x' T b → lo ≤ T ∧ T < hi
theorem hputs_append (h a b : Heap) : hputs h (a ++ b) = hputs (hputs h a) b := by
  induction a generalizing h with
  | nil => rfl
  | cons p a ih => obtain ⟨t, v⟩ := p; exact ih _
theorem heapToks_hput {h : Heap} {t T : Nat} {b : Blk} (hT : T ∈ heapToks (hput h t b)) : T ∈ heapToks h ∨ T = t ∨ T ∈ blkToks b := by
  induction h with
  | nil => simp [hput, heapToks] at hT; rcases hT with h | h; exact .inr (.inl h); exact .inr (.inr h)
  | cons p h ih =>
    obtain ⟨u, c⟩ := p
    simp only [hput] at hT
    split at hT
    · simp only [heapToks, List.flatMap_cons, List.mem_append, List.mem_cons] at hT ⊢
      rcases hT with (hT | hT) | hT
      · exact .inl (.inl (.inl hT))
      · exact .inr (.inr hT)
      · exact .inl (.inr hT)
    · simp only [heapToks, List.flatMap_cons, List.mem_append, List.mem_cons] at hT ih ⊢
      rcases hT with (hT | hT) | hT
      · exact .inl (.inl (.inl hT))
      · exact .inl (.inl (.inr hT))
      · rcases ih hT with h | h
        · exact .inl (.inr h)
        · exact .inr h
theorem Imp.refl {x : Cx} (hr : HR x n0) (hp : x.hp = w.heap) (lo : Nat) : Imp x x n0 lo lo w [] :=
  ⟨⟨.refl _ _, hr, fun _ h => .inl h, .refl _ _, hp⟩, rfl, rfl, fun T h => .inl h, fun b h T hT => absurd hT (h T)⟩
theorem Imp.trans {x y z : Cx} {a b c : Nat} {h1 h2 : Heap} (hab : a ≤ b) (hbc : b ≤ c) (p : Imp x y n0 a b w h1) (q : Imp y z n0 b c w h2) : Imp x z n0 a c w (h1 ++ h2) := by
  refine ⟨(p.nx.weaken fun T h => by omega).trans (q.nx.weaken fun T h => by omega), by rw [q.H, p.H, hputs_append], q.fz.trans p.fz, fun T hT => ?_, fun B hB T hT => ?_⟩
  · rcases q.toks T hT with h | h
    · rcases p.toks T h with h | h
      · exact .inl h
      · right; omega
    · right; omega
  · by_cases hy : ∀ T, ¬ Owns y T B
    · have := q.own B hy T hT; omega
    ·
      have : ∃ T', Owns y T' B := Classical.byContradiction fun h => hy fun T' hT' => h ⟨T', hT'⟩
      obtain ⟨T', hT'⟩ := this
      have h1 := p.own B hB T' hT'
      by_cases hTT : T < b ∨ c ≤ T
      · obtain ⟨⟨o, ho⟩, hk⟩ := hT
        have back : Owns y T B := by
          rcases hk with ⟨t, l, hk⟩ | ⟨cs, hk⟩
          · obtain ⟨l', k1, k2, k3⟩ := q.nx.ext.af T hTT t l (.inl hk)
            rcases k1 with k1 | k1
            · exact ⟨⟨o, by rw [← k3]; exact ho⟩, .inl ⟨t, l', k1⟩⟩
            ·
              exfalso
              rcases q.nx.hr.blk T _ hk with ⟨_, h⟩ | ⟨B', o', c', e', fr', g1, g2, g3, g4, _⟩
              · rw [ho] at h; cases h
              · rcases p.nx.hr.blk T _ k1 with ⟨_, h⟩ | ⟨B'', o'', c'', e'', fr'', f1, f2, f3, _⟩
                · rw [← k3, ho] at h; cases h
                · rw [← k3, g1] at f1; cases f1
                  rw [q.fz] at g4
                  exact g4 f3
          · obtain ⟨cs', k1, k3⟩ := q.nx.ext.box T hTT cs hk
            exact ⟨⟨o, by rw [← k3]; exact ho⟩, .inr ⟨cs', k1⟩⟩
        have := p.own B hB T back; omega
      · omega
theorem impCells_sound {ok : Nat → Prop} {base : Nat} : ∀ (t : Ty) (y : den t) (j : Nat) {cs : List AV} {hn : Heap} {j' : Nat} {vs : List Value} {ow : List Nat} {x : Cx}, impCells base t y j = (cs, hn, j') →
    ResC w.heap ok t y vs ow → HR x n0 → x.hp = w.heap → (∀ b, ok b → x.fz b) → ow.Nodup → (∀ b ∈ ow, n0 b ∧ ¬ x.fz b ∧ ∀ T, ¬ Owns x T b) → j' ≤ 16 → (∀ T ∈ heapToks x.H, T < base + j ∨ base + 16 ≤ T) →
    ∃ x', Imp x x' n0 (base + j) (base + j') w hn ∧ RVL x' cs vs ∧ j ≤ j' ∧ (∀ T ∈ toksL cs, base + j ≤ T ∧ T < base + j') ∧ (∀ b, b ∉ ow → (∀ T, ¬ Owns x T b) → ∀ T, ¬ Owns x' T b) := by
  intro t
  have plain : ∀ (t : Ty) (y : den t) (j : Nat) {vs : List Value} {ow : List Nat} {x : Cx}, ow = [] ∧ DeepC w.heap ok t y vs → HR x n0 → x.hp = w.heap → (∀ b, ok b → x.fz b) →
      ∃ x', Imp x x' n0 (base + j) (base + j) w [] ∧ RVL x' (cellsOf t y) vs ∧ j ≤ j ∧ (∀ T ∈ toksL (cellsOf t y), base + j ≤ T ∧ T < base + j) ∧ (∀ b, b ∉ ow → (∀ T, ¬ Owns x T b) → ∀ T, ¬ Owns x' T b) := by
    intro t y j vs ow x h hr hp hok
    refine ⟨x, .refl hr hp _, cells_RVL t y vs (DeepC.mono (fun b hb => ⟨hok b hb, by rw [hp]⟩) t y vs h.2), Nat.le_refl _, ?_, fun b _ h => h⟩
    rw [toks_cellsOf]; intro T hT; cases hT
  induction t with
  | own t ih =>
    intro y j cs hn j' vs ow x hi hres hr hp hok hnd hown hj hfr
    simp only [impCells, Prod.mk.injEq] at hi
    obtain ⟨rfl, rfl, rfl⟩ := hi
    obtain ⟨a, cap, rfl, hle, hcase⟩ := hres
    have hft : ∀ T ∈ heapToks x.H, T ≠ base + j := fun T hT => by have := hfr T hT; omega
    have who : ∀ (x' : Cx), x'.H = hput x.H (base + j) (.arr t y) → Place x' (base + j) t a 0 (List.length y) cap → RVL x' [.who (base + j) false] [.slice a (List.length y) cap] := by
      intro x' hH hpl
      refine .cons _ _ _ _ (.who _ _ _ _ _ fun t' l' ha => ?_) .nil
      have : t' = t ∧ HEq l' y := by
        unfold AF at ha
        rw [hH] at ha
        rcases ha with ha | ha
        · simp only [hget_hput, if_true, Option.some.injEq, Blk.arr.injEq] at ha
          obtain ⟨rfl, h⟩ := ha; exact ⟨rfl, h.symm⟩
        · simp only [hget_hput, if_true, Option.some.injEq] at ha; cases ha
      obtain ⟨rfl, hl'⟩ := this
      cases hl'
      exact ⟨rfl, hle, by simp, hpl⟩
    have imp : ∀ (x' : Cx), NxS x x' n0 (fun T => T ≠ base + j) w w → x'.H = hput x.H (base + j) (.arr t y) → x'.fz = x.fz → (∀ T b, Owns x' T b → T ≠ base + j → Owns x T b) →
        Imp x x' n0 (base + j) (base + (j + 1)) w [(base + j, .arr t y)] := by
      intro x' h1 h2 h3 h4
      refine ⟨h1.weaken fun T hT => by omega, h2, h3, fun T hT => ?_, fun b hb T hT => ?_⟩
      · rw [h2] at hT
        rcases heapToks_hput hT with h | h | h
        · exact .inl h
        · right; omega
        · simp [blkToks] at h
      · by_cases hTe : T = base + j
        · omega
        · exact absurd (h4 T b hT hTe) (hb T)
    have htk : ∀ T ∈ toksL [AV.who (base + j) false], base + j ≤ T ∧ T < base + (j + 1) := by
      intro T hT; simp [toksL, toks] at hT; omega
    rcases hcase with ⟨h1, h2, rfl⟩ | ⟨b, o, c, e, fr, rfl, rfl, hb, hfrz, hcap, hrows⟩
    · have hblk : BlkR (newCx x w.heap (base + j) none (.arr t y)) n0 (base + j) (.arr t y) := .inl ⟨h1, by simp [newCx]⟩
      have N := new_nextS (w' := w) hr hp hft (Grew.refl _) (.refl _ _) (fun B o h => by cases h) (fun B hB => by have := hr.size B hB; rw [hp] at this; exact this) hblk
      refine ⟨_, imp _ N rfl rfl (fun T b hT hne => ?_), who _ rfl (.inl ⟨by rw [h1]; rfl, h2⟩), by omega, htk, fun b _ hb T hT => ?_⟩
      · obtain ⟨⟨o, ho⟩, hk⟩ := hT
        simp only [newCx, if_neg hne] at ho
        simp only [newCx, hget_hput, if_neg hne] at hk
        exact ⟨⟨o, ho⟩, hk⟩
      · obtain ⟨⟨o, ho⟩, hk⟩ := hT
        by_cases hne : T = base + j
        · subst hne; simp [newCx] at ho
        · simp only [newCx, if_neg hne] at ho
          simp only [newCx, hget_hput, if_neg hne] at hk
          exact hb T ⟨⟨o, ho⟩, hk⟩
    · obtain ⟨hn0, hnf, hno⟩ := hown b (by simp)
      have hsz : List.length y * csz t ≤ cap * csz t := Nat.mul_le_mul_right _ hle
      have hblk : BlkR (newCx x w.heap (base + j) (some (b, o)) (.arr t y)) n0 (base + j) (.arr t y) := by
        refine .inr ⟨b, o, c, e, fr, by simp [newCx], hb, hn0, hnf, hfrz, by omega, fun i hi => ?_⟩
        exact DeepC.mono (fun b hb => ⟨hok b hb, rfl⟩) _ _ _ (hrows i hi)
      have N := reuse_nextS (w' := w) hr hp hft hnf hno (fun _ _ => rfl) rfl (.refl _) (.refl _ _) hblk
      refine ⟨_, imp _ N rfl rfl (fun T b' hT hne => ?_), who _ rfl (.inr ⟨b, o, c, e, fr, by simp [newCx], by simp, hb, by rw [Nat.zero_add]; exact hcap⟩), by omega, htk, fun b' hb' hnb T hT => ?_⟩
      · obtain ⟨⟨o', ho⟩, hk⟩ := hT
        simp only [newCx, if_neg hne] at ho
        simp only [newCx, hget_hput, if_neg hne] at hk
        exact ⟨⟨o', ho⟩, hk⟩
      · obtain ⟨⟨o', ho⟩, hk⟩ := hT
        by_cases hne : T = base + j
        · subst hne
          simp [newCx] at ho
          exact hb' (by simp [ho.1])
        · simp only [newCx, if_neg hne] at ho
          simp only [newCx, hget_hput, if_neg hne] at hk
          exact hnb T ⟨⟨o', ho⟩, hk⟩
  | pair a b iha ihb =>
    intro y j cs hn j' vs ow x hi hres hr hp hok hnd hown hj hfr
    obtain ⟨v1, v2, o1, o2, rfl, rfl, r1, r2⟩ := hres
    simp only [impCells] at hi
    generalize h1 : impCells base a y.1 j = z1 at hi
    obtain ⟨c1, g1, j1⟩ := z1
    simp only at hi
    generalize h2 : impCells base b y.2 j1 = z2 at hi
    obtain ⟨c2, g2, j2⟩ := z2
    simp only [Prod.mk.injEq] at hi
    obtain ⟨rfl, rfl, rfl⟩ := hi
    rw [List.nodup_append] at hnd
    obtain ⟨nd1, nd2, ndx⟩ := hnd
    have mono : ∀ (t : Ty) (y : den t) (j : Nat), j ≤ (impCells base t y j).2.2 := by
      intro t
      induction t with
      | own t _ => intro y j; simp [impCells]
      | pair a b iha ihb =>
        intro y j
        simp only [impCells]
        have k1 := iha y.1 j
        have k2 := ihb y.2 (impCells base a y.1 j).2.2
        exact Nat.le_trans k1 k2
      | one t ih => intro y j; exact ih y j
      | _ => intro y j; exact Nat.le_refl _
    have m2 := mono b y.2 j1
    rw [h2] at m2
    simp only at m2
    obtain ⟨x1, i1, k1, l1, t1, q1⟩ := iha y.1 j h1 r1 hr hp hok nd1 (fun b hb => hown b (by simp [hb])) (by omega) hfr
    have hp1 : x1.hp = w.heap := i1.nx.hp
    obtain ⟨x2, i2, k2, l2, t2, q2⟩ := ihb y.2 j1 h2 r2 i1.nx.hr hp1 (fun b hb => by rw [i1.fz]; exact hok b hb) nd2
      (fun b hb => by
        obtain ⟨f1, f2, f3⟩ := hown b (by simp [hb])
        exact ⟨f1, by rw [i1.fz]; exact f2, q1 b (fun h => ndx b h b hb rfl) f3⟩) hj
      (fun T hT => by
        rcases i1.toks T hT with h | h
        · have := hfr T h; omega
        · left; omega)
    refine ⟨x2, i1.trans (by omega) (by omega) i2, (RVL.mono i2.nx.ext k1 fun T hT => by have := t1 T hT; omega).append k2, by omega, fun T hT => ?_, fun b hb h T => ?_⟩
    · rw [toksL_append] at hT
      rcases List.mem_append.1 hT with h | h
      · have := t1 T h; omega
      · have := t2 T h; omega
    · exact q2 b (fun h' => hb (by simp [h'])) (q1 b (fun h' => hb (by simp [h'])) h) T
  | one t ih =>
    intro y j cs hn j' vs ow x hi hres hr hp hok hnd hown hj hfr
    exact ih y j hi hres hr hp hok hnd hown hj hfr
  | unit => intro y j cs hn j' vs ow x hi hres hr hp hok _ _ _ _; simp only [impCells, Prod.mk.injEq] at hi; obtain ⟨rfl, rfl, rfl⟩ := hi; exact plain _ _ _ hres hr hp hok
  | bool => intro y j cs hn j' vs ow x hi hres hr hp hok _ _ _ _; simp only [impCells, Prod.mk.injEq] at hi; obtain ⟨rfl, rfl, rfl⟩ := hi; exact plain _ _ _ hres hr hp hok
  | int k => intro y j cs hn j' vs ow x hi hres hr hp hok _ _ _ _; simp only [impCells, Prod.mk.injEq] at hi; obtain ⟨rfl, rfl, rfl⟩ := hi; exact plain _ _ _ hres hr hp hok
  | str => intro y j cs hn j' vs ow x hi hres hr hp hok _ _ _ _; simp only [impCells, Prod.mk.injEq] at hi; obtain ⟨rfl, rfl, rfl⟩ := hi; exact plain _ _ _ hres hr hp hok
  | sl t _ => intro y j cs hn j' vs ow x hi hres hr hp hok _ _ _ _; simp only [impCells, Prod.mk.injEq] at hi; obtain ⟨rfl, rfl, rfl⟩ := hi; exact plain _ _ _ hres hr hp hok
  | fn f => intro y j cs hn j' vs ow x hi hres hr hp hok _ _ _ _; simp only [impCells, Prod.mk.injEq] at hi; obtain ⟨rfl, rfl, rfl⟩ := hi; exact plain _ _ _ hres hr hp hok
end
end Go.Proofs.YtpdfjgooaaailaaGreatDoor.K
namespace Go.Proofs.YtpdfjgooaaailaaGreatDoor.K
open Go
open Go.RowKit (Below)
section
variable {P : Program} {C : Ctx} {x : Cx} {n0 : Nat → Prop} {tok : Nat} (hr : HR x n0) {w : World} (hp : x.hp = w.heap)
theorem impCells_mono (base : Nat) : ∀ (t : Ty) (y : den t) (j : Nat), j ≤ (impCells base t y j).2.2 := by
  intro t
  induction t with
  | own t _ => intro y j; simp [impCells]
  | pair a b iha ihb => intro y j; exact Nat.le_trans (iha y.1 j) (ihb y.2 (impCells base a y.1 j).2.2)
  | one t ih => intro y j; exact ih y j
  | _ => intro y j; exact Nat.le_refl _
theorem toks_ofDen (t : Ty) (y : den t) : toks (ofDen t y) = [] := by
  cases t <;> first
    | rfl
    | exact toks_cellsOf (.pair _ _) y
    | exact toks_cellsOf (.one _) y
def ImpOut (x : Cx) (n0 : Nat → Prop) (w : World) (base j j' : Nat) (hn : Heap) (ow : List Nat) (R : Cx → Prop) (T0 : List Nat) : Prop :=
  ∃ x', Imp x x' n0 (base + j) (base + j') w hn ∧ R x' ∧ j ≤ j' ∧ (∀ T ∈ T0, base + j ≤ T ∧ T < base + j') ∧ (∀ b, b ∉ ow → (∀ T, ¬ Owns x T b) → ∀ T, ¬ Owns x' T b)
theorem imp_sound {ok : Nat → Prop} {base : Nat} {t : Ty} {y : den t} {j : Nat} {av : AV} {hn : Heap} {j' : Nat} {v : Value} {ow : List Nat} {x : Cx} (hi : imp base t y j = (av, hn, j'))
    (hres : ResV w.heap ok t y v ow) (hr : HR x n0) (hp : x.hp = w.heap) (hok : ∀ b, ok b → x.fz b) (hnd : ow.Nodup) (hown : ∀ b ∈ ow, n0 b ∧ ¬ x.fz b ∧ ∀ T, ¬ Owns x T b) (hj : j' ≤ 16)
    (hfr : ∀ T ∈ heapToks x.H, T < base + j ∨ base + 16 ≤ T) : ImpOut x n0 w base j j' hn ow (fun x' => RV x' av v) (toks av) := by
  unfold imp at hi
  split at hi
  · rename_i ho
    simp only [Prod.mk.injEq] at hi
    obtain ⟨rfl, rfl, rfl⟩ := hi
    obtain ⟨rfl, hd⟩ := ResV_plain ho hres
    refine ⟨x, .refl hr hp _, ofDen_RV (DenV_mono (fun b hb => ⟨hok b hb, by rw [hp]⟩) hd), Nat.le_refl _, ?_, fun b _ h => h⟩
    rw [toks_ofDen]; intro T hT; cases hT
  · generalize hic : impCells base t y j = z at hi
    obtain ⟨cs, g, jj⟩ := z
    unfold ResV at hres
    split at hi
    · rename_i cs' h' j'' hag heq
      simp only [Prod.mk.injEq] at heq hi
      obtain ⟨rfl, rfl, rfl⟩ := heq
      obtain ⟨rfl, rfl, rfl⟩ := hi
      rw [hag] at hres
      obtain ⟨vs, rfl, hres⟩ := hres
      obtain ⟨x', k1, k2, k3, k4, k5⟩ := impCells_sound t y j hic hres hr hp hok hnd hown hj hfr
      exact ⟨x', k1, .agg _ _ k2, k3, by simpa [toks] using k4, k5⟩
    · rename_i c cs' h' j'' hag heq
      simp only [Prod.mk.injEq] at heq hi
      obtain ⟨rfl, rfl, rfl⟩ := heq
      obtain ⟨rfl, rfl, rfl⟩ := hi
      rw [hag] at hres
      obtain ⟨_, hres⟩ := hres
      obtain ⟨x', k1, k2, k3, k4, k5⟩ := impCells_sound t y j hic hres hr hp hok hnd hown hj hfr
      cases k2 with
      | cons _ _ _ _ q1 q2 => exact ⟨x', k1, q1, k3, fun T hT => k4 T (by simp [toksL, hT]), k5⟩
    · rename_i h' j'' hag heq
      simp only [Prod.mk.injEq] at heq hi
      obtain ⟨rfl, rfl, rfl⟩ := heq
      rw [hag] at hres
      obtain ⟨_, hres⟩ := hres
      obtain ⟨x', k1, k2, k3, k4, k5⟩ := impCells_sound t y j hic hres hr hp hok hnd hown (by obtain ⟨_, _, rfl⟩ := hi; exact hj) hfr
      cases k2
theorem imp_mono (base : Nat) (t : Ty) (y : den t) (j : Nat) : j ≤ (imp base t y j).2.2 := by
  have := impCells_mono base t y j
  unfold imp
  split
  · exact Nat.le_refl _
  · generalize impCells base t y j = z at this
    obtain ⟨cs, g, jj⟩ := z
    cases isAgg t <;> cases cs <;> exact this
theorem impL_0 (base : Nat) (y : den (tyL [])) (j : Nat) : impL base [] y j = ([], [], j) := rfl
theorem impL_1 (base : Nat) (t : Ty) (y : den (tyL [t])) (j : Nat) : impL base [t] y j = ([(imp base t y j).1], (imp base t y j).2.1, (imp base t y j).2.2) := rfl
theorem impL_2 (base : Nat) (t u : Ty) (ts : List Ty) (y : den (tyL (t :: u :: ts))) (j : Nat) : impL base (t :: u :: ts) y j =
  ((imp base t y.1 j).1 :: (impL base (u :: ts) y.2 (imp base t y.1 j).2.2).1, (imp base t y.1 j).2.1 ++ (impL base (u :: ts) y.2 (imp base t y.1 j).2.2).2.1, (impL base (u :: ts) y.2 (imp base t y.1 j).2.2).2.2) := rfl
theorem impL_mono (base : Nat) (ts : List Ty) : ∀ (y : den (tyL ts)) (j : Nat), j ≤ (impL base ts y j).2.2 := by
  induction ts with
  | nil => intro y j; rw [impL_0]; exact Nat.le_refl _
  | cons t ts ih =>
    cases ts with
    | nil => intro y j; rw [impL_1]; exact imp_mono base t y j
    | cons u ts => intro y j; rw [impL_2]; exact Nat.le_trans (imp_mono base t y.1 j) (ih y.2 _)
theorem impL_sound {ok : Nat → Prop} {base : Nat} (ts : List Ty) : ∀ {y : den (tyL ts)} {j : Nat} {vs : List Value} {ow : List Nat} {x : Cx} {rs : List AV} {hn : Heap} {j' : Nat}, impL base ts y j = (rs, hn, j') →
    ResL w.heap ok ts y vs ow → HR x n0 → x.hp = w.heap → (∀ b, ok b → x.fz b) → ow.Nodup → (∀ b ∈ ow, n0 b ∧ ¬ x.fz b ∧ ∀ T, ¬ Owns x T b) → j' ≤ 16 →
    (∀ T ∈ heapToks x.H, T < base + j ∨ base + 16 ≤ T) →
    ImpOut x n0 w base j j' hn ow (fun x' => RVL x' rs vs) (toksL rs) := by
  induction ts with
  | nil =>
    intro y j vs ow x rs hn j' hi hres hr hp hok hnd hown hj hfr
    rw [ResL_0] at hres
    rw [impL_0] at hi
    simp only [Prod.mk.injEq] at hi
    obtain ⟨rfl, rfl, rfl⟩ := hi
    obtain ⟨rfl, rfl⟩ := hres
    exact ⟨x, .refl hr hp _, .nil, Nat.le_refl _, (fun T hT => by cases hT), fun b _ h => h⟩
  | cons t ts ih =>
    cases ts with
    | nil =>
      intro y j vs ow x rs hn j' hi hres hr hp hok hnd hown hj hfr
      rw [ResL_1] at hres
      rw [impL_1] at hi
      generalize hz : imp base t y j = z at hi
      obtain ⟨av, g, j1⟩ := z
      simp only [Prod.mk.injEq] at hi
      obtain ⟨rfl, rfl, rfl⟩ := hi
      obtain ⟨v, rfl, hres⟩ := hres
      obtain ⟨x', k1, k2, k3, k4, k5⟩ := imp_sound hz hres hr hp hok hnd hown hj hfr
      exact ⟨x', k1, .cons _ _ _ _ k2 .nil, k3, fun T hT => k4 T (by simpa [toksL] using hT), k5⟩
    | cons u ts =>
      intro y j vs ow x rs hn j' hi hres hr hp hok hnd hown hj hfr
      rw [ResL_2] at hres
      rw [impL_2] at hi
      generalize hz : imp base t y.1 j = z at hi
      obtain ⟨av, g, j1⟩ := z
      simp only at hi
      generalize hz2 : impL base (u :: ts) y.2 j1 = z2 at hi
      obtain ⟨avs, g2, j2⟩ := z2
      simp only [Prod.mk.injEq] at hi
      obtain ⟨rfl, rfl, rfl⟩ := hi
      obtain ⟨v, vs', o1, o2, rfl, rfl, r1, r2⟩ := hres
      rw [List.nodup_append] at hnd
      obtain ⟨nd1, nd2, ndx⟩ := hnd
      have m2 := impL_mono base (u :: ts) y.2 j1
      rw [hz2] at m2
      simp only at m2
      obtain ⟨x1, i1, k1, l1, t1, q1⟩ := imp_sound hz r1 hr hp hok nd1 (fun b hb => hown b (by simp [hb])) (by omega) hfr
      have hp1 : x1.hp = w.heap := i1.nx.hp
      obtain ⟨x2, i2, k2, l2, t2, q2⟩ := ih hz2 r2 i1.nx.hr hp1 (fun b hb => by rw [i1.fz]; exact hok b hb) nd2
        (fun b hb => by
          obtain ⟨f1, f2, f3⟩ := hown b (by simp [hb])
          exact ⟨f1, by rw [i1.fz]; exact f2, q1 b (fun h => ndx b h b hb rfl) f3⟩) hj
        (fun T hT => by
          rcases i1.toks T hT with h | h
          · have := hfr T h; omega
          · left; omega)
      refine ⟨x2, i1.trans (by omega) (by omega) i2, .cons _ _ _ _ (RV.mono i2.nx.ext k1 fun T hT => by have := t1 T hT; omega) k2, by omega, fun T hT => ?_, fun b hb h T => ?_⟩
      · simp only [toksL, List.mem_append] at hT
        rcases hT with h | h
        · have := t1 T h; omega
        · have := t2 T h; omega
      · exact q2 b (fun h' => hb (by simp [h'])) (q1 b (fun h' => hb (by simp [h'])) h) T
theorem oneOf_RV {x : Cx} {vs : List AV} {us : List Value} (h : RVL x vs us) : RV x (oneOf vs) (oneV us) := by
  cases h with
  | nil => exact .tup [] [] .nil
  | cons c v cs us h1 h2 =>
    cases h2 with
    | nil => exact h1
    | cons c' v' cs us h2 h3 => exact .tup _ _ (.cons _ _ _ _ h1 (.cons _ _ _ _ h2 h3))
theorem tupOf_RV {x : Cx} {ts : List Ty} {vs : List AV} {us : List Value} (h : RVL x vs us) (hl : ts.length = vs.length) : RV x (tupOf ts vs) (oneV us) := by
  have e : tupOf ts vs = oneOf vs := by
    unfold tupOf oneOf
    split
    · rfl
    · rename_i h1
      split
      · rename_i v
        exfalso
        match ts, hl with
        | [t], _ => exact h1 t v rfl rfl
      · rfl
  rw [e]; exact oneOf_RV h
theorem ofDenL_length (ts : List Ty) : ∀ y : den (tyL ts), (ofDenL ts y).length = ts.length := by
  induction ts with
  | nil => intro y; rfl
  | cons t ts ih =>
    cases ts with
    | nil => intro y; rfl
    | cons u ts => intro y; show (ofDen t y.1 :: ofDenL (u :: ts) y.2).length = _; rw [List.length_cons, ih y.2]; rfl
theorem impL_length (base : Nat) (ts : List Ty) : ∀ (y : den (tyL ts)) (j : Nat), (impL base ts y j).1.length = ts.length := by
  induction ts with
  | nil => intro y j; rfl
  | cons t ts ih =>
    cases ts with
    | nil => intro y j; rfl
    | cons u ts => intro y j; rw [impL_2, List.length_cons, ih y.2]; rfl
def resOne (a : Act) : ResultVar → Sem Value
  | .tmp t => pure (a.tmps.getD t undef)
  | .cell ad t => do loadVar t (← asAddr (a.tmps.getD ad undef))
theorem results_eq (fn : Func) (a : Act) : results fn a.tmps = (do
    let vs ← fn.results.mapM (resOne a)
    pure (if h : vs.size = 1 then vs[0] else .tuple vs)) := by
  unfold results
  congr 1
theorem resultsOf_sound (hT : CtxTI P C) (hr : HR x n0) (hp : x.hp = w.heap) {st : St} (hH : x.H = st.heap) {a : Act} (henv : ∀ t, RV x (get st.env t) (a.tmps.getD t undef)) :
    ∀ {rs : List ResultVar} {vs : List AV}, resultsOf (C := C) rs st = some vs → ∃ us, RVL x vs us ∧
      (rs.mapM (resOne a)).run P w = Result.ok us w
  | [], vs, h => by
    simp only [resultsOf, Option.some.injEq] at h; subst h
    exact ⟨[], .nil, by simp⟩
  | .tmp t :: rs, vs, h => by
    simp only [resultsOf] at h
    split at h
    · rename_i vs' hv
      simp only [Option.some.injEq] at h; subst h
      obtain ⟨us, h1, h2⟩ := resultsOf_sound hT hr hp hH henv hv
      refine ⟨_ :: us, .cons _ _ _ _ (henv t) h1, ?_⟩
      simp only [List.mapM_cons, resOne, Sem.run_bind, Sem.run_pure, Result.andThen_ok, h2]
    · simp at h
  | .cell ad t :: rs, vs, h => by
    simp only [resultsOf] at h
    split at h
    · rename_i ti hti
      split at h
      · rename_i v v2 h2 vs' hl hv
        simp only [Option.some.injEq] at h; subst h
        obtain ⟨us, h1, h2⟩ := resultsOf_sound hT hr hp hH henv hv
        have := loadOp_pure (P := P) hr hp (hT _ _ hti) (henv ad)
        rw [hH, hl] at this
        obtain ⟨u, k1, k2⟩ := this.2 rfl
        have hrun : (resOne a (.cell ad t)).run P w = .ok u w := by
          simp only [resOne]
          cases hv : a.tmps.getD ad undef with
          | pointer o =>
            cases o with
            | some p => rw [hv] at k1; simpa [Instr.loadAt, Instr.sureAddr, asAddr] using k1
            | none => rw [hv] at k1; simp [Instr.loadAt, Instr.sureAddr] at k1
          | _ => rw [hv] at k1; simp [Instr.loadAt, Instr.sureAddr] at k1
        refine ⟨u :: us, .cons _ _ _ _ k2 h1, ?_⟩
        rw [List.mapM_cons, Sem.run_bind]
        simp only [hrun, Sem.run_bind, Sem.run_pure, Result.andThen_ok, h2]
      · simp at h
    · simp at h
theorem results_run {fn : Func} {a : Act} {us : List Value} (h : (fn.results.toList.mapM (resOne a)).run P w = Result.ok us w) : (results fn a.tmps).run P w = .ok (oneV us) w := by
  rw [results_eq, Array.mapM_eq_mapM_toList]
  simp only [Sem.run_bind, Sem.run_map, h, Result.andThen_ok, Sem.run_pure]
  congr 1
  match us with
  | [] => rfl
  | [v] => rfl
  | _ :: _ :: _ => rfl
inductive OwOf (x : Cx) : List Nat → List Nat → Prop
  | nil : OwOf x [] []
  | skip (T : Nat) (g ow : List Nat) : OwOf x g ow → OwOf x (T :: g) ow
  | take (T b : Nat) (g ow : List Nat) : Owns x T b → OwOf x g ow → OwOf x (T :: g) (b :: ow)
theorem OwOf.append {x : Cx} {g ow g' ow' : List Nat} (h : OwOf x g ow) (k : OwOf x g' ow') : OwOf x (g ++ g') (ow ++ ow') := by
  induction h with
  | nil => exact k
  | skip T g ow _ ih => exact .skip T _ _ ih
  | take T b g ow ho _ ih => exact .take T b _ _ ho ih
theorem OwOf.mem {x : Cx} {g ow : List Nat} (h : OwOf x g ow) : ∀ b ∈ ow, ∃ T ∈ g, Owns x T b := by
  induction h with
  | nil => intro b hb; cases hb
  | skip T g ow _ ih => intro b hb; obtain ⟨T', h1, h2⟩ := ih b hb; exact ⟨T', by simp [h1], h2⟩
  | take T b g ow ho _ ih =>
    intro b' hb
    rcases List.mem_cons.1 hb with rfl | hb
    · exact ⟨T, by simp, ho⟩
    · obtain ⟨T', h1, h2⟩ := ih b' hb; exact ⟨T', by simp [h1], h2⟩
theorem nodupB_nodup : ∀ {l : List Nat}, nodupB l = true → l.Nodup
  | [], _ => List.nodup_nil
  | x :: l, h => by
    simp only [nodupB, Bool.and_eq_true, Bool.not_eq_true', List.elem_eq_mem, decide_eq_false_iff_not] at h
    exact List.nodup_cons.2 ⟨h.1, nodupB_nodup h.2⟩
theorem OwOf.nodup {x : Cx} (hr : HR x n0) {g ow : List Nat} (h : OwOf x g ow) (hg : g.Nodup) : ow.Nodup := by
  induction h with
  | nil => exact List.nodup_nil
  | skip T g ow _ ih => exact ih (List.nodup_cons.1 hg).2
  | take T b g ow ho h ih =>
    obtain ⟨h1, h2⟩ := List.nodup_cons.1 hg
    refine List.nodup_cons.2 ⟨fun hb => ?_, ih h2⟩
    obtain ⟨T', k1, k2⟩ := h.mem b hb
    have := hr.inj T T' b ho k2
    subst this
    exact h1 k1
theorem givesC_sound (hr : HR x n0) {fz' : Nat → Prop} (hf : ∀ b, x.fz b → fz' b) : ∀ (t : Ty) {cs : List AV} {vs : List Value} {y : den t} {g sh : List Nat} {rest rest' : List AV},
    RVL x cs vs → givesC x.H t cs = some (g, sh, rest) → ofCells t (cs.map (deep x.H)) = some (y, rest') → Shows x fz' sh →
    ∃ vs1 vs2 ow, vs = vs1 ++ vs2 ∧ ResC x.hp fz' t y vs1 ow ∧ rest' = rest.map (deep x.H) ∧ RVL x rest vs2 ∧ OwOf x g ow := by
  intro t
  have one : ∀ (t : Ty), t ≠ .unit → ∀ {c : AV} {cs : List AV} {v : Value} {vs : List Value} {y : den t} {rest' : List AV}, RV x c v → RVL x cs vs →
      (match ofCell t (deep x.H c) with
      | some x_1 => some (x_1, cs.map (deep x.H))
      | none => none) = some (y, rest') → Shows x fz' (toks c) → DeepC x.hp fz' t y [v] ∧ rest' = cs.map (deep x.H) := by
    intro t htu c cs v vs y rest' h1 h2 ho hs
    split at ho
    · rename_i y' hy
      obtain ⟨e1, e2⟩ := Prod.mk.inj (Option.some.inj ho)
      subst e1
      exact ⟨ofCell_deep hr hf h1 hs hy htu, e2.symm⟩
    · cases ho
  induction t with
  | unit =>
    intro cs vs y g sh rest rest' h hg ho hs
    simp only [givesC, Option.some.injEq, Prod.mk.injEq] at hg
    obtain ⟨rfl, rfl, rfl⟩ := hg
    simp only [ofCells, Option.some.injEq, Prod.mk.injEq] at ho
    exact ⟨[], vs, [], rfl, ⟨rfl, rfl⟩, ho.2.symm, h, .nil⟩
  | pair a b iha ihb =>
    intro cs vs y g sh rest rest' h hg ho hs
    simp only [givesC] at hg
    split at hg
    · rename_i g1 s1 c1 hg1
      split at hg
      · rename_i g2 s2 c2 hg2
        simp only [Option.some.injEq, Prod.mk.injEq] at hg
        obtain ⟨rfl, rfl, rfl⟩ := hg
        simp only [ofCells] at ho
        split at ho
        · rename_i y1 r1 ho1
          split at ho
          · rename_i y2 r2 ho2
            simp only [Option.some.injEq, Prod.mk.injEq] at ho
            obtain ⟨rfl, rfl⟩ := ho
            obtain ⟨v1, v2, o1, rfl, k1, rfl, k3, k4⟩ := iha h hg1 ho1 (fun T hT => hs T (by simp [hT]))
            obtain ⟨v3, v4, o3, rfl, q1, rfl, q3, q4⟩ := ihb k3 hg2 ho2 (fun T hT => hs T (by simp [hT]))
            exact ⟨v1 ++ v3, v4, o1 ++ o3, by simp, ⟨v1, v3, o1, o3, rfl, rfl, k1, q1⟩, rfl, q3, k4.append q4⟩
          · simp at ho
        · simp at ho
      · simp at hg
    · simp at hg
  | one t ih => intro cs vs y g sh rest rest' h hg ho hs; exact ih h hg ho hs
  | own t _ =>
    intro cs vs y g sh rest rest' h hg ho hs
    cases h with
    | nil => simp [givesC] at hg
    | cons c v cs vs h1 h2 =>
      simp only [givesC] at hg
      simp only [List.map_cons, ofCells] at ho
      split at hg
      · simp only [Option.some.injEq, Prod.mk.injEq] at hg
        obtain ⟨rfl, rfl, rfl⟩ := hg
        cases h1
        simp only [deep, ofCell, Option.some.injEq, Prod.mk.injEq] at ho
        obtain ⟨rfl, rfl⟩ := ho
        exact ⟨[_], vs, [], rfl, ⟨none, 0, rfl, Nat.le_refl _, .inl ⟨rfl, rfl, rfl⟩⟩, rfl, h2, .nil⟩
      · rename_i tk f
        split at hg
        · rename_i t' l hl
          simp only [Option.some.injEq, Prod.mk.injEq] at hg
          obtain ⟨rfl, rfl, rfl⟩ := hg
          simp only [deep, hl, ofCell] at ho
          split at ho
          · rename_i y' hy
            split at hy
            · rename_i he
              subst he
              obtain ⟨e1, e2⟩ := Prod.mk.inj (Option.some.inj ho)
              have hy := Option.some.inj hy
              subst e1; subst e2
              subst hy
              cases h1 with
              | who _ _ a n cap q =>
              obtain ⟨g1, g2, g3, g4⟩ := q t' l (.inl hl)
              subst g1
              rcases g4 with ⟨g5, g6⟩ | ⟨b, o, c, e, fr, g5, rfl, g7, g8⟩
              · exact ⟨[_], vs, [], rfl, ⟨a, cap, rfl, g2, .inl ⟨List.eq_nil_of_length_eq_zero g5, g6, rfl⟩⟩, rfl, h2, .skip _ _ _ .nil⟩
              · rcases hr.blk _ _ hl with ⟨_, h⟩ | ⟨b', o', c', e', fr', k1, k2, k3, k4, k5, k6, k7⟩
                · rw [g5] at h; cases h
                rw [g5] at k1; cases k1
                rw [g7] at k2
                simp only [Option.some.injEq, Obj.cells.injEq] at k2
                obtain ⟨rfl, rfl, rfl⟩ := k2
                refine ⟨[_], vs, [b], rfl, ⟨_, cap, rfl, g2, .inr ⟨b, o, c, e, fr, rfl, by simp, g7, k5, by simpa using g8, fun i hi => ?_⟩⟩, rfl, h2, .take _ b _ _ ⟨⟨o, g5⟩, .inl ⟨t', l, hl⟩⟩ .nil⟩
                exact DeepC.mono (fun b hb => ⟨hf b hb, rfl⟩) _ _ _ (k7 i hi)
            · cases hy
          · cases ho
        · simp at hg
      · simp at hg
  | _ =>
    intro cs vs y g sh rest rest' h hg ho hs
    cases h with
    | nil => simp [givesC] at hg
    | cons c v cs vs h1 h2 =>
      simp only [givesC, Option.some.injEq, Prod.mk.injEq] at hg
      obtain ⟨rfl, rfl, rfl⟩ := hg
      simp only [List.map_cons, ofCells] at ho
      obtain ⟨k1, k2⟩ := one _ (by simp) h1 h2 ho hs
      exact ⟨[v], vs, [], rfl, ⟨rfl, k1⟩, k2, h2, .nil⟩
theorem toDen_one {H : Heap} {t : Ty} {c : AV} {y : den t} (hag : isAgg t = false) (ho : toDen H t c = some y) : t ≠ .unit ∧ ofCell t (deep H c) = some y := by
  cases t <;> first
    | (simp [isAgg] at hag; done)
    | (simp [toDen, isAgg] at ho; done)
    | exact ⟨by simp, by simpa only [toDen, isAgg] using ho⟩
theorem toDen_agg {H : Heap} {t : Ty} {c : AV} {y : den t} (hag : isAgg t = true) (ho : toDen H t c = some y) : ∃ cs, c = .agg cs ∧ ofCells t (cs.map (deep H)) = some (y, []) := by
  unfold toDen at ho
  rw [hag] at ho
  cases c with
  | agg cs =>
    refine ⟨cs, rfl, ?_⟩
    simp only at ho
    split at ho
    · rename_i y' hy
      have ho := Option.some.inj ho
      subst ho; exact hy
    · cases ho
  | _ => simp at ho
theorem ofCell_cells {H : Heap} {t : Ty} {c : AV} {y : den t} (ho : ofCell t (deep H c) = some y) : cells c = [c] := by
  cases c with
  | agg cs => cases t <;> simp [deep, ofCell] at ho
  | _ => rfl
theorem ofCells_one {t : Ty} {c : AV} {y : den t} (hag : isAgg t = false) (htu : t ≠ .unit) (ho : ofCell t c = some y) : ofCells t [c] = some (y, []) := by
  cases t <;> first
    | (simp [isAgg] at hag; done)
    | exact absurd rfl htu
    | simp only [ofCells, ho]
theorem givesV_sound (hr : HR x n0) {fz' : Nat → Prop} (hf : ∀ b, x.fz b → fz' b) {t : Ty} {c : AV} {v : Value} {y : den t} {g sh : List Nat} (h : RV x c v)
    (hg : givesC x.H t (cells c) = some (g, sh, [])) (ho : toDen x.H t c = some y) (hs : Shows x fz' sh) : ∃ ow, ResV x.hp fz' t y v ow ∧ OwOf x g ow := by
  unfold ResV
  cases hag : isAgg t with
  | true =>
    obtain ⟨cs, rfl, hy⟩ := toDen_agg hag ho
    cases h with
    | agg _ vs h =>
    simp only [cells] at hg
    obtain ⟨v1, v2, ow, rfl, k1, k2, k3, k4⟩ := givesC_sound hr hf t h hg hy hs
    cases k3
    exact ⟨ow, ⟨v1, by simp, k1⟩, k4⟩
  | false =>
    obtain ⟨htu, hy⟩ := toDen_one hag ho
    rw [ofCell_cells hy] at hg
    have hoc := ofCells_one hag htu hy
    obtain ⟨v1, v2, ow, e, k1, k2, k3, k4⟩ := givesC_sound hr hf t (.cons _ _ _ _ h .nil) hg (by simpa using hoc) hs
    cases k3
    simp only [List.append_nil] at e
    subst e
    exact ⟨ow, ⟨htu, k1⟩, k4⟩
theorem givesL_sound (hr : HR x n0) {fz' : Nat → Prop} (hf : ∀ b, x.fz b → fz' b) (ts : List Ty) : ∀ {cs : List AV} {vs : List Value} {y : den (tyL ts)} {g sh : List Nat}, RVL x cs vs →
    givesL x.H ts cs = some (g, sh) → toDenL x.H ts cs = some y → Shows x fz' sh → ∃ ow, ResL x.hp fz' ts y vs ow ∧ OwOf x g ow := by
  induction ts with
  | nil =>
    intro cs vs y g sh h hg ho hs
    cases h with
    | nil =>
      simp only [givesL, Option.some.injEq, Prod.mk.injEq] at hg
      obtain ⟨rfl, rfl⟩ := hg
      exact ⟨[], by rw [ResL_0]; exact ⟨rfl, rfl⟩, .nil⟩
    | cons => simp [givesL] at hg
  | cons t ts ih =>
    intro cs vs y g sh h hg ho hs
    cases h with
    | nil => simp [givesL] at hg
    | cons c v cs vs h1 h2 =>
      simp only [givesL] at hg
      split at hg
      · rename_i g1 s1 g2 s2 hg1 hg2
        simp only [Option.some.injEq, Prod.mk.injEq] at hg
        obtain ⟨rfl, rfl⟩ := hg
        cases ts with
        | nil =>
          cases h2 with
          | cons => rw [toDenL_12] at ho; cases ho
          | nil =>
            rw [toDenL_11] at ho
            simp only [givesL, Option.some.injEq, Prod.mk.injEq] at hg2
            obtain ⟨rfl, rfl⟩ := hg2
            obtain ⟨ow, k1, k2⟩ := givesV_sound hr hf h1 hg1 ho (fun T hT => hs T (by simp [hT]))
            exact ⟨ow, by rw [ResL_1]; exact ⟨v, rfl, k1⟩, by simpa using k2⟩
        | cons u ts =>
          rw [toDenL_22] at ho
          split at ho
          · rename_i y1 hy1
            split at ho
            · rename_i y2 hy2
              have e := Option.some.inj ho
              subst e
              obtain ⟨o1, k1, k2⟩ := givesV_sound hr hf h1 hg1 hy1 (fun T hT => hs T (by simp [hT]))
              obtain ⟨o2, q1, q2⟩ := ih h2 hg2 hy2 (fun T hT => hs T (by simp [hT]))
              refine ⟨o1 ++ o2, ?_, k2.append q2⟩
              show (∃ v0 vs0 a0 b0, (v :: vs) = v0 :: vs0 ∧ (o1 ++ o2) = a0 ++ b0 ∧ ResV x.hp fz' t y1 v0 a0 ∧ ResL x.hp fz' (u :: ts) y2 vs0 b0)
              exact ⟨v, vs, o1, o2, rfl, rfl, k1, q1⟩
            · cases ho
          · cases ho
      · cases hg
end
end Go.Proofs.YtpdfjgooaaailaaGreatDoor.K
