/- The abstract machine: built slices and appends, shown against the model's. -/
import Derived.Test.YtcdcijhfjiahkaaDoorRK6
set_option linter.unusedVariables false
set_option linter.unusedSimpArgs false
namespace Go.Proofs.YtcdcijhfjiahkaaDoorR.K
open Go
open Go.RowKit (Below)

section
variable {P : Program} {C : Ctx} (hT : CtxTI P C) {x : Cx} {n0 tok : Nat} (hr : HR x n0) {w : World} (hp : x.hp = w.heap)

theorem DenV.cells {hp : Array Obj} {ok : Nat → Prop} {t : Ty} {y : den t} {v : Value} (h : DenV hp ok t y v) (hv : v.oneCell' = true ∨ Go.Proofs.YtcdcijhfjiahkaaDoorR.K.isAgg t = true) :
    DeepC hp ok t y v.cells.toList ∧ v.cells.size = csz t := by
  unfold DenV at h
  split at h
  · obtain ⟨vs, rfl, h⟩ := h
    have := h.length
    exact ⟨by simpa [Value.cells] using h, by simpa [Value.cells] using this⟩
  · rename_i hag
    obtain ⟨_, h⟩ := h
    have hc : v.cells = #[v] := by
      rcases hv with hv | hv
      · cases v <;> simp [Value.oneCell'] at hv <;> rfl
      · rw [hag] at hv; cases hv
    have := h.length
    rw [hc]
    exact ⟨by simpa using h, by simpa using this⟩

theorem DeepC.one : ∀ (t : Ty) {hp : Array Obj} {ok : Nat → Prop} (y : den t) (vs : List Value), DeepC hp ok t y vs → ∀ v ∈ vs, v.oneCell' = true
  | .unit, _, _, _, _, h, v, hv => by cases h; cases hv
  | .bool, _, _, _, _, h, v, hv => by cases h; simp at hv; subst hv; rfl
  | .int _, _, _, _, _, h, v, hv => by cases h; simp at hv; subst hv; rfl
  | .str, _, _, _, _, h, v, hv => by cases h; simp at hv; subst hv; rfl
  | .sl _, _, _, _, _, h, v, hv => by obtain ⟨_, _, rfl, _⟩ := h; simp at hv; subst hv; rfl
  | .own _, _, _, _, _, h, v, hv => by obtain ⟨_, _, rfl, _⟩ := h; simp at hv; subst hv; rfl
  | .pair a b, _, _, y, _, h, v, hv => by
    obtain ⟨v1, v2, rfl, h1, h2⟩ := h
    rcases List.mem_append.1 hv with hv | hv
    · exact DeepC.one a _ _ h1 v hv
    · exact DeepC.one b _ _ h2 v hv
  | .one t, _, _, y, _, h, v, hv => DeepC.one t y _ h v hv
  | .fn _, _, _, _, _, h, v, hv => by cases h; simp at hv; subst hv; rfl

theorem DenV.isOne {hp : Array Obj} {ok : Nat → Prop} {t : Ty} {y : den t} {v : Value} (h : DenV hp ok t y v) : v.oneCell' = true ∨ Go.Proofs.YtcdcijhfjiahkaaDoorR.K.isAgg t = true := by
  unfold DenV at h
  split at h
  · rename_i hag; exact .inr hag
  · exact .inl (DeepC.one t _ _ h.2 v (by simp))

/-! ### a slice of given elements -/
/-- Cells of the rows behind one another. -/
def Rows (hp : Array Obj) (ok : Nat → Prop) (t : Ty) (l : List (den t)) (c : Array Value) (o : Nat) : Prop :=
  ∀ i (h : i < l.length), DeepC hp ok t l[i] (row c (o + i * csz t) (csz t))

theorem elemsOf_some {H : Heap} {t : Ty} {ps : List (Nat × AV)} : ∀ {n i : Nat} {l : List (den t)}, elemsOf H t ps i n = some l → l.length = n ∧ ∀ j (h : j < l.length),
    (match ps.find? (fun p => Nat.beq p.1 (i + j)) with
      | some p => toDen H t p.2 = some l[j]
      | none => l[j] = dfl t)
  | 0, i, l, h => by simp only [elemsOf, Option.some.injEq] at h; subst h; exact ⟨rfl, fun j hj => by simp at hj⟩
  | n + 1, i, l, h => by
    simp only [elemsOf] at h
    split at h
    · rename_i y ys h1 h2
      simp only [Option.some.injEq] at h; subst h
      obtain ⟨k1, k2⟩ := elemsOf_some h2
      refine ⟨by simp [k1], fun j hj => ?_⟩
      cases j with
      | zero =>
        simp only [Nat.add_zero, List.getElem_cons_zero]
        split at h1
        · rename_i p hp; rw [hp]; exact h1
        · rename_i hp; rw [hp]; simpa using h1.symm
      | succ j =>
        have := k2 j (by simpa using hj)
        rw [show i + 1 + j = i + (j + 1) by omega] at this
        simpa using this
    · simp at h

/-- The model's 'fill' of a slice's rows. -/
theorem fill_rows {s n : Nat} (hs : 0 < s) : ∀ (qs : List (Nat × Value)) (c : Array Value), c.size = n * s → (∀ q ∈ qs, q.2.cells.size = s ∧ q.1 < n) → nodupB (qs.map (·.1)) = true →
    ∃ c', Instr.fill (fun i => some (i * s, s)) c qs = some c' ∧ c'.size = n * s ∧ ∀ i, i < n →
      row c' (i * s) s = (match qs.find? (fun q => Nat.beq q.1 i) with
        | some q => q.2.cells.toList
        | none => row c (i * s) s)
  | [], c, hc, _, _ => ⟨c, rfl, hc, fun i _ => rfl⟩
  | (j, v) :: qs, c, hc, hq, hd => by
    obtain ⟨h1, h2⟩ := hq (j, v) (by simp)
    change v.cells.size = s at h1
    change j < n at h2
    have hjn : (j + 1) * s ≤ n * s := Nat.mul_le_mul_right _ h2
    rw [Nat.add_mul] at hjn
    obtain ⟨c1, e1, e2⟩ := fill_step (place := fun i => some (i * s, s)) (c := c) (i := j) (rest := qs) rfl h1 (by omega)
    have hc1 : c1.size = n * s := by
      have := congrArg List.length e2
      simp at this; omega
    simp only [List.map_cons, nodupB, Bool.and_eq_true, Bool.not_eq_true'] at hd
    obtain ⟨c', k1, k2, k3⟩ := fill_rows hs qs c1 hc1 (fun q hqm => hq q (by simp [hqm])) hd.2
    refine ⟨c', by rw [e1]; exact k1, k2, fun i hi => ?_⟩
    rw [k3 i hi]
    simp only [List.find?_cons]
    by_cases hji : j = i
    · subst hji
      have hnone : qs.find? (fun q => Nat.beq q.1 j) = none := by
        rw [List.find?_eq_none]
        intro q hqm hb
        have := Nat.eq_of_beq_eq_true hb
        have hmem : j ∈ qs.map (·.1) := List.mem_map.2 ⟨q, hqm, this⟩
        have := hd.1
        rw [List.elem_eq_mem] at this
        simp at this
        exact absurd hmem (by simpa using this)
      rw [hnone, beq_self]
      simp only
      rw [row_in (p := j * s) (off := 0) (n := s) (c := c) (vs := v.cells.toList) (by omega) (by simp; omega) (by simpa using e2)]
      have hrl : (row c (j * s) s).length = s := row_length (by omega)
      rw [List.drop_eq_nil_iff.2 (by rw [hrl]; simp; omega)]
      simp
    · rw [beq_ne hji]
      simp only
      cases hfd : qs.find? (fun q => Nat.beq q.1 i) with
      | some q => rfl
      | none =>
        simp only
        rw [row_out (c := c) (s := j * s) (vs := v.cells.toList) (by simp; omega) (by simpa using e2)]
        simp
        rcases Nat.lt_or_gt_of_ne hji with h | h
        · right
          have : (j + 1) * s ≤ i * s := Nat.mul_le_mul_right _ h
          rw [Nat.add_mul] at this; omega
        · left
          have : (i + 1) * s ≤ j * s := Nat.mul_le_mul_right _ h
          rw [Nat.add_mul] at this; omega

theorem find_pair {ps : List (Nat × AV)} {qs : List (Nat × Value)} (i : Nat) : ps.map (·.1) = qs.map (·.1) → RVL x (ps.map (·.2)) (qs.map (·.2)) →
    (ps.find? (fun p => Nat.beq p.1 i) = none ∧ qs.find? (fun q => Nat.beq q.1 i) = none) ∨ ∃ p q, ps.find? (fun p => Nat.beq p.1 i) = some p ∧ qs.find? (fun q => Nat.beq q.1 i) = some q ∧ RV x p.2 q.2 ∧ p ∈ ps := by
  induction ps generalizing qs with
  | nil =>
    intro h _
    cases qs with
    | nil => exact .inl ⟨rfl, rfl⟩
    | cons => simp at h
  | cons p ps ih =>
    intro h hv
    cases qs with
    | nil => simp at h
    | cons q qs =>
      simp only [List.map_cons, List.cons.injEq] at h
      simp only [List.map_cons] at hv
      cases hv with
      | cons _ _ _ _ h1 h2 =>
      simp only [List.find?_cons]
      rw [h.1]
      cases hb : Nat.beq q.1 i with
      | true => exact .inr ⟨p, q, rfl, rfl, h1, by simp⟩
      | false =>
        rcases ih h.2 h2 with h | ⟨p', q', k1, k2, k3, k4⟩
        · exact .inl h
        · exact .inr ⟨p', q', k1, k2, k3, by simp [k4]⟩

theorem toksL_mem {vs : List AV} {v : AV} (h : v ∈ vs) : ∀ T ∈ toks v, T ∈ toksL vs := by
  induction vs with
  | nil => cases h
  | cons u vs ih =>
    intro T hT
    simp only [toksL, List.mem_append]
    rcases List.mem_cons.1 h with rfl | h
    · exact .inl hT
    · exact .inr (ih h T hT)

theorem zero_cells_row {z : Array Value} {n s i : Nat} (hz : z.size = s) (hi : i < n) (hs : 0 < s) : row ((Array.range (n * s)).map (z[· % z.size]!)) (i * s) s = z.toList := made_row hz hi hs

include hT hr hp in
theorem buildSlice_sound (hn : n0 ≤ w.heap.size) (hf : ∀ T ∈ heapToks x.H, ¬ InB tok T) {st e : Nat} {ty : Ty} {te : TI} (he : elemTy C st = some (e, ty, te)) {env : Env} {a : Act}
    (henv : ∀ t, RV x (get env t) (a.tmps.getD t undef)) (ps : Array (Nat × Operand)) {n : Nat} {l : List (den ty)} (hl : elemsOf x.H ty (ps.toList.map fun p => (p.1, ev env p.2)) 0 n = some l)
    (hsz : n * te.size ≤ 16777216) (hnd : nodupB (ps.toList.map (·.1)) = true) (hlt : ∀ p ∈ ps.toList, p.1 < n) :
    OkV P x n0 tok w (Instr.buildSlice st n (ps.map fun (i, o) => (i, a.eval o))) (.v (.who tok true) (hput (freeze (toksL (ps.toList.map fun p => ev env p.2)) x.H) tok (.arr ty l))) := fun _ => by
  obtain ⟨hu, ok, hty, h1, h2⟩ := elemTy_ok hT he
  obtain ⟨i, z, hi, hs, hb, hz, hd⟩ := zero_deep hr ok hty
  obtain ⟨hcs, _, _⟩ := ok.pure hty
  have hzs : z.cells.size = csz ty := by have := hd.length; simpa using this
  obtain ⟨hll, hel⟩ := elemsOf_some hl
  obtain ⟨m1, m2⟩ := parts_ev henv ps.toList
  -- what is shown is not turned any more
  let ts := toksL (ps.toList.map fun p => ev env p.2)
  have N1 := frz_next hr hp (tok := tok) ts
  have hshow : ∀ p ∈ (ps.toList.map fun p => (p.1, ev env p.2)), Shows x (frzCx x ts).fz (toks p.2) := by
    intro p hp T hT
    obtain ⟨q, hq, rfl⟩ := List.mem_map.1 hp
    exact frz_shows hr ts T (toksL_mem (List.mem_map.2 ⟨q, hq, rfl⟩) T hT)
  have hpart : ∀ p q, p ∈ (ps.toList.map fun p => (p.1, ev env p.2)) → RV x p.2 q → ∀ y, toDen x.H ty p.2 = some y → DeepC x.hp (frzCx x ts).fz ty y q.cells.toList ∧ q.cells.size = csz ty := by
    intro p q hp hrv y hy
    have := toDen_deep hr (fz' := (frzCx x ts).fz) (fun b hb => .inl hb) hrv (hshow p hp) hy
    exact this.cells this.isOne
  -- all parts have the size of an element
  have hall : ∀ q ∈ (ps.toList.map fun p => (p.1, a.eval p.2)), q.2.cells.size = csz ty ∧ q.1 < n := by
    intro q hq
    obtain ⟨p0, hp0, rfl⟩ := List.mem_map.1 hq
    have hlt0 := hlt p0 hp0
    refine ⟨?_, hlt0⟩
    -- its place is the first one of this number
    rcases find_pair (x := x) p0.1 m1 m2 with ⟨hnone, _⟩ | ⟨p, q, k1, k2, k3, k4⟩
    · rw [List.find?_eq_none] at hnone
      exact absurd (beq_self p0.1) (hnone (p0.1, ev env p0.2) (List.mem_map.2 ⟨p0, hp0, rfl⟩))
    · have h3 := hel p0.1 (by omega)
      rw [Nat.zero_add, k1] at h3
      -- the found part is this one
      have huniq : p = (p0.1, ev env p0.2) := by
        have hfst : p.1 = p0.1 := Nat.eq_of_beq_eq_true (by have := List.find?_some k1; simpa using this)
        have hnd' : nodupB ((ps.toList.map fun p => (p.1, ev env p.2)).map (·.1)) = true := by
          rw [List.map_map]; exact hnd
        have key : ∀ (l : List (Nat × AV)), nodupB (l.map (·.1)) = true → ∀ a ∈ l, ∀ b ∈ l, a.1 = b.1 → a = b := by
          intro l
          induction l with
          | nil => intro _ a ha; cases ha
          | cons c l ih =>
            intro hnd a ha b hb hab
            simp only [List.map_cons, nodupB, Bool.and_eq_true, Bool.not_eq_true', List.elem_eq_mem, decide_eq_false_iff_not] at hnd
            rcases List.mem_cons.1 ha with ha' | ha' <;> rcases List.mem_cons.1 hb with hb' | hb'
            · rw [ha', hb']
            · exact absurd (List.mem_map.2 ⟨b, hb', by rw [← hab, ha']⟩) hnd.1
            · exact absurd (List.mem_map.2 ⟨a, ha', by rw [hab, hb']⟩) hnd.1
            · exact ih hnd.2 a ha' b hb' hab
        exact key _ hnd' p k4 _ (List.mem_map.2 ⟨p0, hp0, rfl⟩) hfst
      subst huniq
      exact (hpart _ _ k4 (ev_RV henv p0.2) _ h3).2
  have hnd' : nodupB ((ps.toList.map fun p => (p.1, a.eval p.2)).map (·.1)) = true := by rw [List.map_map]; exact hnd
  obtain ⟨c', k1, k2, k3⟩ := fill_rows (s := csz ty) (n := n) (by omega) (ps.toList.map fun p => (p.1, a.eval p.2)) ((Array.range (n * csz ty)).map (z.cells[· % z.cells.size]!)) (by simp) hall hnd'
  have hrows : Rows x.hp (frzCx x ts).fz ty l c' 0 := by
    intro j hj
    rw [Nat.zero_add, k3 j (by omega)]
    have h3 := hel j hj
    rw [Nat.zero_add] at h3
    rcases find_pair (x := x) j m1 m2 with ⟨e1, e2⟩ | ⟨p, q, e1, e2, e3, e4⟩
    · rw [e1] at h3
      rw [e2]
      simp only at h3 ⊢
      rw [zero_cells_row hzs (by omega) (by omega), h3]
      exact DeepC.mono (fun b hb => ⟨.inl hb, rfl⟩) _ _ _ hd
    · rw [e1] at h3
      rw [e2]
      exact (hpart p q.2 e4 e3 _ h3).1
  have hrun : (Instr.buildSlice st n (ps.map fun (i, o) => (i, a.eval o))).run P w = .ok (.slice (some ⟨w.heap.size, 0, none⟩) n n) (w.alloc (Obj.cells c' e)) := by
    have e1 : (ps.map fun (i, o) => (i, a.eval o)).toList = ps.toList.map fun p => (p.1, a.eval p.2) := by simp
    have hsz' : ¬ (16777216 < n * csz ty) := by rw [hcs]; omega
    by_cases hn0 : n = 0
    · subst hn0
      have hps : ps.toList = [] := by
        cases hpl : ps.toList with
        | nil => rfl
        | cons p l => have := hlt p (by rw [hpl]; simp); omega
      have hc' : c' = #[] := by
        have : c'.size = 0 := by omega
        exact Array.eq_empty_of_size_eq_zero this
      have hps' : ps = #[] := by
        apply Array.ext'; simpa using hps
      subst hps'
      simp [Instr.buildSlice, run_underlying hu, ok.sizeOf, Instr.fill, newRow, hc', Array.range_zero']
    · have hne : ¬ (n * csz ty = 0) := by
        intro h
        rcases Nat.mul_eq_zero.1 h with h | h <;> omega
      have hs2 : te.size = csz ty := hcs.symm
      have k1' := k1
      simp [Instr.buildSlice, run_underlying hu, ok.sizeOf, hs2, hsz', hne, zeroValue, typeInfo, hi, hz, newRow, k1']
  have hg := alloc_grew w (Obj.cells c' e)
  have hnew := alloc_new w (Obj.cells c' e)
  have hg1 : Grew (frzCx x ts).hp (w.alloc (Obj.cells c' e)).heap := by show Grew x.hp _; rw [hp]; exact hg
  refine ⟨_, _, _, hrun, ?_, N1.trans (new_next (x := frzCx x ts) (loc := some (w.heap.size, 0)) (b := .arr ty l) N1.hr hp (by simp only [frzCx]; rw [heapToks_freeze]; exact hf) hg
    (below_push hn rfl rfl rfl hg) (fun B o h => by simp at h; omega) (fun B hB => Nat.lt_of_lt_of_le (N1.hr.size B hB) hg1.1) ?_), ?_⟩
  · rfl
  · refine .inr ⟨w.heap.size, 0, c', e, (0, 0), by simp [newCx], hnew, hn, ?_, unfrozen_zero _, by rw [k2, hll]; simp, ?_⟩
    · intro hfz
      have := N1.hr.size _ hfz
      have e : (frzCx x ts).hp.size = w.heap.size := by show x.hp.size = _; rw [hp]
      omega
    · intro j hj
      exact DeepC.mono (fun b hb => ⟨hb, hg1.2 b (N1.hr.size b hb)⟩) _ _ _ (hrows j hj)
  · refine .who _ _ _ _ _ fun t' l' ha => ?_
    have : t' = ty ∧ HEq l' l := by
      rcases ha with ha | ha
      · simp only [newCx, hget_hput, if_true, Option.some.injEq, Blk.arr.injEq] at ha
        obtain ⟨rfl, h⟩ := ha; exact ⟨rfl, h.symm⟩
      · simp only [newCx, hget_hput, if_true, Option.some.injEq] at ha; cases ha
    obtain ⟨rfl, hl'⟩ := this
    cases hl'
    refine ⟨hll.symm, Nat.le_refl _, fun _ => rfl, .inr ⟨w.heap.size, 0, c', e, (0, 0), by simp [newCx], by simp, hnew, ?_⟩⟩
    rw [k2]; simp

end
end Go.Proofs.YtcdcijhfjiahkaaDoorR.K
