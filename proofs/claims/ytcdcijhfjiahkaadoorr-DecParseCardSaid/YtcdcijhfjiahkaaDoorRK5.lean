/- The abstract machine: new rows, stores and appends, shown against the model's. -/
import Derived.Test.YtcdcijhfjiahkaaDoorRK4
set_option linter.unusedVariables false
set_option linter.unusedSimpArgs false
namespace Go.Proofs.YtcdcijhfjiahkaaDoorR.K
open Go
open Go.RowKit (Below)

section
variable {P : Program} {C : Ctx} (hT : CtxTI P C) {x : Cx} {n0 tok : Nat} (hr : HR x n0) {w : World} (hp : x.hp = w.heap)

theorem elemTy_ok (hT : CtxTI P C) {st e : Nat} {t : Ty} {te : TI} (h : elemTy C st = some (e, t, te)) :
    P.underlying st = some (.slice e) ∧ TIok P e te ∧ te.ty = some t ∧ 1 ≤ te.size ∧ 1 ≤ te.bytes := by
  unfold elemTy at h
  split at h
  · rename_i ti hti
    split at h
    · rename_i e' hs
      split at h
      · rename_i te' hte
        split at h
        · rename_i t' ht hsz
          simp only [Option.some.injEq, Prod.mk.injEq] at h
          obtain ⟨rfl, rfl, rfl⟩ := h
          simp only [Bool.and_eq_true] at hsz
          exact ⟨(hT _ _ hti).slice hs, hT _ _ hte, ht, Nat.le_of_ble_eq_true hsz.1, Nat.le_of_ble_eq_true hsz.2⟩
        · simp at h
      · simp at h
    · simp at h
  · simp at h

/-- A type's pure values: how many cells; its zero. -/
theorem TIok.pure {t : Nat} {ti : TI} (ok : TIok P t ti) {ty : Ty} (h : ti.ty = some ty) : csz ty = ti.size ∧ Go.Proofs.YtcdcijhfjiahkaaDoorR.K.isAgg ty = ti.agg ∧ ofCells ty ti.zero = some (dfl ty, []) := by
  have := ok.ty
  unfold tyFits at this
  rw [h] at this
  exact this

theorem avs_RVL (x : Cx) : ∀ l : List Value, RVL x (l.map avOf) l
  | [] => .nil
  | v :: l => .cons _ _ _ _ (avOf_RV x v) (avs_RVL x l)

theorem avs_deep (H : Heap) (l : List Value) : (l.map avOf).map (deep H) = l.map avOf := by
  have h0 : ∀ v, deep H (avOf v) = avOf v := by
    intro v; unfold avOf; split <;> rfl
  simp [h0]

theorem avs_toks (l : List Value) : toksL (l.map avOf) = [] := by
  have h0 : ∀ v, toks (avOf v) = [] := by
    intro v; unfold avOf; split <;> rfl
  induction l with
  | nil => rfl
  | cons v l ih => simp [toksL, h0, ih]

include hr in
theorem zero_deep {t : Nat} {ti : TI} (ok : TIok P t ti) {ty : Ty} (h : ti.ty = some ty) : ∃ i z, P.info? t = some i ∧ i.size = ti.size ∧ i.bytes = ti.bytes ∧ i.zero = some z ∧
    DeepC x.hp x.fz ty (dfl ty) z.cells.toList := by
  obtain ⟨i, z, hi, hs, hb, hz, hzc⟩ := ok.infos
  obtain ⟨_, _, h3⟩ := ok.pure h
  refine ⟨i, z, hi, hs, hb, hz, ?_⟩
  rw [← hzc, ← avs_deep x.H] at h3
  obtain ⟨v1, v2, c2, h4, h5, h6, h7, _⟩ := ofCells_deep hr (fun b hb => hb) ty (avs_RVL x z.cells.toList) (by rw [avs_toks]; intro T hT; cases hT) h3
  cases c2 with
  | cons _ _ => simp at h6
  | nil => cases h7; rw [h4]; simpa using h5

theorem alloc_size (w : World) (o : Obj) : (w.alloc o).heap.size = w.heap.size + 1 := by
  show (w.heap.push o).size = _
  simp
theorem alloc_new (w : World) (o : Obj) : (w.alloc o).heap[w.heap.size]? = some o := heap_alloc_new w o
theorem alloc_grew (w : World) (o : Obj) : Grew w.heap (w.alloc o).heap := ⟨by rw [alloc_size]; omega, fun b h => heap_alloc_old w o b h⟩

theorem made_row {z : Array Value} {n s i : Nat} (hz : z.size = s) (hi : i < n) (hs : 0 < s) : row (madeCells z (n * s)) (i * s) s = z.toList := by
  unfold row madeCells
  apply List.ext_getElem?
  intro j
  rw [List.getElem?_take]
  by_cases hj : j < s
  · have hlt : i * s + j < n * s := by
      have : (i + 1) * s ≤ n * s := Nat.mul_le_mul_right _ hi
      rw [Nat.add_mul] at this; omega
    have hmod : (i * s + j) % s = j := by rw [Nat.mul_comm, Nat.mul_add_mod, Nat.mod_eq_of_lt hj]
    simp [hj, List.getElem?_drop, hlt, hz, hmod]
  · have : z.toList.length ≤ j := by simp; omega
    simp [hj, List.getElem?_eq_none this]

include hT hr hp in
theorem makeSlice_sound (hn : n0 ≤ w.heap.size) (hf : ∀ T ∈ heapToks x.H, ¬ InB tok T) {st e : Nat} {ty : Ty} {te : TI} (he : elemTy C st = some (e, ty, te)) {k k' : IntKind} {n c : Int} :
    OkV P x n0 tok w (Instr.makeSlice st (.int k n) (.int k' c)) (.cv (decide (0 ≤ n) && (decide (n ≤ c) && decide ((te.bytes : Int) * c ≤ 281474976710656))) (.who tok false)
      (hput x.H tok (.arr ty (List.replicate n.toNat (dfl ty))))) := fun hc => by
  simp only [Bool.and_eq_true, decide_eq_true_eq] at hc
  obtain ⟨h0, hnc, hby⟩ := hc
  obtain ⟨hu, ok, hty, h1, h2⟩ := elemTy_ok hT he
  obtain ⟨i, z, hi, hs, hb, hz, hd⟩ := zero_deep hr ok hty
  obtain ⟨hcs, _, _⟩ := ok.pure hty
  have hc0 : 0 ≤ c := by omega
  have hc63 : c ≤ 9223372036854775807 := by
    have : c ≤ (te.bytes : Int) * c := by
      have := Int.mul_le_mul_of_nonneg_right (show (1 : Int) ≤ te.bytes by omega) hc0
      omega
    omega
  have hrun := run_make (P := P) w st e i z hu hi hz k k' n c h0 hnc (by rw [hb]; exact hby) hc63
  have hzs : z.cells.size = csz ty := by have := hd.length; simpa using this
  have hg := alloc_grew w (Obj.cells (madeCells z.cells (c.toNat * i.size)) e)
  have hnew := alloc_new w (Obj.cells (madeCells z.cells (c.toNat * i.size)) e)
  have hg' : Grew x.hp (w.alloc (Obj.cells (madeCells z.cells (c.toNat * i.size)) e)).heap := by rw [hp]; exact hg
  have hbig : n.toNat * csz ty ≤ c.toNat * csz ty := Nat.mul_le_mul_right _ (by omega)
  have hsz : (madeCells z.cells (c.toNat * i.size)).size = c.toNat * csz ty := by rw [size_madeCells, hs, ← hcs]
  refine ⟨_, _, _, hrun, rfl, new_next (loc := some (w.heap.size, 0)) hr hp hf hg
    (below_push hn rfl rfl rfl hg) (fun B o h => by simp at h; omega)
    (fun B hB => Nat.lt_of_lt_of_le (hr.size B hB) hg'.1) ?_, ?_⟩
  · refine .inr ⟨w.heap.size, 0, madeCells z.cells (c.toNat * i.size), e, (0, 0), by simp [newCx], hnew, hn, ?_, unfrozen_zero _, ?_, ?_⟩
    · intro hfz
      have := hr.size _ hfz
      rw [hp] at this; omega
    · rw [hsz]; simpa using hbig
    · intro j hj
      simp only [List.length_replicate] at hj
      have hrow : row (madeCells z.cells (c.toNat * i.size)) (j * csz ty) (csz ty) = z.cells.toList := by
        have e1 : c.toNat * i.size = c.toNat * csz ty := by rw [hs, ← hcs]
        rw [e1]; exact made_row hzs (by omega) (by omega)
      simp only [List.getElem_replicate, Nat.zero_add]
      rw [hrow]
      exact DeepC.mono (fun b hb => ⟨hb, hg'.2 b (hr.size b hb)⟩) _ _ _ hd
  · refine .who _ _ _ _ _ fun t' l ha => ?_
    have : t' = ty ∧ HEq l (List.replicate n.toNat (dfl ty)) := by
      rcases ha with ha | ha
      · simp only [newCx, hget_hput, if_true, Option.some.injEq, Blk.arr.injEq] at ha
        obtain ⟨rfl, h⟩ := ha; exact ⟨rfl, h.symm⟩
      · simp only [newCx, hget_hput, if_true, Option.some.injEq] at ha; cases ha
    obtain ⟨rfl, hl⟩ := this
    cases hl
    refine ⟨by simp, by omega, by simp, .inr ⟨w.heap.size, 0, madeCells z.cells (c.toNat * i.size), e, (0, 0), by simp [newCx], by simp, hnew, ?_⟩⟩
    rw [hsz]; simp

include hr hp in
theorem bytes_sound (hn : n0 ≤ w.heap.size) (hf : ∀ T ∈ heapToks x.H, ¬ InB tok T) {src dst e : Nat} (s : List UInt8) (hd : P.underlying dst = some (.slice e)) (he : P.underlying e = some (.int .u8))
    (hs : (P.underlying src).isSome = true) :
    OkV P x n0 tok w (Go.convert src dst (.string ⟨s.toArray⟩)) (.v (.who tok false) (hput x.H tok (.arr (.int .u8) (s.map fun b => (b.toNat : Int))))) := fun _ => by
  obtain ⟨u, hu⟩ := Option.isSome_iff_exists.1 hs
  have hrun := Lib.run_convert_string_bytes (P := P) w src dst e ⟨s.toArray⟩ hu hd he
  have hsz : (ByteArray.mk s.toArray).size = s.length := by simp [ByteArray.size]
  have hcs := Lib.bytesWorld_size w e ⟨s.toArray⟩
  have hg : Grew w.heap (Lib.bytesWorld w e ⟨s.toArray⟩).heap := ⟨by omega, fun b hb => Lib.bytesWorld_at_old w e _ b hb⟩
  have hg' : Grew x.hp (Lib.bytesWorld w e ⟨s.toArray⟩).heap := by rw [hp]; exact hg
  have hnew := Lib.bytesWorld_at_new w e ⟨s.toArray⟩
  have hcap : s.length ≤ grownCap w s.length 0 e := grownCap_ge w s.length 0 e
  have hlen : (Lib.bytesCells w e ⟨s.toArray⟩).size = grownCap w s.length 0 e := by
    simp [Lib.bytesCells, hsz]; omega
  refine ⟨_, _, _, hrun, rfl, new_next (loc := some (w.heap.size, 0)) hr hp hf hg
    (below_push hn rfl rfl rfl hg) (fun B o h => by simp at h; omega)
    (fun B hB => Nat.lt_of_lt_of_le (hr.size B hB) (by rw [hp]; omega)) ?_, ?_⟩
  · refine .inr ⟨w.heap.size, 0, _, e, _, by simp [newCx], hnew, hn, ?_, ?_, ?_, ?_⟩
    · intro hfz
      have := hr.size _ hfz
      rw [hp] at this; omega
    · intro o ho hh; omega
    · simp [csz]; omega
    · intro j hj
      simp only [List.length_map] at hj
      simp only [DeepC, csz, Nat.zero_add, Nat.mul_one, List.getElem_map]
      unfold row
      have hlt : j < (Lib.bytesCells w e ⟨s.toArray⟩).toList.length := by simp [hlen]; omega
      rw [List.drop_eq_getElem_cons hlt]
      simp only [List.take_succ_cons, List.take_zero, List.cons.injEq, and_true]
      simp [Lib.bytesCells, Array.getElem_append, hj]
  · rw [hsz]
    refine .who _ _ _ _ _ fun t' l ha => ?_
    have : t' = .int .u8 ∧ HEq l (s.map fun b => (b.toNat : Int)) := by
      rcases ha with ha | ha
      · simp only [newCx, hget_hput, if_true, Option.some.injEq, Blk.arr.injEq] at ha
        obtain ⟨rfl, h⟩ := ha; exact ⟨rfl, h.symm⟩
      · simp only [newCx, hget_hput, if_true, Option.some.injEq] at ha; cases ha
    obtain ⟨rfl, hl⟩ := this
    cases hl
    refine ⟨by simp, hcap, by simp, .inr ⟨w.heap.size, 0, _, e, _, by simp [newCx], by simp, hnew, ?_⟩⟩
    simp [csz]; omega

end
end Go.Proofs.YtcdcijhfjiahkaaDoorR.K
