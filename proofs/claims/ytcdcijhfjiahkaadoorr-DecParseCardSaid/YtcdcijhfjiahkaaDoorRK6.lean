/- The abstract machine: stores, shown against the model's. -/
import Derived.Test.YtcdcijhfjiahkaaDoorRK5
set_option linter.unusedVariables false
set_option linter.unusedSimpArgs false
namespace Go.Proofs.YtcdcijhfjiahkaaDoorR.K
open Go
open Go.RowKit (Below)

section
variable {P : Program} {C : Ctx} (hT : CtxTI P C) {x : Cx} {n0 tok : Nat} (hr : HR x n0) {w : World} (hp : x.hp = w.heap)

theorem get_overlay {α : Type} {c vs : List α} {s : Nat} (h : s + vs.length ≤ c.length) (k : Nat) :
    (c.take s ++ vs ++ c.drop (s + vs.length))[k]? = if k < s then c[k]? else if k < s + vs.length then vs[k - s]? else c[k]? := by
  have hs : (c.take s).length = s := by simp; omega
  by_cases h1 : k < s
  · rw [if_pos h1, List.append_assoc, List.getElem?_append_left (by omega), List.getElem?_take, if_pos h1]
  · rw [if_neg h1, List.append_assoc, List.getElem?_append_right (by omega), hs]
    by_cases h2 : k < s + vs.length
    · rw [if_pos h2, List.getElem?_append_left (by omega)]
    · rw [if_neg h2, List.getElem?_append_right (by omega), List.getElem?_drop]
      congr 1
      omega

theorem row_get (c : Array Value) (o n k : Nat) : (row c o n)[k]? = if k < n then c.toList[o + k]? else none := by
  unfold row
  rw [List.getElem?_take]
  split <;> simp [List.getElem?_drop]

theorem row_out {c c' : Array Value} {s q m : Nat} {vs : List Value} (h : s + vs.length ≤ c.size) (hc : c'.toList = c.toList.take s ++ vs ++ c.toList.drop (s + vs.length))
    (hd : q + m ≤ s ∨ s + vs.length ≤ q) : row c' q m = row c q m := by
  apply List.ext_getElem?
  intro k
  rw [row_get, row_get, hc, get_overlay (by simpa using h)]
  by_cases hk : k < m
  · rw [if_pos hk, if_pos hk]
    by_cases h1 : q + k < s
    · rw [if_pos h1]
    · rw [if_neg h1, if_neg (by omega)]
  · rw [if_neg hk, if_neg hk]

theorem row_in {c c' : Array Value} {p off n : Nat} {vs : List Value} (h : p + n ≤ c.size) (ho : off + vs.length ≤ n)
    (hc : c'.toList = c.toList.take (p + off) ++ vs ++ c.toList.drop (p + off + vs.length)) :
    row c' p n = (row c p n).take off ++ vs ++ (row c p n).drop (off + vs.length) := by
  have hl : (row c p n).length = n := row_length h
  apply List.ext_getElem?
  intro k
  rw [row_get, hc, get_overlay (by simp; omega), get_overlay (by omega), row_get]
  by_cases hk : k < n
  · rw [if_pos hk, if_pos hk]
    by_cases h1 : k < off
    · rw [if_pos h1, if_pos (by omega)]
    · rw [if_neg h1, if_neg (by omega)]
      by_cases h2 : k < off + vs.length
      · rw [if_pos h2, if_pos (by omega)]; congr 1; omega
      · rw [if_neg h2, if_neg (by omega)]
  · rw [if_neg hk, if_neg hk, if_neg (by omega), if_neg (by omega)]

theorem setCells_heap (b : Nat) : ∀ (vs : List Value) (o : Nat) (w : World) (c : Array Value) (e : TypeId) (fr : Nat × Nat), w.heap[b]? = some (Obj.cells c e fr) → o + vs.length ≤ c.size →
    ∃ c', (w.setCells b o vs).heap[b]? = some (Obj.cells c' e fr) ∧ c'.toList = c.toList.take o ++ vs ++ c.toList.drop (o + vs.length) ∧ (∀ k, k ≠ b → (w.setCells b o vs).heap[k]? = w.heap[k]?) ∧
      (w.setCells b o vs).heap.size = w.heap.size ∧ (w.setCells b o vs).os = w.os ∧ (w.setCells b o vs).tape = w.tape ∧ (w.setCells b o vs).output = w.output
  | [], o, w, c, e, fr, hb, h => ⟨c, hb, by simp, fun _ _ => rfl, rfl, rfl, rfl, rfl⟩
  | v :: vs, o, w, c, e, fr, hb, h => by
    simp only [List.length_cons] at h
    have h1 : (w.setCell ⟨b, o, none⟩ v).heap[b]? = some (Obj.cells (c.setIfInBounds o v) e fr) := by
      simp [World.setCell, Array.getElem?_modify, hb]
    obtain ⟨c', k1, k2, k3, k4, k5, k6, k7⟩ := setCells_heap b vs (o + 1) (w.setCell ⟨b, o, none⟩ v) _ e fr h1 (by simp; omega)
    refine ⟨c', k1, ?_, fun k hk => ?_, ?_, k5, k6, k7⟩
    · rw [k2]
      have hlt : o < c.toList.length := by simp; omega
      simp only [Array.toList_setIfInBounds, List.length_cons]
      rw [List.drop_set_of_lt (by omega), List.take_add_one, List.take_set_of_le (Nat.le_refl _)]
      simp at hlt
      simp [List.getElem?_set, hlt]
      congr 1
      omega
    · rw [World.setCells, k3 k hk]
      simp [World.setCell, Array.getElem?_modify, Ne.symm hk]
    · rw [World.setCells, k4]
      simp [World.setCell]

theorem below_set {b : Nat} (hn : n0 ≤ b) {w w' : World} (h1 : w'.os = w.os) (h2 : w'.tape = w.tape) (h3 : w'.output = w.output) (hs : w'.heap.size = w.heap.size) (ho : ∀ k, k ≠ b → w'.heap[k]? = w.heap[k]?) : Below n0 w w' :=
  ⟨h1, h2, h3, by omega, fun k hk => ho k (by omega)⟩

theorem storeVar_run {t : Nat} {ti : TI} (ok : TIok P t ti) {w : World} {b o : Nat} {c : Array Value} {e : TypeId} {fr : Nat × Nat} (hb : w.heap[b]? = some (Obj.cells c e fr)) (hf : Unfrozen c fr)
    {v : Value} (hv : v.cells.size = ti.size) (h1 : ∀ u ∈ v.cells.toList, u.oneCell' = true) (hle : o + ti.size ≤ c.size) :
    (storeVar t ⟨b, o, none⟩ v).run P w = .ok () (w.setCells b o v.cells.toList) := by
  have hcell : ∀ j, j < v.cells.toList.length → (w.cell? ⟨b, o + 0 + j, none⟩).isSome = true := by
    intro j hj
    simp at hj
    have : o + j < c.size := by omega
    simp [World.cell?, hb, this]
  have hfr : ∀ j, j < v.cells.toList.length → w.frozen? ⟨b, o + 0 + j, none⟩ = false := by
    intro j hj
    simp at hj
    obtain ⟨lo, hi⟩ := fr
    have := hf (o + j) (by omega)
    simp only [World.frozen?, hb, Nat.add_zero]
    simp only at this
    simp; omega
  have hst := run_storeCells_cells (P := P) b o v.cells.toList 0 w hcell hfr h1
  simp only [Nat.add_zero] at hst
  simp [storeVar, ok.sizeOf w, hv, hst]

def stCx (x : Cx) (hp' : Array Obj) (T : Nat) (b : Blk) : Cx := { x with hp := hp', H := hput x.H T b }

theorem store_next {T b : Nat} (hr : HR x n0) (hp : x.hp = w.heap) (hown : Owns x T b) (hnf : ¬ x.fz b) {w' : World} {c c' : Array Value} {e : TypeId} {fr : Nat × Nat} (hb : w.heap[b]? = some (Obj.cells c e fr))
    (hb' : w'.heap[b]? = some (Obj.cells c' e fr)) (hsz : c'.size = c.size) (hoth : ∀ k, k ≠ b → w'.heap[k]? = w.heap[k]?) (hs : w'.heap.size = w.heap.size) (hbel : Below n0 w w') {blk : Blk}
    (hk : (∃ t l l', hget x.H T = some (.arr t l) ∧ blk = .arr t l' ∧ l'.length = l.length) ∨ (∃ cs cs', hget x.H T = some (.box cs) ∧ blk = .box cs'))
    (hblk : BlkR (stCx x w'.heap T blk) n0 T blk) : Nx x (stCx x w'.heap T blk) n0 tok w w' := by
  have E : ∀ S, Ext x (stCx x w'.heap T blk) S := by
    intro S
    refine ⟨fun k hk => ⟨hk, ?_⟩, fun k c0 e0 fr0 h0 => ?_, fun T' _ t l' ha => ?_, fun T' _ cs' ha => ?_⟩
    · have : k ≠ b := fun h => hnf (h ▸ hk)
      rw [hp]; exact hoth k this
    · rw [hp] at h0
      by_cases hkb : k = b
      · subst hkb
        rw [hb] at h0; simp only [Option.some.injEq, Obj.cells.injEq] at h0
        exact ⟨c', e, fr, hb', by rw [hsz, h0.1]⟩
      · exact ⟨c0, e0, fr0, by rw [show (stCx x w'.heap T blk).hp[k]? = w.heap[k]? from hoth k hkb]; exact h0, rfl⟩
    · simp only [stCx, AF, hget_hput] at ha
      split at ha
      · rename_i hT
        subst hT
        rcases hk with ⟨t0, l0, l0', h1, rfl, h3⟩ | ⟨cs, cs', h1, rfl⟩
        · simp only [Option.some.injEq] at ha
          rcases ha with ha | ha
          · cases ha; exact ⟨l0, .inl h1, h3.symm, rfl⟩
          · cases ha
        · simp at ha
      · exact ⟨l', ha, rfl, rfl⟩
    · simp only [stCx, hget_hput] at ha
      split at ha
      · rename_i hT
        subst hT
        rcases hk with ⟨t0, l0, l0', h1, rfl, h3⟩ | ⟨cs, cs'', h1, rfl⟩
        · simp at ha
        · exact ⟨cs, h1, rfl⟩
      · exact ⟨cs', ha, rfl⟩
  have back : ∀ T' B, Owns (stCx x w'.heap T blk) T' B → Owns x T' B := by
    rintro T' B ⟨ho, h⟩
    refine ⟨ho, ?_⟩
    by_cases hT : T' = T
    · subst hT; exact hown.2
    · simpa only [stCx, hget_hput, if_neg hT] using h
  have hdeep : ∀ (t : Ty) (y : den t) vs, DeepC x.hp x.fz t y vs → DeepC w'.heap x.fz t y vs :=
    fun t y vs h => DeepC.mono (fun k hk => ⟨hk, by rw [hp]; exact hoth k fun h => hnf (h ▸ hk)⟩) t y vs h
  refine ⟨E _, ⟨fun T' b' hb0 => ?_, fun t1 t2 B h1 h2 => hr.inj t1 t2 B (back _ _ h1) (back _ _ h2), fun B hB => ?_⟩, fun B h => .inl h, hbel, rfl⟩
  · simp only [stCx, hget_hput] at hb0
    split at hb0
    · rename_i hT
      subst hT
      simp only [Option.some.injEq] at hb0; subst hb0
      exact hblk
    · rename_i hT
      have h0 := hr.blk T' b' hb0
      have hne : ∀ B, Owns x T' B → B ≠ b := fun B h e => hT (hr.inj T' T b (e ▸ h) hown)
      have hat : ∀ (B : Nat) o, B ≠ b → x.hp[B]? = o → w'.heap[B]? = o := fun B o h k => by rw [hoth B h, ← hp]; exact k
      cases b' with
      | arr t l =>
        rcases h0 with h | ⟨B, o, c1, e1, fr1, h1, h2, h3, h4, h5, h6, h7⟩
        · exact .inl h
        · exact .inr ⟨B, o, c1, e1, fr1, h1, hat B _ (hne B ⟨⟨o, h1⟩, .inl ⟨t, l, hb0⟩⟩) h2, h3, h4, h5, h6, fun i hi => hdeep _ _ _ (h7 i hi)⟩
      | fro t l =>
        rcases h0 with h | ⟨B, o, c1, e1, fr1, h1, h2, h3, h4, h5⟩
        · exact .inl h
        · exact .inr ⟨B, o, c1, e1, fr1, h1, hat B _ (fun e => hnf (e ▸ h3)) h2, h3, h4, fun i hi => hdeep _ _ _ (h5 i hi)⟩
      | box cs =>
        obtain ⟨B, c1, e1, fr1, h1, h2, h3, h4, h5, h6, h7⟩ := h0
        exact ⟨B, c1, e1, fr1, h1, hat B _ (hne B ⟨⟨0, h1⟩, .inr ⟨cs, hb0⟩⟩) h2, h3, h4, h5, h6, RVL.mono (E fun _ => True) h7 fun _ _ => trivial⟩
  · have := hr.size B hB
    rw [hp] at this
    show B < w'.heap.size
    omega

theorem deep_cellsOf (H : Heap) : ∀ (t : Ty) (y : den t), (cellsOf t y).map (deep H) = cellsOf t y
  | .unit, _ => rfl
  | .bool, _ => rfl
  | .int _, _ => rfl
  | .str, _ => rfl
  | .sl _, _ => rfl
  | .own _, _ => rfl
  | .pair a b, y => by simp [cellsOf, deep_cellsOf H a, deep_cellsOf H b]
  | .one t, y => deep_cellsOf H t y
  | .fn _, _ => rfl

theorem toks_cellsOf : ∀ (t : Ty) (y : den t), toksL (cellsOf t y) = []
  | .unit, _ => rfl
  | .bool, _ => rfl
  | .int _, _ => rfl
  | .str, _ => rfl
  | .sl _, _ => rfl
  | .own _, _ => rfl
  | .pair a b, y => by
    have app : ∀ a b : List AV, toksL (a ++ b) = toksL a ++ toksL b := by
      intro a b; induction a with
      | nil => rfl
      | cons v a ih => simp [toksL, ih]
    simp [cellsOf, app, toks_cellsOf a, toks_cellsOf b]
  | .one t, y => toks_cellsOf t y
  | .fn _, _ => rfl

theorem toksL_append (a b : List AV) : toksL (a ++ b) = toksL a ++ toksL b := by
  induction a with
  | nil => rfl
  | cons v a ih => simp [toksL, ih]

theorem toksL_take {a : List AV} {n T : Nat} (h : T ∈ toksL (a.take n)) : T ∈ toksL a := by
  have := toksL_append (a.take n) (a.drop n)
  rw [List.take_append_drop] at this
  rw [this]; exact List.mem_append_left _ h
theorem toksL_drop {a : List AV} {n T : Nat} (h : T ∈ toksL (a.drop n)) : T ∈ toksL a := by
  have := toksL_append (a.take n) (a.drop n)
  rw [List.take_append_drop] at this
  rw [this]; exact List.mem_append_right _ h

/-- What a store does. -/
def OkS (P : Program) (x : Cx) (n0 tok : Nat) (w : World) (s : Sem Unit) (h : Heap) : Prop :=
  ∃ w' x', s.run P w = .ok () w' ∧ x'.H = h ∧ Nx x x' n0 tok w w'

include hT hr hp in
theorem storeOp_sound {t : Nat} {ti : TI} (hti : C.ti t = some ti) {ap av : AV} {vp v : Value} (h1 : RV x ap vp) (h2 : RV x av v) {h' : Heap} (hs : storeOp ti ap av x.H = some h') :
    OkS P x n0 tok w (Instr.storeAt t vp v) h' := by
  have ok := hT _ _ hti
  unfold storeOp at hs
  split at hs
  · simp at hs
  · rename_i hfit
    obtain ⟨g1, g2, g3, g4⟩ := cells_RV h2 hfit
    have hone := all_one g1 g3
    split at hs
    · rename_i tk off
      cases h1 with
      | ptr _ _ ad h1 =>
      split at hs
      · rename_i cs hg
        split at hs
        · rename_i hle
          have hle := Nat.le_of_ble_eq_true hle
          simp only [Option.some.injEq] at hs; subst hs
          obtain ⟨b, hm, rfl⟩ := h1 cs hg
          obtain ⟨b', c, e, fr, hm', hb, hn, hnf, hfr, hsol, hrv⟩ := hr.blk _ _ hg
          rw [hm] at hm'; cases hm'
          rw [hp] at hb
          have hlen := hrv.length
          simp at hlen
          have hvl : v.cells.toList.length = ti.size := by simpa using g2
          have hrun := storeVar_run ok (o := off) hb hfr g2 hone (by omega)
          obtain ⟨c', k1, k2, k3, k4, k5, k6, k7⟩ := setCells_heap b v.cells.toList off w c e fr hb (by omega)
          have hsz : c'.size = c.size := by
            have := congrArg List.length k2
            simp at this; omega
          refine ⟨_, _, by simp [Instr.storeAt, Instr.sureAddr, hrun], rfl, store_next (c' := c') hr hp ⟨⟨0, hm⟩, .inr ⟨cs, hg⟩⟩ hnf hb k1 hsz k3 k4 (below_set hn k5 k6 k7 k4 k3)
            (.inr ⟨cs, _, hg, rfl⟩) ?_⟩
          refine ⟨b, c', e, fr, hm, k1, hn, hnf, ?_, trivial, ?_⟩
          · intro o ho; exact hfr o (by omega)
          · rw [k2]
            have := setCells_RVL hrv g1 off
            refine RVL.mono (S := fun _ => True) ?_ this fun _ _ => trivial
            refine ⟨fun k hk => ⟨hk, ?_⟩, fun k c0 e0 fr0 h0 => ?_, fun T' _ t' l' ha => ?_, fun T' _ cs' ha => ?_⟩
            · have : k ≠ b := fun h => hnf (h ▸ hk)
              rw [hp]; exact k3 k this
            · rw [hp] at h0
              by_cases hkb : k = b
              · subst hkb
                rw [hb] at h0; simp only [Option.some.injEq, Obj.cells.injEq] at h0
                exact ⟨c', e, fr, k1, by rw [hsz, h0.1]⟩
              · exact ⟨c0, e0, fr0, by rw [← h0]; exact k3 k hkb, rfl⟩
            · simp only [stCx, AF, hget_hput] at ha
              split at ha
              · simp at ha
              · exact ⟨l', ha, rfl, rfl⟩
            · simp only [stCx, hget_hput] at ha
              split at ha
              · rename_i hT; subst hT; exact ⟨cs, hg, rfl⟩
              · exact ⟨cs', ha, rfl⟩
        · simp at hs
      · simp at hs
    · rename_i tk i off
      cases h1 with
      | eptr _ _ _ ad h1 =>
      split at hs
      · rename_i t' l hg
        split at hs
        · rename_i hle
          have hle := Nat.le_of_ble_eq_true hle
          split at hs
          · rename_i y hy
            split at hs
            · rename_i hnt
              simp only [Option.some.injEq] at hs; subst hs
              obtain ⟨hi, b, o, hm, rfl⟩ := h1 t' l (.inl hg)
              rcases hr.blk _ _ hg with ⟨hl, _⟩ | ⟨b', o', c, e, fr, hm', hb, hn, hnf, hfr, hsz0, hd⟩
              · subst hl; simp at hi
              rw [hm] at hm'; cases hm'
              have hb0 := hb
              rw [hp] at hb
              have hvl : v.cells.toList.length = ti.size := by simpa using g2
              have hilen : (i + 1) * csz t' ≤ l.length * csz t' := Nat.mul_le_mul_right _ hi
              rw [Nat.add_mul] at hilen
              have hrun := storeVar_run ok (o := o + i * csz t' + off) hb hfr g2 hone (by omega)
              obtain ⟨c', k1, k2, k3, k4, k5, k6, k7⟩ := setCells_heap b v.cells.toList (o + i * csz t' + off) w c e fr hb (by omega)
              have hsz : c'.size = c.size := by
                have := congrArg List.length k2
                simp at this; omega
              -- what the store shows is not turned any more
              have N1 := frz_next hr hp (tok := tok) (toks av)
              have hr1 := N1.hr
              have hg1 : hget (frzCx x (toks av)).H tk = some (.arr t' l) := by
                simp only [frzCx]; rw [hget_freeze, hg]; simp only [Option.map_some, frz]
                cases he : (toks av).elem tk with
                | true => rw [he] at hnt; simp at hnt
                | false => rfl
              have hnf1 : ¬ (frzCx x (toks av)).fz b := by
                rcases hr1.blk _ _ hg1 with ⟨hl, _⟩ | ⟨b', o', c1, e1, fr1, hm1, _, _, h4, _⟩
                · subst hl; simp at hi
                · have : (frzCx x (toks av)).m tk = some (b, o) := hm
                  rw [this] at hm1; cases hm1; exact h4
              -- the element as it is now
              have hdi := hd i hi
              have hrow : RVL x (setCells (cellsOf t' l[i]) off (cells av)) (row c' (o + i * csz t') (csz t')) := by
                rw [row_in (off := off) (by omega) (by omega) k2]
                exact setCells_RVL (cells_RVL t' _ _ hdi) g1 off
              have e0 : l.getD i (dfl t') = l[i] := by simp [List.getD, hi]
              rw [e0] at hy
              have e1 : setCells (cellsOf t' l[i]) off ((cells av).map (deep x.H)) = (setCells (cellsOf t' l[i]) off (cells av)).map (deep x.H) := by
                unfold setCells
                simp only [List.map_append, List.map_take, List.map_drop, deep_cellsOf, List.length_map]
              rw [e1] at hy
              have hshow : Shows x (frzCx x (toks av)).fz (toksL (setCells (cellsOf t' l[i]) off (cells av))) := by
                intro T hT
                apply frz_shows hr (toks av)
                unfold setCells at hT
                rw [toksL_append, toksL_append] at hT
                rcases List.mem_append.1 hT with hT | hT
                · rcases List.mem_append.1 hT with hT | hT
                  · have := toksL_take hT; rw [toks_cellsOf] at this; cases this
                  · exact toks_cells av T hT
                · have := toksL_drop hT; rw [toks_cellsOf] at this; cases this
              obtain ⟨v1, v2, c2, q1, q2, q3, q4, _⟩ := ofCells_deep hr (fz' := (frzCx x (toks av)).fz) (fun b hb => .inl hb) t' hrow hshow hy
              have q1' : row c' (o + i * csz t') (csz t') = v1 := by
                cases c2 with
                | cons _ _ => simp at q3
                | nil => cases q4; simpa using q1
              refine ⟨_, _, by simp [Instr.storeAt, Instr.sureAddr, hrun], ?_, N1.trans (store_next (x := frzCx x (toks av)) (T := tk) (b := b) (c' := c') hr1 hp ⟨⟨o, hm⟩, .inl ⟨t', l, hg1⟩⟩ hnf1 hb k1 hsz k3 k4
                (below_set hn k5 k6 k7 k4 k3) (.inl ⟨t', l, l.set i y, hg1, rfl, by simp⟩) ?_)⟩
              · rfl
              · refine .inr ⟨b, o, c', e, fr, hm, k1, hn, hnf1, fun o ho => hfr o (by omega), by rw [List.length_set]; omega, fun j hj => ?_⟩
                rw [List.length_set] at hj
                have hmono : ∀ (t : Ty) (y : den t) vs, DeepC x.hp (frzCx x (toks av)).fz t y vs → DeepC (w.setCells b (o + i * csz t' + off) v.cells.toList).heap (frzCx x (toks av)).fz t y vs :=
                  fun t y vs h => DeepC.mono (fun k hk => ⟨hk, by rw [hp]; exact k3 k fun h => hnf1 (h ▸ hk)⟩) t y vs h
                by_cases hji : j = i
                · subst hji
                  rw [List.getElem_set_self, q1']
                  exact hmono _ _ _ q2
                · rw [List.getElem_set_ne (Ne.symm hji)]
                  have hdj := DeepC.mono (hp' := x.hp) (ok' := (frzCx x (toks av)).fz) (fun b hb => ⟨.inl hb, rfl⟩) _ _ _ (hd j hj)
                  have := hmono _ _ _ hdj
                  rw [row_out (s := o + i * csz t' + off) (by omega) k2]
                  · exact this
                  · rcases Nat.lt_or_gt_of_ne hji with h | h
                    · left
                      have : (j + 1) * csz t' ≤ i * csz t' := Nat.mul_le_mul_right _ h
                      rw [Nat.add_mul] at this; omega
                    · right
                      have : (i + 1) * csz t' ≤ j * csz t' := Nat.mul_le_mul_right _ h
                      rw [Nat.add_mul] at this; omega
            · simp at hs
          · simp at hs
        · simp at hs
      · simp at hs
    · simp at hs

end
end Go.Proofs.YtcdcijhfjiahkaaDoorR.K
