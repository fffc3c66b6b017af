/- The abstract machine: appends, and all operations that call nothing. -/
import Derived.Test.YtcdcijhfjiahkaaDoorRK8
set_option linter.unusedVariables false
set_option linter.unusedSimpArgs false
namespace Go.Proofs.YtcdcijhfjiahkaaDoorR.K
open Go
open Go.RowKit (Below)

section
variable {P : Program} {C : Ctx} (hT : CtxTI P C) {x : Cx} {n0 tok : Nat} (hr : HR x n0) {w : World} (hp : x.hp = w.heap)

theorem notInt_ok (hT : CtxTI P C) {t : Nat} (h : notInt C t = true) : ∃ d, P.underlying t = some d ∧ ∀ k, d ≠ .int k := by
  unfold notInt at h
  split at h
  · rename_i ti hti
    split at h
    · rename_i e hs
      exact ⟨_, (hT _ _ hti).slice hs, fun k => by simp⟩
    · rename_i hs
      exact ⟨_, (hT _ _ hti).str hs, fun k => by simp⟩
    · simp at h
  · simp at h

def delO (H : Heap) : Option Nat → Heap
  | some tk => hdel H tk
  | none => H

/-- What an append of 'ys' behind 'l' (of a slice with this base, length and capacity) leaves. -/
theorem append_core (hr : HR x n0) (hp : x.hp = w.heap) (hn : n0 ≤ w.heap.size) (hf : ∀ T ∈ heapToks x.H, ¬ InB tok T) {st tx ty e : Nat} {ts : List Nat} {t : Ty} {te : TI} (ok : TIok P e te) (hty : te.ty = some t)
    (hu : P.underlying st = some (.slice e)) {dx : TypeDesc} (hx : P.underlying tx = some dx) (hxi : ∀ k, dx ≠ .int k) (h1 : 1 ≤ te.size) (h2 : 1 ≤ te.bytes)
    {l ys : List (den t)} {base : Option Addr} {sCap : Nat} {v : Value} (hl : SlC x t l (.slice base l.length sCap)) {news : List Value} (hnews : News P x w t ys v news)
    (room : (l.length + ys.length) * te.bytes ≤ 140737488355328) (del : Option Nat)
    (hin : l.length + ys.length ≤ sCap → (l.length = 0 ∧ ys.length = 0 ∧ sCap = 0) ∨ ∃ tk b o c e' fr lf, del = some tk ∧ hget x.H tk = some (.arr t lf) ∧ x.m tk = some (b, o) ∧ base = some ⟨b, o, none⟩ ∧
      x.hp[b]? = some (Obj.cells c e' fr) ∧ o + sCap * csz t ≤ c.size ∧ l = lf.take l.length ∧ l.length ≤ lf.length) :
    ∃ v' w' x', (Builtin.append_ (st :: tx :: ts).toArray ty #[.slice base l.length sCap, v]).run P w = .ok v' w' ∧
      x'.H = hput (delO x.H del) tok (.arr t (l ++ ys)) ∧ Nx x x' n0 tok w w' ∧ RV x' (.who tok false) v' := by
  obtain ⟨i, z, hi, hs, hb, hz, hd⟩ := zero_deep hr ok hty
  obtain ⟨hcs, _, _⟩ := ok.pure hty
  have hpos : 0 < csz t := by omega
  have hzs : z.cells.size = csz t := by have := hd.length; simpa using this
  obtain ⟨olds, ho⟩ := hl.news (P := P) hp hpos
  -- the machine without the token that is given up
  have D : ∃ x1, Nx x x1 n0 tok w w ∧ x1.H = delO x.H del ∧ x1.hp = x.hp ∧ x1.fz = x.fz ∧ x1.m = x.m ∧ (∀ T ∈ heapToks x1.H, ¬ InB tok T) := by
    cases del with
    | none => exact ⟨x, .refl hr tok hp, rfl, rfl, rfl, rfl, hf⟩
    | some tk => exact ⟨delCx x tk, del_next hr hp tk, rfl, rfl, rfl, rfl, fun T hT => hf T (heapToks_del hT)⟩
  obtain ⟨x1, N1, hH1, hhp1, hfz1, hm1, hf1⟩ := D
  have hp1 : x1.hp = w.heap := by rw [hhp1, hp]
  have who : ∀ (hp' : Array Obj) (loc : Option (Nat × Nat)) (a : Option Addr) (cap : Nat), l.length + ys.length ≤ cap →
      Place (newCx x1 hp' tok loc (.arr t (l ++ ys))) tok t a 0 (l.length + ys.length) cap →
      RV (newCx x1 hp' tok loc (.arr t (l ++ ys))) (.who tok false) (.slice a (l.length + ys.length) cap) := by
    intro hp' loc a cap hc hpl
    refine .who _ _ _ _ _ fun t' l' ha => ?_
    have : t' = t ∧ HEq l' (l ++ ys) := by
      rcases ha with ha | ha
      · simp only [newCx, hget_hput, if_true, Option.some.injEq, Blk.arr.injEq] at ha
        obtain ⟨rfl, h⟩ := ha; exact ⟨rfl, h.symm⟩
      · simp only [newCx, hget_hput, if_true, Option.some.injEq] at ha; cases ha
    obtain ⟨rfl, hl'⟩ := this
    cases hl'
    exact ⟨by simp, hc, by simp, hpl⟩
  by_cases hfit : l.length + ys.length ≤ sCap
  · rcases hin hfit with ⟨g1, g2, g3⟩ | ⟨tk, b, o, c, e', fr, lf, rfl, g2, g3, rfl, g5, g6, g7, g8⟩
    · -- nothing is there, and nothing comes
      have hnil : news = [] := by
        have := hnews.size
        rw [g2, Nat.zero_mul] at this
        exact List.eq_nil_of_length_eq_zero this
      subst hnil
      have hrun := run_append_fit (P := P) (w := w) (w' := w) (ts := ts) (ty := ty) (sLen := l.length) (base := base) hu hx hxi hi hnews.len (by rw [hs, ← hcs]; exact hnews.first w rfl) hfit (fun a _ => rfl) (fun _ => rfl)
      have e1 : l ++ ys = [] := by
        rw [List.eq_nil_of_length_eq_zero g1, List.eq_nil_of_length_eq_zero g2]; rfl
      refine ⟨_, _, newCx x1 w.heap tok none (.arr t (l ++ ys)), hrun, by show hput x1.H tok _ = _; rw [hH1], ?_, who _ _ _ _ hfit (.inl ⟨by omega, g3⟩)⟩
      refine N1.trans (new_next (w' := w) N1.hr hp1 hf1 (Grew.refl _) (.refl _ _) (fun B o h => by cases h) (fun B hB => ?_) ?_)
      · have := N1.hr.size B hB
        rw [hp1] at this; exact this
      · exact .inl ⟨e1, by simp [newCx]⟩
    · -- in place
      rw [hp] at g5
      rcases hr.blk _ _ g2 with ⟨hl0, hm0⟩ | ⟨b', o', c', e'', fr', k1, k2, k3, k4, k5, k6, k7⟩
      · rw [g3] at hm0; cases hm0
      rw [g3] at k1; cases k1
      rw [hp] at k2
      rw [g5] at k2
      simp only [Option.some.injEq, Obj.cells.injEq] at k2
      obtain ⟨rfl, rfl, rfl⟩ := k2
      have hsz : (l.length + ys.length) * csz t ≤ sCap * csz t := Nat.mul_le_mul_right _ hfit
      rw [Nat.add_mul] at hsz
      have hnl : news.length = ys.length * csz t := hnews.size
      have hone : ∀ u ∈ news, u.oneCell' = true := by
        intro u hu'
        obtain ⟨j, hj, rfl⟩ := List.getElem_of_mem hu'
        have hj' : j / csz t < ys.length := by
          rw [Nat.div_lt_iff_lt_mul hpos]; omega
        have hd := hnews.rows (j / csz t) hj'
        have hmem : news[j] ∈ row news.toArray (0 + j / csz t * csz t) (csz t) := by
          rw [row_toArray, Nat.zero_add]
          have hmod : j % csz t < csz t := Nat.mod_lt _ hpos
          have hdm : j / csz t * csz t + j % csz t = j := by rw [Nat.mul_comm]; exact Nat.div_add_mod j (csz t)
          have : ((news.drop (j / csz t * csz t)).take (csz t))[j % csz t]? = some news[j] := by
            rw [List.getElem?_take, if_pos hmod, List.getElem?_drop, hdm]
            exact List.getElem?_eq_getElem hj
          exact List.mem_of_getElem? this
        exact DeepC.one t _ _ hd _ hmem
      have hst : (storeCells ((⟨b, o, none⟩ : Addr).add (l.length * i.size)) news).run P w = .ok () (w.setCells b (o + l.length * csz t) news) := by
        rw [addr_add, hs, ← hcs]
        have hcell : ∀ j, j < news.length → (w.cell? ⟨b, o + l.length * csz t + 0 + j, none⟩).isSome = true := by
          intro j hj
          have : o + l.length * csz t + 0 + j < c.size := by omega
          simp only [World.cell?, g5]
          simp [this]; omega
        have hfr : ∀ j, j < news.length → w.frozen? ⟨b, o + l.length * csz t + 0 + j, none⟩ = false := by
          intro j hj
          obtain ⟨lo, hi'⟩ := fr
          have := k5 (o + l.length * csz t + j) (by omega)
          simp only [World.frozen?, g5, Nat.add_zero]
          simp only at this
          simp; omega
        have := run_storeCells_cells (P := P) b (o + l.length * csz t) news 0 w hcell hfr hone
        simpa using this
      have hrun := run_append_fit (P := P) (w := w) (w' := w.setCells b (o + l.length * csz t) news) (ts := ts) (ty := ty) (sLen := l.length) (base := some ⟨b, o, none⟩) hu hx hxi hi hnews.len
        (by rw [hs, ← hcs]; exact hnews.first w rfl) hfit (fun a ha => by cases ha; exact hst) (fun h => by cases h)
      obtain ⟨c', q1, q2, q3, q4, q5, q6, q7⟩ := setCells_heap b news (o + l.length * csz t) w c e' fr g5 (by omega)
      have hcsz : c'.size = c.size := by
        have := congrArg List.length q2
        simp at this; omega
      have hss : SameSizes w.heap (w.setCells b (o + l.length * csz t) news).heap := by
        intro k c0 e0 fr0 h0
        by_cases hkb : k = b
        · subst hkb
          rw [g5] at h0; simp only [Option.some.injEq, Obj.cells.injEq] at h0
          exact ⟨c', e', fr, q1, by rw [hcsz, h0.1]⟩
        · exact ⟨c0, e0, fr0, by rw [q3 k hkb]; exact h0, rfl⟩
      have hno : ∀ T, ¬ Owns x1 T b := by
        rintro T ⟨⟨o', ho'⟩, hT⟩
        rw [hm1] at ho'
        rw [hH1] at hT
        simp only [delO] at hT
        have hTk : T ≠ tk ∧ Owns x T b := by
          rcases hT with ⟨t', l', hT⟩ | ⟨cs, hT⟩
          · simp only [hget_hdel] at hT
            split at hT
            · cases hT
            · rename_i hne; exact ⟨hne, ⟨o', ho'⟩, .inl ⟨t', l', hT⟩⟩
          · simp only [hget_hdel] at hT
            split at hT
            · cases hT
            · rename_i hne; exact ⟨hne, ⟨o', ho'⟩, .inr ⟨cs, hT⟩⟩
        exact hTk.1 (hr.inj T tk b hTk.2 ⟨⟨o, g3⟩, .inl ⟨t, lf, g2⟩⟩)
      refine ⟨_, _, newCx x1 (w.setCells b (o + l.length * csz t) news).heap tok (some (b, o)) (.arr t (l ++ ys)), hrun, by show hput x1.H tok _ = _; rw [hH1], ?_, ?_⟩
      · refine N1.trans (reuse_next N1.hr hp1 hf1 (by rw [hfz1]; exact k4) hno q3 q4 hss (below_set k3 q5 q6 q7 q4 q3) ?_)
        refine .inr ⟨b, o, c', e', fr, by simp [newCx], q1, k3, by show ¬ x1.fz b; rw [hfz1]; exact k4, fun o ho => k5 o (by omega), by rw [List.length_append, Nat.add_mul]; omega, fun j hj => ?_⟩
        have hmono : ∀ (t0 : Ty) (y : den t0) vs, DeepC x.hp x.fz t0 y vs → DeepC (w.setCells b (o + l.length * csz t) news).heap x1.fz t0 y vs :=
          fun t0 y vs h => by
            rw [hfz1]
            exact DeepC.mono (fun k hk => ⟨hk, by rw [hp]; exact q3 k fun h => k4 (h ▸ hk)⟩) t0 y vs h
        simp only [List.length_append] at hj
        by_cases hjl : j < l.length
        · have hle : (j + 1) * csz t ≤ l.length * csz t := Nat.mul_le_mul_right _ hjl
          rw [Nat.add_mul] at hle
          rw [List.getElem_append_left hjl, row_out (c := c) (s := o + l.length * csz t) (by omega) q2 (.inl (by omega))]
          have h7 := k7 j (by omega)
          have e1 : l[j] = lf[j]'(by omega) := by
            have := congrArg (fun z => z[j]?) g7
            simp only [List.getElem?_take, if_pos hjl] at this
            rw [List.getElem?_eq_getElem hjl, List.getElem?_eq_getElem (by omega)] at this
            exact Option.some.inj this
          rw [e1]
          exact hmono _ _ _ h7
        · have hlt : j - l.length < ys.length := by omega
          rw [List.getElem_append_right (by omega)]
          have hd := hnews.rows (j - l.length) hlt
          have hj2 : j * csz t = l.length * csz t + (j - l.length) * csz t := by rw [← Nat.add_mul]; congr 1; omega
          have hle : (j - l.length + 1) * csz t ≤ ys.length * csz t := Nat.mul_le_mul_right _ hlt
          rw [Nat.add_mul] at hle
          have e1 : row c' (o + j * csz t) (csz t) = row news.toArray (0 + (j - l.length) * csz t) (csz t) := by
            apply List.ext_getElem?
            intro k
            rw [row_get, row_get, q2, get_overlay (by simp; omega)]
            by_cases hk : k < csz t
            · rw [if_pos hk, if_pos hk, if_neg (by omega), if_pos (by omega)]
              simp only
              congr 1
              omega
            · rw [if_neg hk, if_neg hk]
          rw [e1]
          exact hmono _ _ _ hd
      · refine who _ _ _ _ hfit (.inr ⟨b, o, c', e', fr, by simp [newCx], by simp, q1, by rw [Nat.zero_add]; omega⟩)
  · -- a new row
    have hrun := run_append_grown (P := P) (w := w) (ts := ts) (ty := ty) (sLen := l.length) (base := base) (olds := olds) (news := news) hu hx hxi hi hz hnews.len
      (by rw [hs, ← hcs]; exact hnews.first) (by rw [hs, ← hcs]; exact ho.first) (by omega) (by rw [hb]; exact room) (by omega)
    generalize hgc : grownCap w (l.length + ys.length) sCap e = gc at hrun
    have hge : l.length + ys.length ≤ gc := by rw [← hgc]; exact grownCap_ge w _ _ e
    generalize hrest : (Builtin.zeroCells z.cells (gc - (l.length + ys.length))).toList = rest at hrun
    have hrl : rest.length = (gc - (l.length + ys.length)) * csz t := by
      rw [← hrest, Array.length_toList, size_zeroCells, hzs]
    have hg : Grew w.heap (w.drew.alloc (Obj.cells (olds ++ news ++ rest).toArray e)).heap := alloc_grew w.drew _
    have hnew : (w.drew.alloc (Obj.cells (olds ++ news ++ rest).toArray e)).heap[w.heap.size]? = some (Obj.cells (olds ++ news ++ rest).toArray e) := alloc_new w.drew _
    have hg1 : Grew x1.hp (w.drew.alloc (Obj.cells (olds ++ news ++ rest).toArray e)).heap := by rw [hp1]; exact hg
    have htot : (olds ++ news ++ rest).length = gc * csz t := by
      have e1 := ho.size
      have e2 := hnews.size
      have e3 : gc * csz t = l.length * csz t + ys.length * csz t + (gc - (l.length + ys.length)) * csz t := by
        rw [← Nat.add_mul, ← Nat.add_mul]; congr 1; omega
      simp only [List.length_append]; omega
    have hbig : (l.length + ys.length) * csz t ≤ gc * csz t := Nat.mul_le_mul_right _ hge
    refine ⟨_, _, newCx x1 (w.drew.alloc (Obj.cells (olds ++ news ++ rest).toArray e)).heap tok (some (w.heap.size, 0)) (.arr t (l ++ ys)), hrun, by show hput x1.H tok _ = _; rw [hH1], ?_, ?_⟩
    · refine N1.trans (new_next N1.hr hp1 hf1 hg (below_push hn rfl rfl rfl hg) (fun B o h => by simp at h; omega) (fun B hB => Nat.lt_of_lt_of_le (N1.hr.size B hB) hg1.1) ?_)
      refine .inr ⟨w.heap.size, 0, _, e, (0, 0), by simp [newCx], hnew, hn, ?_, unfrozen_zero _, by simp only [List.size_toArray, htot, List.length_append]; omega, fun j hj => ?_⟩
      · intro hfz
        have := N1.hr.size _ hfz
        rw [hp1] at this; omega
      · have := rows_append (r := rest) ho.size hnews.size ho.rows hnews.rows j hj
        refine DeepC.mono (fun b hb => ⟨by show x1.fz b; rw [hfz1]; exact hb, ?_⟩) _ _ _ this
        have := hg1.2 b (by rw [hhp1]; exact hr.size b hb)
        rw [hhp1] at this
        exact this
    · refine who _ _ _ _ hge (.inr ⟨w.heap.size, 0, _, e, (0, 0), by simp [newCx], by simp, hnew, by simp only [List.size_toArray, htot, Nat.zero_add]; omega⟩)

include hT hr hp in
theorem appendOp_sound (hn : n0 ≤ w.heap.size) (hf : ∀ T ∈ heapToks x.H, ¬ InB tok T) {st tx ty : Nat} {ts : List Nat} (htx : notInt C tx = true) {as ax : AV} {vs vx : Value} (h1 : RV x as vs) (h2 : RV x ax vx) :
    OkV P x n0 tok w (Builtin.append_ (st :: tx :: ts).toArray ty #[vs, vx]) (appendOp C st as ax tok x.H) := by
  obtain ⟨dx, hx, hxi⟩ := notInt_ok hT htx
  unfold appendOp
  split
  · trivial
  · rename_i e t te he
    obtain ⟨hu, ok, hty, hs1, hs2⟩ := elemTy_ok hT he
    obtain ⟨hcs, _, _⟩ := ok.pure hty
    split
    · trivial
    · rename_i ys hys
      obtain ⟨news, hnews⟩ := newsOf_sound (P := P) hr hp h2 hys (by omega)
      have rm : ∀ {n : Nat}, Nat.ble ((n + ys.length) * te.bytes) 140737488355328 = true → (n + ys.length) * te.bytes ≤ 140737488355328 := fun h => Nat.le_of_ble_eq_true h
      have fin : ∀ {l : List (den t)} {c : Bool} {del : Option Nat}, toDen x.H (.sl t) as = some l → (c = true → Nat.ble ((l.length + ys.length) * te.bytes) 140737488355328 = true) →
          (∀ base sCap, vs = .slice base l.length sCap → c = true → l.length + ys.length ≤ sCap → (l.length = 0 ∧ ys.length = 0 ∧ sCap = 0) ∨ ∃ tk b o c e' fr lf, del = some tk ∧ hget x.H tk = some (.arr t lf) ∧ x.m tk = some (b, o) ∧
            base = some ⟨b, o, none⟩ ∧ x.hp[b]? = some (Obj.cells c e' fr) ∧ o + sCap * csz t ≤ c.size ∧ l = lf.take l.length ∧ l.length ≤ lf.length) →
          OkV P x n0 tok w (Builtin.append_ (st :: tx :: ts).toArray ty #[vs, vx]) (.cv c (.who tok false) (hput (delO x.H del) tok (.arr t (l ++ ys)))) := by
        intro l c del hl hc hin hct
        obtain ⟨base, sCap, hv, hle, hrow⟩ := toDen_SlC hr h1 hl
        subst hv
        obtain ⟨v', w', x', k1, k2, k3, k4⟩ := append_core (P := P) hr hp hn hf (tok := tok) (ts := ts) (ty := ty) ok hty hu hx hxi hs1 hs2 (l := l) ⟨base, sCap, rfl, hle, hrow⟩ hnews (rm (hc hct)) del (hin base sCap rfl hct)
        exact ⟨v', w', x', k1, k2, k3, k4⟩
      split
      · -- nil
        cases h1
        have := fin (l := []) (c := Nat.ble ((0 + ys.length) * te.bytes) 140737488355328) (del := none) (by simp [toDen, isAgg, deep, ofCell]) (fun h => h) (fun base sCap hv _ hle => by
          cases hv; left; exact ⟨rfl, by omega, rfl⟩)
        simpa [delO] using this
      · -- what is not turned, and full
        rename_i t' l
        split
        · rename_i l' hl'
          split at hl'
          · rename_i het
            subst het
            simp only [Option.some.injEq] at hl'; subst hl'
            cases h1 with
            | sl _ _ _ a cap q1 q2 q3 =>
            refine fin (del := none) (by simp [toDen, isAgg, deep, ofCell]) (fun h => by simp only [Bool.and_eq_true] at h; exact h.1) (fun base sCap hv hc hle => ?_)
            cases hv
            simp only [Bool.and_eq_true, Bool.or_eq_true, decide_eq_true_eq] at hc
            have := q2 rfl
            left; omega
          · simp at hl'
        · trivial
      · rename_i tk full
        split
        · rename_i t' lf hg
          split
          · rename_i l' hl'
            split at hl'
            · rename_i het
              subst het
              simp only [Option.some.injEq] at hl'; subst hl'
              cases h1 with
              | who _ _ a n cap q =>
              obtain ⟨g1, g2, g3, g4⟩ := q t' lf (.inl hg)
              subst g1
              have hto : toDen x.H (.sl t') (.who tk full) = some lf := by simp [toDen, isAgg, deep, hg, ofCell]
              refine fin (del := some tk) hto (fun h => h) (fun base sCap hv hc hle => ?_)
              cases hv
              rcases g4 with ⟨g5, g6⟩ | ⟨b, o, c, e', fr, g5, g6, g7, g8⟩
              · left; omega
              · right
                exact ⟨tk, b, o, c, e', fr, lf, rfl, hg, g5, by rw [g6]; simp, g7, by simpa using g8, by simp, Nat.le_refl _⟩
            · simp at hl'
          · trivial
        · rename_i t' lf hg
          split
          · rename_i l' hl'
            split at hl'
            · rename_i het
              subst het
              simp only [Option.some.injEq] at hl'; subst hl'
              cases h1 with
              | who _ _ a n cap q =>
              obtain ⟨g1, g2, g3, g4⟩ := q t' lf (.inr hg)
              subst g1
              have hto : toDen x.H (.sl t') (.who tk true) = some lf := by simp [toDen, isAgg, deep, hg, ofCell]
              refine fin (del := none) hto (fun h => by simp only [Bool.and_eq_true] at h; exact h.1) (fun base sCap hv hc hle => ?_)
              cases hv
              simp only [Bool.and_eq_true, Bool.or_eq_true, decide_eq_true_eq] at hc
              have := g3 rfl
              left; omega
            · simp at hl'
          · trivial
        · trivial
      · rename_i tk off len full
        split
        · rename_i t' lf hg
          split
          · rename_i l' hl'
            split at hl'
            · rename_i het
              subst het
              simp only [Option.some.injEq] at hl'; subst hl'
              cases h1 with
              | ref _ _ _ _ a cap q =>
              obtain ⟨g1, g2, g3, g4⟩ := q t' lf (.inl hg)
              have hto : toDen x.H (.sl t') (.ref tk off len full) = some ((lf.drop off).take len) := by simp [toDen, isAgg, deep, hg, ofCell]
              have hlen : ((lf.drop off).take len).length = len := by simp; omega
              split
              · split
                · rename_i ho
                  have := Nat.eq_of_beq_eq_true ho
                  subst this
                  have hto' : toDen x.H (.sl t') (.ref tk 0 len false) = some (lf.take len) := by simpa using hto
                  have hlen' : (lf.take len).length = len := by simp; omega
                  refine fin (del := some tk) hto' (fun h => by rw [hlen']; exact h) (fun base sCap hv hc hle => ?_)
                  rw [hlen'] at hv hle ⊢
                  cases hv
                  rcases g4 with ⟨g5, g6⟩ | ⟨b, o, c, e', fr, g5, g6, g7, g8⟩
                  · left; omega
                  · right
                    exact ⟨tk, b, o, c, e', fr, lf, rfl, hg, g5, by rw [g6]; simp, g7, by simpa using g8, rfl, by omega⟩
                · trivial
              · refine fin (del := none) hto (fun h => by rw [hlen]; simp only [Bool.and_eq_true] at h; exact h.1) (fun base sCap hv hc hle => ?_)
                rw [hlen] at hv hle ⊢
                cases hv
                simp only [Bool.and_eq_true, Bool.or_eq_true, decide_eq_true_eq] at hc
                have := g3 rfl
                left; omega
            · simp at hl'
          · trivial
        · rename_i t' lf hg
          split
          · rename_i l' hl'
            split at hl'
            · rename_i het
              subst het
              simp only [Option.some.injEq] at hl'; subst hl'
              cases h1 with
              | ref _ _ _ _ a cap q =>
              obtain ⟨g1, g2, g3, g4⟩ := q t' lf (.inr hg)
              have hto : toDen x.H (.sl t') (.ref tk off len true) = some ((lf.drop off).take len) := by simp [toDen, isAgg, deep, hg, ofCell]
              have hlen : ((lf.drop off).take len).length = len := by simp; omega
              refine fin (del := none) hto (fun h => by rw [hlen]; simp only [Bool.and_eq_true] at h; exact h.1) (fun base sCap hv hc hle => ?_)
              rw [hlen] at hv hle ⊢
              cases hv
              simp only [Bool.and_eq_true, Bool.or_eq_true, decide_eq_true_eq] at hc
              have := g3 rfl
              left; omega
            · simp at hl'
          · trivial
        · trivial
      · trivial

end
end Go.Proofs.YtcdcijhfjiahkaaDoorR.K
