/- Part 4 of the proof: the machine, the tables and the pure laws that the last text joins. -/
import Derived.Test.YtpdfjgooaaailaaGreatDoorZ3
import Derived.Orders
set_option linter.unusedVariables false
set_option linter.unusedSimpArgs false
namespace Go.Proofs.YtpdfjgooaaailaaGreatDoor.K
open Go
open Go.RowKit (Below)
section
variable {P : Program} {C : Ctx}
theorem plain_congr {e e' : Env} {H : Heap} {tok : Nat} {op : Op} (hc : calm op = true) (h : ∀ x ∈ reads op, ev e' x = ev e x) : plainOp C e' H tok op = plainOp C e H tok op := by
  cases op with
  | slice t x lo hi mx =>
    have hx : ev e' x = ev e x := h x (by simp [reads])
    have hlo : lo.map (ev e') = lo.map (ev e) := by cases lo with
      | none => rfl
      | some y => simp [h y (by simp [reads])]
    have hhi : hi.map (ev e') = hi.map (ev e) := by cases hi with
      | none => rfl
      | some y => simp [h y (by simp [reads])]
    have hmx : mx.map (ev e') = mx.map (ev e) := by cases mx with
      | none => rfl
      | some y => simp [h y (by simp [reads])]
    simp only [plainOp, hx, hlo, hhi, hmx]
  | build t ps =>
    have : (ps.toList.map fun p => (p.1, ev e' p.2)) = ps.toList.map fun p => (p.1, ev e p.2) := by
      refine List.map_congr_left fun p hp => ?_
      rw [h p.2 (by simp only [reads, List.mem_map]; exact ⟨p, hp, rfl⟩)]
    simp only [plainOp, this]
  | call c =>
    obtain ⟨callee, args, ats⟩ := c
    cases callee with
    | builtin b =>
      have : args.toList.map (ev e') = args.toList.map (ev e) := by
        refine List.map_congr_left fun x hx => h x ?_
        cases b <;> simpa [reads] using hx
      simp only [plainOp, this]
    | _ => simp [calm] at hc
  | _ => first
    | (simp [calm] at hc; done)
    | (simp only [plainOp]; simp only [reads, List.mem_cons, List.not_mem_nil, or_false, forall_eq_or_imp, forall_eq] at h; simp only [h])
theorem freeze_nil (H : Heap) : freeze [] H = H := by
  induction H with
  | nil => rfl
  | cons p H ih => obtain ⟨u, b⟩ := p; simp only [freeze, ih]; cases b <;> rfl
theorem v_heap {v v1 v2 : AV} {H H' : Heap} {c b : Bool} (h : OR.v v H = .ok c b v1 v2 H') : H' = H := by
  simp only [OR.v, OR.ok.injEq] at h; exact h.2.2.2.2.symm
theorem cv_heap {v v1 v2 : AV} {H H' : Heap} {c b c' : Bool} (h : OR.cv c' v H = .ok c b v1 v2 H') : H' = H := by
  simp only [OR.cv, OR.ok.injEq] at h; exact h.2.2.2.2.symm
theorem ok_heap {v1 v2 u1 u2 : AV} {H H' : Heap} {c b c' b' : Bool} (h : OR.ok c' b' u1 u2 H = .ok c b v1 v2 H') : H' = H := by
  simp only [OR.ok.injEq] at h; exact h.2.2.2.2.symm
theorem binOp_heap {op : BinOp} {t : Nat} {x y v1 v2 : AV} {H H' : Heap} {c b : Bool} (h : binOp C op t x y H = .ok c b v1 v2 H') : H' = H := by
  unfold binOp nilEq at h
  repeat' (first | exact v_heap h | exact cv_heap h | exact ok_heap h | cases h | split at h)
theorem convert_heap {s d tok : Nat} {x v1 v2 : AV} {H H' : Heap} {c b : Bool} (h : convert C s d x tok H = .ok c b v1 v2 H') (hm : (eltSz C d).isSome = false) : H' = H := by
  unfold convert at h
  unfold eltSz at hm
  cases hd : C.ti d with
  | none => simp [hd] at h
  | some ti =>
    cases hs : C.ti s with
    | none => simp [hd, hs] at h
    | some ts =>
      simp only [hd, hs] at h hm
      split at h
      · exact v_heap h
      · exact v_heap h
      · rename_i e _ hsh
        simp only [hsh] at hm
        cases he : C.ti e with
        | none => simp [he] at h
        | some te => simp [he] at hm
      · repeat' (first | exact v_heap h | exact cv_heap h | exact ok_heap h | cases h | split at h)
      · cases h
theorem calm_heap {e : Env} {H H' : Heap} {tok : Nat} {op : Op} {c b : Bool} {v1 v2 : AV} (hc : calm op = true) (hm : makes C op = false) (h : plainOp C e H tok op = .ok c b v1 v2 H') : H' = H := by
  cases op with
  | binOp op t x y ty => exact binOp_heap h
  | convert s d x => exact convert_heap h hm
  | unOp op t x => simp only [plainOp] at h; unfold unOp at h; repeat' (first | exact v_heap h | exact cv_heap h | exact ok_heap h | cases h | split at h)
  | load t p =>
    simp only [plainOp] at h
    split at h
    · unfold loadOp at h; repeat' (first | exact v_heap h | exact cv_heap h | exact ok_heap h | cases h | split at h)
    · cases h
  | slice t x lo hi mx =>
    simp only [plainOp] at h
    split at h
    · split at h
      · unfold sliceOp at h; repeat' (first | exact v_heap h | exact cv_heap h | exact ok_heap h | cases h | split at h)
      · cases h
    · cases h
  | fieldAddr t x f =>
    simp only [plainOp] at h
    split at h
    · unfold fieldAddrOp at h; repeat' (first | exact v_heap h | exact cv_heap h | exact ok_heap h | cases h | split at h)
    · cases h
  | field t x f =>
    simp only [plainOp] at h
    split at h
    · unfold fieldOp at h; repeat' (first | exact v_heap h | exact cv_heap h | exact ok_heap h | cases h | split at h)
    · cases h
  | indexAddr t x i =>
    simp only [plainOp] at h
    split at h
    · unfold indexAddrOp at h; repeat' (first | exact v_heap h | exact cv_heap h | exact ok_heap h | cases h | split at h)
    · unfold arrAddrOp at h; repeat' (first | exact v_heap h | exact cv_heap h | exact ok_heap h | cases h | split at h)
  | index t x i =>
    simp only [plainOp] at h
    split at h
    · unfold indexOp at h; repeat' (first | exact v_heap h | exact cv_heap h | exact ok_heap h | cases h | split at h)
    · unfold arrIndexOp at h; repeat' (first | exact v_heap h | exact cv_heap h | exact ok_heap h | cases h | split at h)
  | extract x i => simp only [plainOp] at h; unfold extractOp at h; repeat' (first | exact v_heap h | exact cv_heap h | exact ok_heap h | cases h | split at h)
  | call cl =>
    obtain ⟨callee, args, ats⟩ := cl
    cases callee with
    | builtin bi =>
      simp only [plainOp] at h
      unfold builtinOp at h
      split at h <;> first
        | (simp [calm] at hc; done)
        | (repeat' (first | exact v_heap h | exact cv_heap h | exact ok_heap h | cases h | split at h))
    | _ => simp [calm] at hc
  | _ => first
    | (simp [calm] at hc; done)
    | (simp only [plainOp] at h; repeat' (first | exact v_heap h | exact cv_heap h | exact ok_heap h | cases h | split at h))
theorem ev_get {e e' : Env} {x : Operand} (h : ∀ t, x = .tmp t → get e' t = get e t) : ev e' x = ev e x := by
  cases x with
  | tmp t => exact h t rfl
  | _ => rfl
def OR.setH : OR → Heap → OR
  | .no, _ => .no
  | .ok c b v1 v2 _, h => .ok c b v1 v2 h
theorem light_set {e : Env} {H H' : Heap} {tok : Nat} {op : Op} (hl : light op = true) : plainOp C e H' tok op = (plainOp C e H tok op).setH H' := by
  cases op with
  | binOp op t x y ty =>
    simp only [plainOp]
    generalize ev e x = a
    generalize ev e y = b
    unfold binOp nilEq
    repeat' (first | rfl | split)
  | unOp op t x =>
    simp only [plainOp]
    unfold unOp
    repeat' (first | rfl | split)
  | extract x i =>
    simp only [plainOp]
    unfold extractOp
    repeat' (first | rfl | split)
  | field t x f =>
    simp only [plainOp]
    split
    · unfold fieldOp
      repeat' (first | rfl | split)
    · rfl
  | pick c a b =>
    simp only [plainOp]
    split <;> rfl
  | move x => rfl
  | assign x => rfl
  | fieldAddr t x f =>
    simp only [plainOp]
    split
    · unfold fieldAddrOp
      repeat' (first | rfl | split)
    · rfl
  | nilCheck x =>
    simp only [plainOp]
    repeat' (first | rfl | split)
  | _ => simp [light] at hl
def SameAt (C : Ctx) (inst : Nat) (o : Oper) (e : Env) (h' h : Heap) : Prop := (∀ T ∈ looksAt o.op e, hget h' T = hget h T) ∧ (wide (C := C) inst o = true → ∀ U, hget h' U = hget h U)
theorem looksAt_congr {op : Op} {e e' : Env} (h : ∀ x ∈ reads op, ev e' x = ev e x) : looksAt op e' = looksAt op e := by
  unfold looksAt
  rw [List.map_congr_left h]
theorem wToks_congr {o : Oper} {inst : Nat} {e e' : Env} (h : ∀ x ∈ reads o.op, ev e' x = ev e x) : wToks (C := C) inst o e' = wToks (C := C) inst o e := by
  unfold wToks
  cases hop : o.op with
  | store t p v => simp only; rw [h p (by simp [hop, reads])]
  | buildSlice t n ps =>
    have hps2 : (ps.toList.map fun p => ev e' p.2) = ps.toList.map fun p => ev e p.2 := by
      refine List.map_congr_left fun p hp => ?_
      rw [h p.2 (by rw [hop]; simp only [reads, List.mem_map]; exact ⟨p, hp, rfl⟩)]
    simp only [hps2]
  | call cl =>
    obtain ⟨callee, args, ats⟩ := cl
    cases callee with
    | value fo =>
      have efo : ev e' fo = ev e fo := h fo (by simp [hop, reads])
      have eargs : args.toList.map (ev e') = args.toList.map (ev e) := List.map_congr_left fun x hx => h x (by simp [hop, reads, hx])
      simp only [efo, eargs]
    | builtin b =>
      have eargs : args.toList.map (ev e') = args.toList.map (ev e) := List.map_congr_left fun x hx => h x (by simpa [hop, reads] using hx)
      cases b <;> first | rfl | simp only [eargs]
    | _ => rfl
  | _ => rfl
theorem wToks_looks {o : Oper} {inst : Nat} {e : Env} {T : Nat} (h : T ∈ wToks (C := C) inst o e) : T ∈ looksAt o.op e := by
  unfold wToks at h
  unfold looksAt
  cases hop : o.op with
  | store t p v =>
    rw [hop] at h
    simp only at h
    split at h
    · rename_i tok off hp
      simp only [List.mem_singleton] at h
      subst h
      simp [reads, toksL, hp, toks]
    · cases h
  | buildSlice t n ps =>
    rw [hop] at h
    simp only [reads, List.map_map] at h ⊢
    exact h
  | call cl =>
    obtain ⟨callee, args, ats⟩ := cl
    cases callee with
    | value fo =>
      rw [hop] at h
      simp only at h
      split at h
      · rename_i g first caps hfo
        split at h
        · split at h
          · simp only [toksL_append, List.mem_append] at h
            simp only [reads, List.map_cons, hfo, toksL, toks, List.mem_append]
            rcases h with (h | h) | h
            · exact .inl (.inl h)
            · exact .inr h
            · exact .inl (.inr h)
          · cases h
        · cases h
      · cases h
    | builtin b =>
      rw [hop] at h
      cases b with
      | append =>
        have hr : (reads (.call ⟨.builtin .append, args, ats⟩)).map (ev e) = args.toList.map (ev e) := rfl
        rw [hr]
        simp only at h
        cases hl : args.toList.map (ev e) with
        | nil => rw [hl] at h; cases h
        | cons s l =>
          rw [hl] at h
          simp only at h
          simp only [toksL, List.mem_append]
          split at h
          · exact .inl h
          · exact .inl h
          · cases h
      | _ => cases h
    | _ => rw [hop] at h; cases h
  | _ => rw [hop] at h; cases h
abbrev Same (h' h : Heap) (l : List Nat) : Prop := ∀ T ∈ l, hget h' T = hget h T
theorem toksL_in {c : AV} {cs : List AV} (hc : c ∈ cs) {T : Nat} (hT : T ∈ toks c) : T ∈ toksL cs := by
  induction cs with
  | nil => cases hc
  | cons a cs ih =>
    simp only [toksL, List.mem_append]
    rcases List.mem_cons.1 hc with rfl | hc
    · exact .inl hT
    · exact .inr (ih hc)
theorem deep_same {h' h : Heap} {v : AV} (hs : Same h' h (toks v)) : deep h' v = deep h v := by
  cases v with
  | who tok f => simp only [deep, hs tok (by simp [toks])]
  | ref tok o l f => simp only [deep, hs tok (by simp [toks])]
  | _ => rfl
theorem toDen_same {h' h : Heap} {v : AV} (t : Ty) (hs : Same h' h (toks v)) : toDen h' t v = toDen h t v := by
  unfold toDen
  split
  · rename_i cs _
    rw [List.map_congr_left fun c hc => deep_same fun T hT => hs T (by simp only [toks]; exact toksL_in hc hT)]
  · rw [deep_same hs]
  · rfl
theorem derefs_same {h' h : Heap} : ∀ {fl : List Bool} {ts : List Ty} {vs ds : List AV}, derefs h fl ts vs = some ds → Same h' h (toksL vs) → derefs h' fl ts vs = some ds
  | [], [], [], _, hd, _ => hd
  | [], [], _ :: _, _, hd, _ => by cases hd
  | [], _ :: _, _, _, hd, _ => by cases hd
  | b :: fl, [], vs, ds, hd, _ => by cases b <;> simp [derefs] at hd
  | b :: fl, t :: ts, [], ds, hd, _ => by cases b <;> simp [derefs] at hd
  | false :: fl, t :: ts, v :: vs, ds, hd, hs => by
    simp only [derefs] at hd ⊢
    split at hd
    · rename_i r hr
      rw [derefs_same (h' := h') hr fun T hT => hs T (by simp [toksL, hT])]
      exact hd
    · cases hd
  | true :: fl, t :: ts, v :: vs, ds, hd, hs => by
    cases v with
    | ptr T off =>
      have hT : hget h' T = hget h T := hs T (by simp [toksL, toks])
      simp only [derefs] at hd ⊢
      rw [hT]
      split at hd
      · rename_i cs r hoff hg hr
        rw [hoff, hg, derefs_same (h' := h') hr fun T hT => hs T (by simp [toksL, hT])]
        exact hd
      · cases hd
    | _ => cases hd
theorem toDenL_same {h' h : Heap} : ∀ (ts : List Ty) (vs : List AV), Same h' h (toksL vs) → toDenL h' ts vs = toDenL h ts vs
  | [], [], _ => rfl
  | [], _ :: _, _ => rfl
  | [t], [v], hs => toDen_same t fun T hT => hs T (by simp [toksL, hT])
  | [t], [], _ => rfl
  | [t], _ :: _ :: _, _ => rfl
  | t :: u :: ts, [], _ => rfl
  | t :: u :: ts, v :: vs, hs => by
    have h1 : toDen h' t v = toDen h t v := toDen_same t fun T hT => hs T (by simp [toksL, hT])
    have h2 : toDenL h' (u :: ts) vs = toDenL h (u :: ts) vs := toDenL_same (u :: ts) vs fun T hT => hs T (by simp [toksL, hT])
    show (match toDen h' t v with
      | some x => match toDenL h' (u :: ts) vs with
        | some y => some (x, y)
        | none => none
      | none => none) = _
    rw [h1, h2]
    rfl
theorem lenOf_same {h' h : Heap} {v : AV} (hs : Same h' h (toks v)) : lenOf v h' = lenOf v h := by
  cases v with
  | who tok f => simp only [lenOf, hs tok (by simp [toks])]
  | _ => rfl
theorem avSz_same {h' h : Heap} {v : AV} (hs : Same h' h (toks v)) : avSz v h' = avSz v h := by
  cases v with
  | who tok f => simp only [avSz, hs tok (by simp [toks])]
  | ref tok o l f => simp only [avSz, hs tok (by simp [toks])]
  | _ => rfl
theorem fitsTy_same {h' h : Heap} {v : AV} (t : Nat) (hs : Same h' h (toks v)) : fitsTy C t v h' = fitsTy C t v h := by
  unfold fitsTy
  cases v <;> first | rfl | (simp only [avSz_same hs])
theorem load_same {h' h : Heap} {ti : TI} {v : AV} (hs : Same h' h (toks v)) : loadOp ti v h' = (loadOp ti v h).setH h' := by
  cases v with
  | ptr tok o => simp only [loadOp, hs tok (by simp [toks])]; repeat' (first | rfl | split)
  | eptr tok i o => simp only [loadOp, hs tok (by simp [toks])]; repeat' (first | rfl | split)
  | aptr tok o n t i => simp only [loadOp, hs tok (by simp [toks])]; repeat' (first | rfl | split)
  | rptr t y o => simp only [loadOp]; repeat' (first | rfl | split)
  | _ => rfl
theorem slice_same {h' h : Heap} {v : AV} (l u m : Option Int) (hs : Same h' h (toks v)) : sliceOp v l u m h' = (sliceOp v l u m h).setH h' := by
  cases v with
  | who tok f => simp only [sliceOp, lenH, hs tok (by simp [toks])]; repeat' (first | rfl | split)
  | _ => simp only [sliceOp]; repeat' (first | rfl | split)
theorem indexAddr_same {h' h : Heap} {v : AV} (i : AV) (hs : Same h' h (toks v)) : indexAddrOp v i h' = (indexAddrOp v i h).setH h' := by
  unfold indexAddrOp
  split
  · rfl
  · cases v with
    | who tok f => simp only [lenOf_same (v := .who tok false) hs]; repeat' (first | rfl | split)
    | _ => repeat' (first | rfl | split)
theorem arrAddr_same {h' h : Heap} (t : Nat) (v i : AV) : arrAddrOp C t v i h' = (arrAddrOp C t v i h).setH h' := by
  unfold arrAddrOp
  repeat' (first | rfl | split)
theorem convert_same {h' h : Heap} (s d tok : Nat) {v : AV} (hm : (eltSz C d).isSome = false) (hs : Same h' h (toks v)) : convert C s d v tok h' = (convert C s d v tok h).setH h' := by
  unfold convert
  unfold eltSz at hm
  cases hd : C.ti d with
  | none => rfl
  | some ti =>
    cases hsr : C.ti s with
    | none => rfl
    | some ts =>
      simp only [hd] at hm ⊢
      split
      · rfl
      · rfl
      · rename_i e _ hsh
        simp only [hsh] at hm
        cases he : C.ti e with
        | none => rfl
        | some te => simp [he] at hm
      · split
        · rename_i e hsh
          cases he : C.ti e with
          | none => rfl
          | some te =>
            simp only
            split
            · rw [toDen_same _ hs]
              repeat' (first | rfl | split)
            · rfl
        · rfl
      · rfl
theorem plain_same {e : Env} {H H' : Heap} {tok : Nat} {op : Op} (hc : calm op = true) (hm : makes C op = false) (hs : Same H' H (looksAt op e)) : plainOp C e H' tok op = (plainOp C e H tok op).setH H' := by
  have at_ : ∀ x ∈ reads op, Same H' H (toks (ev e x)) := fun x hx T hT => hs T (toksL_in (List.mem_map_of_mem (f := ev e) hx) hT)
  cases op with
  | load t p =>
    have hp := at_ p (by simp [reads])
    simp only [plainOp]
    split
    · exact load_same hp
    · rfl
  | convert s d x => exact convert_same s d tok hm (at_ x (by simp [reads]))
  | slice t x lo hi mx =>
    have hp := at_ x (by simp [reads])
    simp only [plainOp, fitsTy_same t hp]
    split
    · split
      · exact slice_same _ _ _ hp
      · rfl
    · rfl
  | indexAddr t x i =>
    have hp := at_ x (by simp [reads])
    simp only [plainOp, fitsTy_same t hp]
    split
    · exact indexAddr_same _ hp
    · exact arrAddr_same t _ _
  | index t x i =>
    simp only [plainOp]
    split
    · unfold indexOp; repeat' (first | rfl | split)
    · unfold arrIndexOp; repeat' (first | rfl | split)
  | field t x f =>
    simp only [plainOp]
    split
    · unfold fieldOp; repeat' (first | rfl | split)
    · rfl
  | build t ps =>
    simp only [plainOp]
    repeat' (first | rfl | split)
  | call cl =>
    obtain ⟨callee, args, ats⟩ := cl
    cases callee with
    | builtin bi =>
      simp only [plainOp]
      unfold builtinOp
      cases bi with
      | len =>
        have hx : ∀ x, args.toList.map (ev e) = [x] → Same H' H (toks x) := fun x hx T hT => hs T (by
          have : reads (.call ⟨.builtin .len, args, ats⟩) = args.toList := rfl
          unfold looksAt; rw [this, hx]; simp [toksL, hT])
        split
        · rename_i hx'
          rw [lenOf_same (hx _ hx')]
          split
          · rw [fitsTy_same _ (hx _ hx')]
            repeat' (first | rfl | split)
          · rfl
        all_goals first | contradiction | rfl | (repeat' (first | contradiction | rfl | split))
      | _ => first
        | (simp [calm] at hc; done)
        | (repeat' (first | contradiction | rfl | split))
    | _ => simp [calm] at hc
  | _ => first
    | (simp [calm] at hc; done)
    | exact light_set rfl
abbrev Eff := List (Nat × Option Blk)
def hset (h : Heap) (T : Nat) : Option Blk → Heap
  | some b => hput h T b
  | none => hdel h T
theorem hget_hset (h : Heap) (T : Nat) (b : Option Blk) (U : Nat) : hget (hset h T b) U = if U = T then b else hget h U := by
  cases b with
  | some b => exact hget_hput h T U b
  | none => exact hget_hdel h T U
def app : Eff → Heap → Heap
  | [], h => h
  | (T, b) :: d, h => app d (hset h T b)
abbrev HE (h' h : Heap) : Prop := ∀ U, hget h' U = hget h U
theorem app_get {U : Nat} : ∀ (d : Eff) (h h' : Heap), hget h U = hget h' U → hget (app d h) U = hget (app d h') U
  | [], _, _, e => e
  | (t, b) :: d, h, h', e => app_get d (hset h t b) (hset h' t b) (by rw [hget_hset, hget_hset, e])
theorem app_key {U : Nat} : ∀ (d : Eff) (h h' : Heap), (∃ b, (U, b) ∈ d) → hget (app d h) U = hget (app d h') U
  | [], _, _, e => by obtain ⟨b, e⟩ := e; cases e
  | (t, b) :: d, h, h', e => by
    by_cases ht : U = t
    · exact app_get d (hset h t b) (hset h' t b) (by rw [hget_hset, hget_hset, if_pos ht, if_pos ht])
    · refine app_key d (hset h t b) (hset h' t b) ?_
      obtain ⟨b', e⟩ := e
      rcases List.mem_cons.1 e with e | e
      · exact absurd (congrArg Prod.fst e) ht
      · exact ⟨b', e⟩
theorem hget_app {U : Nat} : ∀ (d : Eff) (h : Heap), (∀ b, (U, b) ∉ d) → hget (app d h) U = hget h U
  | [], _, _ => rfl
  | (t, b) :: d, h, e => by
    rw [show app ((t, b) :: d) h = app d (hset h t b) from rfl, hget_app d _ fun b' hb => e b' (List.mem_cons_of_mem _ hb), hget_hset, if_neg]
    intro ht; subst ht; exact e b (List.mem_cons_self ..)
theorem app_append : ∀ (a b : Eff) (h : Heap), app (a ++ b) h = app b (app a h)
  | [], _, _ => rfl
  | (t, x) :: a, b, h => app_append a b (hset h t x)
def laid (hn : Heap) : Eff := hn.map fun p => (p.1, some p.2)
theorem app_laid : ∀ (hn h : Heap), app (laid hn) h = hputs h hn
  | [], _ => rfl
  | (t, b) :: hn, h => app_laid hn (hput h t b)
theorem laid_mem {hn : Heap} {T : Nat} {b : Option Blk} (h : (T, b) ∈ laid hn) : ∃ b', b = some b' ∧ (T, b') ∈ hn := by
  obtain ⟨p, hp, he⟩ := List.mem_map.1 h
  simp only [Prod.mk.injEq] at he
  obtain ⟨rfl, rfl⟩ := he
  exact ⟨p.2, rfl, hp⟩
def frzL : List Nat → Heap → Eff
  | [], _ => []
  | T :: ts, h => match hget h T with
    | some (.arr t l) => (T, some (.fro t l)) :: frzL ts h
    | _ => frzL ts h
theorem frzL_mem {T : Nat} {b : Option Blk} {h : Heap} : ∀ {ts : List Nat}, (T, b) ∈ frzL ts h → T ∈ ts ∧ (∃ t l, hget h T = some (.arr t l) ∧ b = some (.fro t l))
  | [], hm => by cases hm
  | U :: ts, hm => by
    unfold frzL at hm
    split at hm
    · rename_i t l hg
      rcases List.mem_cons.1 hm with hm | hm
      · simp only [Prod.mk.injEq] at hm
        obtain ⟨rfl, rfl⟩ := hm
        exact ⟨List.mem_cons_self .., t, l, hg, rfl⟩
      · obtain ⟨h1, h2⟩ := frzL_mem hm
        exact ⟨List.mem_cons_of_mem _ h1, h2⟩
    · obtain ⟨h1, h2⟩ := frzL_mem hm
      exact ⟨List.mem_cons_of_mem _ h1, h2⟩
theorem frzL_of {T : Nat} {h : Heap} {t : Ty} {l : List (den t)} (hg : hget h T = some (.arr t l)) : ∀ {ts : List Nat}, T ∈ ts → (T, some (.fro t l)) ∈ frzL ts h
  | [], hm => by cases hm
  | U :: ts, hm => by
    unfold frzL
    rcases List.mem_cons.1 hm with rfl | hm
    · rw [hg]; exact List.mem_cons_self ..
    · have := frzL_of hg hm
      split
      · exact List.mem_cons_of_mem _ this
      · exact this
theorem frzL_same {h' h : Heap} : ∀ {ts : List Nat}, (∀ T ∈ ts, hget h' T = hget h T) → frzL ts h' = frzL ts h
  | [], _ => rfl
  | U :: ts, hs => by
    simp only [frzL, hs U (List.mem_cons_self ..), frzL_same fun T hT => hs T (List.mem_cons_of_mem _ hT)]
theorem app_one {U : Nat} {b : Option Blk} : ∀ (d : Eff) (h : Heap), (∀ b', (U, b') ∈ d → b' = b) → (U, b) ∈ d → hget (app d h) U = b
  | [], _, _, e => by cases e
  | (t, b0) :: d, h, hall, e => by
    show hget (app d (hset h t b0)) U = _
    by_cases hex : ∃ b', (U, b') ∈ d
    · obtain ⟨b', hb⟩ := hex
      have := hall b' (List.mem_cons_of_mem _ hb)
      subst this
      exact app_one d _ (fun b'' h'' => hall b'' (List.mem_cons_of_mem _ h'')) hb
    · rw [hget_app d _ fun b' hb => hex ⟨b', hb⟩, hget_hset]
      rcases List.mem_cons.1 e with e | e
      · simp only [Prod.mk.injEq] at e
        rw [if_pos e.1, e.2]
      · exact absurd ⟨b, e⟩ hex
theorem freeze_app (ts : List Nat) (h : Heap) : HE (freeze ts h) (app (frzL ts h) h) := by
  intro U
  rw [hget_freeze]
  cases hg : hget h U with
  | none =>
    rw [hget_app, hg]; rfl
    intro b hb
    obtain ⟨_, t, l, h1, _⟩ := frzL_mem hb
    rw [hg] at h1; cases h1
  | some b =>
    have other : (∀ t l, b ≠ .arr t l) → hget (app (frzL ts h) h) U = some b := fun hb => by
      rw [hget_app, hg]
      intro b' hb'
      obtain ⟨_, t, l, h1, _⟩ := frzL_mem hb'
      rw [hg] at h1
      exact hb t l (Option.some.inj h1)
    cases b with
    | arr t l =>
      by_cases hU : U ∈ ts
      · rw [app_one _ _ (b := some (.fro t l)) (fun b' hb' => ?_) (frzL_of hg hU)]
        · have : ts.elem U = true := by rw [List.elem_eq_mem]; exact decide_eq_true hU
          rw [this]; rfl
        · obtain ⟨_, t', l', h1, h2⟩ := frzL_mem hb'
          rw [hg] at h1; cases h1; exact h2
      · have : ts.elem U = false := by rw [List.elem_eq_mem]; exact decide_eq_false hU
        rw [this, hget_app, hg]; rfl
        intro b' hb'; exact hU (frzL_mem hb').1
    | fro t l => rw [other fun _ _ h => by cases h]; rfl
    | box cs => rw [other fun _ _ h => by cases h]; rfl
def shL (b : Bool) (ts : List Nat) (h : Heap) : Eff := match b with
  | true => frzL ts h
  | false => []
theorem shown_app (b : Bool) (ts : List Nat) (h : Heap) : HE (shown b ts h) (app (shL b ts h) h) := by
  cases b with
  | true => exact freeze_app ts h
  | false => exact fun _ => rfl
theorem shL_mem {c : Bool} {ts : List Nat} {h : Heap} {T : Nat} {b : Option Blk} (hm : (T, b) ∈ shL c ts h) : c = true ∧ T ∈ ts ∧ ∀ b', b = some b' → blkToks b' = [] := by
  cases c with
  | false => cases hm
  | true =>
    obtain ⟨h1, t, l, _, rfl⟩ := frzL_mem hm
    exact ⟨rfl, h1, fun b' hb => by cases hb; rfl⟩
theorem shL_same {c : Bool} {ts : List Nat} {h' h : Heap} (hs : ∀ T ∈ ts, hget h' T = hget h T) : shL c ts h' = shL c ts h := by
  cases c with
  | false => rfl
  | true => exact frzL_same hs
theorem impCells_keys (base : Nat) : ∀ (t : Ty) (y : den t) (j : Nat) (T : Nat) (b : Blk), (T, b) ∈ (impCells base t y j).2.1 → base + j ≤ T ∧ T < base + (impCells base t y j).2.2 ∧ blkToks b = []
  | .own t, l, j, T, b, hm => by
    simp only [impCells, List.mem_singleton, Prod.mk.injEq] at hm ⊢
    obtain ⟨rfl, rfl⟩ := hm
    exact ⟨Nat.le_refl _, by omega, rfl⟩
  | .pair a c, y, j, T, b, hm => by
    have m1 := impCells_mono base a y.1 j
    have m2 := impCells_mono base c y.2 (impCells base a y.1 j).2.2
    have k1 := impCells_keys base a y.1 j T b
    have k2 := impCells_keys base c y.2 (impCells base a y.1 j).2.2 T b
    simp only [impCells, List.mem_append] at hm ⊢
    rcases hm with hm | hm
    · have := k1 hm; exact ⟨this.1, Nat.lt_of_lt_of_le this.2.1 (Nat.add_le_add_left m2 _), this.2.2⟩
    · have := k2 hm; exact ⟨Nat.le_trans (Nat.add_le_add_left m1 _) this.1, this.2.1, this.2.2⟩
  | .one t, y, j, T, b, hm => by
    simp only [impCells] at hm ⊢
    exact impCells_keys base t y j T b hm
  | .unit, _, _, _, _, hm => by simp only [impCells] at hm; cases hm
  | .bool, _, _, _, _, hm => by simp only [impCells] at hm; cases hm
  | .int _, _, _, _, _, hm => by simp only [impCells] at hm; cases hm
  | .str, _, _, _, _, hm => by simp only [impCells] at hm; cases hm
  | .sl _, _, _, _, _, hm => by simp only [impCells] at hm; cases hm
  | .fn _, _, _, _, _, hm => by simp only [impCells] at hm; cases hm
theorem imp_keys (base : Nat) (t : Ty) (y : den t) (j : Nat) (T : Nat) (b : Blk) (hm : (T, b) ∈ (imp base t y j).2.1) : base + j ≤ T ∧ T < base + (imp base t y j).2.2 ∧ blkToks b = [] := by
  have k := impCells_keys base t y j T b
  unfold imp at hm ⊢
  split at hm
  · cases hm
  · rename_i ho
    generalize impCells base t y j = z at k hm ⊢
    obtain ⟨cs, g, jj⟩ := z
    cases hag : isAgg t <;> cases cs <;> rw [hag] at hm <;> exact k hm
theorem impL_keys (base : Nat) (ts : List Ty) : ∀ (y : den (tyL ts)) (j : Nat) (T : Nat) (b : Blk), (T, b) ∈ (impL base ts y j).2.1 → base + j ≤ T ∧ T < base + (impL base ts y j).2.2 ∧ blkToks b = [] := by
  induction ts with
  | nil => intro y j T b hm; rw [impL_0] at hm; cases hm
  | cons t ts ih =>
    cases ts with
    | nil => intro y j T b hm; rw [impL_1] at hm ⊢; exact imp_keys base t y j T b hm
    | cons u ts =>
      intro y j T b hm
      rw [impL_2] at hm ⊢
      have m1 := imp_mono base t y.1 j
      have m2 := impL_mono base (u :: ts) y.2 (imp base t y.1 j).2.2
      simp only [List.mem_append] at hm ⊢
      rcases hm with hm | hm
      · have := imp_keys base t y.1 j T b hm; exact ⟨this.1, by omega, this.2.2⟩
      · have := ih y.2 _ T b hm; exact ⟨by omega, this.2.1, this.2.2⟩
section
variable {s : Sm C} {inst : Nat}
theorem envDie_store (t : Nat) (p v : Operand) (h0 h : Heap) (e : Env) : envDie (.store t p v) h0 h e = e := rfl
theorem envDie_calm {op : Op} (hc : calm op = true) (h0 h : Heap) (e : Env) : envDie op h0 h e = e := by
  have : isApp op = false := by
    cases op <;> first
      | rfl
      | (rename_i c
         obtain ⟨cl, a, t⟩ := c
         cases cl <;> first
           | rfl
           | (rename_i b
              cases b <;> first
                | rfl
                | cases hc))
  unfold envDie
  rw [this]
theorem store_do {mk : Bool} {stk : List Fr} {f : Nat} {path : Path} {i : Nat} {rest : List Nat} {o : Oper} {K : St → Option (den (tyL (C.rts inst)))} {st : St} {r : den (tyL (C.rts inst))} (hc : storesAt mk o st = true)
    (h : doOp s inst stk f path i rest o K st = some r) : ∃ v T b, (T ∈ wToks (C := C) inst o st.env ∧ light o.op = false ∧ T ∈ looksAt o.op st.env) ∧ (mk = true → blkToks b = []) ∧ K { st with env := putO st.env o.dst v, heap := hput st.heap T b } = some r ∧
      ∀ (rest' : List Nat) (K' : St → Option (den (tyL (C.rts inst)))) (e' : Env) (h' : Heap), (∀ x ∈ reads o.op, ev e' x = ev st.env x) → hget h' T = hget st.heap T → doOp s inst stk f path i rest' o K' { st with env := e', heap := h' } = K' { st with env := putO e' o.dst v, heap := hput h' T b } := by
  unfold storesAt at hc
  split at hc
  · rename_i t p v hop
    split at hc
    · rename_i tk off hpv
      unfold doOp at h
      rw [forceN_eq, hop] at h
      simp only [makes, Bool.not_false, Bool.true_or, envDie_store] at h
      split at h
      · cases h
      · cases h
      · rename_i c b v1 v2 H hpl _
        have hpl0 := hpl
        simp only [plainOp] at hpl
        split at hpl
        · rename_i ti hti
          split at hpl
          · rename_i h' hs
            rw [hpv] at hs
            unfold storeOp at hs
            split at hs
            · cases hs
            · rename_i hfit
              simp only at hs
              split at hs
              · rename_i cs hg
                split at hs
                · rename_i hble
                  simp only [Option.some.injEq] at hs
                  simp only [OR.v, OR.ok.injEq] at hpl
                  obtain ⟨rfl, rfl, rfl, rfl, rfl⟩ := hpl
                  simp only [cond_true] at h
                  refine ⟨.undef, tk, .box (setCells cs off (cells (ev st.env v))), ⟨by unfold wToks; rw [hop]; simp only [hpv, List.mem_singleton], by rw [hop]; rfl, by rw [hop]; unfold looksAt; simp only [reads, List.map_cons, hpv, toksL, toks]; simp⟩, fun hmk => ?_, by rw [hs]; exact h, fun rest' K' e' h2 he hh => ?_⟩
                  · rw [hmk, hg] at hc
                    simp only [Bool.not_true, Bool.false_or, Bool.and_eq_true, List.isEmpty_iff] at hc
                    obtain ⟨c1, c2⟩ := hc
                    have all : ∀ l : List AV, (∀ c ∈ l, toks c = []) → toksL l = [] := by
                      intro l
                      induction l with
                      | nil => intro _; rfl
                      | cons a l ih => intro hl; simp only [toksL, hl a (by simp), ih fun c hc => hl c (by simp [hc]), List.append_nil]
                    have back : ∀ l : List AV, toksL l = [] → ∀ c ∈ l, toks c = [] := by
                      intro l hl c hc
                      cases ht : toks c with
                      | nil => rfl
                      | cons T ts =>
                        have := toksL_in (T := T) hc (by rw [ht]; simp)
                        rw [hl] at this; cases this
                    have hcv : ∀ c ∈ cells (ev st.env v), toks c = [] := by
                      intro c hc
                      cases hv : ev st.env v with
                      | agg l => rw [hv] at hc c1; simp only [cells, toks] at hc c1; exact back l c1 c hc
                      | _ => rw [hv] at hc c1; simp only [cells, List.mem_singleton] at hc; subst hc; exact c1
                    show toksL (setCells cs off (cells (ev st.env v))) = []
                    refine all _ fun c hc => ?_
                    unfold setCells at hc
                    simp only [List.mem_append] at hc
                    rcases hc with (hc | hc) | hc
                    · exact back cs c2 c (List.mem_of_mem_take hc)
                    · exact hcv c hc
                    · exact back cs c2 c (List.mem_of_mem_drop hc)
                  have he1 : ev e' p = ev st.env p := he p (by simp [hop, reads])
                  have he2 : ev e' v = ev st.env v := he v (by simp [hop, reads])
                  have hst : storeOp ti (.ptr tk off) (ev st.env v) h2 = some (hput h2 tk (.box (setCells cs off (cells (ev st.env v))))) := by
                    unfold storeOp
                    rw [hfit]
                    simp only [hh, hg, hble]
                  unfold doOp
                  rw [forceN_eq, hop]
                  simp only [makes, Bool.not_false, Bool.true_or, plainOp, hti, he1, he2, hpv, hst, OR.v, cond_true, envDie_store]
                · cases hs
              · cases hs
          · cases hpl
        · cases hpl
    · cases hc
  · cases hc
theorem elemsOf_same {h' h : Heap} {t : Ty} {ps : List (Nat × AV)} (hs : Same h' h (toksL (ps.map (·.2)))) : ∀ (n i : Nat), elemsOf h' t ps i n = elemsOf h t ps i n
  | 0, i => rfl
  | n + 1, i => by
    simp only [elemsOf]
    rw [elemsOf_same hs n (i + 1)]
    cases hp : ps.find? (fun p => Nat.beq p.1 i) with
    | some p =>
      have : toDen h' t p.2 = toDen h t p.2 := toDen_same t fun T hT => hs T (toksL_in (List.mem_map_of_mem (f := (·.2)) (List.mem_of_find?_eq_some hp)) hT)
      simp only [this]
    | none => rfl
def Writes (C : Ctx) (inst salt : Nat) (mk : Bool) (o : Oper) (e : Env) (T : Nat) (b : Option Blk) : Prop :=
  light o.op = false ∧ (T ∈ wToks (C := C) inst o e ∨ (maker (C := C) inst o = true ∧ baseOf salt o ≤ T ∧ T < baseOf salt o + 16)) ∧ (mk = true → ∀ b', b = some b' → blkToks b' = [])
def Und (e' e : Env) (h : Heap) : Prop := ∀ t, get e' t = get e t ∨ ∃ T f ty n, get e t = .who T f ∧ get e' t = .husk ty n ∧ hget h T = none
def Does (s : Sm C) (inst : Nat) (stk : List Fr) (f : Nat) (path : Path) (i : Nat) (o : Oper) (st : St) (v : AV) (dk : Eff) : Prop :=
  ∀ (rest' : List Nat) (e' : Env) (h' : Heap), (∀ x ∈ reads o.op, ev e' x = ev st.env x) → (light o.op = false → SameAt C inst o st.env h' st.heap) → (maker (C := C) inst o = true → freshAt stk { st with env := e', heap := h' } (baseOf st.salt o) = true) →
    ∃ H' e'', HE H' (app dk h') ∧ Und e'' (putO e' o.dst v) H' ∧ ∀ (K' : St → Option (den (tyL (C.rts inst)))), doOp s inst stk f path i rest' o K' { st with env := e', heap := h' } = K' { st with env := e'', heap := H' }
theorem hput_app (h : Heap) (T : Nat) (b : Blk) : app [(T, some b)] h = hput h T b := rfl
theorem HE_hput {h' h : Heap} (e : HE h' h) (T : Nat) (b : Blk) : HE (hput h' T b) (hput h T b) := fun U => by rw [hget_hput, hget_hput, e U]
theorem HE_hputs {h' h : Heap} (e : HE h' h) (d : Heap) : HE (hputs h' d) (app (laid d) h) := fun U => by rw [← app_laid]; exact app_get _ _ _ (e U)
theorem Und.refl (e : Env) (h : Heap) : Und e e h := fun _ => .inl rfl
theorem maker_do {mk : Bool} {stk : List Fr} {f : Nat} {path : Path} {i : Nat} {rest : List Nat} {o : Oper} {K : St → Option (den (tyL (C.rts inst)))} {st : St} {r : den (tyL (C.rts inst))} (hc : makesAt (C := C) o = true)
    (h : doOp s inst stk f path i rest o K st = some r) : ∃ v dk H1, (∀ T b, (T, b) ∈ dk → Writes C inst st.salt mk o st.env T b) ∧ HE H1 (app dk st.heap) ∧ K { st with env := putO st.env o.dst v, heap := H1 } = some r ∧ Does s inst stk f path i o st v dk := by
  unfold makesAt at hc
  split at hc
  · rename_i t hop
    split at hc
    · rename_i ti hti
      rw [List.isEmpty_iff] at hc
      unfold doOp at h
      rw [forceN_eq, hop] at h
      simp only [makes, Bool.not_true, Bool.false_or, plainOp, hti, OR.v] at h
      split at h
      · cases h
      · cases h
      · rename_i hok hfr
        cases hok
        simp only [Bool.and_eq_true] at hfr
        simp only [cond_true] at h
        refine ⟨_, [(baseOf st.salt o, some (.box ti.zero))], _, fun T b hm => ?_, fun _ => rfl, h, fun rest' e' h' _ _ hf => ⟨_, _, fun _ => rfl, .refl _ _, fun K' => ?_⟩⟩
        · simp only [List.mem_singleton, Prod.mk.injEq] at hm
          obtain ⟨rfl, rfl⟩ := hm
          exact ⟨by rw [hop]; rfl, .inr ⟨by unfold maker; rw [hop], Nat.le_refl _, by omega⟩, fun _ b' hb => by cases hb; exact hc⟩
        · have hf := hf (by unfold maker; rw [hop])
          unfold baseOf at hf ⊢
          unfold doOp
          rw [forceN_eq, hop]
          simp only [makes, Bool.not_true, Bool.false_or, plainOp, hti, OR.v, hfr.1, hf, Bool.true_and, cond_true]
          rfl
    · cases hc
  · rename_i t n ps hop
    unfold doOp at h
    rw [forceN_eq, hop] at h
    simp only [makes, Bool.not_true, Bool.false_or] at h
    split at h
    · cases h
    · cases h
    · rename_i hok hfr
      simp only [Bool.and_eq_true] at hfr
      simp only [plainOp] at hok
      split at hok
      · rename_i e0 ty te hel
        split at hok
        · rename_i l hl hn
          simp only [OR.v, OR.ok.injEq] at hok
          obtain ⟨rfl, rfl, rfl, rfl, rfl⟩ := hok
          simp only [cond_true] at h
          have hla : looksAt o.op st.env = toksL (ps.toList.map fun p => ev st.env p.2) := by
            rw [hop]; simp only [looksAt, reads, List.map_map]; rfl
          refine ⟨_, frzL (toksL (ps.toList.map fun p => ev st.env p.2)) st.heap ++ [(baseOf st.salt o, some (.arr ty l))], _, fun T b hm => ?_, fun U => ?_, h, fun rest' e' h' he hs hf => ?_⟩
          · rw [List.mem_append] at hm
            refine ⟨by rw [hop]; rfl, ?_, ?_⟩
            · rcases hm with hm | hm
              · exact .inl (by unfold wToks; rw [hop]; exact (frzL_mem hm).1)
              · simp only [List.mem_singleton, Prod.mk.injEq] at hm
                obtain ⟨rfl, rfl⟩ := hm
                exact .inr ⟨by unfold maker; rw [hop], Nat.le_refl _, by omega⟩
            · intro _ b' hb
              rcases hm with hm | hm
              · obtain ⟨_, t', l', _, rfl⟩ := frzL_mem hm; cases hb; rfl
              · simp only [List.mem_singleton, Prod.mk.injEq] at hm
                obtain ⟨rfl, rfl⟩ := hm; cases hb; rfl
          · rw [app_append, hput_app]
            exact HE_hput (freeze_app _ _) _ _ U
          · have hf := hf (by unfold maker; rw [hop])
            have hs := hs (by rw [hop]; rfl)
            unfold SameAt at hs
            replace hs := hs.1
            rw [hla] at hs
            unfold baseOf at hf ⊢
            have hps : (ps.toList.map fun p => (p.1, ev e' p.2)) = ps.toList.map fun p => (p.1, ev st.env p.2) := by
              refine List.map_congr_left fun p hp => ?_
              rw [he p.2 (by rw [hop]; simp only [reads, List.mem_map]; exact ⟨p, hp, rfl⟩)]
            have hps2 : (ps.toList.map fun p => ev e' p.2) = ps.toList.map fun p => ev st.env p.2 := by
              refine List.map_congr_left fun p hp => ?_
              rw [he p.2 (by rw [hop]; simp only [reads, List.mem_map]; exact ⟨p, hp, rfl⟩)]
            have hel2 : elemsOf h' ty (ps.toList.map fun p => (p.1, ev st.env p.2)) 0 n = elemsOf st.heap ty (ps.toList.map fun p => (p.1, ev st.env p.2)) 0 n :=
              elemsOf_same (fun T hT => hs T (by rw [List.map_map] at hT; exact hT)) n 0
            refine ⟨hput (freeze (toksL (ps.toList.map fun p => ev st.env p.2)) h') (tokBase st.salt (o.dst.getD 0)) (.arr ty l), _, fun U => ?_, .refl _ _, fun K' => ?_⟩
            · rw [← frzL_same hs, app_append, hput_app]
              exact HE_hput (freeze_app _ _) _ _ U
            · unfold doOp
              rw [forceN_eq, hop]
              simp only [makes, Bool.not_true, Bool.false_or, plainOp, hel, hps, hps2, hel2, hl, hn, OR.v, hfr.1, hf, Bool.true_and, cond_true]
              rfl
        · cases hok
      · cases hok
  · cases hc
theorem call_do {mk : Bool} {stk : List Fr} {f : Nat} {path : Path} {i : Nat} {rest : List Nat} {o : Oper} {K : St → Option (den (tyL (C.rts inst)))} {st : St} {r : den (tyL (C.rts inst))} (hc : callsAt (C := C) inst o st = true)
    (h : doOp s inst stk f path i rest o K st = some r) : ∃ v dk H1, (∀ T b, (T, b) ∈ dk → Writes C inst st.salt mk o st.env T b) ∧ HE H1 (app dk st.heap) ∧ K { st with env := putO st.env o.dst v, heap := H1 } = some r ∧ Does s inst stk f path i o st v dk := by
  unfold callsAt at hc
  split at hc
  case h_2 => cases hc
  rename_i fo args ats hop
  split at hc
  case h_2 => cases hc
  rename_i g first caps hfo
  split at hc
  case h_2 => cases hc
  rename_i j hdisp
  simp only [Bool.and_eq_true, Bool.not_eq_true'] at hc
  obtain ⟨hio, hrd, hc⟩ := hc
  have hrd := List.isEmpty_iff.1 hrd
  unfold doOp at h
  rw [forceN_eq, hop] at h
  simp only [hfo] at h
  split at h
  · cases h
  rename_i gfn hgfn
  simp only [hdisp, hio, hrd] at h
  split at h
  case h_2 => cases h
  rename_i y hbeq hy
  obtain ⟨q, hq, hk⟩ := Option.bind_eq_some_iff.1 h
  have hla : ∀ T, T ∈ toksL (first ++ args.toList.map (ev st.env) ++ caps) → T ∈ looksAt o.op st.env := fun T hT => by
    rw [hop]
    show T ∈ toksL ((fo :: args.toList).map (ev st.env))
    simp only [List.map_cons, hfo, toksL, toks, toksL_append, List.mem_append] at hT ⊢
    rcases hT with (h | h) | h
    · exact .inl (.inl h)
    · exact .inr h
    · exact .inl (.inr h)
  have hwt : hasSl (tyL (C.rts j)) = true → ∀ T, T ∈ toksL (first ++ args.toList.map (ev st.env) ++ caps) → T ∈ wToks (C := C) inst o st.env := fun hsl T hT => by
    unfold wToks
    rw [hop]
    simp only [hfo, hdisp, hsl, Bool.true_or]
    exact hT
  have hli : light o.op = false := by rw [hop]; rfl
  have wr : ∀ T b, (T, b) ∈ shL (hasSl (tyL (C.rts j))) (toksL (first ++ args.toList.map (ev st.env) ++ caps)) st.heap → Writes C inst st.salt mk o st.env T b := fun T b hm => by
    obtain ⟨h1, h2, h3⟩ := shL_mem hm
    exact ⟨hli, .inl (hwt h1 T h2), fun _ => h3⟩
  have again : ∀ (e' : Env) (h' : Heap), (∀ x ∈ reads o.op, ev e' x = ev st.env x) → SameAt C inst o st.env h' st.heap →
      ev e' fo = .func g first caps ∧ args.toList.map (ev e') = args.toList.map (ev st.env) ∧ toDenL h' (C.pts j) (first ++ args.toList.map (ev st.env) ++ caps) = some y ∧
      shL (hasSl (tyL (C.rts j))) (toksL (first ++ args.toList.map (ev st.env) ++ caps)) h' = shL (hasSl (tyL (C.rts j))) (toksL (first ++ args.toList.map (ev st.env) ++ caps)) st.heap := fun e' h' he hs => by
    have hsame : Same h' st.heap (toksL (first ++ args.toList.map (ev st.env) ++ caps)) := fun T hT => hs.1 T (hla T hT)
    exact ⟨by rw [← hfo]; exact he fo (by simp [hop, reads]), List.map_congr_left fun x hx => he x (by simp [hop, reads, hx]), (toDenL_same (C.pts j) _ hsame).trans hy, shL_same hsame⟩
  split at hk
  · rename_i d hown hdst
    split at hk
    case h_2 => cases hk
    rename_i rs hn n hfr himp
    split at hk
    case h_2 => cases hk
    rename_i hle
    have hmk : maker (C := C) inst o = true := by
      rw [hown, hdst] at hc
      simpa using hc
    refine ⟨_, shL (hasSl (tyL (C.rts j))) (toksL (first ++ args.toList.map (ev st.env) ++ caps)) st.heap ++ laid hn, _, fun T b hm => ?_, fun U => ?_, hk, fun rest' e' h' he hs hf => ?_⟩
    · rcases List.mem_append.1 hm with hm | hm
      · exact wr T b hm
      · obtain ⟨b, rfl, hm2⟩ := laid_mem hm
        have hk' := impL_keys (tokBase st.salt (o.dst.getD 0)) (C.rts j) q 0 T b (by rw [himp]; exact hm2)
        rw [himp] at hk'
        have hle := Nat.le_of_ble_eq_true hle
        obtain ⟨k1, k2, k3⟩ := hk'
        simp only at k2
        exact ⟨hli, .inr ⟨hmk, by unfold baseOf; omega, by unfold baseOf; omega⟩, fun _ b' hb => by cases hb; exact k3⟩
    · rw [app_append]
      exact HE_hputs (shown_app _ _ _) hn U
    · obtain ⟨a1, a2, a3, a4⟩ := again e' h' he (hs hli)
      have hf := hf hmk
      unfold baseOf at hf
      refine ⟨hputs (shown (hasSl (tyL (C.rts j))) (toksL (first ++ args.toList.map (ev st.env) ++ caps)) h') hn, _, fun U => ?_, .refl _ _, fun K' => ?_⟩
      · rw [← a4, app_append]
        exact HE_hputs (shown_app _ _ _) hn U
      · unfold doOp
        rw [forceN_eq, hop]
        simp only [a1, hgfn, a2, hdisp, hio, hrd, hbeq, a3, hq, Option.bind_some, hown, hdst]
        rw [hdst] at hf himp
        simp only [hf, himp, hle]
  · rename_i hno
    refine ⟨_, shL (hasSl (tyL (C.rts j))) (toksL (first ++ args.toList.map (ev st.env) ++ caps)) st.heap, _, wr, shown_app _ _ _, hk, fun rest' e' h' he hs hf => ?_⟩
    obtain ⟨a1, a2, a3, a4⟩ := again e' h' he (hs hli)
    refine ⟨shown (hasSl (tyL (C.rts j))) (toksL (first ++ args.toList.map (ev st.env) ++ caps)) h', _, fun U => ?_, .refl _ _, fun K' => ?_⟩
    · rw [← a4]; exact shown_app _ _ _ U
    · unfold doOp
      rw [forceN_eq, hop]
      simp only [a1, hgfn, a2, hdisp, hio, hrd, hbeq, a3, hq, Option.bind_some]
theorem io_do {mk : Bool} {stk : List Fr} {f : Nat} {path : Path} {i : Nat} {rest : List Nat} {o : Oper} {K : St → Option (den (tyL (C.rts inst)))} {st : St} {r : den (tyL (C.rts inst))} (hc : ioAt (C := C) inst o st = true)
    (h : doOp s inst stk f path i rest o K st = some r) : ∃ v dk H1, (∀ T b, (T, b) ∈ dk → Writes C inst st.salt mk o st.env T b) ∧ HE H1 (app dk st.heap) ∧ K { st with env := putO st.env o.dst v, heap := H1 } = some r ∧ Does s inst stk f path i o st v dk := by
  unfold ioAt at hc
  split at hc
  case h_2 => cases hc
  rename_i fo args ats hop
  split at hc
  case h_2 => cases hc
  rename_i g first caps hfo
  split at hc
  case h_2 => cases hc
  rename_i j hdisp
  simp only [Bool.and_eq_true, Bool.not_eq_true'] at hc
  obtain ⟨hio, ⟨hor, hop'⟩, hc⟩ := hc
  split at hc
  case h_2 => cases hc
  rename_i T off vs' hvs
  simp only [Bool.and_eq_true, List.isEmpty_iff] at hc
  obtain ⟨hvt, hc⟩ := hc
  split at hc
  case h_2 => cases hc
  rename_i cs hT
  rw [List.isEmpty_iff] at hc
  unfold doOp at h
  rw [forceN_eq, hop] at h
  simp only [hfo] at h
  split at h
  · cases h
  rename_i gfn hgfn
  simp only [hdisp, hio] at h
  unfold ioCall at h
  rw [hvs] at h
  simp only [hT] at h
  split at h
  case h_2 => cases h
  rename_i gv sh y hchk hg hy
  split at h
  · cases h
  rename_i hnd
  obtain ⟨q, hq, hk⟩ := Option.bind_eq_some_iff.1 h
  rw [impL_no _ _ _ _ hor] at hk
  have hcs0 : toksL (.agg cs :: vs') = [] := by simp [toksL, toks, hc, hvt]
  obtain ⟨_, rfl, hsh⟩ := givesL_no (H' := st.heap) _ hop' hg
  have hsh : sh = [] := by
    cases sh with
    | nil => rfl
    | cons a sh => have := hsh a (by simp); rw [hcs0] at this; cases this
  subst hsh
  cases hrd : ofDenL (C.rts j) q with
  | nil => rw [hrd] at hk; cases hk
  | cons v0 rs =>
    rw [hrd] at hk
    cases v0 with
    | agg cs' =>
      simp only at hk
      have hcs' : toksL cs' = [] := by
        have := toks_ofDenL (C.rts j) q
        rw [hrd] at this
        simp only [toksL, toks, List.append_eq_nil_iff] at this
        exact this.1
      have hli : light o.op = false := by rw [hop]; rfl
      have hTw : T ∈ wToks (C := C) inst o st.env := by
        unfold wToks
        rw [hop]
        simp only [hfo, hdisp, hio, Bool.or_true]
        rw [hvs]; simp [toksL, toks]
      have hTl : T ∈ looksAt o.op st.env := wToks_looks hTw
      have hH : ∀ H : Heap, hput (hputs (hput (hdels (freeze [] H) []) T (.box (cs.map fun _ => .undef))) []) T (.box cs') = hput (hput H T (.box (cs.map fun _ => .undef))) T (.box cs') := fun H => by rw [freeze_nil]; rfl
      have hHE : ∀ H : Heap, HE (hput (hput H T (.box (cs.map fun _ => .undef))) T (.box cs')) (app [(T, some (.box cs'))] H) := fun H U => by
        rw [hput_app, hget_hput, hget_hput, hget_hput]
        split <;> rfl
      have hk0 : Nat.ble 0 16 = true := rfl
      try simp only [hk0] at hk
      rw [hH] at hk
      refine ⟨_, [(T, some (.box cs'))], _, fun T' b hb => ?_, hHE _, hk, fun rest' e' h' he hl _ => ?_⟩
      · simp only [List.mem_singleton, Prod.mk.injEq] at hb
        obtain ⟨rfl, rfl⟩ := hb
        exact ⟨hli, .inl hTw, fun _ b' hb => by cases hb; exact hcs'⟩
      · have hT' : hget h' T = some (.box cs) := ((hl hli).1 T hTl).trans hT
        have hg' := (givesL_no (H' := h') _ hop' hg).1
        have hy' := (toDenL_same (h' := h') (h := st.heap) (C.pts j) (.agg cs :: vs') (fun T hT => by rw [hcs0] at hT; cases hT)).trans hy
        have efo : ev e' fo = .func g first caps := by rw [← hfo]; exact he fo (by simp [hop, reads])
        have eargs : args.toList.map (ev e') = args.toList.map (ev st.env) := List.map_congr_left fun x hx => he x (by simp [hop, reads, hx])
        refine ⟨_, _, hHE h', .refl _ _, fun K' => ?_⟩
        unfold doOp
        rw [forceN_eq, hop]
        simp only [efo, hgfn, eargs, hdisp, hio]
        unfold ioCall
        rw [hvs]
        have hchk' : (Nat.beq (C.fid j) g && (Nat.beq off 0 && (!hasOwn (tyL (C.rts j)) || freshAt stk { st with env := e', heap := h' } (tokBase st.salt (o.dst.getD 0))))) = true := by
          simp only [Bool.and_eq_true] at hchk ⊢
          exact ⟨hchk.1, hchk.2.1, by rw [hor]; rfl⟩
        simp only [hT', hchk', hg', hy', hnd, hq, Option.bind_some, impL_no _ _ _ _ hor, hrd, hk0]
        rw [hH]
    | _ => cases hk
theorem calm_do {stk : List Fr} {f : Nat} {path : Path} {i : Nat} {rest : List Nat} {o : Oper} {K : St → Option (den (tyL (C.rts inst)))} {st : St} {r : den (tyL (C.rts inst))} (hc : calmAt (C := C) inst o st = true)
    (h : doOp s inst stk f path i rest o K st = some r) : ∃ v, K { st with env := putO st.env o.dst v } = some r ∧
      ∀ (rest' : List Nat) (K' : St → Option (den (tyL (C.rts inst)))) (e' : Env) (h' : Heap), (∀ x ∈ reads o.op, ev e' x = ev st.env x) → (light o.op = false → SameAt C inst o st.env h' st.heap) → doOp s inst stk f path i rest' o K' { st with env := e', heap := h' } = K' { st with env := putO e' o.dst v, heap := h' } := by
  unfold doOp at h
  simp only [forceN_eq] at h
  split at h
  · rename_i fo args ats hop
    unfold calmAt at hc
    rw [hop] at hc
    simp only at hc
    split at h
    · rename_i g first caps hfo
      rw [hfo] at hc
      simp only at hc
      split at h
      · cases h
      · rename_i gfn hgfn
        split at h
        · rename_i j hdisp
          rw [hdisp] at hc
          simp only [Bool.and_eq_true, Bool.or_eq_true, Bool.not_eq_true'] at hc
          obtain ⟨hio, hc0, hc1, hc2⟩ := hc
          simp only [hio] at h
          split at h
          ·
            rename_i bf fl hrd
            unfold rdCall at h
            split at h
            · cases h
            rename_i ds hds
            split at h
            case h_2 => cases h
            rename_i y hchk hy
            obtain ⟨q, hq, hk⟩ := Option.bind_eq_some_iff.1 h
            refine ⟨_, hk, fun rest' K' e' h' he hl => ?_⟩
            have hl := hl (by rw [hop]; rfl)
            unfold SameAt at hl
            obtain ⟨hl, hwd⟩ := hl
            rw [hop] at hl
            have hsame : Same h' st.heap (toksL (first ++ args.toList.map (ev st.env) ++ caps)) := fun T hT => by
              refine hl T ?_
              show T ∈ toksL ((fo :: args.toList).map (ev st.env))
              simp only [List.map_cons, hfo, toksL, toks, toksL_append, List.mem_append] at hT ⊢
              rcases hT with (h | h) | h
              · exact .inl (.inl h)
              · exact .inr h
              · exact .inl (.inr h)
            have d1 := derefs_same (h' := h') hds hsame
            have hs2 : Same h' st.heap (toksL ds) := fun T hT => by
              rw [hrd] at hc0
              rcases hc0 with h0 | h0 | h0
              · cases h0
              · exact hwd h0 T
              · rw [hds] at h0
                unfold tokIn at h0
                have := List.all_eq_true.1 h0 T hT
                exact hsame T (by simpa using this)
            have hy' := (toDenL_same (C.pts j) _ hs2).trans hy
            have efo : ev e' fo = .func g first caps := by rw [← hfo]; exact he fo (by simp [hop, reads])
            have eargs : args.toList.map (ev e') = args.toList.map (ev st.env) := List.map_congr_left fun x hx => he x (by simp [hop, reads, hx])
            unfold doOp
            rw [forceN_eq]
            rw [hop]
            simp only [efo, hgfn, eargs, hdisp, hio, hrd]
            unfold rdCall
            simp only [d1, hchk, hy', hq, Option.bind_some]
          rename_i hrd
          split at h
          · rename_i y hbeq hy
            obtain ⟨q, hq, hk⟩ := Option.bind_eq_some_iff.1 h
            have hsh : ∀ H, shown (hasSl (tyL (C.rts j))) (toksL (first ++ args.toList.map (ev st.env) ++ caps)) H = H := by
              intro H
              rcases hc2 with h2 | h2
              · rw [h2]; rfl
              · rw [List.isEmpty_iff] at h2
                rw [h2]
                cases hasSl (tyL (C.rts j))
                · rfl
                · exact freeze_nil _
            have hno : ∀ d, hasOwn (tyL (C.rts j)) = true → o.dst = some d → False := by
              intro d h1 h2
              rcases hc1 with h3 | h3
              · rw [h3] at h1; cases h1
              · rw [h2] at h3; cases h3
            split at hk
            · rename_i d' h1 h2; exact (hno d' h1 h2).elim
            rw [hsh] at hk
            refine ⟨_, hk, fun rest' K' e' h' he hl => ?_⟩
            have hl := hl (by rw [hop]; rfl)
            unfold SameAt at hl
            obtain ⟨hl, hwd⟩ := hl
            rw [hop] at hl
            have hsame : Same h' st.heap (toksL (first ++ args.toList.map (ev st.env) ++ caps)) := fun T hT => by
              refine hl T ?_
              show T ∈ toksL ((fo :: args.toList).map (ev st.env))
              simp only [List.map_cons, hfo, toksL, toks, toksL_append, List.mem_append] at hT ⊢
              rcases hT with (h | h) | h
              · exact .inl (.inl h)
              · exact .inr h
              · exact .inl (.inr h)
            have hy' := (toDenL_same (C.pts j) _ hsame).trans hy
            have efo : ev e' fo = .func g first caps := by rw [← hfo]; exact he fo (by simp [hop, reads])
            have eargs : args.toList.map (ev e') = args.toList.map (ev st.env) := List.map_congr_left fun x hx => he x (by simp [hop, reads, hx])
            unfold doOp
            rw [forceN_eq]
            rw [hop]
            simp only [efo, hgfn, eargs, hdisp, hio, hrd, hbeq, hy', hq, Option.bind_some]
            rw [hsh]
          · cases h
        · rename_i hdisp; rw [hdisp] at hc; cases hc
        · cases h
    · rename_i hfo; rw [hfo] at hc; cases hc
    · cases h
  · rename_i op hnc
    have hcalm : calm o.op = true ∧ makes C o.op = false := by
      unfold calmAt at hc
      split at hc
      · rename_i fo args ats hop; exact absurd hop (hnc fo args ats)
      · simpa using hc
    obtain ⟨k1, k2⟩ := hcalm
    split at h
    · cases h
    · cases h
    · rename_i c b v1 v2 H hop hm
      have hH := calm_heap k1 k2 hop
      subst hH
      cases c with
      | false => cases h
      | true =>
        simp only [cond_true] at h
        simp only [envDie_calm k1] at h
        refine ⟨cond b v1 v2, by cases b <;> exact h, fun rest' K' e' h' he hl => ?_⟩
        have hop' : plainOp C e' h' (tokBase st.salt (o.dst.getD 0)) o.op = .ok true b v1 v2 h' := by
          rw [plain_congr k1 he]
          cases hli : light o.op with
          | true => rw [light_set (H := st.heap) hli, hop]; rfl
          | false => rw [plain_same k1 k2 (hl hli).1, hop]; rfl
        unfold doOp
        rw [forceN_eq]
        split
        · rename_i fo args ats hop2; exact absurd hop2 (hnc fo args ats)
        · simp only [hop', k2, Bool.not_false, Bool.true_or, cond_true, envDie_calm k1]
          cases b <;> rfl
theorem free_do0 {mk : Bool} {stk : List Fr} {f : Nat} {path : Path} {i : Nat} {rest : List Nat} {o : Oper} {K : St → Option (den (tyL (C.rts inst)))} {st : St} {r : den (tyL (C.rts inst))} (hc : (calmAt (C := C) inst o st || (storesAt mk o st || (makesAt (C := C) o || (callsAt (C := C) inst o st || ioAt (C := C) inst o st)))) = true)
    (h : doOp s inst stk f path i rest o K st = some r) : ∃ v dk H1, (∀ T b, (T, b) ∈ dk → Writes C inst st.salt mk o st.env T b) ∧ HE H1 (app dk st.heap) ∧ K { st with env := putO st.env o.dst v, heap := H1 } = some r ∧ Does s inst stk f path i o st v dk := by
  cases hca : calmAt (C := C) inst o st with
  | true =>
    obtain ⟨v, h1, h2⟩ := calm_do hca h
    exact ⟨v, [], st.heap, fun _ _ h => (by cases h), fun _ => rfl, h1, fun rest' e' h' he hl _ => ⟨h', _, fun _ => rfl, .refl _ _, fun K' => h2 rest' K' e' h' he hl⟩⟩
  | false =>
    rw [hca, Bool.false_or] at hc
    cases hsa : storesAt mk o st with
    | true =>
      obtain ⟨v, T, b, ⟨h0, h01, h02⟩, h03, h1, h2⟩ := store_do hsa h
      refine ⟨v, [(T, some b)], _, fun _ _ he => ?_, fun _ => rfl, h1, fun rest' e' h' he hl _ => ⟨_, _, fun _ => rfl, .refl _ _, fun K' => h2 rest' K' e' h' he ((hl h01).1 T h02)⟩⟩
      simp only [List.mem_singleton, Prod.mk.injEq] at he
      obtain ⟨rfl, rfl⟩ := he
      exact ⟨h01, .inl h0, fun hm b' hb => by cases hb; exact h03 hm⟩
    | false =>
      rw [hsa, Bool.false_or, Bool.or_eq_true] at hc
      rcases hc with hc | hc
      · exact maker_do hc h
      · rw [Bool.or_eq_true] at hc
        rcases hc with hc | hc
        · exact call_do hc h
        · exact io_do hc h
def delH : Option Nat → Heap → Heap
  | some T, h => hdel h T
  | none, h => h
def wOf : AV → List Nat
  | .who T _ => [T]
  | .ref T _ _ _ => [T]
  | _ => []
theorem newsOf_same {h' h : Heap} {t : Ty} {x : AV} (hs : Same h' h (toks x)) : newsOf h' t x = newsOf h t x := by
  unfold newsOf
  split
  · rfl
  · exact toDen_same _ hs
theorem append_form {st : Nat} {s x : AV} {tok : Nat} {h H : Heap} {c b : Bool} {v1 v2 : AV} (ha : appendOp C st s x tok h = .ok c b v1 v2 H) :
    b = true ∧ v1 = .who tok false ∧ ∃ (del : Option Nat) (t : Ty) (l : List (den t)), H = hput (delH del h) tok (.arr t l) ∧ (∀ T, del = some T → T ∈ wOf s) ∧ ∀ h', Same h' h (toks s ++ toks x) → appendOp C st s x tok h' = .ok c true (.who tok false) .undef (hput (delH del h') tok (.arr t l)) := by
  unfold appendOp at ha
  split at ha
  · cases ha
  rename_i e t te hel
  split at ha
  · cases ha
  rename_i ys hys
  have hn : ∀ h', Same h' h (toks s ++ toks x) → newsOf h' t x = some ys := fun h' hs => (newsOf_same fun T hT => hs T (List.mem_append_right _ hT)).trans hys
  cases s with
  | nilsl =>
    simp only [OR.cv, OR.ok.injEq] at ha
    obtain ⟨rfl, rfl, rfl, rfl, rfl⟩ := ha
    refine ⟨rfl, rfl, none, t, ys, rfl, fun _ h => (by cases h), fun h' hs => ?_⟩
    unfold appendOp
    simp only [hel, hn h' hs, OR.cv, delH]
  | sl t' l f =>
    cases f with
    | false => cases ha
    | true =>
      simp only at ha
      split at ha
      · rename_i l0 hl0
        simp only [OR.cv, OR.ok.injEq] at ha
        obtain ⟨rfl, rfl, rfl, rfl, rfl⟩ := ha
        refine ⟨rfl, rfl, none, t, l0 ++ ys, rfl, fun _ h => (by cases h), fun h' hs => ?_⟩
        unfold appendOp
        simp only [hel, hn h' hs, hl0, OR.cv, delH]
      · cases ha
  | who tk full =>
    have hg : ∀ h', Same h' h (toks (.who tk full) ++ toks x) → hget h' tk = hget h tk := fun h' hs => hs tk (by simp [toks])
    simp only at ha
    split at ha
    · rename_i t' l hb
      split at ha
      · rename_i l0 hl0
        simp only [OR.cv, OR.ok.injEq] at ha
        obtain ⟨rfl, rfl, rfl, rfl, rfl⟩ := ha
        refine ⟨rfl, rfl, some tk, t, l0 ++ ys, rfl, fun T h => (by cases h; simp [wOf]), fun h' hs => ?_⟩
        unfold appendOp
        simp only [hel, hn h' hs, hg h' hs, hb, hl0, OR.cv, delH]
      · cases ha
    · rename_i t' l hb
      split at ha
      · rename_i _ l0 hl0
        simp only [OR.cv, OR.ok.injEq] at ha
        obtain ⟨rfl, rfl, rfl, rfl, rfl⟩ := ha
        refine ⟨rfl, rfl, none, t, l0 ++ ys, rfl, fun _ h => (by cases h), fun h' hs => ?_⟩
        unfold appendOp
        simp only [hel, hn h' hs, hg h' hs, hb, hl0, OR.cv, delH]
      · cases ha
    · cases ha
  | ref tk off len full =>
    have hg : ∀ h', Same h' h (toks (.ref tk off len full) ++ toks x) → hget h' tk = hget h tk := fun h' hs => hs tk (by simp [toks])
    simp only at ha
    split at ha
    · rename_i t' l hb
      split at ha
      · rename_i l0 hl0
        split at ha
        · rename_i hfl
          split at ha
          · rename_i hof
            simp only [OR.cv, OR.ok.injEq] at ha
            obtain ⟨rfl, rfl, rfl, rfl, rfl⟩ := ha
            refine ⟨rfl, rfl, some tk, t, l0.take len ++ ys, rfl, fun T h => (by cases h; simp [wOf]), fun h' hs => ?_⟩
            unfold appendOp
            simp only [hel, hn h' hs, hg h' hs, hb, hl0, hof, OR.cv, delH]
          · cases ha
        · rename_i hfl
          simp only [OR.cv, OR.ok.injEq] at ha
          obtain ⟨rfl, rfl, rfl, rfl, rfl⟩ := ha
          refine ⟨rfl, rfl, none, t, (l0.drop off).take len ++ ys, rfl, fun _ h => (by cases h), fun h' hs => ?_⟩
          unfold appendOp
          simp only [hel, hn h' hs, hg h' hs, hb, hl0, OR.cv, delH]
      · cases ha
    · rename_i t' l hb
      split at ha
      · rename_i _ l0 hl0
        simp only [OR.cv, OR.ok.injEq] at ha
        obtain ⟨rfl, rfl, rfl, rfl, rfl⟩ := ha
        refine ⟨rfl, rfl, none, t, (l0.drop off).take len ++ ys, rfl, fun _ h => (by cases h), fun h' hs => ?_⟩
        unfold appendOp
        simp only [hel, hn h' hs, hg h' hs, hb, hl0, OR.cv, delH]
      · cases ha
    · cases ha
  | _ => cases ha
theorem get_die (h0 h : Heap) (e : Env) (t : Nat) : get (e.map fun p => (p.1, die h0 h p.2)) t = die h0 h (get e t) := by
  induction e with
  | nil => rfl
  | cons p e ih =>
    simp only [List.map_cons, get]
    split
    · rfl
    · exact ih
theorem und_died {op : Op} {h0 h : Heap} {e : Env} {d : Nat} {v : AV} (hop : isApp op = true) : Und (put (envDie op h0 h e) d v) (put e d v) h := by
  intro t
  rw [get_put, get_put]
  split
  · exact .inl rfl
  · unfold envDie
    rw [hop]
    simp only
    rw [get_die]
    cases hg : get e t with
    | who T f =>
      cases hh : hget h T with
      | some b => exact .inl (by simp only [die, hh])
      | none =>
        cases hh0 : hget h0 T with
        | none => exact .inl (by simp only [die, hh, hh0])
        | some b =>
          cases b with
          | arr ty l => exact .inr ⟨T, f, ty, l.length, rfl, by simp only [die, hh, hh0], hh⟩
          | _ => exact .inl (by simp only [die, hh, hh0])
    | _ => exact .inl rfl
def delE : Option Nat → Eff
  | some T => [(T, none)]
  | none => []
theorem delE_app (del : Option Nat) (h : Heap) : app (delE del) h = delH del h := by cases del <;> rfl
theorem append_do {mk : Bool} {stk : List Fr} {f : Nat} {path : Path} {i : Nat} {rest : List Nat} {o : Oper} {K : St → Option (den (tyL (C.rts inst)))} {st : St} {r : den (tyL (C.rts inst))} {d : Nat} (hop : isApp o.op = true) (hdst : o.dst = some d)
    (h : doOp s inst stk f path i rest o (fun st' => K { st' with env := put st.env d (get st'.env d) }) st = some r) : ∃ v dk H1, (∀ T b, (T, b) ∈ dk → Writes C inst st.salt mk o st.env T b) ∧ HE H1 (app dk st.heap) ∧ K { st with env := putO st.env o.dst v, heap := H1 } = some r ∧ Does s inst stk f path i o st v dk := by
  obtain ⟨args, ats, hoo⟩ : ∃ args ats, o.op = .call ⟨.builtin .append, args, ats⟩ := by
    cases ho : o.op with
    | call cl =>
      obtain ⟨callee, args, ats⟩ := cl
      rw [ho] at hop
      cases callee with
      | builtin b => cases b <;> first | exact ⟨args, ats, rfl⟩ | cases hop
      | _ => cases hop
    | _ => rw [ho] at hop; cases hop
  have hmk : maker (C := C) inst o = true := by unfold maker; rw [hoo]
  have hli : light o.op = false := by rw [hoo]; rfl
  unfold doOp at h
  rw [forceN_eq, hoo] at h
  simp only [makes, Bool.not_true, Bool.false_or] at h
  split at h
  · cases h
  · cases h
  · rename_i c b v1 v2 H hpl hfr
    simp only [Bool.and_eq_true] at hfr
    simp only [plainOp] at hpl
    unfold builtinOp at hpl
    split at hpl
    case h_4 =>
      rename_i sv xv _ hal
      split at hpl
      · rename_i st0 tx tl hat
        split at hpl
        · rename_i hni
          obtain ⟨rfl, rfl, del, t, l, rfl, hdel, hag⟩ := append_form hpl
          cases c with
          | false => cases h
          | true =>
            simp only [cond_true, hdst, putO] at h
            rw [get_put, if_pos rfl] at h
            have hw : ∀ T, del = some T → T ∈ wToks (C := C) inst o st.env := fun T hT => by
              have := hdel T hT
              unfold wToks
              rw [hoo]
              simp only
              rw [hal]
              simp only
              unfold wOf at this
              split at this
              · exact this
              · exact this
              · cases this
            have hla : ∀ T, T ∈ toks sv ++ toks xv → T ∈ looksAt o.op st.env := fun T hT => by
              rw [hoo]
              have hr : looksAt (.call ⟨.builtin .append, args, ats⟩) st.env = toksL (args.toList.map (ev st.env)) := rfl
              rw [hr, hal]
              simpa [toksL] using hT
            refine ⟨.who (baseOf st.salt o) false, delE del ++ [(baseOf st.salt o, some (.arr t l))], _, fun T b hm => ?_, fun U => ?_, by unfold baseOf; rw [hdst]; exact h, fun rest' e' h' he hs hf => ?_⟩
            · rcases List.mem_append.1 hm with hm | hm
              · cases del with
                | none => cases hm
                | some T' =>
                  simp only [delE, List.mem_singleton, Prod.mk.injEq] at hm
                  obtain ⟨rfl, rfl⟩ := hm
                  exact ⟨hli, .inl (hw T rfl), fun _ b' hb => by cases hb⟩
              · simp only [List.mem_singleton, Prod.mk.injEq] at hm
                obtain ⟨rfl, rfl⟩ := hm
                exact ⟨hli, .inr ⟨hmk, Nat.le_refl _, by omega⟩, fun _ b' hb => by cases hb; rfl⟩
            · rw [app_append, hput_app, delE_app]; unfold baseOf; rw [hdst]
            · have hf := hf hmk
              have hs := hs hli
              unfold baseOf at hf
              have eargs : args.toList.map (ev e') = args.toList.map (ev st.env) := List.map_congr_left fun x hx => he x (by rw [hoo]; exact hx)
              have hag := hag h' fun T hT => hs.1 T (hla T hT)
              refine ⟨hput (delH del h') (baseOf st.salt o) (.arr t l), putO (envDie (.call ⟨.builtin .append, args, ats⟩) h' (hput (delH del h') (baseOf st.salt o) (.arr t l)) e') o.dst (.who (baseOf st.salt o) false), fun U => by rw [app_append, hput_app, delE_app], ?_, fun K' => ?_⟩
              · rw [hdst]
                simp only [putO]
                exact und_died rfl
              · unfold doOp baseOf
                rw [forceN_eq, hoo]
                simp only [makes, Bool.not_true, Bool.false_or, plainOp, builtinOp, eargs, hal, hat, hni, hag, hfr.1, hf, Bool.true_and, cond_true]
        · cases hpl
      · cases hpl
    all_goals first
      | (cases hpl; done)
      | (rename_i hx; cases hx; done)
      | (exfalso; rename_i hx _; cases hx; done)
      | contradiction
theorem free_do {mk : Bool} {stk : List Fr} {f : Nat} {path : Path} {i : Nat} {rest : List Nat} {o : Oper} {K : St → Option (den (tyL (C.rts inst)))} {st : St} {r : den (tyL (C.rts inst))}
    (h : doFree s inst mk stk f path i rest o K st = some r) : ∃ v dk H1, (∀ T b, (T, b) ∈ dk → Writes C inst st.salt mk o st.env T b) ∧ HE H1 (app dk st.heap) ∧ K { st with env := putO st.env o.dst v, heap := H1 } = some r ∧ Does s inst stk f path i o st v dk := by
  unfold doFree at h
  split at h
  · rename_i hca
    exact free_do0 hca h
  · split at h
    · rename_i d hop hdst
      exact append_do hop hdst h
    · cases h
def Off (v : AV) (want : Bool) : Prop := v = .bool (!want) ∨ ∃ u, v = .cst u ∧ ∀ b, u = .bool b → False
def OpDone (s : Sm C) (inst : Nat) (stk : List Fr) (f ntmps : Nat) (path : Path) (ops : Array Oper) (mk : Bool) (st : St) (e : Env) (i : Nat) (dl : Eff) (Hi : Heap) : Prop :=
  ∃ o, ops[i]? = some o ∧ (∀ d, o.dst = some d → d < ntmps) ∧ (∀ T b, (T, b) ∈ dl → Writes C inst st.salt mk o e T b) ∧
    ((∃ v, (∀ d, o.dst = some d → get e d = v) ∧ Does s inst stk f path i o { st with env := e, heap := Hi } v dl ∧ ∀ j want, o.guard = some (j, want) → ∃ d, dstAt ops j = some d ∧ get e d = .bool want) ∨
     (dl = [] ∧ (∀ d, o.dst = some d → get e d = .cst undef) ∧ ∃ j want d, o.guard = some (j, want) ∧ dstAt ops j = some d ∧ Off (get e d) want))
theorem Does.to {stk : List Fr} {f : Nat} {path : Path} {i : Nat} {o : Oper} {st st' : St} {v : AV} {dk : Eff} (h : Does s inst stk f path i o st v dk) (hs : st'.salt = st.salt) (he : ∀ x ∈ reads o.op, ev st'.env x = ev st.env x) (hh : light o.op = false → SameAt C inst o st.env st'.heap st.heap) : Does s inst stk f path i o st' v dk := by
  intro rest' e' h' h1 h2 h3
  have hla : looksAt o.op st'.env = looksAt o.op st.env := looksAt_congr he
  have := h rest' e' h' (fun x hx => (h1 x hx).trans (he x hx)) (fun hl => by
    have a := h2 hl
    have b := hh hl
    unfold SameAt at a b ⊢
    rw [hla] at a
    exact ⟨fun T hT => (a.1 T hT).trans (b.1 T hT), fun hw U => (a.2 hw U).trans (b.2 hw U)⟩) (fun hm => by
    have := h3 hm
    rw [hs] at this
    exact this)
  obtain ⟨H', e'', q1, q3, q2⟩ := this
  refine ⟨H', e'', q1, q3, fun K' => ?_⟩
  have := q2 K'
  rw [← hs] at this
  exact this
def Cq (dl : Nat → Eff) (p : Nat → Bool) : Nat → Nat → Heap → Heap
  | 0, _, h => h
  | n + 1, k, h => Cq dl p n (k + 1) (match p k with
    | true => app (dl k) h
    | false => h)
theorem Cq_congr {dl dl' : Nat → Eff} {p q : Nat → Bool} : ∀ (n k : Nat) (h : Heap), (∀ j, k ≤ j → j < k + n → dl j = dl' j ∧ (dl j ≠ [] → p j = q j)) → Cq dl p n k h = Cq dl' q n k h
  | 0, _, _, _ => rfl
  | n + 1, k, h, hpq => by
    simp only [Cq]
    obtain ⟨h1, h2⟩ := hpq k (Nat.le_refl _) (by omega)
    have : (match p k with
      | true => app (dl k) h
      | false => h) = match q k with
      | true => app (dl' k) h
      | false => h := by
      rw [← h1]
      cases hd : dl k with
      | nil => cases p k <;> cases q k <;> rfl
      | cons x l => rw [h2 (by rw [hd]; simp)]
    rw [this]
    exact Cq_congr n (k + 1) _ fun j h1 h2 => hpq j (by omega) (by omega)
theorem Cq_none {dl : Nat → Eff} {p : Nat → Bool} : ∀ (n k : Nat) (h : Heap), (∀ j, k ≤ j → j < k + n → dl j ≠ [] → p j = false) → Cq dl p n k h = h
  | 0, _, _, _ => rfl
  | n + 1, k, h, hp => by
    simp only [Cq]
    have : (match p k with
      | true => app (dl k) h
      | false => h) = h := by
      cases hd : dl k with
      | nil => cases p k <;> rfl
      | cons x l => rw [hp k (Nat.le_refl _) (by omega) (by rw [hd]; simp)]
    rw [this]
    exact Cq_none n (k + 1) _ fun j h1 h2 => hp j (by omega) (by omega)
theorem Cq_get {dl : Nat → Eff} {p q : Nat → Bool} {U : Nat} : ∀ (n k : Nat) (h h' : Heap), hget h U = hget h' U → (∀ j, k ≤ j → j < k + n → ∀ b, (U, b) ∈ dl j → p j = q j) → hget (Cq dl p n k h) U = hget (Cq dl q n k h') U
  | 0, _, _, _, hh, _ => hh
  | n + 1, k, h, h', hh, hpq => by
    simp only [Cq]
    refine Cq_get n (k + 1) _ _ ?_ fun j h1 h2 => hpq j (by omega) (by omega)
    by_cases hd : ∃ b, (U, b) ∈ dl k
    · obtain ⟨b, hd⟩ := hd
      rw [hpq k (Nat.le_refl _) (by omega) b hd]
      cases q k with
      | true => exact app_get _ _ _ hh
      | false => exact hh
    · have e1 : ∀ (b : Bool) (g : Heap), hget (match b with
        | true => app (dl k) g
        | false => g) U = hget g U := fun b g => by
        cases b with
        | true => exact hget_app _ _ fun b hb => hd ⟨b, hb⟩
        | false => rfl
      rw [e1, e1]; exact hh
theorem Cq_last {dl : Nat → Eff} {q : Nat → Bool} {i T : Nat} (hd : ∃ b, (T, b) ∈ dl i) (hq : q i = true) (hl : ∀ j, i < j → ∀ b', (T, b') ∈ dl j → q j = false) : ∀ (n k : Nat) (h g : Heap), k ≤ i → i < k + n → hget (Cq dl q n k h) T = hget (app (dl i) g) T
  | 0, _, _, _, h1, h2 => by omega
  | n + 1, k, h, g, h1, h2 => by
    simp only [Cq]
    by_cases hk : k = i
    · subst hk
      rw [hq]
      simp only
      rw [Cq_get (q := fun _ => false) n (k + 1) _ (app (dl k) h) rfl fun j h3 h4 b' h5 => hl j (by omega) b' h5, Cq_none n (k + 1) _ fun _ _ _ _ => rfl]
      exact app_key _ _ _ hd
    · exact Cq_last hd hq hl n (k + 1) _ g (by omega) (by omega)
theorem Cq_more {dl : Nat → Eff} {p q : Nat → Bool} {i : Nat} (hi : p i = false) (hq : ∀ j, q j = (p j || Nat.beq j i)) (n k : Nat) (h : Heap) (h1 : k ≤ i) (h2 : i < k + n) (h3 : ∀ T b, (T, b) ∈ dl i → ∀ j, i < j → ∀ b', (T, b') ∈ dl j → p j = false) (U : Nat) :
    hget (app (dl i) (Cq dl p n k h)) U = hget (Cq dl q n k h) U := by
  have hqp : ∀ j, j ≠ i → q j = p j := fun j hj => by rw [hq, beq_ne hj]; simp
  have hqi : q i = true := by rw [hq, beq_self]; simp
  by_cases hd : ∃ b, (U, b) ∈ dl i
  · obtain ⟨b, hb⟩ := hd
    exact (Cq_last ⟨b, hb⟩ hqi (fun j hj b' hb' => by rw [hqp j (by omega)]; exact h3 U b hb j hj b' hb') n k h _ h1 h2).symm
  · rw [hget_app _ _ fun b hb => hd ⟨b, hb⟩]
    refine Cq_get n k h h rfl fun j _ _ b hb => ?_
    by_cases hj : j = i
    · subst hj; exact absurd ⟨b, hb⟩ hd
    · exact (hqp j hj).symm
structure FreeAt (ops : Array Oper) (m i : Nat) (o : Oper) : Prop where
  edge : ∀ e ∈ o.after.toList, Region.binds .any e = true → e.on < i
  sees : ∀ t, .tmp t ∈ reads o.op → ∀ j, j < m → dstAt ops j = some t → bnd ops o j = true
  guard : ∀ j want, o.guard = some (j, want) → j < m ∧ bnd ops o j = true
  dst : ∀ d, o.dst = some d → ∀ j, j < m → j ≠ i → dstAt ops j ≠ some d
theorem freeOk_edge {ops : Array Oper} {m i : Nat} {o : Oper} (h : freeOk ops m i = true) (ho : ops[i]? = some o) : ∀ e ∈ o.after.toList, Region.binds .any e = true → e.on < i := by
  unfold freeOk at h
  rw [ho] at h
  simp only [Bool.and_eq_true, List.all_eq_true] at h
  intro e he hb
  have := h.1 e he
  rw [hb] at this
  simp only [Bool.not_true, Bool.false_or] at this
  exact Nat.lt_of_succ_le (Nat.le_of_ble_eq_true this)
theorem freeOk_at {ops : Array Oper} {m i : Nat} {o : Oper} (h : freeOk ops m i = true) (ho : ops[i]? = some o) (hi : i < m) : FreeAt ops m i o := by
  refine ⟨freeOk_edge h ho, ?_, ?_, ?_⟩
  all_goals
    unfold freeOk at h
    rw [ho] at h
    have hlt : Nat.blt i m = true := Nat.ble_eq_true_of_le hi
    simp only [Bool.and_eq_true, hlt, Bool.not_true, Bool.false_or] at h
    obtain ⟨_, h1, h2, h3⟩ := h
  · intro t ht j hj hd
    have := List.all_eq_true.1 h1 _ ht
    simp only [seesFree] at this
    have := List.all_eq_true.1 this j (List.mem_range.2 hj)
    rw [hd] at this
    simpa [beq_self] using this
  · intro j want hg
    rw [hg] at h2
    simp only [Bool.and_eq_true] at h2
    exact ⟨Nat.lt_of_succ_le (Nat.le_of_ble_eq_true h2.1), h2.2⟩
  · intro d hd j hj hne hdj
    rw [hd] at h3
    have := List.all_eq_true.1 h3 j (List.mem_range.2 hj)
    rw [hdj, beq_ne hne] at this
    simp [beq_self] at this
theorem binds_lt {ops : Array Oper} {i : Nat} {o : Oper} (h : ∀ e ∈ o.after.toList, Region.binds .any e = true → e.on < i) {j : Nat} (hb : bindsOn o j = true) : j < i := by
  unfold bindsOn at hb
  obtain ⟨e, he, hb⟩ := List.any_eq_true.1 hb
  simp only [Bool.and_eq_true] at hb
  have := h e he hb.1
  rw [beq_true hb.2] at this
  exact this
theorem bindsT_lt {ops : Array Oper} {m : Nat} (hedge : ∀ i o, i < m → ops[i]? = some o → ∀ e ∈ o.after.toList, Region.binds .any e = true → e.on < i) : ∀ (n i : Nat) (o : Oper) (j : Nat), i < m → ops[i]? = some o → bindsT ops n o j = true → j < i
  | 0, i, o, j, hi, ho, hb => binds_lt (ops := ops) (hedge i o hi ho) hb
  | n + 1, i, o, j, hi, ho, hb => by
    unfold bindsT at hb
    split at hb
    · rename_i hb'; exact binds_lt (ops := ops) (hedge i o hi ho) hb'
    · obtain ⟨e, he, hb⟩ := List.any_eq_true.1 hb
      split at hb
      · rename_i hbe
        have hlt := hedge i o hi ho e he hbe
        split at hb
        · rename_i o' ho'
          exact Nat.lt_trans (bindsT_lt hedge n e.on o' j (by omega) ho' hb) hlt
        · cases hb
      · cases hb
theorem get_known {e : Env} {d : Nat} {b : Bool} (h : get e d = .bool b) (t : Nat) : get (put e d (.bool b)) t = get e t := by
  rw [get_put]
  split
  · rename_i ht; subst ht; exact h.symm
  · rfl
theorem get_putO (e : Env) (o : Option Nat) (v : AV) (t : Nat) : get (putO e o v) t = if o = some t then v else get e t := by
  cases o with
  | none => simp [putO]
  | some d =>
    simp only [putO, get_put, Option.some.injEq]
    by_cases h : t = d
    · subst h; simp
    · rw [if_neg h, if_neg (Ne.symm h)]
theorem OpDone.he {stk : List Fr} {f ntmps : Nat} {path : Path} {ops : Array Oper} {mk : Bool} {st st' : St} {e : Env} {i : Nat} {dl : Eff} {Hi Hi' : Heap} (hs : st'.salt = st.salt) (hh : HE Hi' Hi) (h : OpDone s inst stk f ntmps path ops mk st e i dl Hi) : OpDone s inst stk f ntmps path ops mk st' e i dl Hi' := by
  obtain ⟨o, h1, h2, h3, h4⟩ := h
  refine ⟨o, h1, h2, fun T b hm => by rw [hs]; exact h3 T b hm, ?_⟩
  rcases h4 with ⟨v, a, b, c⟩ | h4
  · exact .inl ⟨v, a, b.to (st' := { st' with env := e, heap := Hi' }) hs (fun _ _ => rfl) (fun _ => ⟨fun T _ => hh T, fun _ U => hh U⟩), c⟩
  · exact .inr h4
theorem free_trace {mk : Bool} {stk : List Fr} {f ntmps : Nat} {path : Path} {ops : Array Oper} {K : St → Option (den (tyL (C.rts inst)))} {m : Nat} {r : den (tyL (C.rts inst))} (hok : ∀ i, i < m → freeOk ops m i = true) :
    ∀ (n k : Nat) (st : St), k + n = m → runFree s inst mk stk f ntmps path ops K (List.range' k n) st = some r →
      ∃ e dl He, HE He (Cq dl (fun _ => true) n k st.heap) ∧ K { st with env := e, heap := He } = some r ∧ (∀ t, (∀ i, k ≤ i → i < m → dstAt ops i ≠ some t) → get e t = get st.env t) ∧
        ∀ i, k ≤ i → i < m → OpDone s inst stk f ntmps path ops mk st e i (dl i) (Cq dl (fun j => Nat.blt j i) n k st.heap) := by
  have hedge0 : ∀ i o, i < m → ops[i]? = some o → ∀ e ∈ o.after.toList, Region.binds .any e = true → e.on < i := fun i o hi ho => freeOk_edge (hok i hi) ho
  have blt_t : ∀ {a b : Nat}, a < b → Nat.blt a b = true := fun h => Nat.ble_eq_true_of_le h
  have blt_f : ∀ {a b : Nat}, b ≤ a → Nat.blt a b = false := fun {a b} h => by
    cases hb : Nat.blt a b with
    | false => rfl
    | true => have := Nat.le_of_ble_eq_true hb; omega
  intro n
  induction n with
  | zero =>
    intro k st hk h
    exact ⟨st.env, fun _ => [], st.heap, fun _ => rfl, h, fun _ _ => rfl, fun i h1 h2 => by omega⟩
  | succ n ih =>
    intro k st hk h
    rw [List.range'_succ] at h
    simp only [runFree] at h
    split at h
    · cases h
    · rename_i o ho
      split at h
      · cases h
      · rename_i hdst
        have hd : ∀ d, o.dst = some d → d < ntmps := by
          intro d hd
          rw [hd] at hdst
          exact Nat.lt_of_succ_le (Nat.le_of_ble_eq_true hdst)
        have F := freeOk_at (hok k (by omega)) ho (by omega)
        have hdk : dstAt ops k = o.dst := by simp [dstAt, ho]
        have go : ∀ (st' : St) (v : AV) (dk : Eff) (H1 : Heap), HE H1 (app dk st.heap) → st'.heap = st.heap → st'.salt = st.salt → (∀ t, get st'.env t = get st.env t) →
            runFree s inst mk stk f ntmps path ops K (List.range' (k + 1) n) { st' with env := putO st'.env o.dst v, heap := H1 } = some r →
            ∃ e dl He, dl k = dk ∧ HE He (Cq dl (fun _ => true) (n + 1) k st.heap) ∧ K { st with env := e, heap := He } = some r ∧ (∀ t, (∀ i, k ≤ i → i < m → dstAt ops i ≠ some t) → get e t = get st.env t) ∧
              (∀ i, k + 1 ≤ i → i < m → OpDone s inst stk f ntmps path ops mk st e i (dl i) (Cq dl (fun j => Nat.blt j i) (n + 1) k st.heap)) ∧ (∀ d, o.dst = some d → get e d = v) ∧
              (∀ t j, j < k → dstAt ops j = some t → get e t = get st.env t) ∧ ∀ x ∈ reads o.op, ev e x = ev st'.env x := by
          intro st' v dk H1 hH1 hh hsl hg hrun
          obtain ⟨e, dl0, He, hHe, h1, h2, h3⟩ := ih (k + 1) _ (by omega) hrun
          have unaff : ∀ t, (∀ i, k + 1 ≤ i → i < m → dstAt ops i ≠ some t) → o.dst ≠ some t → get e t = get st.env t := by
            intro t ht hne
            rw [h2 t ht]
            show get (putO st'.env o.dst v) t = _
            rw [get_putO, if_neg hne]
            exact hg t
          have old : ∀ t j, j < k → dstAt ops j = some t → get e t = get st.env t := by
            intro t j hj hdj
            obtain ⟨oj, hoj⟩ : ∃ oj, ops[j]? = some oj := by
              unfold dstAt at hdj
              cases hx : ops[j]? with
              | none => rw [hx] at hdj; cases hdj
              | some oj => exact ⟨oj, rfl⟩
            have Fj := freeOk_at (hok j (by omega)) hoj (by omega)
            have hojd : oj.dst = some t := by simpa [dstAt, hoj] using hdj
            refine unaff t (fun i h1 h2 => Fj.dst t hojd i h2 (by omega)) ?_
            rw [← hdk]
            exact Fj.dst t hojd k (by omega) (by omega)
          let dl : Nat → Eff := fun j => match Nat.beq j k with
            | true => dk
            | false => dl0 j
          have dlk : dl k = dk := by show (match Nat.beq k k with | true => dk | false => dl0 k) = dk; rw [beq_self]
          have dlj : ∀ j, k < j → dl j = dl0 j := fun j hj => by show (match Nat.beq j k with | true => dk | false => dl0 j) = dl0 j; rw [beq_ne (by omega : j ≠ k)]
          have hC : ∀ p : Nat → Bool, p k = true → HE (Cq dl p (n + 1) k st.heap) (Cq dl0 p n (k + 1) H1) := by
            intro p hp U
            simp only [Cq, hp, dlk]
            rw [Cq_congr (dl' := dl0) (q := p) n (k + 1) _ fun j h1 h2 => ⟨dlj j (by omega), fun _ => rfl⟩]
            exact Cq_get n (k + 1) _ _ (hH1 U).symm fun _ _ _ _ _ => rfl
          refine ⟨e, dl, He, dlk, fun U => (hHe U).trans (hC (fun _ => true) rfl U).symm, ?_, fun t ht => unaff t (fun i h1 h2 => ht i (by omega) h2) (by rw [← hdk]; exact ht k (by omega) (by omega)), fun i h1 h2 => ?_, fun d hd => ?_, old, fun x hx => ?_⟩
          · have : ({ st with env := e, heap := He } : St) = { env := e, heap := He, salt := st'.salt } := by rw [hsl]
            rw [this]; exact h1
          · have := h3 i h1 h2
            rw [dlj i h1]
            exact this.he hsl.symm (hC (fun j => Nat.blt j i) (blt_t h1))
          · rw [h2 d (fun i h1 h2 => F.dst d hd i h2 (by omega))]
            show get (putO st'.env o.dst v) d = v
            rw [get_putO, if_pos hd]
          · refine ev_get fun t ht => ?_
            subst ht
            rw [hg t]
            by_cases hex : ∃ j, j < m ∧ dstAt ops j = some t
            · obtain ⟨j, hj, hdj⟩ := hex
              have hjk := bindsT_lt hedge0 12 _ o j (by omega) ho (F.sees t hx j hj hdj)
              exact old t j hjk hdj
            · exact unaff t (fun i _ h2 hdi => hex ⟨i, h2, hdi⟩) (by rw [← hdk]; exact fun hdi => hex ⟨k, by omega, hdi⟩)
        have here : ∀ dl : Nat → Eff, Cq dl (fun j => Nat.blt j k) (n + 1) k st.heap = st.heap := fun dl => Cq_none _ _ _ fun j h1 _ _ => blt_f h1
        have fin : ∀ (st' : St), st'.heap = st.heap → st'.salt = st.salt → (∀ t, get st'.env t = get st.env t) → (∀ j want, o.guard = some (j, want) → ∃ d, dstAt ops j = some d ∧ get st.env d = .bool want) →
            doFree s inst mk stk f path k (List.range' (k + 1) n) o (fun st => runFree s inst mk stk f ntmps path ops K (List.range' (k + 1) n) st) st' = some r →
            ∃ e dl He, HE He (Cq dl (fun _ => true) (n + 1) k st.heap) ∧ K { st with env := e, heap := He } = some r ∧ (∀ t, (∀ i, k ≤ i → i < m → dstAt ops i ≠ some t) → get e t = get st.env t) ∧ ∀ i, k ≤ i → i < m → OpDone s inst stk f ntmps path ops mk st e i (dl i) (Cq dl (fun j => Nat.blt j i) (n + 1) k st.heap) := by
          intro st' hh hsl hg hgu hdo
          obtain ⟨v, dk, H1, hk0, hHE, hk1, hk2⟩ := free_do hdo
          rw [hh] at hHE
          obtain ⟨e, dl, He, e0, eH, e1, e2, e3, e4, e5, e6⟩ := go st' v dk H1 hHE hh hsl hg hk1
          refine ⟨e, dl, He, eH, e1, e2, fun i h1 h2 => ?_⟩
          by_cases hik : i = k
          · subst hik
            rw [here, e0]
            refine ⟨o, ho, hd, fun T b hb => by
              obtain ⟨w1, w2, w3⟩ := hk0 T b hb
              exact ⟨w1, by rw [wToks_congr e6, ← hsl]; exact w2, w3⟩, .inl ⟨v, e4, hk2.to (st' := { st with env := e, heap := st.heap }) hsl.symm e6 (fun _ => ⟨fun T _ => by rw [hh], fun _ U => by rw [hh]⟩), fun j want hgd => ?_⟩⟩
            · obtain ⟨d, hd1, hd2⟩ := hgu j want hgd
              obtain ⟨hjm, hjb⟩ := F.guard j want hgd
              exact ⟨d, hd1, by rw [e5 d j (bindsT_lt hedge0 12 _ o j (by omega) ho hjb) hd1]; exact hd2⟩
          · exact e3 i (by omega) h2
        have skip : ∀ (st' : St), st'.heap = st.heap → st'.salt = st.salt → (∀ t, get st'.env t = get st.env t) → (∃ j want d, o.guard = some (j, want) ∧ dstAt ops j = some d ∧ Off (get st.env d) want) →
            runFree s inst mk stk f ntmps path ops K (List.range' (k + 1) n) { st' with env := putO st'.env o.dst (.cst undef) } = some r →
            ∃ e dl He, HE He (Cq dl (fun _ => true) (n + 1) k st.heap) ∧ K { st with env := e, heap := He } = some r ∧ (∀ t, (∀ i, k ≤ i → i < m → dstAt ops i ≠ some t) → get e t = get st.env t) ∧ ∀ i, k ≤ i → i < m → OpDone s inst stk f ntmps path ops mk st e i (dl i) (Cq dl (fun j => Nat.blt j i) (n + 1) k st.heap) := by
          intro st' hh hsl hg hgu hdo
          obtain ⟨e, dl, He, e0, eH, e1, e2, e3, e4, e5, e6⟩ := go st' (.cst undef) [] st'.heap (fun U => by rw [hh]; rfl) hh hsl hg hdo
          refine ⟨e, dl, He, eH, e1, e2, fun i h1 h2 => ?_⟩
          by_cases hik : i = k
          · subst hik
            obtain ⟨j, want, d, hgd, hd1, hd2⟩ := hgu
            obtain ⟨hjm, hjb⟩ := F.guard j want hgd
            rw [here, e0]
            exact ⟨o, ho, hd, fun _ _ h => (by cases h), .inr ⟨rfl, e4, j, want, d, hgd, hd1, by rw [e5 d j (bindsT_lt hedge0 12 _ o j (by omega) ho hjb) hd1]; exact hd2⟩⟩
          · exact e3 i (by omega) h2
        split at h
        · rename_i hg
          exact fin st rfl rfl (fun _ => rfl) (fun j want h' => by rw [hg] at h'; cases h') h
        · rename_i j want hg
          split at h
          · cases h
          · rename_i d hjd
            have hjd : dstAt ops j = some d := hjd
            split at h
            · rename_i g hgd
              obtain ⟨hjm, hjb⟩ := F.guard j want hg
              have knw : ∀ b, g = b → ∀ t, get (put st.env d (.bool b)) t = get st.env t := fun b hb t => get_known (by rw [hgd, hb]) t
              split at h
              · cases hge : g with
                | true =>
                  rw [hge] at h
                  exact fin { st with env := put st.env d (.bool true) } rfl rfl (knw true hge) (fun j' want' h' => by rw [hg] at h'; cases h'; exact ⟨d, hjd, by rw [hgd, hge]⟩) h
                | false =>
                  rw [hge] at h
                  exact skip { st with env := put st.env d (.bool false) } rfl rfl (knw false hge) ⟨j, true, d, hg, hjd, .inl (by rw [hgd, hge]; rfl)⟩ h
              · cases hge : g with
                | true =>
                  rw [hge] at h
                  exact skip { st with env := put st.env d (.bool true) } rfl rfl (knw true hge) ⟨j, false, d, hg, hjd, .inl (by rw [hgd, hge]; rfl)⟩ h
                | false =>
                  rw [hge] at h
                  exact fin { st with env := put st.env d (.bool false) } rfl rfl (knw false hge) (fun j' want' h' => by rw [hg] at h'; cases h'; exact ⟨d, hjd, by rw [hgd, hge]⟩) h
            · rename_i v hgd
              split at h
              · cases h
              · rename_i hnb
                exact skip st rfl rfl (fun _ => rfl) ⟨j, want, d, hg, hjd, .inr ⟨v, hgd, fun b hb => hnb b hb⟩⟩ h
            · cases h
theorem ready_spec {ops : Array Oper} {listed : Array Bool} {i : Nat} (h : i ∈ Region.ready .any ops listed) : i < ops.size ∧ listed.getD i true = false ∧ ∃ o, ops[i]? = some o ∧ ∀ e ∈ o.after.toList, Region.binds .any e = true → listed.getD e.on false = true := by
  unfold Region.ready at h
  simp only [List.mem_filter, List.mem_range, Bool.and_eq_true, Bool.not_eq_true'] at h
  obtain ⟨h1, h2, h3⟩ := h
  refine ⟨h1, h2, ops[i], Array.getElem?_eq_getElem h1, fun e he hb => ?_⟩
  rw [Array.getElem?_eq_getElem h1] at h3
  simp only [Option.map_some, Option.getD_some, Array.all_eq_true'] at h3
  have := h3 e (Array.mem_toList_iff.1 he)
  rw [hb] at this
  simpa using this
theorem ready_of {ops : Array Oper} {listed : Array Bool} {i : Nat} {o : Oper} (h1 : listed.getD i true = false) (ho : ops[i]? = some o) (h : ∀ e ∈ o.after.toList, Region.binds .any e = true → listed.getD e.on false = true) :
    i ∈ Region.ready .any ops listed := by
  unfold Region.ready
  have hi : i < ops.size := by
    rcases Nat.lt_or_ge i ops.size with h | h
    · exact h
    · rw [Array.getElem?_eq_none h] at ho; cases ho
  simp only [List.mem_filter, List.mem_range, Bool.and_eq_true, Bool.not_eq_true']
  refine ⟨hi, h1, ?_⟩
  rw [ho]
  simp only [Option.map_some, Option.getD_some, Array.all_eq_true']
  intro e he
  cases hb : Region.binds .any e with
  | false => rfl
  | true => simp [h e (Array.mem_toList_iff.2 he) hb]
def waits (listed : Array Bool) : Nat → Nat
  | 0 => 0
  | k + 1 => waits listed k + (match listed.getD k true with
    | true => 0
    | false => 1)
theorem getD_set (listed : Array Bool) (i k : Nat) (d : Bool) (hi : i < listed.size) : (listed.setIfInBounds i true).getD k d = if k = i then true else listed.getD k d := by
  simp only [Array.getD_eq_getD_getElem?]
  by_cases h : k = i
  · subst h; rw [if_pos rfl]; simp [hi]
  · rw [if_neg h, Array.getElem?_setIfInBounds_ne (Ne.symm h)]
theorem waits_set (listed : Array Bool) (i : Nat) (hi : i < listed.size) (hl : listed.getD i true = false) : ∀ k, waits (listed.setIfInBounds i true) k + (if i < k then 1 else 0) = waits listed k
  | 0 => by simp [waits]
  | k + 1 => by
    have ih := waits_set listed i hi hl k
    simp only [waits]
    rw [getD_set _ _ _ _ hi]
    by_cases h : k = i
    · subst h
      rw [if_pos rfl, hl]
      simp only [Nat.lt_irrefl, if_false, Nat.add_zero] at ih
      simp [ih]
    · rw [if_neg h]
      by_cases h2 : i < k
      · rw [if_pos (by omega)]; rw [if_pos h2] at ih; omega
      · rw [if_neg (by omega)]; rw [if_neg h2] at ih; omega
theorem waits_pos (listed : Array Bool) {i : Nat} (hl : listed.getD i true = false) : ∀ k, i < k → 1 ≤ waits listed k
  | 0, h => by omega
  | k + 1, h => by
    simp only [waits]
    by_cases hk : i = k
    · subst hk; rw [hl]; simp
    · have := waits_pos listed hl k (by omega); omega
theorem least {p : Nat → Prop} : ∀ i, p i → ∃ k, k ≤ i ∧ p k ∧ ∀ j, j < k → ¬ p j := by
  intro i
  induction i using Nat.strongRecOn with
  | _ i ih =>
    intro h
    by_cases hex : ∃ j, j < i ∧ p j
    · obtain ⟨j, hj, hp⟩ := hex
      obtain ⟨k, h1, h2, h3⟩ := ih j hj hp
      exact ⟨k, by omega, h2, h3⟩
    · exact ⟨i, Nat.le_refl _, h, fun j hj hp => hex ⟨j, hj, hp⟩⟩
theorem ready_least {ops : Array Oper} {listed : Array Bool} (hsz : listed.size = ops.size) (hedge : ∀ i o, ops[i]? = some o → ∀ e ∈ o.after.toList, Region.binds .any e = true → e.on < i) {i0 : Nat} (h0 : i0 < ops.size) (hl : listed.getD i0 true = false) :
    ∃ k, k ≤ i0 ∧ k ∈ Region.ready .any ops listed := by
  obtain ⟨k, h1, h2, h3⟩ := least (p := fun i => listed.getD i true = false) i0 hl
  have hk : k < ops.size := by omega
  refine ⟨k, h1, ready_of h2 (Array.getElem?_eq_getElem hk) fun e he hb => ?_⟩
  have hlt := hedge k _ (Array.getElem?_eq_getElem hk) e he hb
  have := h3 e.on hlt
  simp only [Bool.not_eq_false] at this
  have hin : e.on < listed.size := by omega
  simp only [Array.getD_eq_getD_getElem?, Array.getElem?_eq_getElem hin, Option.getD_some] at this ⊢
  exact this
theorem pick_some {l : List Nat} (t : Nat) (h : l ≠ []) : ∃ i, l[t % l.length]? = some i ∧ i ∈ l := by
  have hpos : 0 < l.length := by cases l with
    | nil => exact absurd rfl h
    | cons a l => simp
  have hlt := Nat.mod_lt t hpos
  exact ⟨l[t % l.length], List.getElem?_eq_getElem hlt, List.getElem_mem hlt⟩
theorem go_next {ops : Array Oper} {listed : Array Bool} (fuel t : Nat) {i : Nat} (h : (Region.ready .any ops listed)[t % (Region.ready .any ops listed).length]? = some i) :
    Region.linearise.go .any ops (fuel + 1) t listed [] = i :: Region.linearise.go .any ops fuel (t / (Region.ready .any ops listed).length) (listed.setIfInBounds i true) [] := by
  simp only [Region.linearise.go]
  show (match (Region.ready .any ops listed)[t % (Region.ready .any ops listed).length]? with
    | some i => Region.linearise.go .any ops fuel (t / (Region.ready .any ops listed).length) (listed.setIfInBounds i true) [i]
    | none => [].reverse) = _
  rw [h]
  simp only
  rw [linearise_go_acc]
  rfl
def Closed (ops : Array Oper) (listed : Array Bool) : Prop := ∀ i o, ops[i]? = some o → listed.getD i false = true → ∀ e ∈ o.after.toList, Region.binds .any e = true → listed.getD e.on false = true
theorem bindsT_listed {ops : Array Oper} {listed : Array Bool} (hcl : Closed ops listed) : ∀ (n : Nat) (o : Oper) (j : Nat), (∀ e ∈ o.after.toList, Region.binds .any e = true → listed.getD e.on false = true) → bindsT ops n o j = true → listed.getD j false = true := by
  have one : ∀ (o : Oper) (j : Nat), (∀ e ∈ o.after.toList, Region.binds .any e = true → listed.getD e.on false = true) → bindsOn o j = true → listed.getD j false = true := by
    intro o j h hb
    unfold bindsOn at hb
    obtain ⟨e, he, hb⟩ := List.any_eq_true.1 hb
    simp only [Bool.and_eq_true] at hb
    have := h e he hb.1
    rwa [beq_true hb.2] at this
  intro n
  induction n with
  | zero => exact fun o j h hb => one o j h hb
  | succ n ih =>
    intro o j h hb
    unfold bindsT at hb
    split at hb
    · rename_i hb'; exact one o j h hb'
    · obtain ⟨e, he, hb⟩ := List.any_eq_true.1 hb
      split at hb
      · rename_i hbe
        split at hb
        · rename_i o' ho'
          exact ih o' j (hcl e.on o' ho' (h e he hbe)) hb
        · cases hb
      · cases hb
theorem getD_setF (listed : Array Bool) (i k : Nat) (hi : i < listed.size) : (listed.setIfInBounds i true).getD k false = if k = i then true else listed.getD k false := getD_set listed i k false hi
theorem Closed.set {ops : Array Oper} {listed : Array Bool} (hcl : Closed ops listed) {i : Nat} (hi : i < listed.size) {o : Oper} (ho : ops[i]? = some o) (h : ∀ e ∈ o.after.toList, Region.binds .any e = true → listed.getD e.on false = true) :
    Closed ops (listed.setIfInBounds i true) := by
  intro k o' ho' hk e he hb
  rw [getD_setF _ _ _ hi] at hk ⊢
  by_cases hki : k = i
  · subst hki
    rw [ho] at ho'; cases ho'
    split
    · rfl
    · exact h e he hb
  · rw [if_neg hki] at hk
    split
    · rfl
    · exact hcl k o' ho' hk e he hb
theorem go_pre {ops : Array Oper} (hedge : ∀ i o, ops[i]? = some o → ∀ e ∈ o.after.toList, Region.binds .any e = true → e.on < i) :
    ∀ (n k fuel t : Nat) (listed : Array Bool), Closed ops listed → k + n ≤ ops.size → ops.size - k ≤ fuel → listed.size = ops.size → (∀ i, i < k → listed.getD i true = true) → (∀ i, k ≤ i → i < ops.size → listed.getD i true = false) →
      (∀ q, k ≤ q → q < k + n → ∀ i o, q < i → ops[i]? = some o → bnd ops o q = true) → ∃ fuel' t' listed', Region.linearise.go .any ops fuel t listed [] = List.range' k n ++ Region.linearise.go .any ops fuel' t' listed' [] ∧
        Closed ops listed' ∧ ops.size - (k + n) ≤ fuel' ∧ listed'.size = ops.size ∧ (∀ i, i < k + n → listed'.getD i true = true) ∧ (∀ i, k + n ≤ i → i < ops.size → listed'.getD i true = false) := by
  intro n
  induction n with
  | zero =>
    intro k fuel t listed hcl hk hf hsz h1 h2 h3
    exact ⟨fuel, t, listed, rfl, hcl, hf, hsz, h1, h2⟩
  | succ n ih =>
    intro k fuel t listed hcl hk hf hsz h1 h2 h3
    obtain ⟨fuel, rfl⟩ : ∃ f, fuel = f + 1 := ⟨fuel - 1, by omega⟩
    have hkl : k < ops.size := by omega
    obtain ⟨k', hk', hrk⟩ := ready_least hsz hedge hkl (h2 k (Nat.le_refl _) hkl)
    obtain ⟨i, hi, him⟩ := pick_some t (l := Region.ready .any ops listed) (by intro h; rw [h] at hrk; cases hrk)
    have hik : i = k := by
      obtain ⟨q1, q2, o, q3, q4⟩ := ready_spec him
      rcases Nat.lt_trichotomy i k with h | h | h
      · rw [h1 i h] at q2; cases q2
      · exact h
      · have hb := h3 k (Nat.le_refl _) (by omega) i o h q3
        have := bindsT_listed hcl 12 o k q4 hb
        have h2k := h2 k (Nat.le_refl _) hkl
        simp only [Array.getD_eq_getD_getElem?, Array.getElem?_eq_getElem (show k < listed.size by omega), Option.getD_some] at this h2k
        rw [this] at h2k; cases h2k
    subst hik
    rw [go_next fuel t hi, List.range'_succ]
    obtain ⟨q1, q2, o, q3, q4⟩ := ready_spec him
    obtain ⟨f', t', l', e1, e2, e3, e4, e5, e6⟩ := ih (i + 1) fuel (t / (Region.ready .any ops listed).length) (listed.setIfInBounds i true) (hcl.set (by omega) q3 q4) (by omega) (by omega) (by simp [hsz]) (fun j hj => by
      rw [getD_set _ _ _ _ (by omega)]
      by_cases h : j = i
      · rw [if_pos h]
      · rw [if_neg h]; exact h1 j (by omega)) (fun j hj1 hj2 => by
      rw [getD_set _ _ _ _ (by omega), if_neg (by omega)]
      exact h2 j (by omega) hj2) (fun q hq1 hq2 j o hj ho => h3 q (by omega) (by omega) j o hj ho)
    exact ⟨f', t', l', by rw [e1]; rfl, e2, by omega, e4, fun j hj => e5 j (by omega), fun j hj1 hj2 => e6 j (by omega) hj2⟩
theorem go_tail {ops : Array Oper} (hedge : ∀ i o, ops[i]? = some o → ∀ e ∈ o.after.toList, Region.binds .any e = true → e.on < i) :
    ∀ (n k fuel t : Nat) (listed : Array Bool), Closed ops listed → k + n = ops.size → n ≤ fuel → listed.size = ops.size → (∀ i, i < k → listed.getD i true = true) → (∀ i, k ≤ i → i < ops.size → listed.getD i true = false) →
      (∀ i o, k ≤ i → ops[i]? = some o → ∀ j, j < i → bnd ops o j = true) → Region.linearise.go .any ops fuel t listed [] = List.range' k n := by
  intro n
  induction n with
  | zero =>
    intro k fuel t listed hcl hk hf hsz h1 h2 h3
    have hnil : Region.ready .any ops listed = [] := by
      cases hr : Region.ready .any ops listed with
      | nil => rfl
      | cons a l =>
        obtain ⟨q1, q2, _⟩ := ready_spec (ops := ops) (listed := listed) (i := a) (by rw [hr]; simp)
        rw [h1 a (by omega)] at q2; cases q2
    cases fuel with
    | zero => rfl
    | succ fuel =>
      simp only [Region.linearise.go]
      show (match (Region.ready .any ops listed)[t % (Region.ready .any ops listed).length]? with
        | some i => Region.linearise.go .any ops fuel (t / (Region.ready .any ops listed).length) (listed.setIfInBounds i true) [i]
        | none => [].reverse) = _
      rw [hnil]; rfl
  | succ n ih =>
    intro k fuel t listed hcl hk hf hsz h1 h2 h3
    obtain ⟨fuel, rfl⟩ : ∃ f, fuel = f + 1 := ⟨fuel - 1, by omega⟩
    have hkl : k < ops.size := by omega
    obtain ⟨k', hk', hrk⟩ := ready_least hsz hedge hkl (h2 k (Nat.le_refl _) hkl)
    obtain ⟨i, hi, him⟩ := pick_some t (l := Region.ready .any ops listed) (by intro h; rw [h] at hrk; cases hrk)
    have hik : i = k := by
      obtain ⟨q1, q2, o, q3, q4⟩ := ready_spec him
      rcases Nat.lt_trichotomy i k with h | h | h
      · rw [h1 i h] at q2; cases q2
      · exact h
      · have hb := h3 i o (by omega) q3 k h
        have := bindsT_listed hcl 12 o k q4 hb
        have h2k := h2 k (Nat.le_refl _) hkl
        simp only [Array.getD_eq_getD_getElem?, Array.getElem?_eq_getElem (show k < listed.size by omega), Option.getD_some] at this h2k
        rw [this] at h2k; cases h2k
    subst hik
    rw [go_next fuel t hi, List.range'_succ]
    congr 1
    obtain ⟨q1, q2, o, q3, q4⟩ := ready_spec him
    refine ih (i + 1) fuel _ _ (hcl.set (by omega) q3 q4) (by omega) (by omega) (by simp [hsz]) (fun j hj => ?_) (fun j hj1 hj2 => ?_) (fun j o hj ho l hl => h3 j o (by omega) ho l hl)
    · rw [getD_set _ _ _ _ (by omega)]
      by_cases h : j = i
      · rw [if_pos h]
      · rw [if_neg h]; exact h1 j (by omega)
    · rw [getD_set _ _ _ _ (by omega), if_neg (by omega)]
      exact h2 j (by omega) hj2
theorem go_swap {ops : Array Oper} (hedge : ∀ i o, ops[i]? = some o → ∀ e ∈ o.after.toList, Region.binds .any e = true → e.on < i) {m k : Nat} (hmk : m ≤ k) (hks : k + 2 ≤ ops.size)
    (hb : ∀ i o, m ≤ i → ops[i]? = some o → ∀ j, j < i → i ≠ k + 1 ∨ j < k → bnd ops o j = true) (fuel t : Nat) (listed : Array Bool) (hcl : Closed ops listed) (hf : ops.size - m ≤ fuel) (hsz : listed.size = ops.size) (h1 : ∀ i, i < m → listed.getD i true = true) (h2 : ∀ i, m ≤ i → i < ops.size → listed.getD i true = false) :
    Region.linearise.go .any ops fuel t listed [] = List.range' m (ops.size - m) ∨ Region.linearise.go .any ops fuel t listed [] = swapL m k ops.size := by
  obtain ⟨fuel, t, listed, e1, hcl, hf, hsz, h1, h2⟩ := go_pre hedge (k - m) m fuel t listed hcl (by omega) hf hsz h1 h2 fun q hq1 hq2 i o hi ho => hb i o (by omega) ho q hi (.inr (by omega))
  have hmk' : m + (k - m) = k := by omega
  rw [hmk'] at hf h1 h2
  obtain ⟨fuel, rfl⟩ : ∃ f, fuel = f + 2 := ⟨fuel - 2, by omega⟩
  have hkl : k < ops.size := by omega
  obtain ⟨k', hk', hrk⟩ := ready_least hsz hedge hkl (h2 k (Nat.le_refl _) hkl)
  obtain ⟨i, hi, him⟩ := pick_some t (l := Region.ready .any ops listed) (by intro h; rw [h] at hrk; cases hrk)
  obtain ⟨q1, q2, o, q3, q4⟩ := ready_spec him
  have tl : ∀ (fuel t : Nat) (listed : Array Bool), Closed ops listed → ops.size - (k + 2) ≤ fuel → listed.size = ops.size → (∀ i, i < k + 2 → listed.getD i true = true) → (∀ i, k + 2 ≤ i → i < ops.size → listed.getD i true = false) → Region.linearise.go .any ops fuel t listed [] = List.range' (k + 2) (ops.size - (k + 2)) :=
    fun fuel t listed a b c d e => go_tail hedge (ops.size - (k + 2)) (k + 2) fuel t listed a (by omega) b c d e fun i o hi ho j hj => hb i o (by omega) ho j hj (.inl (by omega))
  have asF : ∀ (l : Array Bool) (j : Nat), j < l.size → l.getD j false = l.getD j true := fun l j hj => by
    simp only [Array.getD_eq_getD_getElem?, Array.getElem?_eq_getElem hj, Option.getD_some]
  have waitsK : ∀ j oj, k + 2 ≤ j → ops[j]? = some oj → ∀ (l : Array Bool), Closed ops l → l.size = ops.size → (∀ e ∈ oj.after.toList, Region.binds .any e = true → l.getD e.on false = true) → l.getD k true = true ∧ l.getD (k + 1) true = true := fun j oj hj hoj l hl hs hw => by
    have a := bindsT_listed hl 12 oj k hw (hb j oj (by omega) hoj k (by omega) (.inl (by omega)))
    have b := bindsT_listed hl 12 oj (k + 1) hw (hb j oj (by omega) hoj (k + 1) (by omega) (.inl (by omega)))
    rw [asF l k (by omega)] at a
    rw [asF l (k + 1) (by omega)] at b
    exact ⟨a, b⟩
  have hik : i = k ∨ i = k + 1 := by
    rcases Nat.lt_or_ge i k with h | h
    · rw [h1 i h] at q2; cases q2
    · rcases Nat.lt_or_ge i (k + 2) with h' | h'
      · omega
      · have := (waitsK i o h' q3 listed hcl hsz q4).1
        rw [h2 k (Nat.le_refl _) hkl] at this; cases this
  have both : ∀ a b, (a = k ∧ b = k + 1) ∨ (a = k + 1 ∧ b = k) → i = a → Region.linearise.go .any ops (fuel + 2) t listed [] = a :: b :: List.range' (k + 2) (ops.size - (k + 2)) := by
    intro a b hab hia
    subst hia
    rw [go_next (fuel + 1) t hi]
    have hcl2 := hcl.set (by omega) q3 q4
    have hsz2 : (listed.setIfInBounds i true).size = ops.size := by simp [hsz]
    have hbf : (listed.setIfInBounds i true).getD b true = false := by
      rw [getD_set _ _ _ _ (by omega), if_neg (by omega)]
      exact h2 b (by omega) (by omega)
    generalize hl2 : listed.setIfInBounds i true = l2 at hcl2 hsz2 hbf
    obtain ⟨k2, hk2, hrk2⟩ := ready_least hsz2 hedge (show b < ops.size by omega) hbf
    obtain ⟨i2, hi2, him2⟩ := pick_some (t / (Region.ready .any ops listed).length) (l := Region.ready .any ops l2) (by intro h; rw [h] at hrk2; cases hrk2)
    obtain ⟨r1, r2, o2, r3, r4⟩ := ready_spec him2
    have l2g : ∀ j, l2.getD j true = if j = i then true else listed.getD j true := fun j => by rw [← hl2, getD_set _ _ _ _ (by omega)]
    have hib : i2 = b := by
      rcases Nat.lt_or_ge i2 (k + 2) with h' | h'
      · rcases Nat.lt_or_ge i2 k with h | h
        · rw [l2g, h1 i2 h] at r2; simp at r2
        · by_cases he : i2 = i
          · rw [l2g, if_pos he] at r2; cases r2
          · omega
      · have := waitsK i2 o2 h' r3 l2 hcl2 hsz2 r4
        rcases hab with ⟨_, hb'⟩ | ⟨_, hb'⟩
        · rw [hb', this.2] at hbf; cases hbf
        · rw [hb', this.1] at hbf; cases hbf
    subst hib
    rw [go_next fuel _ hi2]
    congr 2
    refine tl _ _ _ (hcl2.set (by omega) r3 r4) (by omega) (by simp [hsz2]) (fun j hj => ?_) (fun j hj1 hj2 => ?_)
    · rw [getD_set _ _ _ _ (by omega), l2g]
      by_cases ha : j = i2
      · rw [if_pos ha]
      · rw [if_neg ha]
        by_cases hc : j = i
        · rw [if_pos hc]
        · rw [if_neg hc]; exact h1 j (by omega)
    · rw [getD_set _ _ _ _ (by omega), l2g, if_neg (by omega), if_neg (by omega)]
      exact h2 j (by omega) hj2
  rw [e1]
  rcases hik with hik | hik
  · left
    rw [both k (k + 1) (.inl ⟨rfl, rfl⟩) hik]
    have : ops.size - m = (k - m) + (2 + (ops.size - (k + 2))) := by omega
    rw [this, ← List.range'_append_1, hmk', ← List.range'_append_1]
    rfl
  · right
    rw [both (k + 1) k (.inr ⟨rfl, rfl⟩) hik]
    rfl
def masked (ops : Array Oper) (listed : Array Bool) (m t : Nat) : Bool := (List.range m).any fun j => !listed.getD j true && decide (dstAt ops j = some t)
def mask (ops : Array Oper) (listed : Array Bool) (e : Env) (m : Nat) : Env := e.map fun q => (q.1, match masked ops listed m q.1 with
  | true => .undef
  | false => q.2)
theorem get_mask0 (ops : Array Oper) (listed : Array Bool) (e : Env) (t m : Nat) : get (mask ops listed e m) t = match masked ops listed m t with
  | true => .undef
  | false => get e t := by
  induction e with
  | nil => simp only [mask, List.map_nil, get]; split <;> rfl
  | cons q e ih =>
    simp only [mask, List.map_cons, get] at ih ⊢
    split
    · rename_i hq
      have := beq_true hq
      subst this; rfl
    · exact ih
theorem masked_false {ops : Array Oper} {listed : Array Bool} {m t : Nat} : masked ops listed m t = false ↔ ∀ i, i < m → listed.getD i true = false → dstAt ops i ≠ some t := by
  unfold masked
  rw [List.any_eq_false]
  constructor
  · intro h i hi hl hd
    have := h i (List.mem_range.2 hi)
    rw [hl, hd] at this
    simp at this
  · intro h i hi
    have := h i (List.mem_range.1 hi)
    cases hl : listed.getD i true with
    | true => simp
    | false => simp [this hl]
theorem get_mask (ops : Array Oper) (listed : Array Bool) (e : Env) (t k : Nat) : get (mask ops listed e k) t = .undef ∨ (get (mask ops listed e k) t = get e t ∧ ∀ i, i < k → listed.getD i true = false → dstAt ops i ≠ some t) := by
  rw [get_mask0]
  cases h : masked ops listed k t with
  | true => exact .inl rfl
  | false => exact .inr ⟨rfl, masked_false.1 h⟩
theorem get_mask_on (ops : Array Oper) (listed : Array Bool) (e : Env) (t k : Nat) (h : ∀ i, i < k → listed.getD i true = false → dstAt ops i ≠ some t) : get (mask ops listed e k) t = get e t := by
  rw [get_mask0, masked_false.2 h]
theorem app_toks {T : Nat} : ∀ (d : Eff) (h : Heap), T ∈ heapToks (app d h) → T ∈ heapToks h ∨ ∃ U b, (U, some b) ∈ d ∧ (T = U ∨ T ∈ blkToks b)
  | [], _, hT => .inl hT
  | (U, none) :: d, h, hT => by
    rcases app_toks d (hdel h U) hT with h1 | ⟨V, c, h1, h2⟩
    · exact .inl (heapToks_del h1)
    · exact .inr ⟨V, c, List.mem_cons_of_mem _ h1, h2⟩
  | (U, some b) :: d, h, hT => by
    rcases app_toks d (hput h U b) hT with h1 | ⟨V, c, h1, h2⟩
    · rcases heapToks_hput h1 with h | h | h
      · exact .inl h
      · exact .inr ⟨U, b, List.mem_cons_self .., .inl h⟩
      · exact .inr ⟨U, b, List.mem_cons_self .., .inr h⟩
    · exact .inr ⟨V, c, List.mem_cons_of_mem _ h1, h2⟩
theorem Cq_toks {dl : Nat → Eff} {p : Nat → Bool} {T : Nat} : ∀ (n k : Nat) (h : Heap), T ∈ heapToks (Cq dl p n k h) → T ∈ heapToks h ∨ ∃ j, k ≤ j ∧ j < k + n ∧ p j = true ∧ ∃ U b, (U, some b) ∈ dl j ∧ (T = U ∨ T ∈ blkToks b)
  | 0, _, _, hT => .inl hT
  | n + 1, k, h, hT => by
    simp only [Cq] at hT
    rcases Cq_toks n (k + 1) _ hT with h1 | ⟨j, h1, h2, h3⟩
    · cases hp : p k with
      | false => rw [hp] at h1; exact .inl h1
      | true =>
        rw [hp] at h1
        rcases app_toks _ _ h1 with h | ⟨U, b, h2, h3⟩
        · exact .inl h
        · exact .inr ⟨k, Nat.le_refl _, by omega, hp, U, b, h2, h3⟩
    · exact .inr ⟨j, by omega, by omega, h3⟩
end
section
variable (hC : CtxOk P C) {s : Sm C} (hS : SpecOk P s) (hG : StageOk P s) {inst : Nat} {r : den (tyL (C.rts inst))} {w0 : World} {fz0 : Lay} (hfz0 : LayOk w0 fz0) (hinv : ∀ w', Bel fz0.own w0 w' → C.inv w')
variable {f : Nat} {xt : Xt} {fn : Func} {body : Code} (hfn : C.fn f = some fn) (hbody : fn.body = some body)
theorem SR.env_ext {x : Cx} {nt : Nat} {st : St} {a : Act} {w : World} {e' : Env} (h : SR x w0 fz0 nt st a w) (he : ∀ t, get e' t = .undef ∨ get e' t = get st.env t) : SR x w0 fz0 nt { st with env := e' } a w :=
  ⟨h.hp, h.H, fun t => by
    rcases he t with h' | h'
    · show RV x (get e' t) _; rw [h']; exact .undef _
    · show RV x (get e' t) _; rw [h']; exact h.env t, h.size, h.defers, h.hr, h.fz, h.bel, h.new⟩
theorem SR.und {x : Cx} {nt : Nat} {st : St} {a : Act} {w : World} {e e' : Env} (h : SR x w0 fz0 nt { st with env := e' } a w) (hu : Und e' e st.heap) : SR x w0 fz0 nt { st with env := e } a w :=
  have env : ∀ t, RV x (get e t) (a.tmps.getD t undef) := fun t => by
    have hv := h.env t
    simp only at hv
    rcases hu t with h' | ⟨T, f, ty, n, h1, h2, h3⟩
    · rw [← h']; exact hv
    · rw [h2] at hv
      rw [h1]
      generalize a.tmps.getD t undef = v at hv
      cases hv with
      | husk _ _ a' cap =>
        refine .who T f a' n cap fun t' l ha => ?_
        exfalso
        unfold AF at ha
        rw [show x.H = st.heap from h.H, h3] at ha
        rcases ha with ha | ha
        · cases ha
        · cases ha
  ⟨h.hp, h.H, env, h.size, h.defers, h.hr, h.fz, h.bel, h.new⟩
theorem heap_ext {x : Cx} {nt f0 : Nat} {f : Nat} {st : St} {a : Act} {w : World} {stk : List Fr} {fs : List Frame} {h : Heap} (hR : SR x w0 fz0 nt st a w) (hF : FrsR C f0 fz0 x stk fs f xt) (hh : ∀ U, hget h U = hget st.heap U) :
    ∃ x', SR x' w0 fz0 nt { st with heap := h } a w ∧ FrsR C f0 fz0 x' stk fs f xt := by
  let x' : Cx := { x with H := h }
  have hx : ∀ U, hget x'.H U = hget x.H U := fun U => by rw [hR.H]; exact hh U
  have E : Ext x x' (fun _ => True) := ⟨fun _ hb => ⟨hb, rfl⟩, .refl _, fun T _ t l' ha => ⟨l', by unfold AF at ha ⊢; rwa [hx] at ha, rfl, rfl⟩, fun T _ cs' ha => ⟨cs', by rwa [hx] at ha, rfl⟩, fun _ => rfl⟩
  have hr := hR.hr
  refine ⟨x', ⟨hR.hp, rfl, hR.env.mono E fun _ _ => trivial, hR.size, hR.defers, ⟨fun tok b hb => ?_, fun t1 t2 b o1 o2 => ?_, hr.size⟩, hR.fz, hR.bel, hR.new⟩, hF.mono E fun _ _ => trivial⟩
  · rw [hx] at hb
    have := hr.blk tok b hb
    cases b with
    | arr t l => exact this
    | fro t l => exact this
    | box cs =>
      obtain ⟨b, c, e, fr, h1, h2, h3, h4, h5, h6, h7⟩ := this
      exact ⟨b, c, e, fr, h1, h2, h3, h4, h5, h6, RVL.mono E h7 fun _ _ => trivial⟩
  · refine hr.inj t1 t2 b ?_ ?_
    · unfold Owns at o1 ⊢; simp only [hx] at o1; exact o1
    · unfold Owns at o2 ⊢; simp only [hx] at o2; exact o2
include hC hS hG hfz0 hinv hfn hbody in
theorem free_any {path : Path} {id : Nat} {ops : Array Oper} {draw : Bool} {stk : List Fr} {fs : List Frame} {K : St → Option (den (tyL (C.rts inst)))} (hat : codeAt body path = some (.region id ops draw)) (hrd : rnd body path = xt.1.isSome)
    (hK : ∀ st x a w, K st = some r → SR x w0 fz0 fn.ntmps st a w → FrsR C (C.fid inst) fz0 x stk fs f xt → FinS P C w0 fz0 inst r (mk xt f a (ctxOf body path)) fs w)
    {m : Nat} (hm : m ≤ ops.size) (hok : ∀ i, i < ops.size → freeOk ops m i = true)  (htl : ∀ i o, m ≤ i → ops[i]? = some o → ∀ j, j < m → bnd ops o j = true) {st : St} {e : Env} {dl : Nat → Eff} {mkb : Bool} (hmk : ∀ i o, i < m → ops[i]? = some o → maker (C := C) inst o = true → mkb = true)
    (hdone : ∀ i, i < m → OpDone s inst stk f fn.ntmps path ops mkb st e i (dl i) (Cq dl (fun j => Nat.blt j i) m 0 st.heap)) (hend : endOk (C := C) inst ops m st.salt e = true) (hfrs : mkb = true → freshEnd (C := C) inst ops m stk st.salt st.heap e = true) {He : Heap} (hHe : HE He (Cq dl (fun _ => true) m 0 st.heap))
    (hfin : ∀ (fuel t : Nat) (listed : Array Bool), Closed ops listed → ops.size - m ≤ fuel → listed.size = ops.size → (∀ i, i < m → listed.getD i true = true) → (∀ i, m ≤ i → i < ops.size → listed.getD i true = false) →
      ∃ l, Region.linearise.go .any ops fuel t listed [] = l ∧ runOps s inst stk f fn.ntmps path ops K l { st with env := e, heap := He } = some r) :
    ∀ (fuel t : Nat) (listed : Array Bool) (x : Cx) (a : Act) (w : World), Closed ops listed → listed.size = ops.size → (∀ i, m ≤ i → i < ops.size → listed.getD i true = false) → waits listed ops.size ≤ fuel →
      SR x w0 fz0 fn.ntmps { st with env := mask ops listed e m, heap := Cq dl (fun j => listed.getD j false) m 0 st.heap } a w → FrsR C (C.fid inst) fz0 x stk fs f xt → FinS P C w0 fz0 inst r (mk xt f a (.inRegion ops (Region.linearise.go .any ops fuel t listed []) :: ctxOf body path)) fs w := by
  have hedge : ∀ i o, ops[i]? = some o → ∀ e ∈ o.after.toList, Region.binds .any e = true → e.on < i := by
    intro i o ho
    have hi : i < ops.size := by
      rcases Nat.lt_or_ge i ops.size with h | h
      · exact h
      · rw [Array.getElem?_eq_none h] at ho; cases ho
    exact freeOk_edge (hok i hi) ho
  have getF : ∀ (listed : Array Bool) (j : Nat), listed.getD j true = false → listed.getD j false = false := fun listed j h => by
    simp only [Array.getD_eq_getD_getElem?] at h ⊢
    cases hx : listed[j]? with
    | none => rfl
    | some y => rw [hx] at h; simpa using h
  have allq : ∀ listed : Array Bool, (∀ i, i < m → listed.getD i true = true) → listed.size = ops.size → Cq dl (fun j => listed.getD j false) m 0 st.heap = Cq dl (fun _ => true) m 0 st.heap := by
    intro listed h hsz
    refine Cq_congr m 0 _ fun j _ hj => ⟨rfl, fun _ => ?_⟩
    have := h j (by omega)
    simp only [Array.getD_eq_getD_getElem?, Array.getElem?_eq_getElem (show j < listed.size by omega), Option.getD_some] at this ⊢
    exact this
  intro fuel
  induction fuel with
  | zero =>
    intro t listed x a w hcl hsz hl hw hR hF
    have hall : ∀ i, i < ops.size → listed.getD i true = true := fun i hi => by
      cases h : listed.getD i true with
      | true => rfl
      | false => have := waits_pos listed h ops.size hi; omega
    have hn : ops.size = m := by
      rcases Nat.lt_or_ge m ops.size with h | h
      · have h1 := hl m (Nat.le_refl _) h; rw [hall m h] at h1; cases h1
      · omega
    obtain ⟨l, hgo, hrun⟩ := hfin 0 t listed hcl (by omega) hsz (fun i hi => hall i (by omega)) hl
    have hgo : l = [] := hgo.symm
    subst hgo
    rw [allq listed (fun i hi => hall i (by omega)) hsz] at hR
    obtain ⟨x2, hR2, hF2⟩ := heap_ext hR hF (h := He) hHe
    refine Fin.of_step (fun cs => k_region_end) (hK _ x2 a w hrun (SR.env_ext (st := { st with env := mask ops listed e m, heap := He }) hR2 (e' := e) fun t => .inr ?_) hF2)
    exact (get_mask_on ops listed e t m fun i hi h => by rw [hall i (by omega)] at h; cases h).symm
  | succ fuel ih =>
    intro t listed x a w hcl hsz hl hw hR hF
    by_cases hex : ∃ i, i < m ∧ listed.getD i true = false
    · obtain ⟨i0, hi0, hl0⟩ := hex
      obtain ⟨k', _, hrk⟩ := ready_least hsz hedge (show i0 < ops.size by omega) hl0
      obtain ⟨i, hi, him⟩ := pick_some t (l := Region.ready .any ops listed) (by intro h; rw [h] at hrk; cases hrk)
      obtain ⟨q1, q2, o, q3, q4⟩ := ready_spec him
      have lst : ∀ j, bnd ops o j = true → listed.getD j true = true := by
        intro j hb
        have := bindsT_listed hcl 12 o j q4 hb
        rcases Nat.lt_or_ge j listed.size with h | h
        · simp only [Array.getD_eq_getD_getElem?, Array.getElem?_eq_getElem h, Option.getD_some] at this ⊢
          exact this
        · simp only [Array.getD_eq_getD_getElem?, Array.getElem?_eq_none h, Option.getD_none] at this; cases this
      have him : i < m := by
        rcases Nat.lt_or_ge i m with h | h
        · exact h
        · have := lst i0 (htl i o h q3 i0 hi0)
          rw [hl0] at this; cases this
      have F := freeOk_at (hok i q1) q3 him
      have hdi : dstAt ops i = o.dst := by simp [dstAt, q3]
      rw [go_next fuel t hi]
      obtain ⟨o', ho', hd, hst, hcase⟩ := hdone i him
      rw [q3] at ho'; cases ho'
      have q2' := getF listed i q2
      have isoff : ∀ (o : Oper) (j : Nat) (want : Bool) (d : Nat), o.guard = some (j, want) → dstAt ops j = some d → get e d = .bool want → offAt ops e o = false := by
        intro o j want d h1 h2 h3
        unfold offAt
        rw [h1]
        simp only [h2, h3]
        cases want <;> rfl
      have noff : ∀ o : Oper, o.guard = none → offAt ops e o = false := fun o h => by unfold offAt; rw [h]
      have stores : ∀ j, j < m → ∀ T b, (T, b) ∈ dl j → j ≠ i → light o.op = false → offAt ops e o = false → (j < i ∧ listed.getD j false = true) ∨ (i < j ∧ listed.getD j false = false) ∨ (T ∉ looksAt o.op e ∧ ∀ mk b, ¬ Writes C inst st.salt mk o e T b) := by
        intro j hj T b hdj hne hli hof
        obtain ⟨oj, hoj, _, hstj, hcj⟩ := hdone j hj
        obtain ⟨_, hs2, _⟩ := hstj T b hdj
        have hoffj : offAt ops e oj = false := by
          rcases hcj with ⟨_, _, _, hgu⟩ | ⟨hn, _⟩
          · cases hg : oj.guard with
            | none => exact noff oj hg
            | some p =>
              obtain ⟨j', want⟩ := p
              obtain ⟨d, hd1, hd2⟩ := hgu j' want hg
              exact isoff oj j' want d hg hd1 hd2
          · rw [hn] at hdj; cases hdj
        have h1 := List.all_eq_true.1 hend j (List.mem_range.2 hj)
        rw [hoj] at h1
        replace h1 := (Bool.and_eq_true_iff.1 h1).1
        have hs1 : ((wToks (C := C) inst oj e).isEmpty && !maker (C := C) inst oj) = false := by
          rcases hs2 with hs2 | ⟨hs2, _⟩
          · cases hw : wToks (C := C) inst oj e with
            | nil => rw [hw] at hs2; cases hs2
            | cons _ _ => rfl
          · rw [hs2]; simp
        simp only [storeEnd, hs1, hoffj] at h1
        have h2 := List.all_eq_true.1 h1 i (List.mem_range.2 him)
        rw [q3] at h2
        simp only [pairOk, beq_ne (Ne.symm hne), hli, Bool.or_false] at h2
        split at h2
        rotate_left
        · rename_i hor0
          have hor := h2
          rw [Bool.or_eq_true, Bool.and_eq_true, Bool.and_eq_true] at hor
          rcases hor with ⟨h3, h4⟩ | ⟨h3, h4⟩
          · refine .inr (.inl ⟨Nat.lt_of_succ_le (Nat.le_of_ble_eq_true h3), ?_⟩)
            cases hl' : listed.getD j false with
            | false => rfl
            | true =>
              have := bindsT_listed hcl 12 oj i (hcl j oj hoj hl') h4
              rw [q2'] at this; cases this
          · refine .inl ⟨Nat.lt_of_succ_le (Nat.le_of_ble_eq_true h3), ?_⟩
            have := lst j h4
            simp only [Array.getD_eq_getD_getElem?, Array.getElem?_eq_getElem (show j < listed.size by omega), Option.getD_some] at this ⊢
            exact this
        · rename_i hap
          rw [hof, Bool.false_or] at hap
          unfold apart at hap
          rw [Bool.and_eq_true] at hap
          obtain ⟨p1, p2⟩ := hap
          have nIn : ∀ tok U : Nat, notIn tok U = true → ¬ (tok ≤ U ∧ U < tok + 16) := fun tok U h hh => by
            unfold notIn at h
            rw [Bool.or_eq_true] at h
            rcases h with h | h
            · have := Nat.lt_of_succ_le (Nat.le_of_ble_eq_true h); omega
            · have := Nat.le_of_ble_eq_true h; omega
          have dis : ∀ x y U : Nat, disj x y = true → x ≤ U → U < x + 16 → ¬ (y ≤ U ∧ U < y + 16) := fun x y U h h1 h2 hh => by
            unfold disj at h
            rw [Bool.or_eq_true] at h
            rcases h with h | h
            · have := Nat.le_of_ble_eq_true h; omega
            · have := Nat.le_of_ble_eq_true h; omega
          refine .inr (.inr ?_)
          rcases hs2 with hs2 | ⟨hs2, hs3, hs4⟩
          · have p := List.all_eq_true.1 p1 T hs2
            simp only [Bool.and_eq_true, Bool.not_eq_true'] at p
            have nl : T ∉ looksAt o.op e := fun hT => by
              have := p.1
              rw [List.elem_eq_mem, decide_eq_false_iff_not] at this
              exact this hT
            refine ⟨nl, fun mk b hw => ?_⟩
            rcases hw.2.1 with hw | ⟨hw, hw2⟩
            · exact nl (wToks_looks hw)
            · have := p.2
              rw [hw] at this
              simp only [Bool.not_true, Bool.false_or] at this
              exact nIn _ _ this hw2
          · rw [hs2] at p2
            simp only [Bool.not_true, Bool.false_or, Bool.and_eq_true] at p2
            have nl : T ∉ looksAt o.op e := fun hT => nIn _ _ (List.all_eq_true.1 p2.1 T hT) ⟨hs3, hs4⟩
            refine ⟨nl, fun mk b hw => ?_⟩
            rcases hw.2.1 with hw | ⟨hw, hw2⟩
            · exact nl (wToks_looks hw)
            · have := p2.2
              rw [hw] at this
              simp only [Bool.not_true, Bool.false_or] at this
              exact dis _ _ T this hs3 hs4 hw2
      have side : ∀ j, (j < i ∧ listed.getD j false = true) ∨ (i < j ∧ listed.getD j false = false) → listed.getD j false = Nat.blt j i := by
        intro j h
        rcases h with ⟨h1, h2⟩ | ⟨h1, h2⟩
        · rw [h2]; exact (Nat.ble_eq_true_of_le h1 : Nat.blt j i = true).symm
        · rw [h2]
          cases hb : Nat.blt j i with
          | false => rfl
          | true => have := Nat.le_of_ble_eq_true hb; omega
      have bltii : Nat.blt i i = false := by
        cases hb : Nat.blt i i with
        | false => rfl
        | true => have := Nat.le_of_ble_eq_true hb; omega
      have heq : offAt ops e o = false → light o.op = false → SameAt C inst o e (Cq dl (fun j => listed.getD j false) m 0 st.heap) (Cq dl (fun j => Nat.blt j i) m 0 st.heap) := by
        intro hof hli
        refine ⟨fun T' hT' => ?_, fun hw U => ?_⟩
        · refine Cq_get m 0 _ _ rfl fun j _ hj b hb => ?_
          by_cases hji : j = i
          · subst hji; rw [q2', bltii]
          · rcases stores j (by omega) T' b hb hji hli hof with h | h | ⟨h1, _⟩
            · exact side j (.inl h)
            · exact side j (.inr h)
            · exact absurd hT' h1
        · have h1 := List.all_eq_true.1 hend i (List.mem_range.2 him)
          rw [q3] at h1
          have h2 := (Bool.and_eq_true_iff.1 h1).2
          rw [hw] at h2
          have nil : ∀ j, j < m → dl j = [] := fun j hj => by
            obtain ⟨oj, hoj, _, hstj, _⟩ := hdone j hj
            cases hd : dl j with
            | nil => rfl
            | cons p _ =>
              obtain ⟨T, b⟩ := p
              obtain ⟨_, hs2, _⟩ := hstj T b (by rw [hd]; exact List.mem_cons_self)
              have h3 := List.all_eq_true.1 h2 j (List.mem_range.2 hj)
              rw [hoj] at h3
              obtain ⟨h3, h4⟩ := Bool.and_eq_true_iff.1 h3
              rcases hs2 with hs2 | ⟨hs2, _⟩
              · rw [List.isEmpty_iff.1 h3] at hs2; cases hs2
              · rw [hs2] at h4; cases h4
          rw [Cq_none m 0 _ (fun j _ hj h => absurd (nil j (by omega)) h), Cq_none m 0 _ (fun j _ hj h => absurd (nil j (by omega)) h)]
      have more : offAt ops e o = false ∨ dl i = [] → ∀ U, hget (app (dl i) (Cq dl (fun j => listed.getD j false) m 0 st.heap)) U = hget (Cq dl (fun j => (listed.setIfInBounds i true).getD j false) m 0 st.heap) U := by
        intro hof U
        refine Cq_more (i := i) q2' (fun j => ?_) m 0 _ (Nat.zero_le _) (by omega) (fun T b hdi j hij b' hdj => ?_) U
        · rw [getD_setF _ _ _ (by omega)]
          by_cases hji : j = i
          · subst hji; rw [if_pos rfl, beq_self]; simp
          · rw [if_neg hji, beq_ne hji]; simp
        · rcases hof with hof | hof
          · have hw := hst T b hdi
            have hli : light o.op = false := hw.1
            rcases Nat.lt_or_ge j m with hjm | hjm
            · rcases stores j hjm T b' hdj (by omega) hli hof with ⟨h1, _⟩ | ⟨_, h2⟩ | ⟨_, h2⟩
              · omega
              · exact h2
              · exact absurd hw (h2 _ _)
            · cases hs2 : Nat.blt j ops.size with
              | true => exact getF listed j (hl j hjm (Nat.lt_of_succ_le (Nat.le_of_ble_eq_true hs2)))
              | false =>
                have : ¬ j < ops.size := fun h => by rw [show Nat.blt j ops.size = true from Nat.ble_eq_true_of_le h] at hs2; cases hs2
                simp only [Array.getD_eq_getD_getElem?, Array.getElem?_eq_none (show listed.size ≤ j by omega), Option.getD_none]
          · rw [hof] at hdi; cases hdi
      have next : ∀ (x' : Cx) (a' : Act) (w' : World) (v : AV) (H' : Heap), HE H' (app (dl i) (Cq dl (fun j => listed.getD j false) m 0 st.heap)) → SR x' w0 fz0 fn.ntmps { st with env := putO (mask ops listed e m) o.dst v, heap := H' } a' w' → (∀ d, o.dst = some d → get e d = v) → (offAt ops e o = false ∨ dl i = []) → FrsR C (C.fid inst) fz0 x' stk fs f xt →
          FinS P C w0 fz0 inst r (mk xt f a' (.inRegion ops (Region.linearise.go .any ops fuel (t / (Region.ready .any ops listed).length) (listed.setIfInBounds i true) []) :: ctxOf body path)) fs w' := by
        intro x0 a' w' v H' hH' hR0 hv hof hF0
        obtain ⟨x', hR', hF'⟩ := heap_ext hR0 hF0 (h := Cq dl (fun j => (listed.setIfInBounds i true).getD j false) m 0 st.heap) fun U => ((hH' U).trans (more hof U)).symm
        refine ih _ (listed.setIfInBounds i true) x' a' w' (hcl.set (by omega) q3 q4) (by simp [hsz]) (fun j h1 h2 => ?_) ?_ (SR.env_ext (st := { st with env := putO (mask ops listed e m) o.dst v, heap := Cq dl (fun j => (listed.setIfInBounds i true).getD j false) m 0 st.heap }) hR' (e' := mask ops (listed.setIfInBounds i true) e m) fun u => ?_) hF'
        · rw [getD_set _ _ _ _ (by omega), if_neg (by omega)]; exact hl j h1 h2
        · have := waits_set listed i (by omega) q2 ops.size
          rw [if_pos q1] at this; omega
        · show _ = _ ∨ _ = get (putO (mask ops listed e m) o.dst v) u
          rw [get_putO]
          rcases get_mask ops (listed.setIfInBounds i true) e u m with h | ⟨h1, h2⟩
          · exact .inl h
          · refine .inr ?_
            rw [h1]
            by_cases hd : o.dst = some u
            · rw [if_pos hd]; exact hv u hd
            · rw [if_neg hd]
              refine (get_mask_on ops listed e u m fun j hj hlj => ?_).symm
              by_cases hji : j = i
              · subst hji; rw [hdi]; exact hd
              · exact h2 j hj (by rw [getD_set _ _ _ _ (by omega), if_neg hji]; exact hlj)
      have seen : ∀ t j, j < m → bnd ops o j = true → dstAt ops j = some t → get (mask ops listed e m) t = get e t := by
        intro t j hj hb hd
        refine get_mask_on ops listed e t m fun i' hi' hl' hd' => ?_
        by_cases h : i' = j
        · subst h; rw [lst i' hb] at hl'; cases hl'
        · obtain ⟨oj, hoj⟩ : ∃ oj, ops[j]? = some oj := ⟨ops[j], Array.getElem?_eq_getElem (by omega)⟩
          have Fj := freeOk_at (hok j (by omega)) hoj hj
          exact Fj.dst t (by simpa [dstAt, hoj] using hd) i' hi' h hd'
      have looks : ∀ y ∈ reads o.op, ev (mask ops listed e m) y = ev e y := by
        intro y hy
        refine ev_get fun t ht => ?_
        subst ht
        by_cases hexj : ∃ j, j < m ∧ dstAt ops j = some t
        · obtain ⟨j, hj, hd⟩ := hexj
          exact seen t j hj (F.sees t hy j hj hd) hd
        · exact get_mask_on ops listed e t m fun i' hi' _ hd' => hexj ⟨i', hi', hd'⟩
      have gval : ∀ j want b, o.guard = some (j, want) → (∃ d, dstAt ops j = some d ∧ get e d = .bool b) → yielded ops a.tmps j = some b := by
        rintro j want b hg ⟨d, hjd, hgd⟩
        obtain ⟨hjm, hjb⟩ := F.guard j want hg
        have hv := hR.env d
        have : get (mask ops listed e m) d = .bool b := (seen d j hjm hjb hjd).trans hgd
        simp only at hv
        rw [this] at hv
        generalize hve : a.tmps.getD d undef = gv at hv
        cases hv with
        | bool _ =>
        have hlt : d < a.tmps.size := by
          rcases Nat.lt_or_ge d a.tmps.size with h' | h'
          · exact h'
          · rw [Array.getD_eq_getD_getElem?, Array.getElem?_eq_none h'] at hve; simp [undef] at hve
        unfold yielded
        have hjd : (ops[j]?).bind (·.dst) = some d := hjd
        rw [hjd]
        have : a.tmps[d]? = some (.bool b) := by
          rw [Array.getD_eq_getD_getElem?, Array.getElem?_eq_getElem hlt] at hve
          rw [Array.getElem?_eq_getElem hlt]
          simpa using hve
        simp [this]
      rcases hcase with ⟨v, hv, hdo, hgu⟩ | ⟨hdn, hund, j, want, d, hg, hjd, hgd⟩
      · have hwant : Region.wanted o (yielded ops a.tmps) = true := by
          cases hg : o.guard with
          | none => simp [Region.wanted, hg]
          | some p =>
            obtain ⟨j, want⟩ := p
            simp [Region.wanted, hg, gval j want want hg (hgu j want hg)]
        have hof : offAt ops e o = false := by
          cases hg : o.guard with
          | none => exact noff o hg
          | some p =>
            obtain ⟨j', want⟩ := p
            obtain ⟨d, hd1, hd2⟩ := hgu j' want hg
            exact isoff o j' want d hg hd1 hd2
        have fresh : maker (C := C) inst o = true → freshAt stk { st with env := mask ops listed e m, heap := Cq dl (fun j => listed.getD j false) m 0 st.heap } (baseOf st.salt o) = true := by
          intro hmo
          have h0 := List.all_eq_true.1 (hfrs (hmk i o him q3 hmo)) i (List.mem_range.2 him)
          rw [q3] at h0
          simp only [hmo, hof, Bool.false_or] at h0
          generalize baseOf st.salt o = tok at h0 ⊢
          unfold freshOne at h0
          simp only [Bool.and_eq_true] at h0
          obtain ⟨hE, hH, hS', hW⟩ := h0
          have waits_no : ∀ (j : Nat) (oj : Oper), ops[j]? = some oj → bnd ops oj i = true → listed.getD j false = false := by
            intro j oj hoj hb
            cases hl' : listed.getD j false with
            | false => rfl
            | true =>
              have := bindsT_listed hcl 12 oj i (hcl j oj hoj hl') hb
              rw [q2'] at this; cases this
          have notT : ∀ j, j < m → listed.getD j false = false → listed.getD j true = false := fun j hj hl' => by
            have hjs : j < listed.size := by omega
            simp only [Array.getD_eq_getD_getElem?, Array.getElem?_eq_getElem hjs, Option.getD_some] at hl' ⊢
            exact hl'
          have toList : ∀ l : List Nat, (∀ T ∈ l, notIn tok T = true) → l.all (fun T => Nat.blt T tok || Nat.ble (tok + 16) T) = true := fun l h => List.all_eq_true.2 fun T hT => h T hT
          unfold freshAt
          simp only [Bool.and_eq_true]
          refine ⟨toList _ fun T hT => ?_, toList _ fun T hT => ?_, hS'⟩
          · unfold envToks mask at hT
            simp only [List.mem_flatMap, List.mem_map] at hT
            obtain ⟨_, ⟨q, hq, rfl⟩, hT⟩ := hT
            cases hmq : masked ops listed m q.1 with
            | true => rw [hmq] at hT; cases hT
            | false =>
              rw [hmq] at hT
              have := List.all_eq_true.1 hE q hq
              rw [Bool.or_eq_true] at this
              rcases this with hw | hw
              · exfalso
                obtain ⟨j, hj, hw⟩ := List.any_eq_true.1 hw
                have hj := List.mem_range.1 hj
                cases hoj : ops[j]? with
                | none => rw [hoj] at hw; cases hw
                | some oj =>
                  rw [hoj] at hw
                  simp only [Bool.and_eq_true, Bool.or_eq_true] at hw
                  obtain ⟨w1, w2⟩ := hw
                  have hd : dstAt ops j = some q.1 := by
                    cases hdj : oj.dst with
                    | none => rw [hdj] at w1; cases w1
                    | some d => rw [hdj] at w1; simp [dstAt, hoj, hdj, beq_true w1]
                  have hl' : listed.getD j false = false := by
                    rcases w2 with w2 | w2
                    · rw [beq_true w2]; exact q2'
                    · exact waits_no j oj hoj w2
                  exact masked_false.1 hmq j hj (notT j hj hl') hd
              · exact List.all_eq_true.1 hw T hT
          · rcases Cq_toks m 0 _ hT with h | ⟨j, _, hj, hp, U, b, hdj, hU⟩
            · exact List.all_eq_true.1 hH T h
            · have hj : j < m := by omega
              obtain ⟨oj, hoj, _, hwj, hcj⟩ := hdone j hj
              obtain ⟨w1, w2, w4⟩ := hwj U b hdj
              have hoffj : offAt ops e oj = false := by
                rcases hcj with ⟨_, _, _, hgu⟩ | ⟨hn, _⟩
                · cases hg : oj.guard with
                  | none => exact noff oj hg
                  | some p =>
                    obtain ⟨j', want⟩ := p
                    obtain ⟨d, hd1, hd2⟩ := hgu j' want hg
                    exact isoff oj j' want d hg hd1 hd2
                · rw [hn] at hdj; cases hdj
              have hb := w4 (hmk i o him q3 hmo) b rfl
              have hTU : T = U := by
                rcases hU with h | h
                · exact h
                · rw [hb] at h; cases h
              subst hTU
              have := List.all_eq_true.1 hW j (List.mem_range.2 hj)
              rw [hoj] at this
              simp only [hoffj, Bool.false_or, Bool.or_eq_true, Bool.and_eq_true] at this
              rcases this with h | h | ⟨h, h'⟩
              · rw [beq_true h, q2'] at hp; cases hp
              · rw [waits_no j oj hoj h] at hp; cases hp
              · rcases w2 with w2 | ⟨w2, w3, w5⟩
                · exact List.all_eq_true.1 h T w2
                · rcases h' with h' | h'
                  · rw [w2] at h'; cases h'
                  · unfold disj at h'
                    show notIn tok T = true
                    unfold notIn
                    rw [Bool.or_eq_true] at h' ⊢
                    rcases h' with h' | h'
                    · have := Nat.le_of_ble_eq_true h'
                      exact .inr (Nat.ble_eq_true_of_le (by omega))
                    · have := Nat.le_of_ble_eq_true h'
                      exact .inl (Nat.ble_eq_true_of_le (by omega))
        have hdec : ∀ q : Prop, Decidable q := fun q => Classical.propDecidable q
        obtain ⟨H', e'', hH', hU', hdo'⟩ := hdo (Region.linearise.go .any ops fuel (t / (Region.ready .any ops listed).length) (listed.setIfInBounds i true) []) _ _ looks (heq hof) fresh
        let tgt : St := { st with env := e'', heap := H' }
        let K' : St → Option (den (tyL (C.rts inst))) := fun st' => @ite _ (st' = tgt) (hdec _) (some r) none
        have hK1 : K' tgt = some r := @if_pos (tgt = tgt) (hdec _) rfl _ (some r) none
        refine doOp_sound hC hS hG hfz0 hinv hfn hbody hat hrd q3 hd (K := K') (fun st' x' a' w' hk hR' hF' => ?_) ((hdo' K').trans hK1) hR hF hwant
        have hst : st' = tgt := by
          simp only [K'] at hk
          by_cases h : st' = tgt
          · exact h
          · rw [if_neg h] at hk; cases hk
        subst hst
        exact next x' a' w' v H' hH' (SR.und (st := { st with env := e'', heap := H' }) hR' hU') hv (.inl hof) hF'
      · have hwn : Region.wanted o (yielded ops a.tmps) = false := by
          rcases hgd with hgd | ⟨u, hgd, hnb⟩
          · simp [Region.wanted, hg, gval j want (!want) hg ⟨d, hjd, hgd⟩]
          · obtain ⟨hjm, hjb⟩ := F.guard j want hg
            have := yielded_none (ops := ops) hR.env hjd ((seen d j hjm hjb hjd).trans hgd) hnb
            simp [Region.wanted, hg, this]
        refine Fin.of_step (fun cs => step_skipped q3 hwn) ?_
        exact next x _ w (.cst undef) (Cq dl (fun j => listed.getD j false) m 0 st.heap) (fun U => by rw [hdn]; rfl) ⟨hR.hp, hR.H, putO_env hR.env (.cst _) (fun t ht => by rw [hR.size]; exact hd t ht), by rw [put_size]; exact hR.size, by rw [put_defers]; exact hR.defers, hR.hr, hR.fz, hR.bel, hR.new⟩ hund (.inr hdn) hF
    · have hall : ∀ i, i < m → listed.getD i true = true := fun i hi => by
        cases h : listed.getD i true with
        | true => rfl
        | false => exact absurd ⟨i, hi, h⟩ hex
      have hfu : ops.size - m ≤ fuel + 1 := by
        have : ∀ k, m ≤ k → k ≤ ops.size → k - m ≤ waits listed k := by
          intro k
          induction k with
          | zero => intro _ _; omega
          | succ k ihk =>
            intro h1 h2
            simp only [waits]
            by_cases hmk : m ≤ k
            · have := ihk hmk (by omega)
              rw [hl k hmk (by omega)]
              simp only; omega
            · omega
        have := this ops.size hm (Nat.le_refl _); omega
      obtain ⟨l, hgo, hrun⟩ := hfin (fuel + 1) t listed hcl hfu hsz hall hl
      rw [hgo]
      rw [allq listed hall hsz] at hR
      obtain ⟨x2, hR2, hF2⟩ := heap_ext hR hF (h := He) hHe
      refine runOps_sound hC hS hG hfz0 hinv hfn hbody hat hrd hK _ { st with env := e, heap := He } x2 a w hrun (SR.env_ext (st := { st with env := mask ops listed e m, heap := He }) hR2 (e' := e) fun t => .inr ?_) hF2
      exact (get_mask_on ops listed e t m fun i hi h => by rw [hall i hi] at h; cases h).symm
include hC hS hG hfz0 hinv hfn hbody in
theorem runRegion_sound {path : Path} {id : Nat} {ops : Array Oper} {draw : Bool} {stk : List Fr} {fs : List Frame} {K : St → Option (den (tyL (C.rts inst)))}
    (hat : codeAt body path = some (.region id ops draw)) (hrd : rnd body path = xt.1.isSome)
    (hK : ∀ st x a w, K st = some r → SR x w0 fz0 fn.ntmps st a w → FrsR C (C.fid inst) fz0 x stk fs f xt → FinS P C w0 fz0 inst r (mk xt f a (ctxOf body path)) fs w)
    {st : St} {x : Cx} {a : Act} {w : World} (h : runRegion s inst stk f fn.ntmps path ops draw K st = some r) (hR : SR x w0 fz0 fn.ntmps st a w) (hF : FrsR C (C.fid inst) fz0 x stk fs f xt) :
    FinS P C w0 fz0 inst r (mk xt f a (.code (.region id ops draw) :: ctxOf body path)) fs w := by
  unfold runRegion at h
  split at h
  · exact Fin.of_step (fun cs => k_region) (runOps_sound hC hS hG hfz0 hinv hfn hbody hat hrd hK _ st x a w h hR hF)
  ·
    have core : ∀ (m : Nat) (B : St → Option (den (tyL (C.rts inst)))), m ≤ ops.size → (∀ i, i < ops.size → freeOk ops m i = true) → (∀ i o, m ≤ i → ops[i]? = some o → ∀ j, j < m → bnd ops o j = true) →
        (∀ st', B st' = some r → ∀ (fuel t : Nat) (listed : Array Bool), Closed ops listed → ops.size - m ≤ fuel → listed.size = ops.size → (∀ i, i < m → listed.getD i true = true) → (∀ i, m ≤ i → i < ops.size → listed.getD i true = false) →
          ∃ l, Region.linearise.go .any ops fuel t listed [] = l ∧ runOps s inst stk f fn.ntmps path ops K l st' = some r) →
        runFree s inst (mkAny (C := C) inst ops m) stk f fn.ntmps path ops (fun st' => match forceN st'.salt fun sl => endOk (C := C) inst ops m sl st'.env && (!mkAny (C := C) inst ops m || freshEnd (C := C) inst ops m stk sl st.heap st'.env) with
          | true => B st'
          | false => none) (List.range m) st = some r →
        FinS P C w0 fz0 inst r (mk xt f a (.code (.region id ops true) :: ctxOf body path)) fs w := by
      intro m B hm hok htl hB h
      rw [List.range_eq_range'] at h
      obtain ⟨e, dl, He, hHe, h1, h2, h3⟩ := free_trace (fun i hi => hok i (by omega)) m 0 st (by omega) h
      simp only [forceN_eq] at h1
      have hboth : (endOk (C := C) inst ops m st.salt e && (!mkAny (C := C) inst ops m || freshEnd (C := C) inst ops m stk st.salt st.heap e)) = true := by
        cases he : endOk (C := C) inst ops m st.salt e && (!mkAny (C := C) inst ops m || freshEnd (C := C) inst ops m stk st.salt st.heap e) with
        | true => rfl
        | false => simp only [he] at h1; cases h1
      simp only [hboth] at h1
      rw [Bool.and_eq_true] at hboth
      obtain ⟨hend, hfr⟩ := hboth
      have hfrs : mkAny (C := C) inst ops m = true → freshEnd (C := C) inst ops m stk st.salt st.heap e = true := fun h => by rw [h] at hfr; simpa using hfr
      have hmk : ∀ i o, i < m → ops[i]? = some o → maker (C := C) inst o = true → mkAny (C := C) inst ops m = true := fun i o hi ho hm => List.any_eq_true.2 ⟨i, List.mem_range.2 hi, by rw [ho]; exact hm⟩
      refine Fin.of_step (fs' := fs) (w' := { w with drawn := w.drawn + 1 }) (fun cs => k_region_draw) ?_
      simp only [Region.schedule, hC.mixed, Bool.true_or, if_true, Region.linearise]
      refine free_any hC hS hG hfz0 hinv hfn hbody hat hrd hK hm hok htl hmk (fun i hi => h3 i (by omega) hi) hend hfrs hHe (hB _ h1) ops.size _ (Array.replicate ops.size false) x a _ (fun i o _ hi => by simp [Array.getD] at hi) (by simp) (fun i h1 h2 => by simp [Array.getD, h2]) ?_ ?_ hF
      · have : ∀ k, waits (Array.replicate ops.size false) k ≤ k := by
          intro k
          induction k with
          | zero => simp [waits]
          | succ k ih => simp only [waits]; split <;> omega
        exact this _
      · have hR' : SR x w0 fz0 fn.ntmps st a { w with drawn := w.drawn + 1 } := ⟨hR.hp, hR.H, hR.env, hR.size, hR.defers, hR.hr, hR.fz, ⟨hR.bel.os, hR.bel.tape, hR.bel.output, hR.bel.size, hR.bel.block, hR.bel.sizes⟩, hR.new⟩
        rw [show Cq dl (fun j => (Array.replicate ops.size false).getD j false) m 0 st.heap = st.heap from Cq_none _ _ _ fun j _ _ _ => by
          simp only [Array.getD_eq_getD_getElem?, Array.getElem?_replicate]
          split <;> rfl]
        refine hR'.env_ext fun t => ?_
        rcases get_mask ops (Array.replicate ops.size false) e t m with h' | ⟨h4, h5⟩
        · exact .inl h'
        · refine .inr (h4.trans (h2 t fun i _ hi => h5 i hi ?_))
          simp [Array.getD, show i < ops.size by omega]
    have hlt : ∀ i o, ops[i]? = some o → i < ops.size := fun i o ho => by
      rcases Nat.lt_or_ge i ops.size with h | h
      · exact h
      · rw [Array.getElem?_eq_none h] at ho; cases ho
    have nblt : ∀ {i m : Nat}, m ≤ i → Nat.blt i m = false := fun {i m} h => by
      cases hb : Nat.blt i m with
      | false => rfl
      | true => have := Nat.lt_of_succ_le (Nat.le_of_ble_eq_true hb); omega
    simp only at h
    split at h
    · split at h
      · rename_i hdr
        generalize freeCount ops ops.size = m at h hdr
        unfold drawOk at hdr
        simp only [Bool.and_eq_true, List.all_eq_true, List.mem_range] at hdr
        obtain ⟨hm, hok, htl⟩ := hdr
        have hm := Nat.le_of_ble_eq_true hm
        have htl : ∀ i o, m ≤ i → ops[i]? = some o → ∀ j, j < i → bnd ops o j = true := by
          intro i o hi ho j hj
          have := htl i (hlt i o ho)
          rw [ho, nblt hi] at this
          simp only [Bool.false_or, List.all_eq_true, List.mem_range] at this
          exact this j hj
        refine core m _ hm hok (fun i o hi ho j hj => htl i o hi ho j (by omega)) (fun st' hr fuel t listed a b c d e => ⟨_, go_tail ?_ (ops.size - m) m fuel t listed a (by omega) b c d e htl, hr⟩) h
        exact fun i o ho => freeOk_edge (hok i (hlt i o ho)) ho
      · cases h
    · rename_i k hsw
      split at h
      · rename_i hdr
        generalize freeCount ops k = m at h hdr
        unfold drawOk2 at hdr
        simp only [Bool.and_eq_true, List.all_eq_true, List.mem_range] at hdr
        obtain ⟨hmk, hks, hok, htl⟩ := hdr
        have hmk := Nat.le_of_ble_eq_true hmk
        have hks := Nat.le_of_ble_eq_true hks
        have htl : ∀ i o, m ≤ i → ops[i]? = some o → ∀ j, j < i → i ≠ k + 1 ∨ j < k → bnd ops o j = true := by
          intro i o hi ho j hj hor
          have := htl i (hlt i o ho)
          rw [ho, nblt hi] at this
          simp only [Bool.false_or] at this
          cases hb : Nat.beq i (k + 1) with
          | true =>
            rw [hb] at this
            simp only [List.all_eq_true, List.mem_range] at this
            have hik := beq_true hb
            exact this j (by omega)
          | false =>
            rw [hb] at this
            simp only [List.all_eq_true, List.mem_range] at this
            exact this j hj
        refine core m _ (by omega) hok (fun i o hi ho j hj => htl i o hi ho j (by omega) (.inr (by omega))) (fun st' hr fuel t listed a b c d e => ?_) h
        have hr2 : runOps s inst stk f fn.ntmps path ops K (List.range' m (ops.size - m)) st' = some r ∧ runOps s inst stk f fn.ntmps path ops K (swapL m k ops.size) st' = some r := by
          unfold eqOr at hr
          split at hr
          · rename_i heq; exact ⟨hr, by rw [← heq]; exact hr⟩
          · cases hr
        rcases go_swap (fun i o ho => freeOk_edge (hok i (hlt i o ho)) ho) hmk hks htl fuel t listed a b c d e with hg | hg
        · exact ⟨_, hg, hr2.1⟩
        · exact ⟨_, hg, hr2.2⟩
      · cases h
def FinE (P : Program) (C : Ctx) (w0 : World) (fz0 : Lay) (inst : Nat) (r : den (tyL (C.rts inst))) (xt : Xt) (f : Nat) (fs : List Frame) (td : List Item) (a : Act) (w : World) : Ex → Prop
  | .normal => FinS P C w0 fz0 inst r (mk xt f a td) fs w
  | .ret => ∀ td0, FinS P C w0 fz0 inst r (mk xt f a (.code .ret :: td0)) fs w
  | .exit id => ∀ td0, exitTo id td0 = exitTo id td → FinS P C w0 fz0 inst r (mk xt f a (.code (.exit id) :: td0)) fs w
  | .goto l => ∀ td0, gotoIn l td0 = gotoIn l td → FinS P C w0 fz0 inst r (mk xt f a (.code (.goto l) :: td0)) fs w
end
end
end Go.Proofs.YtpdfjgooaaailaaGreatDoor.K
namespace Go.Proofs.YtpdfjgooaaailaaGreatDoor.K
open Go
open Go.RowKit (Below)
section
variable {P : Program} {C : Ctx} {x : Cx} {n0 : Nat → Prop} {w : World}
theorem hget_append (n h : Heap) (t : Nat) : hget (n ++ h) t = match hget n t with
    | some b => some b
    | none => hget h t := by
  induction n with
  | nil => rfl
  | cons p n ih =>
    obtain ⟨u, b⟩ := p
    simp only [List.cons_append, hget]
    split
    · rfl
    · exact ih
theorem hget_blank (h : Heap) (t : Nat) : hget (blank h) t = (hget h t).map fun
    | .box cs => .box (cs.map fun _ => .undef)
    | b => b := by
  induction h with
  | nil => rfl
  | cons p h ih =>
    obtain ⟨u, b⟩ := p
    simp only [blank, hget]
    split
    · cases b <;> rfl
    · exact ih
theorem undefs_RVL (x : Cx) : ∀ (cs : List AV) (vs : List Value), cs.length = vs.length → RVL x (cs.map fun _ => .undef) vs
  | [], [], _ => .nil
  | c :: cs, v :: vs, h => .cons _ _ _ _ (.undef v) (undefs_RVL x cs vs (by simpa using h))
  | [], _ :: _, h => by simp at h
  | _ :: _, [], h => by simp at h
theorem retell {x : Cx} (hr : HR x n0) (hp : x.hp = w.heap) {H' : Heap} (h : ∀ T b, hget H' T = some b → hget x.H T = some b ∨ ∃ cs cs' B c e fr, b = .box cs' ∧ hget x.H T = some (.box cs) ∧ x.m T = some (B, 0) ∧
    x.hp[B]? = some (Obj.cells c e fr) ∧ RVL x cs' c.toList) : NxS x { x with H := H' } n0 (fun _ => True) w w := by
  have E : Ext x { x with H := H' } (fun _ => True) := by
    refine ⟨fun _ h => ⟨h, rfl⟩, .refl _, fun T _ t l ha => ?_, fun T _ cs' ha => ?_, fun _ => rfl⟩
    · rcases ha with ha | ha
      · rcases h T _ ha with h1 | ⟨cs, cs', B, c, e, fr, h1, _⟩
        · exact ⟨l, .inl h1, rfl, rfl⟩
        · cases h1
      · rcases h T _ ha with h1 | ⟨cs, cs', B, c, e, fr, h1, _⟩
        · exact ⟨l, .inr h1, rfl, rfl⟩
        · cases h1
    · rcases h T _ ha with h1 | ⟨cs, cs'', B, c, e, fr, h1, h2, _⟩
      · exact ⟨cs', h1, rfl⟩
      · exact ⟨cs, h2, rfl⟩
  refine ⟨E, ⟨fun T b hb => ?_, fun t1 t2 B h1 h2 => ?_, hr.size⟩, fun b h => .inl h, .refl _ _, hp⟩
  · rcases h T b hb with h1 | ⟨cs, cs', B, c, e, fr, rfl, h2, h3, h4, h5⟩
    · have := hr.blk T b h1
      cases b with
      | arr t l => exact this
      | fro t l => exact this
      | box cs =>
        obtain ⟨B, c, e, fr, k1, k2, k3, k4, k5, k6, k7⟩ := this
        exact ⟨B, c, e, fr, k1, k2, k3, k4, k5, k6, RVL.mono E k7 fun _ _ => trivial⟩
    · obtain ⟨B', c', e', fr', k1, k2, k3, k4, k5, k6, k7⟩ := hr.blk T _ h2
      rw [h3] at k1; cases k1
      rw [h4] at k2
      simp only [Option.some.injEq, Obj.cells.injEq] at k2
      obtain ⟨rfl, rfl, rfl⟩ := k2
      exact ⟨B, c, e, fr, h3, h4, k3, k4, k5, k6, RVL.mono E h5 fun _ _ => trivial⟩
  · have back : ∀ T, Owns { x with H := H' } T B → Owns x T B := by
      rintro T ⟨ho, hk⟩
      refine ⟨ho, ?_⟩
      rcases hk with ⟨t, l, hk⟩ | ⟨cs, hk⟩
      · rcases h T _ hk with h1 | ⟨cs, cs', B', c, e, fr, h1, _⟩
        · exact .inl ⟨t, l, h1⟩
        · cases h1
      · rcases h T _ hk with h1 | ⟨cs, cs', B', c, e, fr, h1, h2, _⟩
        · exact .inr ⟨_, h1⟩
        · exact .inr ⟨_, h2⟩
    exact hr.inj t1 t2 B (back t1 h1) (back t2 h2)
theorem blank_next {x : Cx} (hr : HR x n0) (hp : x.hp = w.heap) : NxS x { x with H := blank x.H } n0 (fun _ => True) w w := by
  refine retell hr hp fun T b hb => ?_
  rw [hget_blank] at hb
  cases hg : hget x.H T with
  | none => simp [hg] at hb
  | some b0 =>
    simp only [hg, Option.map_some, Option.some.injEq] at hb
    cases b0 with
    | arr t l => simp only at hb; subst hb; exact .inl rfl
    | fro t l => simp only at hb; subst hb; exact .inl rfl
    | box cs =>
      simp only at hb; subst hb
      obtain ⟨B, c, e, fr, k1, k2, k3, k4, k5, k6, k7⟩ := hr.blk T _ hg
      exact .inr ⟨cs, _, B, c, e, fr, rfl, rfl, k1, k2, undefs_RVL x cs _ k7.length⟩
def Blank (H : Heap) : Prop := ∀ T cs, hget H T = some (.box cs) → ∀ c ∈ cs, c = .undef
theorem toksL_undef {cs : List AV} (h : ∀ c ∈ cs, c = .undef) : toksL cs = [] := by
  induction cs with
  | nil => rfl
  | cons c cs ih =>
    have h1 := h c (by simp)
    subst h1
    have := ih fun c hc => h c (by simp [hc])
    simp [toksL, toks, this]
theorem ren_next {x : Cx} (hr : HR x n0) (hp : x.hp = w.heap) (hbl : Blank x.H) {T : Nat} {loc : Option (Nat × Nat)} {t : Ty} {l' : List (den t)} {H' : Heap} (hT : hget H' T = some (.arr t l'))
    (hsrc : (l' = [] ∧ loc = none) ∨ ∃ tok l k, hget x.H tok = some (.arr t l) ∧ loc = x.m tok ∧ l' = l.take k ∧ (tok = T ∨ hget H' tok = none))
    (hoth : ∀ u b, u ≠ T → hget H' u = some b → hget x.H u = some b) :
    NxS x { x with m := fun u => if u = T then loc else x.m u, H := H' } n0 (fun u => u ≠ T) w w := by
  have E : Ext x { x with m := fun u => if u = T then loc else x.m u, H := H' } (fun u => u ≠ T) := by
    refine ⟨fun _ h => ⟨h, rfl⟩, .refl _, fun u hu t l ha => ?_, fun u hu cs ha => ?_, fun _ => rfl⟩
    · refine ⟨l, ?_, rfl, by simp [hu]⟩
      rcases ha with ha | ha
      · exact .inl (hoth u _ hu ha)
      · exact .inr (hoth u _ hu ha)
    · exact ⟨cs, hoth u _ hu ha, by simp [hu]⟩
  refine ⟨E, ⟨fun u b hb => ?_, fun t1 t2 B h1 h2 => ?_, hr.size⟩, fun b h => .inl h, .refl _ _, hp⟩
  · by_cases hu : u = T
    · subst hu
      rw [hT] at hb
      simp only [Option.some.injEq] at hb; subst hb
      rcases hsrc with ⟨h1, h2⟩ | ⟨tok, l, k, h1, h2, h3, _⟩
      · exact .inl ⟨h1, by simp [h2]⟩
      · rcases hr.blk _ _ h1 with ⟨g1, g2⟩ | ⟨B, o, c, e, fr, g1, g2, g3, g4, g5, g6, g7⟩
        · exact .inl ⟨by rw [h3, g1]; simp, by simp [h2, g2]⟩
        · refine .inr ⟨B, o, c, e, fr, by simp [h2, g1], g2, g3, g4, g5, ?_, fun i hi => ?_⟩
          · have : l'.length * csz t ≤ l.length * csz t := Nat.mul_le_mul_right _ (by rw [h3]; simp; omega)
            omega
          · have hi' : i < l.length := by rw [h3] at hi; simp at hi; omega
            have := g7 i hi'
            have e1 : l'[i] = l[i] := by subst h3; simp
            rw [e1]; exact this
    · have h0 := hr.blk u b (hoth u b hu hb)
      cases b with
      | arr t0 l0 =>
        rcases h0 with ⟨g1, g2⟩ | ⟨B, o, c, e, fr, g1, g2⟩
        · exact .inl ⟨g1, by simp [hu, g2]⟩
        · exact .inr ⟨B, o, c, e, fr, by simp [hu, g1], g2⟩
      | fro t0 l0 =>
        rcases h0 with ⟨g1, g2⟩ | ⟨B, o, c, e, fr, g1, g2⟩
        · exact .inl ⟨g1, by simp [hu, g2]⟩
        · exact .inr ⟨B, o, c, e, fr, by simp [hu, g1], g2⟩
      | box cs =>
        obtain ⟨B, c, e, fr, k1, k2, k3, k4, k5, k6, k7⟩ := h0
        refine ⟨B, c, e, fr, by simp [hu, k1], k2, k3, k4, k5, k6, RVL.mono E k7 fun q hq => ?_⟩
        rw [toksL_undef (hbl u cs (hoth u _ hu hb))] at hq; cases hq
  · have back : ∀ u, Owns { x with m := fun u => if u = T then loc else x.m u, H := H' } u B → ∃ v, Owns x v B ∧ ((u ≠ T ∧ v = u) ∨ (u = T ∧ (v = T ∨ hget H' v = none))) := by
      rintro u ⟨⟨o, ho⟩, hk⟩
      by_cases hu : u = T
      · subst hu
        simp only [if_true] at ho
        rcases hsrc with ⟨_, h2⟩ | ⟨tok, l, k, h1, h2, h3, h4⟩
        · rw [h2] at ho; cases ho
        · exact ⟨tok, ⟨⟨o, by rw [← h2]; exact ho⟩, .inl ⟨t, l, h1⟩⟩, .inr ⟨rfl, h4⟩⟩
      · simp only [if_neg hu] at ho
        refine ⟨u, ⟨⟨o, ho⟩, ?_⟩, .inl ⟨hu, rfl⟩⟩
        rcases hk with ⟨t', l, hk⟩ | ⟨cs, hk⟩
        · exact .inl ⟨t', l, hoth u _ hu hk⟩
        · exact .inr ⟨cs, hoth u _ hu hk⟩
    obtain ⟨v1, o1, c1⟩ := back t1 h1
    obtain ⟨v2, o2, c2⟩ := back t2 h2
    have hv := hr.inj v1 v2 B o1 o2
    subst hv
    rcases c1 with ⟨a1, a2⟩ | ⟨a1, a2⟩ <;> rcases c2 with ⟨b1, b2⟩ | ⟨b1, b2⟩
    · rw [← a2, ← b2]
    · exfalso
      subst a2
      rcases b2 with b2 | b2
      · exact a1 b2
      · obtain ⟨_, hk⟩ := h1
        rcases hk with ⟨t', l, hk⟩ | ⟨cs, hk⟩ <;> simp only at hk <;> rw [b2] at hk <;> cases hk
    · exfalso
      subst b2
      rcases a2 with a2 | a2
      · exact b1 a2
      · obtain ⟨_, hk⟩ := h2
        rcases hk with ⟨t', l, hk⟩ | ⟨cs, hk⟩ <;> simp only at hk <;> rw [a2] at hk <;> cases hk
    · rw [a1, b1]
theorem hget_mem {h : Heap} {t : Nat} {b : Blk} (k : hget h t = some b) : t ∈ h.map (·.1) := by
  induction h with
  | nil => cases k
  | cons p h ih =>
    obtain ⟨u, c⟩ := p
    simp only [hget] at k
    split at k
    · rename_i hb; simp [beq_true hb]
    · simp [ih k]
theorem hget_none {h : Heap} {t : Nat} (k : t ∉ h.map (·.1)) : hget h t = none := by
  cases hg : hget h t with
  | none => rfl
  | some b => exact absurd (hget_mem hg) k
theorem deep_congr {H H' : Heap} : ∀ (v : AV), (∀ T ∈ toks v, hget H T = hget H' T) → deep H v = deep H' v := by
  intro v h
  cases v with
  | who tok f => simp only [deep]; rw [h tok (by simp [toks])]
  | ref tok off len f => simp only [deep]; rw [h tok (by simp [toks])]
  | _ => rfl
theorem deeps_congr {H H' : Heap} : ∀ (cs : List AV), (∀ T ∈ toksL cs, hget H T = hget H' T) → cs.map (deep H) = cs.map (deep H')
  | [], _ => rfl
  | c :: cs, h => by
    simp only [List.map_cons]
    rw [deep_congr c fun T hT => h T (by simp [toksL, hT]), deeps_congr cs fun T hT => h T (by simp [toksL, hT])]
theorem toDen_congr {H H' : Heap} (t : Ty) (v : AV) (h : ∀ T ∈ toks v, hget H T = hget H' T) : toDen H t v = toDen H' t v := by
  unfold toDen
  split
  · rename_i cs hag; rw [deeps_congr cs (by simpa [toks] using h)]
  · rw [deep_congr _ h]
  · rfl
theorem freeze_append (ts : List Nat) (a b : Heap) : freeze ts (a ++ b) = freeze ts a ++ freeze ts b := by
  induction a with
  | nil => rfl
  | cons p a ih => obtain ⟨u, c⟩ := p; simp only [List.cons_append, freeze, ih]
theorem freeze_id (ts : List Nat) (a : Heap) (h : ∀ T ∈ a.map (·.1), T ∉ ts) : freeze ts a = a := by
  induction a with
  | nil => rfl
  | cons p a ih =>
    obtain ⟨u, c⟩ := p
    simp only [freeze]
    rw [ih fun T hT => h T (by simp only [List.map_cons, List.mem_cons]; exact .inr hT)]
    have : ts.elem u = false := by
      have := h u (by simp)
      simpa using this
    rw [this]
    cases c <;> rfl
def Fits (out : List Nat) : List (Shape × AV) → Prop
  | [] => True
  | (sh, v) :: l => (∀ T t, sh = .own T t → T ∉ out ∧ ∀ q ∈ l, T ∉ toks q.2) ∧ (∀ q ∈ l, ∀ T t, q.1 = .own T t → T ∉ toks v) ∧ Fits out l
theorem fitB_fits {out : List Nat} : ∀ (l pre : List (Shape × AV)), fitB out pre l = true → Fits out l ∧ ∀ p ∈ pre, ∀ q ∈ l, ∀ T t, q.1 = .own T t → T ∉ toks p.2
  | [], pre, _ => ⟨trivial, fun _ _ _ hq => by cases hq⟩
  | (sh, v) :: l, pre, h => by
    simp only [fitB, Bool.and_eq_true] at h
    obtain ⟨h1, h2⟩ := h
    obtain ⟨k1, k2⟩ := fitB_fits l ((sh, v) :: pre) h2
    have own : ∀ T t, sh = .own T t → T ∉ out ∧ ∀ q ∈ pre ++ l, T ∉ toks q.2 := by
      intro T t hs
      subst hs
      simp only [Bool.and_eq_true, Bool.not_eq_true', List.all_eq_true] at h1
      obtain ⟨a1, a2⟩ := h1
      exact ⟨by simpa using a1, fun q hq => by simpa using a2 q hq⟩
    refine ⟨⟨fun T t hs => ⟨(own T t hs).1, fun q hq => (own T t hs).2 q (by simp [hq])⟩, fun q hq T t hs => k2 (sh, v) (by simp) q hq T t hs, k1⟩, fun p hp q hq T t hs => ?_⟩
    rcases List.mem_cons.1 hq with rfl | hq
    · exact (own T t hs).2 p (by simp [hp])
    · exact k2 p (by simp [hp]) q hq T t hs
theorem canonV_keys {sh : Shape} {v v' : AV} {h h' n : Heap} (k : canonV sh v h = some (v', h', n)) : ∀ T ∈ n.map (·.1), ∃ t, sh = .own T t := by
  intro T hT
  unfold canonV at k
  split at k
  · simp only [Option.some.injEq, Prod.mk.injEq] at k; obtain ⟨_, _, rfl⟩ := k; cases hT
  · split at k
    · simp only [Option.some.injEq, Prod.mk.injEq] at k; obtain ⟨_, _, rfl⟩ := k; cases hT
    · cases k
  · split at k
    · simp only [Option.some.injEq, Prod.mk.injEq] at k; obtain ⟨_, _, rfl⟩ := k
      simp only [List.map_cons, List.map_nil, List.mem_singleton] at hT; exact ⟨_, by rw [hT]⟩
    · split at k
      · split at k
        · simp only [Option.some.injEq, Prod.mk.injEq] at k; obtain ⟨_, _, rfl⟩ := k
          simp only [List.map_cons, List.map_nil, List.mem_singleton] at hT; exact ⟨_, by rw [hT]⟩
        · cases k
      · cases k
    · split at k
      · split at k
        · simp only [Option.some.injEq, Prod.mk.injEq] at k; obtain ⟨_, _, rfl⟩ := k
          simp only [List.map_cons, List.map_nil, List.mem_singleton] at hT; exact ⟨_, by rw [hT]⟩
        · cases k
      · cases k
    · cases k
theorem canonL_keys : ∀ {sl : List (Shape × AV)} {h h' n : Heap} {vs : List AV}, canonL sl h = some (vs, h', n) → ∀ T ∈ n.map (·.1), ∃ q ∈ sl, ∃ t, q.1 = .own T t
  | [], h, h', n, vs, k => by
    simp only [canonL, Option.some.injEq, Prod.mk.injEq] at k; obtain ⟨_, _, rfl⟩ := k; intro T hT; cases hT
  | (sh, v) :: sl, h, h', n, vs, k => by
    simp only [canonL] at k
    split at k
    · rename_i v1 h1 n1 e1
      split at k
      · rename_i vs2 h2 n2 e2
        simp only [Option.some.injEq, Prod.mk.injEq] at k
        obtain ⟨_, _, rfl⟩ := k
        intro T hT
        simp only [List.map_append, List.mem_append] at hT
        rcases hT with hT | hT
        · obtain ⟨t, ht⟩ := canonV_keys e1 T hT
          exact ⟨_, List.mem_cons_self .., t, ht⟩
        · obtain ⟨q, hq, hr⟩ := canonL_keys e2 T hT
          exact ⟨q, List.mem_cons_of_mem _ hq, hr⟩
      · cases k
    · cases k
theorem canonV_box {sh : Shape} {v v' : AV} {h h' n : Heap} (k : canonV sh v h = some (v', h', n)) {T : Nat} {cs : List AV} (hb : hget h T = some (.box cs)) : hget h' T = some (.box cs) := by
  have del : ∀ tok t' (l : List (den t')), hget h tok = some (.arr t' l) → hget (hdel h tok) T = some (.box cs) := by
    intro tok t' l hl
    rw [hget_hdel]
    by_cases hT : T = tok
    · subst hT; rw [hl] at hb; cases hb
    · rw [if_neg hT]; exact hb
  unfold canonV at k
  split at k
  · simp only [Option.some.injEq, Prod.mk.injEq] at k; obtain ⟨_, rfl, _⟩ := k; exact hb
  · split at k
    · simp only [Option.some.injEq, Prod.mk.injEq] at k; obtain ⟨_, rfl, _⟩ := k
      rw [hget_freeze, hb]; rfl
    · cases k
  · split at k
    · simp only [Option.some.injEq, Prod.mk.injEq] at k; obtain ⟨_, rfl, _⟩ := k; exact hb
    · split at k
      · rename_i hl
        split at k
        · simp only [Option.some.injEq, Prod.mk.injEq] at k; obtain ⟨_, rfl, _⟩ := k; exact del _ _ _ hl
        · cases k
      · cases k
    · split at k
      · rename_i hl _
        split at k
        · simp only [Option.some.injEq, Prod.mk.injEq] at k; obtain ⟨_, rfl, _⟩ := k; exact del _ _ _ hl
        · cases k
      · cases k
    · cases k
theorem canonL_box : ∀ {sl : List (Shape × AV)} {h h' n : Heap} {vs : List AV}, canonL sl h = some (vs, h', n) → ∀ {T : Nat} {cs : List AV}, hget h T = some (.box cs) → hget h' T = some (.box cs)
  | [], h, h', n, vs, k, T, cs, hb => by
    simp only [canonL, Option.some.injEq, Prod.mk.injEq] at k; obtain ⟨_, rfl, _⟩ := k; exact hb
  | (sh, v) :: sl, h, h', n, vs, k, T, cs, hb => by
    simp only [canonL] at k
    split at k
    · rename_i v1 h1 n1 e1
      split at k
      · rename_i vs2 h2 n2 e2
        simp only [Option.some.injEq, Prod.mk.injEq] at k
        obtain ⟨_, rfl, _⟩ := k
        exact canonL_box e2 (canonV_box e1 hb)
      · cases k
    · cases k
theorem own_step {x : Cx} (hr : HR x n0) (hp : x.hp = w.heap) (hbl : Blank x.H) {acc h : Heap} (hH : x.H = acc ++ h) {T tok : Nat} {t : Ty} {l : List (den t)} {k : Nat} (hT : T ∉ acc.map (·.1)) (htok : tok ∉ acc.map (·.1))
    (hg : hget h tok = some (.arr t l)) (hk : k ≤ l.length) {v : AV} {f : Bool} {a : Option Addr} {cap : Nat} (hcap : k ≤ cap) (hpl : Place x tok t a 0 k cap) :
    ∃ x', NxS x x' n0 (fun u => u ≠ T) w w ∧ x'.H = acc ++ (T, .arr t (l.take k)) :: hdel h tok ∧ Blank x'.H ∧ RV x' (.who T false) (.slice a k cap) := by
  have hgx : hget x.H tok = some (.arr t l) := by rw [hH, hget_append, hget_none htok]; exact hg
  have hT' : hget (acc ++ (T, Blk.arr t (l.take k)) :: hdel h tok) T = some (.arr t (l.take k)) := by
    rw [hget_append, hget_none hT]; simp [hget, beq_self]
  have hoth : ∀ u b, u ≠ T → hget (acc ++ (T, Blk.arr t (l.take k)) :: hdel h tok) u = some b → hget x.H u = some b := by
    intro u b hu hb
    rw [hH, hget_append]
    rw [hget_append] at hb
    cases hga : hget acc u with
    | some b' => rw [hga] at hb; exact hb
    | none =>
      rw [hga] at hb
      simp only [hget] at hb
      rw [beq_ne (Ne.symm hu)] at hb
      simp only at hb
      rw [hget_hdel] at hb
      split at hb
      · cases hb
      · exact hb
  have N := ren_next hr hp hbl (T := T) (loc := x.m tok) (t := t) (l' := l.take k) hT' (.inr ⟨tok, l, k, hgx, rfl, rfl, by
    by_cases h' : tok = T
    · exact .inl h'
    · refine .inr ?_
      rw [hget_append, hget_none htok]
      simp only [hget]
      rw [beq_ne (Ne.symm h'), hget_hdel]
      simp⟩) hoth
  refine ⟨_, N, rfl, ?_, ?_⟩
  · intro u cs hu c hc
    by_cases h' : u = T
    · subst h'; simp only at hu; rw [hT'] at hu; cases hu
    · exact hbl u cs (hoth u _ h' hu) c hc
  · refine .who T false a k cap fun t' l' ha => ?_
    have : Blk.arr t' l' = Blk.arr t (l.take k) := by
      rcases ha with ha | ha
      · simp only at ha; rw [hT'] at ha; exact (Option.some.inj ha).symm
      · simp only at ha; rw [hT'] at ha; cases ha
    cases this
    refine ⟨by simp; omega, hcap, by simp, ?_⟩
    rcases hpl with hpl | ⟨b, o, c, e, fr, p1, p2, p3, p4⟩
    · exact .inl hpl
    · exact .inr ⟨b, o, c, e, fr, by simp [p1], p2, p3, p4⟩
theorem canonV_sound {x : Cx} (hr : HR x n0) (hp : x.hp = w.heap) (hbl : Blank x.H) {acc h h' n : Heap} (hH : x.H = acc ++ h) {sh : Shape} {v v' : AV} {u : Value} (hv : RV x v u) (k : canonV sh v h = some (v', h', n))
    (hacc : ∀ T ∈ acc.map (·.1), T ∉ toks v) (hnew : ∀ T ∈ n.map (·.1), T ∉ acc.map (·.1)) :
    ∃ x', NxS x x' n0 (fun u => u ∉ n.map (·.1)) w w ∧ x'.H = acc ++ n ++ h' ∧ Blank x'.H ∧ RV x' v' u ∧ (∀ T ∈ toks v', T ∈ n.map (·.1) ∨ (sh = .keep ∧ T ∈ toks v)) := by
  have hcg : ∀ T ∈ toks v, hget h T = hget x.H T := by
    intro T hT
    rw [hH, hget_append, hget_none fun hm => hacc T hm hT]
  unfold canonV at k
  split at k
  · simp only [Option.some.injEq, Prod.mk.injEq] at k; obtain ⟨rfl, rfl, rfl⟩ := k
    exact ⟨x, (Nx.refl hr 0 hp : NxS x x n0 _ w w) |> fun N => ⟨.refl _ _, N.hr, N.fz, N.bel, N.hp⟩, by simpa using hH, hbl, hv, fun T hT => .inr ⟨rfl, hT⟩⟩
  · rename_i t
    split at k
    · rename_i y hy
      simp only [Option.some.injEq, Prod.mk.injEq] at k; obtain ⟨rfl, rfl, rfl⟩ := k
      have NF := frz_next hr hp (tok := 0) (toks v)
      have hy' : toDen x.H t v = some y := by rw [← hy]; exact (toDen_congr t v hcg).symm
      have hd := toDen_deep hr (fz' := (frzCx x (toks v)).fz) (fun b hb => .inl hb) hv (frz_shows hr _) hy'
      refine ⟨frzCx x (toks v), ⟨frz_ext x _ _, NF.hr, NF.fz, .refl _ _, NF.hp⟩, ?_, ?_, ofDen_RV (x := frzCx x (toks v)) hd, ?_⟩
      · show freeze (toks v) x.H = _
        rw [hH, freeze_append, freeze_id _ acc hacc]; simp
      · intro T cs hT c hc
        have hT : hget (freeze (toks v) x.H) T = some (.box cs) := hT
        rw [hget_freeze] at hT
        cases hg : hget x.H T with
        | none => simp [hg] at hT
        | some b0 =>
          cases b0 with
          | box cs0 => simp [hg, frz] at hT; subst hT; exact hbl T _ hg c hc
          | arr t l => simp only [hg, Option.map_some, frz] at hT; split at hT <;> cases hT
          | fro t l => simp [hg, frz] at hT
      · intro T hT; rw [toks_ofDen] at hT; cases hT
    · cases k
  · rename_i T t
    split at k
    ·
      simp only [Option.some.injEq, Prod.mk.injEq] at k; obtain ⟨rfl, rfl, rfl⟩ := k
      have hT : T ∉ acc.map (·.1) := hnew T (by simp)
      have hT' : hget (acc ++ (T, Blk.arr t ([] : List (den t))) :: h) T = some (.arr t ([] : List (den t))) := by
        rw [hget_append, hget_none hT]; simp [hget, beq_self]
      have hoth : ∀ u b, u ≠ T → hget (acc ++ (T, Blk.arr t ([] : List (den t))) :: h) u = some b → hget x.H u = some b := by
        intro u b hu hb
        rw [hH, hget_append]
        rw [hget_append] at hb
        cases hga : hget acc u with
        | some b' => rw [hga] at hb; exact hb
        | none => rw [hga] at hb; simp only [hget] at hb; rw [beq_ne (Ne.symm hu)] at hb; exact hb
      have N := ren_next hr hp hbl (T := T) (loc := none) (t := t) (l' := ([] : List (den t))) hT' (.inl ⟨rfl, rfl⟩) hoth
      refine ⟨_, N.weaken fun u hu => by simpa using hu, by simp, ?_, ?_, fun T' hT' => .inl (by simpa [toks] using hT')⟩
      · intro u cs hu c hc
        by_cases h' : u = T
        · subst h'; simp only at hu; rw [hT'] at hu; cases hu
        · exact hbl u cs (hoth u _ h' hu) c hc
      · cases hv
        refine .who T false none 0 0 fun t' l' ha => ?_
        have : Blk.arr t' l' = Blk.arr t ([] : List (den t)) := by
          rcases ha with ha | ha
          · simp only at ha; rw [hT'] at ha; exact (Option.some.inj ha).symm
          · simp only at ha; rw [hT'] at ha; cases ha
        cases this
        exact ⟨rfl, Nat.le_refl _, fun _ => rfl, .inl ⟨rfl, rfl⟩⟩
    · rename_i tok f
      split at k
      · rename_i t' l hl
        split at k
        · rename_i e
          subst e
          simp only [Option.some.injEq, Prod.mk.injEq] at k; obtain ⟨rfl, rfl, rfl⟩ := k
          cases hv with
          | who _ _ a m cap hh =>
          have htok : tok ∉ acc.map (·.1) := fun hm => hacc tok hm (by simp [toks])
          have hgx : hget x.H tok = some (.arr t' l) := by rw [← hcg tok (by simp [toks])]; exact hl
          obtain ⟨h1, h2, h3, h4⟩ := hh t' l (.inl hgx)
          subst h1
          obtain ⟨x', N, k1, k2, k3⟩ := own_step hr hp hbl hH (T := T) (hnew T (by simp)) htok hl (Nat.le_refl _) (v := .undef) (f := f) h2 h4
          refine ⟨x', N.weaken fun u hu => by simpa using hu, ?_, k2, k3, fun T' hT' => .inl (by simpa [toks] using hT')⟩
          rw [k1, List.take_length]; simp
        · cases k
      · cases k
    · rename_i tok off len f
      split at k
      · rename_i t' l hl hoff
        have hoff := beq_true hoff
        subst hoff
        split at k
        · rename_i e
          subst e
          simp only [Option.some.injEq, Prod.mk.injEq] at k; obtain ⟨rfl, rfl, rfl⟩ := k
          cases hv with
          | ref _ _ _ _ a cap hh =>
          have htok : tok ∉ acc.map (·.1) := fun hm => hacc tok hm (by simp [toks])
          have hgx : hget x.H tok = some (.arr t' l) := by rw [← hcg tok (by simp [toks])]; exact hl
          obtain ⟨h1, h2, h3, h4⟩ := hh t' l (.inl hgx)
          obtain ⟨x', N, k1, k2, k3⟩ := own_step hr hp hbl hH (T := T) (hnew T (by simp)) htok hl (k := len) (by omega) (v := .undef) (f := f) h2 h4
          refine ⟨x', N.weaken fun u hu => by simpa using hu, ?_, k2, k3, fun T' hT' => .inl (by simpa [toks] using hT')⟩
          rw [k1]; simp
        · cases k
      · cases k
    · cases k
theorem canonL_sound {out : List Nat} : ∀ {sl : List (Shape × AV)} {x : Cx} {acc h h' n : Heap} {vs : List AV} {us : List Value}, HR x n0 → x.hp = w.heap → Blank x.H → x.H = acc ++ h → RVL x (sl.map (·.2)) us →
    canonL sl h = some (vs, h', n) → Fits out sl → (∀ T ∈ acc.map (·.1), ∀ q ∈ sl, T ∉ toks q.2) → ((acc ++ n).map (·.1)).Nodup →
    ∃ x', NxS x x' n0 (fun u => u ∉ n.map (·.1)) w w ∧ x'.H = acc ++ n ++ h' ∧ RVL x' vs us
  | [], x, acc, h, h', n, vs, us, hr, hp, hbl, hH, hv, k, _, _, _ => by
    simp only [canonL, Option.some.injEq, Prod.mk.injEq] at k; obtain ⟨rfl, rfl, rfl⟩ := k
    cases hv
    exact ⟨x, (Nx.refl hr 0 hp : NxS x x n0 _ w w) |> fun N => ⟨.refl _ _, N.hr, N.fz, N.bel, N.hp⟩, by simpa using hH, .nil⟩
  | (sh, v) :: sl, x, acc, h, h', n, vs, us, hr, hp, hbl, hH, hv, k, hfit, hacc, hnd => by
    simp only [canonL] at k
    split at k
    · rename_i v1 h1 n1 e1
      split at k
      · rename_i vs2 h2 n2 e2
        simp only [Option.some.injEq, Prod.mk.injEq] at k
        obtain ⟨rfl, rfl, rfl⟩ := k
        obtain ⟨f1, f2, f3⟩ := hfit
        cases hv with
        | cons _ u _ us hv hvs =>
        have hnd' : ((acc ++ n1) ++ n2).map (·.1) |>.Nodup := by rw [List.append_assoc]; exact hnd
        obtain ⟨x1, N1, k1, k2, k3, k4⟩ := canonV_sound hr hp hbl hH hv e1 (fun T hT => hacc T hT _ (List.mem_cons_self ..)) (fun T hT hT' => by
          rw [List.append_assoc, List.map_append, List.nodup_append] at hnd'
          exact hnd'.2.2 T hT' T (by simp only [List.map_append, List.mem_append]; exact .inl hT) rfl)
        have own1 : ∀ T ∈ n1.map (·.1), ∀ q ∈ sl, T ∉ toks q.2 := by
          intro T hT q hq
          obtain ⟨t, ht⟩ := canonV_keys e1 T hT
          exact (f1 T t ht).2 q hq
        have hvs1 : RVL x1 (sl.map (·.2)) us := RVL.mono N1.ext hvs fun T hT hT' => by
          have : ∀ (l : List (Shape × AV)), T ∈ toksL (l.map (·.2)) → ∃ q ∈ l, T ∈ toks q.2 := by
            intro l
            induction l with
            | nil => intro h; cases h
            | cons q l ih =>
              intro h
              simp only [List.map_cons, toksL, List.mem_append] at h
              rcases h with h | h
              · exact ⟨q, List.mem_cons_self .., h⟩
              · obtain ⟨q', h1, h2⟩ := ih h; exact ⟨q', List.mem_cons_of_mem _ h1, h2⟩
          obtain ⟨q, hq, hqt⟩ := this sl hT
          exact own1 T hT' q hq hqt
        obtain ⟨x2, N2, j1, j2⟩ := canonL_sound (acc := acc ++ n1) N1.hr N1.hp k2 k1 hvs1 e2 f3 (fun T hT q hq => by
          simp only [List.map_append, List.mem_append] at hT
          rcases hT with hT | hT
          · exact hacc T hT q (List.mem_cons_of_mem _ hq)
          · exact own1 T hT q hq) hnd'
        refine ⟨x2, (N1.weaken fun u hu => ?_).trans (N2.weaken fun u hu => ?_), by rw [j1]; simp, .cons _ _ _ _ (RV.mono N2.ext k3 fun T hT hT2 => ?_) j2⟩
        · simp only [List.map_append, List.mem_append] at hu; exact fun h => hu (.inl h)
        · simp only [List.map_append, List.mem_append] at hu; exact fun h => hu (.inr h)
        · rcases k4 T hT with h | ⟨hs, h⟩
          · rw [List.map_append, List.nodup_append] at hnd'
            exact hnd'.2.2 T (by simp only [List.map_append, List.mem_append]; exact .inr h) T hT2 rfl
          · obtain ⟨q, hq, t, ht⟩ := canonL_keys e2 T hT2
            exact f2 q hq T t ht h
      · cases k
    · cases k
def boxUs (x : Cx) : List (Nat × List Shape) → Heap → List Value
  | [], _ => []
  | (tok, _) :: ts, h => match hget h tok with
    | some (.box _) => (match x.m tok with
      | some (b, _) => (match x.hp[b]? with
        | some (.cells c _ _) => c.toList
        | _ => [])
      | none => []) ++ boxUs x ts h
    | _ => boxUs x ts h
theorem boxUs_box {x : Cx} {tok : Nat} {shs : List Shape} {ts : List (Nat × List Shape)} {h : Heap} {cs : List AV} {b o : Nat} {c : Array Value} {e : TypeId} {fr : Nat × Nat} (h1 : hget h tok = some (.box cs)) (h2 : x.m tok = some (b, o))
    (h3 : x.hp[b]? = some (Obj.cells c e fr)) : boxUs x ((tok, shs) :: ts) h = c.toList ++ boxUs x ts h := by
  simp only [boxUs, h1, h2, h3]
theorem boxUs_not {x : Cx} {tok : Nat} {shs : List Shape} {ts : List (Nat × List Shape)} {h : Heap} (h1 : ∀ cs, hget h tok ≠ some (.box cs)) : boxUs x ((tok, shs) :: ts) h = boxUs x ts h := by
  simp only [boxUs]
  first
    | (split; · rename_i cs hc; exact absurd hc (h1 cs)
       rfl)
    | skip
theorem boxSlots_RVL {x : Cx} (hr : HR x n0) : ∀ {ts : List (Nat × List Shape)} {bs : List (Shape × AV)}, boxSlots ts x.H = some bs → RVL x (bs.map (·.2)) (boxUs x ts x.H)
  | [], bs, h => by simp only [boxSlots, Option.some.injEq] at h; subst h; exact .nil
  | (tok, shs) :: ts, bs, h => by
    simp only [boxSlots] at h
    split at h
    · cases h
    · rename_i l hl
      have ih := boxSlots_RVL hr hl
      split at h
      · rename_i cs hg
        split at h
        · rename_i hlen
          have hlen := beq_true hlen
          simp only [Option.some.injEq] at h; subst h
          obtain ⟨b, c, e, fr, h1, h2, _, _, _, _, h7⟩ := hr.blk tok _ hg
          rw [boxUs_box hg h1 h2, List.map_append, List.map_snd_zip (by omega)]
          exact h7.append ih
        · cases h
      · rename_i hg
        have hnb : ∀ cs, hget x.H tok ≠ some (.box cs) := by
          intro cs hc
          rename_i hg'
          rw [hg] at hc
          exact hg' cs (Option.some.inj hc)
        rw [boxUs_not hnb]
        split at h
        · simp only [Option.some.injEq] at h; subst h; exact ih
        · cases h
      · cases h
theorem rebuild_sound {x x1 : Cx} (hr : HR x n0) (hp : x1.hp = x.hp) : ∀ {ts : List (Nat × List Shape)} {bs : List (Shape × AV)} {hl : Heap} {vs : List AV} {hs : Heap}, boxSlots ts x.H = some bs →
    (∀ p ∈ ts, ∀ cs, hget x.H p.1 = some (.box cs) → x1.m p.1 = x.m p.1) → RVL x1 vs (boxUs x ts x.H) → rebuild ts x.H hl vs = some hs → ∀ T b, hget hs T = some b →
    (hget hl T = some b ∧ ∀ cs, b ≠ .box cs) ∨ ∃ cs cs0 B c e fr, b = .box cs ∧ hget x.H T = some (.box cs0) ∧ x1.m T = some (B, 0) ∧ x1.hp[B]? = some (Obj.cells c e fr) ∧ RVL x1 cs c.toList
  | [], bs, hl, vs, hs, _, _, _, h, T, b, hT => by
    simp only [rebuild, Option.some.injEq] at h; subst h; cases hT
  | (tok, shs) :: ts, bs, hl, vs, hs, hb, hm, hv, h, T, b, hT => by
    simp only [boxSlots] at hb
    split at hb
    · cases hb
    · rename_i l hbl
      simp only [rebuild] at h
      split at h
      · rename_i cs hg
        rw [hg] at hb
        simp only at hb
        split at hb
        · rename_i hlen
          have hlen := beq_true hlen
          obtain ⟨B, c, e, fr, h1, h2, _, _, _, _, h7⟩ := hr.blk tok _ hg
          rw [boxUs_box hg h1 h2] at hv
          have hcl : c.toList.length = shs.length := by rw [hlen]; exact h7.length.symm
          have hv1 := RVL.take shs.length hv
          rw [List.take_left' hcl] at hv1
          have hv2 := RVL.drop shs.length hv
          rw [List.drop_left' hcl] at hv2
          split at h
          · rename_i hs' hrb
            simp only [Option.some.injEq] at h; subst h
            simp only [hget] at hT
            split at hT
            · rename_i hbq
              have hbq := beq_true hbq; subst hbq
              simp only [Option.some.injEq] at hT; subst hT
              exact .inr ⟨_, cs, B, c, e, fr, rfl, hg, by rw [hm (tok, shs) (List.mem_cons_self ..) cs hg]; exact h1, by rw [hp]; exact h2, hv1⟩
            · exact rebuild_sound hr hp hbl (fun p hp' => hm p (List.mem_cons_of_mem _ hp')) hv2 hrb T b hT
          · cases h
        · cases hb
      · rename_i hnb
        rw [boxUs_not hnb] at hv
        split at h
        · rename_i t l' hs' hg hrb
          simp only [Option.some.injEq] at h; subst h
          simp only [hget] at hT
          split at hT
          · rename_i hbq
            have hbq := beq_true hbq; subst hbq
            simp only [Option.some.injEq] at hT; subst hT
            exact .inl ⟨hg, fun cs h => by cases h⟩
          · exact rebuild_sound hr hp hbl (fun p hp' => hm p (List.mem_cons_of_mem _ hp')) hv hrb T b hT
        · rename_i t l' hs' hg hrb
          simp only [Option.some.injEq] at h; subst h
          simp only [hget] at hT
          split at hT
          · rename_i hbq
            have hbq := beq_true hbq; subst hbq
            simp only [Option.some.injEq] at hT; subst hT
            exact .inl ⟨hg, fun cs h => by cases h⟩
          · exact rebuild_sound hr hp hbl (fun p hp' => hm p (List.mem_cons_of_mem _ hp')) hv hrb T b hT
        · cases h
theorem rebuild_keys : ∀ {ts : List (Nat × List Shape)} {h0 hl : Heap} {vs : List AV} {hs : Heap}, rebuild ts h0 hl vs = some hs → ∀ T ∈ hs.map (·.1), T ∈ ts.map (·.1)
  | [], h0, hl, vs, hs, h => by simp only [rebuild, Option.some.injEq] at h; subst h; intro T hT; cases hT
  | (tok, shs) :: ts, h0, hl, vs, hs, h => by
    simp only [rebuild] at h
    split at h
    · split at h
      · rename_i hs' hrb
        simp only [Option.some.injEq] at h; subst h
        intro T hT
        simp only [List.map_cons, List.mem_cons] at hT ⊢
        exact hT.imp id (rebuild_keys hrb T)
      · cases h
    · split at h
      · rename_i hs' _ hrb
        simp only [Option.some.injEq] at h; subst h
        intro T hT
        simp only [List.map_cons, List.mem_cons] at hT ⊢
        exact hT.imp id (rebuild_keys hrb T)
      · rename_i hs' _ hrb
        simp only [Option.some.injEq] at h; subst h
        intro T hT
        simp only [List.map_cons, List.mem_cons] at hT ⊢
        exact hT.imp id (rebuild_keys hrb T)
      · cases h
theorem RVL_zip {x : Cx} (f : Nat → Value) : ∀ {ls : List Nat} {vs : List AV}, RVL x vs (ls.map f) → ∀ t, RV x (get (ls.zip vs) t) (f t)
  | [], _, _, t => .undef _
  | u :: ls, [], h, t => .undef _
  | u :: ls, v :: vs, .cons _ _ _ _ h1 h2, t => by
    simp only [List.zip_cons_cons, get]
    split
    · rename_i hb
      have hb := beq_true hb; subst hb; exact h1
    · exact RVL_zip f h2 t
theorem canon_sound {w0 : World} {fz0 : Lay} {nt f0 f : Nat} {xt : Xt} {a : Ann} {stk : List Fr} {fs : List Frame} {st st' : St} {x : Cx} {ac : Act} (h : canon a stk st = some st') (hR : SR x w0 fz0 nt st ac w) (hF : FrsR C f0 fz0 x stk fs f xt) :
    ∃ x', SR x' w0 fz0 nt st' ac w ∧ FrsR C f0 fz0 x' stk fs f xt := by
  unfold canon at h
  split at h
  · simp only [Option.some.injEq] at h; subst h
    exact ⟨x, ⟨hR.hp, hR.H, hR.env, hR.size, hR.defers, hR.hr, hR.fz, hR.bel, hR.new⟩, hF⟩
  split at h
  · cases h
  · rename_i bs hbs
    simp only at h
    split at h
    · cases h
    · rename_i hfit
      split at h
      · cases h
      · rename_i vs hl n hcan
        split at h
        · cases h
        · rename_i hs hreb
          split at h
          · rename_i hnd
            simp only [Option.some.injEq] at h; subst h
            have hnd := nodupB_nodup hnd
            obtain ⟨hfit, _⟩ := fitB_fits _ _ hfit
            rw [← hR.H] at hbs hcan hreb
            have hlive : RVL x (a.live.map fun p => get st.env p.1) (a.live.map fun p => ac.tmps.getD p.1 undef) := by
              generalize a.live = ls
              induction ls with
              | nil => exact .nil
              | cons p ls ih => exact .cons _ _ _ _ (hR.env p.1) ih
            have hbox := boxSlots_RVL hR.hr hbs
            have hslots : RVL x (((a.live.map fun p => (p.2, get st.env p.1)) ++ bs).map (·.2)) ((a.live.map fun p => ac.tmps.getD p.1 undef) ++ boxUs x a.toks x.H) := by
              rw [List.map_append, List.map_map]
              exact RVL.append hlive hbox
            have N0 := blank_next hR.hr hR.hp
            have hbl : Blank (blank x.H) := by
              intro T cs hT c hc
              rw [hget_blank] at hT
              cases hg : hget x.H T with
              | none => simp [hg] at hT
              | some b0 =>
                simp only [hg, Option.map_some, Option.some.injEq] at hT
                cases b0 with
                | box cs0 => simp only [Blk.box.injEq] at hT; subst hT; simp only [List.mem_map] at hc; obtain ⟨_, _, rfl⟩ := hc; rfl
                | arr t l => cases hT
                | fro t l => cases hT
            obtain ⟨x1, N1, k1, k2⟩ := canonL_sound (n0 := fz0.own) (w := w) (acc := []) (x := { x with H := blank x.H }) N0.hr N0.hp hbl rfl (RVL.mono N0.ext hslots fun _ _ => trivial) hcan hfit (fun T hT => by cases hT) (by
              rw [List.map_append, List.nodup_append] at hnd; simpa using hnd.1)
            simp only [List.nil_append] at k1
            have hout : ∀ T, T ∈ a.toks.map (·.1) ++ stkToks stk → T ∉ n.map (·.1) := by
              intro T hT hTn
              obtain ⟨q, hq, t, ht⟩ := canonL_keys hcan T hTn
              have : ∀ (l : List (Shape × AV)), Fits (ioTok :: (a.toks.map (·.1) ++ stk.flatMap fun fr => envToks fr.env)) l → q ∈ l → T ∉ ioTok :: (a.toks.map (·.1) ++ stk.flatMap fun fr => envToks fr.env) := by
                intro l
                induction l with
                | nil => intro _ h; cases h
                | cons p l ih =>
                  intro hf hq
                  obtain ⟨f1, f2, f3⟩ := hf
                  rcases List.mem_cons.1 hq with rfl | hq
                  · exact (f1 T t ht).1
                  · exact ih f3 hq
              exact this _ hfit hq (by simp only [stkToks, List.mem_append, List.mem_cons] at hT ⊢; rcases hT with h | h | h; exact .inr (.inl h); exact .inl h; exact .inr (.inr h))
            have hp1 : x1.hp = x.hp := by rw [N1.hp, hR.hp]
            have hmb : ∀ p ∈ a.toks, ∀ cs, hget x.H p.1 = some (.box cs) → x1.m p.1 = x.m p.1 ∧ ∃ cs', hget x1.H p.1 = some (.box cs') := by
              intro p hp cs hg
              have hpn : p.1 ∉ n.map (·.1) := hout p.1 (List.mem_append.2 (.inl (List.mem_map_of_mem hp)))
              have h1 : hget (blank x.H) p.1 = some (.box (cs.map fun _ => .undef)) := by rw [hget_blank, hg]; rfl
              have h2 := canonL_box hcan h1
              have h3 : hget x1.H p.1 = some (.box (cs.map fun _ => .undef)) := by rw [k1, hget_append, hget_none hpn]; exact h2
              obtain ⟨_, _, h4⟩ := N1.ext.box p.1 hpn _ h3
              exact ⟨h4, _, h3⟩
            have hlen : (a.live.map fun p => ac.tmps.getD p.1 undef).length = a.live.length := by simp
            have kv1 := RVL.take a.live.length k2
            rw [List.take_left' hlen] at kv1
            have kv2 := RVL.drop a.live.length k2
            rw [List.drop_left' hlen] at kv2
            have N2 := retell N1.hr N1.hp (H' := n ++ hs) (fun T b hT => by
              rw [hget_append] at hT
              rw [k1, hget_append]
              cases hn : hget n T with
              | some b' => rw [hn] at hT; exact .inl hT
              | none =>
                rw [hn] at hT
                rcases rebuild_sound (x1 := x1) hR.hr hp1 hbs (fun p hp cs hg => (hmb p hp cs hg).1) kv2 hreb T b hT with ⟨h1, _⟩ | ⟨cs, cs0, B, c, e, fr, h1, h2, h3, h4, h5⟩
                · exact .inl h1
                · have hTk : T ∈ a.toks.map (·.1) := by
                    have := hget_mem hT
                    exact rebuild_keys hreb T this
                  obtain ⟨p, hp, rfl⟩ := List.mem_map.1 hTk
                  obtain ⟨_, cs', h6⟩ := hmb p hp cs0 h2
                  rw [k1, hget_append, hn] at h6
                  exact .inr ⟨cs', cs, B, c, e, fr, h1, h6, h3, h4, h5⟩)
            have N : NxS x { x1 with H := n ++ hs } fz0.own (fun u => u ∉ n.map (·.1)) w w := ((N0.weaken fun _ _ => trivial).trans N1).trans (N2.weaken fun _ _ => trivial)
            refine ⟨{ x1 with H := n ++ hs }, ⟨N.hp, rfl, fun t => ?_, hR.size, hR.defers, N.hr, fun b hb => (N.fz b hb).elim (hR.fz b) .inr, hR.bel, hR.new⟩, hF.mono N.ext fun T hT => hout T (List.mem_append.2 (.inr hT))⟩
            have hz := RVL_zip (x := x1) (fun u => ac.tmps.getD u undef) (ls := a.live.map (·.1)) (vs := vs.take a.live.length) (by rw [List.map_map]; exact kv1) t
            exact RV.mono N2.ext hz fun _ _ => trivial
          · cases h
end
end Go.Proofs.YtpdfjgooaaailaaGreatDoor.K
