/- Part 3 of the proof: the machine, the tables and the pure laws that the last text joins. -/
import Derived.Test.YtenapomineinbaaGreatDoorZ2
import Derived.Orders
import Derived.Scope
import Derived.WalkKit
import Derived.Shelf.Strings.Trim
import Derived.Shelf.Small.Bits
import Derived.Shelf.Strings.BuilderK
import Derived.Shelf.Strings.Cut
import Derived.Shelf.LaysM
import Derived.Shelf.Strings.Prefix
import Derived.Shelf.Strings.Repeat
import Derived.Test.YtenapomineinbaaGreatDoorProg
import Derived.WalkSmall
import Derived.Lib.Repeat
import Derived.Lib.TrimByte
import Derived.Lib.BitFns
import Derived.Lib.Split
import Derived.Lib.Join
import Derived.Lib.IndexMore
/- The abstract machine: regions whose operations go in an order that is drawn. -/
set_option linter.unusedVariables false
set_option linter.unusedSimpArgs false
namespace Go.Proofs.YtenapomineinbaaGreatDoor.K
open Go
open Go.RowKit (Below)

section
variable {P : Program} {C : Ctx}

theorem plain_congr {e e' : Env} {H : Heap} {tok : Nat} {op : Op} (hc : calm op = true) (h : ∀ x ∈ reads op, ev e' x = ev e x) : plainOp C e' H tok op = plainOp C e H tok op := by
  cases op with
  | slice t x lo hi mx =>
    have hx : ev e' x = ev e x := h x (by simp [reads])
    have hlo : lo.map (ev e') = lo.map (ev e) := by cases lo with
      | none => rfl
      | some y => simp [h y (by simp [reads])]
    have hhi : hi.map (ev e') = hi.map (ev e) := by cases hi with
      | none => rfl
      | some y => simp [h y (by simp [reads])]
    have hmx : mx.map (ev e') = mx.map (ev e) := by cases mx with
      | none => rfl
      | some y => simp [h y (by simp [reads])]
    simp only [plainOp, hx, hlo, hhi, hmx]
  | build t ps =>
    have : (ps.toList.map fun p => (p.1, ev e' p.2)) = ps.toList.map fun p => (p.1, ev e p.2) := by
      refine List.map_congr_left fun p hp => ?_
      rw [h p.2 (by simp only [reads, List.mem_map]; exact ⟨p, hp, rfl⟩)]
    simp only [plainOp, this]
  | call c =>
    obtain ⟨callee, args, ats⟩ := c
    cases callee with
    | builtin b =>
      have : args.toList.map (ev e') = args.toList.map (ev e) := by
        refine List.map_congr_left fun x hx => h x ?_
        cases b <;> simpa [reads] using hx
      simp only [plainOp, this]
    | _ => simp [calm] at hc
  | _ => first
    | (simp [calm] at hc; done)
    | (simp only [plainOp]; simp only [reads, List.mem_cons, List.not_mem_nil, or_false, forall_eq_or_imp, forall_eq] at h; simp only [h])

theorem freeze_nil (H : Heap) : freeze [] H = H := by
  induction H with
  | nil => rfl
  | cons p H ih => obtain ⟨u, b⟩ := p; simp only [freeze, ih]; cases b <;> rfl

theorem v_heap {v v1 v2 : AV} {H H' : Heap} {c b : Bool} (h : OR.v v H = .ok c b v1 v2 H') : H' = H := by
  simp only [OR.v, OR.ok.injEq] at h; exact h.2.2.2.2.symm
theorem cv_heap {v v1 v2 : AV} {H H' : Heap} {c b c' : Bool} (h : OR.cv c' v H = .ok c b v1 v2 H') : H' = H := by
  simp only [OR.cv, OR.ok.injEq] at h; exact h.2.2.2.2.symm
theorem ok_heap {v1 v2 u1 u2 : AV} {H H' : Heap} {c b c' b' : Bool} (h : OR.ok c' b' u1 u2 H = .ok c b v1 v2 H') : H' = H := by
  simp only [OR.ok.injEq] at h; exact h.2.2.2.2.symm

theorem binOp_heap {op : BinOp} {t : Nat} {x y v1 v2 : AV} {H H' : Heap} {c b : Bool} (h : binOp C op t x y H = .ok c b v1 v2 H') : H' = H := by
  unfold binOp at h
  repeat' (first | exact v_heap h | exact cv_heap h | exact ok_heap h | cases h | split at h)

theorem convert_heap {s d tok : Nat} {x v1 v2 : AV} {H H' : Heap} {c b : Bool} (h : convert C s d x tok H = .ok c b v1 v2 H') (hm : (eltSz C d).isSome = false) : H' = H := by
  unfold convert at h
  unfold eltSz at hm
  cases hd : C.ti d with
  | none => simp [hd] at h
  | some ti =>
    cases hs : C.ti s with
    | none => simp [hd, hs] at h
    | some ts =>
      simp only [hd, hs] at h hm
      split at h
      · exact v_heap h
      · exact v_heap h
      · rename_i e _ hsh
        simp only [hsh] at hm
        cases he : C.ti e with
        | none => simp [he] at h
        | some te => simp [he] at hm
      · repeat' (first | exact v_heap h | exact cv_heap h | exact ok_heap h | cases h | split at h)
      · cases h

theorem calm_heap {e : Env} {H H' : Heap} {tok : Nat} {op : Op} {c b : Bool} {v1 v2 : AV} (hc : calm op = true) (hm : makes C op = false) (h : plainOp C e H tok op = .ok c b v1 v2 H') : H' = H := by
  cases op with
  | binOp op t x y ty => exact binOp_heap h
  | convert s d x => exact convert_heap h hm
  | unOp op t x => simp only [plainOp] at h; unfold unOp at h; repeat' (first | exact v_heap h | exact cv_heap h | exact ok_heap h | cases h | split at h)
  | load t p =>
    simp only [plainOp] at h
    split at h
    · unfold loadOp at h; repeat' (first | exact v_heap h | exact cv_heap h | exact ok_heap h | cases h | split at h)
    · cases h
  | slice t x lo hi mx =>
    simp only [plainOp] at h
    split at h
    · split at h
      · unfold sliceOp at h; repeat' (first | exact v_heap h | exact cv_heap h | exact ok_heap h | cases h | split at h)
      · cases h
    · cases h
  | fieldAddr t x f =>
    simp only [plainOp] at h
    split at h
    · unfold fieldAddrOp at h; repeat' (first | exact v_heap h | exact cv_heap h | exact ok_heap h | cases h | split at h)
    · cases h
  | field t x f =>
    simp only [plainOp] at h
    split at h
    · unfold fieldOp at h; repeat' (first | exact v_heap h | exact cv_heap h | exact ok_heap h | cases h | split at h)
    · cases h
  | indexAddr t x i =>
    simp only [plainOp] at h
    split at h
    · unfold indexAddrOp at h; repeat' (first | exact v_heap h | exact cv_heap h | exact ok_heap h | cases h | split at h)
    · unfold arrAddrOp at h; repeat' (first | exact v_heap h | exact cv_heap h | exact ok_heap h | cases h | split at h)
  | index t x i =>
    simp only [plainOp] at h
    split at h
    · unfold indexOp at h; repeat' (first | exact v_heap h | exact cv_heap h | exact ok_heap h | cases h | split at h)
    · unfold arrIndexOp at h; repeat' (first | exact v_heap h | exact cv_heap h | exact ok_heap h | cases h | split at h)
  | extract x i => simp only [plainOp] at h; unfold extractOp at h; repeat' (first | exact v_heap h | exact cv_heap h | exact ok_heap h | cases h | split at h)
  | call cl =>
    obtain ⟨callee, args, ats⟩ := cl
    cases callee with
    | builtin bi =>
      simp only [plainOp] at h
      unfold builtinOp at h
      split at h <;> first
        | (simp [calm] at hc; done)
        | (repeat' (first | exact v_heap h | exact cv_heap h | exact ok_heap h | cases h | split at h))
    | _ => simp [calm] at hc
  | _ => first
    | (simp [calm] at hc; done)
    | (simp only [plainOp] at h; repeat' (first | exact v_heap h | exact cv_heap h | exact ok_heap h | cases h | split at h))

theorem ev_put_other {e : Env} {d : Nat} {v : AV} {x : Operand} (h : x ≠ .tmp d) : ev (put e d v) x = ev e x := by
  cases x with
  | tmp t =>
    simp only [ev]
    rw [get_put, if_neg]
    intro hc; subst hc; exact h rfl
  | _ => rfl

theorem ev_get {e e' : Env} {x : Operand} (h : ∀ t, x = .tmp t → get e' t = get e t) : ev e' x = ev e x := by
  cases x with
  | tmp t => exact h t rfl
  | _ => rfl

def OR.setH : OR → Heap → OR
  | .no, _ => .no
  | .ok c b v1 v2 _, h => .ok c b v1 v2 h

theorem light_set {e : Env} {H H' : Heap} {tok : Nat} {op : Op} (hl : light op = true) : plainOp C e H' tok op = (plainOp C e H tok op).setH H' := by
  cases op with
  | binOp op t x y ty =>
    simp only [plainOp]
    generalize ev e x = a
    generalize ev e y = b
    unfold binOp
    repeat' (first | rfl | split)
  | unOp op t x =>
    simp only [plainOp]
    unfold unOp
    repeat' (first | rfl | split)
  | extract x i =>
    simp only [plainOp]
    unfold extractOp
    repeat' (first | rfl | split)
  | field t x f =>
    simp only [plainOp]
    split
    · unfold fieldOp
      repeat' (first | rfl | split)
    · rfl
  | pick c a b =>
    simp only [plainOp]
    split <;> rfl
  | move x => rfl
  | assign x => rfl
  | fieldAddr t x f =>
    simp only [plainOp]
    split
    · unfold fieldAddrOp
      repeat' (first | rfl | split)
    · rfl
  | nilCheck x =>
    simp only [plainOp]
    repeat' (first | rfl | split)
  | _ => simp [light] at hl

/-- What the heap must be for an operation. -/
def SameAt (o : Oper) (e : Env) (h' h : Heap) : Prop := match lookAt o.op e with
  | some T => hget h' T = hget h T
  | none => h' = h

theorem lookAt_congr {op : Op} {e e' : Env} (h : ∀ x ∈ reads op, ev e' x = ev e x) : lookAt op e' = lookAt op e := by
  unfold lookAt
  cases op with
  | load t p => simp only; rw [h p (by simp [reads])]
  | store t p v => simp only; rw [h p (by simp [reads])]
  | _ => rfl

theorem load_at {ti : TI} {tk off : Nat} {h h' : Heap} (hh : hget h' tk = hget h tk) : loadOp ti (.ptr tk off) h' = (loadOp ti (.ptr tk off) h).setH h' := by
  unfold loadOp
  simp only [hh]
  repeat' (first | rfl | split)

theorem same_plain {o : Oper} {e : Env} {H H' : Heap} {tok : Nat} (hs : light o.op = false → SameAt o e H' H) (hst : isStore o.op = false) : plainOp C e H' tok o.op = plainOp C e H tok o.op ∨ plainOp C e H' tok o.op = (plainOp C e H tok o.op).setH H' := by
  cases hl : light o.op with
  | true => exact .inr (light_set hl)
  | false =>
    have hs := hs hl
    unfold SameAt at hs
    split at hs
    · rename_i T hT
      cases hop : o.op with
      | load t p =>
        rw [hop] at hT
        simp only [lookAt] at hT
        split at hT
        · rename_i tk off hp
          cases hT
          right
          simp only [plainOp, hp]
          split
          · exact load_at hs
          · rfl
        · cases hT
      | store t p v => rw [hop] at hst; cases hst
      | _ => rw [hop] at hT; cases hT
    · left; rw [hs]

/-- What a store lays, and where. -/
def app : Option (Nat × Blk) → Heap → Heap
  | none, h => h
  | some (T, b), h => hput h T b

section
variable {s : Sm C} {inst : Nat}

/-- A store into a variable. -/
theorem store_do {stk : List Fr} {f : Nat} {path : Path} {i : Nat} {rest : List Nat} {o : Oper} {K : St → Option (den (tyL (C.rts inst)))} {st : St} {r : den (tyL (C.rts inst))} (hc : storesAt o st = true)
    (h : doOp s inst stk f path i rest o K st = some r) : ∃ v T b, (isStore o.op = true ∧ lookAt o.op st.env = some T) ∧ K { st with env := putO st.env o.dst v, heap := hput st.heap T b } = some r ∧
      ∀ (rest' : List Nat) (K' : St → Option (den (tyL (C.rts inst)))) (e' : Env) (h' : Heap), (∀ x ∈ reads o.op, ev e' x = ev st.env x) → hget h' T = hget st.heap T → doOp s inst stk f path i rest' o K' { st with env := e', heap := h' } = K' { st with env := putO e' o.dst v, heap := hput h' T b } := by
  unfold storesAt at hc
  split at hc
  · rename_i t p v hop
    split at hc
    · rename_i tk off hpv
      unfold doOp at h
      rw [hop] at h
      simp only [makes, Bool.not_false, Bool.true_or] at h
      split at h
      · cases h
      · cases h
      · rename_i c b v1 v2 H hpl _
        have hpl0 := hpl
        simp only [plainOp] at hpl
        split at hpl
        · rename_i ti hti
          split at hpl
          · rename_i h' hs
            rw [hpv] at hs
            unfold storeOp at hs
            split at hs
            · cases hs
            · rename_i hfit
              simp only at hs
              split at hs
              · rename_i cs hg
                split at hs
                · rename_i hble
                  simp only [Option.some.injEq] at hs
                  simp only [OR.v, OR.ok.injEq] at hpl
                  obtain ⟨rfl, rfl, rfl, rfl, rfl⟩ := hpl
                  simp only [cond_true] at h
                  refine ⟨.undef, tk, _, ⟨by rw [hop]; rfl, by rw [hop]; simp only [lookAt, hpv]⟩, by rw [hs]; exact h, fun rest' K' e' h2 he hh => ?_⟩
                  have he1 : ev e' p = ev st.env p := he p (by simp [hop, reads])
                  have he2 : ev e' v = ev st.env v := he v (by simp [hop, reads])
                  have hst : storeOp ti (.ptr tk off) (ev st.env v) h2 = some (hput h2 tk (.box (setCells cs off (cells (ev st.env v))))) := by
                    unfold storeOp
                    rw [hfit]
                    simp only [hh, hg, hble]
                  unfold doOp
                  rw [hop]
                  simp only [makes, Bool.not_false, Bool.true_or, plainOp, hti, he1, he2, hpv, hst, OR.v, cond_true]
                · cases hs
              · cases hs
          · cases hpl
        · cases hpl
    · cases hc
  · cases hc

/-- What a calm operation leaves hangs on what it looks at alone. -/
theorem calm_do {stk : List Fr} {f : Nat} {path : Path} {i : Nat} {rest : List Nat} {o : Oper} {K : St → Option (den (tyL (C.rts inst)))} {st : St} {r : den (tyL (C.rts inst))} (hc : calmAt (C := C) inst o st = true)
    (h : doOp s inst stk f path i rest o K st = some r) : ∃ v, K { st with env := putO st.env o.dst v } = some r ∧
      ∀ (rest' : List Nat) (K' : St → Option (den (tyL (C.rts inst)))) (e' : Env) (h' : Heap), (∀ x ∈ reads o.op, ev e' x = ev st.env x) → (light o.op = false → SameAt o st.env h' st.heap) → doOp s inst stk f path i rest' o K' { st with env := e', heap := h' } = K' { st with env := putO e' o.dst v, heap := h' } := by
  unfold doOp at h
  simp only at h
  split at h
  · rename_i fo args ats hop
    unfold calmAt at hc
    rw [hop] at hc
    simp only at hc
    split at h
    · rename_i g first caps hfo
      rw [hfo] at hc
      simp only at hc
      split at h
      · cases h
      · rename_i gfn hgfn
        split at h
        · rename_i j hdisp
          rw [hdisp] at hc
          simp only [Bool.and_eq_true, Bool.or_eq_true, Bool.not_eq_true'] at hc
          obtain ⟨hc1, hc2⟩ := hc
          split at h
          · rename_i y hbeq hy
            obtain ⟨q, hq, hk⟩ := Option.bind_eq_some_iff.1 h
            have hsh : shown (hasSl (tyL (C.rts j))) (toksL (first ++ args.toList.map (ev st.env) ++ caps)) st.heap = st.heap := by
              rcases hc2 with h2 | h2
              · rw [h2]; rfl
              · rw [List.isEmpty_iff] at h2
                rw [h2]
                cases hasSl (tyL (C.rts j))
                · rfl
                · exact freeze_nil _
            have hno : ∀ d, hasOwn (tyL (C.rts j)) = true → o.dst = some d → False := by
              intro d h1 h2
              rcases hc1 with h3 | h3
              · rw [h3] at h1; cases h1
              · rw [h2] at h3; cases h3
            split at hk
            · rename_i d' h1 h2; exact (hno d' h1 h2).elim
            rw [hsh] at hk
            refine ⟨_, hk, fun rest' K' e' h' he hl => ?_⟩
            have hl := hl (by rw [hop]; rfl)
            unfold SameAt at hl
            rw [hop] at hl
            obtain rfl : h' = st.heap := hl
            have efo : ev e' fo = .func g first caps := by rw [← hfo]; exact he fo (by simp [hop, reads])
            have eargs : args.toList.map (ev e') = args.toList.map (ev st.env) := List.map_congr_left fun x hx => he x (by simp [hop, reads, hx])
            unfold doOp
            rw [hop]
            simp only [efo, hgfn, eargs, hdisp, hbeq, hy, hq, Option.bind_some]
            rw [hsh]
          · cases h
        · rename_i hdisp; rw [hdisp] at hc; cases hc
        · cases h
    · cases h
  · rename_i op hnc
    have hcalm : calm o.op = true ∧ makes C o.op = false := by
      unfold calmAt at hc
      split at hc
      · rename_i fo args ats hop; exact absurd hop (hnc fo args ats)
      · simpa using hc
    obtain ⟨k1, k2⟩ := hcalm
    split at h
    · cases h
    · cases h
    · rename_i c b v1 v2 H hop hm
      have hH := calm_heap k1 k2 hop
      subst hH
      cases c with
      | false => cases h
      | true =>
        simp only [cond_true] at h
        refine ⟨cond b v1 v2, by cases b <;> exact h, fun rest' K' e' h' he hl => ?_⟩
        have hop' : plainOp C e' h' (tokBase st.salt (o.dst.getD 0)) o.op = .ok true b v1 v2 h' := by
          rw [plain_congr k1 he]
          have hst : isStore o.op = false := by cases hop2 : o.op <;> rw [hop2] at k1 <;> first | rfl | cases k1
          cases hli : light o.op with
          | true => rw [light_set (H := st.heap) hli, hop]; rfl
          | false =>
            rcases same_plain (C := C) (tok := tokBase st.salt (o.dst.getD 0)) hl hst with q | q
            · have hs := hl hli
              unfold SameAt at hs
              split at hs
              · rename_i T hT
                cases hop2 : o.op with
                | load t p =>
                  rw [hop2] at hT hop
                  simp only [lookAt] at hT
                  split at hT
                  · rename_i tk off hp
                    cases hT
                    simp only [plainOp, hp] at hop ⊢
                    split at hop
                    · rename_i ti hti
                      rw [load_at hs, hop]; rfl
                    · cases hop
                  · cases hT
                | store t p v => rw [hop2] at hst; cases hst
                | _ => rw [hop2] at hT; cases hT
              · rw [hs]; exact hop
            · rw [q, hop]; rfl
        unfold doOp
        split
        · rename_i fo args ats hop2; exact absurd hop2 (hnc fo args ats)
        · simp only [hop', k2, Bool.not_false, Bool.true_or, cond_true]
          cases b <;> rfl

theorem free_do {stk : List Fr} {f : Nat} {path : Path} {i : Nat} {rest : List Nat} {o : Oper} {K : St → Option (den (tyL (C.rts inst)))} {st : St} {r : den (tyL (C.rts inst))} (hc : (calmAt (C := C) inst o st || storesAt o st) = true)
    (h : doOp s inst stk f path i rest o K st = some r) : ∃ v dk, (∀ T b, dk = some (T, b) → isStore o.op = true ∧ lookAt o.op st.env = some T) ∧ K { st with env := putO st.env o.dst v, heap := app dk st.heap } = some r ∧
      ∀ (rest' : List Nat) (K' : St → Option (den (tyL (C.rts inst)))) (e' : Env) (h' : Heap), (∀ x ∈ reads o.op, ev e' x = ev st.env x) → (light o.op = false → SameAt o st.env h' st.heap) → doOp s inst stk f path i rest' o K' { st with env := e', heap := h' } = K' { st with env := putO e' o.dst v, heap := app dk h' } := by
  cases hca : calmAt (C := C) inst o st with
  | true =>
    obtain ⟨v, h1, h2⟩ := calm_do hca h
    exact ⟨v, none, fun _ _ h => (by cases h), h1, h2⟩
  | false =>
    rw [hca] at hc
    obtain ⟨v, T, b, h0, h1, h2⟩ := store_do (by simpa using hc) h
    refine ⟨v, some (T, b), fun _ _ he => (by cases he; exact h0), h1, fun rest' K' e' h' he hl => ?_⟩
    have hl := hl (by cases hop : o.op <;> rw [hop] at h0 <;> first | rfl | cases h0.1)
    unfold SameAt at hl
    rw [h0.2] at hl
    exact h2 rest' K' e' h' he hl

/-- A guard that lets its operation out. -/
def Off (v : AV) (want : Bool) : Prop := v = .bool (!want) ∨ ∃ u, v = .cst u ∧ ∀ b, u = .bool b → False

/-- An operation, done at last. -/
def OpDone (s : Sm C) (inst : Nat) (stk : List Fr) (f ntmps : Nat) (path : Path) (ops : Array Oper) (st : St) (e : Env) (i : Nat) (dl : Option (Nat × Blk)) (Hi : Heap) : Prop :=
  ∃ o, ops[i]? = some o ∧ (∀ d, o.dst = some d → d < ntmps) ∧ (∀ T b, dl = some (T, b) → isStore o.op = true ∧ lookAt o.op e = some T) ∧
    ((∃ v, (∀ d, o.dst = some d → get e d = v) ∧ (∀ (rest : List Nat) (K : St → Option (den (tyL (C.rts inst)))) (e' : Env) (h' : Heap), (∀ x ∈ reads o.op, ev e' x = ev e x) → (light o.op = false → SameAt o e h' Hi) →
        doOp s inst stk f path i rest o K { st with env := e', heap := h' } = K { st with env := putO e' o.dst v, heap := app dl h' }) ∧ ∀ j want, o.guard = some (j, want) → ∃ d, dstAt ops j = some d ∧ get e d = .bool want) ∨
     (dl = none ∧ (∀ d, o.dst = some d → get e d = .cst undef) ∧ ∃ j want d, o.guard = some (j, want) ∧ dstAt ops j = some d ∧ Off (get e d) want))

/-- The heap behind those operations of a row that are done. -/
def Cq (dl : Nat → Option (Nat × Blk)) (p : Nat → Bool) : Nat → Nat → Heap → Heap
  | 0, _, h => h
  | n + 1, k, h => Cq dl p n (k + 1) (match p k with
    | true => app (dl k) h
    | false => h)

theorem Cq_congr {dl dl' : Nat → Option (Nat × Blk)} {p q : Nat → Bool} : ∀ (n k : Nat) (h : Heap), (∀ j, k ≤ j → j < k + n → dl j = dl' j ∧ (dl j ≠ none → p j = q j)) → Cq dl p n k h = Cq dl' q n k h
  | 0, _, _, _ => rfl
  | n + 1, k, h, hpq => by
    simp only [Cq]
    obtain ⟨h1, h2⟩ := hpq k (Nat.le_refl _) (by omega)
    have : (match p k with
      | true => app (dl k) h
      | false => h) = match q k with
      | true => app (dl' k) h
      | false => h := by
      rw [← h1]
      cases hd : dl k with
      | none => cases p k <;> cases q k <;> rfl
      | some x => rw [h2 (by rw [hd]; simp)]
    rw [this]
    exact Cq_congr n (k + 1) _ fun j h1 h2 => hpq j (by omega) (by omega)

theorem Cq_none {dl : Nat → Option (Nat × Blk)} {p : Nat → Bool} : ∀ (n k : Nat) (h : Heap), (∀ j, k ≤ j → j < k + n → dl j ≠ none → p j = false) → Cq dl p n k h = h
  | 0, _, _, _ => rfl
  | n + 1, k, h, hp => by
    simp only [Cq]
    have : (match p k with
      | true => app (dl k) h
      | false => h) = h := by
      cases hd : dl k with
      | none => cases p k <;> rfl
      | some x => rw [hp k (Nat.le_refl _) (by omega) (by rw [hd]; simp)]
    rw [this]
    exact Cq_none n (k + 1) _ fun j h1 h2 => hp j (by omega) (by omega)

theorem hget_app (d : Option (Nat × Blk)) (h : Heap) (U : Nat) (hU : ∀ T b, d = some (T, b) → T ≠ U) : hget (app d h) U = hget h U := by
  cases d with
  | none => rfl
  | some x =>
    obtain ⟨T, b⟩ := x
    simp only [app, hget_hput]
    rw [if_neg (fun e => hU T b rfl e.symm)]

/-- One variable hangs on the stores into it alone. -/
theorem Cq_get {dl : Nat → Option (Nat × Blk)} {p q : Nat → Bool} {U : Nat} : ∀ (n k : Nat) (h h' : Heap), hget h U = hget h' U → (∀ j, k ≤ j → j < k + n → ∀ b, dl j = some (U, b) → p j = q j) → hget (Cq dl p n k h) U = hget (Cq dl q n k h') U
  | 0, _, _, _, hh, _ => hh
  | n + 1, k, h, h', hh, hpq => by
    simp only [Cq]
    refine Cq_get n (k + 1) _ _ ?_ fun j h1 h2 => hpq j (by omega) (by omega)
    by_cases hd : ∃ b, dl k = some (U, b)
    · obtain ⟨b, hd⟩ := hd
      rw [hpq k (Nat.le_refl _) (by omega) b hd]
      cases q k with
      | true => simp only [hd, app, hget_hput, if_true]
      | false => exact hh
    · have hU : ∀ T b, dl k = some (T, b) → T ≠ U := fun T b h1 h2 => hd ⟨b, by rw [h1, h2]⟩
      have e1 : ∀ (b : Bool) (g : Heap), hget (match b with
        | true => app (dl k) g
        | false => g) U = hget g U := fun b g => by
        cases b with
        | true => exact hget_app _ _ _ hU
        | false => rfl
      rw [e1, e1]; exact hh

/-- The last store into a variable. -/
theorem Cq_last {dl : Nat → Option (Nat × Blk)} {q : Nat → Bool} {i T : Nat} {b : Blk} (hd : dl i = some (T, b)) (hq : q i = true) (hl : ∀ j, i < j → ∀ b', dl j = some (T, b') → q j = false) : ∀ (n k : Nat) (h : Heap), k ≤ i → i < k + n → hget (Cq dl q n k h) T = some b
  | 0, _, _, h1, h2 => by omega
  | n + 1, k, h, h1, h2 => by
    simp only [Cq]
    by_cases hk : k = i
    · subst hk
      rw [hq]
      simp only
      rw [Cq_get (q := fun _ => false) n (k + 1) _ (app (dl k) h) rfl fun j h3 h4 b' h5 => hl j (by omega) b' h5, Cq_none n (k + 1) _ fun _ _ _ _ => rfl, hd]
      simp only [app, hget_hput, if_true]
    · exact Cq_last hd hq hl n (k + 1) _ (by omega) (by omega)

/-- One more that is done. -/
theorem Cq_more {dl : Nat → Option (Nat × Blk)} {p q : Nat → Bool} {i : Nat} (hi : p i = false) (hq : ∀ j, q j = (p j || Nat.beq j i)) (n k : Nat) (h : Heap) (h1 : k ≤ i) (h2 : i < k + n) (h3 : ∀ T b, dl i = some (T, b) → ∀ j, i < j → ∀ b', dl j = some (T, b') → p j = false) (U : Nat) :
    hget (app (dl i) (Cq dl p n k h)) U = hget (Cq dl q n k h) U := by
  have hqp : ∀ j, j ≠ i → q j = p j := fun j hj => by rw [hq, beq_ne hj]; simp
  have hqi : q i = true := by rw [hq, beq_self]; simp
  by_cases hd : ∃ b, dl i = some (U, b)
  · obtain ⟨b, hd⟩ := hd
    rw [Cq_last hd hqi (fun j hj b' hb' => by rw [hqp j (by omega)]; exact h3 U b hd j hj b' hb') n k h h1 h2, hd]
    simp only [app, hget_hput, if_true]
  · rw [hget_app _ _ _ fun T b h4 h5 => hd ⟨b, by rw [h4, h5]⟩]
    refine Cq_get n k h h rfl fun j _ _ b hb => ?_
    by_cases hj : j = i
    · subst hj; exact absurd ⟨b, hb⟩ hd
    · exact (hqp j hj).symm

/-- What is looked at before a region is drawn. -/
structure FreeAt (ops : Array Oper) (m i : Nat) (o : Oper) : Prop where
  edge : ∀ e ∈ o.after.toList, Region.binds .any e = true → e.on < i
  sees : ∀ t, .tmp t ∈ reads o.op → ∀ j, j < m → dstAt ops j = some t → bnd ops o j = true
  guard : ∀ j want, o.guard = some (j, want) → j < m ∧ bnd ops o j = true
  dst : ∀ d, o.dst = some d → ∀ j, j < m → j ≠ i → dstAt ops j ≠ some d

theorem freeOk_edge {ops : Array Oper} {m i : Nat} {o : Oper} (h : freeOk ops m i = true) (ho : ops[i]? = some o) : ∀ e ∈ o.after.toList, Region.binds .any e = true → e.on < i := by
  unfold freeOk at h
  rw [ho] at h
  simp only [Bool.and_eq_true, List.all_eq_true] at h
  intro e he hb
  have := h.1 e he
  rw [hb] at this
  simp only [Bool.not_true, Bool.false_or] at this
  exact Nat.lt_of_succ_le (Nat.le_of_ble_eq_true this)

theorem freeOk_at {ops : Array Oper} {m i : Nat} {o : Oper} (h : freeOk ops m i = true) (ho : ops[i]? = some o) (hi : i < m) : FreeAt ops m i o := by
  refine ⟨freeOk_edge h ho, ?_, ?_, ?_⟩
  all_goals
    unfold freeOk at h
    rw [ho] at h
    have hlt : Nat.blt i m = true := Nat.ble_eq_true_of_le hi
    simp only [Bool.and_eq_true, hlt, Bool.not_true, Bool.false_or] at h
    obtain ⟨_, h1, h2, h3⟩ := h
  · intro t ht j hj hd
    have := List.all_eq_true.1 h1 _ ht
    simp only [seesFree] at this
    have := List.all_eq_true.1 this j (List.mem_range.2 hj)
    rw [hd] at this
    simpa [beq_self] using this
  · intro j want hg
    rw [hg] at h2
    simp only [Bool.and_eq_true] at h2
    exact ⟨Nat.lt_of_succ_le (Nat.le_of_ble_eq_true h2.1), h2.2⟩
  · intro d hd j hj hne hdj
    rw [hd] at h3
    have := List.all_eq_true.1 h3 j (List.mem_range.2 hj)
    rw [hdj, beq_ne hne] at this
    simp [beq_self] at this

theorem binds_lt {ops : Array Oper} {i : Nat} {o : Oper} (h : ∀ e ∈ o.after.toList, Region.binds .any e = true → e.on < i) {j : Nat} (hb : bindsOn o j = true) : j < i := by
  unfold bindsOn at hb
  obtain ⟨e, he, hb⟩ := List.any_eq_true.1 hb
  simp only [Bool.and_eq_true] at hb
  have := h e he hb.1
  rw [beq_true hb.2] at this
  exact this

theorem bindsT_lt {ops : Array Oper} {m : Nat} (hedge : ∀ i o, i < m → ops[i]? = some o → ∀ e ∈ o.after.toList, Region.binds .any e = true → e.on < i) : ∀ (n i : Nat) (o : Oper) (j : Nat), i < m → ops[i]? = some o → bindsT ops n o j = true → j < i
  | 0, i, o, j, hi, ho, hb => binds_lt (ops := ops) (hedge i o hi ho) hb
  | n + 1, i, o, j, hi, ho, hb => by
    unfold bindsT at hb
    split at hb
    · rename_i hb'; exact binds_lt (ops := ops) (hedge i o hi ho) hb'
    · obtain ⟨e, he, hb⟩ := List.any_eq_true.1 hb
      split at hb
      · rename_i hbe
        have hlt := hedge i o hi ho e he hbe
        split at hb
        · rename_i o' ho'
          exact Nat.lt_trans (bindsT_lt hedge n e.on o' j (by omega) ho' hb) hlt
        · cases hb
      · cases hb

theorem get_known {e : Env} {d : Nat} {b : Bool} (h : get e d = .bool b) (t : Nat) : get (put e d (.bool b)) t = get e t := by
  rw [get_put]
  split
  · rename_i ht; subst ht; exact h.symm
  · rfl

theorem get_putO (e : Env) (o : Option Nat) (v : AV) (t : Nat) : get (putO e o v) t = if o = some t then v else get e t := by
  cases o with
  | none => simp [putO]
  | some d =>
    simp only [putO, get_put, Option.some.injEq]
    by_cases h : t = d
    · subst h; simp
    · rw [if_neg h, if_neg (Ne.symm h)]

theorem free_trace {stk : List Fr} {f ntmps : Nat} {path : Path} {ops : Array Oper} {K : St → Option (den (tyL (C.rts inst)))} {m : Nat} {r : den (tyL (C.rts inst))} (hok : ∀ i, i < m → freeOk ops m i = true) :
    ∀ (n k : Nat) (st : St), k + n = m → runFree s inst stk f ntmps path ops K (List.range' k n) st = some r →
      ∃ e dl, K { st with env := e, heap := Cq dl (fun _ => true) n k st.heap } = some r ∧ (∀ t, (∀ i, k ≤ i → i < m → dstAt ops i ≠ some t) → get e t = get st.env t) ∧
        ∀ i, k ≤ i → i < m → OpDone s inst stk f ntmps path ops st e i (dl i) (Cq dl (fun j => Nat.blt j i) n k st.heap) := by
  have hedge0 : ∀ i o, i < m → ops[i]? = some o → ∀ e ∈ o.after.toList, Region.binds .any e = true → e.on < i := fun i o hi ho => freeOk_edge (hok i hi) ho
  have blt_t : ∀ {a b : Nat}, a < b → Nat.blt a b = true := fun h => Nat.ble_eq_true_of_le h
  have blt_f : ∀ {a b : Nat}, b ≤ a → Nat.blt a b = false := fun {a b} h => by
    cases hb : Nat.blt a b with
    | false => rfl
    | true => have := Nat.le_of_ble_eq_true hb; omega
  intro n
  induction n with
  | zero =>
    intro k st hk h
    exact ⟨st.env, fun _ => none, h, fun _ _ => rfl, fun i h1 h2 => by omega⟩
  | succ n ih =>
    intro k st hk h
    rw [List.range'_succ] at h
    simp only [runFree] at h
    split at h
    · cases h
    · rename_i o ho
      split at h
      · cases h
      · rename_i hdst
        have hd : ∀ d, o.dst = some d → d < ntmps := by
          intro d hd
          rw [hd] at hdst
          exact Nat.lt_of_succ_le (Nat.le_of_ble_eq_true hdst)
        have F := freeOk_at (hok k (by omega)) ho (by omega)
        have hdk : dstAt ops k = o.dst := by simp [dstAt, ho]
        -- the steps behind
        have go : ∀ (st' : St) (v : AV) (dk : Option (Nat × Blk)), st'.heap = st.heap → st'.salt = st.salt → (∀ t, get st'.env t = get st.env t) →
            runFree s inst stk f ntmps path ops K (List.range' (k + 1) n) { st' with env := putO st'.env o.dst v, heap := app dk st.heap } = some r →
            ∃ e dl, dl k = dk ∧ K { st with env := e, heap := Cq dl (fun _ => true) (n + 1) k st.heap } = some r ∧ (∀ t, (∀ i, k ≤ i → i < m → dstAt ops i ≠ some t) → get e t = get st.env t) ∧
              (∀ i, k + 1 ≤ i → i < m → OpDone s inst stk f ntmps path ops st e i (dl i) (Cq dl (fun j => Nat.blt j i) (n + 1) k st.heap)) ∧ (∀ d, o.dst = some d → get e d = v) ∧
              (∀ t j, j < k → dstAt ops j = some t → get e t = get st.env t) ∧ ∀ x ∈ reads o.op, ev e x = ev st'.env x := by
          intro st' v dk hh hsl hg hrun
          obtain ⟨e, dl0, h1, h2, h3⟩ := ih (k + 1) _ (by omega) hrun
          have unaff : ∀ t, (∀ i, k + 1 ≤ i → i < m → dstAt ops i ≠ some t) → o.dst ≠ some t → get e t = get st.env t := by
            intro t ht hne
            rw [h2 t ht]
            show get (putO st'.env o.dst v) t = _
            rw [get_putO, if_neg hne]
            exact hg t
          have old : ∀ t j, j < k → dstAt ops j = some t → get e t = get st.env t := by
            intro t j hj hdj
            obtain ⟨oj, hoj⟩ : ∃ oj, ops[j]? = some oj := by
              unfold dstAt at hdj
              cases hx : ops[j]? with
              | none => rw [hx] at hdj; cases hdj
              | some oj => exact ⟨oj, rfl⟩
            have Fj := freeOk_at (hok j (by omega)) hoj (by omega)
            have hojd : oj.dst = some t := by simpa [dstAt, hoj] using hdj
            refine unaff t (fun i h1 h2 => Fj.dst t hojd i h2 (by omega)) ?_
            rw [← hdk]
            exact Fj.dst t hojd k (by omega) (by omega)
          let dl : Nat → Option (Nat × Blk) := fun j => match Nat.beq j k with
            | true => dk
            | false => dl0 j
          have dlk : dl k = dk := by show (match Nat.beq k k with | true => dk | false => dl0 k) = dk; rw [beq_self]
          have dlj : ∀ j, k < j → dl j = dl0 j := fun j hj => by show (match Nat.beq j k with | true => dk | false => dl0 j) = dl0 j; rw [beq_ne (by omega : j ≠ k)]
          have hC : ∀ p : Nat → Bool, p k = true → Cq dl p (n + 1) k st.heap = Cq dl0 p n (k + 1) (app dk st.heap) := by
            intro p hp
            simp only [Cq, hp, dlk]
            exact Cq_congr n (k + 1) _ fun j h1 h2 => ⟨dlj j (by omega), fun _ => rfl⟩
          refine ⟨e, dl, dlk, ?_, fun t ht => unaff t (fun i h1 h2 => ht i (by omega) h2) (by rw [← hdk]; exact ht k (by omega) (by omega)), fun i h1 h2 => ?_, fun d hd => ?_, old, fun x hx => ?_⟩
          · rw [hC (fun _ => true) rfl]
            have : ({ st with env := e, heap := Cq dl0 (fun _ => true) n (k + 1) (app dk st.heap) } : St) = { env := e, heap := Cq dl0 (fun _ => true) n (k + 1) (app dk st.heap), salt := st'.salt } := by rw [hsl]
            rw [this]; exact h1
          · have := h3 i h1 h2
            rw [hC (fun j => Nat.blt j i) (blt_t h1), dlj i h1]
            unfold OpDone at this ⊢
            simpa only [hsl] using this
          · rw [h2 d (fun i h1 h2 => F.dst d hd i h2 (by omega))]
            show get (putO st'.env o.dst v) d = v
            rw [get_putO, if_pos hd]
          · refine ev_get fun t ht => ?_
            subst ht
            rw [hg t]
            by_cases hex : ∃ j, j < m ∧ dstAt ops j = some t
            · obtain ⟨j, hj, hdj⟩ := hex
              have hjk := bindsT_lt hedge0 5 _ o j (by omega) ho (F.sees t hx j hj hdj)
              exact old t j hjk hdj
            · exact unaff t (fun i _ h2 hdi => hex ⟨i, h2, hdi⟩) (by rw [← hdk]; exact fun hdi => hex ⟨k, by omega, hdi⟩)
        have here : ∀ dl : Nat → Option (Nat × Blk), Cq dl (fun j => Nat.blt j k) (n + 1) k st.heap = st.heap := fun dl => Cq_none _ _ _ fun j h1 _ _ => blt_f h1
        have fin : ∀ (st' : St), st'.heap = st.heap → st'.salt = st.salt → (∀ t, get st'.env t = get st.env t) → (∀ j want, o.guard = some (j, want) → ∃ d, dstAt ops j = some d ∧ get st.env d = .bool want) →
            doFree s inst stk f path k (List.range' (k + 1) n) o (fun st => runFree s inst stk f ntmps path ops K (List.range' (k + 1) n) st) st' = some r →
            ∃ e dl, K { st with env := e, heap := Cq dl (fun _ => true) (n + 1) k st.heap } = some r ∧ (∀ t, (∀ i, k ≤ i → i < m → dstAt ops i ≠ some t) → get e t = get st.env t) ∧ ∀ i, k ≤ i → i < m → OpDone s inst stk f ntmps path ops st e i (dl i) (Cq dl (fun j => Nat.blt j i) (n + 1) k st.heap) := by
          intro st' hh hsl hg hgu hdo
          unfold doFree at hdo
          split at hdo
          case h_2 => cases hdo
          rename_i hca
          obtain ⟨v, dk, hk0, hk1, hk2⟩ := free_do hca hdo
          rw [hh] at hk1
          obtain ⟨e, dl, e0, e1, e2, e3, e4, e5, e6⟩ := go st' v dk hh hsl hg hk1
          refine ⟨e, dl, e1, e2, fun i h1 h2 => ?_⟩
          by_cases hik : i = k
          · subst hik
            rw [here, e0]
            have hla : lookAt o.op e = lookAt o.op st'.env := lookAt_congr e6
            refine ⟨o, ho, hd, fun T b hb => by rw [hla]; exact hk0 T b hb, .inl ⟨v, e4, fun rest K' e' h' he hl => ?_, fun j want hgd => ?_⟩⟩
            · have := hk2 rest K' e' h' (fun x hx => (he x hx).trans (e6 x hx)) (fun hli => by have := hl hli; unfold SameAt at this ⊢; rw [← hla, hh]; exact this)
              have q : ({ st with env := e', heap := h' } : St) = { st' with env := e', heap := h' } := by rw [← hsl]
              have q2 : ({ st with env := putO e' o.dst v, heap := app dk h' } : St) = { st' with env := putO e' o.dst v, heap := app dk h' } := by rw [← hsl]
              rw [q, q2]; exact this
            · obtain ⟨d, hd1, hd2⟩ := hgu j want hgd
              obtain ⟨hjm, hjb⟩ := F.guard j want hgd
              exact ⟨d, hd1, by rw [e5 d j (bindsT_lt hedge0 5 _ o j (by omega) ho hjb) hd1]; exact hd2⟩
          · exact e3 i (by omega) h2
        have skip : ∀ (st' : St), st'.heap = st.heap → st'.salt = st.salt → (∀ t, get st'.env t = get st.env t) → (∃ j want d, o.guard = some (j, want) ∧ dstAt ops j = some d ∧ Off (get st.env d) want) →
            runFree s inst stk f ntmps path ops K (List.range' (k + 1) n) { st' with env := putO st'.env o.dst (.cst undef) } = some r →
            ∃ e dl, K { st with env := e, heap := Cq dl (fun _ => true) (n + 1) k st.heap } = some r ∧ (∀ t, (∀ i, k ≤ i → i < m → dstAt ops i ≠ some t) → get e t = get st.env t) ∧ ∀ i, k ≤ i → i < m → OpDone s inst stk f ntmps path ops st e i (dl i) (Cq dl (fun j => Nat.blt j i) (n + 1) k st.heap) := by
          intro st' hh hsl hg hgu hdo
          obtain ⟨e, dl, e0, e1, e2, e3, e4, e5, e6⟩ := go st' (.cst undef) none hh hsl hg (by rw [← hh]; exact hdo)
          refine ⟨e, dl, e1, e2, fun i h1 h2 => ?_⟩
          by_cases hik : i = k
          · subst hik
            obtain ⟨j, want, d, hgd, hd1, hd2⟩ := hgu
            obtain ⟨hjm, hjb⟩ := F.guard j want hgd
            rw [here, e0]
            exact ⟨o, ho, hd, fun _ _ h => (by cases h), .inr ⟨rfl, e4, j, want, d, hgd, hd1, by rw [e5 d j (bindsT_lt hedge0 5 _ o j (by omega) ho hjb) hd1]; exact hd2⟩⟩
          · exact e3 i (by omega) h2
        split at h
        · rename_i hg
          exact fin st rfl rfl (fun _ => rfl) (fun j want h' => by rw [hg] at h'; cases h') h
        · rename_i j want hg
          split at h
          · cases h
          · rename_i d hjd
            have hjd : dstAt ops j = some d := hjd
            split at h
            · rename_i g hgd
              obtain ⟨hjm, hjb⟩ := F.guard j want hg
              have knw : ∀ b, g = b → ∀ t, get (put st.env d (.bool b)) t = get st.env t := fun b hb t => get_known (by rw [hgd, hb]) t
              split at h
              · cases hge : g with
                | true =>
                  rw [hge] at h
                  exact fin { st with env := put st.env d (.bool true) } rfl rfl (knw true hge) (fun j' want' h' => by rw [hg] at h'; cases h'; exact ⟨d, hjd, by rw [hgd, hge]⟩) h
                | false =>
                  rw [hge] at h
                  exact skip { st with env := put st.env d (.bool false) } rfl rfl (knw false hge) ⟨j, true, d, hg, hjd, .inl (by rw [hgd, hge]; rfl)⟩ h
              · cases hge : g with
                | true =>
                  rw [hge] at h
                  exact skip { st with env := put st.env d (.bool true) } rfl rfl (knw true hge) ⟨j, false, d, hg, hjd, .inl (by rw [hgd, hge]; rfl)⟩ h
                | false =>
                  rw [hge] at h
                  exact fin { st with env := put st.env d (.bool false) } rfl rfl (knw false hge) (fun j' want' h' => by rw [hg] at h'; cases h'; exact ⟨d, hjd, by rw [hgd, hge]⟩) h
            · rename_i v hgd
              split at h
              · cases h
              · rename_i hnb
                exact skip st rfl rfl (fun _ => rfl) ⟨j, want, d, hg, hjd, .inr ⟨v, hgd, fun b hb => hnb b hb⟩⟩ h
            · cases h

/-! ### any order -/
theorem ready_spec {ops : Array Oper} {listed : Array Bool} {i : Nat} (h : i ∈ Region.ready .any ops listed) : i < ops.size ∧ listed.getD i true = false ∧ ∃ o, ops[i]? = some o ∧ ∀ e ∈ o.after.toList, Region.binds .any e = true → listed.getD e.on false = true := by
  unfold Region.ready at h
  simp only [List.mem_filter, List.mem_range, Bool.and_eq_true, Bool.not_eq_true'] at h
  obtain ⟨h1, h2, h3⟩ := h
  refine ⟨h1, h2, ops[i], Array.getElem?_eq_getElem h1, fun e he hb => ?_⟩
  rw [Array.getElem?_eq_getElem h1] at h3
  simp only [Option.map_some, Option.getD_some, Array.all_eq_true'] at h3
  have := h3 e (Array.mem_toList_iff.1 he)
  rw [hb] at this
  simpa using this

theorem ready_of {ops : Array Oper} {listed : Array Bool} {i : Nat} {o : Oper} (h1 : listed.getD i true = false) (ho : ops[i]? = some o) (h : ∀ e ∈ o.after.toList, Region.binds .any e = true → listed.getD e.on false = true) :
    i ∈ Region.ready .any ops listed := by
  unfold Region.ready
  have hi : i < ops.size := by
    rcases Nat.lt_or_ge i ops.size with h | h
    · exact h
    · rw [Array.getElem?_eq_none h] at ho; cases ho
  simp only [List.mem_filter, List.mem_range, Bool.and_eq_true, Bool.not_eq_true']
  refine ⟨hi, h1, ?_⟩
  rw [ho]
  simp only [Option.map_some, Option.getD_some, Array.all_eq_true']
  intro e he
  cases hb : Region.binds .any e with
  | false => rfl
  | true => simp [h e (Array.mem_toList_iff.2 he) hb]

/-- The number of those that wait. -/
def waits (listed : Array Bool) : Nat → Nat
  | 0 => 0
  | k + 1 => waits listed k + (match listed.getD k true with
    | true => 0
    | false => 1)

theorem getD_set (listed : Array Bool) (i k : Nat) (d : Bool) (hi : i < listed.size) : (listed.setIfInBounds i true).getD k d = if k = i then true else listed.getD k d := by
  simp only [Array.getD_eq_getD_getElem?]
  by_cases h : k = i
  · subst h; rw [if_pos rfl]; simp [hi]
  · rw [if_neg h, Array.getElem?_setIfInBounds_ne (Ne.symm h)]

theorem waits_set (listed : Array Bool) (i : Nat) (hi : i < listed.size) (hl : listed.getD i true = false) : ∀ k, waits (listed.setIfInBounds i true) k + (if i < k then 1 else 0) = waits listed k
  | 0 => by simp [waits]
  | k + 1 => by
    have ih := waits_set listed i hi hl k
    simp only [waits]
    rw [getD_set _ _ _ _ hi]
    by_cases h : k = i
    · subst h
      rw [if_pos rfl, hl]
      simp only [Nat.lt_irrefl, if_false, Nat.add_zero] at ih
      simp [ih]
    · rw [if_neg h]
      by_cases h2 : i < k
      · rw [if_pos (by omega)]; rw [if_pos h2] at ih; omega
      · rw [if_neg (by omega)]; rw [if_neg h2] at ih; omega

theorem waits_pos (listed : Array Bool) {i : Nat} (hl : listed.getD i true = false) : ∀ k, i < k → 1 ≤ waits listed k
  | 0, h => by omega
  | k + 1, h => by
    simp only [waits]
    by_cases hk : i = k
    · subst hk; rw [hl]; simp
    · have := waits_pos listed hl k (by omega); omega

theorem least {p : Nat → Prop} : ∀ i, p i → ∃ k, k ≤ i ∧ p k ∧ ∀ j, j < k → ¬ p j := by
  intro i
  induction i using Nat.strongRecOn with
  | _ i ih =>
    intro h
    by_cases hex : ∃ j, j < i ∧ p j
    · obtain ⟨j, hj, hp⟩ := hex
      obtain ⟨k, h1, h2, h3⟩ := ih j hj hp
      exact ⟨k, by omega, h2, h3⟩
    · exact ⟨i, Nat.le_refl _, h, fun j hj hp => hex ⟨j, hj, hp⟩⟩

/-- The first that waits may go, its edges going back. -/
theorem ready_least {ops : Array Oper} {listed : Array Bool} (hsz : listed.size = ops.size) (hedge : ∀ i o, ops[i]? = some o → ∀ e ∈ o.after.toList, Region.binds .any e = true → e.on < i) {i0 : Nat} (h0 : i0 < ops.size) (hl : listed.getD i0 true = false) :
    ∃ k, k ≤ i0 ∧ k ∈ Region.ready .any ops listed := by
  obtain ⟨k, h1, h2, h3⟩ := least (p := fun i => listed.getD i true = false) i0 hl
  have hk : k < ops.size := by omega
  refine ⟨k, h1, ready_of h2 (Array.getElem?_eq_getElem hk) fun e he hb => ?_⟩
  have hlt := hedge k _ (Array.getElem?_eq_getElem hk) e he hb
  have := h3 e.on hlt
  simp only [Bool.not_eq_false] at this
  have hin : e.on < listed.size := by omega
  simp only [Array.getD_eq_getD_getElem?, Array.getElem?_eq_getElem hin, Option.getD_some] at this ⊢
  exact this

theorem pick_some {l : List Nat} (t : Nat) (h : l ≠ []) : ∃ i, l[t % l.length]? = some i ∧ i ∈ l := by
  have hpos : 0 < l.length := by cases l with
    | nil => exact absurd rfl h
    | cons a l => simp
  have hlt := Nat.mod_lt t hpos
  exact ⟨l[t % l.length], List.getElem?_eq_getElem hlt, List.getElem_mem hlt⟩

theorem go_next {ops : Array Oper} {listed : Array Bool} (fuel t : Nat) {i : Nat} (h : (Region.ready .any ops listed)[t % (Region.ready .any ops listed).length]? = some i) :
    Region.linearise.go .any ops (fuel + 1) t listed [] = i :: Region.linearise.go .any ops fuel (t / (Region.ready .any ops listed).length) (listed.setIfInBounds i true) [] := by
  simp only [Region.linearise.go]
  show (match (Region.ready .any ops listed)[t % (Region.ready .any ops listed).length]? with
    | some i => Region.linearise.go .any ops fuel (t / (Region.ready .any ops listed).length) (listed.setIfInBounds i true) [i]
    | none => [].reverse) = _
  rw [h]
  simp only
  rw [linearise_go_acc]
  rfl

/-- What is done has done all that it waits for. -/
def Closed (ops : Array Oper) (listed : Array Bool) : Prop := ∀ i o, ops[i]? = some o → listed.getD i false = true → ∀ e ∈ o.after.toList, Region.binds .any e = true → listed.getD e.on false = true

theorem bindsT_listed {ops : Array Oper} {listed : Array Bool} (hcl : Closed ops listed) : ∀ (n : Nat) (o : Oper) (j : Nat), (∀ e ∈ o.after.toList, Region.binds .any e = true → listed.getD e.on false = true) → bindsT ops n o j = true → listed.getD j false = true := by
  have one : ∀ (o : Oper) (j : Nat), (∀ e ∈ o.after.toList, Region.binds .any e = true → listed.getD e.on false = true) → bindsOn o j = true → listed.getD j false = true := by
    intro o j h hb
    unfold bindsOn at hb
    obtain ⟨e, he, hb⟩ := List.any_eq_true.1 hb
    simp only [Bool.and_eq_true] at hb
    have := h e he hb.1
    rwa [beq_true hb.2] at this
  intro n
  induction n with
  | zero => exact fun o j h hb => one o j h hb
  | succ n ih =>
    intro o j h hb
    unfold bindsT at hb
    split at hb
    · rename_i hb'; exact one o j h hb'
    · obtain ⟨e, he, hb⟩ := List.any_eq_true.1 hb
      split at hb
      · rename_i hbe
        split at hb
        · rename_i o' ho'
          exact ih o' j (hcl e.on o' ho' (h e he hbe)) hb
        · cases hb
      · cases hb

theorem getD_setF (listed : Array Bool) (i k : Nat) (hi : i < listed.size) : (listed.setIfInBounds i true).getD k false = if k = i then true else listed.getD k false := getD_set listed i k false hi

theorem Closed.set {ops : Array Oper} {listed : Array Bool} (hcl : Closed ops listed) {i : Nat} (hi : i < listed.size) {o : Oper} (ho : ops[i]? = some o) (h : ∀ e ∈ o.after.toList, Region.binds .any e = true → listed.getD e.on false = true) :
    Closed ops (listed.setIfInBounds i true) := by
  intro k o' ho' hk e he hb
  rw [getD_setF _ _ _ hi] at hk ⊢
  by_cases hki : k = i
  · subst hki
    rw [ho] at ho'; cases ho'
    split
    · rfl
    · exact h e he hb
  · rw [if_neg hki] at hk
    split
    · rfl
    · exact hcl k o' ho' hk e he hb

/-- The tail goes in its order. -/
theorem go_tail {ops : Array Oper} (hedge : ∀ i o, ops[i]? = some o → ∀ e ∈ o.after.toList, Region.binds .any e = true → e.on < i) :
    ∀ (n k fuel t : Nat) (listed : Array Bool), Closed ops listed → k + n = ops.size → n ≤ fuel → listed.size = ops.size → (∀ i, i < k → listed.getD i true = true) → (∀ i, k ≤ i → i < ops.size → listed.getD i true = false) →
      (∀ i o, k ≤ i → ops[i]? = some o → ∀ j, j < i → bnd ops o j = true) → Region.linearise.go .any ops fuel t listed [] = List.range' k n := by
  intro n
  induction n with
  | zero =>
    intro k fuel t listed hcl hk hf hsz h1 h2 h3
    have hnil : Region.ready .any ops listed = [] := by
      cases hr : Region.ready .any ops listed with
      | nil => rfl
      | cons a l =>
        obtain ⟨q1, q2, _⟩ := ready_spec (ops := ops) (listed := listed) (i := a) (by rw [hr]; simp)
        rw [h1 a (by omega)] at q2; cases q2
    cases fuel with
    | zero => rfl
    | succ fuel =>
      simp only [Region.linearise.go]
      show (match (Region.ready .any ops listed)[t % (Region.ready .any ops listed).length]? with
        | some i => Region.linearise.go .any ops fuel (t / (Region.ready .any ops listed).length) (listed.setIfInBounds i true) [i]
        | none => [].reverse) = _
      rw [hnil]; rfl
  | succ n ih =>
    intro k fuel t listed hcl hk hf hsz h1 h2 h3
    obtain ⟨fuel, rfl⟩ : ∃ f, fuel = f + 1 := ⟨fuel - 1, by omega⟩
    have hkl : k < ops.size := by omega
    obtain ⟨k', hk', hrk⟩ := ready_least hsz hedge hkl (h2 k (Nat.le_refl _) hkl)
    obtain ⟨i, hi, him⟩ := pick_some t (l := Region.ready .any ops listed) (by intro h; rw [h] at hrk; cases hrk)
    have hik : i = k := by
      obtain ⟨q1, q2, o, q3, q4⟩ := ready_spec him
      rcases Nat.lt_trichotomy i k with h | h | h
      · rw [h1 i h] at q2; cases q2
      · exact h
      · have hb := h3 i o (by omega) q3 k h
        have := bindsT_listed hcl 5 o k q4 hb
        have h2k := h2 k (Nat.le_refl _) hkl
        simp only [Array.getD_eq_getD_getElem?, Array.getElem?_eq_getElem (show k < listed.size by omega), Option.getD_some] at this h2k
        rw [this] at h2k; cases h2k
    subst hik
    rw [go_next fuel t hi, List.range'_succ]
    congr 1
    obtain ⟨q1, q2, o, q3, q4⟩ := ready_spec him
    refine ih (i + 1) fuel _ _ (hcl.set (by omega) q3 q4) (by omega) (by omega) (by simp [hsz]) (fun j hj => ?_) (fun j hj1 hj2 => ?_) (fun j o hj ho l hl => h3 j o (by omega) ho l hl)
    · rw [getD_set _ _ _ _ (by omega)]
      by_cases h : j = i
      · rw [if_pos h]
      · rw [if_neg h]; exact h1 j (by omega)
    · rw [getD_set _ _ _ _ (by omega), if_neg (by omega)]
      exact h2 j (by omega) hj2

/-- Of what waits, nothing is known. -/
def mask (ops : Array Oper) (listed : Array Bool) (e : Env) : Nat → Env
  | 0 => e
  | k + 1 => match listed.getD k true with
    | true => mask ops listed e k
    | false => putO (mask ops listed e k) (dstAt ops k) .undef

theorem get_mask (ops : Array Oper) (listed : Array Bool) (e : Env) (t : Nat) : ∀ k, get (mask ops listed e k) t = .undef ∨ (get (mask ops listed e k) t = get e t ∧ ∀ i, i < k → listed.getD i true = false → dstAt ops i ≠ some t)
  | 0 => .inr ⟨rfl, fun i h => by omega⟩
  | k + 1 => by
    simp only [mask]
    cases hl : listed.getD k true with
    | true =>
      simp only
      refine (get_mask ops listed e t k).imp id fun ⟨h1, h2⟩ => ⟨h1, fun i hi hli => ?_⟩
      by_cases h : i = k
      · subst h; rw [hl] at hli; cases hli
      · exact h2 i (by omega) hli
    | false =>
      simp only
      rw [get_putO]
      by_cases hd : dstAt ops k = some t
      · rw [if_pos hd]; exact .inl rfl
      · rw [if_neg hd]
        refine (get_mask ops listed e t k).imp id fun ⟨h1, h2⟩ => ⟨h1, fun i hi hli => ?_⟩
        by_cases h : i = k
        · subst h; exact hd
        · exact h2 i (by omega) hli

theorem get_mask_on (ops : Array Oper) (listed : Array Bool) (e : Env) (t : Nat) : ∀ k, (∀ i, i < k → listed.getD i true = false → dstAt ops i ≠ some t) → get (mask ops listed e k) t = get e t
  | 0, _ => rfl
  | k + 1, h => by
    simp only [mask]
    have ih := get_mask_on ops listed e t k fun i hi => h i (by omega)
    cases hl : listed.getD k true with
    | true => exact ih
    | false => simp only; rw [get_putO, if_neg (h k (by omega) hl)]; exact ih

end

section
variable (hC : CtxOk P C) {s : Sm C} (hS : SpecOk P s) (hG : StageOk P s) {inst : Nat} {r : den (tyL (C.rts inst))} {w0 : World} {fz0 : Nat → Prop} (hfz0 : ∀ b, fz0 b → b < w0.heap.size) (hinv : C.inv w0)
variable {f : Nat} {fn : Func} {body : Code} (hfn : C.fn f = some fn) (hbody : fn.body = some body)

theorem SR.env_ext {x : Cx} {nt : Nat} {st : St} {a : Act} {w : World} {e' : Env} (h : SR x w0 fz0 nt st a w) (he : ∀ t, get e' t = .undef ∨ get e' t = get st.env t) : SR x w0 fz0 nt { st with env := e' } a w :=
  ⟨h.hp, h.H, fun t => by
    rcases he t with h' | h'
    · show RV x (get e' t) _; rw [h']; exact .undef _
    · show RV x (get e' t) _; rw [h']; exact h.env t, h.size, h.defers, h.hr, h.fz, h.bel⟩

/-- The same blocks in another row. -/
theorem heap_ext {x : Cx} {nt f0 f : Nat} {st : St} {a : Act} {w : World} {stk : List Fr} {fs : List Frame} {h : Heap} (hR : SR x w0 fz0 nt st a w) (hF : FrsR C f0 x stk fs f) (hh : ∀ U, hget h U = hget st.heap U) :
    ∃ x', SR x' w0 fz0 nt { st with heap := h } a w ∧ FrsR C f0 x' stk fs f := by
  let x' : Cx := { x with H := h }
  have hx : ∀ U, hget x'.H U = hget x.H U := fun U => by rw [hR.H]; exact hh U
  have E : Ext x x' (fun _ => True) := ⟨fun _ hb => ⟨hb, rfl⟩, .refl _, fun T _ t l' ha => ⟨l', by unfold AF at ha ⊢; rwa [hx] at ha, rfl, rfl⟩, fun T _ cs' ha => ⟨cs', by rwa [hx] at ha, rfl⟩⟩
  have hr := hR.hr
  refine ⟨x', ⟨hR.hp, rfl, hR.env.mono E fun _ _ => trivial, hR.size, hR.defers, ⟨fun tok b hb => ?_, fun t1 t2 b o1 o2 => ?_, hr.size⟩, hR.fz, hR.bel⟩, hF.mono E fun _ _ => trivial⟩
  · rw [hx] at hb
    have := hr.blk tok b hb
    cases b with
    | arr t l => exact this
    | fro t l => exact this
    | box cs =>
      obtain ⟨b, c, e, fr, h1, h2, h3, h4, h5, h6, h7⟩ := this
      exact ⟨b, c, e, fr, h1, h2, h3, h4, h5, h6, RVL.mono E h7 fun _ _ => trivial⟩
  · refine hr.inj t1 t2 b ?_ ?_
    · unfold Owns at o1 ⊢; simp only [hx] at o1; exact o1
    · unfold Owns at o2 ⊢; simp only [hx] at o2; exact o2

include hC hS hG hfz0 hinv hfn hbody in
theorem free_any {path : Path} {id : Nat} {ops : Array Oper} {draw : Bool} {stk : List Fr} {fs : List Frame} {K : St → Option (den (tyL (C.rts inst)))} (hat : codeAt body path = some (.region id ops draw))
    (hK : ∀ st x a w, K st = some r → SR x w0 fz0 fn.ntmps st a w → FrsR C (C.fid inst) x stk fs f → FinS P C w0 fz0 inst r (mk f a (ctxOf body path)) fs w)
    {m : Nat} (hm : m ≤ ops.size) (hok : ∀ i, i < ops.size → freeOk ops m i = true)  (htl : ∀ i o, m ≤ i → ops[i]? = some o → ∀ j, j < i → bnd ops o j = true) {st : St} {e : Env} {dl : Nat → Option (Nat × Blk)}
    (hdone : ∀ i, i < m → OpDone s inst stk f fn.ntmps path ops st e i (dl i) (Cq dl (fun j => Nat.blt j i) m 0 st.heap)) (hend : endOk ops m e = true) (hrun : runOps s inst stk f fn.ntmps path ops K (List.range' m (ops.size - m)) { st with env := e, heap := Cq dl (fun _ => true) m 0 st.heap } = some r) :
    ∀ (fuel t : Nat) (listed : Array Bool) (x : Cx) (a : Act) (w : World), Closed ops listed → listed.size = ops.size → (∀ i, m ≤ i → i < ops.size → listed.getD i true = false) → waits listed ops.size ≤ fuel →
      SR x w0 fz0 fn.ntmps { st with env := mask ops listed e m, heap := Cq dl (fun j => listed.getD j false) m 0 st.heap } a w → FrsR C (C.fid inst) x stk fs f → FinS P C w0 fz0 inst r (mk f a (.inRegion ops (Region.linearise.go .any ops fuel t listed []) :: ctxOf body path)) fs w := by
  have hedge : ∀ i o, ops[i]? = some o → ∀ e ∈ o.after.toList, Region.binds .any e = true → e.on < i := by
    intro i o ho
    have hi : i < ops.size := by
      rcases Nat.lt_or_ge i ops.size with h | h
      · exact h
      · rw [Array.getElem?_eq_none h] at ho; cases ho
    exact freeOk_edge (hok i hi) ho
  have getF : ∀ (listed : Array Bool) (j : Nat), listed.getD j true = false → listed.getD j false = false := fun listed j h => by
    simp only [Array.getD_eq_getD_getElem?] at h ⊢
    cases hx : listed[j]? with
    | none => rfl
    | some y => rw [hx] at h; simpa using h
  have allq : ∀ listed : Array Bool, (∀ i, i < m → listed.getD i true = true) → listed.size = ops.size → Cq dl (fun j => listed.getD j false) m 0 st.heap = Cq dl (fun _ => true) m 0 st.heap := by
    intro listed h hsz
    refine Cq_congr m 0 _ fun j _ hj => ⟨rfl, fun _ => ?_⟩
    have := h j (by omega)
    simp only [Array.getD_eq_getD_getElem?, Array.getElem?_eq_getElem (show j < listed.size by omega), Option.getD_some] at this ⊢
    exact this
  intro fuel
  induction fuel with
  | zero =>
    intro t listed x a w hcl hsz hl hw hR hF
    have hall : ∀ i, i < ops.size → listed.getD i true = true := fun i hi => by
      cases h : listed.getD i true with
      | true => rfl
      | false => have := waits_pos listed h ops.size hi; omega
    have hn : ops.size = m := by
      rcases Nat.lt_or_ge m ops.size with h | h
      · have h1 := hl m (Nat.le_refl _) h; rw [hall m h] at h1; cases h1
      · omega
    rw [hn] at hrun
    simp only [Nat.sub_self, List.range'_zero] at hrun
    rw [allq listed (fun i hi => hall i (by omega)) hsz] at hR
    refine Fin.of_step (fun cs => step_region_end) (hK _ x a w hrun (hR.env_ext (e' := e) fun t => .inr ?_) hF)
    exact (get_mask_on ops listed e t m fun i hi h => by rw [hall i (by omega)] at h; cases h).symm
  | succ fuel ih =>
    intro t listed x a w hcl hsz hl hw hR hF
    by_cases hex : ∃ i, i < m ∧ listed.getD i true = false
    · obtain ⟨i0, hi0, hl0⟩ := hex
      obtain ⟨k', _, hrk⟩ := ready_least hsz hedge (show i0 < ops.size by omega) hl0
      obtain ⟨i, hi, him⟩ := pick_some t (l := Region.ready .any ops listed) (by intro h; rw [h] at hrk; cases hrk)
      obtain ⟨q1, q2, o, q3, q4⟩ := ready_spec him
      have lst : ∀ j, bnd ops o j = true → listed.getD j true = true := by
        intro j hb
        have := bindsT_listed hcl 5 o j q4 hb
        rcases Nat.lt_or_ge j listed.size with h | h
        · simp only [Array.getD_eq_getD_getElem?, Array.getElem?_eq_getElem h, Option.getD_some] at this ⊢
          exact this
        · simp only [Array.getD_eq_getD_getElem?, Array.getElem?_eq_none h, Option.getD_none] at this; cases this
      have him : i < m := by
        rcases Nat.lt_or_ge i m with h | h
        · exact h
        · have := lst i0 (htl i o h q3 i0 (by omega))
          rw [hl0] at this; cases this
      have F := freeOk_at (hok i q1) q3 him
      have hdi : dstAt ops i = o.dst := by simp [dstAt, q3]
      rw [go_next fuel t hi]
      obtain ⟨o', ho', hd, hst, hcase⟩ := hdone i him
      rw [q3] at ho'; cases ho'
      have q2' := getF listed i q2
      -- a guard lets it out, or not
      have isoff : ∀ (o : Oper) (j : Nat) (want : Bool) (d : Nat), o.guard = some (j, want) → dstAt ops j = some d → get e d = .bool want → offAt ops e o = false := by
        intro o j want d h1 h2 h3
        unfold offAt
        rw [h1]
        simp only [h2, h3]
        cases want <;> rfl
      have noff : ∀ o : Oper, o.guard = none → offAt ops e o = false := fun o h => by unfold offAt; rw [h]
      -- stores, and this one
      have stores : ∀ j, j < m → ∀ T b, dl j = some (T, b) → j ≠ i → light o.op = false → offAt ops e o = false → (j < i ∧ listed.getD j false = true) ∨ (i < j ∧ listed.getD j false = false) ∨ ∃ T', lookAt o.op e = some T' ∧ T ≠ T' := by
        intro j hj T b hdj hne hli hof
        obtain ⟨oj, hoj, _, hstj, hcj⟩ := hdone j hj
        obtain ⟨hs1, hs2⟩ := hstj T b hdj
        have hoffj : offAt ops e oj = false := by
          rcases hcj with ⟨_, _, _, hgu⟩ | ⟨hn, _⟩
          · cases hg : oj.guard with
            | none => exact noff oj hg
            | some p =>
              obtain ⟨j', want⟩ := p
              obtain ⟨d, hd1, hd2⟩ := hgu j' want hg
              exact isoff oj j' want d hg hd1 hd2
          · rw [hn] at hdj; cases hdj
        have h1 := List.all_eq_true.1 hend j (List.mem_range.2 hj)
        rw [hoj] at h1
        simp only [storeEnd, hs1, hoffj] at h1
        have h2 := List.all_eq_true.1 h1 i (List.mem_range.2 him)
        rw [q3] at h2
        simp only [pairOk, beq_ne (Ne.symm hne), hli, Bool.or_false] at h2
        split at h2
        · rename_i hor
          rw [Bool.or_eq_true, Bool.and_eq_true, Bool.and_eq_true] at hor
          rcases hor with ⟨h3, h4⟩ | ⟨h3, h4⟩
          · refine .inr (.inl ⟨Nat.lt_of_succ_le (Nat.le_of_ble_eq_true h3), ?_⟩)
            cases hl' : listed.getD j false with
            | false => rfl
            | true =>
              have := bindsT_listed hcl 5 oj i (hcl j oj hoj hl') h4
              rw [q2'] at this; cases this
          · refine .inl ⟨Nat.lt_of_succ_le (Nat.le_of_ble_eq_true h3), ?_⟩
            have := lst j h4
            simp only [Array.getD_eq_getD_getElem?, Array.getElem?_eq_getElem (show j < listed.size by omega), Option.getD_some] at this ⊢
            exact this
        · rw [hof, Bool.false_or] at h2
          unfold apart at h2
          rw [hs2] at h2
          cases hla : lookAt o.op e with
          | none => rw [hla] at h2; cases h2
          | some T' =>
            rw [hla] at h2
            refine .inr (.inr ⟨T', rfl, fun he => ?_⟩)
            subst he
            simp only [beq_self, Bool.not_true] at h2
            cases h2
      have side : ∀ j, (j < i ∧ listed.getD j false = true) ∨ (i < j ∧ listed.getD j false = false) → listed.getD j false = Nat.blt j i := by
        intro j h
        rcases h with ⟨h1, h2⟩ | ⟨h1, h2⟩
        · rw [h2]; exact (Nat.ble_eq_true_of_le h1 : Nat.blt j i = true).symm
        · rw [h2]
          cases hb : Nat.blt j i with
          | false => rfl
          | true => have := Nat.le_of_ble_eq_true hb; omega
      have bltii : Nat.blt i i = false := by
        cases hb : Nat.blt i i with
        | false => rfl
        | true => have := Nat.le_of_ble_eq_true hb; omega
      have heq : offAt ops e o = false → light o.op = false → SameAt o e (Cq dl (fun j => listed.getD j false) m 0 st.heap) (Cq dl (fun j => Nat.blt j i) m 0 st.heap) := by
        intro hof hli
        unfold SameAt
        cases hla : lookAt o.op e with
        | some T' =>
          simp only
          refine Cq_get m 0 _ _ rfl fun j _ hj b hb => ?_
          by_cases hji : j = i
          · subst hji; rw [q2', bltii]
          · rcases stores j (by omega) T' b hb hji hli hof with h | h | ⟨T2, h1, h2⟩
            · exact side j (.inl h)
            · exact side j (.inr h)
            · rw [hla] at h1; cases h1; exact absurd rfl h2
        | none =>
          simp only
          refine Cq_congr m 0 _ fun j _ hj => ⟨rfl, fun hdj => ?_⟩
          by_cases hji : j = i
          · subst hji; rw [q2', bltii]
          · cases hx : dl j with
            | none => exact absurd hx hdj
            | some y =>
              obtain ⟨T, b⟩ := y
              rcases stores j (by omega) T b hx hji hli hof with h | h | ⟨T2, h1, h2⟩
              · exact side j (.inl h)
              · exact side j (.inr h)
              · rw [hla] at h1; cases h1
      have more : offAt ops e o = false ∨ dl i = none → ∀ U, hget (app (dl i) (Cq dl (fun j => listed.getD j false) m 0 st.heap)) U = hget (Cq dl (fun j => (listed.setIfInBounds i true).getD j false) m 0 st.heap) U := by
        intro hof U
        refine Cq_more (i := i) q2' (fun j => ?_) m 0 _ (Nat.zero_le _) (by omega) (fun T b hdi j hij b' hdj => ?_) U
        · rw [getD_setF _ _ _ (by omega)]
          by_cases hji : j = i
          · subst hji; rw [if_pos rfl, beq_self]; simp
          · rw [if_neg hji, beq_ne hji]; simp
        · rcases hof with hof | hof
          · obtain ⟨hs1, hs2⟩ := hst T b hdi
            have hli : light o.op = false := by cases hop : o.op <;> rw [hop] at hs1 <;> first | rfl | cases hs1
            rcases Nat.lt_or_ge j m with hjm | hjm
            · rcases stores j hjm T b' hdj (by omega) hli hof with ⟨h1, _⟩ | ⟨_, h2⟩ | ⟨T2, h1, h2⟩
              · omega
              · exact h2
              · rw [hs2] at h1; cases h1; exact absurd rfl h2
            · cases hs2 : Nat.blt j ops.size with
              | true => exact getF listed j (hl j hjm (Nat.lt_of_succ_le (Nat.le_of_ble_eq_true hs2)))
              | false =>
                have : ¬ j < ops.size := fun h => by rw [show Nat.blt j ops.size = true from Nat.ble_eq_true_of_le h] at hs2; cases hs2
                simp only [Array.getD_eq_getD_getElem?, Array.getElem?_eq_none (show listed.size ≤ j by omega), Option.getD_none]
          · rw [hof] at hdi; cases hdi
      -- the state behind it
      have next : ∀ (x' : Cx) (a' : Act) (w' : World) (v : AV), SR x' w0 fz0 fn.ntmps { st with env := putO (mask ops listed e m) o.dst v, heap := app (dl i) (Cq dl (fun j => listed.getD j false) m 0 st.heap) } a' w' → (∀ d, o.dst = some d → get e d = v) → (offAt ops e o = false ∨ dl i = none) → FrsR C (C.fid inst) x' stk fs f →
          FinS P C w0 fz0 inst r (mk f a' (.inRegion ops (Region.linearise.go .any ops fuel (t / (Region.ready .any ops listed).length) (listed.setIfInBounds i true) []) :: ctxOf body path)) fs w' := by
        intro x0 a' w' v hR0 hv hof hF0
        obtain ⟨x', hR', hF'⟩ := heap_ext hR0 hF0 (h := Cq dl (fun j => (listed.setIfInBounds i true).getD j false) m 0 st.heap) fun U => (more hof U).symm
        refine ih _ (listed.setIfInBounds i true) x' a' w' (hcl.set (by omega) q3 q4) (by simp [hsz]) (fun j h1 h2 => ?_) ?_ (SR.env_ext (st := { st with env := putO (mask ops listed e m) o.dst v, heap := Cq dl (fun j => (listed.setIfInBounds i true).getD j false) m 0 st.heap }) hR' (e' := mask ops (listed.setIfInBounds i true) e m) fun u => ?_) hF'
        · rw [getD_set _ _ _ _ (by omega), if_neg (by omega)]; exact hl j h1 h2
        · have := waits_set listed i (by omega) q2 ops.size
          rw [if_pos q1] at this; omega
        · show _ = _ ∨ _ = get (putO (mask ops listed e m) o.dst v) u
          rw [get_putO]
          rcases get_mask ops (listed.setIfInBounds i true) e u m with h | ⟨h1, h2⟩
          · exact .inl h
          · refine .inr ?_
            rw [h1]
            by_cases hd : o.dst = some u
            · rw [if_pos hd]; exact hv u hd
            · rw [if_neg hd]
              refine (get_mask_on ops listed e u m fun j hj hlj => ?_).symm
              by_cases hji : j = i
              · subst hji; rw [hdi]; exact hd
              · exact h2 j hj (by rw [getD_set _ _ _ _ (by omega), if_neg hji]; exact hlj)
      -- what it looks at is known
      have seen : ∀ t j, j < m → bnd ops o j = true → dstAt ops j = some t → get (mask ops listed e m) t = get e t := by
        intro t j hj hb hd
        refine get_mask_on ops listed e t m fun i' hi' hl' hd' => ?_
        by_cases h : i' = j
        · subst h; rw [lst i' hb] at hl'; cases hl'
        · obtain ⟨oj, hoj⟩ : ∃ oj, ops[j]? = some oj := ⟨ops[j], Array.getElem?_eq_getElem (by omega)⟩
          have Fj := freeOk_at (hok j (by omega)) hoj hj
          exact Fj.dst t (by simpa [dstAt, hoj] using hd) i' hi' h hd'
      have looks : ∀ y ∈ reads o.op, ev (mask ops listed e m) y = ev e y := by
        intro y hy
        refine ev_get fun t ht => ?_
        subst ht
        by_cases hexj : ∃ j, j < m ∧ dstAt ops j = some t
        · obtain ⟨j, hj, hd⟩ := hexj
          exact seen t j hj (F.sees t hy j hj hd) hd
        · exact get_mask_on ops listed e t m fun i' hi' _ hd' => hexj ⟨i', hi', hd'⟩
      -- a guard's value
      have gval : ∀ j want b, o.guard = some (j, want) → (∃ d, dstAt ops j = some d ∧ get e d = .bool b) → yielded ops a.tmps j = some b := by
        rintro j want b hg ⟨d, hjd, hgd⟩
        obtain ⟨hjm, hjb⟩ := F.guard j want hg
        have hv := hR.env d
        have : get (mask ops listed e m) d = .bool b := (seen d j hjm hjb hjd).trans hgd
        simp only at hv
        rw [this] at hv
        generalize hve : a.tmps.getD d undef = gv at hv
        cases hv with
        | bool _ =>
        have hlt : d < a.tmps.size := by
          rcases Nat.lt_or_ge d a.tmps.size with h' | h'
          · exact h'
          · rw [Array.getD_eq_getD_getElem?, Array.getElem?_eq_none h'] at hve; simp [undef] at hve
        unfold yielded
        have hjd : (ops[j]?).bind (·.dst) = some d := hjd
        rw [hjd]
        have : a.tmps[d]? = some (.bool b) := by
          rw [Array.getD_eq_getD_getElem?, Array.getElem?_eq_getElem hlt] at hve
          rw [Array.getElem?_eq_getElem hlt]
          simpa using hve
        simp [this]
      rcases hcase with ⟨v, hv, hdo, hgu⟩ | ⟨hdn, hund, j, want, d, hg, hjd, hgd⟩
      · have hwant : Region.wanted o (yielded ops a.tmps) = true := by
          cases hg : o.guard with
          | none => simp [Region.wanted, hg]
          | some p =>
            obtain ⟨j, want⟩ := p
            simp [Region.wanted, hg, gval j want want hg (hgu j want hg)]
        have hdec : ∀ q : Prop, Decidable q := fun q => Classical.propDecidable q
        let tgt : St := { st with env := putO (mask ops listed e m) o.dst v, heap := app (dl i) (Cq dl (fun j => listed.getD j false) m 0 st.heap) }
        let K' : St → Option (den (tyL (C.rts inst))) := fun st' => @ite _ (st' = tgt) (hdec _) (some r) none
        have hK1 : K' tgt = some r := @if_pos (tgt = tgt) (hdec _) rfl _ (some r) none
        have hof : offAt ops e o = false := by
          cases hg : o.guard with
          | none => exact noff o hg
          | some p =>
            obtain ⟨j', want⟩ := p
            obtain ⟨d, hd1, hd2⟩ := hgu j' want hg
            exact isoff o j' want d hg hd1 hd2
        refine doOp_sound hC hS hG hfz0 hinv hfn hbody hat q3 hd (K := K') (fun st' x' a' w' hk hR' hF' => ?_) ((hdo _ K' _ _ looks (heq hof)).trans hK1) hR hF hwant
        have hst : st' = tgt := by
          simp only [K'] at hk
          by_cases h : st' = tgt
          · exact h
          · rw [if_neg h] at hk; cases hk
        subst hst
        exact next x' a' w' v hR' hv (.inl hof) hF'
      · have hwn : Region.wanted o (yielded ops a.tmps) = false := by
          rcases hgd with hgd | ⟨u, hgd, hnb⟩
          · simp [Region.wanted, hg, gval j want (!want) hg ⟨d, hjd, hgd⟩]
          · obtain ⟨hjm, hjb⟩ := F.guard j want hg
            have := yielded_none (ops := ops) hR.env hjd ((seen d j hjm hjb hjd).trans hgd) hnb
            simp [Region.wanted, hg, this]
        refine Fin.of_step (fun cs => step_skipped q3 hwn) ?_
        exact next x _ w (.cst undef) ⟨hR.hp, by rw [hdn]; exact hR.H, putO_env hR.env (.cst _) (fun t ht => by rw [hR.size]; exact hd t ht), by rw [put_size]; exact hR.size, by rw [put_defers]; exact hR.defers, hR.hr, hR.fz, hR.bel⟩ hund (.inr hdn) hF
    · have hall : ∀ i, i < m → listed.getD i true = true := fun i hi => by
        cases h : listed.getD i true with
        | true => rfl
        | false => exact absurd ⟨i, hi, h⟩ hex
      have hfu : ops.size - m ≤ fuel + 1 := by
        have : ∀ k, m ≤ k → k ≤ ops.size → k - m ≤ waits listed k := by
          intro k
          induction k with
          | zero => intro _ _; omega
          | succ k ihk =>
            intro h1 h2
            simp only [waits]
            by_cases hmk : m ≤ k
            · have := ihk hmk (by omega)
              rw [hl k hmk (by omega)]
              simp only; omega
            · omega
        have := this ops.size hm (Nat.le_refl _); omega
      rw [go_tail hedge (ops.size - m) m (fuel + 1) t listed hcl (by omega) hfu hsz hall hl htl]
      rw [allq listed hall hsz] at hR
      refine runOps_sound hC hS hG hfz0 hinv hfn hbody hat hK _ { st with env := e, heap := Cq dl (fun _ => true) m 0 st.heap } x a w hrun (hR.env_ext (e' := e) fun t => .inr ?_) hF
      exact (get_mask_on ops listed e t m fun i hi h => by rw [hall i hi] at h; cases h).symm

include hC hS hG hfz0 hinv hfn hbody in
theorem runRegion_sound {path : Path} {id : Nat} {ops : Array Oper} {draw : Bool} {stk : List Fr} {fs : List Frame} {K : St → Option (den (tyL (C.rts inst)))}
    (hat : codeAt body path = some (.region id ops draw))
    (hK : ∀ st x a w, K st = some r → SR x w0 fz0 fn.ntmps st a w → FrsR C (C.fid inst) x stk fs f → FinS P C w0 fz0 inst r (mk f a (ctxOf body path)) fs w)
    {st : St} {x : Cx} {a : Act} {w : World} (h : runRegion s inst stk f fn.ntmps path ops draw K st = some r) (hR : SR x w0 fz0 fn.ntmps st a w) (hF : FrsR C (C.fid inst) x stk fs f) :
    FinS P C w0 fz0 inst r (mk f a (.code (.region id ops draw) :: ctxOf body path)) fs w := by
  unfold runRegion at h
  split at h
  · exact Fin.of_step (fun cs => step_region) (runOps_sound hC hS hG hfz0 hinv hfn hbody hat hK _ st x a w h hR hF)
  · simp only at h
    split at h
    · rename_i hdr
      generalize freeCount ops ops.size = m at h hdr
      unfold drawOk at hdr
      simp only [Bool.and_eq_true, List.all_eq_true, List.mem_range] at hdr
      obtain ⟨hm, hok, htl⟩ := hdr
      have hm := Nat.le_of_ble_eq_true hm
      have htl : ∀ i o, m ≤ i → ops[i]? = some o → ∀ j, j < i → bnd ops o j = true := by
        intro i o hi ho j hj
        have hlt : i < ops.size := by
          rcases Nat.lt_or_ge i ops.size with h | h
          · exact h
          · rw [Array.getElem?_eq_none h] at ho; cases ho
        have := htl i hlt
        rw [ho] at this
        have hnb : Nat.blt i m = false := by
          cases hb : Nat.blt i m with
          | false => rfl
          | true => have := Nat.lt_of_succ_le (Nat.le_of_ble_eq_true hb); omega
        rw [hnb] at this
        simp only [Bool.false_or, List.all_eq_true, List.mem_range] at this
        exact this j hj
      rw [List.range_eq_range'] at h
      obtain ⟨e, dl, h1, h2, h3⟩ := free_trace (fun i hi => hok i (by omega)) m 0 st (by omega) h
      have hend : endOk ops m e = true := by
        cases he : endOk ops m e with
        | true => rfl
        | false => simp only [he] at h1; cases h1
      simp only [hend] at h1
      refine Fin.of_step (fs' := fs) (w' := { w with drawn := w.drawn + 1 }) (fun cs => step_region_draw) ?_
      simp only [Region.schedule, hC.mixed, Bool.true_or, if_true, Region.linearise]
      refine free_any hC hS hG hfz0 hinv hfn hbody hat hK hm hok htl (fun i hi => h3 i (by omega) hi) hend h1 ops.size _ _ x a _ (fun i o _ hi => by simp [Array.getD] at hi) (by simp) (fun i h1 h2 => by simp [Array.getD, h2]) ?_ ?_ hF
      · have : ∀ k, waits (Array.replicate ops.size false) k ≤ k := by
          intro k
          induction k with
          | zero => simp [waits]
          | succ k ih => simp only [waits]; split <;> omega
        exact this _
      · have hR' : SR x w0 fz0 fn.ntmps st a { w with drawn := w.drawn + 1 } := ⟨hR.hp, hR.H, hR.env, hR.size, hR.defers, hR.hr, hR.fz, hR.bel.drew⟩
        rw [show Cq dl (fun j => (Array.replicate ops.size false).getD j false) m 0 st.heap = st.heap from Cq_none _ _ _ fun j _ _ _ => by
          simp only [Array.getD_eq_getD_getElem?, Array.getElem?_replicate]
          split <;> rfl]
        refine hR'.env_ext fun t => ?_
        rcases get_mask ops (Array.replicate ops.size false) e t m with h' | ⟨h4, h5⟩
        · exact .inl h'
        · refine .inr (h4.trans (h2 t fun i _ hi => h5 i hi ?_))
          simp [Array.getD, show i < ops.size by omega]
    · cases h

/-! ### the forms that stops want -/
/-- Behind an exit. -/
def FinE (P : Program) (C : Ctx) (w0 : World) (fz0 : Nat → Prop) (inst : Nat) (r : den (tyL (C.rts inst))) (f : Nat) (fs : List Frame) (td : List Item) (a : Act) (w : World) : Ex → Prop
  | .normal => FinS P C w0 fz0 inst r (mk f a td) fs w
  | .ret => ∀ todo, FinS P C w0 fz0 inst r (mkRet f a todo) fs w
  | .exit id => ∃ k', exitTo id td = some k' ∧ FinS P C w0 fz0 inst r (mk f a k') fs w
  | .goto l => ∃ k', gotoIn l td = some k' ∧ FinS P C w0 fz0 inst r (mk f a k') fs w

end
end
end Go.Proofs.YtenapomineinbaaGreatDoor.K

/- The abstract machine: the form that a stop wants. -/
set_option linter.unusedVariables false
set_option linter.unusedSimpArgs false
namespace Go.Proofs.YtenapomineinbaaGreatDoor.K
open Go
open Go.RowKit (Below)

section
variable {P : Program} {C : Ctx} {x : Cx} {n0 : Nat} {w : World}

theorem hget_append (n h : Heap) (t : Nat) : hget (n ++ h) t = match hget n t with
    | some b => some b
    | none => hget h t := by
  induction n with
  | nil => rfl
  | cons p n ih =>
    obtain ⟨u, b⟩ := p
    simp only [List.cons_append, hget]
    split
    · rfl
    · exact ih

theorem hget_blank (h : Heap) (t : Nat) : hget (blank h) t = (hget h t).map fun
    | .box cs => .box (cs.map fun _ => .undef)
    | b => b := by
  induction h with
  | nil => rfl
  | cons p h ih =>
    obtain ⟨u, b⟩ := p
    simp only [blank, hget]
    split
    · cases b <;> rfl
    · exact ih

theorem undefs_RVL (x : Cx) : ∀ (cs : List AV) (vs : List Value), cs.length = vs.length → RVL x (cs.map fun _ => .undef) vs
  | [], [], _ => .nil
  | c :: cs, v :: vs, h => .cons _ _ _ _ (.undef v) (undefs_RVL x cs vs (by simpa using h))
  | [], _ :: _, h => by simp at h
  | _ :: _, [], h => by simp at h

/-- The heap is told anew, its memory being the same. -/
theorem retell {x : Cx} (hr : HR x n0) (hp : x.hp = w.heap) {H' : Heap} (h : ∀ T b, hget H' T = some b → hget x.H T = some b ∨ ∃ cs cs' B c e fr, b = .box cs' ∧ hget x.H T = some (.box cs) ∧ x.m T = some (B, 0) ∧
    x.hp[B]? = some (Obj.cells c e fr) ∧ RVL x cs' c.toList) : NxS x { x with H := H' } n0 (fun _ => True) w w := by
  have E : Ext x { x with H := H' } (fun _ => True) := by
    refine ⟨fun _ h => ⟨h, rfl⟩, .refl _, fun T _ t l ha => ?_, fun T _ cs' ha => ?_⟩
    · rcases ha with ha | ha
      · rcases h T _ ha with h1 | ⟨cs, cs', B, c, e, fr, h1, _⟩
        · exact ⟨l, .inl h1, rfl, rfl⟩
        · cases h1
      · rcases h T _ ha with h1 | ⟨cs, cs', B, c, e, fr, h1, _⟩
        · exact ⟨l, .inr h1, rfl, rfl⟩
        · cases h1
    · rcases h T _ ha with h1 | ⟨cs, cs'', B, c, e, fr, h1, h2, _⟩
      · exact ⟨cs', h1, rfl⟩
      · exact ⟨cs, h2, rfl⟩
  refine ⟨E, ⟨fun T b hb => ?_, fun t1 t2 B h1 h2 => ?_, hr.size⟩, fun b h => .inl h, .refl _ _, hp⟩
  · rcases h T b hb with h1 | ⟨cs, cs', B, c, e, fr, rfl, h2, h3, h4, h5⟩
    · have := hr.blk T b h1
      cases b with
      | arr t l => exact this
      | fro t l => exact this
      | box cs =>
        obtain ⟨B, c, e, fr, k1, k2, k3, k4, k5, k6, k7⟩ := this
        exact ⟨B, c, e, fr, k1, k2, k3, k4, k5, k6, RVL.mono E k7 fun _ _ => trivial⟩
    · obtain ⟨B', c', e', fr', k1, k2, k3, k4, k5, k6, k7⟩ := hr.blk T _ h2
      rw [h3] at k1; cases k1
      rw [h4] at k2
      simp only [Option.some.injEq, Obj.cells.injEq] at k2
      obtain ⟨rfl, rfl, rfl⟩ := k2
      exact ⟨B, c, e, fr, h3, h4, k3, k4, k5, k6, RVL.mono E h5 fun _ _ => trivial⟩
  · have back : ∀ T, Owns { x with H := H' } T B → Owns x T B := by
      rintro T ⟨ho, hk⟩
      refine ⟨ho, ?_⟩
      rcases hk with ⟨t, l, hk⟩ | ⟨cs, hk⟩
      · rcases h T _ hk with h1 | ⟨cs, cs', B', c, e, fr, h1, _⟩
        · exact .inl ⟨t, l, h1⟩
        · cases h1
      · rcases h T _ hk with h1 | ⟨cs, cs', B', c, e, fr, h1, h2, _⟩
        · exact .inr ⟨_, h1⟩
        · exact .inr ⟨_, h2⟩
    exact hr.inj t1 t2 B (back t1 h1) (back t2 h2)

theorem blank_next {x : Cx} (hr : HR x n0) (hp : x.hp = w.heap) : NxS x { x with H := blank x.H } n0 (fun _ => True) w w := by
  refine retell hr hp fun T b hb => ?_
  rw [hget_blank] at hb
  cases hg : hget x.H T with
  | none => simp [hg] at hb
  | some b0 =>
    simp only [hg, Option.map_some, Option.some.injEq] at hb
    cases b0 with
    | arr t l => simp only at hb; subst hb; exact .inl rfl
    | fro t l => simp only at hb; subst hb; exact .inl rfl
    | box cs =>
      simp only at hb; subst hb
      obtain ⟨B, c, e, fr, k1, k2, k3, k4, k5, k6, k7⟩ := hr.blk T _ hg
      exact .inr ⟨cs, _, B, c, e, fr, rfl, rfl, k1, k2, undefs_RVL x cs _ k7.length⟩

/-- Boxes of which nothing is known. -/
def Blank (H : Heap) : Prop := ∀ T cs, hget H T = some (.box cs) → ∀ c ∈ cs, c = .undef

theorem toksL_undef {cs : List AV} (h : ∀ c ∈ cs, c = .undef) : toksL cs = [] := by
  induction cs with
  | nil => rfl
  | cons c cs ih =>
    have h1 := h c (by simp)
    subst h1
    have := ih fun c hc => h c (by simp [hc])
    simp [toksL, toks, this]

/-- A slice's token is another one from here on. -/
theorem ren_next {x : Cx} (hr : HR x n0) (hp : x.hp = w.heap) (hbl : Blank x.H) {T : Nat} {loc : Option (Nat × Nat)} {t : Ty} {l' : List (den t)} {H' : Heap} (hT : hget H' T = some (.arr t l'))
    (hsrc : (l' = [] ∧ loc = none) ∨ ∃ tok l k, hget x.H tok = some (.arr t l) ∧ loc = x.m tok ∧ l' = l.take k ∧ (tok = T ∨ hget H' tok = none))
    (hoth : ∀ u b, u ≠ T → hget H' u = some b → hget x.H u = some b) :
    NxS x { x with m := fun u => if u = T then loc else x.m u, H := H' } n0 (fun u => u ≠ T) w w := by
  have E : Ext x { x with m := fun u => if u = T then loc else x.m u, H := H' } (fun u => u ≠ T) := by
    refine ⟨fun _ h => ⟨h, rfl⟩, .refl _, fun u hu t l ha => ?_, fun u hu cs ha => ?_⟩
    · refine ⟨l, ?_, rfl, by simp [hu]⟩
      rcases ha with ha | ha
      · exact .inl (hoth u _ hu ha)
      · exact .inr (hoth u _ hu ha)
    · exact ⟨cs, hoth u _ hu ha, by simp [hu]⟩
  refine ⟨E, ⟨fun u b hb => ?_, fun t1 t2 B h1 h2 => ?_, hr.size⟩, fun b h => .inl h, .refl _ _, hp⟩
  · by_cases hu : u = T
    · subst hu
      rw [hT] at hb
      simp only [Option.some.injEq] at hb; subst hb
      rcases hsrc with ⟨h1, h2⟩ | ⟨tok, l, k, h1, h2, h3, _⟩
      · exact .inl ⟨h1, by simp [h2]⟩
      · rcases hr.blk _ _ h1 with ⟨g1, g2⟩ | ⟨B, o, c, e, fr, g1, g2, g3, g4, g5, g6, g7⟩
        · exact .inl ⟨by rw [h3, g1]; simp, by simp [h2, g2]⟩
        · refine .inr ⟨B, o, c, e, fr, by simp [h2, g1], g2, g3, g4, g5, ?_, fun i hi => ?_⟩
          · have : l'.length * csz t ≤ l.length * csz t := Nat.mul_le_mul_right _ (by rw [h3]; simp; omega)
            omega
          · have hi' : i < l.length := by rw [h3] at hi; simp at hi; omega
            have := g7 i hi'
            have e1 : l'[i] = l[i] := by subst h3; simp
            rw [e1]; exact this
    · have h0 := hr.blk u b (hoth u b hu hb)
      cases b with
      | arr t0 l0 =>
        rcases h0 with ⟨g1, g2⟩ | ⟨B, o, c, e, fr, g1, g2⟩
        · exact .inl ⟨g1, by simp [hu, g2]⟩
        · exact .inr ⟨B, o, c, e, fr, by simp [hu, g1], g2⟩
      | fro t0 l0 =>
        rcases h0 with ⟨g1, g2⟩ | ⟨B, o, c, e, fr, g1, g2⟩
        · exact .inl ⟨g1, by simp [hu, g2]⟩
        · exact .inr ⟨B, o, c, e, fr, by simp [hu, g1], g2⟩
      | box cs =>
        obtain ⟨B, c, e, fr, k1, k2, k3, k4, k5, k6, k7⟩ := h0
        refine ⟨B, c, e, fr, by simp [hu, k1], k2, k3, k4, k5, k6, RVL.mono E k7 fun q hq => ?_⟩
        rw [toksL_undef (hbl u cs (hoth u _ hu hb))] at hq; cases hq
  · have back : ∀ u, Owns { x with m := fun u => if u = T then loc else x.m u, H := H' } u B → ∃ v, Owns x v B ∧ ((u ≠ T ∧ v = u) ∨ (u = T ∧ (v = T ∨ hget H' v = none))) := by
      rintro u ⟨⟨o, ho⟩, hk⟩
      by_cases hu : u = T
      · subst hu
        simp only [if_true] at ho
        rcases hsrc with ⟨_, h2⟩ | ⟨tok, l, k, h1, h2, h3, h4⟩
        · rw [h2] at ho; cases ho
        · exact ⟨tok, ⟨⟨o, by rw [← h2]; exact ho⟩, .inl ⟨t, l, h1⟩⟩, .inr ⟨rfl, h4⟩⟩
      · simp only [if_neg hu] at ho
        refine ⟨u, ⟨⟨o, ho⟩, ?_⟩, .inl ⟨hu, rfl⟩⟩
        rcases hk with ⟨t', l, hk⟩ | ⟨cs, hk⟩
        · exact .inl ⟨t', l, hoth u _ hu hk⟩
        · exact .inr ⟨cs, hoth u _ hu hk⟩
    obtain ⟨v1, o1, c1⟩ := back t1 h1
    obtain ⟨v2, o2, c2⟩ := back t2 h2
    have hv := hr.inj v1 v2 B o1 o2
    subst hv
    rcases c1 with ⟨a1, a2⟩ | ⟨a1, a2⟩ <;> rcases c2 with ⟨b1, b2⟩ | ⟨b1, b2⟩
    · rw [← a2, ← b2]
    · exfalso
      subst a2
      rcases b2 with b2 | b2
      · exact a1 b2
      · obtain ⟨_, hk⟩ := h1
        rcases hk with ⟨t', l, hk⟩ | ⟨cs, hk⟩ <;> simp only at hk <;> rw [b2] at hk <;> cases hk
    · exfalso
      subst b2
      rcases a2 with a2 | a2
      · exact b1 a2
      · obtain ⟨_, hk⟩ := h2
        rcases hk with ⟨t', l, hk⟩ | ⟨cs, hk⟩ <;> simp only at hk <;> rw [a2] at hk <;> cases hk
    · rw [a1, b1]

/-! ### a stop's slots -/
theorem hget_mem {h : Heap} {t : Nat} {b : Blk} (k : hget h t = some b) : t ∈ h.map (·.1) := by
  induction h with
  | nil => cases k
  | cons p h ih =>
    obtain ⟨u, c⟩ := p
    simp only [hget] at k
    split at k
    · rename_i hb; simp [beq_true hb]
    · simp [ih k]

theorem hget_none {h : Heap} {t : Nat} (k : t ∉ h.map (·.1)) : hget h t = none := by
  cases hg : hget h t with
  | none => rfl
  | some b => exact absurd (hget_mem hg) k

theorem deep_congr {H H' : Heap} : ∀ (v : AV), (∀ T ∈ toks v, hget H T = hget H' T) → deep H v = deep H' v := by
  intro v h
  cases v with
  | who tok f => simp only [deep]; rw [h tok (by simp [toks])]
  | ref tok off len f => simp only [deep]; rw [h tok (by simp [toks])]
  | _ => rfl

theorem deeps_congr {H H' : Heap} : ∀ (cs : List AV), (∀ T ∈ toksL cs, hget H T = hget H' T) → cs.map (deep H) = cs.map (deep H')
  | [], _ => rfl
  | c :: cs, h => by
    simp only [List.map_cons]
    rw [deep_congr c fun T hT => h T (by simp [toksL, hT]), deeps_congr cs fun T hT => h T (by simp [toksL, hT])]

theorem toDen_congr {H H' : Heap} (t : Ty) (v : AV) (h : ∀ T ∈ toks v, hget H T = hget H' T) : toDen H t v = toDen H' t v := by
  unfold toDen
  split
  · rename_i cs hag; rw [deeps_congr cs (by simpa [toks] using h)]
  · rw [deep_congr _ h]
  · rfl

theorem freeze_append (ts : List Nat) (a b : Heap) : freeze ts (a ++ b) = freeze ts a ++ freeze ts b := by
  induction a with
  | nil => rfl
  | cons p a ih => obtain ⟨u, c⟩ := p; simp only [List.cons_append, freeze, ih]

theorem freeze_id (ts : List Nat) (a : Heap) (h : ∀ T ∈ a.map (·.1), T ∉ ts) : freeze ts a = a := by
  induction a with
  | nil => rfl
  | cons p a ih =>
    obtain ⟨u, c⟩ := p
    simp only [freeze]
    rw [ih fun T hT => h T (by simp only [List.map_cons, List.mem_cons]; exact .inr hT)]
    have : ts.elem u = false := by
      have := h u (by simp)
      simpa using this
    rw [this]
    cases c <;> rfl

/-- The tokens that slots are laid at are named by no other slot. -/
def Fits (out : List Nat) : List (Shape × AV) → Prop
  | [] => True
  | (sh, v) :: l => (∀ T t, sh = .own T t → T ∉ out ∧ ∀ q ∈ l, T ∉ toks q.2) ∧ (∀ q ∈ l, ∀ T t, q.1 = .own T t → T ∉ toks v) ∧ Fits out l

theorem fitB_fits {out : List Nat} : ∀ (l pre : List (Shape × AV)), fitB out pre l = true → Fits out l ∧ ∀ p ∈ pre, ∀ q ∈ l, ∀ T t, q.1 = .own T t → T ∉ toks p.2
  | [], pre, _ => ⟨trivial, fun _ _ _ hq => by cases hq⟩
  | (sh, v) :: l, pre, h => by
    simp only [fitB, Bool.and_eq_true] at h
    obtain ⟨h1, h2⟩ := h
    obtain ⟨k1, k2⟩ := fitB_fits l ((sh, v) :: pre) h2
    have own : ∀ T t, sh = .own T t → T ∉ out ∧ ∀ q ∈ pre ++ l, T ∉ toks q.2 := by
      intro T t hs
      subst hs
      simp only [Bool.and_eq_true, Bool.not_eq_true', List.all_eq_true] at h1
      obtain ⟨a1, a2⟩ := h1
      exact ⟨by simpa using a1, fun q hq => by simpa using a2 q hq⟩
    refine ⟨⟨fun T t hs => ⟨(own T t hs).1, fun q hq => (own T t hs).2 q (by simp [hq])⟩, fun q hq T t hs => k2 (sh, v) (by simp) q hq T t hs, k1⟩, fun p hp q hq T t hs => ?_⟩
    rcases List.mem_cons.1 hq with rfl | hq
    · exact (own T t hs).2 p (by simp [hp])
    · exact k2 p (by simp [hp]) q hq T t hs

/-- What a slot keeps lies at its own token. -/
theorem canonV_keys {sh : Shape} {v v' : AV} {h h' n : Heap} (k : canonV sh v h = some (v', h', n)) : ∀ T ∈ n.map (·.1), ∃ t, sh = .own T t := by
  intro T hT
  unfold canonV at k
  split at k
  · simp only [Option.some.injEq, Prod.mk.injEq] at k; obtain ⟨_, _, rfl⟩ := k; cases hT
  · split at k
    · simp only [Option.some.injEq, Prod.mk.injEq] at k; obtain ⟨_, _, rfl⟩ := k; cases hT
    · cases k
  · split at k
    · simp only [Option.some.injEq, Prod.mk.injEq] at k; obtain ⟨_, _, rfl⟩ := k
      simp only [List.map_cons, List.map_nil, List.mem_singleton] at hT; exact ⟨_, by rw [hT]⟩
    · split at k
      · split at k
        · simp only [Option.some.injEq, Prod.mk.injEq] at k; obtain ⟨_, _, rfl⟩ := k
          simp only [List.map_cons, List.map_nil, List.mem_singleton] at hT; exact ⟨_, by rw [hT]⟩
        · cases k
      · cases k
    · split at k
      · split at k
        · simp only [Option.some.injEq, Prod.mk.injEq] at k; obtain ⟨_, _, rfl⟩ := k
          simp only [List.map_cons, List.map_nil, List.mem_singleton] at hT; exact ⟨_, by rw [hT]⟩
        · cases k
      · cases k
    · cases k

theorem canonL_keys : ∀ {sl : List (Shape × AV)} {h h' n : Heap} {vs : List AV}, canonL sl h = some (vs, h', n) → ∀ T ∈ n.map (·.1), ∃ q ∈ sl, ∃ t, q.1 = .own T t
  | [], h, h', n, vs, k => by
    simp only [canonL, Option.some.injEq, Prod.mk.injEq] at k; obtain ⟨_, _, rfl⟩ := k; intro T hT; cases hT
  | (sh, v) :: sl, h, h', n, vs, k => by
    simp only [canonL] at k
    split at k
    · rename_i v1 h1 n1 e1
      split at k
      · rename_i vs2 h2 n2 e2
        simp only [Option.some.injEq, Prod.mk.injEq] at k
        obtain ⟨_, _, rfl⟩ := k
        intro T hT
        simp only [List.map_append, List.mem_append] at hT
        rcases hT with hT | hT
        · obtain ⟨t, ht⟩ := canonV_keys e1 T hT
          exact ⟨_, List.mem_cons_self .., t, ht⟩
        · obtain ⟨q, hq, hr⟩ := canonL_keys e2 T hT
          exact ⟨q, List.mem_cons_of_mem _ hq, hr⟩
      · cases k
    · cases k

/-- Boxes stay. -/
theorem canonV_box {sh : Shape} {v v' : AV} {h h' n : Heap} (k : canonV sh v h = some (v', h', n)) {T : Nat} {cs : List AV} (hb : hget h T = some (.box cs)) : hget h' T = some (.box cs) := by
  have del : ∀ tok t' (l : List (den t')), hget h tok = some (.arr t' l) → hget (hdel h tok) T = some (.box cs) := by
    intro tok t' l hl
    rw [hget_hdel]
    by_cases hT : T = tok
    · subst hT; rw [hl] at hb; cases hb
    · rw [if_neg hT]; exact hb
  unfold canonV at k
  split at k
  · simp only [Option.some.injEq, Prod.mk.injEq] at k; obtain ⟨_, rfl, _⟩ := k; exact hb
  · split at k
    · simp only [Option.some.injEq, Prod.mk.injEq] at k; obtain ⟨_, rfl, _⟩ := k
      rw [hget_freeze, hb]; rfl
    · cases k
  · split at k
    · simp only [Option.some.injEq, Prod.mk.injEq] at k; obtain ⟨_, rfl, _⟩ := k; exact hb
    · split at k
      · rename_i hl
        split at k
        · simp only [Option.some.injEq, Prod.mk.injEq] at k; obtain ⟨_, rfl, _⟩ := k; exact del _ _ _ hl
        · cases k
      · cases k
    · split at k
      · rename_i hl _
        split at k
        · simp only [Option.some.injEq, Prod.mk.injEq] at k; obtain ⟨_, rfl, _⟩ := k; exact del _ _ _ hl
        · cases k
      · cases k
    · cases k

theorem canonL_box : ∀ {sl : List (Shape × AV)} {h h' n : Heap} {vs : List AV}, canonL sl h = some (vs, h', n) → ∀ {T : Nat} {cs : List AV}, hget h T = some (.box cs) → hget h' T = some (.box cs)
  | [], h, h', n, vs, k, T, cs, hb => by
    simp only [canonL, Option.some.injEq, Prod.mk.injEq] at k; obtain ⟨_, rfl, _⟩ := k; exact hb
  | (sh, v) :: sl, h, h', n, vs, k, T, cs, hb => by
    simp only [canonL] at k
    split at k
    · rename_i v1 h1 n1 e1
      split at k
      · rename_i vs2 h2 n2 e2
        simp only [Option.some.injEq, Prod.mk.injEq] at k
        obtain ⟨_, rfl, _⟩ := k
        exact canonL_box e2 (canonV_box e1 hb)
      · cases k
    · cases k

/-- The old token's slice under the new one. -/
theorem own_step {x : Cx} (hr : HR x n0) (hp : x.hp = w.heap) (hbl : Blank x.H) {acc h : Heap} (hH : x.H = acc ++ h) {T tok : Nat} {t : Ty} {l : List (den t)} {k : Nat} (hT : T ∉ acc.map (·.1)) (htok : tok ∉ acc.map (·.1))
    (hg : hget h tok = some (.arr t l)) (hk : k ≤ l.length) {v : AV} {f : Bool} {a : Option Addr} {cap : Nat} (hcap : k ≤ cap) (hpl : Place x tok t a 0 k cap) :
    ∃ x', NxS x x' n0 (fun u => u ≠ T) w w ∧ x'.H = acc ++ (T, .arr t (l.take k)) :: hdel h tok ∧ Blank x'.H ∧ RV x' (.who T false) (.slice a k cap) := by
  have hgx : hget x.H tok = some (.arr t l) := by rw [hH, hget_append, hget_none htok]; exact hg
  have hT' : hget (acc ++ (T, Blk.arr t (l.take k)) :: hdel h tok) T = some (.arr t (l.take k)) := by
    rw [hget_append, hget_none hT]; simp [hget, beq_self]
  have hoth : ∀ u b, u ≠ T → hget (acc ++ (T, Blk.arr t (l.take k)) :: hdel h tok) u = some b → hget x.H u = some b := by
    intro u b hu hb
    rw [hH, hget_append]
    rw [hget_append] at hb
    cases hga : hget acc u with
    | some b' => rw [hga] at hb; exact hb
    | none =>
      rw [hga] at hb
      simp only [hget] at hb
      rw [beq_ne (Ne.symm hu)] at hb
      simp only at hb
      rw [hget_hdel] at hb
      split at hb
      · cases hb
      · exact hb
  have N := ren_next hr hp hbl (T := T) (loc := x.m tok) (t := t) (l' := l.take k) hT' (.inr ⟨tok, l, k, hgx, rfl, rfl, by
    by_cases h' : tok = T
    · exact .inl h'
    · refine .inr ?_
      rw [hget_append, hget_none htok]
      simp only [hget]
      rw [beq_ne (Ne.symm h'), hget_hdel]
      simp⟩) hoth
  refine ⟨_, N, rfl, ?_, ?_⟩
  · intro u cs hu c hc
    by_cases h' : u = T
    · subst h'; simp only at hu; rw [hT'] at hu; cases hu
    · exact hbl u cs (hoth u _ h' hu) c hc
  · refine .who T false a k cap fun t' l' ha => ?_
    have : Blk.arr t' l' = Blk.arr t (l.take k) := by
      rcases ha with ha | ha
      · simp only at ha; rw [hT'] at ha; exact (Option.some.inj ha).symm
      · simp only at ha; rw [hT'] at ha; cases ha
    cases this
    refine ⟨by simp; omega, hcap, by simp, ?_⟩
    rcases hpl with hpl | ⟨b, o, c, e, fr, p1, p2, p3, p4⟩
    · exact .inl hpl
    · exact .inr ⟨b, o, c, e, fr, by simp [p1], p2, p3, p4⟩

theorem canonV_sound {x : Cx} (hr : HR x n0) (hp : x.hp = w.heap) (hbl : Blank x.H) {acc h h' n : Heap} (hH : x.H = acc ++ h) {sh : Shape} {v v' : AV} {u : Value} (hv : RV x v u) (k : canonV sh v h = some (v', h', n))
    (hacc : ∀ T ∈ acc.map (·.1), T ∉ toks v) (hnew : ∀ T ∈ n.map (·.1), T ∉ acc.map (·.1)) :
    ∃ x', NxS x x' n0 (fun u => u ∉ n.map (·.1)) w w ∧ x'.H = acc ++ n ++ h' ∧ Blank x'.H ∧ RV x' v' u ∧ (∀ T ∈ toks v', T ∈ n.map (·.1) ∨ (sh = .keep ∧ T ∈ toks v)) := by
  have hcg : ∀ T ∈ toks v, hget h T = hget x.H T := by
    intro T hT
    rw [hH, hget_append, hget_none fun hm => hacc T hm hT]
  unfold canonV at k
  split at k
  · simp only [Option.some.injEq, Prod.mk.injEq] at k; obtain ⟨rfl, rfl, rfl⟩ := k
    exact ⟨x, (Nx.refl hr 0 hp : NxS x x n0 _ w w) |> fun N => ⟨.refl _ _, N.hr, N.fz, N.bel, N.hp⟩, by simpa using hH, hbl, hv, fun T hT => .inr ⟨rfl, hT⟩⟩
  · rename_i t
    split at k
    · rename_i y hy
      simp only [Option.some.injEq, Prod.mk.injEq] at k; obtain ⟨rfl, rfl, rfl⟩ := k
      have NF := frz_next hr hp (tok := 0) (toks v)
      have hy' : toDen x.H t v = some y := by rw [← hy]; exact (toDen_congr t v hcg).symm
      have hd := toDen_deep hr (fz' := (frzCx x (toks v)).fz) (fun b hb => .inl hb) hv (frz_shows hr _) hy'
      refine ⟨frzCx x (toks v), ⟨frz_ext x _ _, NF.hr, NF.fz, .refl _ _, NF.hp⟩, ?_, ?_, ofDen_RV (x := frzCx x (toks v)) hd, ?_⟩
      · show freeze (toks v) x.H = _
        rw [hH, freeze_append, freeze_id _ acc hacc]; simp
      · intro T cs hT c hc
        have hT : hget (freeze (toks v) x.H) T = some (.box cs) := hT
        rw [hget_freeze] at hT
        cases hg : hget x.H T with
        | none => simp [hg] at hT
        | some b0 =>
          cases b0 with
          | box cs0 => simp [hg, frz] at hT; subst hT; exact hbl T _ hg c hc
          | arr t l => simp only [hg, Option.map_some, frz] at hT; split at hT <;> cases hT
          | fro t l => simp [hg, frz] at hT
      · intro T hT; rw [toks_ofDen] at hT; cases hT
    · cases k
  · rename_i T t
    split at k
    · -- nil
      simp only [Option.some.injEq, Prod.mk.injEq] at k; obtain ⟨rfl, rfl, rfl⟩ := k
      have hT : T ∉ acc.map (·.1) := hnew T (by simp)
      have hT' : hget (acc ++ (T, Blk.arr t ([] : List (den t))) :: h) T = some (.arr t ([] : List (den t))) := by
        rw [hget_append, hget_none hT]; simp [hget, beq_self]
      have hoth : ∀ u b, u ≠ T → hget (acc ++ (T, Blk.arr t ([] : List (den t))) :: h) u = some b → hget x.H u = some b := by
        intro u b hu hb
        rw [hH, hget_append]
        rw [hget_append] at hb
        cases hga : hget acc u with
        | some b' => rw [hga] at hb; exact hb
        | none => rw [hga] at hb; simp only [hget] at hb; rw [beq_ne (Ne.symm hu)] at hb; exact hb
      have N := ren_next hr hp hbl (T := T) (loc := none) (t := t) (l' := ([] : List (den t))) hT' (.inl ⟨rfl, rfl⟩) hoth
      refine ⟨_, N.weaken fun u hu => by simpa using hu, by simp, ?_, ?_, fun T' hT' => .inl (by simpa [toks] using hT')⟩
      · intro u cs hu c hc
        by_cases h' : u = T
        · subst h'; simp only at hu; rw [hT'] at hu; cases hu
        · exact hbl u cs (hoth u _ h' hu) c hc
      · cases hv
        refine .who T false none 0 0 fun t' l' ha => ?_
        have : Blk.arr t' l' = Blk.arr t ([] : List (den t)) := by
          rcases ha with ha | ha
          · simp only at ha; rw [hT'] at ha; exact (Option.some.inj ha).symm
          · simp only at ha; rw [hT'] at ha; cases ha
        cases this
        exact ⟨rfl, Nat.le_refl _, fun _ => rfl, .inl ⟨rfl, rfl⟩⟩
    · rename_i tok f
      split at k
      · rename_i t' l hl
        split at k
        · rename_i e
          subst e
          simp only [Option.some.injEq, Prod.mk.injEq] at k; obtain ⟨rfl, rfl, rfl⟩ := k
          cases hv with
          | who _ _ a m cap hh =>
          have htok : tok ∉ acc.map (·.1) := fun hm => hacc tok hm (by simp [toks])
          have hgx : hget x.H tok = some (.arr t' l) := by rw [← hcg tok (by simp [toks])]; exact hl
          obtain ⟨h1, h2, h3, h4⟩ := hh t' l (.inl hgx)
          subst h1
          obtain ⟨x', N, k1, k2, k3⟩ := own_step hr hp hbl hH (T := T) (hnew T (by simp)) htok hl (Nat.le_refl _) (v := .undef) (f := f) h2 h4
          refine ⟨x', N.weaken fun u hu => by simpa using hu, ?_, k2, k3, fun T' hT' => .inl (by simpa [toks] using hT')⟩
          rw [k1, List.take_length]; simp
        · cases k
      · cases k
    · rename_i tok off len f
      split at k
      · rename_i t' l hl hoff
        have hoff := beq_true hoff
        subst hoff
        split at k
        · rename_i e
          subst e
          simp only [Option.some.injEq, Prod.mk.injEq] at k; obtain ⟨rfl, rfl, rfl⟩ := k
          cases hv with
          | ref _ _ _ _ a cap hh =>
          have htok : tok ∉ acc.map (·.1) := fun hm => hacc tok hm (by simp [toks])
          have hgx : hget x.H tok = some (.arr t' l) := by rw [← hcg tok (by simp [toks])]; exact hl
          obtain ⟨h1, h2, h3, h4⟩ := hh t' l (.inl hgx)
          obtain ⟨x', N, k1, k2, k3⟩ := own_step hr hp hbl hH (T := T) (hnew T (by simp)) htok hl (k := len) (by omega) (v := .undef) (f := f) h2 h4
          refine ⟨x', N.weaken fun u hu => by simpa using hu, ?_, k2, k3, fun T' hT' => .inl (by simpa [toks] using hT')⟩
          rw [k1]; simp
        · cases k
      · cases k
    · cases k

theorem canonL_sound {out : List Nat} : ∀ {sl : List (Shape × AV)} {x : Cx} {acc h h' n : Heap} {vs : List AV} {us : List Value}, HR x n0 → x.hp = w.heap → Blank x.H → x.H = acc ++ h → RVL x (sl.map (·.2)) us →
    canonL sl h = some (vs, h', n) → Fits out sl → (∀ T ∈ acc.map (·.1), ∀ q ∈ sl, T ∉ toks q.2) → ((acc ++ n).map (·.1)).Nodup →
    ∃ x', NxS x x' n0 (fun u => u ∉ n.map (·.1)) w w ∧ x'.H = acc ++ n ++ h' ∧ RVL x' vs us
  | [], x, acc, h, h', n, vs, us, hr, hp, hbl, hH, hv, k, _, _, _ => by
    simp only [canonL, Option.some.injEq, Prod.mk.injEq] at k; obtain ⟨rfl, rfl, rfl⟩ := k
    cases hv
    exact ⟨x, (Nx.refl hr 0 hp : NxS x x n0 _ w w) |> fun N => ⟨.refl _ _, N.hr, N.fz, N.bel, N.hp⟩, by simpa using hH, .nil⟩
  | (sh, v) :: sl, x, acc, h, h', n, vs, us, hr, hp, hbl, hH, hv, k, hfit, hacc, hnd => by
    simp only [canonL] at k
    split at k
    · rename_i v1 h1 n1 e1
      split at k
      · rename_i vs2 h2 n2 e2
        simp only [Option.some.injEq, Prod.mk.injEq] at k
        obtain ⟨rfl, rfl, rfl⟩ := k
        obtain ⟨f1, f2, f3⟩ := hfit
        cases hv with
        | cons _ u _ us hv hvs =>
        have hnd' : ((acc ++ n1) ++ n2).map (·.1) |>.Nodup := by rw [List.append_assoc]; exact hnd
        obtain ⟨x1, N1, k1, k2, k3, k4⟩ := canonV_sound hr hp hbl hH hv e1 (fun T hT => hacc T hT _ (List.mem_cons_self ..)) (fun T hT hT' => by
          rw [List.append_assoc, List.map_append, List.nodup_append] at hnd'
          exact hnd'.2.2 T hT' T (by simp only [List.map_append, List.mem_append]; exact .inl hT) rfl)
        have own1 : ∀ T ∈ n1.map (·.1), ∀ q ∈ sl, T ∉ toks q.2 := by
          intro T hT q hq
          obtain ⟨t, ht⟩ := canonV_keys e1 T hT
          exact (f1 T t ht).2 q hq
        have hvs1 : RVL x1 (sl.map (·.2)) us := RVL.mono N1.ext hvs fun T hT hT' => by
          have : ∀ (l : List (Shape × AV)), T ∈ toksL (l.map (·.2)) → ∃ q ∈ l, T ∈ toks q.2 := by
            intro l
            induction l with
            | nil => intro h; cases h
            | cons q l ih =>
              intro h
              simp only [List.map_cons, toksL, List.mem_append] at h
              rcases h with h | h
              · exact ⟨q, List.mem_cons_self .., h⟩
              · obtain ⟨q', h1, h2⟩ := ih h; exact ⟨q', List.mem_cons_of_mem _ h1, h2⟩
          obtain ⟨q, hq, hqt⟩ := this sl hT
          exact own1 T hT' q hq hqt
        obtain ⟨x2, N2, j1, j2⟩ := canonL_sound (acc := acc ++ n1) N1.hr N1.hp k2 k1 hvs1 e2 f3 (fun T hT q hq => by
          simp only [List.map_append, List.mem_append] at hT
          rcases hT with hT | hT
          · exact hacc T hT q (List.mem_cons_of_mem _ hq)
          · exact own1 T hT q hq) hnd'
        refine ⟨x2, (N1.weaken fun u hu => ?_).trans (N2.weaken fun u hu => ?_), by rw [j1]; simp, .cons _ _ _ _ (RV.mono N2.ext k3 fun T hT hT2 => ?_) j2⟩
        · simp only [List.map_append, List.mem_append] at hu; exact fun h => hu (.inl h)
        · simp only [List.map_append, List.mem_append] at hu; exact fun h => hu (.inr h)
        · rcases k4 T hT with h | ⟨hs, h⟩
          · rw [List.map_append, List.nodup_append] at hnd'
            exact hnd'.2.2 T (by simp only [List.map_append, List.mem_append]; exact .inr h) T hT2 rfl
          · obtain ⟨q, hq, t, ht⟩ := canonL_keys e2 T hT2
            exact f2 q hq T t ht h
      · cases k
    · cases k

/-! ### boxes -/
/-- The model's cells of the boxes that a stop keeps. -/
def boxUs (x : Cx) : List (Nat × List Shape) → Heap → List Value
  | [], _ => []
  | (tok, _) :: ts, h => match hget h tok with
    | some (.box _) => (match x.m tok with
      | some (b, _) => (match x.hp[b]? with
        | some (.cells c _ _) => c.toList
        | _ => [])
      | none => []) ++ boxUs x ts h
    | _ => boxUs x ts h

theorem boxUs_box {x : Cx} {tok : Nat} {shs : List Shape} {ts : List (Nat × List Shape)} {h : Heap} {cs : List AV} {b o : Nat} {c : Array Value} {e : TypeId} {fr : Nat × Nat} (h1 : hget h tok = some (.box cs)) (h2 : x.m tok = some (b, o))
    (h3 : x.hp[b]? = some (Obj.cells c e fr)) : boxUs x ((tok, shs) :: ts) h = c.toList ++ boxUs x ts h := by
  simp only [boxUs, h1, h2, h3]

theorem boxUs_not {x : Cx} {tok : Nat} {shs : List Shape} {ts : List (Nat × List Shape)} {h : Heap} (h1 : ∀ cs, hget h tok ≠ some (.box cs)) : boxUs x ((tok, shs) :: ts) h = boxUs x ts h := by
  simp only [boxUs]
  first
    | (split; · rename_i cs hc; exact absurd hc (h1 cs)
       rfl)
    | skip

theorem boxSlots_RVL {x : Cx} (hr : HR x n0) : ∀ {ts : List (Nat × List Shape)} {bs : List (Shape × AV)}, boxSlots ts x.H = some bs → RVL x (bs.map (·.2)) (boxUs x ts x.H)
  | [], bs, h => by simp only [boxSlots, Option.some.injEq] at h; subst h; exact .nil
  | (tok, shs) :: ts, bs, h => by
    simp only [boxSlots] at h
    split at h
    · cases h
    · rename_i l hl
      have ih := boxSlots_RVL hr hl
      split at h
      · rename_i cs hg
        split at h
        · rename_i hlen
          have hlen := beq_true hlen
          simp only [Option.some.injEq] at h; subst h
          obtain ⟨b, c, e, fr, h1, h2, _, _, _, _, h7⟩ := hr.blk tok _ hg
          rw [boxUs_box hg h1 h2, List.map_append, List.map_snd_zip (by omega)]
          exact h7.append ih
        · cases h
      · rename_i hg
        have hnb : ∀ cs, hget x.H tok ≠ some (.box cs) := by
          intro cs hc
          rename_i hg'
          rw [hg] at hc
          exact hg' cs (Option.some.inj hc)
        rw [boxUs_not hnb]
        split at h
        · simp only [Option.some.injEq] at h; subst h; exact ih
        · cases h
      · cases h

theorem rebuild_sound {x x1 : Cx} (hr : HR x n0) (hp : x1.hp = x.hp) : ∀ {ts : List (Nat × List Shape)} {bs : List (Shape × AV)} {hl : Heap} {vs : List AV} {hs : Heap}, boxSlots ts x.H = some bs →
    (∀ p ∈ ts, ∀ cs, hget x.H p.1 = some (.box cs) → x1.m p.1 = x.m p.1) → RVL x1 vs (boxUs x ts x.H) → rebuild ts x.H hl vs = some hs → ∀ T b, hget hs T = some b →
    (hget hl T = some b ∧ ∀ cs, b ≠ .box cs) ∨ ∃ cs cs0 B c e fr, b = .box cs ∧ hget x.H T = some (.box cs0) ∧ x1.m T = some (B, 0) ∧ x1.hp[B]? = some (Obj.cells c e fr) ∧ RVL x1 cs c.toList
  | [], bs, hl, vs, hs, _, _, _, h, T, b, hT => by
    simp only [rebuild, Option.some.injEq] at h; subst h; cases hT
  | (tok, shs) :: ts, bs, hl, vs, hs, hb, hm, hv, h, T, b, hT => by
    simp only [boxSlots] at hb
    split at hb
    · cases hb
    · rename_i l hbl
      simp only [rebuild] at h
      split at h
      · rename_i cs hg
        rw [hg] at hb
        simp only at hb
        split at hb
        · rename_i hlen
          have hlen := beq_true hlen
          obtain ⟨B, c, e, fr, h1, h2, _, _, _, _, h7⟩ := hr.blk tok _ hg
          rw [boxUs_box hg h1 h2] at hv
          have hcl : c.toList.length = shs.length := by rw [hlen]; exact h7.length.symm
          have hv1 := RVL.take shs.length hv
          rw [List.take_left' hcl] at hv1
          have hv2 := RVL.drop shs.length hv
          rw [List.drop_left' hcl] at hv2
          split at h
          · rename_i hs' hrb
            simp only [Option.some.injEq] at h; subst h
            simp only [hget] at hT
            split at hT
            · rename_i hbq
              have hbq := beq_true hbq; subst hbq
              simp only [Option.some.injEq] at hT; subst hT
              exact .inr ⟨_, cs, B, c, e, fr, rfl, hg, by rw [hm (tok, shs) (List.mem_cons_self ..) cs hg]; exact h1, by rw [hp]; exact h2, hv1⟩
            · exact rebuild_sound hr hp hbl (fun p hp' => hm p (List.mem_cons_of_mem _ hp')) hv2 hrb T b hT
          · cases h
        · cases hb
      · rename_i hnb
        rw [boxUs_not hnb] at hv
        split at h
        · rename_i t l' hs' hg hrb
          simp only [Option.some.injEq] at h; subst h
          simp only [hget] at hT
          split at hT
          · rename_i hbq
            have hbq := beq_true hbq; subst hbq
            simp only [Option.some.injEq] at hT; subst hT
            exact .inl ⟨hg, fun cs h => by cases h⟩
          · exact rebuild_sound hr hp hbl (fun p hp' => hm p (List.mem_cons_of_mem _ hp')) hv hrb T b hT
        · rename_i t l' hs' hg hrb
          simp only [Option.some.injEq] at h; subst h
          simp only [hget] at hT
          split at hT
          · rename_i hbq
            have hbq := beq_true hbq; subst hbq
            simp only [Option.some.injEq] at hT; subst hT
            exact .inl ⟨hg, fun cs h => by cases h⟩
          · exact rebuild_sound hr hp hbl (fun p hp' => hm p (List.mem_cons_of_mem _ hp')) hv hrb T b hT
        · cases h

theorem rebuild_keys : ∀ {ts : List (Nat × List Shape)} {h0 hl : Heap} {vs : List AV} {hs : Heap}, rebuild ts h0 hl vs = some hs → ∀ T ∈ hs.map (·.1), T ∈ ts.map (·.1)
  | [], h0, hl, vs, hs, h => by simp only [rebuild, Option.some.injEq] at h; subst h; intro T hT; cases hT
  | (tok, shs) :: ts, h0, hl, vs, hs, h => by
    simp only [rebuild] at h
    split at h
    · split at h
      · rename_i hs' hrb
        simp only [Option.some.injEq] at h; subst h
        intro T hT
        simp only [List.map_cons, List.mem_cons] at hT ⊢
        exact hT.imp id (rebuild_keys hrb T)
      · cases h
    · split at h
      · rename_i hs' _ hrb
        simp only [Option.some.injEq] at h; subst h
        intro T hT
        simp only [List.map_cons, List.mem_cons] at hT ⊢
        exact hT.imp id (rebuild_keys hrb T)
      · rename_i hs' _ hrb
        simp only [Option.some.injEq] at h; subst h
        intro T hT
        simp only [List.map_cons, List.mem_cons] at hT ⊢
        exact hT.imp id (rebuild_keys hrb T)
      · cases h

theorem RVL_zip {x : Cx} (f : Nat → Value) : ∀ {ls : List Nat} {vs : List AV}, RVL x vs (ls.map f) → ∀ t, RV x (get (ls.zip vs) t) (f t)
  | [], _, _, t => .undef _
  | u :: ls, [], h, t => .undef _
  | u :: ls, v :: vs, .cons _ _ _ _ h1 h2, t => by
    simp only [List.zip_cons_cons, get]
    split
    · rename_i hb
      have hb := beq_true hb; subst hb; exact h1
    · exact RVL_zip f h2 t

/-- A stop's form is as good as what was there. -/
theorem canon_sound {w0 : World} {fz0 : Nat → Prop} {nt f0 f : Nat} {a : Ann} {stk : List Fr} {fs : List Frame} {st st' : St} {x : Cx} {ac : Act} (h : canon a stk st = some st') (hR : SR x w0 fz0 nt st ac w) (hF : FrsR C f0 x stk fs f) :
    ∃ x', SR x' w0 fz0 nt st' ac w ∧ FrsR C f0 x' stk fs f := by
  unfold canon at h
  split at h
  · cases h
  · rename_i bs hbs
    simp only at h
    split at h
    · cases h
    · rename_i hfit
      split at h
      · cases h
      · rename_i vs hl n hcan
        split at h
        · cases h
        · rename_i hs hreb
          split at h
          · rename_i hnd
            simp only [Option.some.injEq] at h; subst h
            have hnd := nodupB_nodup hnd
            obtain ⟨hfit, _⟩ := fitB_fits _ _ hfit
            rw [← hR.H] at hbs hcan hreb
            -- what the slots stand for
            have hlive : RVL x (a.live.map fun p => get st.env p.1) (a.live.map fun p => ac.tmps.getD p.1 undef) := by
              generalize a.live = ls
              induction ls with
              | nil => exact .nil
              | cons p ls ih => exact .cons _ _ _ _ (hR.env p.1) ih
            have hbox := boxSlots_RVL hR.hr hbs
            have hslots : RVL x (((a.live.map fun p => (p.2, get st.env p.1)) ++ bs).map (·.2)) ((a.live.map fun p => ac.tmps.getD p.1 undef) ++ boxUs x a.toks x.H) := by
              rw [List.map_append, List.map_map]
              exact RVL.append hlive hbox
            have N0 := blank_next hR.hr hR.hp
            have hbl : Blank (blank x.H) := by
              intro T cs hT c hc
              rw [hget_blank] at hT
              cases hg : hget x.H T with
              | none => simp [hg] at hT
              | some b0 =>
                simp only [hg, Option.map_some, Option.some.injEq] at hT
                cases b0 with
                | box cs0 => simp only [Blk.box.injEq] at hT; subst hT; simp only [List.mem_map] at hc; obtain ⟨_, _, rfl⟩ := hc; rfl
                | arr t l => cases hT
                | fro t l => cases hT
            obtain ⟨x1, N1, k1, k2⟩ := canonL_sound (n0 := w0.heap.size) (w := w) (acc := []) (x := { x with H := blank x.H }) N0.hr N0.hp hbl rfl (RVL.mono N0.ext hslots fun _ _ => trivial) hcan hfit (fun T hT => by cases hT) (by
              rw [List.map_append, List.nodup_append] at hnd; simpa using hnd.1)
            simp only [List.nil_append] at k1
            -- nothing of the tokens outside is laid anew
            have hout : ∀ T, T ∈ a.toks.map (·.1) ++ stkToks stk → T ∉ n.map (·.1) := by
              intro T hT hTn
              obtain ⟨q, hq, t, ht⟩ := canonL_keys hcan T hTn
              have : ∀ (l : List (Shape × AV)), Fits (a.toks.map (·.1) ++ stk.flatMap fun fr => envToks fr.env) l → q ∈ l → T ∉ a.toks.map (·.1) ++ stk.flatMap fun fr => envToks fr.env := by
                intro l
                induction l with
                | nil => intro _ h; cases h
                | cons p l ih =>
                  intro hf hq
                  obtain ⟨f1, f2, f3⟩ := hf
                  rcases List.mem_cons.1 hq with rfl | hq
                  · exact (f1 T t ht).1
                  · exact ih f3 hq
              exact this _ hfit hq hT
            have hp1 : x1.hp = x.hp := by rw [N1.hp, hR.hp]
            have hmb : ∀ p ∈ a.toks, ∀ cs, hget x.H p.1 = some (.box cs) → x1.m p.1 = x.m p.1 ∧ ∃ cs', hget x1.H p.1 = some (.box cs') := by
              intro p hp cs hg
              have hpn : p.1 ∉ n.map (·.1) := hout p.1 (List.mem_append.2 (.inl (List.mem_map_of_mem hp)))
              have h1 : hget (blank x.H) p.1 = some (.box (cs.map fun _ => .undef)) := by rw [hget_blank, hg]; rfl
              have h2 := canonL_box hcan h1
              have h3 : hget x1.H p.1 = some (.box (cs.map fun _ => .undef)) := by rw [k1, hget_append, hget_none hpn]; exact h2
              obtain ⟨_, _, h4⟩ := N1.ext.box p.1 hpn _ h3
              exact ⟨h4, _, h3⟩
            have hlen : (a.live.map fun p => ac.tmps.getD p.1 undef).length = a.live.length := by simp
            have kv1 := RVL.take a.live.length k2
            rw [List.take_left' hlen] at kv1
            have kv2 := RVL.drop a.live.length k2
            rw [List.drop_left' hlen] at kv2
            have N2 := retell N1.hr N1.hp (H' := n ++ hs) (fun T b hT => by
              rw [hget_append] at hT
              rw [k1, hget_append]
              cases hn : hget n T with
              | some b' => rw [hn] at hT; exact .inl hT
              | none =>
                rw [hn] at hT
                rcases rebuild_sound (x1 := x1) hR.hr hp1 hbs (fun p hp cs hg => (hmb p hp cs hg).1) kv2 hreb T b hT with ⟨h1, _⟩ | ⟨cs, cs0, B, c, e, fr, h1, h2, h3, h4, h5⟩
                · exact .inl h1
                · have hTk : T ∈ a.toks.map (·.1) := by
                    have := hget_mem hT
                    exact rebuild_keys hreb T this
                  obtain ⟨p, hp, rfl⟩ := List.mem_map.1 hTk
                  obtain ⟨_, cs', h6⟩ := hmb p hp cs0 h2
                  rw [k1, hget_append, hn] at h6
                  exact .inr ⟨cs', cs, B, c, e, fr, h1, h6, h3, h4, h5⟩)
            have N : NxS x { x1 with H := n ++ hs } w0.heap.size (fun u => u ∉ n.map (·.1)) w w := ((N0.weaken fun _ _ => trivial).trans N1).trans (N2.weaken fun _ _ => trivial)
            refine ⟨{ x1 with H := n ++ hs }, ⟨N.hp, rfl, fun t => ?_, hR.size, hR.defers, N.hr, fun b hb => (N.fz b hb).elim (hR.fz b) .inr, hR.bel⟩, hF.mono N.ext fun T hT => hout T (List.mem_append.2 (.inr hT))⟩
            have hz := RVL_zip (x := x1) (fun u => ac.tmps.getD u undef) (ls := a.live.map (·.1)) (vs := vs.take a.live.length) (by rw [List.map_map]; exact kv1) t
            exact RV.mono N2.ext hz fun _ _ => trivial
          · cases h

end
end Go.Proofs.YtenapomineinbaaGreatDoor.K

/- The abstract machine: control, and the calls as a whole. -/
set_option linter.unusedVariables false
set_option linter.unusedSimpArgs false
namespace Go.Proofs.YtenapomineinbaaGreatDoor.K
open Go
open Go.RowKit (Below)

section
variable {P : Program} {C : Ctx} (hC : CtxOk P C) {s : Sm C} (hS : SpecOk P s) (hG : StageOk P s) {inst : Nat} {r : den (tyL (C.rts inst))} {w0 : World} {fz0 : Nat → Prop} (hfz0 : ∀ b, fz0 b → b < w0.heap.size) (hinv : C.inv w0)
variable {f : Nat} {fn : Func} {body : Code} (hfn : C.fn f = some fn) (hbody : fn.body = some body)

/-- An exit passes an item that does not catch it. -/
theorem FinE.pass {fs : List Frame} {td : List Item} {a : Act} {w : World} {it : Item} {e : Ex} (hn : e ≠ .normal) (hx : ∀ id, e = .exit id → exitTo id (it :: td) = exitTo id td) (hg : ∀ l, e = .goto l → gotoIn l (it :: td) = gotoIn l td)
    (h : FinE P C w0 fz0 inst r f fs td a w e) : FinE P C w0 fz0 inst r f fs (it :: td) a w e := by
  cases e with
  | normal => exact absurd rfl hn
  | ret => exact h
  | exit id => obtain ⟨k', h1, h2⟩ := h; exact ⟨k', by rw [hx id rfl]; exact h1, h2⟩
  | goto l => obtain ⟨k', h1, h2⟩ := h; exact ⟨k', by rw [hg l rfl]; exact h1, h2⟩

theorem ctxOf_seq0 {p : Path} {a b : Code} (h : codeAt body p = some (.seq a b)) : ctxOf body (0 :: p) = .code b :: ctxOf body p := by simp only [ctxOf, h]
theorem ctxOf_seq1 {p : Path} {a b : Code} (h : codeAt body p = some (.seq a b)) : ctxOf body (1 :: p) = ctxOf body p := by simp only [ctxOf, h]
theorem ctxOf_cond {p : Path} {c : Operand} {a b : Code} {d : Nat} (h : codeAt body p = some (.cond c a b)) : ctxOf body (d :: p) = ctxOf body p := by simp only [ctxOf, h]
theorem ctxOf_block {p : Path} {id : Nat} {b : Code} (h : codeAt body p = some (.block id b)) : ctxOf body (0 :: p) = .inBlock id :: ctxOf body p := by simp only [ctxOf, h]
theorem ctxOf_loop {p : Path} {b : Code} (h : codeAt body p = some (.loop b)) : ctxOf body (0 :: p) = .inLoop b :: ctxOf body p := by simp only [ctxOf, h]
theorem ctxOf_scope {p : Path} {b : Code} {d : Nat} (h : codeAt body p = some (.scope b)) : ctxOf body (d :: p) = .inScope b :: ctxOf body p := by simp only [ctxOf, h]

include hG hfz0 hinv hfn hbody in
/-- A stop is reached. -/
theorem stop_sound {stk : List Fr} {fs : List Frame} {p : Path} {c : Code} {an : Ann} {st : St} {x : Cx} {a : Act} {w : World} (hp : codeAt body p = some c)
    (h : (match canon an stk st with
      | some st => s.stage inst stk f p st
      | none => none) = some r) (hR : SR x w0 fz0 fn.ntmps st a w) (hF : FrsR C (C.fid inst) x stk fs f) : FinS P C w0 fz0 inst r (mk f a (stopTodo c (ctxOf body p))) fs w := by
  split at h
  · rename_i st' hc
    obtain ⟨x', h1, h2⟩ := canon_sound hc hR hF
    exact hG inst stk f p st' r h w0 fz0 x' fs a w fn body c hfz0 hinv hfn hbody hp h1 h2
  · cases h

theorem EnvR.known {x : Cx} {st : St} {a : Act} (h : EnvR x st.env a) {c : Operand} {v : Bool} (hv : ev st.env c = .bool v) : EnvR x (known c v st).env a ∧ a.eval c = .bool v := by
  have hr := ev_RV h c
  rw [hv] at hr
  generalize hve : a.eval c = u at hr
  cases hr with
  | bool _ =>
    refine ⟨?_, rfl⟩
    unfold K.known
    split
    · rename_i t
      refine known_env h ?_
      have : a.eval (.tmp t) = a.tmps.getD t undef := rfl
      rw [← this, hve]; exact .bool v
    · exact h

theorem cond_sound {stk : List Fr} {fs : List Frame} {c : Operand} {x1 y1 : Code} {A B : St → Option (den (tyL (C.rts inst)))} {st : St} {x : Cx} {a : Act} {w : World} {td : List Item}
    (h : (match ev st.env c with
      | .bool v => cond v (A (known c true st)) (B (known c false st))
      | _ => none) = some r) (hR : SR x w0 fz0 fn.ntmps st a w) (hF : FrsR C (C.fid inst) x stk fs f)
    (hA : ∀ st x a w, A st = some r → SR x w0 fz0 fn.ntmps st a w → FrsR C (C.fid inst) x stk fs f → FinS P C w0 fz0 inst r (mk f a (.code x1 :: td)) fs w)
    (hB : ∀ st x a w, B st = some r → SR x w0 fz0 fn.ntmps st a w → FrsR C (C.fid inst) x stk fs f → FinS P C w0 fz0 inst r (mk f a (.code y1 :: td)) fs w) :
    FinS P C w0 fz0 inst r (mk f a (.code (.cond c x1 y1) :: td)) fs w := by
  split at h
  · rename_i v hv
    obtain ⟨h1, h2⟩ := EnvR.known hR.env hv
    have hkn : ∀ v', v = v' → SR x w0 fz0 fn.ntmps (known c v' st) a w := by
      intro v' hv'
      subst hv'
      have : (known c v st).heap = st.heap := by unfold known; split <;> rfl
      exact ⟨hR.hp, by rw [this]; exact hR.H, h1, hR.size, hR.defers, hR.hr, hR.fz, hR.bel⟩
    cases v with
    | true => exact Fin.of_step (fun cs => step_cond h2) (hA _ x _ w h (hkn _ rfl) hF)
    | false => exact Fin.of_step (fun cs => step_cond h2) (hB _ x _ w h (hkn _ rfl) hF)
  · cases h

include hC hS hG hfz0 hinv hfn hbody in
theorem run_sound {stk : List Fr} {fs : List Frame} : ∀ (c : Code) (p : Path) (st : St) (K : Ex → St → Option (den (tyL (C.rts inst)))) (x : Cx) (a : Act) (w : World), codeAt body p = some c →
    run s inst stk f fn.ntmps p c st K = some r → SR x w0 fz0 fn.ntmps st a w → FrsR C (C.fid inst) x stk fs f →
    (∀ e st x a w, K e st = some r → SR x w0 fz0 fn.ntmps st a w → FrsR C (C.fid inst) x stk fs f → FinE P C w0 fz0 inst r f fs (ctxOf body p) a w e) →
    FinS P C w0 fz0 inst r (mk f a (.code c :: ctxOf body p)) fs w := by
  intro c
  induction c with
  | seq c1 c2 ih1 ih2 =>
    intro p st K x a w hp h hR hF hK
    unfold run at h
    split at h
    · exact Fin.of_stop (stop_sound hG hfz0 hinv hfn hbody hp h hR hF)
    · simp only at h
      refine Fin.of_step (fun cs => step_seq) ?_
      have h0 : codeAt body (0 :: p) = some c1 := by simp only [codeAt, hp]
      have h1 : codeAt body (1 :: p) = some c2 := by simp only [codeAt, hp]
      have := ih1 (0 :: p) st _ x a w h0 h hR hF (fun e st x a w hk hR hF => by
        rw [ctxOf_seq0 hp]
        split at hk
        · have := ih2 (1 :: p) st _ x a w h1 hk hR hF (fun e st x a w hk hR hF => by rw [ctxOf_seq1 hp]; exact hK e st x a w hk hR hF)
          rw [ctxOf_seq1 hp] at this
          exact this
        · rename_i hne
          exact FinE.pass (fun h => hne h) (fun id _ => rfl) (fun l _ => rfl) (hK e st x a w hk hR hF))
      rw [ctxOf_seq0 hp] at this
      exact this
  | cond c c1 c2 ih1 ih2 =>
    intro p st K x a w hp h hR hF hK
    unfold run at h
    split at h
    · exact Fin.of_stop (stop_sound hG hfz0 hinv hfn hbody hp h hR hF)
    · simp only at h
      have h0 : codeAt body (0 :: p) = some c1 := by simp only [codeAt, hp]
      have h1 : codeAt body (1 :: p) = some c2 := by simp only [codeAt, hp]
      refine cond_sound (stk := stk) (A := fun st => run s inst stk f fn.ntmps (0 :: p) c1 st K) (B := fun st => run s inst stk f fn.ntmps (1 :: p) c2 st K) h hR hF ?_ ?_
      · intro st x a w h hR hF
        have := ih1 (0 :: p) st _ x a w h0 h hR hF (fun e st x a w hk hR hF => by rw [ctxOf_cond hp]; exact hK e st x a w hk hR hF)
        rw [ctxOf_cond hp] at this; exact this
      · intro st x a w h hR hF
        have := ih2 (1 :: p) st _ x a w h1 h hR hF (fun e st x a w hk hR hF => by rw [ctxOf_cond hp]; exact hK e st x a w hk hR hF)
        rw [ctxOf_cond hp] at this; exact this
  | block id c1 ih1 =>
    intro p st K x a w hp h hR hF hK
    unfold run at h
    split at h
    · exact Fin.of_stop (stop_sound hG hfz0 hinv hfn hbody hp h hR hF)
    · simp only at h
      refine Fin.of_step (fun cs => step_block) ?_
      have h0 : codeAt body (0 :: p) = some c1 := by simp only [codeAt, hp]
      have := ih1 (0 :: p) st _ x a w h0 h hR hF (fun e st x a w hk hR hF => by
        rw [ctxOf_block hp]
        split at hk
        · rename_i j
          split at hk
          · rename_i hj
            have hj := beq_true hj; subst hj
            exact ⟨ctxOf body p, by simp [exitTo], hK .normal st x a w hk hR hF⟩
          · rename_i hj
            have hj := beq_false hj
            refine FinE.pass (by simp) (fun id' he => ?_) (fun l _ => rfl) (hK _ st x a w hk hR hF)
            cases he
            have : (id == j) = false := by simp; exact fun h => hj h.symm
            simp [exitTo, this]
        · rename_i hne
          cases e with
          | normal => exact Fin.of_step (fun cs => step_inBlock) (hK .normal st x a w hk hR hF)
          | exit j => exact absurd rfl (hne j)
          | ret => exact hK .ret st x a w hk hR hF
          | goto l => exact FinE.pass (by simp) (fun id' he => by cases he) (fun l _ => rfl) (hK _ st x a w hk hR hF))
      rw [ctxOf_block hp] at this
      exact this
  | scope c1 ih1 =>
    intro p st K x a w hp h hR hF hK
    unfold run at h
    split at h
    · exact Fin.of_stop (stop_sound hG hfz0 hinv hfn hbody hp h hR hF)
    · simp only at h
      refine Fin.of_step (fun cs => step_scope) ?_
      have h0 : codeAt body (0 :: p) = some c1 := by simp only [codeAt, hp]
      have := ih1 (0 :: p) st _ x a w h0 h hR hF (fun e st x a w hk hR hF => by
        rw [ctxOf_scope hp]
        split at hk
        · rename_i l
          split at hk
          · rename_i c' hl
            have h2 : codeAt body ((l + 2) :: p) = some c' := by simp only [codeAt, hp]; exact hl
            split at hk
            · have := Fin.of_stop (stop_sound hG hfz0 hinv hfn hbody h2 hk hR hF)
              rw [ctxOf_scope hp] at this
              exact ⟨_, by simp only [gotoIn, hl], this⟩
            · cases hk
          · rename_i hl
            refine FinE.pass (by simp) (fun id' he => by cases he) (fun l' he => ?_) (hK _ st x a w hk hR hF)
            cases he
            simp only [gotoIn, hl]
        · rename_i hne
          cases e with
          | normal => exact Fin.of_step (fun cs => step_inScope) (hK .normal st x a w hk hR hF)
          | exit j => exact FinE.pass (by simp) (fun id' he => rfl) (fun l he => by cases he) (hK _ st x a w hk hR hF)
          | ret => exact hK .ret st x a w hk hR hF
          | goto l => exact absurd rfl (hne l))
      rw [ctxOf_scope hp] at this
      exact this
  | region id ops draw =>
    intro p st K x a w hp h hR hF hK
    unfold run at h
    split at h
    · exact Fin.of_stop (stop_sound hG hfz0 hinv hfn hbody hp h hR hF)
    · simp only at h
      exact runRegion_sound hC hS hG hfz0 hinv hfn hbody hp (fun st x a w hk hR hF => hK .normal st x a w hk hR hF) h hR hF
  | skip =>
    intro p st K x a w hp h hR hF hK
    unfold run at h
    split at h
    · exact Fin.of_stop (stop_sound hG hfz0 hinv hfn hbody hp h hR hF)
    · exact Fin.of_step (fun cs => step_skip) (hK .normal st x a w h hR hF)
  | label l =>
    intro p st K x a w hp h hR hF hK
    unfold run at h
    split at h
    · exact Fin.of_stop (stop_sound hG hfz0 hinv hfn hbody hp h hR hF)
    · exact Fin.of_step (fun cs => step_label) (hK .normal st x a w h hR hF)
  | exit id =>
    intro p st K x a w hp h hR hF hK
    unfold run at h
    split at h
    · exact Fin.of_stop (stop_sound hG hfz0 hinv hfn hbody hp h hR hF)
    · obtain ⟨k', h1, h2⟩ := hK (.exit id) st x a w h hR hF
      exact Fin.of_step (fun cs => step_exit h1) h2
  | goto l =>
    intro p st K x a w hp h hR hF hK
    unfold run at h
    split at h
    · exact Fin.of_stop (stop_sound hG hfz0 hinv hfn hbody hp h hR hF)
    · obtain ⟨k', h1, h2⟩ := hK (.goto l) st x a w h hR hF
      exact Fin.of_step (fun cs => step_goto h1) h2
  | ret =>
    intro p st K x a w hp h hR hF hK
    unfold run at h
    split at h
    · exact Fin.of_stop (stop_sound hG hfz0 hinv hfn hbody hp h hR hF)
    · exact Fin.of_step (fun cs => step_ret) (hK .ret st x a w h hR hF (.code .ret :: ctxOf body p))
  | _ =>
    intro p st K x a w hp h hR hF hK
    unfold run at h
    split at h
    · exact Fin.of_stop (stop_sound hG hfz0 hinv hfn hbody hp h hR hF)
    · cases h

include hC hS hG hfz0 hinv hfn hbody in
theorem kont_sound {stk : List Fr} {fs : List Frame} {R : St → Option (den (tyL (C.rts inst)))}
    (hRet : ∀ st x a w, R st = some r → SR x w0 fz0 fn.ntmps st a w → FrsR C (C.fid inst) x stk fs f → ∀ todo, FinS P C w0 fz0 inst r (mkRet f a todo) fs w) :
    ∀ (p : Path) (e : Ex) (st : St) (x : Cx) (a : Act) (w : World), kont s inst stk f fn.ntmps body R p e st = some r → SR x w0 fz0 fn.ntmps st a w → FrsR C (C.fid inst) x stk fs f →
      FinE P C w0 fz0 inst r f fs (ctxOf body p) a w e := by
  intro p
  induction p with
  | nil =>
    intro e st x a w h hR hF
    cases e with
    | normal => exact Fin.of_step (fun cs => step_end) (hRet st x a w h hR hF [])
    | ret => exact fun todo => hRet st x a w h hR hF todo
    | exit id => simp [kont] at h
    | goto l => simp [kont] at h
  | cons d p ih =>
    intro e st x a w h hR hF
    unfold kont at h
    split at h
    · cases h
    · rename_i c hp
      split at h
      · -- the first of two
        rename_i c1 c2
        rw [ctxOf_seq0 hp]
        split at h
        · have h1 : codeAt body (1 :: p) = some c2 := by simp only [codeAt, hp]
          have := run_sound hC hS hG hfz0 hinv hfn hbody c2 (1 :: p) st _ x a w h1 h hR hF (fun e st x a w hk hR hF => by rw [ctxOf_seq1 hp]; exact ih e st x a w hk hR hF)
          rw [ctxOf_seq1 hp] at this
          exact this
        · rename_i hne
          exact FinE.pass (fun h => hne h) (fun id _ => rfl) (fun l _ => rfl) (ih e st x a w h hR hF)
      · rw [ctxOf_seq1 hp]; exact ih e st x a w h hR hF
      · rw [ctxOf_cond hp]; exact ih e st x a w h hR hF
      · rw [ctxOf_cond hp]; exact ih e st x a w h hR hF
      · rename_i id c1
        rw [ctxOf_block hp]
        split at h
        · rename_i j
          split at h
          · rename_i hj
            have hj := beq_true hj; subst hj
            exact ⟨ctxOf body p, by simp [exitTo], ih .normal st x a w h hR hF⟩
          · rename_i hj
            have hj := beq_false hj
            refine FinE.pass (by simp) (fun id' he => ?_) (fun l _ => rfl) (ih _ st x a w h hR hF)
            cases he
            have : (id == j) = false := by simp; exact fun h => hj h.symm
            simp [exitTo, this]
        · rename_i hne
          cases e with
          | normal => exact Fin.of_step (fun cs => step_inBlock) (ih .normal st x a w h hR hF)
          | exit j => exact absurd rfl (hne j)
          | ret => exact ih .ret st x a w h hR hF
          | goto l => exact FinE.pass (by simp) (fun id' he => by cases he) (fun l _ => rfl) (ih _ st x a w h hR hF)
      · rename_i c1
        rw [ctxOf_loop hp]
        split at h
        · split at h
          · exact Fin.of_step (fun cs => step_inLoop) (stop_sound hG hfz0 hinv hfn hbody hp h hR hF)
          · cases h
        · rename_i hne
          exact FinE.pass (fun h => hne h) (fun id _ => rfl) (fun l _ => rfl) (ih e st x a w h hR hF)
      · rename_i c1
        rw [ctxOf_scope hp]
        split at h
        · rename_i l
          split at h
          · rename_i c' hl
            have h2 : codeAt body ((l + 2) :: p) = some c' := by simp only [codeAt, hp]; exact hl
            split at h
            · have := Fin.of_stop (stop_sound hG hfz0 hinv hfn hbody h2 h hR hF)
              rw [ctxOf_scope hp] at this
              exact ⟨_, by simp only [gotoIn, hl], this⟩
            · cases h
          · rename_i hl
            refine FinE.pass (by simp) (fun id' he => by cases he) (fun l' he => ?_) (ih _ st x a w h hR hF)
            cases he
            simp only [gotoIn, hl]
        · rename_i hne
          cases e with
          | normal => exact Fin.of_step (fun cs => step_inScope) (ih .normal st x a w h hR hF)
          | exit j => exact FinE.pass (by simp) (fun id' he => rfl) (fun l he => by cases he) (ih _ st x a w h hR hF)
          | ret => exact ih .ret st x a w h hR hF
          | goto l => exact absurd rfl (hne l)
      · cases h

/-! ### returns -/
theorem leaving_mk {P : Program} {f : Nat} {fn : Func} {a : Act} {todo : List Item} {us : List Value} {w : World} (hf : P.funcs[f]? = some fn) (hd : a.defers = []) (h : (fn.results.toList.mapM (resOne a)).run P w = Result.ok us w) :
    (mkRet f a todo).leaving P w (.returned (oneV us)) := by
  refine ⟨rfl, ?_, rfl, fn, hf, ?_⟩
  · show a.defers = []; exact hd
  · exact results_run h

theorem noOwn_tyL : ∀ (ts : List Ty), ts.any hasOwn = false → hasOwn (tyL ts) = false
  | [], _ => rfl
  | [t], h => by simpa [tyL] using h
  | t :: u :: ts, h => by
    simp only [List.any_cons, Bool.or_eq_false_iff] at h
    have := noOwn_tyL (u :: ts) (by simp [h.2])
    simp [tyL, hasOwn, h.1, this]

theorem plain_ResC {hp : Array Obj} {ok : Nat → Prop} (t : Ty) : ∀ (y : den t) (vs : List Value), hasOwn t = false → DeepC hp ok t y vs → ResC hp ok t y vs [] := by
  induction t with
  | own t _ => intro y vs ho; simp [hasOwn] at ho
  | pair a b iha ihb =>
    intro y vs ho h
    simp only [hasOwn, Bool.or_eq_false_iff] at ho
    obtain ⟨v1, v2, rfl, k1, k2⟩ := h
    exact ⟨v1, v2, [], [], rfl, rfl, iha _ _ ho.1 k1, ihb _ _ ho.2 k2⟩
  | one t ih => intro y vs ho h; exact ih y vs ho h
  | _ => intro y vs ho h; exact ⟨rfl, h⟩

theorem plain_ResL {hp : Array Obj} {ok : Nat → Prop} (ts : List Ty) : ∀ {y : den (tyL ts)} {vs : List Value}, hasOwn (tyL ts) = false → DenL hp ok ts y vs → ResL hp ok ts y vs [] := by
  have backV : ∀ (t : Ty) (y : den t) (v : Value), hasOwn t = false → DenV hp ok t y v → ResV hp ok t y v [] := by
    intro t y v ho h
    unfold DenV at h
    unfold ResV
    split at h
    · rename_i hag; rw [hag]; obtain ⟨vs, rfl, h⟩ := h; exact ⟨vs, rfl, plain_ResC t y vs ho h⟩
    · rename_i hag; rw [hag]; exact ⟨h.1, plain_ResC t y _ ho h.2⟩
  induction ts with
  | nil => intro y vs _ h; rw [DenL_0] at h; rw [ResL_0]; exact ⟨h, rfl⟩
  | cons t ts ih =>
    cases ts with
    | nil => intro y vs ho h; rw [DenL_1] at h; rw [ResL_1]; obtain ⟨v, rfl, h⟩ := h; exact ⟨v, rfl, backV t y v ho h⟩
    | cons u ts =>
      intro y vs ho h
      rw [DenL_2] at h
      rw [ResL_2]
      obtain ⟨v, vs', rfl, k1, k2⟩ := h
      have ho' : hasOwn t = false ∧ hasOwn (tyL (u :: ts)) = false := by simpa [tyL, hasOwn] using ho
      exact ⟨v, vs', [], [], rfl, rfl, backV t _ v ho'.1 k1, ih ho'.2 k2⟩

include hC in
theorem finish_sound {f : Nat} {fn : Func} (hfn : C.fn f = some fn) {st : St} {x : Cx} {a : Act} {w : World} (hid : f = C.fid inst) (h : finish inst fn.results.toList st = some r) (hR : SR x w0 fz0 fn.ntmps st a w) (todo : List Item) :
    FinS P C w0 fz0 inst r (mkRet f a todo) [] w := by
  unfold finish at h
  split at h
  · cases h
  · rename_i vs hvs
    split at h
    · rename_i hg
      obtain ⟨us, h1, h2⟩ := resultsOf_sound (P := P) hC.ti hR.hr hR.hp hR.H hR.env hvs
      obtain ⟨g1, g2, g3⟩ := hC.fn f fn hfn
      refine Fin.done (v := oneV us) hid (leaving_mk g1 hR.defers h2) ⟨_, rfl, hR.bel, ?_⟩
      have old : ∀ b, x.fz b → fz0 b ∨ w0.heap.size ≤ b ∧ b < w.heap.size := fun b hb => by
        rcases hR.fz b hb with h | h
        · exact .inl h
        · have := hR.hr.size b hb; rw [hR.hp] at this; exact .inr ⟨h, this⟩
      rw [← hR.H] at h
      split at hg
      · -- nothing is given away
        rename_i hno
        have hno := noOwn_tyL _ hno
        have NF := frz_next hR.hr hR.hp (tok := 0) (toksL vs)
        have hden := toDenL_deep hR.hr (fz' := (frzCx x (toksL vs)).fz) (fun b hb => .inl hb) (C.rts inst) h1 (frz_shows hR.hr _) h
        rw [hR.hp] at hden
        refine ⟨[], (frzCx x (toksL vs)).fz, us, fun b hb => ?_, List.nodup_nil, (fun b hb => by cases hb), rfl, plain_ResL _ hno hden⟩
        rcases NF.fz b hb with h' | h'
        · exact old b h'
        · have := NF.hr.size b hb; rw [NF.hp] at this; exact .inr ⟨h', this⟩
      · rename_i hyes
        split at hg
        · rename_i g sh hgv
          simp only [Bool.and_eq_true, List.all_eq_true, Bool.not_eq_true'] at hg
          obtain ⟨hnd, hdis⟩ := hg
          have hnd := nodupB_nodup hnd
          rw [← hR.H] at hgv
          have NF := frz_next hR.hr hR.hp (tok := 0) sh
          obtain ⟨ow, k1, k2⟩ := givesL_sound hR.hr (fz' := (frzCx x sh).fz) (fun b hb => .inl hb) (C.rts inst) h1 hgv h (frz_shows hR.hr _)
          rw [hR.hp] at k1
          refine ⟨ow, (frzCx x sh).fz, us, fun b hb => ?_, k2.nodup hR.hr hnd, fun b hb => ?_, rfl, k1⟩
          · rcases NF.fz b hb with h' | h'
            · exact old b h'
            · have := NF.hr.size b hb; rw [NF.hp] at this; exact .inr ⟨h', this⟩
          · obtain ⟨T, hT, ho⟩ := k2.mem b hb
            have hTs : T ∉ sh := by have := hdis T hT; simpa using this
            have hn : w0.heap.size ≤ b ∧ ¬ x.fz b := by
              obtain ⟨⟨o, ho⟩, hk⟩ := ho
              rcases hk with ⟨t, l, hk⟩ | ⟨cs, hk⟩
              · rcases hR.hr.blk T _ hk with ⟨_, h'⟩ | ⟨B', o', c, e, fr, q1, q2, q3, q4, _⟩
                · rw [ho] at h'; cases h'
                · rw [ho] at q1; cases q1; exact ⟨q3, q4⟩
              · obtain ⟨B', c, e, fr, q1, q2, q3, q4, _⟩ := hR.hr.blk T _ hk
                rw [ho] at q1; cases q1; exact ⟨q3, q4⟩
            refine ⟨hn.1, ?_⟩
            rintro (h' | ⟨T', hT', ⟨t, l, hk⟩, o, hm⟩)
            · exact hn.2 h'
            · have := hR.hr.inj T T' b ho ⟨⟨o, hm⟩, .inl ⟨t, l, hk⟩⟩
              subst this
              exact hTs hT'
        · cases hg
    · cases h

include hC hS hG hfz0 hinv in
theorem retTo_sound : ∀ (stk : List Fr) {fs : List Frame} {f : Nat} {fn : Func} (hfn : C.fn f = some fn) {st : St} {x : Cx} {a : Act} {w : World}, retTo s inst stk fn.results.toList st = some r →
    SR x w0 fz0 fn.ntmps st a w → FrsR C (C.fid inst) x stk fs f → ∀ todo, FinS P C w0 fz0 inst r (mkRet f a todo) fs w := by
  intro stk
  induction stk with
  | nil =>
    intro fs f fn hfn st x a w h hR hF todo
    cases hF
    exact finish_sound hC hfn rfl h hR todo
  | cons fr stk ih =>
    intro fs f fn hfn st x a w h hR hF todo
    unfold retTo at h
    split at h
    · cases h
    · rename_i vs hvs
      obtain ⟨us, h1, h2⟩ := resultsOf_sound (P := P) hC.ti hR.hr hR.hp hR.H hR.env hvs
      obtain ⟨g1, g2, g3⟩ := hC.fn f fn hfn
      cases hF with
      | cons _ _ fs' _ fn' body' a' id ops draw o q1 q2 q3 q4 q5 q6 q7 q8 q9 =>
      simp only [q1, q2, q3, q4] at h
      refine Fin.leave (leaving_mk g1 hR.defers h2) ?_
      rw [finish_mk fr.f a' ops fr.op fr.rest _ _ q4]
      refine runOps_sound hC hS hG hfz0 hinv q1 q2 q3 (fun st x a w hk hR hF => ?_) fr.rest _ x _ w h ?_ q9
      · exact kont_sound hC hS hG hfz0 hinv q1 q2 (fun st x a w h hR hF todo => ih q1 h hR hF todo) fr.path .normal st x a w hk hR hF
      · exact ⟨hR.hp, hR.H, putO_env q5 (oneOf_RV h1) (fun t ht => by rw [q7]; exact q8 t ht), by rw [put_size]; exact q7, by rw [put_defers]; exact q6, hR.hr, hR.fz, hR.bel⟩

include hC hS hG hfz0 hinv in
/-- One stop's work is good, if that of the stops behind it is. -/
theorem stageStep_sound {stk : List Fr} {f : Nat} {p : Path} {st : St} (h : stageStep s inst stk f p st = some r) {x : Cx} {fs : List Frame} {a : Act} {w : World} {fn : Func} {body c : Code} (hfn : C.fn f = some fn) (hbody : fn.body = some body)
    (hp : codeAt body p = some c) (hR : SR x w0 fz0 fn.ntmps st a w) (hF : FrsR C (C.fid inst) x stk fs f) : FinS P C w0 fz0 inst r (mk f a (stopTodo c (ctxOf body p))) fs w := by
  unfold stageStep at h
  simp only [hfn, hbody, hp] at h
  have hK : ∀ (p : Path) (e : Ex) (st : St) (x : Cx) (a : Act) (w : World), kont s inst stk f fn.ntmps body (retTo s inst stk fn.results.toList) p e st = some r → SR x w0 fz0 fn.ntmps st a w → FrsR C (C.fid inst) x stk fs f →
      FinE P C w0 fz0 inst r f fs (ctxOf body p) a w e := kont_sound hC hS hG hfz0 hinv hfn hbody fun st x a w h hR hF todo => retTo_sound hC hS hG hfz0 hinv stk hfn h hR hF todo
  cases c with
  | skip => exact Fin.of_step (fun cs => step_skip) (hK p .normal st x a w h hR hF)
  | label l => exact Fin.of_step (fun cs => step_label) (hK p .normal st x a w h hR hF)
  | ret => exact Fin.of_step (fun cs => step_ret) (hK p .ret st x a w h hR hF _)
  | exit id =>
    obtain ⟨k', h1, h2⟩ := hK p (.exit id) st x a w h hR hF
    exact Fin.of_step (fun cs => step_exit h1) h2
  | goto l =>
    obtain ⟨k', h1, h2⟩ := hK p (.goto l) st x a w h hR hF
    exact Fin.of_step (fun cs => step_goto h1) h2
  | region id ops draw => exact runRegion_sound hC hS hG hfz0 hinv hfn hbody hp (fun st x a w hk hR hF => hK p .normal st x a w hk hR hF) h hR hF
  | seq c1 c2 =>
    refine Fin.of_step (fun cs => step_seq) ?_
    have := run_sound hC hS hG hfz0 hinv hfn hbody c1 (0 :: p) st _ x a w (by simp only [codeAt, hp]) h hR hF (fun e st x a w hk hR hF => hK _ e st x a w hk hR hF)
    rw [ctxOf_seq0 hp] at this; exact this
  | cond cd c1 c2 =>
    refine cond_sound (stk := stk) (A := fun st => run s inst stk f fn.ntmps (0 :: p) c1 st _) (B := fun st => run s inst stk f fn.ntmps (1 :: p) c2 st _) h hR hF ?_ ?_
    · intro st x a w h hR hF
      have := run_sound hC hS hG hfz0 hinv hfn hbody c1 (0 :: p) st _ x a w (by simp only [codeAt, hp]) h hR hF (fun e st x a w hk hR hF => by rw [ctxOf_cond hp]; exact hK p e st x a w hk hR hF)
      rw [ctxOf_cond hp] at this; exact this
    · intro st x a w h hR hF
      have := run_sound hC hS hG hfz0 hinv hfn hbody c2 (1 :: p) st _ x a w (by simp only [codeAt, hp]) h hR hF (fun e st x a w hk hR hF => by rw [ctxOf_cond hp]; exact hK p e st x a w hk hR hF)
      rw [ctxOf_cond hp] at this; exact this
  | block id c1 =>
    refine Fin.of_step (fun cs => step_block) ?_
    have := run_sound hC hS hG hfz0 hinv hfn hbody c1 (0 :: p) st _ x a w (by simp only [codeAt, hp]) h hR hF (fun e st x a w hk hR hF => hK _ e st x a w hk hR hF)
    rw [ctxOf_block hp] at this; exact this
  | loop c1 =>
    have := run_sound hC hS hG hfz0 hinv hfn hbody c1 (0 :: p) st _ x a w (by simp only [codeAt, hp]) h hR hF (fun e st x a w hk hR hF => hK _ e st x a w hk hR hF)
    rw [ctxOf_loop hp] at this; exact this
  | scope c1 =>
    refine Fin.of_step (fun cs => step_scope) ?_
    have := run_sound hC hS hG hfz0 hinv hfn hbody c1 (0 :: p) st _ x a w (by simp only [codeAt, hp]) h hR hF (fun e st x a w hk hR hF => hK _ e st x a w hk hR hF)
    rw [ctxOf_scope hp] at this; exact this
  | _ => cases h

/-- What is laid from outside is met. -/
def ExtOk (P : Program) (C : Ctx) : Prop :=
  ∀ i g, C.ext i = some g → ∀ y r, g y = some r → ∀ (w : World) (fz0 : Nat → Prop) (vs : List Value), (∀ b, fz0 b → b < w.heap.size) → (C.fn (C.fid i)).isSome = true → C.inv w → DenL w.heap fz0 (C.pts i) y vs →
    Calls P (C.fid i) vs.toArray w (RetE C w fz0 i r)

theorem DenL_length {hp : Array Obj} {ok : Nat → Prop} (ts : List Ty) : ∀ {y : den (tyL ts)} {vs : List Value}, DenL hp ok ts y vs → vs.length = ts.length := by
  induction ts with
  | nil => intro y vs h; rw [DenL_0] at h; subst h; rfl
  | cons t ts ih =>
    cases ts with
    | nil => intro y vs h; rw [DenL_1] at h; obtain ⟨v, rfl, _⟩ := h; rfl
    | cons u ts => intro y vs h; rw [DenL_2] at h; obtain ⟨v, vs', rfl, _, h⟩ := h; simp [ih h]

/-- The machine is sound at every depth. -/
theorem sem_sound (hC : CtxOk P C) (hE : ExtOk P C) (hP : ∀ i fn, C.fn (C.fid i) = some fn → (C.pts i).length ≤ fn.ntmps) : ∀ k, SpecOk P (sem C k) ∧ StageOk P (sem C k) := by
  intro k
  induction k with
  | zero => exact ⟨fun i y r h => (by cases h), fun inst stk f p st r h => (by cases h)⟩
  | succ k ih =>
    obtain ⟨hS, hG⟩ := ih
    have hG' : StageOk P (sem C (k + 1)) := by
      intro inst stk f p st r h w0 fz0 x fs a w fn body c hfz0 hinv hfn hbody hp hR hF
      exact stageStep_sound hC hS hG hfz0 hinv h hfn hbody hp hR hF
    refine ⟨fun i y r h w fz0 vs hfz0 hfn hinv hy => ?_, hG'⟩
    have h : (match C.ext i with
        | some g => g y
        | none => stageStep (sem C k) i [] (C.fid i) [] { env := parEnv 0 (ofDenL (C.pts i) y), heap := [], salt := 0 }) = some r := h
    split at h
    · rename_i g hg
      exact hE i g hg y r h w fz0 vs hfz0 hfn hinv hy
    · obtain ⟨fn, hfn'⟩ := Option.isSome_iff_exists.1 hfn
      obtain ⟨g1, g2, g3⟩ := hC.fn _ fn hfn'
      obtain ⟨body, hbody⟩ := Option.isSome_iff_exists.1 g2
      have hlen := DenL_length _ hy
      have hP := hP i fn hfn'
      refine Fin.calls ?_
      rw [enter_mk g1 hbody]
      refine Fin.of_stop (c := body) (td := []) ?_
      let x : Cx := { hp := w.heap, fz := fz0, m := fun _ => none, H := [] }
      have hx : HR x w.heap.size := ⟨(fun tok b hb => by cases hb), (fun t1 t2 b h1 _ => by obtain ⟨⟨o, h⟩, _⟩ := h1; cases h), hfz0⟩
      refine stageStep_sound hC hS hG hfz0 hinv (x := x) h hfn' hbody rfl ?_ .nil
      exact ⟨rfl, rfl, enter_env (x := x) (ofDenL_RVL (x := x) _ hy) _, by simp; omega, rfl, hx, fun b hb => .inl hb, .refl _ _⟩

end
end Go.Proofs.YtenapomineinbaaGreatDoor.K

/- Contracts of Go's library at this dump: laid by the kit's shelf tools, in plain words; what is not used is left out (wip/shelf.py). -/
namespace Go.Proofs
open Go.Shelf Go.RowKit Go.Lib
def Tryz.lays169_ren : Go.Shelf.Ren := ⟨fun | 169 => 142 | n => n, fun | 70 => 130 | 9 => 9 | 0 => 0 | 72 => 133 | 37 => 131 | 127 => 172 | 3 => 3 | 5 => 5 | n => n, fun | n => n⟩
theorem Tryz.lays169 : Go.Proofs.Lays.n169 Tryz.prog Tryz.lays169_ren := {
  mixed := by kernel_rfl
  f169 := Tryz.func142.trans (congrArg some (by kernel_rfl))
  t0 := Tryz.underlying0
  a0 := Tryz.isAgg0
  z0 := Tryz.sizeOf0
  v0 := Tryz.zeroValue0
  t3 := Tryz.underlying3
  a3 := Tryz.isAgg3
  z3 := Tryz.sizeOf3
  v3 := Tryz.zeroValue3
  t9 := Tryz.underlying9
  a9 := Tryz.isAgg9
  z9 := Tryz.sizeOf9
  v9 := Tryz.zeroValue9
  t37 := Tryz.underlying131
  a37 := Tryz.isAgg131
  z37 := Tryz.sizeOf131
  v37 := Tryz.zeroValue131
  t70 := Tryz.underlying130
  a70 := Tryz.isAgg130
  z70 := Tryz.sizeOf130
  v70 := Tryz.zeroValue130
  t72 := Tryz.underlying133
  a72 := Tryz.isAgg133
  z72 := Tryz.sizeOf133
  v72 := Tryz.zeroValue133
  t127 := Tryz.underlying172
  a127 := Tryz.isAgg172
  z127 := Tryz.sizeOf172
  v127 := Tryz.zeroValue172 }
theorem Tryz.Builder_Extra_169 : Builder.Extra Tryz.prog Tryz.lays169_ren := {
  sizeBuilder := by kernel_rfl
  liesBuilder := by kernel_rfl
  t5 := Tryz.underlying5
  a5 := Tryz.isAgg5
  z5 := Tryz.sizeOf5
  v5 := Tryz.zeroValue5
  infoByte := by kernel_rfl
  cellsByte := by kernel_rfl
  sizeByte := by kernel_rfl
  neB5 := by decide }
def Tryz.lays161_ren : Go.Shelf.Ren := ⟨fun | 161 => 141 | 231 => 187 | 227 => 188 | 233 => 189 | 235 => 190 | 228 => 217 | 197 => 218 | 151 => 219 | 260 => 231 | 152 => 232 | 137 => 235 | 119 => 236 | 224 => 229 | 225 => 228 | 217 => 227 | 266 => 233 | n => n, fun | 9 => 9 | 4 => 4 | 3 => 3 | 5 => 5 | 117 => 168 | 116 => 167 | 0 => 0 | 124 => 171 | 105 => 194 | 21 => 21 | 119 => 203 | 46 => 149 | 139 => 206 | 138 => 205 | n => n, fun | 3 => 1 | 4 => 2 | n => n⟩
theorem Tryz.lays161 : Go.Proofs.Lays.n161 Tryz.prog Tryz.lays161_ren := {
  mixed := by kernel_rfl
  f119 := Tryz.func236.trans (congrArg some (by kernel_rfl))
  f137 := Tryz.func235.trans (congrArg some (by kernel_rfl))
  f151 := Tryz.func219.trans (congrArg some (by kernel_rfl))
  f152 := Tryz.func232.trans (congrArg some (by kernel_rfl))
  f161 := Tryz.func141.trans (congrArg some (by kernel_rfl))
  f197 := Tryz.func218.trans (congrArg some (by kernel_rfl))
  f217 := Tryz.func227.trans (congrArg some (by kernel_rfl))
  f224 := Tryz.func229.trans (congrArg some (by kernel_rfl))
  f225 := Tryz.func228.trans (congrArg some (by kernel_rfl))
  f227 := Tryz.func188.trans (congrArg some (by kernel_rfl))
  f228 := Tryz.func217.trans (congrArg some (by kernel_rfl))
  f231 := Tryz.func187.trans (congrArg some (by kernel_rfl))
  f233 := Tryz.func189.trans (congrArg some (by kernel_rfl))
  f235 := Tryz.func190.trans (congrArg some (by kernel_rfl))
  f260 := Tryz.func231.trans (congrArg some (by kernel_rfl))
  f266 := Tryz.func233.trans (congrArg some (by kernel_rfl))
  t0 := Tryz.underlying0
  a0 := Tryz.isAgg0
  z0 := Tryz.sizeOf0
  v0 := Tryz.zeroValue0
  t3 := Tryz.underlying3
  a3 := Tryz.isAgg3
  z3 := Tryz.sizeOf3
  v3 := Tryz.zeroValue3
  t4 := Tryz.underlying4
  a4 := Tryz.isAgg4
  z4 := Tryz.sizeOf4
  v4 := Tryz.zeroValue4
  t5 := Tryz.underlying5
  a5 := Tryz.isAgg5
  z5 := Tryz.sizeOf5
  v5 := Tryz.zeroValue5
  t9 := Tryz.underlying9
  a9 := Tryz.isAgg9
  z9 := Tryz.sizeOf9
  v9 := Tryz.zeroValue9
  t21 := Tryz.underlying21
  a21 := Tryz.isAgg21
  z21 := Tryz.sizeOf21
  v21 := Tryz.zeroValue21
  t46 := Tryz.underlying149
  a46 := Tryz.isAgg149
  z46 := Tryz.sizeOf149
  v46 := Tryz.zeroValue149
  t105 := Tryz.underlying194
  a105 := Tryz.isAgg194
  z105 := Tryz.sizeOf194
  v105 := Tryz.zeroValue194
  t116 := Tryz.underlying167
  a116 := Tryz.isAgg167
  z116 := Tryz.sizeOf167
  t117 := Tryz.underlying168
  a117 := Tryz.isAgg168
  z117 := Tryz.sizeOf168
  v117 := Tryz.zeroValue168
  t119 := Tryz.underlying203
  a119 := Tryz.isAgg203
  z119 := Tryz.sizeOf203
  t124 := Tryz.underlying171
  a124 := Tryz.isAgg171
  z124 := Tryz.sizeOf171
  v124 := Tryz.zeroValue171
  t138 := Tryz.underlying205
  a138 := Tryz.isAgg205
  z138 := Tryz.sizeOf205
  v138 := Tryz.zeroValue205
  t139 := Tryz.underlying206
  a139 := Tryz.isAgg206
  z139 := Tryz.sizeOf206
  v139 := Tryz.zeroValue206
  g3 := by kernel_rfl
  g4 := by kernel_rfl }
theorem Tryz.strings_TrimLeft_one (s : ByteArray) (c : UInt8) (hc : c.toNat < 128) (w : World) :
    Calls Tryz.prog 141 #[.string s, .string ⟨#[c]⟩] w fun e w' => e = .returned (.string ⟨(Lib.trimLeftB s.data.toList c).toArray⟩) ∧ w' = w := Any.strings_TrimLeft_one Tryz.lays161 s c hc w
def Tryz.lays128_ren : Go.Shelf.Ren := ⟨fun | 128 => 222 | n => n, fun | 51 => 144 | 3 => 3 | 4 => 4 | 46 => 149 | 5 => 5 | 9 => 9 | n => n, fun | n => n⟩
theorem Tryz.lays128 : Go.Proofs.Lays.n128 Tryz.prog Tryz.lays128_ren := {
  mixed := by kernel_rfl
  f128 := Tryz.func222.trans (congrArg some (by kernel_rfl))
  t3 := Tryz.underlying3
  a3 := Tryz.isAgg3
  z3 := Tryz.sizeOf3
  v3 := Tryz.zeroValue3
  t4 := Tryz.underlying4
  a4 := Tryz.isAgg4
  z4 := Tryz.sizeOf4
  v4 := Tryz.zeroValue4
  t5 := Tryz.underlying5
  a5 := Tryz.isAgg5
  z5 := Tryz.sizeOf5
  v5 := Tryz.zeroValue5
  t9 := Tryz.underlying9
  a9 := Tryz.isAgg9
  z9 := Tryz.sizeOf9
  v9 := Tryz.zeroValue9
  t46 := Tryz.underlying149
  a46 := Tryz.isAgg149
  z46 := Tryz.sizeOf149
  v46 := Tryz.zeroValue149
  t51 := Tryz.underlying144
  a51 := Tryz.isAgg144
  z51 := Tryz.sizeOf144
  v51 := Tryz.zeroValue144 }
theorem Tryz.bits_Len32 (x : Int) (w : World) (h0 : 0 ≤ x) (h1 : x ≤ 4294967295) :
    Calls Tryz.prog 222 #[.int .u32 x] w fun e w' => e = .returned (.int .i64 (Lib.bitLen x.toNat)) ∧ w' = w := Any.bits_Len32 Tryz.lays128 x w h0 h1
def Tryz.lays125_ren : Go.Shelf.Ren := ⟨fun | 125 => 202 | 128 => 222 | 129 => 224 | n => n, fun | 46 => 149 | 3 => 3 | 51 => 144 | 53 => 88 | 4 => 4 | 5 => 5 | 9 => 9 | n => n, fun | n => n⟩
theorem Tryz.lays125 : Go.Proofs.Lays.n125 Tryz.prog Tryz.lays125_ren := {
  mixed := by kernel_rfl
  f125 := Tryz.func202.trans (congrArg some (by kernel_rfl))
  f128 := Tryz.func222.trans (congrArg some (by kernel_rfl))
  f129 := Tryz.func224.trans (congrArg some (by kernel_rfl))
  t3 := Tryz.underlying3
  a3 := Tryz.isAgg3
  z3 := Tryz.sizeOf3
  v3 := Tryz.zeroValue3
  t4 := Tryz.underlying4
  a4 := Tryz.isAgg4
  z4 := Tryz.sizeOf4
  v4 := Tryz.zeroValue4
  t5 := Tryz.underlying5
  a5 := Tryz.isAgg5
  z5 := Tryz.sizeOf5
  v5 := Tryz.zeroValue5
  t9 := Tryz.underlying9
  a9 := Tryz.isAgg9
  z9 := Tryz.sizeOf9
  v9 := Tryz.zeroValue9
  t46 := Tryz.underlying149
  a46 := Tryz.isAgg149
  z46 := Tryz.sizeOf149
  v46 := Tryz.zeroValue149
  t51 := Tryz.underlying144
  a51 := Tryz.isAgg144
  z51 := Tryz.sizeOf144
  v51 := Tryz.zeroValue144
  t53 := Tryz.underlying88
  a53 := Tryz.isAgg88
  z53 := Tryz.sizeOf88
  v53 := Tryz.zeroValue88 }
theorem Tryz.bits_Len (x : Int) (w : World) (h0 : 0 ≤ x) (h1 : x ≤ 18446744073709551615) :
    Calls Tryz.prog 202 #[.int .u64 x] w fun e w' => e = .returned (.int .i64 (Lib.bitLen x.toNat)) ∧ w' = w := Any.bits_Len Tryz.lays125 x w h0 h1
def Tryz.lays133_ren : Go.Shelf.Ren := ⟨fun | 133 => 193 | 128 => 222 | n => n, fun | 51 => 144 | 3 => 3 | 4 => 4 | 46 => 149 | 5 => 5 | 9 => 9 | n => n, fun | n => n⟩
theorem Tryz.lays133 : Go.Proofs.Lays.n133 Tryz.prog Tryz.lays133_ren := {
  mixed := by kernel_rfl
  f128 := Tryz.func222.trans (congrArg some (by kernel_rfl))
  f133 := Tryz.func193.trans (congrArg some (by kernel_rfl))
  t3 := Tryz.underlying3
  a3 := Tryz.isAgg3
  z3 := Tryz.sizeOf3
  v3 := Tryz.zeroValue3
  t4 := Tryz.underlying4
  a4 := Tryz.isAgg4
  z4 := Tryz.sizeOf4
  v4 := Tryz.zeroValue4
  t5 := Tryz.underlying5
  a5 := Tryz.isAgg5
  z5 := Tryz.sizeOf5
  v5 := Tryz.zeroValue5
  t9 := Tryz.underlying9
  a9 := Tryz.isAgg9
  z9 := Tryz.sizeOf9
  v9 := Tryz.zeroValue9
  t46 := Tryz.underlying149
  a46 := Tryz.isAgg149
  z46 := Tryz.sizeOf149
  v46 := Tryz.zeroValue149
  t51 := Tryz.underlying144
  a51 := Tryz.isAgg144
  z51 := Tryz.sizeOf144
  v51 := Tryz.zeroValue144 }
theorem Tryz.bits_LeadingZeros32 (x : Int) (w : World) (h0 : 0 ≤ x) (h1 : x ≤ 4294967295) :
    Calls Tryz.prog 193 #[.int .u32 x] w fun e w' => e = .returned (.int .i64 (32 - (Lib.bitLen x.toNat : Int))) ∧ w' = w := Any.bits_LeadingZeros32 Tryz.lays133 x w h0 h1
theorem Tryz.Builder_String_any_k (B b : Nat) (l : List UInt8) (w : World) (h : Lib.IsBuilderF 133 5 B b (Lib.byteCells l) w) (hBw : B ≤ w.heap.size) :
    Calls Tryz.prog 142 #[.pointer (some ⟨b, 0, none⟩)] w fun e w' => e = .returned (.string ⟨l.toArray⟩) ∧ (Lib.IsBuilderF 133 5 B b (Lib.byteCells l) w' ∧ Below B w w' ∧ Lib.OthersKept 5 (some b) w w') := Any.Builder_String_any_k Tryz.lays169 Tryz.Builder_Extra_169 B b l w h hBw
def Tryz.lays145_ren : Go.Shelf.Ren := ⟨fun | 145 => 83 | 220 => 164 | 219 => 210 | 217 => 227 | 225 => 228 | 224 => 229 | 267 => 230 | 266 => 233 | 314 => 234 | n => n, fun | 9 => 9 | 4 => 4 | 59 => 98 | 3 => 3 | 5 => 5 | 46 => 149 | 146 => 185 | 51 => 144 | n => n, fun | 1 => 0 | n => n⟩
theorem Tryz.lays145 : Go.Proofs.Lays.n145 Tryz.prog Tryz.lays145_ren := {
  mixed := by kernel_rfl
  f145 := Tryz.func83.trans (congrArg some (by kernel_rfl))
  f217 := Tryz.func227.trans (congrArg some (by kernel_rfl))
  f219 := Tryz.func210.trans (congrArg some (by kernel_rfl))
  f220 := Tryz.func164.trans (congrArg some (by kernel_rfl))
  f224 := Tryz.func229.trans (congrArg some (by kernel_rfl))
  f225 := Tryz.func228.trans (congrArg some (by kernel_rfl))
  f266 := Tryz.func233.trans (congrArg some (by kernel_rfl))
  f267 := Tryz.func230.trans (congrArg some (by kernel_rfl))
  f314 := Tryz.func234.trans (congrArg some (by kernel_rfl))
  t3 := Tryz.underlying3
  a3 := Tryz.isAgg3
  z3 := Tryz.sizeOf3
  v3 := Tryz.zeroValue3
  t4 := Tryz.underlying4
  a4 := Tryz.isAgg4
  z4 := Tryz.sizeOf4
  v4 := Tryz.zeroValue4
  t5 := Tryz.underlying5
  a5 := Tryz.isAgg5
  z5 := Tryz.sizeOf5
  v5 := Tryz.zeroValue5
  t9 := Tryz.underlying9
  a9 := Tryz.isAgg9
  z9 := Tryz.sizeOf9
  v9 := Tryz.zeroValue9
  t46 := Tryz.underlying149
  a46 := Tryz.isAgg149
  z46 := Tryz.sizeOf149
  v46 := Tryz.zeroValue149
  t51 := Tryz.underlying144
  a51 := Tryz.isAgg144
  z51 := Tryz.sizeOf144
  v51 := Tryz.zeroValue144
  t59 := Tryz.underlying98
  a59 := Tryz.isAgg98
  z59 := Tryz.sizeOf98
  v59 := Tryz.zeroValue98
  t146 := Tryz.underlying185
  a146 := Tryz.isAgg185
  z146 := Tryz.sizeOf185
  v146 := Tryz.zeroValue185
  g1 := by kernel_rfl }
theorem Tryz.strings_Cut (s sep : ByteArray) (m : Int) (w : World) (hs : s.size < 4294967281) (hm : w.cell? ⟨0, 0, none⟩ = some (.int .i64 m)) :
    Calls Tryz.prog 83 #[.string s, .string sep] w fun e w' => e = .returned (.tuple #[.string ⟨(Lib.cut s.data.toList sep.data.toList).1.toArray⟩, .string ⟨(Lib.cut s.data.toList sep.data.toList).2.1.toArray⟩, .bool (Lib.cut s.data.toList sep.data.toList).2.2]) ∧ ∃ n, w' = w.drewN n := Any.strings_Cut Tryz.lays145 s sep m w hs hm
def Tryz.lays99_ren : Go.Shelf.Ren := ⟨fun | 99 => 101 | 206 => 174 | n => n, fun | 9 => 9 | 4 => 4 | 3 => 3 | n => n, fun | n => n⟩
theorem Tryz.lays99 : Go.Proofs.Lays.n99 Tryz.prog Tryz.lays99_ren := {
  mixed := by kernel_rfl
  f99 := Tryz.func101.trans (congrArg some (by kernel_rfl))
  f206 := Tryz.func174.trans (congrArg some (by kernel_rfl))
  t3 := Tryz.underlying3
  a3 := Tryz.isAgg3
  z3 := Tryz.sizeOf3
  v3 := Tryz.zeroValue3
  t4 := Tryz.underlying4
  a4 := Tryz.isAgg4
  z4 := Tryz.sizeOf4
  v4 := Tryz.zeroValue4
  t9 := Tryz.underlying9
  a9 := Tryz.isAgg9
  z9 := Tryz.sizeOf9
  v9 := Tryz.zeroValue9 }
theorem Tryz.strings_HasPrefix (s p : ByteArray) (w : World) :
    Calls Tryz.prog 101 #[.string s, .string p] w fun e w' => e = .returned (.bool (Lib.hasPrefix s.data.toList p.data.toList)) ∧ w' = w := Any.strings_HasPrefix Tryz.lays99 s p w
def Tryz.lays105_ren : Go.Shelf.Ren := ⟨fun | 105 => 71 | 212 => 152 | 99 => 101 | 165 => 153 | 166 => 140 | 170 => 154 | 169 => 142 | 263 => 203 | 264 => 204 | 206 => 174 | 240 => 186 | 241 => 205 | 276 => 216 | 277 => 225 | n => n, fun | 9 => 9 | 3 => 3 | 4 => 4 | 20 => 20 | 0 => 0 | 46 => 149 | 109 => 151 | 5 => 5 | 72 => 133 | 76 => 136 | 51 => 144 | 146 => 185 | 53 => 88 | 148 => 187 | 70 => 130 | 37 => 131 | 75 => 135 | 127 => 172 | 164 => 192 | 80 => 138 | n => n, fun | n => n⟩
theorem Tryz.lays105 : Go.Proofs.Lays.n105 Tryz.prog Tryz.lays105_ren := {
  mixed := by kernel_rfl
  f99 := Tryz.func101.trans (congrArg some (by kernel_rfl))
  f105 := Tryz.func71.trans (congrArg some (by kernel_rfl))
  f165 := Tryz.func153.trans (congrArg some (by kernel_rfl))
  f166 := Tryz.func140.trans (congrArg some (by kernel_rfl))
  f169 := Tryz.func142.trans (congrArg some (by kernel_rfl))
  f170 := Tryz.func154.trans (congrArg some (by kernel_rfl))
  f206 := Tryz.func174.trans (congrArg some (by kernel_rfl))
  f212 := Tryz.func152.trans (congrArg some (by kernel_rfl))
  f240 := Tryz.func186.trans (congrArg some (by kernel_rfl))
  f241 := Tryz.func205.trans (congrArg some (by kernel_rfl))
  f263 := Tryz.func203.trans (congrArg some (by kernel_rfl))
  f264 := Tryz.func204.trans (congrArg some (by kernel_rfl))
  f276 := Tryz.func216.trans (congrArg some (by kernel_rfl))
  f277 := Tryz.func225.trans (congrArg some (by kernel_rfl))
  t0 := Tryz.underlying0
  a0 := Tryz.isAgg0
  z0 := Tryz.sizeOf0
  v0 := Tryz.zeroValue0
  t3 := Tryz.underlying3
  a3 := Tryz.isAgg3
  z3 := Tryz.sizeOf3
  v3 := Tryz.zeroValue3
  t4 := Tryz.underlying4
  a4 := Tryz.isAgg4
  z4 := Tryz.sizeOf4
  v4 := Tryz.zeroValue4
  t5 := Tryz.underlying5
  a5 := Tryz.isAgg5
  z5 := Tryz.sizeOf5
  v5 := Tryz.zeroValue5
  t9 := Tryz.underlying9
  a9 := Tryz.isAgg9
  z9 := Tryz.sizeOf9
  v9 := Tryz.zeroValue9
  t20 := Tryz.underlying20
  a20 := Tryz.isAgg20
  z20 := Tryz.sizeOf20
  v20 := Tryz.zeroValue20
  t37 := Tryz.underlying131
  a37 := Tryz.isAgg131
  z37 := Tryz.sizeOf131
  v37 := Tryz.zeroValue131
  t46 := Tryz.underlying149
  a46 := Tryz.isAgg149
  z46 := Tryz.sizeOf149
  v46 := Tryz.zeroValue149
  t51 := Tryz.underlying144
  a51 := Tryz.isAgg144
  z51 := Tryz.sizeOf144
  v51 := Tryz.zeroValue144
  t53 := Tryz.underlying88
  a53 := Tryz.isAgg88
  z53 := Tryz.sizeOf88
  v53 := Tryz.zeroValue88
  t70 := Tryz.underlying130
  a70 := Tryz.isAgg130
  z70 := Tryz.sizeOf130
  v70 := Tryz.zeroValue130
  t72 := Tryz.underlying133
  a72 := Tryz.isAgg133
  z72 := Tryz.sizeOf133
  v72 := Tryz.zeroValue133
  t75 := Tryz.underlying135
  a75 := Tryz.isAgg135
  z75 := Tryz.sizeOf135
  v75 := Tryz.zeroValue135
  t76 := Tryz.underlying136
  a76 := Tryz.isAgg136
  z76 := Tryz.sizeOf136
  v76 := Tryz.zeroValue136
  t109 := Tryz.underlying151
  a109 := Tryz.isAgg151
  z109 := Tryz.sizeOf151
  v109 := Tryz.zeroValue151
  t127 := Tryz.underlying172
  a127 := Tryz.isAgg172
  z127 := Tryz.sizeOf172
  v127 := Tryz.zeroValue172
  t146 := Tryz.underlying185
  a146 := Tryz.isAgg185
  z146 := Tryz.sizeOf185
  v146 := Tryz.zeroValue185
  t148 := Tryz.underlying187
  a148 := Tryz.isAgg187
  z148 := Tryz.sizeOf187
  v148 := Tryz.zeroValue187
  t164 := Tryz.underlying192
  a164 := Tryz.isAgg192
  z164 := Tryz.sizeOf192
  v164 := Tryz.zeroValue192 }
theorem Tryz.Builder_Extra_105 : Builder.Extra Tryz.prog Tryz.lays105_ren := {
  sizeBuilder := by kernel_rfl
  liesBuilder := by kernel_rfl
  t5 := Tryz.underlying5
  a5 := Tryz.isAgg5
  z5 := Tryz.sizeOf5
  v5 := Tryz.zeroValue5
  infoByte := by kernel_rfl
  cellsByte := by kernel_rfl
  sizeByte := by kernel_rfl
  neB5 := by decide }
theorem Tryz.strings_Repeat (s : ByteArray) (c : Nat) (w : World) (hc : c ≤ 9223372036854775807) (hlen : s.size * c ≤ 140737488355328) :
    Calls Tryz.prog 71 #[.string s, .int .i64 c] w fun e w' => e = .returned (.string ⟨(Lib.repeatL s.data.toList c).toArray⟩) ∧ Below w.heap.size w w' := Any.strings_Repeat Tryz.lays105 Tryz.Builder_Extra_105 s c w hc hlen
end Go.Proofs

/- The abstract machine: functions that are laid from outside, by the shelf's contracts of Go's library. -/
set_option linter.unusedVariables false
set_option linter.unusedSimpArgs false
namespace Go.Proofs.YtenapomineinbaaGreatDoor.K
open Go
open Go.RowKit (Below)

/-- One function's contract. -/
def ExtAt (P : Program) (C : Ctx) (i : Nat) (g : den (tyL (C.pts i)) → Option (den (tyL (C.rts i)))) : Prop :=
  ∀ y r, g y = some r → ∀ (w : World) (fz0 : Nat → Prop) (vs : List Value), (∀ b, fz0 b → b < w.heap.size) → C.inv w → DenL w.heap fz0 (C.pts i) y vs →
    Calls P (C.fid i) vs.toArray w (RetE C w fz0 i r)

def lookE {A : Nat → Type} : List ((j : Nat) × A j) → (i : Nat) → Option (A i)
  | [], _ => none
  | ⟨j, f⟩ :: l, i => if h : j = i then some (h ▸ f) else lookE l i

theorem lookE_all {A : Nat → Type} {Q : (i : Nat) → A i → Prop} : ∀ {l : List ((j : Nat) × A j)}, (∀ p ∈ l, Q p.1 p.2) → ∀ i g, lookE l i = some g → Q i g
  | [], _, i, g, h => by cases h
  | ⟨j, f⟩ :: l, hl, i, g, h => by
    simp only [lookE] at h
    split at h
    · rename_i e
      subst e
      cases h
      exact hl _ (List.mem_cons_self ..)
    · exact lookE_all (fun p hp => hl p (List.mem_cons_of_mem _ hp)) i g h

theorem allE_nil {A : Nat → Type} {Q : (i : Nat) → A i → Prop} : ∀ p ∈ ([] : List ((j : Nat) × A j)), Q p.1 p.2 := fun p h => by cases h
theorem allE_cons {A : Nat → Type} {Q : (i : Nat) → A i → Prop} {j : Nat} {f : A j} {l : List ((j : Nat) × A j)} (h : Q j f) (hl : ∀ p ∈ l, Q p.1 p.2) : ∀ p ∈ (⟨j, f⟩ :: l : List ((j : Nat) × A j)), Q p.1 p.2 := fun p hp => by
  rcases List.mem_cons.1 hp with rfl | hp
  · exact h
  · exact hl p hp

theorem ext_of {P : Program} {C : Ctx} {l : List ((j : Nat) × (den (tyL (C.pts j)) → Option (den (tyL (C.rts j)))))} (he : C.ext = lookE l) (h : ∀ p ∈ l, ExtAt P C p.1 p.2) : ExtOk P C := by
  intro i g hg y r hy w fz0 vs hfz hfn hinv hd
  rw [he] at hg
  exact lookE_all (Q := ExtAt P C) h i g hg y r hy w fz0 vs hfz hinv hd

/-- A result that shares no memory, or what was there. -/
theorem retE_plain {C : Ctx} {i : Nat} {r : den (tyL (C.rts i))} {w w' : World} {fz0 : Nat → Prop} {vs : List Value} (hb : Below w.heap.size w w') (ho : hasOwn (tyL (C.rts i)) = false) (hd : DenL w'.heap fz0 (C.rts i) r vs) :
    RetE C w fz0 i r (.returned (oneV vs)) w' :=
  ⟨_, rfl, hb, [], fz0, vs, fun b h => .inl h, List.nodup_nil, (fun b h => by cases h), rfl, plain_ResL _ ho hd⟩

def bs (l : List UInt8) : ByteArray := ⟨l.toArray⟩
theorem bs_size (l : List UInt8) : (bs l).size = l.length := by simp [bs, ByteArray.size]

/-- A slice of texts, in memory. -/
theorem strs_cells {w : World} {ok : Nat → Prop} {b o : Nat} {c : Array Value} {e : TypeId} {fr : Nat × Nat} {l : List (List UInt8)} (hb : w.heap[b]? = some (Obj.cells c e fr)) (h : ∀ i (h : i < l.length), DeepC w.heap ok .str l[i] (row c (o + i * 1) 1)) :
    ∀ (j : Nat) x, (l.map bs)[j]? = some x → w.cell? ⟨b, o + j, none⟩ = some (.string x) := by
  intro j x hx
  have hj : j < l.length := by
    rcases Nat.lt_or_ge j l.length with h | h
    · exact h
    · rw [List.getElem?_eq_none (by simpa using h)] at hx; cases hx
  have hx' : x = bs l[j] := by
    rw [List.getElem?_map, List.getElem?_eq_getElem hj] at hx
    simpa using hx.symm
  subst hx'
  have hr : row c (o + j * 1) 1 = [.string ⟨l[j].toArray⟩] := h j hj
  rw [Nat.mul_one] at hr
  simp only [World.cell?, hb]
  unfold row at hr
  have : (c.toList.drop (o + j))[0]? = some (.string ⟨l[j].toArray⟩) := by
    have h2 : ((c.toList.drop (o + j)).take 1)[0]? = some (.string ⟨l[j].toArray⟩) := by rw [hr]; rfl
    simpa [List.getElem?_take] using h2
  rw [List.getElem?_drop] at this
  unfold bs
  simpa using this

/-- A function's contract, by its types alone. -/
def RetT (ts : List Ty) (w : World) (fz0 : Nat → Prop) (r : den (tyL ts)) (e : Ending) (w' : World) : Prop :=
  ∃ v, e = .returned v ∧ Below w.heap.size w w' ∧ ∃ (ow : List Nat) (ok : Nat → Prop) (vs : List Value), (∀ b, ok b → fz0 b ∨ (w.heap.size ≤ b ∧ b < w'.heap.size)) ∧ ow.Nodup ∧ (∀ b ∈ ow, w.heap.size ≤ b ∧ ¬ ok b) ∧
    v = oneV vs ∧ ResL w'.heap ok ts r vs ow

def CallT (P : Program) (f : Nat) (ps rs : List Ty) (inv : World → Prop) (g : den (tyL ps) → Option (den (tyL rs))) : Prop :=
  ∀ y r, g y = some r → ∀ (w : World) (fz0 : Nat → Prop) (vs : List Value), (∀ b, fz0 b → b < w.heap.size) → inv w → DenL w.heap fz0 ps y vs → Calls P f vs.toArray w (RetT rs w fz0 r)

theorem ext_at {P : Program} {C : Ctx} {i : Nat} {g : den (tyL (C.pts i)) → Option (den (tyL (C.rts i)))} (h : CallT P (C.fid i) (C.pts i) (C.rts i) C.inv g) : ExtAt P C i g :=
  fun y r hy w fz0 vs hfz hinv hd => (h y r hy w fz0 vs hfz hinv hd).mono fun e w' ⟨v, he, hb, hr⟩ => ⟨v, he, hb, hr⟩

theorem retT_plain {ts : List Ty} {r : den (tyL ts)} {w w' : World} {fz0 : Nat → Prop} (vs : List Value) (hb : Below w.heap.size w w') (ho : hasOwn (tyL ts) = false) (hd : DenL w'.heap fz0 ts r vs) :
    RetT ts w fz0 r (.returned (oneV vs)) w' :=
  ⟨_, rfl, hb, [], fz0, vs, fun b h => .inl h, List.nodup_nil, (fun b h => by cases h), rfl, plain_ResL _ ho hd⟩

def joinF (y : List (List UInt8) × List UInt8) : Option (List UInt8) :=
  cond (decide (y.1.length ≤ 140737488355328) && decide ((Lib.join y.1 y.2).length ≤ 140737488355328)) (some (Lib.join y.1 y.2)) none

theorem map_bs (l : List (List UInt8)) : (l.map bs).map (fun b => b.data.toList) = l := by
  induction l with
  | nil => rfl
  | cons x l ih => simp only [List.map_cons, ih]; simp [bs]

theorem cond_some {α : Type} {c : Bool} {a r : α} (h : cond c (some a) none = some r) : c = true ∧ a = r := by
  cases c with
  | true => exact ⟨rfl, Option.some.inj h⟩
  | false => cases h

theorem denStr {hp : Array Obj} {ok : Nat → Prop} (l : List UInt8) : DenL hp ok [.str] l [.string ⟨l.toArray⟩] := by
  show ∃ v, _ = [v] ∧ DenV hp ok .str l v
  refine ⟨_, rfl, ?_⟩
  show Ty.str ≠ .unit ∧ DeepC hp ok .str l _
  exact ⟨by simp, rfl⟩

theorem denBool {hp : Array Obj} {ok : Nat → Prop} (b : Bool) : DenL hp ok [.bool] b [.bool b] := by
  show ∃ v, _ = [v] ∧ DenV hp ok .bool b v
  refine ⟨_, rfl, ?_⟩
  show Ty.bool ≠ .unit ∧ DeepC hp ok .bool b _
  exact ⟨by simp, rfl⟩

theorem denInt {hp : Array Obj} {ok : Nat → Prop} (k : IntKind) (n : Int) : DenL hp ok [.int k] n [.int k n] := by
  show ∃ v, _ = [v] ∧ DenV hp ok (.int k) n v
  refine ⟨_, rfl, ?_⟩
  show Ty.int k ≠ .unit ∧ DeepC hp ok (.int k) n _
  exact ⟨by simp, rfl⟩

theorem denCons {hp : Array Obj} {ok : Nat → Prop} {t u : Ty} {ts : List Ty} {x : den t} {v : Value} {y : den (tyL (u :: ts))} {vs : List Value} (h1 : DenL hp ok [t] x [v]) (h2 : DenL hp ok (u :: ts) y vs) : DenL hp ok (t :: u :: ts) (x, y) (v :: vs) := by
  have h1 : ∃ v', [v] = [v'] ∧ DenV hp ok t x v' := h1
  obtain ⟨v', e, h1⟩ := h1
  cases e
  show ∃ a b, v :: vs = a :: b ∧ DenV hp ok t x a ∧ DenL hp ok (u :: ts) y b
  exact ⟨v, vs, rfl, h1, h2⟩

theorem unStr {hp : Array Obj} {ok : Nat → Prop} {l : List UInt8} {vs : List Value} (h : DenL hp ok [.str] l vs) : vs = [.string ⟨l.toArray⟩] := by
  have hE : ∃ v, vs = [v] ∧ DenV hp ok .str l v := h
  obtain ⟨v, e0, h1⟩ := hE
  have h2 : Ty.str ≠ .unit ∧ DeepC hp ok .str l [v] := h1
  exact e0.trans h2.2

theorem unInt {hp : Array Obj} {ok : Nat → Prop} {k : IntKind} {n : Int} {vs : List Value} (h : DenL hp ok [.int k] n vs) : vs = [.int k n] := by
  have hE : ∃ v, vs = [v] ∧ DenV hp ok (.int k) n v := h
  obtain ⟨v, e0, h1⟩ := hE
  have h2 : Ty.int k ≠ .unit ∧ DeepC hp ok (.int k) n [v] := h1
  exact e0.trans h2.2

theorem unCons {hp : Array Obj} {ok : Nat → Prop} {t u : Ty} {ts : List Ty} {y : den (tyL (t :: u :: ts))} {vs : List Value} (h : DenL hp ok (t :: u :: ts) y vs) : ∃ v us, vs = v :: us ∧ DenL hp ok [t] y.1 [v] ∧ DenL hp ok (u :: ts) y.2 us := by
  rw [DenL_2] at h
  obtain ⟨v, us, rfl, h1, h2⟩ := h
  exact ⟨v, us, rfl, (show ∃ v', [v] = [v'] ∧ DenV hp ok t y.1 v' from ⟨v, rfl, h1⟩), h2⟩

/-- The word that strings.Index reads. -/
def MaxLen (w : World) : Prop := ∃ m, w.cell? ⟨0, 0, none⟩ = some (.int .i64 m)
theorem maxLen_keeps : ∀ w w', MaxLen w → Below w.heap.size w w' → MaxLen w' := fun w w' ⟨m, h⟩ hb => by
  refine ⟨m, (hb.cell (p := ⟨0, 0, none⟩) ?_).trans h⟩
  unfold World.cell? at h
  split at h
  · rename_i hb
    exact lt_size hb
  · cases h
def cutF (y : List UInt8 × List UInt8) : Option (List UInt8 × List UInt8 × Bool) :=
  cond (decide (y.1.length < 4294967281)) (some (Lib.cut y.1 y.2)) none

theorem cut_ok {inv : World → Prop} (hi : ∀ w, inv w → MaxLen w) : CallT Tryz.prog 83 [.str, .str] [.str, .str, .bool] inv cutF := by
  intro y r h w fz0 vs hfz hinv hd
  obtain ⟨hc, rfl⟩ := cond_some h
  simp only [decide_eq_true_eq] at hc
  obtain ⟨v, us, rfl, d1, d2⟩ := unCons hd
  have e1 := unStr d1
  have e2 := unStr d2
  cases e1
  subst e2
  obtain ⟨m, hm⟩ := hi w hinv
  have := Tryz.strings_Cut (bs y.1) (bs y.2) m w (by simpa [bs, ByteArray.size] using hc) hm
  refine this.mono fun e w' ⟨he, n, hw⟩ => ?_
  subst he; subst hw
  exact retT_plain (ts := [.str, .str, .bool]) (r := Lib.cut y.1 y.2) [_, _, _] (below_drewN (.refl _ _) n) rfl (denCons (denStr _) (denCons (denStr _) (denBool _)))
def splitF (y : List UInt8 × List UInt8) : Option (List (List UInt8)) :=
  cond (decide (y.1.length < 4294967281) && decide (1 ≤ y.2.length)) (some ((Lib.splitB (bs y.2) 0 (Lib.countB (bs y.1) (bs y.2)) (bs y.1)).map fun b => b.data.toList)) none

def trimLeftF (y : List UInt8 × List UInt8) : Option (List UInt8) :=
  match y.2 with
  | [c] => cond (decide (c.toNat < 128)) (some (Lib.trimLeftB y.1 c)) none
  | _ => none
theorem trimLeft_ok {inv : World → Prop} : CallT Tryz.prog 141 [.str, .str] [.str] inv trimLeftF := by
  intro y r h w fz0 vs hfz hinv hd
  obtain ⟨s, cs⟩ := y
  unfold trimLeftF at h
  split at h
  · rename_i c hcs
    obtain ⟨hc, rfl⟩ := cond_some h
    simp only [decide_eq_true_eq] at hc
    dsimp only at hcs
    subst hcs
    obtain ⟨v, us, rfl, d1, d2⟩ := unCons hd
    have e1 := unStr d1
    have e2 := unStr d2
    cases e1
    subst e2
    have := Tryz.strings_TrimLeft_one (bs s) c hc w
    refine this.mono fun e w' ⟨he, hw⟩ => ?_
    subst he; subst hw
    exact retT_plain (ts := [.str]) [_] (.refl _ _) rfl (denStr _)
  · cases h
def lz32F (x : Int) : Option Int := cond (decide (0 ≤ x) && decide (x ≤ 4294967295)) (some (32 - (Lib.bitLen x.toNat : Int))) none
theorem lz32_ok {inv : World → Prop} : CallT Tryz.prog 193 [.int .u32] [.int .i64] inv lz32F := by
  intro y r h w fz0 vs hfz hinv hd
  obtain ⟨hc, rfl⟩ := cond_some h
  simp only [Bool.and_eq_true, decide_eq_true_eq] at hc
  have e1 := unInt hd
  subst e1
  refine (Tryz.bits_LeadingZeros32 y w hc.1 hc.2).mono fun e w' ⟨he, hw⟩ => ?_
  subst he; subst hw
  exact retT_plain (ts := [.int .i64]) [_] (.refl _ _) rfl (denInt _ _)
def len32F (x : Int) : Option Int := cond (decide (0 ≤ x) && decide (x ≤ 4294967295)) (some (Lib.bitLen x.toNat : Int)) none
theorem len32_ok {inv : World → Prop} : CallT Tryz.prog 222 [.int .u32] [.int .i64] inv len32F := by
  intro y r h w fz0 vs hfz hinv hd
  obtain ⟨hc, rfl⟩ := cond_some h
  simp only [Bool.and_eq_true, decide_eq_true_eq] at hc
  have e1 := unInt hd
  subst e1
  refine (Tryz.bits_Len32 y w hc.1 hc.2).mono fun e w' ⟨he, hw⟩ => ?_
  subst he; subst hw
  exact retT_plain (ts := [.int .i64]) [_] (.refl _ _) rfl (denInt _ _)
def len64F (x : Int) : Option Int := cond (decide (0 ≤ x) && decide (x ≤ 18446744073709551615)) (some (Lib.bitLen x.toNat : Int)) none
theorem len_ok {inv : World → Prop} : CallT Tryz.prog 202 [.int .u64] [.int .i64] inv len64F := by
  intro y r h w fz0 vs hfz hinv hd
  obtain ⟨hc, rfl⟩ := cond_some h
  simp only [Bool.and_eq_true, decide_eq_true_eq] at hc
  have e1 := unInt hd
  subst e1
  refine (Tryz.bits_Len y w hc.1 hc.2).mono fun e w' ⟨he, hw⟩ => ?_
  subst he; subst hw
  exact retT_plain (ts := [.int .i64]) [_] (.refl _ _) rfl (denInt _ _)
def repeatF (y : List UInt8 × Int) : Option (List UInt8) := cond (decide (0 ≤ y.2) && (decide (y.2 ≤ 9223372036854775807) && decide (y.1.length * y.2.toNat ≤ 140737488355328))) (some (Lib.repeatL y.1 y.2.toNat)) none
theorem repeat_ok {inv : World → Prop} : CallT Tryz.prog 71 [.str, .int .i64] [.str] inv repeatF := by
  intro y r h w fz0 vs hfz hinv hd
  obtain ⟨s, n⟩ := y
  obtain ⟨hc, rfl⟩ := cond_some h
  simp only [Bool.and_eq_true, decide_eq_true_eq] at hc
  obtain ⟨h0, h1, h2⟩ := hc
  obtain ⟨v, us, rfl, d1, d2⟩ := unCons hd
  have e1 := unStr d1
  have e2 := unInt d2
  cases e1
  subst e2
  have := Tryz.strings_Repeat (bs s) n.toNat w (by omega) (by rw [bs_size]; exact h2)
  rw [show ((n.toNat : Nat) : Int) = n by omega] at this
  refine this.mono fun e w' ⟨he, hw⟩ => ?_
  subst he
  exact retT_plain (ts := [.str]) [_] hw rfl (denStr _)
end Go.Proofs.YtenapomineinbaaGreatDoor.K

/- The abstract machine: what its calls come to, whatever the depth from some depth on; and a law's call. -/
set_option linter.unusedVariables false
set_option linter.unusedSimpArgs false
namespace Go.Proofs.YtenapomineinbaaGreatDoor.K
open Go
open Go.RowKit (Below)

/-- From some depth on. -/
def Ev {α : Type} (f : Nat → Option α) (r : α) : Prop := ∃ N, ∀ k, N ≤ k → f k = some r

theorem Ev.some {α : Type} (r : α) : Ev (fun _ => some r) r := ⟨0, fun _ _ => rfl⟩
theorem Ev.succ {α : Type} {f g : Nat → Option α} {r : α} (h : ∀ k, f (k + 1) = g k) (hg : Ev g r) : Ev f r := by
  obtain ⟨N, hN⟩ := hg
  refine ⟨N + 1, fun k hk => ?_⟩
  obtain ⟨j, rfl⟩ : ∃ j, k = j + 1 := ⟨k - 1, by omega⟩
  rw [h]; exact hN j (by omega)
theorem Ev.bind {α β : Type} {f : Nat → Option α} {g : Nat → α → Option β} {a : α} {r : β} (hf : Ev f a) (hg : Ev (fun k => g k a) r) : Ev (fun k => (f k).bind (g k)) r := by
  obtain ⟨N, hN⟩ := hf
  obtain ⟨M, hM⟩ := hg
  refine ⟨N + M, fun k hk => ?_⟩
  show (f k).bind (g k) = _
  rw [hN k (by omega)]; exact hM k (by omega)
theorem Ev.cond {α : Type} {c : Bool} {f g : Nat → Option α} {r : α} (h1 : c = true → Ev f r) (h2 : c = false → Ev g r) : Ev (fun k => cond c (f k) (g k)) r := by
  cases c with
  | true => exact h1 rfl
  | false => exact h2 rfl
theorem Ev.of_true {α : Type} {c : Bool} {f g : Nat → Option α} {r : α} (hc : c = true) (h : Ev f r) : Ev (fun k => _root_.cond c (f k) (g k)) r := by subst hc; exact h
theorem Ev.of_false {α : Type} {c : Bool} {f g : Nat → Option α} {r : α} (hc : c = false) (h : Ev g r) : Ev (fun k => _root_.cond c (f k) (g k)) r := by subst hc; exact h
theorem Ev.fun_eq {α : Type} {f g : Nat → Option α} {r : α} (h : ∀ k, f k = g k) (hg : Ev g r) : Ev f r := by
  obtain ⟨N, hN⟩ := hg
  exact ⟨N, fun k hk => (h k).trans (hN k hk)⟩
theorem Ev.unique {α : Type} {f : Nat → Option α} {r s : α} (h : Ev f r) (k : Ev f s) : r = s := by
  obtain ⟨N, hN⟩ := h
  obtain ⟨M, hM⟩ := k
  have := (hN (N + M) (by omega)).symm.trans (hM (N + M) (by omega))
  exact Option.some.inj this

/-- A call of the machine is a call of the program. -/
theorem ev_calls {P : Program} {C : Ctx} (hS : ∀ k, SpecOk P (sem C k)) {i : Nat} {y : den (tyL (C.pts i))} {r : den (tyL (C.rts i))} (h : Ev (fun k => callF (C := C) k i y) r) {w : World} {fz0 : Nat → Prop} {vs : List Value} (hfz : ∀ b, fz0 b → b < w.heap.size)
    (hf : (C.fn (C.fid i)).isSome = true) (hinv : C.inv w) (hd : DenL w.heap fz0 (C.pts i) y vs) : Calls P (C.fid i) vs.toArray w (RetT (C.rts i) w fz0 r) := by
  obtain ⟨N, hN⟩ := h
  exact (hS N i y r (hN N (Nat.le_refl _)) w fz0 vs hfz hf hinv hd).mono fun e w' ⟨v, he, hb, hr⟩ => ⟨v, he, hb, hr⟩

theorem ret_bool {w w' : World} {fz0 : Nat → Prop} {r : Bool} {e : Ending} (h : RetT [.bool] w fz0 r e w') : e = .returned (.bool r) ∧ Below w.heap.size w w' := by
  obtain ⟨v, rfl, hb, ow, ok, vs, _, _, _, rfl, hres⟩ := h
  have h1 : ∃ v, vs = [v] ∧ ResV w'.heap ok .bool r v ow := hres
  obtain ⟨v, rfl, h2⟩ := h1
  have h3 : Ty.bool ≠ .unit ∧ ResC w'.heap ok .bool r [v] ow := h2
  have h4 : ow = [] ∧ [v] = [Value.bool r] := h3.2
  have h5 : v = .bool r := by simpa using h4.2
  subst h5
  exact ⟨rfl, hb⟩

end Go.Proofs.YtenapomineinbaaGreatDoor.K

/- The machine's limit: what its calls come to at some depth. Its equations hold there without a depth. -/
set_option linter.unusedVariables false
set_option linter.unusedSimpArgs false
namespace Go.Proofs.YtenapomineinbaaGreatDoor.K
open Go

/-- What is there on the left comes on the right, from some depth on. -/
def Le {α : Type} (x : Option α) (y : Nat → Option α) : Prop := ∀ r, x = some r → Ev y r

theorem Le.none {α : Type} {y : Nat → Option α} : Le none y := fun _ h => by cases h
theorem Le.const {α : Type} (x : Option α) : Le x (fun _ => x) := fun _ h => ⟨0, fun _ _ => h⟩
theorem Le.cond {α : Type} {b : Bool} {x x' : Option α} {y y' : Nat → Option α} (h : Le x y) (h' : Le x' y') : Le (cond b x x') (fun k => cond b (y k) (y' k)) := by
  cases b with
  | true => exact h
  | false => exact h'
theorem Le.bind {α β : Type} {x : Option α} {y : Nat → Option α} {f : α → Option β} {g : Nat → α → Option β} (h : Le x y) (hf : ∀ a, Le (f a) (fun k => g k a)) : Le (x.bind f) (fun k => (y k).bind (g k)) := by
  intro r hr
  cases hx : x with
  | none => rw [hx] at hr; cases hr
  | some a => rw [hx] at hr; exact (h a hx).bind (hf a r hr)

variable {C : Ctx}

structure SmLe (s : Sm C) (c : Nat → Sm C) : Prop where
  call : ∀ i x, Le (s.callF i x) (fun k => (c k).callF i x)
  stage : ∀ i stk f p st, Le (s.stage i stk f p st) (fun k => (c k).stage i stk f p st)

section
variable {s : Sm C} {c : Nat → Sm C} {inst : Nat}

theorem doOp_le (hs : SmLe s c) {stk : List Fr} {f : Nat} {path : Path} {i : Nat} {rest : List Nat} {o : Oper} {K : St → Option (den (tyL (C.rts inst)))} {K' : Nat → St → Option (den (tyL (C.rts inst)))} (hK : ∀ st, Le (K st) (fun k => K' k st)) (st : St) :
    Le (doOp s inst stk f path i rest o K st) (fun k => doOp (c k) inst stk f path i rest o (K' k) st) := by
  unfold doOp
  dsimp only
  split
  · split
    · split
      · exact .none
      · split
        · split
          · refine Le.bind (hs.call _ _) fun r => ?_
            split
            · split
              · split
                · exact hK _
                · exact .none
              · exact .none
            · exact hK _
          · exact .none
        · split
          · exact hs.stage _ _ _ _ _
          · exact .none
        · exact .none
    · exact .none
  · split
    · exact .none
    · exact .none
    · exact Le.cond (Le.cond (hK _) (hK _)) .none

theorem runOps_le (hs : SmLe s c) {stk : List Fr} {f ntmps : Nat} {path : Path} {ops : Array Oper} {K : St → Option (den (tyL (C.rts inst)))} {K' : Nat → St → Option (den (tyL (C.rts inst)))} (hK : ∀ st, Le (K st) (fun k => K' k st)) :
    ∀ (l : List Nat) (st : St), Le (runOps s inst stk f ntmps path ops K l st) (fun k => runOps (c k) inst stk f ntmps path ops (K' k) l st)
  | [], st => by unfold runOps; exact hK st
  | i :: rest, st => by
    have ih := runOps_le hs (stk := stk) (f := f) (ntmps := ntmps) (path := path) (ops := ops) hK rest
    unfold runOps
    split
    · exact .none
    · split
      · exact .none
      · split
        · exact doOp_le hs ih _
        · split
          · exact .none
          · split
            · split
              · exact Le.cond (doOp_le hs ih _) (ih _)
              · exact Le.cond (ih _) (doOp_le hs ih _)
            · split
              · exact .none
              · exact ih _
            · exact .none

theorem doFree_le (hs : SmLe s c) {stk : List Fr} {f : Nat} {path : Path} {i : Nat} {rest : List Nat} {o : Oper} {K : St → Option (den (tyL (C.rts inst)))} {K' : Nat → St → Option (den (tyL (C.rts inst)))} (hK : ∀ st, Le (K st) (fun k => K' k st)) (st : St) :
    Le (doFree s inst stk f path i rest o K st) (fun k => doFree (c k) inst stk f path i rest o (K' k) st) := by
  unfold doFree
  split
  · exact doOp_le hs hK st
  · exact .none

theorem runFree_le (hs : SmLe s c) {stk : List Fr} {f ntmps : Nat} {path : Path} {ops : Array Oper} {K : St → Option (den (tyL (C.rts inst)))} {K' : Nat → St → Option (den (tyL (C.rts inst)))} (hK : ∀ st, Le (K st) (fun k => K' k st)) :
    ∀ (l : List Nat) (st : St), Le (runFree s inst stk f ntmps path ops K l st) (fun k => runFree (c k) inst stk f ntmps path ops (K' k) l st)
  | [], st => by unfold runFree; exact hK st
  | i :: rest, st => by
    have ih := runFree_le hs (stk := stk) (f := f) (ntmps := ntmps) (path := path) (ops := ops) hK rest
    unfold runFree
    split
    · exact .none
    · split
      · exact .none
      · split
        · exact doFree_le hs ih _
        · split
          · exact .none
          · split
            · split
              · exact Le.cond (doFree_le hs ih _) (ih _)
              · exact Le.cond (ih _) (doFree_le hs ih _)
            · split
              · exact .none
              · exact ih _
            · exact .none

theorem runRegion_le (hs : SmLe s c) {stk : List Fr} {f ntmps : Nat} {p : Path} {ops : Array Oper} {draw : Bool} {K : St → Option (den (tyL (C.rts inst)))} {K' : Nat → St → Option (den (tyL (C.rts inst)))} (hK : ∀ st, Le (K st) (fun k => K' k st)) (st : St) :
    Le (runRegion s inst stk f ntmps p ops draw K st) (fun k => runRegion (c k) inst stk f ntmps p ops draw (K' k) st) := by
  unfold runRegion
  split
  · exact runOps_le hs hK _ _
  · dsimp only
    split
    · refine runFree_le hs (fun st => ?_) _ _
      split
      · exact runOps_le hs hK _ st
      · exact .none
    · exact .none

theorem run_le (hs : SmLe s c) {stk : List Fr} {f ntmps : Nat} :
    ∀ (cd : Code) (p : Path) (st : St) (K : Ex → St → Option (den (tyL (C.rts inst)))) (K' : Nat → Ex → St → Option (den (tyL (C.rts inst)))), (∀ e st, Le (K e st) (fun k => K' k e st)) →
    Le (run s inst stk f ntmps p cd st K) (fun k => run (c k) inst stk f ntmps p cd st (K' k)) := by
  intro cd
  induction cd with
  | seq a b iha ihb =>
    intro p st K K' hK
    unfold run
    split
    · split
      · exact hs.stage _ _ _ _ _
      · exact .none
    · refine iha _ _ _ _ fun e st => ?_
      cases e with
      | normal => exact ihb _ _ _ _ hK
      | _ => exact hK _ _
  | cond x a b iha ihb =>
    intro p st K K' hK
    unfold run
    split
    · split
      · exact hs.stage _ _ _ _ _
      · exact .none
    · dsimp only
      split
      · exact Le.cond (iha _ _ _ _ hK) (ihb _ _ _ _ hK)
      · exact .none
  | block id a iha =>
    intro p st K K' hK
    unfold run
    split
    · split
      · exact hs.stage _ _ _ _ _
      · exact .none
    · refine iha _ _ _ _ fun e st => ?_
      cases e with
      | exit j =>
        dsimp only
        split <;> exact hK _ _
      | _ => exact hK _ _
  | scope a iha =>
    intro p st K K' hK
    unfold run
    split
    · split
      · exact hs.stage _ _ _ _ _
      · exact .none
    · refine iha _ _ _ _ fun e st => ?_
      cases e with
      | goto l =>
        dsimp only
        split
        · split
          · split
            · exact hs.stage _ _ _ _ _
            · exact .none
          · exact .none
        · exact hK _ _
      | _ => exact hK _ _
  | region a ops draw =>
    intro p st K K' hK
    unfold run
    split
    · split
      · exact hs.stage _ _ _ _ _
      · exact .none
    · exact runRegion_le hs (hK _) _
  | _ =>
    intro p st K K' hK
    unfold run
    split
    · split
      · exact hs.stage _ _ _ _ _
      · exact .none
    · first | exact hK _ _ | exact .none

theorem kont_le (hs : SmLe s c) {stk : List Fr} {f ntmps : Nat} {body : Code} {R : St → Option (den (tyL (C.rts inst)))} {R' : Nat → St → Option (den (tyL (C.rts inst)))} (hR : ∀ st, Le (R st) (fun k => R' k st)) :
    ∀ (p : Path) (e : Ex) (st : St), Le (kont s inst stk f ntmps body R p e st) (fun k => kont (c k) inst stk f ntmps body (R' k) p e st)
  | [], e, st => by
    unfold kont
    cases e with
    | normal => exact hR _
    | ret => exact hR _
    | _ => exact .none
  | d :: p, e, st => by
    have ih := kont_le hs (stk := stk) (f := f) (ntmps := ntmps) (body := body) hR p
    unfold kont
    split
    · exact .none
    · split
      · cases e with
        | normal => exact run_le hs _ _ _ _ _ ih
        | _ => exact ih _ _
      · exact ih _ _
      · exact ih _ _
      · exact ih _ _
      · cases e with
        | exit j =>
          dsimp only
          split <;> exact ih _ _
        | _ => exact ih _ _
      · cases e with
        | normal =>
          dsimp only
          split
          · split
            · exact hs.stage _ _ _ _ _
            · exact .none
          · exact .none
        | _ => exact ih _ _
      · cases e with
        | goto l =>
          dsimp only
          split
          · split
            · split
              · exact hs.stage _ _ _ _ _
              · exact .none
            · exact .none
          · exact ih _ _
        | _ => exact ih _ _
      · exact .none

theorem retTo_le (hs : SmLe s c) : ∀ (stk : List Fr) (rs : List ResultVar) (st : St), Le (retTo s inst stk rs st) (fun k => retTo (c k) inst stk rs st)
  | [], rs, st => by unfold retTo; exact .const _
  | fr :: stk, rs, st => by
    have ih := retTo_le hs stk
    unfold retTo
    split
    · exact .none
    · split
      · exact .none
      · split
        · exact .none
        · split
          · split
            · exact runOps_le hs (fun st => kont_le hs (ih _) _ _ _) _ _
            · exact .none
          · exact .none

theorem stageStep_le (hs : SmLe s c) (stk : List Fr) (f : Nat) (p : Path) (st : St) : Le (stageStep s inst stk f p st) (fun k => stageStep (c k) inst stk f p st) := by
  have hk := fun {ntmps : Nat} {body : Code} {rs : List ResultVar} => kont_le hs (stk := stk) (f := f) (ntmps := ntmps) (body := body) (retTo_le hs (inst := inst) stk rs)
  unfold stageStep
  split
  · exact .none
  · split
    · exact .none
    · dsimp only
      split
      · exact .none
      · split
        · exact hk _ _ _
        · exact hk _ _ _
        · exact runRegion_le hs (hk _ _) _
        · exact run_le hs _ _ _ _ _ (hk _)
        · split
          · exact Le.cond (run_le hs _ _ _ _ _ (hk _)) (run_le hs _ _ _ _ _ (hk _))
          · exact .none
        · exact run_le hs _ _ _ _ _ (hk _)
        · exact run_le hs _ _ _ _ _ (hk _)
        · exact run_le hs _ _ _ _ _ (hk _)
        · exact hk _ _ _
        · exact hk _ _ _
        · exact hk _ _ _
        · exact .none
end

/-- One more step: what is known stays. -/
theorem sem_le (k : Nat) : SmLe (sem C k) (fun _ => sem C (k + 1)) := by
  induction k with
  | zero => exact ⟨fun _ _ => .none, fun _ _ _ _ _ => .none⟩
  | succ k ih =>
    refine ⟨fun i x => ?_, fun i stk f p st => stageStep_le ih stk f p st⟩
    show Le (match C.ext i with
        | some g => g x
        | none => stageStep (sem C k) i [] (C.fid i) [] { env := parEnv 0 (ofDenL (C.pts i) x), heap := [], salt := 0 }) (fun _ => match C.ext i with
        | some g => g x
        | none => stageStep (sem C (k + 1)) i [] (C.fid i) [] { env := parEnv 0 (ofDenL (C.pts i) x), heap := [], salt := 0 })
    split
    · exact .const _
    · exact stageStep_le ih _ _ _ _

/-- A call's value at some depth. -/
noncomputable def lim {α : Type} (f : Nat → Option α) : Option α :=
  open Classical in if h : ∃ k, (f k).isSome = true then f (Classical.choose h) else none

def Mono {α : Type} (f : Nat → Option α) : Prop := ∀ k r, f k = some r → f (k + 1) = some r
theorem Mono.le {α : Type} {f : Nat → Option α} (h : Mono f) {k j : Nat} (hj : k ≤ j) {r : α} (hr : f k = some r) : f j = some r := by
  induction hj with
  | refl => exact hr
  | step _ ih => exact h _ _ ih
theorem Mono.lim {α : Type} {f : Nat → Option α} (h : Mono f) {r : α} : lim f = some r ↔ ∃ k, f k = some r := by
  unfold K.lim
  constructor
  · split
    · rename_i hx; exact fun e => ⟨_, e⟩
    · exact fun e => by cases e
  · rintro ⟨k, hk⟩
    have hx : ∃ k, (f k).isSome = true := ⟨k, by rw [hk]; rfl⟩
    rw [dif_pos hx]
    have := Classical.choose_spec hx
    obtain ⟨r', hr'⟩ := Option.isSome_iff_exists.1 this
    rw [hr']
    rcases Nat.le_total k (Classical.choose hx) with hle | hle
    · exact hr' ▸ h.le hle hk ▸ rfl
    · have := h.le hle hr'
      rw [hk] at this; exact this.symm
theorem Mono.ev {α : Type} {f : Nat → Option α} (h : Mono f) {r : α} : K.lim f = some r ↔ Ev f r := by
  rw [h.lim]
  exact ⟨fun ⟨k, hk⟩ => ⟨k, fun j hj => h.le hj hk⟩, fun ⟨k, hk⟩ => ⟨k, hk k (Nat.le_refl _)⟩⟩

theorem Le.mono {α : Type} {f : Nat → Option α} (h : ∀ k, Le (f k) (fun _ => f (k + 1))) : Mono f := fun k r hr => by
  obtain ⟨N, hN⟩ := h k r hr
  exact hN N (Nat.le_refl _)

theorem call_mono (i : Nat) (x : den (tyL (C.pts i))) : Mono (fun k => (sem C k).callF i x) := Le.mono fun k => (sem_le k).call i x
theorem stage_mono (i : Nat) (stk : List Fr) (f : Nat) (p : Path) (st : St) : Mono (fun k => (sem C k).stage i stk f p st) := Le.mono fun k => (sem_le k).stage i stk f p st

/-- The limit. -/
noncomputable def top (C : Ctx) : Sm C := { callF := fun i x => lim (fun k => (sem C k).callF i x), stage := fun i stk f p st => lim (fun k => (sem C k).stage i stk f p st) }

theorem top_ge : SmLe (top C) (fun k => sem C k) := ⟨fun i x r hr => (call_mono i x).ev.1 hr, fun i stk f p st r hr => (stage_mono i stk f p st).ev.1 hr⟩
theorem top_le (k : Nat) : SmLe (sem C k) (fun _ => top C) :=
  ⟨fun i x r hr => ⟨0, fun _ _ => (call_mono i x).lim.2 ⟨k, hr⟩⟩, fun i stk f p st r hr => ⟨0, fun _ _ => (stage_mono i stk f p st).lim.2 ⟨k, hr⟩⟩⟩

theorem lim_step {α : Type} {f : Nat → Option α} {x : Option α} {g : Nat → Option α} (hf : Mono f) (h : ∀ k, f (k + 1) = g k) (h1 : Le x g) (h2 : ∀ k, Le (g k) (fun _ => x)) : lim f = x := by
  apply Option.ext
  intro r
  rw [hf.lim]
  constructor
  · rintro ⟨k, hk⟩
    have hk : f (k + 1) = some r := hf _ _ hk
    rw [h] at hk
    obtain ⟨N, hN⟩ := h2 k r hk
    exact hN N (Nat.le_refl _)
  · intro hx
    obtain ⟨N, hN⟩ := h1 r hx
    exact ⟨N + 1, by rw [h]; exact hN N (Nat.le_refl _)⟩

/-- The limit's equations. -/
theorem top_stage (i : Nat) (stk : List Fr) (f : Nat) (p : Path) (st : St) : (top C).stage i stk f p st = stageStep (top C) i stk f p st :=
  lim_step (stage_mono i stk f p st) (fun _ => rfl) (stageStep_le top_ge stk f p st) (fun k => stageStep_le (top_le k) stk f p st)
theorem top_call (i : Nat) (x : den (tyL (C.pts i))) : (top C).callF i x = (match C.ext i with
    | some g => g x
    | none => stageStep (top C) i [] (C.fid i) [] { env := parEnv 0 (ofDenL (C.pts i) x), heap := [], salt := 0 }) := by
  refine lim_step (g := fun k => match C.ext i with
    | some g => g x
    | none => stageStep (sem C k) i [] (C.fid i) [] { env := parEnv 0 (ofDenL (C.pts i) x), heap := [], salt := 0 }) (call_mono i x) (fun _ => rfl) ?_ ?_
  · split
    · exact .const _
    · exact stageStep_le top_ge _ _ _ _
  · intro k
    split
    · exact .const _
    · exact stageStep_le (top_le k) _ _ _ _

/-- A call of the machine is a call of the program. -/
theorem top_calls {P : Program} (hS : ∀ k, SpecOk P (sem C k)) {i : Nat} {y : den (tyL (C.pts i))} {r : den (tyL (C.rts i))} (h : (top C).callF i y = some r) {w : World} {fz0 : Nat → Prop} {vs : List Value} (hfz : ∀ b, fz0 b → b < w.heap.size)
    (hf : (C.fn (C.fid i)).isSome = true) (hinv : C.inv w) (hd : DenL w.heap fz0 (C.pts i) y vs) : Calls P (C.fid i) vs.toArray w (RetT (C.rts i) w fz0 r) :=
  ev_calls hS ((call_mono i y).ev.1 h) hfz hf hinv hd

/-- A closed call, run at a depth. -/
theorem of_depth {i : Nat} {y : den (tyL (C.pts i))} {r : den (tyL (C.rts i))} (n : Nat) (h : (sem C n).callF i y = some r) : (top C).callF i y = some r := (call_mono i y).lim.2 ⟨n, h⟩
theorem of_ev {i : Nat} {y : den (tyL (C.pts i))} {r : den (tyL (C.rts i))} (h : Ev (fun k => (sem C k).callF i y) r) : (top C).callF i y = some r := (call_mono i y).ev.2 h
end Go.Proofs.YtenapomineinbaaGreatDoor.K
