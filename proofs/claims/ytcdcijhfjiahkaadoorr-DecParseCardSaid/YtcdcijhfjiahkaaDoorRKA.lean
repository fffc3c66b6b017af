/- The abstract machine: any operation that calls nothing. -/
import Derived.Test.YtcdcijhfjiahkaaDoorRK9
set_option linter.unusedVariables false
set_option linter.unusedSimpArgs false
namespace Go.Proofs.YtcdcijhfjiahkaaDoorR.K
open Go
open Go.RowKit (Below)

section
variable {P : Program} {C : Ctx} (hT : CtxTI P C) {x : Cx} {n0 tok : Nat} (hr : HR x n0) {w : World} (hp : x.hp = w.heap)

/-- An operation gives a value for which the machine's outcome stands. -/
def OkN (P : Program) (x : Cx) (n0 tok : Nat) (w : World) (s : Sem Go.Next) : OR → Prop
  | .no => True
  | .ok c b v1 v2 h => c = true → ∃ nx v w' x', s.run P w = .ok nx w' ∧ (nx = .value v ∨ (nx = .skip ∧ v = undef)) ∧ x'.H = h ∧ Nx x x' n0 tok w w' ∧ RV x' (cond b v1 v2) v

theorem okn {s : Sem Value} {r : OR} (h : OkV P x n0 tok w s r) : OkN P x n0 tok w (do pure (Go.Next.value (← s))) r := by
  cases r with
  | no => trivial
  | ok c b v1 v2 hh =>
    intro hc
    obtain ⟨v, w', x', h1, h2, h3, h4⟩ := h hc
    exact ⟨.value v, v, w', x', by simp [h1], .inl rfl, h2, h3, h4⟩

theorem toks_ev (e : Env) (o : Operand) : ∀ T ∈ toks (ev e o), T ∈ envToks e := by
  intro T hT
  cases o with
  | tmp t => exact toks_get e t T hT
  | const v =>
    simp only [ev] at hT
    unfold avOf at hT
    split at hT <;> simp [toks] at hT
  | global g => simp [ev, toks] at hT
  | func f => simp [ev, toks, toksL] at hT

include hT hr hp in
theorem plainOp_sound (hn : n0 ≤ w.heap.size) {o : Oper} {e : Env} {a : Act} (henv : ∀ t, RV x (get e t) (a.tmps.getD t undef)) (hfH : makes C o.op = true → ∀ T ∈ heapToks x.H, ¬ InB tok T)
    (hfE : makes C o.op = true → ∀ T ∈ envToks e, ¬ InB tok T) : OkN P x n0 tok w (execOp a.eval o) (plainOp C e x.H tok o.op) := by
  obtain ⟨dst, op, type, pos, after, guard⟩ := o
  have hev := ev_RV henv
  cases op with
  | move y => exact okn (OkV.v (s := pure (a.eval y)) hr hp ⟨_, rfl, hev y⟩)
  | assign y => exact okn (OkV.v (s := pure (a.eval y)) hr hp ⟨_, rfl, hev y⟩)
  | pick c y z =>
    simp only [plainOp]
    split
    · rename_i b hb
      have hc := hev c
      rw [hb] at hc
      generalize hcv : a.eval c = cv at hc
      cases hc
      refine fun _ => ⟨_, _, w, x, by simp [execOp, hcv, asBool]; rfl, .inl rfl, rfl, .refl hr tok hp, ?_⟩
      cases b
      · exact hev z
      · exact hev y
    · trivial
  | alloc t =>
    simp only [plainOp]
    split
    · rename_i ti hti
      exact okn (alloc_sound hT hr hp hn (hfH rfl) hti)
    · trivial
  | box t y =>
    simp only [plainOp]
    split
    · rename_i ti hti
      split
      · rename_i hfit
        exact okn (box_sound hr hp hn (hfH rfl) (hev y) hfit (fun T hT => hfE rfl T (toks_ev e y T hT)))
      · trivial
    · trivial
  | build t ps =>
    simp only [plainOp]
    split
    · rename_i ti hti
      split
      · rename_i fs cs hsh hf
        exact okn (build_sound hT hr hp hti henv ps hsh hf)
      · trivial
    · trivial
  | buildSlice t n ps =>
    simp only [plainOp]
    split
    · rename_i e' ty te he
      split
      · rename_i l hl hchk
        simp only [Bool.and_eq_true] at hchk
        obtain ⟨c1, c2, c3⟩ := hchk
        exact okn (buildSlice_sound hT hr hp hn (hfH rfl) he henv ps hl (Nat.le_of_ble_eq_true c1) c2 (fun p hp' => by
          have := List.all_eq_true.1 c3 p hp'
          exact Nat.lt_of_succ_le (Nat.le_of_ble_eq_true this)))
      · trivial
    · trivial
  | load t p =>
    simp only [plainOp]
    split
    · rename_i ti hti
      exact okn (loadOp_sound hr hp (hT _ _ hti) (hev p))
    · trivial
  | store t p v =>
    simp only [plainOp]
    split
    · rename_i ti hti
      split
      · rename_i h' hs
        obtain ⟨w', x', k1, k2, k3⟩ := storeOp_sound hT hr hp (tok := tok) hti (hev p) (hev v) hs
        exact fun _ => ⟨.skip, undef, w', x', by simp [execOp, k1], .inr ⟨rfl, rfl⟩, k2, k3, .undef _⟩
      · trivial
    · trivial
  | nilCheck y =>
    have hy := hev y
    simp only [plainOp]
    split <;> first
      | trivial
      | (rename_i hb
         rw [hb] at hy
         generalize hcv : a.eval y = cv at hy
         have hy' := hy
         cases hy
         exact fun _ => ⟨_, _, w, x, by simp [execOp, hcv], .inl rfl, rfl, .refl hr tok hp, hy'⟩)
  | binOp op t y z yt => exact okn (binOp_sound hT hr hp op t _ _ _ _ y z (hev y) (hev z))
  | unOp op t y => exact okn (unOp_sound hr hp op _ _ (hev y))
  | convert s d y =>
    by_cases hel : (eltSz C d).isSome = true
    · exact okn (convert_sound hT hr hp (hev y) (fun e' s' h1 h2 h3 => bytes_sound hr hp hn (hfH hel) s' h1 h2 h3))
    · exact okn (convert_sound' hT hr hp (hev y) (by simpa using hel))
  | slice t y lo hi mx =>
    simp only [plainOp]
    split
    · rename_i hf
      split
      · rename_i l u m h1 h2 h3
        exact okn (sliceOp_sound hT hr hp hf (hev y) (optI_is henv h1) (optI_is henv h2) (optI_is henv h3))
      · trivial
    · trivial
  | fieldAddr t y f =>
    simp only [plainOp]
    split
    · rename_i ti hti
      exact okn (fieldAddrOp_sound hr hp (hT _ _ hti) f (hev y))
    · trivial
  | field t y f =>
    simp only [plainOp]
    split
    · rename_i ti hti
      exact okn (fieldOp_sound hr hp (hT _ _ hti) f (hev y))
    · trivial
  | indexAddr t y i =>
    simp only [plainOp]
    split
    · rename_i hf
      exact okn (indexAddr_sound hT hr hp hf (hev y) (hev i))
    · trivial
  | index t y i =>
    simp only [plainOp]
    split
    · rename_i hf
      exact okn (indexOp_sound hT hr hp hf (hev y) (hev i))
    · trivial
  | extract t i => exact okn (extract_sound hr hp i (hev t))
  | makeSlice t n c =>
    simp only [plainOp]
    split
    · rename_i e' ty te k1 n' k2 c' he hn' hc'
      have h1 := hev n
      have h2 := hev c
      rw [hn'] at h1
      rw [hc'] at h2
      split
      · generalize hnv : a.eval n = nv at h1
        generalize hcv : a.eval c = cv at h2
        cases h1; cases h2
        have := okn (makeSlice_sound hT hr hp hn (hfH rfl) (tok := tok) (k := k1) (k' := k2) (n := n') (c := c') he)
        simp only [execOp, hnv, hcv]
        exact this
      · trivial
    · trivial
  | makeFunc fn first caps =>
    cases fn with
    | func f =>
      refine okn (OkV.v (s := Instr.makeFunc (.func f) (first.map a.eval) (caps.map a.eval)) hr hp ⟨_, rfl, ?_⟩)
      have h1 := ev_RVL henv first.toList
      have h2 := ev_RVL henv caps.toList
      have := RV.func f _ _ _ _ h1 h2
      have e1 : first.map a.eval = (first.toList.map a.eval).toArray := by apply Array.ext'; simp
      have e2 : caps.map a.eval = (caps.toList.map a.eval).toArray := by apply Array.ext'; simp
      rw [e1, e2]
      exact this
    | _ => trivial
  | call c =>
    obtain ⟨callee, args, argTypes⟩ := c
    cases callee with
    | builtin b =>
      have hargs := ev_RVL henv args.toList
      have hrun : ∀ s : Sem Value, (∀ cs, Go.builtin b argTypes type cs (args.map a.eval) = (do pure (Go.Next.value (← s)))) →
          execOp a.eval ⟨dst, .call ⟨.builtin b, args, argTypes⟩, type, pos, after, guard⟩ = (do pure (Go.Next.value (← s))) := by
        intro s hs
        simp [execOp, resolve, invoke, hs]
      simp only [plainOp]
      unfold builtinOp
      have hat : argTypes = argTypes.toList.toArray := by simp
      split
      · rename_i ax hargs'
        rw [hargs'] at hargs
        split
        · rename_i t ts hts
          split
          · rename_i n hf hn'
            generalize hav : args.toList.map a.eval = avs at hargs
            cases hargs with
            | cons _ v _ vs q1 q2 =>
            cases q2
            have hm : args.map a.eval = #[v] := by apply Array.ext'; simpa using hav
            have := okn (len_sound (ty := type) (ts := ts) (tok := tok) hT hr hp hf q1 hn')
            rw [hrun (Builtin.len_ argTypes type (args.map a.eval)) (fun cs => rfl), hm, hat, hts]
            exact this
          · trivial
        · trivial
      · rename_i ax ay hargs'
        rw [hargs'] at hargs
        split
        · rename_i v hv
          generalize hav : args.toList.map a.eval = avs at hargs
          cases hargs with
          | cons _ v1 _ vs q1 q2 =>
          cases q2 with
          | cons _ v2 _ vs q2 q3 =>
          cases q3
          have hm : args.map a.eval = #[v1, v2] := by apply Array.ext'; simpa using hav
          have := okn (maxmin_sound (P := P) (tok := tok) hr hp q1 q2 hv argTypes type)
          rw [hrun (Builtin.max_ argTypes type (args.map a.eval)) (fun cs => rfl), hm]
          exact this
        · trivial
      · rename_i ax ay hargs'
        rw [hargs'] at hargs
        split
        · rename_i v hv
          generalize hav : args.toList.map a.eval = avs at hargs
          cases hargs with
          | cons _ v1 _ vs q1 q2 =>
          cases q2 with
          | cons _ v2 _ vs q2 q3 =>
          cases q3
          have hm : args.map a.eval = #[v1, v2] := by apply Array.ext'; simpa using hav
          have := okn (maxmin_sound (P := P) (tok := tok) hr hp q1 q2 hv argTypes type)
          rw [hrun (Builtin.min_ argTypes type (args.map a.eval)) (fun cs => rfl), hm]
          exact this
        · trivial
      · rename_i as ax hargs'
        rw [hargs'] at hargs
        split
        · rename_i st tx ts hts
          split
          · rename_i htx
            generalize hav : args.toList.map a.eval = avs at hargs
            cases hargs with
            | cons _ v1 _ vs q1 q2 =>
            cases q2 with
            | cons _ v2 _ vs q2 q3 =>
            cases q3
            have hm : args.map a.eval = #[v1, v2] := by apply Array.ext'; simpa using hav
            have := okn (appendOp_sound (st := st) (ty := type) (ts := ts) (tok := tok) hT hr hp hn (hfH rfl) htx q1 q2)
            rw [hrun (Builtin.append_ argTypes type (args.map a.eval)) (fun cs => rfl), hm, hat, hts]
            exact this
          · trivial
        · trivial
      · trivial
    | _ => trivial
  | _ => trivial

end
end Go.Proofs.YtcdcijhfjiahkaaDoorR.K
