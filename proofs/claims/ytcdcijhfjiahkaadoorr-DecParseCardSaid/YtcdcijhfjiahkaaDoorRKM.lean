/- The machine's limit: what its calls come to at some depth. Its equations hold there without a depth. -/
import Derived.Test.YtcdcijhfjiahkaaDoorRKP
set_option linter.unusedVariables false
set_option linter.unusedSimpArgs false
namespace Go.Proofs.YtcdcijhfjiahkaaDoorR.K
open Go

/-- What is there on the left comes on the right, from some depth on. -/
def Le {α : Type} (x : Option α) (y : Nat → Option α) : Prop := ∀ r, x = some r → Ev y r

theorem Le.none {α : Type} {y : Nat → Option α} : Le none y := fun _ h => by cases h
theorem Le.const {α : Type} (x : Option α) : Le x (fun _ => x) := fun _ h => ⟨0, fun _ _ => h⟩
theorem Le.cond {α : Type} {b : Bool} {x x' : Option α} {y y' : Nat → Option α} (h : Le x y) (h' : Le x' y') : Le (cond b x x') (fun k => cond b (y k) (y' k)) := by
  cases b with
  | true => exact h
  | false => exact h'
theorem Le.bind {α β : Type} {x : Option α} {y : Nat → Option α} {f : α → Option β} {g : Nat → α → Option β} (h : Le x y) (hf : ∀ a, Le (f a) (fun k => g k a)) : Le (x.bind f) (fun k => (y k).bind (g k)) := by
  intro r hr
  cases hx : x with
  | none => rw [hx] at hr; cases hr
  | some a => rw [hx] at hr; exact (h a hx).bind (hf a r hr)

variable {C : Ctx}

structure SmLe (s : Sm C) (c : Nat → Sm C) : Prop where
  call : ∀ i x, Le (s.callF i x) (fun k => (c k).callF i x)
  stage : ∀ i stk f p st, Le (s.stage i stk f p st) (fun k => (c k).stage i stk f p st)

section
variable {s : Sm C} {c : Nat → Sm C} {inst : Nat}

theorem doOp_le (hs : SmLe s c) {stk : List Fr} {f : Nat} {path : Path} {i : Nat} {rest : List Nat} {o : Oper} {K : St → Option (den (tyL (C.rts inst)))} {K' : Nat → St → Option (den (tyL (C.rts inst)))} (hK : ∀ st, Le (K st) (fun k => K' k st)) (st : St) :
    Le (doOp s inst stk f path i rest o K st) (fun k => doOp (c k) inst stk f path i rest o (K' k) st) := by
  unfold doOp
  dsimp only
  split
  · split
    · split
      · exact .none
      · split
        · split
          · refine Le.bind (hs.call _ _) fun r => ?_
            split
            · split
              · split
                · exact hK _
                · exact .none
              · exact .none
            · exact hK _
          · exact .none
        · split
          · exact hs.stage _ _ _ _ _
          · exact .none
        · exact .none
    · exact .none
  · split
    · exact .none
    · exact .none
    · exact Le.cond (Le.cond (hK _) (hK _)) .none

theorem runOps_le (hs : SmLe s c) {stk : List Fr} {f ntmps : Nat} {path : Path} {ops : Array Oper} {K : St → Option (den (tyL (C.rts inst)))} {K' : Nat → St → Option (den (tyL (C.rts inst)))} (hK : ∀ st, Le (K st) (fun k => K' k st)) :
    ∀ (l : List Nat) (st : St), Le (runOps s inst stk f ntmps path ops K l st) (fun k => runOps (c k) inst stk f ntmps path ops (K' k) l st)
  | [], st => by unfold runOps; exact hK st
  | i :: rest, st => by
    have ih := runOps_le hs (stk := stk) (f := f) (ntmps := ntmps) (path := path) (ops := ops) hK rest
    unfold runOps
    split
    · exact .none
    · split
      · exact .none
      · split
        · exact doOp_le hs ih _
        · split
          · exact .none
          · split
            · split
              · exact Le.cond (doOp_le hs ih _) (ih _)
              · exact Le.cond (ih _) (doOp_le hs ih _)
            · split
              · exact .none
              · exact ih _
            · exact .none

theorem runFree_le (hs : SmLe s c) {stk : List Fr} {f ntmps : Nat} {path : Path} {ops : Array Oper} {K : St → Option (den (tyL (C.rts inst)))} {K' : Nat → St → Option (den (tyL (C.rts inst)))} (hK : ∀ st, Le (K st) (fun k => K' k st)) :
    ∀ (l : List Nat) (st : St), Le (runFree s inst stk f ntmps path ops K l st) (fun k => runFree (c k) inst stk f ntmps path ops (K' k) l st)
  | [], st => by unfold runFree; exact hK st
  | i :: rest, st => by
    have ih := runFree_le hs (stk := stk) (f := f) (ntmps := ntmps) (path := path) (ops := ops) hK rest
    unfold runFree
    split
    · exact .none
    · split
      · exact .none
      · split
        · exact doOp_le hs ih _
        · split
          · exact .none
          · split
            · split
              · exact Le.cond (doOp_le hs ih _) (ih _)
              · exact Le.cond (ih _) (doOp_le hs ih _)
            · split
              · exact .none
              · exact ih _
            · exact .none

theorem runRegion_le (hs : SmLe s c) {stk : List Fr} {f ntmps : Nat} {p : Path} {ops : Array Oper} {draw : Bool} {K : St → Option (den (tyL (C.rts inst)))} {K' : Nat → St → Option (den (tyL (C.rts inst)))} (hK : ∀ st, Le (K st) (fun k => K' k st)) (st : St) :
    Le (runRegion s inst stk f ntmps p ops draw K st) (fun k => runRegion (c k) inst stk f ntmps p ops draw (K' k) st) := by
  unfold runRegion
  split
  · exact runOps_le hs hK _ _
  · dsimp only
    split
    · exact runFree_le hs (fun st => runOps_le hs hK _ st) _ _
    · exact .none

theorem run_le (hs : SmLe s c) {stk : List Fr} {f ntmps : Nat} :
    ∀ (cd : Code) (p : Path) (st : St) (K : Ex → St → Option (den (tyL (C.rts inst)))) (K' : Nat → Ex → St → Option (den (tyL (C.rts inst)))), (∀ e st, Le (K e st) (fun k => K' k e st)) →
    Le (run s inst stk f ntmps p cd st K) (fun k => run (c k) inst stk f ntmps p cd st (K' k)) := by
  intro cd
  induction cd with
  | seq a b iha ihb =>
    intro p st K K' hK
    unfold run
    split
    · split
      · exact hs.stage _ _ _ _ _
      · exact .none
    · refine iha _ _ _ _ fun e st => ?_
      cases e with
      | normal => exact ihb _ _ _ _ hK
      | _ => exact hK _ _
  | cond x a b iha ihb =>
    intro p st K K' hK
    unfold run
    split
    · split
      · exact hs.stage _ _ _ _ _
      · exact .none
    · dsimp only
      split
      · exact Le.cond (iha _ _ _ _ hK) (ihb _ _ _ _ hK)
      · exact .none
  | block id a iha =>
    intro p st K K' hK
    unfold run
    split
    · split
      · exact hs.stage _ _ _ _ _
      · exact .none
    · refine iha _ _ _ _ fun e st => ?_
      cases e with
      | exit j =>
        dsimp only
        split <;> exact hK _ _
      | _ => exact hK _ _
  | scope a iha =>
    intro p st K K' hK
    unfold run
    split
    · split
      · exact hs.stage _ _ _ _ _
      · exact .none
    · refine iha _ _ _ _ fun e st => ?_
      cases e with
      | goto l =>
        dsimp only
        split
        · split
          · split
            · exact hs.stage _ _ _ _ _
            · exact .none
          · exact .none
        · exact hK _ _
      | _ => exact hK _ _
  | region a ops draw =>
    intro p st K K' hK
    unfold run
    split
    · split
      · exact hs.stage _ _ _ _ _
      · exact .none
    · exact runRegion_le hs (hK _) _
  | _ =>
    intro p st K K' hK
    unfold run
    split
    · split
      · exact hs.stage _ _ _ _ _
      · exact .none
    · first | exact hK _ _ | exact .none

theorem kont_le (hs : SmLe s c) {stk : List Fr} {f ntmps : Nat} {body : Code} {R : St → Option (den (tyL (C.rts inst)))} {R' : Nat → St → Option (den (tyL (C.rts inst)))} (hR : ∀ st, Le (R st) (fun k => R' k st)) :
    ∀ (p : Path) (e : Ex) (st : St), Le (kont s inst stk f ntmps body R p e st) (fun k => kont (c k) inst stk f ntmps body (R' k) p e st)
  | [], e, st => by
    unfold kont
    cases e with
    | normal => exact hR _
    | ret => exact hR _
    | _ => exact .none
  | d :: p, e, st => by
    have ih := kont_le hs (stk := stk) (f := f) (ntmps := ntmps) (body := body) hR p
    unfold kont
    split
    · exact .none
    · split
      · cases e with
        | normal => exact run_le hs _ _ _ _ _ ih
        | _ => exact ih _ _
      · exact ih _ _
      · exact ih _ _
      · exact ih _ _
      · cases e with
        | exit j =>
          dsimp only
          split <;> exact ih _ _
        | _ => exact ih _ _
      · cases e with
        | normal =>
          dsimp only
          split
          · split
            · exact hs.stage _ _ _ _ _
            · exact .none
          · exact .none
        | _ => exact ih _ _
      · cases e with
        | goto l =>
          dsimp only
          split
          · split
            · split
              · exact hs.stage _ _ _ _ _
              · exact .none
            · exact .none
          · exact ih _ _
        | _ => exact ih _ _
      · exact .none

theorem retTo_le (hs : SmLe s c) : ∀ (stk : List Fr) (rs : List ResultVar) (st : St), Le (retTo s inst stk rs st) (fun k => retTo (c k) inst stk rs st)
  | [], rs, st => by unfold retTo; exact .const _
  | fr :: stk, rs, st => by
    have ih := retTo_le hs stk
    unfold retTo
    split
    · exact .none
    · split
      · exact .none
      · split
        · exact .none
        · split
          · split
            · exact runOps_le hs (fun st => kont_le hs (ih _) _ _ _) _ _
            · exact .none
          · exact .none

theorem stageStep_le (hs : SmLe s c) (stk : List Fr) (f : Nat) (p : Path) (st : St) : Le (stageStep s inst stk f p st) (fun k => stageStep (c k) inst stk f p st) := by
  have hk := fun {ntmps : Nat} {body : Code} {rs : List ResultVar} => kont_le hs (stk := stk) (f := f) (ntmps := ntmps) (body := body) (retTo_le hs (inst := inst) stk rs)
  unfold stageStep
  split
  · exact .none
  · split
    · exact .none
    · dsimp only
      split
      · exact .none
      · split
        · exact hk _ _ _
        · exact hk _ _ _
        · exact runRegion_le hs (hk _ _) _
        · exact run_le hs _ _ _ _ _ (hk _)
        · split
          · exact Le.cond (run_le hs _ _ _ _ _ (hk _)) (run_le hs _ _ _ _ _ (hk _))
          · exact .none
        · exact run_le hs _ _ _ _ _ (hk _)
        · exact run_le hs _ _ _ _ _ (hk _)
        · exact run_le hs _ _ _ _ _ (hk _)
        · exact hk _ _ _
        · exact hk _ _ _
        · exact hk _ _ _
        · exact .none
end

/-- One more step: what is known stays. -/
theorem sem_le (k : Nat) : SmLe (sem C k) (fun _ => sem C (k + 1)) := by
  induction k with
  | zero => exact ⟨fun _ _ => .none, fun _ _ _ _ _ => .none⟩
  | succ k ih =>
    refine ⟨fun i x => ?_, fun i stk f p st => stageStep_le ih stk f p st⟩
    show Le (match C.ext i with
        | some g => g x
        | none => stageStep (sem C k) i [] (C.fid i) [] { env := parEnv 0 (ofDenL (C.pts i) x), heap := [], salt := 0 }) (fun _ => match C.ext i with
        | some g => g x
        | none => stageStep (sem C (k + 1)) i [] (C.fid i) [] { env := parEnv 0 (ofDenL (C.pts i) x), heap := [], salt := 0 })
    split
    · exact .const _
    · exact stageStep_le ih _ _ _ _

/-- A call's value at some depth. -/
noncomputable def lim {α : Type} (f : Nat → Option α) : Option α :=
  open Classical in if h : ∃ k, (f k).isSome = true then f (Classical.choose h) else none

def Mono {α : Type} (f : Nat → Option α) : Prop := ∀ k r, f k = some r → f (k + 1) = some r
theorem Mono.le {α : Type} {f : Nat → Option α} (h : Mono f) {k j : Nat} (hj : k ≤ j) {r : α} (hr : f k = some r) : f j = some r := by
  induction hj with
  | refl => exact hr
  | step _ ih => exact h _ _ ih
theorem Mono.lim {α : Type} {f : Nat → Option α} (h : Mono f) {r : α} : lim f = some r ↔ ∃ k, f k = some r := by
  unfold K.lim
  constructor
  · split
    · rename_i hx; exact fun e => ⟨_, e⟩
    · exact fun e => by cases e
  · rintro ⟨k, hk⟩
    have hx : ∃ k, (f k).isSome = true := ⟨k, by rw [hk]; rfl⟩
    rw [dif_pos hx]
    have := Classical.choose_spec hx
    obtain ⟨r', hr'⟩ := Option.isSome_iff_exists.1 this
    rw [hr']
    rcases Nat.le_total k (Classical.choose hx) with hle | hle
    · exact hr' ▸ h.le hle hk ▸ rfl
    · have := h.le hle hr'
      rw [hk] at this; exact this.symm
theorem Mono.ev {α : Type} {f : Nat → Option α} (h : Mono f) {r : α} : K.lim f = some r ↔ Ev f r := by
  rw [h.lim]
  exact ⟨fun ⟨k, hk⟩ => ⟨k, fun j hj => h.le hj hk⟩, fun ⟨k, hk⟩ => ⟨k, hk k (Nat.le_refl _)⟩⟩

theorem Le.mono {α : Type} {f : Nat → Option α} (h : ∀ k, Le (f k) (fun _ => f (k + 1))) : Mono f := fun k r hr => by
  obtain ⟨N, hN⟩ := h k r hr
  exact hN N (Nat.le_refl _)

theorem call_mono (i : Nat) (x : den (tyL (C.pts i))) : Mono (fun k => (sem C k).callF i x) := Le.mono fun k => (sem_le k).call i x
theorem stage_mono (i : Nat) (stk : List Fr) (f : Nat) (p : Path) (st : St) : Mono (fun k => (sem C k).stage i stk f p st) := Le.mono fun k => (sem_le k).stage i stk f p st

/-- The limit. -/
noncomputable def top (C : Ctx) : Sm C := { callF := fun i x => lim (fun k => (sem C k).callF i x), stage := fun i stk f p st => lim (fun k => (sem C k).stage i stk f p st) }

theorem top_ge : SmLe (top C) (fun k => sem C k) := ⟨fun i x r hr => (call_mono i x).ev.1 hr, fun i stk f p st r hr => (stage_mono i stk f p st).ev.1 hr⟩
theorem top_le (k : Nat) : SmLe (sem C k) (fun _ => top C) :=
  ⟨fun i x r hr => ⟨0, fun _ _ => (call_mono i x).lim.2 ⟨k, hr⟩⟩, fun i stk f p st r hr => ⟨0, fun _ _ => (stage_mono i stk f p st).lim.2 ⟨k, hr⟩⟩⟩

theorem lim_step {α : Type} {f : Nat → Option α} {x : Option α} {g : Nat → Option α} (hf : Mono f) (h : ∀ k, f (k + 1) = g k) (h1 : Le x g) (h2 : ∀ k, Le (g k) (fun _ => x)) : lim f = x := by
  apply Option.ext
  intro r
  rw [hf.lim]
  constructor
  · rintro ⟨k, hk⟩
    have hk : f (k + 1) = some r := hf _ _ hk
    rw [h] at hk
    obtain ⟨N, hN⟩ := h2 k r hk
    exact hN N (Nat.le_refl _)
  · intro hx
    obtain ⟨N, hN⟩ := h1 r hx
    exact ⟨N + 1, by rw [h]; exact hN N (Nat.le_refl _)⟩

/-- The limit's equations. -/
theorem top_stage (i : Nat) (stk : List Fr) (f : Nat) (p : Path) (st : St) : (top C).stage i stk f p st = stageStep (top C) i stk f p st :=
  lim_step (stage_mono i stk f p st) (fun _ => rfl) (stageStep_le top_ge stk f p st) (fun k => stageStep_le (top_le k) stk f p st)
theorem top_call (i : Nat) (x : den (tyL (C.pts i))) : (top C).callF i x = (match C.ext i with
    | some g => g x
    | none => stageStep (top C) i [] (C.fid i) [] { env := parEnv 0 (ofDenL (C.pts i) x), heap := [], salt := 0 }) := by
  refine lim_step (g := fun k => match C.ext i with
    | some g => g x
    | none => stageStep (sem C k) i [] (C.fid i) [] { env := parEnv 0 (ofDenL (C.pts i) x), heap := [], salt := 0 }) (call_mono i x) (fun _ => rfl) ?_ ?_
  · split
    · exact .const _
    · exact stageStep_le top_ge _ _ _ _
  · intro k
    split
    · exact .const _
    · exact stageStep_le (top_le k) _ _ _ _

/-- A call of the machine is a call of the program. -/
theorem top_calls {P : Program} (hS : ∀ k, SpecOk P (sem C k)) {i : Nat} {y : den (tyL (C.pts i))} {r : den (tyL (C.rts i))} (h : (top C).callF i y = some r) {w : World} {fz0 : Nat → Prop} {vs : List Value} (hfz : ∀ b, fz0 b → b < w.heap.size)
    (hf : (C.fn (C.fid i)).isSome = true) (hinv : C.inv w) (hd : DenL w.heap fz0 (C.pts i) y vs) : Calls P (C.fid i) vs.toArray w (RetT (C.rts i) w fz0 r) :=
  ev_calls hS ((call_mono i y).ev.1 h) hfz hf hinv hd

/-- A closed call, run at a depth. -/
theorem of_depth {i : Nat} {y : den (tyL (C.pts i))} {r : den (tyL (C.rts i))} (n : Nat) (h : (sem C n).callF i y = some r) : (top C).callF i y = some r := (call_mono i y).lim.2 ⟨n, h⟩
theorem of_ev {i : Nat} {y : den (tyL (C.pts i))} {r : den (tyL (C.rts i))} (h : Ev (fun k => (sem C k).callF i y) r) : (top C).callF i y = some r := (call_mono i y).ev.2 h
end Go.Proofs.YtcdcijhfjiahkaaDoorR.K
