/- The abstract machine: what its calls come to, whatever the depth from some depth on; and a law's call. -/
import Derived.Test.YtcdcijhfjiahkaaDoorRKX
set_option linter.unusedVariables false
set_option linter.unusedSimpArgs false
namespace Go.Proofs.YtcdcijhfjiahkaaDoorR.K
open Go
open Go.RowKit (Below)

/-- From some depth on. -/
def Ev {α : Type} (f : Nat → Option α) (r : α) : Prop := ∃ N, ∀ k, N ≤ k → f k = some r

theorem Ev.some {α : Type} (r : α) : Ev (fun _ => some r) r := ⟨0, fun _ _ => rfl⟩
theorem Ev.succ {α : Type} {f g : Nat → Option α} {r : α} (h : ∀ k, f (k + 1) = g k) (hg : Ev g r) : Ev f r := by
  obtain ⟨N, hN⟩ := hg
  refine ⟨N + 1, fun k hk => ?_⟩
  obtain ⟨j, rfl⟩ : ∃ j, k = j + 1 := ⟨k - 1, by omega⟩
  rw [h]; exact hN j (by omega)
theorem Ev.bind {α β : Type} {f : Nat → Option α} {g : Nat → α → Option β} {a : α} {r : β} (hf : Ev f a) (hg : Ev (fun k => g k a) r) : Ev (fun k => (f k).bind (g k)) r := by
  obtain ⟨N, hN⟩ := hf
  obtain ⟨M, hM⟩ := hg
  refine ⟨N + M, fun k hk => ?_⟩
  show (f k).bind (g k) = _
  rw [hN k (by omega)]; exact hM k (by omega)
theorem Ev.cond {α : Type} {c : Bool} {f g : Nat → Option α} {r : α} (h1 : c = true → Ev f r) (h2 : c = false → Ev g r) : Ev (fun k => cond c (f k) (g k)) r := by
  cases c with
  | true => exact h1 rfl
  | false => exact h2 rfl
theorem Ev.of_true {α : Type} {c : Bool} {f g : Nat → Option α} {r : α} (hc : c = true) (h : Ev f r) : Ev (fun k => _root_.cond c (f k) (g k)) r := by subst hc; exact h
theorem Ev.of_false {α : Type} {c : Bool} {f g : Nat → Option α} {r : α} (hc : c = false) (h : Ev g r) : Ev (fun k => _root_.cond c (f k) (g k)) r := by subst hc; exact h
theorem Ev.fun_eq {α : Type} {f g : Nat → Option α} {r : α} (h : ∀ k, f k = g k) (hg : Ev g r) : Ev f r := by
  obtain ⟨N, hN⟩ := hg
  exact ⟨N, fun k hk => (h k).trans (hN k hk)⟩
theorem Ev.unique {α : Type} {f : Nat → Option α} {r s : α} (h : Ev f r) (k : Ev f s) : r = s := by
  obtain ⟨N, hN⟩ := h
  obtain ⟨M, hM⟩ := k
  have := (hN (N + M) (by omega)).symm.trans (hM (N + M) (by omega))
  exact Option.some.inj this

/-- A call of the machine is a call of the program. -/
theorem ev_calls {P : Program} {C : Ctx} (hS : ∀ k, SpecOk P (sem C k)) {i : Nat} {y : den (tyL (C.pts i))} {r : den (tyL (C.rts i))} (h : Ev (fun k => callF (C := C) k i y) r) {w : World} {fz0 : Nat → Prop} {vs : List Value} (hfz : ∀ b, fz0 b → b < w.heap.size)
    (hf : (C.fn (C.fid i)).isSome = true) (hinv : C.inv w) (hd : DenL w.heap fz0 (C.pts i) y vs) : Calls P (C.fid i) vs.toArray w (RetT (C.rts i) w fz0 r) := by
  obtain ⟨N, hN⟩ := h
  exact (hS N i y r (hN N (Nat.le_refl _)) w fz0 vs hfz hf hinv hd).mono fun e w' ⟨v, he, hb, hr⟩ => ⟨v, he, hb, hr⟩

theorem ret_bool {w w' : World} {fz0 : Nat → Prop} {r : Bool} {e : Ending} (h : RetT [.bool] w fz0 r e w') : e = .returned (.bool r) ∧ Below w.heap.size w w' := by
  obtain ⟨v, rfl, hb, ow, ok, vs, _, _, _, rfl, hres⟩ := h
  have h1 : ∃ v, vs = [v] ∧ ResV w'.heap ok .bool r v ow := hres
  obtain ⟨v, rfl, h2⟩ := h1
  have h3 : Ty.bool ≠ .unit ∧ ResC w'.heap ok .bool r [v] ow := h2
  have h4 : ow = [] ∧ [v] = [Value.bool r] := h3.2
  have h5 : v = .bool r := by simpa using h4.2
  subst h5
  exact ⟨rfl, hb⟩

end Go.Proofs.YtcdcijhfjiahkaaDoorR.K
