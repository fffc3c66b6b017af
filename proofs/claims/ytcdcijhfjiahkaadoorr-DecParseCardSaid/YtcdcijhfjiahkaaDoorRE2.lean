/- The tables are the program's own. -/
import Derived.Test.YtcdcijhfjiahkaaDoorRKH
import Derived.Test.YtcdcijhfjiahkaaDoorRE0
set_option linter.unusedVariables false
set_option maxRecDepth 100000
namespace Go.Proofs.YtcdcijhfjiahkaaDoorR.K
open Go
theorem look_all {α : Type} {Q : Nat → α → Prop} : ∀ {l : List (Nat × α)}, (∀ p ∈ l, Q p.1 p.2) → ∀ t v, look l t = some v → Q t v
  | [], _, t, v, h => by cases h
  | (u, x) :: l, hl, t, v, h => by
    simp only [look] at h
    split at h
    · rename_i hb
      have := Nat.eq_of_beq_eq_true hb
      subst this
      cases h
      exact hl _ (List.mem_cons_self ..)
    · exact look_all (fun p hp => hl p (List.mem_cons_of_mem _ hp)) t v h
theorem all_nil {α : Type} {Q : Nat → α → Prop} : ∀ p ∈ ([] : List (Nat × α)), Q p.1 p.2 := fun p h => by cases h
theorem all_cons {α : Type} {Q : Nat → α → Prop} {u : Nat} {x : α} {l : List (Nat × α)} (h : Q u x) (hl : ∀ p ∈ l, Q p.1 p.2) : ∀ p ∈ (u, x) :: l, Q p.1 p.2 := fun p hp => by
  rcases List.mem_cons.1 hp with rfl | hp
  · exact h
  · exact hl p hp
theorem tiok5 : TIok Tryd.prog 5 ti5 := ⟨by kernel_rfl, by kernel_rfl, by kernel_rfl, by kernel_rfl, by kernel_rfl, by kernel_rfl, by kernel_rfl, by kernel_rfl, ⟨by kernel_rfl, by kernel_rfl, by kernel_rfl⟩, fun h => by cases h⟩
theorem tiok9 : TIok Tryd.prog 9 ti9 := ⟨by kernel_rfl, by kernel_rfl, by kernel_rfl, by kernel_rfl, by kernel_rfl, by kernel_rfl, by kernel_rfl, by kernel_rfl, ⟨by kernel_rfl, by kernel_rfl, by kernel_rfl⟩, fun h => by cases h⟩
theorem tiok22 : TIok Tryd.prog 22 ti22 := ⟨by kernel_rfl, by kernel_rfl, by kernel_rfl, by kernel_rfl, by kernel_rfl, by kernel_rfl, by kernel_rfl, by kernel_rfl, ⟨by kernel_rfl, by kernel_rfl, by kernel_rfl⟩, fun h => by cases h⟩
theorem tiok89 : TIok Tryd.prog 89 ti89 := ⟨by kernel_rfl, by kernel_rfl, by kernel_rfl, by kernel_rfl, by kernel_rfl, by kernel_rfl, by kernel_rfl, by kernel_rfl, ⟨by kernel_rfl, by kernel_rfl, by kernel_rfl⟩, fun h => by cases h⟩
theorem tis_ok : CtxTI Tryd.prog CT := look_all (l := tis) (all_cons tiok5 (all_cons tiok9 (all_cons tiok22 (all_cons tiok89 all_nil))))
def FnOk (f : Nat) (fn : Func) : Prop := Tryd.prog.funcs[f]? = some fn ∧ fn.body.isSome = true ∧ (fn.name == "runtime.NumGoroutine") = false
def ParOk (i : Nat) (fn : Func) : Prop := ((look ptsL i).getD []).length ≤ fn.ntmps
theorem fnok11 : FnOk 11 Tryd.f11 := ⟨Tryd.func11, by kernel_rfl, by kernel_rfl⟩
theorem parok11 : ParOk 11 Tryd.f11 := Nat.le_of_ble_eq_true (by kernel_rfl)
theorem fnok12 : FnOk 12 Tryd.f12 := ⟨Tryd.func12, by kernel_rfl, by kernel_rfl⟩
theorem parok12 : ParOk 12 Tryd.f12 := Nat.le_of_ble_eq_true (by kernel_rfl)
theorem fnok14 : FnOk 14 Tryd.f14 := ⟨Tryd.func14, by kernel_rfl, by kernel_rfl⟩
theorem parok14 : ParOk 14 Tryd.f14 := Nat.le_of_ble_eq_true (by kernel_rfl)
theorem fnok15 : FnOk 15 Tryd.f15 := ⟨Tryd.func15, by kernel_rfl, by kernel_rfl⟩
theorem parok15 : ParOk 15 Tryd.f15 := Nat.le_of_ble_eq_true (by kernel_rfl)
theorem fnok16 : FnOk 16 Tryd.f16 := ⟨Tryd.func16, by kernel_rfl, by kernel_rfl⟩
theorem parok16 : ParOk 16 Tryd.f16 := Nat.le_of_ble_eq_true (by kernel_rfl)
theorem fnok17 : FnOk 17 Tryd.f17 := ⟨Tryd.func17, by kernel_rfl, by kernel_rfl⟩
theorem parok17 : ParOk 17 Tryd.f17 := Nat.le_of_ble_eq_true (by kernel_rfl)
theorem fnok18 : FnOk 18 Tryd.f18 := ⟨Tryd.func18, by kernel_rfl, by kernel_rfl⟩
theorem parok18 : ParOk 18 Tryd.f18 := Nat.le_of_ble_eq_true (by kernel_rfl)
theorem fnok43 : FnOk 43 Tryd.f43 := ⟨Tryd.func43, by kernel_rfl, by kernel_rfl⟩
theorem parok43 : ParOk 43 Tryd.f43 := Nat.le_of_ble_eq_true (by kernel_rfl)
theorem fnok44 : FnOk 44 Tryd.f44 := ⟨Tryd.func44, by kernel_rfl, by kernel_rfl⟩
theorem parok44 : ParOk 44 Tryd.f44 := Nat.le_of_ble_eq_true (by kernel_rfl)
theorem fnok47 : FnOk 47 Tryd.f47 := ⟨Tryd.func47, by kernel_rfl, by kernel_rfl⟩
theorem parok47 : ParOk 47 Tryd.f47 := Nat.le_of_ble_eq_true (by kernel_rfl)
theorem fnok48 : FnOk 48 Tryd.f48 := ⟨Tryd.func48, by kernel_rfl, by kernel_rfl⟩
theorem parok48 : ParOk 48 Tryd.f48 := Nat.le_of_ble_eq_true (by kernel_rfl)
theorem fnok64 : FnOk 64 Tryd.f64 := ⟨Tryd.func64, by kernel_rfl, by kernel_rfl⟩
theorem parok64 : ParOk 64 Tryd.f64 := Nat.le_of_ble_eq_true (by kernel_rfl)
theorem fnok65 : FnOk 65 Tryd.f65 := ⟨Tryd.func65, by kernel_rfl, by kernel_rfl⟩
theorem parok65 : ParOk 65 Tryd.f65 := Nat.le_of_ble_eq_true (by kernel_rfl)
theorem fnok66 : FnOk 66 Tryd.f66 := ⟨Tryd.func66, by kernel_rfl, by kernel_rfl⟩
theorem parok66 : ParOk 66 Tryd.f66 := Nat.le_of_ble_eq_true (by kernel_rfl)
theorem fnok67 : FnOk 67 Tryd.f67 := ⟨Tryd.func67, by kernel_rfl, by kernel_rfl⟩
theorem parok67 : ParOk 67 Tryd.f67 := Nat.le_of_ble_eq_true (by kernel_rfl)
theorem fnok68 : FnOk 68 Tryd.f68 := ⟨Tryd.func68, by kernel_rfl, by kernel_rfl⟩
theorem parok68 : ParOk 68 Tryd.f68 := Nat.le_of_ble_eq_true (by kernel_rfl)
theorem fnok69 : FnOk 69 Tryd.f69 := ⟨Tryd.func69, by kernel_rfl, by kernel_rfl⟩
theorem parok69 : ParOk 69 Tryd.f69 := Nat.le_of_ble_eq_true (by kernel_rfl)
theorem fnok70 : FnOk 70 Tryd.f70 := ⟨Tryd.func70, by kernel_rfl, by kernel_rfl⟩
theorem parok70 : ParOk 70 Tryd.f70 := Nat.le_of_ble_eq_true (by kernel_rfl)
theorem fnok71 : FnOk 71 Tryd.f71 := ⟨Tryd.func71, by kernel_rfl, by kernel_rfl⟩
theorem parok71 : ParOk 71 Tryd.f71 := Nat.le_of_ble_eq_true (by kernel_rfl)
theorem fnok99 : FnOk 99 Tryd.f99 := ⟨Tryd.func99, by kernel_rfl, by kernel_rfl⟩
theorem parok99 : ParOk 99 Tryd.f99 := Nat.le_of_ble_eq_true (by kernel_rfl)
theorem fnok103 : FnOk 103 Tryd.f103 := ⟨Tryd.func103, by kernel_rfl, by kernel_rfl⟩
theorem parok103 : ParOk 103 Tryd.f103 := Nat.le_of_ble_eq_true (by kernel_rfl)
theorem fnok104 : FnOk 104 Tryd.f104 := ⟨Tryd.func104, by kernel_rfl, by kernel_rfl⟩
theorem parok104 : ParOk 104 Tryd.f104 := Nat.le_of_ble_eq_true (by kernel_rfl)
theorem fnok105 : FnOk 105 Tryd.f105 := ⟨Tryd.func105, by kernel_rfl, by kernel_rfl⟩
theorem parok105 : ParOk 105 Tryd.f105 := Nat.le_of_ble_eq_true (by kernel_rfl)
theorem fnok106 : FnOk 106 Tryd.f106 := ⟨Tryd.func106, by kernel_rfl, by kernel_rfl⟩
theorem parok106 : ParOk 106 Tryd.f106 := Nat.le_of_ble_eq_true (by kernel_rfl)
theorem fns_ok : ∀ f fn, look fns f = some fn → FnOk f fn := look_all (Q := FnOk) (l := fns) (all_cons fnok11 (all_cons fnok12 (all_cons fnok14 (all_cons fnok15 (all_cons fnok16 (all_cons fnok17 (all_cons fnok18 (all_cons fnok43 (all_cons fnok44 (all_cons fnok47 (all_cons fnok48 (all_cons fnok64 (all_cons fnok65 (all_cons fnok66 (all_cons fnok67 (all_cons fnok68 (all_cons fnok69 (all_cons fnok70 (all_cons fnok71 (all_cons fnok99 (all_cons fnok103 (all_cons fnok104 (all_cons fnok105 (all_cons fnok106 all_nil))))))))))))))))))))))))
theorem ctx_ok : CtxOk Tryd.prog CT := ⟨tis_ok, fns_ok, by kernel_rfl, inv_keeps⟩
theorem pars_ok : ∀ i fn, look fns i = some fn → ParOk i fn := look_all (Q := ParOk) (l := fns) (all_cons parok11 (all_cons parok12 (all_cons parok14 (all_cons parok15 (all_cons parok16 (all_cons parok17 (all_cons parok18 (all_cons parok43 (all_cons parok44 (all_cons parok47 (all_cons parok48 (all_cons parok64 (all_cons parok65 (all_cons parok66 (all_cons parok67 (all_cons parok68 (all_cons parok69 (all_cons parok70 (all_cons parok71 (all_cons parok99 (all_cons parok103 (all_cons parok104 (all_cons parok105 (all_cons parok106 all_nil))))))))))))))))))))))))
theorem sound (hE : ExtOk Tryd.prog CT) : ∀ k, SpecOk Tryd.prog (sem CT k) ∧ StageOk Tryd.prog (sem CT k) := sem_sound ctx_ok hE pars_ok
theorem ext_ok : ExtOk Tryd.prog CT := ext_of (l := extL) rfl (allE_cons (ext_at (Q.rsmall_ok inv_max)) (allE_cons (ext_at (Q.of_ok inv_max)) (allE_cons (ext_at (Q.rof_ok inv_max)) (allE_cons (ext_at (Q.trim_ok inv_max)) (allE_cons (ext_at (Q.rtrim_ok inv_max)) (allE_cons (ext_at (Q.add_ok inv_max)) (allE_cons (ext_at (Q.radd_ok inv_max)) (allE_cons (ext_at (Q.mul_ok inv_max)) (allE_cons (ext_at (Q.rmul_ok inv_max)) (allE_cons (ext_at (Q.dec_ok inv_keeps inv_max)) (allE_cons (ext_at (Q.div_ok inv_max)) (allE_cons (ext_at (Q.rdiv_ok inv_max)) allE_nil))))))))))))
theorem spec_ok (k : Nat) : SpecOk Tryd.prog (sem CT k) := (sound ext_ok k).1
end Go.Proofs.YtcdcijhfjiahkaaDoorR.K
