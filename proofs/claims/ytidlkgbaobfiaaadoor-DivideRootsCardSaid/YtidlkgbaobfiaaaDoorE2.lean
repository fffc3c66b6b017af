/- The tables are the program's own. -/
import Derived.Test.YtidlkgbaobfiaaaDoorKH
import Derived.Test.YtidlkgbaobfiaaaDoorE0
set_option linter.unusedVariables false
set_option maxRecDepth 100000
namespace Go.Proofs.YtidlkgbaobfiaaaDoor.K
open Go
theorem look_all {α : Type} {Q : Nat → α → Prop} : ∀ {l : List (Nat × α)}, (∀ p ∈ l, Q p.1 p.2) → ∀ t v, look l t = some v → Q t v
  | [], _, t, v, h => by cases h
  | (u, x) :: l, hl, t, v, h => by
    simp only [look] at h
    split at h
    · rename_i hb
      have := Nat.eq_of_beq_eq_true hb
      subst this
      cases h
      exact hl _ (List.mem_cons_self ..)
    · exact look_all (fun p hp => hl p (List.mem_cons_of_mem _ hp)) t v h
theorem all_nil {α : Type} {Q : Nat → α → Prop} : ∀ p ∈ ([] : List (Nat × α)), Q p.1 p.2 := fun p h => by cases h
theorem all_cons {α : Type} {Q : Nat → α → Prop} {u : Nat} {x : α} {l : List (Nat × α)} (h : Q u x) (hl : ∀ p ∈ l, Q p.1 p.2) : ∀ p ∈ (u, x) :: l, Q p.1 p.2 := fun p hp => by
  rcases List.mem_cons.1 hp with rfl | hp
  · exact h
  · exact hl p hp
theorem tiok3 : TIok Tryd.prog 3 ti3 := ⟨by kernel_rfl, by kernel_rfl, by kernel_rfl, by kernel_rfl, by kernel_rfl, by kernel_rfl, by kernel_rfl, by kernel_rfl, ⟨by kernel_rfl, by kernel_rfl, by kernel_rfl⟩, fun h => by cases h⟩
theorem tiok5 : TIok Tryd.prog 5 ti5 := ⟨by kernel_rfl, by kernel_rfl, by kernel_rfl, by kernel_rfl, by kernel_rfl, by kernel_rfl, by kernel_rfl, by kernel_rfl, ⟨by kernel_rfl, by kernel_rfl, by kernel_rfl⟩, fun h => by cases h⟩
theorem tiok9 : TIok Tryd.prog 9 ti9 := ⟨by kernel_rfl, by kernel_rfl, by kernel_rfl, by kernel_rfl, by kernel_rfl, by kernel_rfl, by kernel_rfl, by kernel_rfl, ⟨by kernel_rfl, by kernel_rfl, by kernel_rfl⟩, fun h => by cases h⟩
theorem tiok36 : TIok Tryd.prog 36 ti36 := ⟨by kernel_rfl, by kernel_rfl, by kernel_rfl, by kernel_rfl, by kernel_rfl, by kernel_rfl, by kernel_rfl, by kernel_rfl, ⟨by kernel_rfl, by kernel_rfl, by kernel_rfl⟩, fun h => by cases h⟩
theorem tiok40 : TIok Tryd.prog 40 ti40 := ⟨by kernel_rfl, by kernel_rfl, by kernel_rfl, by kernel_rfl, by kernel_rfl, by kernel_rfl, by kernel_rfl, by kernel_rfl, ⟨by kernel_rfl, by kernel_rfl, by kernel_rfl⟩, fun h => by cases h⟩
theorem tiok46 : TIok Tryd.prog 46 ti46 := ⟨by kernel_rfl, by kernel_rfl, by kernel_rfl, by kernel_rfl, by kernel_rfl, by kernel_rfl, by kernel_rfl, by kernel_rfl, ⟨by kernel_rfl, by kernel_rfl, by kernel_rfl⟩, fun h => by cases h⟩
theorem tiok48 : TIok Tryd.prog 48 ti48 := ⟨by kernel_rfl, by kernel_rfl, by kernel_rfl, by kernel_rfl, by kernel_rfl, by kernel_rfl, by kernel_rfl, by kernel_rfl, ⟨by kernel_rfl, by kernel_rfl, by kernel_rfl⟩, fun h => by cases h⟩
theorem tiok51 : TIok Tryd.prog 51 ti51 := ⟨by kernel_rfl, by kernel_rfl, by kernel_rfl, by kernel_rfl, by kernel_rfl, by kernel_rfl, by kernel_rfl, by kernel_rfl, ⟨by kernel_rfl, by kernel_rfl, by kernel_rfl⟩, fun h => by cases h⟩
theorem tiok56 : TIok Tryd.prog 56 ti56 := ⟨by kernel_rfl, by kernel_rfl, by kernel_rfl, by kernel_rfl, by kernel_rfl, by kernel_rfl, by kernel_rfl, by kernel_rfl, ⟨by kernel_rfl, by kernel_rfl, by kernel_rfl⟩, fun h => by cases h⟩
theorem tiok66 : TIok Tryd.prog 66 ti66 := ⟨by kernel_rfl, by kernel_rfl, by kernel_rfl, by kernel_rfl, by kernel_rfl, by kernel_rfl, by kernel_rfl, by kernel_rfl, ⟨by kernel_rfl, by kernel_rfl, by kernel_rfl⟩, fun h => by cases h⟩
theorem tis_ok : CtxTI Tryd.prog CT := look_all (l := tis) (all_cons tiok3 (all_cons tiok5 (all_cons tiok9 (all_cons tiok36 (all_cons tiok40 (all_cons tiok46 (all_cons tiok48 (all_cons tiok51 (all_cons tiok56 (all_cons tiok66 all_nil))))))))))
def FnOk (f : Nat) (fn : Func) : Prop := Tryd.prog.funcs[f]? = some fn ∧ fn.body.isSome = true ∧ (fn.name == "runtime.NumGoroutine") = false
def ParOk (i : Nat) (fn : Func) : Prop := ((look ptsL i).getD []).length ≤ fn.ntmps
theorem fnok38 : FnOk 38 Tryd.f38 := ⟨Tryd.func38, by kernel_rfl, by kernel_rfl⟩
theorem parok38 : ParOk 38 Tryd.f38 := Nat.le_of_ble_eq_true (by kernel_rfl)
theorem fnok51 : FnOk 51 Tryd.f51 := ⟨Tryd.func51, by kernel_rfl, by kernel_rfl⟩
theorem parok51 : ParOk 51 Tryd.f51 := Nat.le_of_ble_eq_true (by kernel_rfl)
theorem fnok52 : FnOk 52 Tryd.f52 := ⟨Tryd.func52, by kernel_rfl, by kernel_rfl⟩
theorem parok52 : ParOk 52 Tryd.f52 := Nat.le_of_ble_eq_true (by kernel_rfl)
theorem fnok3 : FnOk 3 Tryd.f3 := ⟨Tryd.func3, by kernel_rfl, by kernel_rfl⟩
theorem parok3 : ParOk 3 Tryd.f3 := Nat.le_of_ble_eq_true (by kernel_rfl)
theorem fnok4 : FnOk 4 Tryd.f4 := ⟨Tryd.func4, by kernel_rfl, by kernel_rfl⟩
theorem parok4 : ParOk 4 Tryd.f4 := Nat.le_of_ble_eq_true (by kernel_rfl)
theorem fnok5 : FnOk 5 Tryd.f5 := ⟨Tryd.func5, by kernel_rfl, by kernel_rfl⟩
theorem parok5 : ParOk 5 Tryd.f5 := Nat.le_of_ble_eq_true (by kernel_rfl)
theorem fnok6 : FnOk 6 Tryd.f6 := ⟨Tryd.func6, by kernel_rfl, by kernel_rfl⟩
theorem parok6 : ParOk 6 Tryd.f6 := Nat.le_of_ble_eq_true (by kernel_rfl)
theorem fnok7 : FnOk 7 Tryd.f7 := ⟨Tryd.func7, by kernel_rfl, by kernel_rfl⟩
theorem parok7 : ParOk 7 Tryd.f7 := Nat.le_of_ble_eq_true (by kernel_rfl)
theorem fnok8 : FnOk 8 Tryd.f8 := ⟨Tryd.func8, by kernel_rfl, by kernel_rfl⟩
theorem parok8 : ParOk 8 Tryd.f8 := Nat.le_of_ble_eq_true (by kernel_rfl)
theorem fnok9 : FnOk 9 Tryd.f9 := ⟨Tryd.func9, by kernel_rfl, by kernel_rfl⟩
theorem parok9 : ParOk 9 Tryd.f9 := Nat.le_of_ble_eq_true (by kernel_rfl)
theorem fnok10 : FnOk 10 Tryd.f10 := ⟨Tryd.func10, by kernel_rfl, by kernel_rfl⟩
theorem parok10 : ParOk 10 Tryd.f10 := Nat.le_of_ble_eq_true (by kernel_rfl)
theorem fnok11 : FnOk 11 Tryd.f11 := ⟨Tryd.func11, by kernel_rfl, by kernel_rfl⟩
theorem parok11 : ParOk 11 Tryd.f11 := Nat.le_of_ble_eq_true (by kernel_rfl)
theorem fnok12 : FnOk 12 Tryd.f12 := ⟨Tryd.func12, by kernel_rfl, by kernel_rfl⟩
theorem parok12 : ParOk 12 Tryd.f12 := Nat.le_of_ble_eq_true (by kernel_rfl)
theorem fnok13 : FnOk 13 Tryd.f13 := ⟨Tryd.func13, by kernel_rfl, by kernel_rfl⟩
theorem parok13 : ParOk 13 Tryd.f13 := Nat.le_of_ble_eq_true (by kernel_rfl)
theorem fnok14 : FnOk 14 Tryd.f14 := ⟨Tryd.func14, by kernel_rfl, by kernel_rfl⟩
theorem parok14 : ParOk 14 Tryd.f14 := Nat.le_of_ble_eq_true (by kernel_rfl)
theorem fnok15 : FnOk 15 Tryd.f15 := ⟨Tryd.func15, by kernel_rfl, by kernel_rfl⟩
theorem parok15 : ParOk 15 Tryd.f15 := Nat.le_of_ble_eq_true (by kernel_rfl)
theorem fnok16 : FnOk 16 Tryd.f16 := ⟨Tryd.func16, by kernel_rfl, by kernel_rfl⟩
theorem parok16 : ParOk 16 Tryd.f16 := Nat.le_of_ble_eq_true (by kernel_rfl)
theorem fnok17 : FnOk 17 Tryd.f17 := ⟨Tryd.func17, by kernel_rfl, by kernel_rfl⟩
theorem parok17 : ParOk 17 Tryd.f17 := Nat.le_of_ble_eq_true (by kernel_rfl)
theorem fnok18 : FnOk 18 Tryd.f18 := ⟨Tryd.func18, by kernel_rfl, by kernel_rfl⟩
theorem parok18 : ParOk 18 Tryd.f18 := Nat.le_of_ble_eq_true (by kernel_rfl)
theorem fnok19 : FnOk 19 Tryd.f19 := ⟨Tryd.func19, by kernel_rfl, by kernel_rfl⟩
theorem parok19 : ParOk 19 Tryd.f19 := Nat.le_of_ble_eq_true (by kernel_rfl)
theorem fnok20 : FnOk 20 Tryd.f20 := ⟨Tryd.func20, by kernel_rfl, by kernel_rfl⟩
theorem parok20 : ParOk 20 Tryd.f20 := Nat.le_of_ble_eq_true (by kernel_rfl)
theorem fnok21 : FnOk 21 Tryd.f21 := ⟨Tryd.func21, by kernel_rfl, by kernel_rfl⟩
theorem parok21 : ParOk 21 Tryd.f21 := Nat.le_of_ble_eq_true (by kernel_rfl)
theorem fnok22 : FnOk 22 Tryd.f22 := ⟨Tryd.func22, by kernel_rfl, by kernel_rfl⟩
theorem parok22 : ParOk 22 Tryd.f22 := Nat.le_of_ble_eq_true (by kernel_rfl)
theorem fnok23 : FnOk 23 Tryd.f23 := ⟨Tryd.func23, by kernel_rfl, by kernel_rfl⟩
theorem parok23 : ParOk 23 Tryd.f23 := Nat.le_of_ble_eq_true (by kernel_rfl)
theorem fnok24 : FnOk 24 Tryd.f24 := ⟨Tryd.func24, by kernel_rfl, by kernel_rfl⟩
theorem parok24 : ParOk 24 Tryd.f24 := Nat.le_of_ble_eq_true (by kernel_rfl)
theorem fnok25 : FnOk 25 Tryd.f25 := ⟨Tryd.func25, by kernel_rfl, by kernel_rfl⟩
theorem parok25 : ParOk 25 Tryd.f25 := Nat.le_of_ble_eq_true (by kernel_rfl)
theorem fnok26 : FnOk 26 Tryd.f26 := ⟨Tryd.func26, by kernel_rfl, by kernel_rfl⟩
theorem parok26 : ParOk 26 Tryd.f26 := Nat.le_of_ble_eq_true (by kernel_rfl)
theorem fnok27 : FnOk 27 Tryd.f27 := ⟨Tryd.func27, by kernel_rfl, by kernel_rfl⟩
theorem parok27 : ParOk 27 Tryd.f27 := Nat.le_of_ble_eq_true (by kernel_rfl)
theorem fnok28 : FnOk 28 Tryd.f28 := ⟨Tryd.func28, by kernel_rfl, by kernel_rfl⟩
theorem parok28 : ParOk 28 Tryd.f28 := Nat.le_of_ble_eq_true (by kernel_rfl)
theorem fnok29 : FnOk 29 Tryd.f29 := ⟨Tryd.func29, by kernel_rfl, by kernel_rfl⟩
theorem parok29 : ParOk 29 Tryd.f29 := Nat.le_of_ble_eq_true (by kernel_rfl)
theorem fnok30 : FnOk 30 Tryd.f30 := ⟨Tryd.func30, by kernel_rfl, by kernel_rfl⟩
theorem parok30 : ParOk 30 Tryd.f30 := Nat.le_of_ble_eq_true (by kernel_rfl)
theorem fnok31 : FnOk 31 Tryd.f31 := ⟨Tryd.func31, by kernel_rfl, by kernel_rfl⟩
theorem parok31 : ParOk 31 Tryd.f31 := Nat.le_of_ble_eq_true (by kernel_rfl)
theorem fnok32 : FnOk 32 Tryd.f32 := ⟨Tryd.func32, by kernel_rfl, by kernel_rfl⟩
theorem parok32 : ParOk 32 Tryd.f32 := Nat.le_of_ble_eq_true (by kernel_rfl)
theorem fnok33 : FnOk 33 Tryd.f33 := ⟨Tryd.func33, by kernel_rfl, by kernel_rfl⟩
theorem parok33 : ParOk 33 Tryd.f33 := Nat.le_of_ble_eq_true (by kernel_rfl)
theorem fnok34 : FnOk 34 Tryd.f34 := ⟨Tryd.func34, by kernel_rfl, by kernel_rfl⟩
theorem parok34 : ParOk 34 Tryd.f34 := Nat.le_of_ble_eq_true (by kernel_rfl)
theorem fnok35 : FnOk 35 Tryd.f35 := ⟨Tryd.func35, by kernel_rfl, by kernel_rfl⟩
theorem parok35 : ParOk 35 Tryd.f35 := Nat.le_of_ble_eq_true (by kernel_rfl)
theorem fnok36 : FnOk 36 Tryd.f36 := ⟨Tryd.func36, by kernel_rfl, by kernel_rfl⟩
theorem parok36 : ParOk 36 Tryd.f36 := Nat.le_of_ble_eq_true (by kernel_rfl)
theorem fnok37 : FnOk 37 Tryd.f37 := ⟨Tryd.func37, by kernel_rfl, by kernel_rfl⟩
theorem parok37 : ParOk 37 Tryd.f37 := Nat.le_of_ble_eq_true (by kernel_rfl)
theorem fnok39 : FnOk 39 Tryd.f39 := ⟨Tryd.func39, by kernel_rfl, by kernel_rfl⟩
theorem parok39 : ParOk 39 Tryd.f39 := Nat.le_of_ble_eq_true (by kernel_rfl)
theorem fnok40 : FnOk 40 Tryd.f40 := ⟨Tryd.func40, by kernel_rfl, by kernel_rfl⟩
theorem parok40 : ParOk 40 Tryd.f40 := Nat.le_of_ble_eq_true (by kernel_rfl)
theorem fnok41 : FnOk 41 Tryd.f41 := ⟨Tryd.func41, by kernel_rfl, by kernel_rfl⟩
theorem parok41 : ParOk 41 Tryd.f41 := Nat.le_of_ble_eq_true (by kernel_rfl)
theorem fnok42 : FnOk 42 Tryd.f42 := ⟨Tryd.func42, by kernel_rfl, by kernel_rfl⟩
theorem parok42 : ParOk 42 Tryd.f42 := Nat.le_of_ble_eq_true (by kernel_rfl)
theorem fnok43 : FnOk 43 Tryd.f43 := ⟨Tryd.func43, by kernel_rfl, by kernel_rfl⟩
theorem parok43 : ParOk 43 Tryd.f43 := Nat.le_of_ble_eq_true (by kernel_rfl)
theorem fnok44 : FnOk 44 Tryd.f44 := ⟨Tryd.func44, by kernel_rfl, by kernel_rfl⟩
theorem parok44 : ParOk 44 Tryd.f44 := Nat.le_of_ble_eq_true (by kernel_rfl)
theorem fnok45 : FnOk 45 Tryd.f45 := ⟨Tryd.func45, by kernel_rfl, by kernel_rfl⟩
theorem parok45 : ParOk 45 Tryd.f45 := Nat.le_of_ble_eq_true (by kernel_rfl)
theorem fnok46 : FnOk 46 Tryd.f46 := ⟨Tryd.func46, by kernel_rfl, by kernel_rfl⟩
theorem parok46 : ParOk 46 Tryd.f46 := Nat.le_of_ble_eq_true (by kernel_rfl)
theorem fnok47 : FnOk 47 Tryd.f47 := ⟨Tryd.func47, by kernel_rfl, by kernel_rfl⟩
theorem parok47 : ParOk 47 Tryd.f47 := Nat.le_of_ble_eq_true (by kernel_rfl)
theorem fnok49 : FnOk 49 Tryd.f49 := ⟨Tryd.func49, by kernel_rfl, by kernel_rfl⟩
theorem parok49 : ParOk 49 Tryd.f49 := Nat.le_of_ble_eq_true (by kernel_rfl)
theorem fnok50 : FnOk 50 Tryd.f50 := ⟨Tryd.func50, by kernel_rfl, by kernel_rfl⟩
theorem parok50 : ParOk 50 Tryd.f50 := Nat.le_of_ble_eq_true (by kernel_rfl)
theorem fnok53 : FnOk 53 Tryd.f53 := ⟨Tryd.func53, by kernel_rfl, by kernel_rfl⟩
theorem parok53 : ParOk 53 Tryd.f53 := Nat.le_of_ble_eq_true (by kernel_rfl)
theorem fnok60 : FnOk 60 Tryd.f60 := ⟨Tryd.func60, by kernel_rfl, by kernel_rfl⟩
theorem parok60 : ParOk 60 Tryd.f60 := Nat.le_of_ble_eq_true (by kernel_rfl)
theorem fnok61 : FnOk 61 Tryd.f61 := ⟨Tryd.func61, by kernel_rfl, by kernel_rfl⟩
theorem parok61 : ParOk 61 Tryd.f61 := Nat.le_of_ble_eq_true (by kernel_rfl)
theorem fnok64 : FnOk 64 Tryd.f64 := ⟨Tryd.func64, by kernel_rfl, by kernel_rfl⟩
theorem parok64 : ParOk 64 Tryd.f64 := Nat.le_of_ble_eq_true (by kernel_rfl)
theorem fns_ok : ∀ f fn, look fns f = some fn → FnOk f fn := look_all (Q := FnOk) (l := fns) (all_cons fnok3 (all_cons fnok4 (all_cons fnok5 (all_cons fnok6 (all_cons fnok7 (all_cons fnok8 (all_cons fnok9 (all_cons fnok10 (all_cons fnok11 (all_cons fnok12 (all_cons fnok13 (all_cons fnok14 (all_cons fnok15 (all_cons fnok16 (all_cons fnok17 (all_cons fnok18 (all_cons fnok19 (all_cons fnok20 (all_cons fnok21 (all_cons fnok22 (all_cons fnok23 (all_cons fnok24 (all_cons fnok25 (all_cons fnok26 (all_cons fnok27 (all_cons fnok28 (all_cons fnok29 (all_cons fnok30 (all_cons fnok31 (all_cons fnok32 (all_cons fnok33 (all_cons fnok34 (all_cons fnok35 (all_cons fnok36 (all_cons fnok37 (all_cons fnok39 (all_cons fnok40 (all_cons fnok41 (all_cons fnok42 (all_cons fnok43 (all_cons fnok44 (all_cons fnok45 (all_cons fnok46 (all_cons fnok47 (all_cons fnok49 (all_cons fnok50 (all_cons fnok53 (all_cons fnok60 (all_cons fnok61 (all_cons fnok64 (all_cons fnok38 (all_cons fnok51 (all_cons fnok52 all_nil)))))))))))))))))))))))))))))))))))))))))))))))))))))
theorem ctx_ok : CtxOk Tryd.prog CT := ⟨tis_ok, fns_ok, by kernel_rfl, inv_keeps⟩
theorem pars_ok : ∀ i fn, look fns i = some fn → ParOk i fn := look_all (Q := ParOk) (l := fns) (all_cons parok3 (all_cons parok4 (all_cons parok5 (all_cons parok6 (all_cons parok7 (all_cons parok8 (all_cons parok9 (all_cons parok10 (all_cons parok11 (all_cons parok12 (all_cons parok13 (all_cons parok14 (all_cons parok15 (all_cons parok16 (all_cons parok17 (all_cons parok18 (all_cons parok19 (all_cons parok20 (all_cons parok21 (all_cons parok22 (all_cons parok23 (all_cons parok24 (all_cons parok25 (all_cons parok26 (all_cons parok27 (all_cons parok28 (all_cons parok29 (all_cons parok30 (all_cons parok31 (all_cons parok32 (all_cons parok33 (all_cons parok34 (all_cons parok35 (all_cons parok36 (all_cons parok37 (all_cons parok39 (all_cons parok40 (all_cons parok41 (all_cons parok42 (all_cons parok43 (all_cons parok44 (all_cons parok45 (all_cons parok46 (all_cons parok47 (all_cons parok49 (all_cons parok50 (all_cons parok53 (all_cons parok60 (all_cons parok61 (all_cons parok64 (all_cons parok38 (all_cons parok51 (all_cons parok52 all_nil)))))))))))))))))))))))))))))))))))))))))))))))))))))
theorem sound (hE : ExtOk Tryd.prog CT) : ∀ k, SpecOk Tryd.prog (sem CT k) ∧ StageOk Tryd.prog (sem CT k) := sem_sound ctx_ok hE pars_ok
theorem ext_ok : ExtOk Tryd.prog CT := ext_of (l := extL) rfl (allE_cons (ext_at (H.short_ok)) (allE_cons (ext_at (H.textDiv_ok inv_keeps (B.trim_ok inv_max))) (allE_cons (ext_at (repeat_ok)) (allE_cons (ext_at (len_ok)) (allE_cons (ext_at (H.cmp_ok)) (allE_cons (ext_at (trimLeft_ok)) (allE_cons (ext_at (lz32_ok)) (allE_cons (ext_at (H.text_ok inv_keeps (B.cut_ok inv_max) (B.trim_ok inv_max))) allE_nil))))))))
theorem spec_ok (k : Nat) : SpecOk Tryd.prog (sem CT k) := (sound ext_ok k).1
end Go.Proofs.YtidlkgbaobfiaaaDoor.K
