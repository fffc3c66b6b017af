/- Part 8 of the proof: the machine, the tables and the pure laws that the last text joins. -/
import Derived.Test.YtgnkkanhjghhfaaGreatDoorZ4
import Derived.Test.YtgnkkanhjghhfaaGreatDoorZ7
set_option linter.unusedVariables false
set_option maxRecDepth 100000
namespace Go.Proofs.YtgnkkanhjghhfaaGreatDoor.K
open Go
theorem look_all {α : Type} {Q : Nat → α → Prop} : ∀ {l : List (Nat × α)}, (∀ p ∈ l, Q p.1 p.2) → ∀ t v, look l t = some v → Q t v
 | [], _, t, v, h => by cases h
 | (u, x) :: l, hl, t, v, h => by
  simp only [look] at h
  split at h
  ·rename_i hb
   have := Nat.eq_of_beq_eq_true hb
   subst this
   cases h
   exact hl _ (List.mem_cons_self ..)
  ·exact look_all (fun p hp => hl p (List.mem_cons_of_mem _ hp)) t v h
theorem all_nil {α : Type} {Q : Nat → α → Prop} : ∀ p ∈ ([] : List (Nat × α)), Q p.1 p.2 := fun p h => by cases h
theorem all_cons {α : Type} {Q : Nat → α → Prop} {u : Nat} {x : α} {l : List (Nat × α)} (h : Q u x) (hl : ∀ p ∈ l, Q p.1 p.2) : ∀ p ∈ (u, x) :: l, Q p.1 p.2 := fun p hp => by
 rcases List.mem_cons.1 hp with rfl | hp
 ·exact h
 ·exact hl p hp
theorem tiok2 : TIok Tryz.prog 2 ti2 := ⟨by kernel_rfl, by kernel_rfl, by kernel_rfl, by kernel_rfl, by kernel_rfl, by kernel_rfl, by kernel_rfl, by kernel_rfl, ⟨by kernel_rfl, by kernel_rfl, by kernel_rfl⟩, fun h => by cases h⟩
theorem tiok3 : TIok Tryz.prog 3 ti3 := ⟨by kernel_rfl, by kernel_rfl, by kernel_rfl, by kernel_rfl, by kernel_rfl, by kernel_rfl, by kernel_rfl, by kernel_rfl, ⟨by kernel_rfl, by kernel_rfl, by kernel_rfl⟩, fun h => by cases h⟩
theorem tiok4 : TIok Tryz.prog 4 ti4 := ⟨by kernel_rfl, by kernel_rfl, by kernel_rfl, by kernel_rfl, by kernel_rfl, by kernel_rfl, by kernel_rfl, by kernel_rfl, ⟨by kernel_rfl, by kernel_rfl, by kernel_rfl⟩, fun h => by cases h⟩
theorem tiok5 : TIok Tryz.prog 5 ti5 := ⟨by kernel_rfl, by kernel_rfl, by kernel_rfl, by kernel_rfl, by kernel_rfl, by kernel_rfl, by kernel_rfl, by kernel_rfl, ⟨by kernel_rfl, by kernel_rfl, by kernel_rfl⟩, fun h => by cases h⟩
theorem tiok9 : TIok Tryz.prog 9 ti9 := ⟨by kernel_rfl, by kernel_rfl, by kernel_rfl, by kernel_rfl, by kernel_rfl, by kernel_rfl, by kernel_rfl, by kernel_rfl, ⟨by kernel_rfl, by kernel_rfl, by kernel_rfl⟩, fun h => by cases h⟩
theorem tiok22 : TIok Tryz.prog 22 ti22 := ⟨by kernel_rfl, by kernel_rfl, by kernel_rfl, by kernel_rfl, by kernel_rfl, by kernel_rfl, by kernel_rfl, by kernel_rfl, ⟨by kernel_rfl, by kernel_rfl, by kernel_rfl⟩, fun h => by cases h⟩
theorem tiok23 : TIok Tryz.prog 23 ti23 := ⟨by kernel_rfl, by kernel_rfl, by kernel_rfl, by kernel_rfl, by kernel_rfl, by kernel_rfl, by kernel_rfl, by kernel_rfl, ⟨by kernel_rfl, by kernel_rfl, by kernel_rfl⟩, fun h => by cases h⟩
theorem tiok25 : TIok Tryz.prog 25 ti25 := ⟨by kernel_rfl, by kernel_rfl, by kernel_rfl, by kernel_rfl, by kernel_rfl, by kernel_rfl, by kernel_rfl, by kernel_rfl, ⟨by kernel_rfl, by kernel_rfl, by kernel_rfl⟩, fun h => by cases h⟩
theorem tiok29 : TIok Tryz.prog 29 ti29 := ⟨by kernel_rfl, by kernel_rfl, by kernel_rfl, by kernel_rfl, by kernel_rfl, by kernel_rfl, by kernel_rfl, by kernel_rfl, ⟨by kernel_rfl, by kernel_rfl, by kernel_rfl⟩, fun h => by cases h⟩
theorem tiok31 : TIok Tryz.prog 31 ti31 := ⟨by kernel_rfl, by kernel_rfl, by kernel_rfl, by kernel_rfl, by kernel_rfl, by kernel_rfl, by kernel_rfl, by kernel_rfl, ⟨by kernel_rfl, by kernel_rfl, by kernel_rfl⟩, fun h => by cases h⟩
theorem tiok33 : TIok Tryz.prog 33 ti33 := ⟨by kernel_rfl, by kernel_rfl, by kernel_rfl, by kernel_rfl, by kernel_rfl, by kernel_rfl, by kernel_rfl, by kernel_rfl, ⟨by kernel_rfl, by kernel_rfl, by kernel_rfl⟩, fun _ => eq_fits (by kernel_rfl) (by kernel_rfl)⟩
theorem tiok40 : TIok Tryz.prog 40 ti40 := ⟨by kernel_rfl, by kernel_rfl, by kernel_rfl, by kernel_rfl, by kernel_rfl, by kernel_rfl, by kernel_rfl, by kernel_rfl, ⟨by kernel_rfl, by kernel_rfl, by kernel_rfl⟩, fun h => by cases h⟩
theorem tiok41 : TIok Tryz.prog 41 ti41 := ⟨by kernel_rfl, by kernel_rfl, by kernel_rfl, by kernel_rfl, by kernel_rfl, by kernel_rfl, by kernel_rfl, by kernel_rfl, ⟨by kernel_rfl, by kernel_rfl, by kernel_rfl⟩, fun h => by cases h⟩
theorem tiok43 : TIok Tryz.prog 43 ti43 := ⟨by kernel_rfl, by kernel_rfl, by kernel_rfl, by kernel_rfl, by kernel_rfl, by kernel_rfl, by kernel_rfl, by kernel_rfl, ⟨by kernel_rfl, by kernel_rfl, by kernel_rfl⟩, fun h => by cases h⟩
theorem tiok57 : TIok Tryz.prog 57 ti57 := ⟨by kernel_rfl, by kernel_rfl, by kernel_rfl, by kernel_rfl, by kernel_rfl, by kernel_rfl, by kernel_rfl, by kernel_rfl, ⟨by kernel_rfl, by kernel_rfl, by kernel_rfl⟩, fun h => by cases h⟩
theorem tiok80 : TIok Tryz.prog 80 ti80 := ⟨by kernel_rfl, by kernel_rfl, by kernel_rfl, by kernel_rfl, by kernel_rfl, by kernel_rfl, by kernel_rfl, by kernel_rfl, ⟨by kernel_rfl, by kernel_rfl, by kernel_rfl⟩, fun h => by cases h⟩
theorem tiok87 : TIok Tryz.prog 87 ti87 := ⟨by kernel_rfl, by kernel_rfl, by kernel_rfl, by kernel_rfl, by kernel_rfl, by kernel_rfl, by kernel_rfl, by kernel_rfl, ⟨by kernel_rfl, by kernel_rfl, by kernel_rfl⟩, fun _ => eq_fits (by kernel_rfl) (by kernel_rfl)⟩
theorem tiok93 : TIok Tryz.prog 93 ti93 := ⟨by kernel_rfl, by kernel_rfl, by kernel_rfl, by kernel_rfl, by kernel_rfl, by kernel_rfl, by kernel_rfl, by kernel_rfl, ⟨by kernel_rfl, by kernel_rfl, by kernel_rfl⟩, fun h => by cases h⟩
theorem tiok99 : TIok Tryz.prog 99 ti99 := ⟨by kernel_rfl, by kernel_rfl, by kernel_rfl, by kernel_rfl, by kernel_rfl, by kernel_rfl, by kernel_rfl, by kernel_rfl, ⟨by kernel_rfl, by kernel_rfl, by kernel_rfl⟩, fun h => by cases h⟩
theorem tiok106 : TIok Tryz.prog 106 ti106 := ⟨by kernel_rfl, by kernel_rfl, by kernel_rfl, by kernel_rfl, by kernel_rfl, by kernel_rfl, by kernel_rfl, by kernel_rfl, ⟨by kernel_rfl, by kernel_rfl, by kernel_rfl⟩, fun h => by cases h⟩
theorem tiok107 : TIok Tryz.prog 107 ti107 := ⟨by kernel_rfl, by kernel_rfl, by kernel_rfl, by kernel_rfl, by kernel_rfl, by kernel_rfl, by kernel_rfl, by kernel_rfl, ⟨by kernel_rfl, by kernel_rfl, by kernel_rfl⟩, fun h => by cases h⟩
theorem tiok117 : TIok Tryz.prog 117 ti117 := ⟨by kernel_rfl, by kernel_rfl, by kernel_rfl, by kernel_rfl, by kernel_rfl, by kernel_rfl, by kernel_rfl, by kernel_rfl, trivial, fun h => by cases h⟩
theorem tiok119 : TIok Tryz.prog 119 ti119 := ⟨by kernel_rfl, by kernel_rfl, by kernel_rfl, by kernel_rfl, by kernel_rfl, by kernel_rfl, by kernel_rfl, by kernel_rfl, ⟨by kernel_rfl, by kernel_rfl, by kernel_rfl⟩, fun _ => eq_fits (by kernel_rfl) (by kernel_rfl)⟩
theorem tis_ok : CtxTI Tryz.prog CT := look_all (l := tis) (all_cons tiok2 (all_cons tiok3 (all_cons tiok4 (all_cons tiok5 (all_cons tiok9 (all_cons tiok22 (all_cons tiok23 (all_cons tiok25 (all_cons tiok29 (all_cons tiok31 (all_cons tiok33 (all_cons tiok40 (all_cons tiok41 (all_cons tiok43 (all_cons tiok57 (all_cons tiok80 (all_cons tiok87 (all_cons tiok93 (all_cons tiok99 (all_cons tiok106 (all_cons tiok107 (all_cons tiok117 (all_cons tiok119 all_nil)))))))))))))))))))))))
def FnOk (f : Nat) (fn : Func) : Prop := Tryz.prog.funcs[f]? = some fn ∧ fn.body.isSome = true ∧ (fn.name == "runtime.NumGoroutine") = false
def ParOk (i : Nat) (fn : Func) : Prop := ((look ptsL i).getD []).length ≤ fn.ntmps
theorem fnok41 : FnOk 41 Tryz.f41 := ⟨Tryz.func41, by kernel_rfl, by kernel_rfl⟩
theorem parok41 : ParOk 41 Tryz.f41 := Nat.le_of_ble_eq_true (by kernel_rfl)
theorem fnok45 : FnOk 45 Tryz.f45 := ⟨Tryz.func45, by kernel_rfl, by kernel_rfl⟩
theorem parok45 : ParOk 45 Tryz.f45 := Nat.le_of_ble_eq_true (by kernel_rfl)
theorem fnok46 : FnOk 46 Tryz.f46 := ⟨Tryz.func46, by kernel_rfl, by kernel_rfl⟩
theorem parok46 : ParOk 46 Tryz.f46 := Nat.le_of_ble_eq_true (by kernel_rfl)
theorem fnok49 : FnOk 49 Tryz.f49 := ⟨Tryz.func49, by kernel_rfl, by kernel_rfl⟩
theorem parok49 : ParOk 49 Tryz.f49 := Nat.le_of_ble_eq_true (by kernel_rfl)
theorem fnok68 : FnOk 68 Tryz.f68 := ⟨Tryz.func68, by kernel_rfl, by kernel_rfl⟩
theorem parok68 : ParOk 68 Tryz.f68 := Nat.le_of_ble_eq_true (by kernel_rfl)
theorem fnok71 : FnOk 71 Tryz.f71 := ⟨Tryz.func71, by kernel_rfl, by kernel_rfl⟩
theorem parok71 : ParOk 71 Tryz.f71 := Nat.le_of_ble_eq_true (by kernel_rfl)
theorem fnok89 : FnOk 89 Tryz.f89 := ⟨Tryz.func89, by kernel_rfl, by kernel_rfl⟩
theorem parok89 : ParOk 89 Tryz.f89 := Nat.le_of_ble_eq_true (by kernel_rfl)
theorem fnok3 : FnOk 3 Tryz.f3 := ⟨Tryz.func3, by kernel_rfl, by kernel_rfl⟩
theorem parok3 : ParOk 3 Tryz.f3 := Nat.le_of_ble_eq_true (by kernel_rfl)
theorem fnok4 : FnOk 4 Tryz.f4 := ⟨Tryz.func4, by kernel_rfl, by kernel_rfl⟩
theorem parok4 : ParOk 4 Tryz.f4 := Nat.le_of_ble_eq_true (by kernel_rfl)
theorem fnok5 : FnOk 5 Tryz.f5 := ⟨Tryz.func5, by kernel_rfl, by kernel_rfl⟩
theorem parok5 : ParOk 5 Tryz.f5 := Nat.le_of_ble_eq_true (by kernel_rfl)
theorem fnok6 : FnOk 6 Tryz.f6 := ⟨Tryz.func6, by kernel_rfl, by kernel_rfl⟩
theorem parok6 : ParOk 6 Tryz.f6 := Nat.le_of_ble_eq_true (by kernel_rfl)
theorem fnok7 : FnOk 7 Tryz.f7 := ⟨Tryz.func7, by kernel_rfl, by kernel_rfl⟩
theorem parok7 : ParOk 7 Tryz.f7 := Nat.le_of_ble_eq_true (by kernel_rfl)
theorem fnok8 : FnOk 8 Tryz.f8 := ⟨Tryz.func8, by kernel_rfl, by kernel_rfl⟩
theorem parok8 : ParOk 8 Tryz.f8 := Nat.le_of_ble_eq_true (by kernel_rfl)
theorem fnok9 : FnOk 9 Tryz.f9 := ⟨Tryz.func9, by kernel_rfl, by kernel_rfl⟩
theorem parok9 : ParOk 9 Tryz.f9 := Nat.le_of_ble_eq_true (by kernel_rfl)
theorem fnok10 : FnOk 10 Tryz.f10 := ⟨Tryz.func10, by kernel_rfl, by kernel_rfl⟩
theorem parok10 : ParOk 10 Tryz.f10 := Nat.le_of_ble_eq_true (by kernel_rfl)
theorem fnok11 : FnOk 11 Tryz.f11 := ⟨Tryz.func11, by kernel_rfl, by kernel_rfl⟩
theorem parok11 : ParOk 11 Tryz.f11 := Nat.le_of_ble_eq_true (by kernel_rfl)
theorem fnok12 : FnOk 12 Tryz.f12 := ⟨Tryz.func12, by kernel_rfl, by kernel_rfl⟩
theorem parok12 : ParOk 12 Tryz.f12 := Nat.le_of_ble_eq_true (by kernel_rfl)
theorem fnok13 : FnOk 13 Tryz.f13 := ⟨Tryz.func13, by kernel_rfl, by kernel_rfl⟩
theorem parok13 : ParOk 13 Tryz.f13 := Nat.le_of_ble_eq_true (by kernel_rfl)
theorem fnok14 : FnOk 14 Tryz.f14 := ⟨Tryz.func14, by kernel_rfl, by kernel_rfl⟩
theorem parok14 : ParOk 14 Tryz.f14 := Nat.le_of_ble_eq_true (by kernel_rfl)
theorem fnok15 : FnOk 15 Tryz.f15 := ⟨Tryz.func15, by kernel_rfl, by kernel_rfl⟩
theorem parok15 : ParOk 15 Tryz.f15 := Nat.le_of_ble_eq_true (by kernel_rfl)
theorem fnok16 : FnOk 16 Tryz.f16 := ⟨Tryz.func16, by kernel_rfl, by kernel_rfl⟩
theorem parok16 : ParOk 16 Tryz.f16 := Nat.le_of_ble_eq_true (by kernel_rfl)
theorem fnok17 : FnOk 17 Tryz.f17 := ⟨Tryz.func17, by kernel_rfl, by kernel_rfl⟩
theorem parok17 : ParOk 17 Tryz.f17 := Nat.le_of_ble_eq_true (by kernel_rfl)
theorem fnok18 : FnOk 18 Tryz.f18 := ⟨Tryz.func18, by kernel_rfl, by kernel_rfl⟩
theorem parok18 : ParOk 18 Tryz.f18 := Nat.le_of_ble_eq_true (by kernel_rfl)
theorem fnok19 : FnOk 19 Tryz.f19 := ⟨Tryz.func19, by kernel_rfl, by kernel_rfl⟩
theorem parok19 : ParOk 19 Tryz.f19 := Nat.le_of_ble_eq_true (by kernel_rfl)
theorem fnok20 : FnOk 20 Tryz.f20 := ⟨Tryz.func20, by kernel_rfl, by kernel_rfl⟩
theorem parok20 : ParOk 20 Tryz.f20 := Nat.le_of_ble_eq_true (by kernel_rfl)
theorem fnok21 : FnOk 21 Tryz.f21 := ⟨Tryz.func21, by kernel_rfl, by kernel_rfl⟩
theorem parok21 : ParOk 21 Tryz.f21 := Nat.le_of_ble_eq_true (by kernel_rfl)
theorem fnok22 : FnOk 22 Tryz.f22 := ⟨Tryz.func22, by kernel_rfl, by kernel_rfl⟩
theorem parok22 : ParOk 22 Tryz.f22 := Nat.le_of_ble_eq_true (by kernel_rfl)
theorem fnok23 : FnOk 23 Tryz.f23 := ⟨Tryz.func23, by kernel_rfl, by kernel_rfl⟩
theorem parok23 : ParOk 23 Tryz.f23 := Nat.le_of_ble_eq_true (by kernel_rfl)
theorem fnok24 : FnOk 24 Tryz.f24 := ⟨Tryz.func24, by kernel_rfl, by kernel_rfl⟩
theorem parok24 : ParOk 24 Tryz.f24 := Nat.le_of_ble_eq_true (by kernel_rfl)
theorem fnok25 : FnOk 25 Tryz.f25 := ⟨Tryz.func25, by kernel_rfl, by kernel_rfl⟩
theorem parok25 : ParOk 25 Tryz.f25 := Nat.le_of_ble_eq_true (by kernel_rfl)
theorem fnok26 : FnOk 26 Tryz.f26 := ⟨Tryz.func26, by kernel_rfl, by kernel_rfl⟩
theorem parok26 : ParOk 26 Tryz.f26 := Nat.le_of_ble_eq_true (by kernel_rfl)
theorem fnok27 : FnOk 27 Tryz.f27 := ⟨Tryz.func27, by kernel_rfl, by kernel_rfl⟩
theorem parok27 : ParOk 27 Tryz.f27 := Nat.le_of_ble_eq_true (by kernel_rfl)
theorem fnok28 : FnOk 28 Tryz.f28 := ⟨Tryz.func28, by kernel_rfl, by kernel_rfl⟩
theorem parok28 : ParOk 28 Tryz.f28 := Nat.le_of_ble_eq_true (by kernel_rfl)
theorem fnok29 : FnOk 29 Tryz.f29 := ⟨Tryz.func29, by kernel_rfl, by kernel_rfl⟩
theorem parok29 : ParOk 29 Tryz.f29 := Nat.le_of_ble_eq_true (by kernel_rfl)
theorem fnok30 : FnOk 30 Tryz.f30 := ⟨Tryz.func30, by kernel_rfl, by kernel_rfl⟩
theorem parok30 : ParOk 30 Tryz.f30 := Nat.le_of_ble_eq_true (by kernel_rfl)
theorem fnok31 : FnOk 31 Tryz.f31 := ⟨Tryz.func31, by kernel_rfl, by kernel_rfl⟩
theorem parok31 : ParOk 31 Tryz.f31 := Nat.le_of_ble_eq_true (by kernel_rfl)
theorem fnok32 : FnOk 32 Tryz.f32 := ⟨Tryz.func32, by kernel_rfl, by kernel_rfl⟩
theorem parok32 : ParOk 32 Tryz.f32 := Nat.le_of_ble_eq_true (by kernel_rfl)
theorem fnok33 : FnOk 33 Tryz.f33 := ⟨Tryz.func33, by kernel_rfl, by kernel_rfl⟩
theorem parok33 : ParOk 33 Tryz.f33 := Nat.le_of_ble_eq_true (by kernel_rfl)
theorem fnok34 : FnOk 34 Tryz.f34 := ⟨Tryz.func34, by kernel_rfl, by kernel_rfl⟩
theorem parok34 : ParOk 34 Tryz.f34 := Nat.le_of_ble_eq_true (by kernel_rfl)
theorem fnok35 : FnOk 35 Tryz.f35 := ⟨Tryz.func35, by kernel_rfl, by kernel_rfl⟩
theorem parok35 : ParOk 35 Tryz.f35 := Nat.le_of_ble_eq_true (by kernel_rfl)
theorem fnok36 : FnOk 36 Tryz.f36 := ⟨Tryz.func36, by kernel_rfl, by kernel_rfl⟩
theorem parok36 : ParOk 36 Tryz.f36 := Nat.le_of_ble_eq_true (by kernel_rfl)
theorem fnok37 : FnOk 37 Tryz.f37 := ⟨Tryz.func37, by kernel_rfl, by kernel_rfl⟩
theorem parok37 : ParOk 37 Tryz.f37 := Nat.le_of_ble_eq_true (by kernel_rfl)
theorem fnok38 : FnOk 38 Tryz.f38 := ⟨Tryz.func38, by kernel_rfl, by kernel_rfl⟩
theorem parok38 : ParOk 38 Tryz.f38 := Nat.le_of_ble_eq_true (by kernel_rfl)
theorem fnok39 : FnOk 39 Tryz.f39 := ⟨Tryz.func39, by kernel_rfl, by kernel_rfl⟩
theorem parok39 : ParOk 39 Tryz.f39 := Nat.le_of_ble_eq_true (by kernel_rfl)
theorem fnok40 : FnOk 40 Tryz.f40 := ⟨Tryz.func40, by kernel_rfl, by kernel_rfl⟩
theorem parok40 : ParOk 40 Tryz.f40 := Nat.le_of_ble_eq_true (by kernel_rfl)
theorem fnok42 : FnOk 42 Tryz.f42 := ⟨Tryz.func42, by kernel_rfl, by kernel_rfl⟩
theorem parok42 : ParOk 42 Tryz.f42 := Nat.le_of_ble_eq_true (by kernel_rfl)
theorem fnok43 : FnOk 43 Tryz.f43 := ⟨Tryz.func43, by kernel_rfl, by kernel_rfl⟩
theorem parok43 : ParOk 43 Tryz.f43 := Nat.le_of_ble_eq_true (by kernel_rfl)
theorem fnok44 : FnOk 44 Tryz.f44 := ⟨Tryz.func44, by kernel_rfl, by kernel_rfl⟩
theorem parok44 : ParOk 44 Tryz.f44 := Nat.le_of_ble_eq_true (by kernel_rfl)
theorem fnok47 : FnOk 47 Tryz.f47 := ⟨Tryz.func47, by kernel_rfl, by kernel_rfl⟩
theorem parok47 : ParOk 47 Tryz.f47 := Nat.le_of_ble_eq_true (by kernel_rfl)
theorem fnok48 : FnOk 48 Tryz.f48 := ⟨Tryz.func48, by kernel_rfl, by kernel_rfl⟩
theorem parok48 : ParOk 48 Tryz.f48 := Nat.le_of_ble_eq_true (by kernel_rfl)
theorem fnok50 : FnOk 50 Tryz.f50 := ⟨Tryz.func50, by kernel_rfl, by kernel_rfl⟩
theorem parok50 : ParOk 50 Tryz.f50 := Nat.le_of_ble_eq_true (by kernel_rfl)
theorem fnok51 : FnOk 51 Tryz.f51 := ⟨Tryz.func51, by kernel_rfl, by kernel_rfl⟩
theorem parok51 : ParOk 51 Tryz.f51 := Nat.le_of_ble_eq_true (by kernel_rfl)
theorem fnok52 : FnOk 52 Tryz.f52 := ⟨Tryz.func52, by kernel_rfl, by kernel_rfl⟩
theorem parok52 : ParOk 52 Tryz.f52 := Nat.le_of_ble_eq_true (by kernel_rfl)
theorem fnok53 : FnOk 53 Tryz.f53 := ⟨Tryz.func53, by kernel_rfl, by kernel_rfl⟩
theorem parok53 : ParOk 53 Tryz.f53 := Nat.le_of_ble_eq_true (by kernel_rfl)
theorem fnok54 : FnOk 54 Tryz.f54 := ⟨Tryz.func54, by kernel_rfl, by kernel_rfl⟩
theorem parok54 : ParOk 54 Tryz.f54 := Nat.le_of_ble_eq_true (by kernel_rfl)
theorem fnok55 : FnOk 55 Tryz.f55 := ⟨Tryz.func55, by kernel_rfl, by kernel_rfl⟩
theorem parok55 : ParOk 55 Tryz.f55 := Nat.le_of_ble_eq_true (by kernel_rfl)
theorem fnok56 : FnOk 56 Tryz.f56 := ⟨Tryz.func56, by kernel_rfl, by kernel_rfl⟩
theorem parok56 : ParOk 56 Tryz.f56 := Nat.le_of_ble_eq_true (by kernel_rfl)
theorem fnok57 : FnOk 57 Tryz.f57 := ⟨Tryz.func57, by kernel_rfl, by kernel_rfl⟩
theorem parok57 : ParOk 57 Tryz.f57 := Nat.le_of_ble_eq_true (by kernel_rfl)
theorem fnok58 : FnOk 58 Tryz.f58 := ⟨Tryz.func58, by kernel_rfl, by kernel_rfl⟩
theorem parok58 : ParOk 58 Tryz.f58 := Nat.le_of_ble_eq_true (by kernel_rfl)
theorem fnok59 : FnOk 59 Tryz.f59 := ⟨Tryz.func59, by kernel_rfl, by kernel_rfl⟩
theorem parok59 : ParOk 59 Tryz.f59 := Nat.le_of_ble_eq_true (by kernel_rfl)
theorem fnok60 : FnOk 60 Tryz.f60 := ⟨Tryz.func60, by kernel_rfl, by kernel_rfl⟩
theorem parok60 : ParOk 60 Tryz.f60 := Nat.le_of_ble_eq_true (by kernel_rfl)
theorem fnok61 : FnOk 61 Tryz.f61 := ⟨Tryz.func61, by kernel_rfl, by kernel_rfl⟩
theorem parok61 : ParOk 61 Tryz.f61 := Nat.le_of_ble_eq_true (by kernel_rfl)
theorem fnok62 : FnOk 62 Tryz.f62 := ⟨Tryz.func62, by kernel_rfl, by kernel_rfl⟩
theorem parok62 : ParOk 62 Tryz.f62 := Nat.le_of_ble_eq_true (by kernel_rfl)
theorem fnok63 : FnOk 63 Tryz.f63 := ⟨Tryz.func63, by kernel_rfl, by kernel_rfl⟩
theorem parok63 : ParOk 63 Tryz.f63 := Nat.le_of_ble_eq_true (by kernel_rfl)
theorem fnok64 : FnOk 64 Tryz.f64 := ⟨Tryz.func64, by kernel_rfl, by kernel_rfl⟩
theorem parok64 : ParOk 64 Tryz.f64 := Nat.le_of_ble_eq_true (by kernel_rfl)
theorem fnok65 : FnOk 65 Tryz.f65 := ⟨Tryz.func65, by kernel_rfl, by kernel_rfl⟩
theorem parok65 : ParOk 65 Tryz.f65 := Nat.le_of_ble_eq_true (by kernel_rfl)
theorem fnok66 : FnOk 66 Tryz.f66 := ⟨Tryz.func66, by kernel_rfl, by kernel_rfl⟩
theorem parok66 : ParOk 66 Tryz.f66 := Nat.le_of_ble_eq_true (by kernel_rfl)
theorem fnok67 : FnOk 67 Tryz.f67 := ⟨Tryz.func67, by kernel_rfl, by kernel_rfl⟩
theorem parok67 : ParOk 67 Tryz.f67 := Nat.le_of_ble_eq_true (by kernel_rfl)
theorem fnok69 : FnOk 69 Tryz.f69 := ⟨Tryz.func69, by kernel_rfl, by kernel_rfl⟩
theorem parok69 : ParOk 69 Tryz.f69 := Nat.le_of_ble_eq_true (by kernel_rfl)
theorem fnok70 : FnOk 70 Tryz.f70 := ⟨Tryz.func70, by kernel_rfl, by kernel_rfl⟩
theorem parok70 : ParOk 70 Tryz.f70 := Nat.le_of_ble_eq_true (by kernel_rfl)
theorem fnok72 : FnOk 72 Tryz.f72 := ⟨Tryz.func72, by kernel_rfl, by kernel_rfl⟩
theorem parok72 : ParOk 72 Tryz.f72 := Nat.le_of_ble_eq_true (by kernel_rfl)
theorem fnok73 : FnOk 73 Tryz.f73 := ⟨Tryz.func73, by kernel_rfl, by kernel_rfl⟩
theorem parok73 : ParOk 73 Tryz.f73 := Nat.le_of_ble_eq_true (by kernel_rfl)
theorem fnok74 : FnOk 74 Tryz.f74 := ⟨Tryz.func74, by kernel_rfl, by kernel_rfl⟩
theorem parok74 : ParOk 74 Tryz.f74 := Nat.le_of_ble_eq_true (by kernel_rfl)
theorem fnok75 : FnOk 75 Tryz.f75 := ⟨Tryz.func75, by kernel_rfl, by kernel_rfl⟩
theorem parok75 : ParOk 75 Tryz.f75 := Nat.le_of_ble_eq_true (by kernel_rfl)
theorem fnok76 : FnOk 76 Tryz.f76 := ⟨Tryz.func76, by kernel_rfl, by kernel_rfl⟩
theorem parok76 : ParOk 76 Tryz.f76 := Nat.le_of_ble_eq_true (by kernel_rfl)
theorem fnok77 : FnOk 77 Tryz.f77 := ⟨Tryz.func77, by kernel_rfl, by kernel_rfl⟩
theorem parok77 : ParOk 77 Tryz.f77 := Nat.le_of_ble_eq_true (by kernel_rfl)
theorem fnok78 : FnOk 78 Tryz.f78 := ⟨Tryz.func78, by kernel_rfl, by kernel_rfl⟩
theorem parok78 : ParOk 78 Tryz.f78 := Nat.le_of_ble_eq_true (by kernel_rfl)
theorem fnok79 : FnOk 79 Tryz.f79 := ⟨Tryz.func79, by kernel_rfl, by kernel_rfl⟩
theorem parok79 : ParOk 79 Tryz.f79 := Nat.le_of_ble_eq_true (by kernel_rfl)
theorem fnok80 : FnOk 80 Tryz.f80 := ⟨Tryz.func80, by kernel_rfl, by kernel_rfl⟩
theorem parok80 : ParOk 80 Tryz.f80 := Nat.le_of_ble_eq_true (by kernel_rfl)
theorem fnok81 : FnOk 81 Tryz.f81 := ⟨Tryz.func81, by kernel_rfl, by kernel_rfl⟩
theorem parok81 : ParOk 81 Tryz.f81 := Nat.le_of_ble_eq_true (by kernel_rfl)
theorem fnok82 : FnOk 82 Tryz.f82 := ⟨Tryz.func82, by kernel_rfl, by kernel_rfl⟩
theorem parok82 : ParOk 82 Tryz.f82 := Nat.le_of_ble_eq_true (by kernel_rfl)
theorem fnok83 : FnOk 83 Tryz.f83 := ⟨Tryz.func83, by kernel_rfl, by kernel_rfl⟩
theorem parok83 : ParOk 83 Tryz.f83 := Nat.le_of_ble_eq_true (by kernel_rfl)
theorem fnok84 : FnOk 84 Tryz.f84 := ⟨Tryz.func84, by kernel_rfl, by kernel_rfl⟩
theorem parok84 : ParOk 84 Tryz.f84 := Nat.le_of_ble_eq_true (by kernel_rfl)
theorem fnok85 : FnOk 85 Tryz.f85 := ⟨Tryz.func85, by kernel_rfl, by kernel_rfl⟩
theorem parok85 : ParOk 85 Tryz.f85 := Nat.le_of_ble_eq_true (by kernel_rfl)
theorem fnok86 : FnOk 86 Tryz.f86 := ⟨Tryz.func86, by kernel_rfl, by kernel_rfl⟩
theorem parok86 : ParOk 86 Tryz.f86 := Nat.le_of_ble_eq_true (by kernel_rfl)
theorem fnok87 : FnOk 87 Tryz.f87 := ⟨Tryz.func87, by kernel_rfl, by kernel_rfl⟩
theorem parok87 : ParOk 87 Tryz.f87 := Nat.le_of_ble_eq_true (by kernel_rfl)
theorem fnok88 : FnOk 88 Tryz.f88 := ⟨Tryz.func88, by kernel_rfl, by kernel_rfl⟩
theorem parok88 : ParOk 88 Tryz.f88 := Nat.le_of_ble_eq_true (by kernel_rfl)
theorem fnok90 : FnOk 90 Tryz.f90 := ⟨Tryz.func90, by kernel_rfl, by kernel_rfl⟩
theorem parok90 : ParOk 90 Tryz.f90 := Nat.le_of_ble_eq_true (by kernel_rfl)
theorem fnok91 : FnOk 91 Tryz.f91 := ⟨Tryz.func91, by kernel_rfl, by kernel_rfl⟩
theorem parok91 : ParOk 91 Tryz.f91 := Nat.le_of_ble_eq_true (by kernel_rfl)
theorem fnok92 : FnOk 92 Tryz.f92 := ⟨Tryz.func92, by kernel_rfl, by kernel_rfl⟩
theorem parok92 : ParOk 92 Tryz.f92 := Nat.le_of_ble_eq_true (by kernel_rfl)
theorem fnok94 : FnOk 94 Tryz.f94 := ⟨Tryz.func94, by kernel_rfl, by kernel_rfl⟩
theorem parok94 : ParOk 94 Tryz.f94 := Nat.le_of_ble_eq_true (by kernel_rfl)
theorem fnok96 : FnOk 96 Tryz.f96 := ⟨Tryz.func96, by kernel_rfl, by kernel_rfl⟩
theorem parok96 : ParOk 96 Tryz.f96 := Nat.le_of_ble_eq_true (by kernel_rfl)
theorem fnok97 : FnOk 97 Tryz.f97 := ⟨Tryz.func97, by kernel_rfl, by kernel_rfl⟩
theorem parok97 : ParOk 97 Tryz.f97 := Nat.le_of_ble_eq_true (by kernel_rfl)
theorem fnok98 : FnOk 98 Tryz.f98 := ⟨Tryz.func98, by kernel_rfl, by kernel_rfl⟩
theorem parok98 : ParOk 98 Tryz.f98 := Nat.le_of_ble_eq_true (by kernel_rfl)
theorem fnok99 : FnOk 99 Tryz.f99 := ⟨Tryz.func99, by kernel_rfl, by kernel_rfl⟩
theorem parok99 : ParOk 99 Tryz.f99 := Nat.le_of_ble_eq_true (by kernel_rfl)
theorem fnok100 : FnOk 100 Tryz.f100 := ⟨Tryz.func100, by kernel_rfl, by kernel_rfl⟩
theorem parok100 : ParOk 100 Tryz.f100 := Nat.le_of_ble_eq_true (by kernel_rfl)
theorem fnok101 : FnOk 101 Tryz.f101 := ⟨Tryz.func101, by kernel_rfl, by kernel_rfl⟩
theorem parok101 : ParOk 101 Tryz.f101 := Nat.le_of_ble_eq_true (by kernel_rfl)
theorem fnok102 : FnOk 102 Tryz.f102 := ⟨Tryz.func102, by kernel_rfl, by kernel_rfl⟩
theorem parok102 : ParOk 102 Tryz.f102 := Nat.le_of_ble_eq_true (by kernel_rfl)
theorem fnok103 : FnOk 103 Tryz.f103 := ⟨Tryz.func103, by kernel_rfl, by kernel_rfl⟩
theorem parok103 : ParOk 103 Tryz.f103 := Nat.le_of_ble_eq_true (by kernel_rfl)
theorem fnok104 : FnOk 104 Tryz.f104 := ⟨Tryz.func104, by kernel_rfl, by kernel_rfl⟩
theorem parok104 : ParOk 104 Tryz.f104 := Nat.le_of_ble_eq_true (by kernel_rfl)
theorem fnok105 : FnOk 105 Tryz.f105 := ⟨Tryz.func105, by kernel_rfl, by kernel_rfl⟩
theorem parok105 : ParOk 105 Tryz.f105 := Nat.le_of_ble_eq_true (by kernel_rfl)
theorem fnok106 : FnOk 106 Tryz.f106 := ⟨Tryz.func106, by kernel_rfl, by kernel_rfl⟩
theorem parok106 : ParOk 106 Tryz.f106 := Nat.le_of_ble_eq_true (by kernel_rfl)
theorem fnok107 : FnOk 107 Tryz.f107 := ⟨Tryz.func107, by kernel_rfl, by kernel_rfl⟩
theorem parok107 : ParOk 107 Tryz.f107 := Nat.le_of_ble_eq_true (by kernel_rfl)
theorem fnok108 : FnOk 108 Tryz.f108 := ⟨Tryz.func108, by kernel_rfl, by kernel_rfl⟩
theorem parok108 : ParOk 108 Tryz.f108 := Nat.le_of_ble_eq_true (by kernel_rfl)
theorem fnok109 : FnOk 109 Tryz.f109 := ⟨Tryz.func109, by kernel_rfl, by kernel_rfl⟩
theorem parok109 : ParOk 109 Tryz.f109 := Nat.le_of_ble_eq_true (by kernel_rfl)
theorem fnok110 : FnOk 110 Tryz.f110 := ⟨Tryz.func110, by kernel_rfl, by kernel_rfl⟩
theorem parok110 : ParOk 110 Tryz.f110 := Nat.le_of_ble_eq_true (by kernel_rfl)
theorem fnok111 : FnOk 111 Tryz.f111 := ⟨Tryz.func111, by kernel_rfl, by kernel_rfl⟩
theorem parok111 : ParOk 111 Tryz.f111 := Nat.le_of_ble_eq_true (by kernel_rfl)
theorem fnok112 : FnOk 112 Tryz.f112 := ⟨Tryz.func112, by kernel_rfl, by kernel_rfl⟩
theorem parok112 : ParOk 112 Tryz.f112 := Nat.le_of_ble_eq_true (by kernel_rfl)
theorem fnok113 : FnOk 113 Tryz.f113 := ⟨Tryz.func113, by kernel_rfl, by kernel_rfl⟩
theorem parok113 : ParOk 113 Tryz.f113 := Nat.le_of_ble_eq_true (by kernel_rfl)
theorem fnok114 : FnOk 114 Tryz.f114 := ⟨Tryz.func114, by kernel_rfl, by kernel_rfl⟩
theorem parok114 : ParOk 114 Tryz.f114 := Nat.le_of_ble_eq_true (by kernel_rfl)
theorem fnok115 : FnOk 115 Tryz.f115 := ⟨Tryz.func115, by kernel_rfl, by kernel_rfl⟩
theorem parok115 : ParOk 115 Tryz.f115 := Nat.le_of_ble_eq_true (by kernel_rfl)
theorem fnok116 : FnOk 116 Tryz.f116 := ⟨Tryz.func116, by kernel_rfl, by kernel_rfl⟩
theorem parok116 : ParOk 116 Tryz.f116 := Nat.le_of_ble_eq_true (by kernel_rfl)
theorem fnok118 : FnOk 118 Tryz.f118 := ⟨Tryz.func118, by kernel_rfl, by kernel_rfl⟩
theorem parok118 : ParOk 118 Tryz.f118 := Nat.le_of_ble_eq_true (by kernel_rfl)
theorem fnok121 : FnOk 121 Tryz.f121 := ⟨Tryz.func121, by kernel_rfl, by kernel_rfl⟩
theorem parok121 : ParOk 121 Tryz.f121 := Nat.le_of_ble_eq_true (by kernel_rfl)
theorem fnok122 : FnOk 122 Tryz.f122 := ⟨Tryz.func122, by kernel_rfl, by kernel_rfl⟩
theorem parok122 : ParOk 122 Tryz.f122 := Nat.le_of_ble_eq_true (by kernel_rfl)
theorem fnok123 : FnOk 123 Tryz.f123 := ⟨Tryz.func123, by kernel_rfl, by kernel_rfl⟩
theorem parok123 : ParOk 123 Tryz.f123 := Nat.le_of_ble_eq_true (by kernel_rfl)
theorem fnok127 : FnOk 127 Tryz.f127 := ⟨Tryz.func127, by kernel_rfl, by kernel_rfl⟩
theorem parok127 : ParOk 127 Tryz.f127 := Nat.le_of_ble_eq_true (by kernel_rfl)
theorem fnok128 : FnOk 128 Tryz.f128 := ⟨Tryz.func128, by kernel_rfl, by kernel_rfl⟩
theorem parok128 : ParOk 128 Tryz.f128 := Nat.le_of_ble_eq_true (by kernel_rfl)
theorem fnok129 : FnOk 129 Tryz.f129 := ⟨Tryz.func129, by kernel_rfl, by kernel_rfl⟩
theorem parok129 : ParOk 129 Tryz.f129 := Nat.le_of_ble_eq_true (by kernel_rfl)
theorem fnok130 : FnOk 130 Tryz.f130 := ⟨Tryz.func130, by kernel_rfl, by kernel_rfl⟩
theorem parok130 : ParOk 130 Tryz.f130 := Nat.le_of_ble_eq_true (by kernel_rfl)
theorem fnok133 : FnOk 133 Tryz.f133 := ⟨Tryz.func133, by kernel_rfl, by kernel_rfl⟩
theorem parok133 : ParOk 133 Tryz.f133 := Nat.le_of_ble_eq_true (by kernel_rfl)
theorem fnok144 : FnOk 144 Tryz.f144 := ⟨Tryz.func144, by kernel_rfl, by kernel_rfl⟩
theorem parok144 : ParOk 144 Tryz.f144 := Nat.le_of_ble_eq_true (by kernel_rfl)
theorem fns_ok : ∀ f fn, look fns f = some fn → FnOk f fn := look_all (Q := FnOk) (l := fns) (all_cons fnok3 (all_cons fnok4 (all_cons fnok5 (all_cons fnok6 (all_cons fnok7 (all_cons fnok8 (all_cons fnok9 (all_cons fnok10 (all_cons fnok11 (all_cons fnok12 (all_cons fnok13 (all_cons fnok14 (all_cons fnok15 (all_cons fnok16 (all_cons fnok17 (all_cons fnok18 (all_cons fnok19 (all_cons fnok20 (all_cons fnok21 (all_cons fnok22 (all_cons fnok23 (all_cons fnok24 (all_cons fnok25 (all_cons fnok26 (all_cons fnok27 (all_cons fnok28 (all_cons fnok29 (all_cons fnok30 (all_cons fnok31 (all_cons fnok32 (all_cons fnok33 (all_cons fnok34 (all_cons fnok35 (all_cons fnok36 (all_cons fnok37 (all_cons fnok38 (all_cons fnok39 (all_cons fnok40 (all_cons fnok42 (all_cons fnok43 (all_cons fnok44 (all_cons fnok47 (all_cons fnok48 (all_cons fnok50 (all_cons fnok51 (all_cons fnok52 (all_cons fnok53 (all_cons fnok54 (all_cons fnok55 (all_cons fnok56 (all_cons fnok57 (all_cons fnok58 (all_cons fnok59 (all_cons fnok60 (all_cons fnok61 (all_cons fnok62 (all_cons fnok63 (all_cons fnok64 (all_cons fnok65 (all_cons fnok66 (all_cons fnok67 (all_cons fnok69 (all_cons fnok70 (all_cons fnok72 (all_cons fnok73 (all_cons fnok74 (all_cons fnok75 (all_cons fnok76 (all_cons fnok77 (all_cons fnok78 (all_cons fnok79 (all_cons fnok80 (all_cons fnok81 (all_cons fnok82 (all_cons fnok83 (all_cons fnok84 (all_cons fnok85 (all_cons fnok86 (all_cons fnok87 (all_cons fnok88 (all_cons fnok90 (all_cons fnok91 (all_cons fnok92 (all_cons fnok94 (all_cons fnok96 (all_cons fnok97 (all_cons fnok98 (all_cons fnok99 (all_cons fnok100 (all_cons fnok101 (all_cons fnok102 (all_cons fnok103 (all_cons fnok104 (all_cons fnok105 (all_cons fnok106 (all_cons fnok107 (all_cons fnok108 (all_cons fnok109 (all_cons fnok110 (all_cons fnok111 (all_cons fnok112 (all_cons fnok113 (all_cons fnok114 (all_cons fnok115 (all_cons fnok116 (all_cons fnok118 (all_cons fnok121 (all_cons fnok122 (all_cons fnok123 (all_cons fnok127 (all_cons fnok128 (all_cons fnok129 (all_cons fnok130 (all_cons fnok133 (all_cons fnok144 (all_cons fnok41 (all_cons fnok45 (all_cons fnok46 (all_cons fnok49 (all_cons fnok68 (all_cons fnok71 (all_cons fnok89 all_nil))))))))))))))))))))))))))))))))))))))))))))))))))))))))))))))))))))))))))))))))))))))))))))))))))))))))))))))))))))))))))
theorem ctx_ok : CtxOk Tryz.prog CT := ⟨tis_ok, fns_ok, by kernel_rfl, inv_keeps⟩
theorem pars_ok : ∀ i fn, look fns i = some fn → ParOk i fn := look_all (Q := ParOk) (l := fns) (all_cons parok3 (all_cons parok4 (all_cons parok5 (all_cons parok6 (all_cons parok7 (all_cons parok8 (all_cons parok9 (all_cons parok10 (all_cons parok11 (all_cons parok12 (all_cons parok13 (all_cons parok14 (all_cons parok15 (all_cons parok16 (all_cons parok17 (all_cons parok18 (all_cons parok19 (all_cons parok20 (all_cons parok21 (all_cons parok22 (all_cons parok23 (all_cons parok24 (all_cons parok25 (all_cons parok26 (all_cons parok27 (all_cons parok28 (all_cons parok29 (all_cons parok30 (all_cons parok31 (all_cons parok32 (all_cons parok33 (all_cons parok34 (all_cons parok35 (all_cons parok36 (all_cons parok37 (all_cons parok38 (all_cons parok39 (all_cons parok40 (all_cons parok42 (all_cons parok43 (all_cons parok44 (all_cons parok47 (all_cons parok48 (all_cons parok50 (all_cons parok51 (all_cons parok52 (all_cons parok53 (all_cons parok54 (all_cons parok55 (all_cons parok56 (all_cons parok57 (all_cons parok58 (all_cons parok59 (all_cons parok60 (all_cons parok61 (all_cons parok62 (all_cons parok63 (all_cons parok64 (all_cons parok65 (all_cons parok66 (all_cons parok67 (all_cons parok69 (all_cons parok70 (all_cons parok72 (all_cons parok73 (all_cons parok74 (all_cons parok75 (all_cons parok76 (all_cons parok77 (all_cons parok78 (all_cons parok79 (all_cons parok80 (all_cons parok81 (all_cons parok82 (all_cons parok83 (all_cons parok84 (all_cons parok85 (all_cons parok86 (all_cons parok87 (all_cons parok88 (all_cons parok90 (all_cons parok91 (all_cons parok92 (all_cons parok94 (all_cons parok96 (all_cons parok97 (all_cons parok98 (all_cons parok99 (all_cons parok100 (all_cons parok101 (all_cons parok102 (all_cons parok103 (all_cons parok104 (all_cons parok105 (all_cons parok106 (all_cons parok107 (all_cons parok108 (all_cons parok109 (all_cons parok110 (all_cons parok111 (all_cons parok112 (all_cons parok113 (all_cons parok114 (all_cons parok115 (all_cons parok116 (all_cons parok118 (all_cons parok121 (all_cons parok122 (all_cons parok123 (all_cons parok127 (all_cons parok128 (all_cons parok129 (all_cons parok130 (all_cons parok133 (all_cons parok144 (all_cons parok41 (all_cons parok45 (all_cons parok46 (all_cons parok49 (all_cons parok68 (all_cons parok71 (all_cons parok89 all_nil))))))))))))))))))))))))))))))))))))))))))))))))))))))))))))))))))))))))))))))))))))))))))))))))))))))))))))))))))))))))))
theorem sound (hE : ExtOk Tryz.prog CT) : ∀ k, SpecOk Tryz.prog (sem CT k) ∧ StageOk Tryz.prog (sem CT k) := sem_sound ctx_ok hE pars_ok
theorem ext_ok : ExtOk Tryz.prog CT := ext_of (l := extL) rfl (allE_cons (ext_at (Q.rgcd_ok inv_max)) (allE_cons (ext_at (Q.rbits_ok inv_max)) (allE_cons (ext_at (Q.rof_ok inv_max)) (allE_cons (ext_at (Q.rtrim_ok inv_max)) (allE_cons (ext_at (Q.rdiv_ok inv_max)) (allE_cons (ext_at (Q.rmul_ok inv_max)) (allE_cons (ext_at (Q.rpow_ok inv_max)) (allE_cons (ext_at (Q.mul_ok inv_max)) (allE_cons (ext_at (Q.gcd_ok inv_max)) (allE_cons (ext_at (Q.trim_ok inv_max)) (allE_cons (ext_at (Q.pow_ok inv_max)) (allE_cons (ext_at (Q.of_ok inv_max)) (allE_cons (ext_at (Q.div_ok inv_max)) allE_nil)))))))))))))
theorem spec_ok (k : Nat) : SpecOk Tryz.prog (sem CT k) := (sound ext_ok k).1
end Go.Proofs.YtgnkkanhjghhfaaGreatDoor.K
