/- Part 8 of the proof: the machine, the tables and the pure laws that the last text joins. -/
import Derived.Test.YtgnkkanhjghhfaaGreatDoorZ4
import Derived.Test.YtgnkkanhjghhfaaGreatDoorZ7
import Derived.Test.YtgnkkanhjghhfaaGreatDoorProg
/- The tables are the program's own. -/
set_option linter.unusedVariables false
set_option maxRecDepth 100000
namespace Go.Proofs.YtgnkkanhjghhfaaGreatDoor.K
open Go
theorem look_all {α : Type} {Q : Nat → α → Prop} : ∀ {l : List (Nat × α)}, (∀ p ∈ l, Q p.1 p.2) → ∀ t v, look l t = some v → Q t v
  | [], _, t, v, h => by cases h
  | (u, x) :: l, hl, t, v, h => by
    simp only [look] at h
    split at h
    · rename_i hb
      have := Nat.eq_of_beq_eq_true hb
      subst this
      cases h
      exact hl _ (List.mem_cons_self ..)
    · exact look_all (fun p hp => hl p (List.mem_cons_of_mem _ hp)) t v h
theorem all_nil {α : Type} {Q : Nat → α → Prop} : ∀ p ∈ ([] : List (Nat × α)), Q p.1 p.2 := fun p h => by cases h
theorem all_cons {α : Type} {Q : Nat → α → Prop} {u : Nat} {x : α} {l : List (Nat × α)} (h : Q u x) (hl : ∀ p ∈ l, Q p.1 p.2) : ∀ p ∈ (u, x) :: l, Q p.1 p.2 := fun p hp => by
  rcases List.mem_cons.1 hp with rfl | hp
  · exact h
  · exact hl p hp
theorem tiok2 : TIok Tryz.prog 2 ti2 := ⟨by kernel_rfl, by kernel_rfl, by kernel_rfl, by kernel_rfl, by kernel_rfl, by kernel_rfl, by kernel_rfl, by kernel_rfl, ⟨by kernel_rfl, by kernel_rfl, by kernel_rfl⟩, fun h => by cases h⟩
theorem tiok3 : TIok Tryz.prog 3 ti3 := ⟨by kernel_rfl, by kernel_rfl, by kernel_rfl, by kernel_rfl, by kernel_rfl, by kernel_rfl, by kernel_rfl, by kernel_rfl, ⟨by kernel_rfl, by kernel_rfl, by kernel_rfl⟩, fun h => by cases h⟩
theorem tiok4 : TIok Tryz.prog 4 ti4 := ⟨by kernel_rfl, by kernel_rfl, by kernel_rfl, by kernel_rfl, by kernel_rfl, by kernel_rfl, by kernel_rfl, by kernel_rfl, ⟨by kernel_rfl, by kernel_rfl, by kernel_rfl⟩, fun h => by cases h⟩
theorem tiok5 : TIok Tryz.prog 5 ti5 := ⟨by kernel_rfl, by kernel_rfl, by kernel_rfl, by kernel_rfl, by kernel_rfl, by kernel_rfl, by kernel_rfl, by kernel_rfl, ⟨by kernel_rfl, by kernel_rfl, by kernel_rfl⟩, fun h => by cases h⟩
theorem tiok9 : TIok Tryz.prog 9 ti9 := ⟨by kernel_rfl, by kernel_rfl, by kernel_rfl, by kernel_rfl, by kernel_rfl, by kernel_rfl, by kernel_rfl, by kernel_rfl, ⟨by kernel_rfl, by kernel_rfl, by kernel_rfl⟩, fun h => by cases h⟩
theorem tiok22 : TIok Tryz.prog 22 ti22 := ⟨by kernel_rfl, by kernel_rfl, by kernel_rfl, by kernel_rfl, by kernel_rfl, by kernel_rfl, by kernel_rfl, by kernel_rfl, ⟨by kernel_rfl, by kernel_rfl, by kernel_rfl⟩, fun h => by cases h⟩
theorem tiok23 : TIok Tryz.prog 23 ti23 := ⟨by kernel_rfl, by kernel_rfl, by kernel_rfl, by kernel_rfl, by kernel_rfl, by kernel_rfl, by kernel_rfl, by kernel_rfl, ⟨by kernel_rfl, by kernel_rfl, by kernel_rfl⟩, fun h => by cases h⟩
theorem tiok25 : TIok Tryz.prog 25 ti25 := ⟨by kernel_rfl, by kernel_rfl, by kernel_rfl, by kernel_rfl, by kernel_rfl, by kernel_rfl, by kernel_rfl, by kernel_rfl, ⟨by kernel_rfl, by kernel_rfl, by kernel_rfl⟩, fun h => by cases h⟩
theorem tiok29 : TIok Tryz.prog 29 ti29 := ⟨by kernel_rfl, by kernel_rfl, by kernel_rfl, by kernel_rfl, by kernel_rfl, by kernel_rfl, by kernel_rfl, by kernel_rfl, ⟨by kernel_rfl, by kernel_rfl, by kernel_rfl⟩, fun h => by cases h⟩
theorem tiok31 : TIok Tryz.prog 31 ti31 := ⟨by kernel_rfl, by kernel_rfl, by kernel_rfl, by kernel_rfl, by kernel_rfl, by kernel_rfl, by kernel_rfl, by kernel_rfl, ⟨by kernel_rfl, by kernel_rfl, by kernel_rfl⟩, fun h => by cases h⟩
theorem tiok33 : TIok Tryz.prog 33 ti33 := ⟨by kernel_rfl, by kernel_rfl, by kernel_rfl, by kernel_rfl, by kernel_rfl, by kernel_rfl, by kernel_rfl, by kernel_rfl, ⟨by kernel_rfl, by kernel_rfl, by kernel_rfl⟩, fun _ => eq_fits (by kernel_rfl) (by kernel_rfl)⟩
theorem tiok41 : TIok Tryz.prog 41 ti41 := ⟨by kernel_rfl, by kernel_rfl, by kernel_rfl, by kernel_rfl, by kernel_rfl, by kernel_rfl, by kernel_rfl, by kernel_rfl, ⟨by kernel_rfl, by kernel_rfl, by kernel_rfl⟩, fun h => by cases h⟩
theorem tiok57 : TIok Tryz.prog 57 ti57 := ⟨by kernel_rfl, by kernel_rfl, by kernel_rfl, by kernel_rfl, by kernel_rfl, by kernel_rfl, by kernel_rfl, by kernel_rfl, ⟨by kernel_rfl, by kernel_rfl, by kernel_rfl⟩, fun h => by cases h⟩
theorem tiok80 : TIok Tryz.prog 80 ti80 := ⟨by kernel_rfl, by kernel_rfl, by kernel_rfl, by kernel_rfl, by kernel_rfl, by kernel_rfl, by kernel_rfl, by kernel_rfl, ⟨by kernel_rfl, by kernel_rfl, by kernel_rfl⟩, fun h => by cases h⟩
theorem tiok87 : TIok Tryz.prog 87 ti87 := ⟨by kernel_rfl, by kernel_rfl, by kernel_rfl, by kernel_rfl, by kernel_rfl, by kernel_rfl, by kernel_rfl, by kernel_rfl, ⟨by kernel_rfl, by kernel_rfl, by kernel_rfl⟩, fun _ => eq_fits (by kernel_rfl) (by kernel_rfl)⟩
theorem tiok93 : TIok Tryz.prog 93 ti93 := ⟨by kernel_rfl, by kernel_rfl, by kernel_rfl, by kernel_rfl, by kernel_rfl, by kernel_rfl, by kernel_rfl, by kernel_rfl, ⟨by kernel_rfl, by kernel_rfl, by kernel_rfl⟩, fun h => by cases h⟩
theorem tiok99 : TIok Tryz.prog 99 ti99 := ⟨by kernel_rfl, by kernel_rfl, by kernel_rfl, by kernel_rfl, by kernel_rfl, by kernel_rfl, by kernel_rfl, by kernel_rfl, ⟨by kernel_rfl, by kernel_rfl, by kernel_rfl⟩, fun h => by cases h⟩
theorem tiok106 : TIok Tryz.prog 106 ti106 := ⟨by kernel_rfl, by kernel_rfl, by kernel_rfl, by kernel_rfl, by kernel_rfl, by kernel_rfl, by kernel_rfl, by kernel_rfl, ⟨by kernel_rfl, by kernel_rfl, by kernel_rfl⟩, fun h => by cases h⟩
theorem tiok107 : TIok Tryz.prog 107 ti107 := ⟨by kernel_rfl, by kernel_rfl, by kernel_rfl, by kernel_rfl, by kernel_rfl, by kernel_rfl, by kernel_rfl, by kernel_rfl, ⟨by kernel_rfl, by kernel_rfl, by kernel_rfl⟩, fun h => by cases h⟩
theorem tiok117 : TIok Tryz.prog 117 ti117 := ⟨by kernel_rfl, by kernel_rfl, by kernel_rfl, by kernel_rfl, by kernel_rfl, by kernel_rfl, by kernel_rfl, by kernel_rfl, trivial, fun h => by cases h⟩
theorem tiok119 : TIok Tryz.prog 119 ti119 := ⟨by kernel_rfl, by kernel_rfl, by kernel_rfl, by kernel_rfl, by kernel_rfl, by kernel_rfl, by kernel_rfl, by kernel_rfl, ⟨by kernel_rfl, by kernel_rfl, by kernel_rfl⟩, fun _ => eq_fits (by kernel_rfl) (by kernel_rfl)⟩
theorem tis_ok : CtxTI Tryz.prog CT := look_all (l := tis) (all_cons tiok2 (all_cons tiok3 (all_cons tiok4 (all_cons tiok5 (all_cons tiok9 (all_cons tiok22 (all_cons tiok23 (all_cons tiok25 (all_cons tiok29 (all_cons tiok31 (all_cons tiok33 (all_cons tiok41 (all_cons tiok57 (all_cons tiok80 (all_cons tiok87 (all_cons tiok93 (all_cons tiok99 (all_cons tiok106 (all_cons tiok107 (all_cons tiok117 (all_cons tiok119 all_nil)))))))))))))))))))))
def FnOk (f : Nat) (fn : Func) : Prop := Tryz.prog.funcs[f]? = some fn ∧ fn.body.isSome = true ∧ (fn.name == "runtime.NumGoroutine") = false
def ParOk (i : Nat) (fn : Func) : Prop := ((look ptsL i).getD []).length ≤ fn.ntmps
theorem fnok41 : FnOk 41 Tryz.f41 := ⟨Tryz.func41, by kernel_rfl, by kernel_rfl⟩
theorem parok41 : ParOk 41 Tryz.f41 := Nat.le_of_ble_eq_true (by kernel_rfl)
theorem fnok45 : FnOk 45 Tryz.f45 := ⟨Tryz.func45, by kernel_rfl, by kernel_rfl⟩
theorem parok45 : ParOk 45 Tryz.f45 := Nat.le_of_ble_eq_true (by kernel_rfl)
theorem fnok46 : FnOk 46 Tryz.f46 := ⟨Tryz.func46, by kernel_rfl, by kernel_rfl⟩
theorem parok46 : ParOk 46 Tryz.f46 := Nat.le_of_ble_eq_true (by kernel_rfl)
theorem fnok49 : FnOk 49 Tryz.f49 := ⟨Tryz.func49, by kernel_rfl, by kernel_rfl⟩
theorem parok49 : ParOk 49 Tryz.f49 := Nat.le_of_ble_eq_true (by kernel_rfl)
theorem fnok68 : FnOk 68 Tryz.f68 := ⟨Tryz.func68, by kernel_rfl, by kernel_rfl⟩
theorem parok68 : ParOk 68 Tryz.f68 := Nat.le_of_ble_eq_true (by kernel_rfl)
theorem fnok71 : FnOk 71 Tryz.f71 := ⟨Tryz.func71, by kernel_rfl, by kernel_rfl⟩
theorem parok71 : ParOk 71 Tryz.f71 := Nat.le_of_ble_eq_true (by kernel_rfl)
theorem fnok89 : FnOk 89 Tryz.f89 := ⟨Tryz.func89, by kernel_rfl, by kernel_rfl⟩
theorem parok89 : ParOk 89 Tryz.f89 := Nat.le_of_ble_eq_true (by kernel_rfl)
theorem fnok3 : FnOk 3 Tryz.f3 := ⟨Tryz.func3, by kernel_rfl, by kernel_rfl⟩
theorem parok3 : ParOk 3 Tryz.f3 := Nat.le_of_ble_eq_true (by kernel_rfl)
theorem fnok5 : FnOk 5 Tryz.f5 := ⟨Tryz.func5, by kernel_rfl, by kernel_rfl⟩
theorem parok5 : ParOk 5 Tryz.f5 := Nat.le_of_ble_eq_true (by kernel_rfl)
theorem fnok6 : FnOk 6 Tryz.f6 := ⟨Tryz.func6, by kernel_rfl, by kernel_rfl⟩
theorem parok6 : ParOk 6 Tryz.f6 := Nat.le_of_ble_eq_true (by kernel_rfl)
theorem fnok7 : FnOk 7 Tryz.f7 := ⟨Tryz.func7, by kernel_rfl, by kernel_rfl⟩
theorem parok7 : ParOk 7 Tryz.f7 := Nat.le_of_ble_eq_true (by kernel_rfl)
theorem fnok8 : FnOk 8 Tryz.f8 := ⟨Tryz.func8, by kernel_rfl, by kernel_rfl⟩
theorem parok8 : ParOk 8 Tryz.f8 := Nat.le_of_ble_eq_true (by kernel_rfl)
theorem fnok9 : FnOk 9 Tryz.f9 := ⟨Tryz.func9, by kernel_rfl, by kernel_rfl⟩
theorem parok9 : ParOk 9 Tryz.f9 := Nat.le_of_ble_eq_true (by kernel_rfl)
theorem fnok10 : FnOk 10 Tryz.f10 := ⟨Tryz.func10, by kernel_rfl, by kernel_rfl⟩
theorem parok10 : ParOk 10 Tryz.f10 := Nat.le_of_ble_eq_true (by kernel_rfl)
theorem fnok11 : FnOk 11 Tryz.f11 := ⟨Tryz.func11, by kernel_rfl, by kernel_rfl⟩
theorem parok11 : ParOk 11 Tryz.f11 := Nat.le_of_ble_eq_true (by kernel_rfl)
theorem fnok12 : FnOk 12 Tryz.f12 := ⟨Tryz.func12, by kernel_rfl, by kernel_rfl⟩
theorem parok12 : ParOk 12 Tryz.f12 := Nat.le_of_ble_eq_true (by kernel_rfl)
theorem fnok13 : FnOk 13 Tryz.f13 := ⟨Tryz.func13, by kernel_rfl, by kernel_rfl⟩
theorem parok13 : ParOk 13 Tryz.f13 := Nat.le_of_ble_eq_true (by kernel_rfl)
theorem fnok14 : FnOk 14 Tryz.f14 := ⟨Tryz.func14, by kernel_rfl, by kernel_rfl⟩
theorem parok14 : ParOk 14 Tryz.f14 := Nat.le_of_ble_eq_true (by kernel_rfl)
theorem fnok15 : FnOk 15 Tryz.f15 := ⟨Tryz.func15, by kernel_rfl, by kernel_rfl⟩
theorem parok15 : ParOk 15 Tryz.f15 := Nat.le_of_ble_eq_true (by kernel_rfl)
theorem fnok16 : FnOk 16 Tryz.f16 := ⟨Tryz.func16, by kernel_rfl, by kernel_rfl⟩
theorem parok16 : ParOk 16 Tryz.f16 := Nat.le_of_ble_eq_true (by kernel_rfl)
theorem fnok17 : FnOk 17 Tryz.f17 := ⟨Tryz.func17, by kernel_rfl, by kernel_rfl⟩
theorem parok17 : ParOk 17 Tryz.f17 := Nat.le_of_ble_eq_true (by kernel_rfl)
theorem fnok18 : FnOk 18 Tryz.f18 := ⟨Tryz.func18, by kernel_rfl, by kernel_rfl⟩
theorem parok18 : ParOk 18 Tryz.f18 := Nat.le_of_ble_eq_true (by kernel_rfl)
theorem fnok21 : FnOk 21 Tryz.f21 := ⟨Tryz.func21, by kernel_rfl, by kernel_rfl⟩
theorem parok21 : ParOk 21 Tryz.f21 := Nat.le_of_ble_eq_true (by kernel_rfl)
theorem fnok23 : FnOk 23 Tryz.f23 := ⟨Tryz.func23, by kernel_rfl, by kernel_rfl⟩
theorem parok23 : ParOk 23 Tryz.f23 := Nat.le_of_ble_eq_true (by kernel_rfl)
theorem fnok25 : FnOk 25 Tryz.f25 := ⟨Tryz.func25, by kernel_rfl, by kernel_rfl⟩
theorem parok25 : ParOk 25 Tryz.f25 := Nat.le_of_ble_eq_true (by kernel_rfl)
theorem fnok27 : FnOk 27 Tryz.f27 := ⟨Tryz.func27, by kernel_rfl, by kernel_rfl⟩
theorem parok27 : ParOk 27 Tryz.f27 := Nat.le_of_ble_eq_true (by kernel_rfl)
theorem fnok28 : FnOk 28 Tryz.f28 := ⟨Tryz.func28, by kernel_rfl, by kernel_rfl⟩
theorem parok28 : ParOk 28 Tryz.f28 := Nat.le_of_ble_eq_true (by kernel_rfl)
theorem fnok29 : FnOk 29 Tryz.f29 := ⟨Tryz.func29, by kernel_rfl, by kernel_rfl⟩
theorem parok29 : ParOk 29 Tryz.f29 := Nat.le_of_ble_eq_true (by kernel_rfl)
theorem fnok30 : FnOk 30 Tryz.f30 := ⟨Tryz.func30, by kernel_rfl, by kernel_rfl⟩
theorem parok30 : ParOk 30 Tryz.f30 := Nat.le_of_ble_eq_true (by kernel_rfl)
theorem fnok31 : FnOk 31 Tryz.f31 := ⟨Tryz.func31, by kernel_rfl, by kernel_rfl⟩
theorem parok31 : ParOk 31 Tryz.f31 := Nat.le_of_ble_eq_true (by kernel_rfl)
theorem fnok32 : FnOk 32 Tryz.f32 := ⟨Tryz.func32, by kernel_rfl, by kernel_rfl⟩
theorem parok32 : ParOk 32 Tryz.f32 := Nat.le_of_ble_eq_true (by kernel_rfl)
theorem fnok33 : FnOk 33 Tryz.f33 := ⟨Tryz.func33, by kernel_rfl, by kernel_rfl⟩
theorem parok33 : ParOk 33 Tryz.f33 := Nat.le_of_ble_eq_true (by kernel_rfl)
theorem fnok34 : FnOk 34 Tryz.f34 := ⟨Tryz.func34, by kernel_rfl, by kernel_rfl⟩
theorem parok34 : ParOk 34 Tryz.f34 := Nat.le_of_ble_eq_true (by kernel_rfl)
theorem fnok35 : FnOk 35 Tryz.f35 := ⟨Tryz.func35, by kernel_rfl, by kernel_rfl⟩
theorem parok35 : ParOk 35 Tryz.f35 := Nat.le_of_ble_eq_true (by kernel_rfl)
theorem fnok36 : FnOk 36 Tryz.f36 := ⟨Tryz.func36, by kernel_rfl, by kernel_rfl⟩
theorem parok36 : ParOk 36 Tryz.f36 := Nat.le_of_ble_eq_true (by kernel_rfl)
theorem fnok37 : FnOk 37 Tryz.f37 := ⟨Tryz.func37, by kernel_rfl, by kernel_rfl⟩
theorem parok37 : ParOk 37 Tryz.f37 := Nat.le_of_ble_eq_true (by kernel_rfl)
theorem fnok38 : FnOk 38 Tryz.f38 := ⟨Tryz.func38, by kernel_rfl, by kernel_rfl⟩
theorem parok38 : ParOk 38 Tryz.f38 := Nat.le_of_ble_eq_true (by kernel_rfl)
theorem fnok39 : FnOk 39 Tryz.f39 := ⟨Tryz.func39, by kernel_rfl, by kernel_rfl⟩
theorem parok39 : ParOk 39 Tryz.f39 := Nat.le_of_ble_eq_true (by kernel_rfl)
theorem fnok40 : FnOk 40 Tryz.f40 := ⟨Tryz.func40, by kernel_rfl, by kernel_rfl⟩
theorem parok40 : ParOk 40 Tryz.f40 := Nat.le_of_ble_eq_true (by kernel_rfl)
theorem fnok42 : FnOk 42 Tryz.f42 := ⟨Tryz.func42, by kernel_rfl, by kernel_rfl⟩
theorem parok42 : ParOk 42 Tryz.f42 := Nat.le_of_ble_eq_true (by kernel_rfl)
theorem fnok47 : FnOk 47 Tryz.f47 := ⟨Tryz.func47, by kernel_rfl, by kernel_rfl⟩
theorem parok47 : ParOk 47 Tryz.f47 := Nat.le_of_ble_eq_true (by kernel_rfl)
theorem fnok48 : FnOk 48 Tryz.f48 := ⟨Tryz.func48, by kernel_rfl, by kernel_rfl⟩
theorem parok48 : ParOk 48 Tryz.f48 := Nat.le_of_ble_eq_true (by kernel_rfl)
theorem fnok50 : FnOk 50 Tryz.f50 := ⟨Tryz.func50, by kernel_rfl, by kernel_rfl⟩
theorem parok50 : ParOk 50 Tryz.f50 := Nat.le_of_ble_eq_true (by kernel_rfl)
theorem fnok51 : FnOk 51 Tryz.f51 := ⟨Tryz.func51, by kernel_rfl, by kernel_rfl⟩
theorem parok51 : ParOk 51 Tryz.f51 := Nat.le_of_ble_eq_true (by kernel_rfl)
theorem fnok52 : FnOk 52 Tryz.f52 := ⟨Tryz.func52, by kernel_rfl, by kernel_rfl⟩
theorem parok52 : ParOk 52 Tryz.f52 := Nat.le_of_ble_eq_true (by kernel_rfl)
theorem fnok53 : FnOk 53 Tryz.f53 := ⟨Tryz.func53, by kernel_rfl, by kernel_rfl⟩
theorem parok53 : ParOk 53 Tryz.f53 := Nat.le_of_ble_eq_true (by kernel_rfl)
theorem fnok54 : FnOk 54 Tryz.f54 := ⟨Tryz.func54, by kernel_rfl, by kernel_rfl⟩
theorem parok54 : ParOk 54 Tryz.f54 := Nat.le_of_ble_eq_true (by kernel_rfl)
theorem fnok55 : FnOk 55 Tryz.f55 := ⟨Tryz.func55, by kernel_rfl, by kernel_rfl⟩
theorem parok55 : ParOk 55 Tryz.f55 := Nat.le_of_ble_eq_true (by kernel_rfl)
theorem fnok56 : FnOk 56 Tryz.f56 := ⟨Tryz.func56, by kernel_rfl, by kernel_rfl⟩
theorem parok56 : ParOk 56 Tryz.f56 := Nat.le_of_ble_eq_true (by kernel_rfl)
theorem fnok57 : FnOk 57 Tryz.f57 := ⟨Tryz.func57, by kernel_rfl, by kernel_rfl⟩
theorem parok57 : ParOk 57 Tryz.f57 := Nat.le_of_ble_eq_true (by kernel_rfl)
theorem fnok58 : FnOk 58 Tryz.f58 := ⟨Tryz.func58, by kernel_rfl, by kernel_rfl⟩
theorem parok58 : ParOk 58 Tryz.f58 := Nat.le_of_ble_eq_true (by kernel_rfl)
theorem fnok59 : FnOk 59 Tryz.f59 := ⟨Tryz.func59, by kernel_rfl, by kernel_rfl⟩
theorem parok59 : ParOk 59 Tryz.f59 := Nat.le_of_ble_eq_true (by kernel_rfl)
theorem fnok60 : FnOk 60 Tryz.f60 := ⟨Tryz.func60, by kernel_rfl, by kernel_rfl⟩
theorem parok60 : ParOk 60 Tryz.f60 := Nat.le_of_ble_eq_true (by kernel_rfl)
theorem fnok61 : FnOk 61 Tryz.f61 := ⟨Tryz.func61, by kernel_rfl, by kernel_rfl⟩
theorem parok61 : ParOk 61 Tryz.f61 := Nat.le_of_ble_eq_true (by kernel_rfl)
theorem fnok62 : FnOk 62 Tryz.f62 := ⟨Tryz.func62, by kernel_rfl, by kernel_rfl⟩
theorem parok62 : ParOk 62 Tryz.f62 := Nat.le_of_ble_eq_true (by kernel_rfl)
theorem fnok63 : FnOk 63 Tryz.f63 := ⟨Tryz.func63, by kernel_rfl, by kernel_rfl⟩
theorem parok63 : ParOk 63 Tryz.f63 := Nat.le_of_ble_eq_true (by kernel_rfl)
theorem fnok64 : FnOk 64 Tryz.f64 := ⟨Tryz.func64, by kernel_rfl, by kernel_rfl⟩
theorem parok64 : ParOk 64 Tryz.f64 := Nat.le_of_ble_eq_true (by kernel_rfl)
theorem fnok65 : FnOk 65 Tryz.f65 := ⟨Tryz.func65, by kernel_rfl, by kernel_rfl⟩
theorem parok65 : ParOk 65 Tryz.f65 := Nat.le_of_ble_eq_true (by kernel_rfl)
theorem fnok66 : FnOk 66 Tryz.f66 := ⟨Tryz.func66, by kernel_rfl, by kernel_rfl⟩
theorem parok66 : ParOk 66 Tryz.f66 := Nat.le_of_ble_eq_true (by kernel_rfl)
theorem fnok67 : FnOk 67 Tryz.f67 := ⟨Tryz.func67, by kernel_rfl, by kernel_rfl⟩
theorem parok67 : ParOk 67 Tryz.f67 := Nat.le_of_ble_eq_true (by kernel_rfl)
theorem fnok69 : FnOk 69 Tryz.f69 := ⟨Tryz.func69, by kernel_rfl, by kernel_rfl⟩
theorem parok69 : ParOk 69 Tryz.f69 := Nat.le_of_ble_eq_true (by kernel_rfl)
theorem fnok70 : FnOk 70 Tryz.f70 := ⟨Tryz.func70, by kernel_rfl, by kernel_rfl⟩
theorem parok70 : ParOk 70 Tryz.f70 := Nat.le_of_ble_eq_true (by kernel_rfl)
theorem fnok72 : FnOk 72 Tryz.f72 := ⟨Tryz.func72, by kernel_rfl, by kernel_rfl⟩
theorem parok72 : ParOk 72 Tryz.f72 := Nat.le_of_ble_eq_true (by kernel_rfl)
theorem fnok73 : FnOk 73 Tryz.f73 := ⟨Tryz.func73, by kernel_rfl, by kernel_rfl⟩
theorem parok73 : ParOk 73 Tryz.f73 := Nat.le_of_ble_eq_true (by kernel_rfl)
theorem fnok74 : FnOk 74 Tryz.f74 := ⟨Tryz.func74, by kernel_rfl, by kernel_rfl⟩
theorem parok74 : ParOk 74 Tryz.f74 := Nat.le_of_ble_eq_true (by kernel_rfl)
theorem fnok75 : FnOk 75 Tryz.f75 := ⟨Tryz.func75, by kernel_rfl, by kernel_rfl⟩
theorem parok75 : ParOk 75 Tryz.f75 := Nat.le_of_ble_eq_true (by kernel_rfl)
theorem fnok76 : FnOk 76 Tryz.f76 := ⟨Tryz.func76, by kernel_rfl, by kernel_rfl⟩
theorem parok76 : ParOk 76 Tryz.f76 := Nat.le_of_ble_eq_true (by kernel_rfl)
theorem fnok77 : FnOk 77 Tryz.f77 := ⟨Tryz.func77, by kernel_rfl, by kernel_rfl⟩
theorem parok77 : ParOk 77 Tryz.f77 := Nat.le_of_ble_eq_true (by kernel_rfl)
theorem fnok78 : FnOk 78 Tryz.f78 := ⟨Tryz.func78, by kernel_rfl, by kernel_rfl⟩
theorem parok78 : ParOk 78 Tryz.f78 := Nat.le_of_ble_eq_true (by kernel_rfl)
theorem fnok79 : FnOk 79 Tryz.f79 := ⟨Tryz.func79, by kernel_rfl, by kernel_rfl⟩
theorem parok79 : ParOk 79 Tryz.f79 := Nat.le_of_ble_eq_true (by kernel_rfl)
theorem fnok80 : FnOk 80 Tryz.f80 := ⟨Tryz.func80, by kernel_rfl, by kernel_rfl⟩
theorem parok80 : ParOk 80 Tryz.f80 := Nat.le_of_ble_eq_true (by kernel_rfl)
theorem fnok81 : FnOk 81 Tryz.f81 := ⟨Tryz.func81, by kernel_rfl, by kernel_rfl⟩
theorem parok81 : ParOk 81 Tryz.f81 := Nat.le_of_ble_eq_true (by kernel_rfl)
theorem fnok82 : FnOk 82 Tryz.f82 := ⟨Tryz.func82, by kernel_rfl, by kernel_rfl⟩
theorem parok82 : ParOk 82 Tryz.f82 := Nat.le_of_ble_eq_true (by kernel_rfl)
theorem fnok83 : FnOk 83 Tryz.f83 := ⟨Tryz.func83, by kernel_rfl, by kernel_rfl⟩
theorem parok83 : ParOk 83 Tryz.f83 := Nat.le_of_ble_eq_true (by kernel_rfl)
theorem fnok84 : FnOk 84 Tryz.f84 := ⟨Tryz.func84, by kernel_rfl, by kernel_rfl⟩
theorem parok84 : ParOk 84 Tryz.f84 := Nat.le_of_ble_eq_true (by kernel_rfl)
theorem fnok85 : FnOk 85 Tryz.f85 := ⟨Tryz.func85, by kernel_rfl, by kernel_rfl⟩
theorem parok85 : ParOk 85 Tryz.f85 := Nat.le_of_ble_eq_true (by kernel_rfl)
theorem fnok86 : FnOk 86 Tryz.f86 := ⟨Tryz.func86, by kernel_rfl, by kernel_rfl⟩
theorem parok86 : ParOk 86 Tryz.f86 := Nat.le_of_ble_eq_true (by kernel_rfl)
theorem fnok87 : FnOk 87 Tryz.f87 := ⟨Tryz.func87, by kernel_rfl, by kernel_rfl⟩
theorem parok87 : ParOk 87 Tryz.f87 := Nat.le_of_ble_eq_true (by kernel_rfl)
theorem fnok88 : FnOk 88 Tryz.f88 := ⟨Tryz.func88, by kernel_rfl, by kernel_rfl⟩
theorem parok88 : ParOk 88 Tryz.f88 := Nat.le_of_ble_eq_true (by kernel_rfl)
theorem fnok90 : FnOk 90 Tryz.f90 := ⟨Tryz.func90, by kernel_rfl, by kernel_rfl⟩
theorem parok90 : ParOk 90 Tryz.f90 := Nat.le_of_ble_eq_true (by kernel_rfl)
theorem fnok91 : FnOk 91 Tryz.f91 := ⟨Tryz.func91, by kernel_rfl, by kernel_rfl⟩
theorem parok91 : ParOk 91 Tryz.f91 := Nat.le_of_ble_eq_true (by kernel_rfl)
theorem fnok92 : FnOk 92 Tryz.f92 := ⟨Tryz.func92, by kernel_rfl, by kernel_rfl⟩
theorem parok92 : ParOk 92 Tryz.f92 := Nat.le_of_ble_eq_true (by kernel_rfl)
theorem fnok94 : FnOk 94 Tryz.f94 := ⟨Tryz.func94, by kernel_rfl, by kernel_rfl⟩
theorem parok94 : ParOk 94 Tryz.f94 := Nat.le_of_ble_eq_true (by kernel_rfl)
theorem fnok96 : FnOk 96 Tryz.f96 := ⟨Tryz.func96, by kernel_rfl, by kernel_rfl⟩
theorem parok96 : ParOk 96 Tryz.f96 := Nat.le_of_ble_eq_true (by kernel_rfl)
theorem fnok97 : FnOk 97 Tryz.f97 := ⟨Tryz.func97, by kernel_rfl, by kernel_rfl⟩
theorem parok97 : ParOk 97 Tryz.f97 := Nat.le_of_ble_eq_true (by kernel_rfl)
theorem fnok98 : FnOk 98 Tryz.f98 := ⟨Tryz.func98, by kernel_rfl, by kernel_rfl⟩
theorem parok98 : ParOk 98 Tryz.f98 := Nat.le_of_ble_eq_true (by kernel_rfl)
theorem fnok99 : FnOk 99 Tryz.f99 := ⟨Tryz.func99, by kernel_rfl, by kernel_rfl⟩
theorem parok99 : ParOk 99 Tryz.f99 := Nat.le_of_ble_eq_true (by kernel_rfl)
theorem fnok100 : FnOk 100 Tryz.f100 := ⟨Tryz.func100, by kernel_rfl, by kernel_rfl⟩
theorem parok100 : ParOk 100 Tryz.f100 := Nat.le_of_ble_eq_true (by kernel_rfl)
theorem fnok101 : FnOk 101 Tryz.f101 := ⟨Tryz.func101, by kernel_rfl, by kernel_rfl⟩
theorem parok101 : ParOk 101 Tryz.f101 := Nat.le_of_ble_eq_true (by kernel_rfl)
theorem fnok102 : FnOk 102 Tryz.f102 := ⟨Tryz.func102, by kernel_rfl, by kernel_rfl⟩
theorem parok102 : ParOk 102 Tryz.f102 := Nat.le_of_ble_eq_true (by kernel_rfl)
theorem fnok103 : FnOk 103 Tryz.f103 := ⟨Tryz.func103, by kernel_rfl, by kernel_rfl⟩
theorem parok103 : ParOk 103 Tryz.f103 := Nat.le_of_ble_eq_true (by kernel_rfl)
theorem fnok104 : FnOk 104 Tryz.f104 := ⟨Tryz.func104, by kernel_rfl, by kernel_rfl⟩
theorem parok104 : ParOk 104 Tryz.f104 := Nat.le_of_ble_eq_true (by kernel_rfl)
theorem fnok105 : FnOk 105 Tryz.f105 := ⟨Tryz.func105, by kernel_rfl, by kernel_rfl⟩
theorem parok105 : ParOk 105 Tryz.f105 := Nat.le_of_ble_eq_true (by kernel_rfl)
theorem fnok106 : FnOk 106 Tryz.f106 := ⟨Tryz.func106, by kernel_rfl, by kernel_rfl⟩
theorem parok106 : ParOk 106 Tryz.f106 := Nat.le_of_ble_eq_true (by kernel_rfl)
theorem fnok107 : FnOk 107 Tryz.f107 := ⟨Tryz.func107, by kernel_rfl, by kernel_rfl⟩
theorem parok107 : ParOk 107 Tryz.f107 := Nat.le_of_ble_eq_true (by kernel_rfl)
theorem fnok108 : FnOk 108 Tryz.f108 := ⟨Tryz.func108, by kernel_rfl, by kernel_rfl⟩
theorem parok108 : ParOk 108 Tryz.f108 := Nat.le_of_ble_eq_true (by kernel_rfl)
theorem fnok109 : FnOk 109 Tryz.f109 := ⟨Tryz.func109, by kernel_rfl, by kernel_rfl⟩
theorem parok109 : ParOk 109 Tryz.f109 := Nat.le_of_ble_eq_true (by kernel_rfl)
theorem fnok110 : FnOk 110 Tryz.f110 := ⟨Tryz.func110, by kernel_rfl, by kernel_rfl⟩
theorem parok110 : ParOk 110 Tryz.f110 := Nat.le_of_ble_eq_true (by kernel_rfl)
theorem fnok111 : FnOk 111 Tryz.f111 := ⟨Tryz.func111, by kernel_rfl, by kernel_rfl⟩
theorem parok111 : ParOk 111 Tryz.f111 := Nat.le_of_ble_eq_true (by kernel_rfl)
theorem fnok112 : FnOk 112 Tryz.f112 := ⟨Tryz.func112, by kernel_rfl, by kernel_rfl⟩
theorem parok112 : ParOk 112 Tryz.f112 := Nat.le_of_ble_eq_true (by kernel_rfl)
theorem fnok113 : FnOk 113 Tryz.f113 := ⟨Tryz.func113, by kernel_rfl, by kernel_rfl⟩
theorem parok113 : ParOk 113 Tryz.f113 := Nat.le_of_ble_eq_true (by kernel_rfl)
theorem fnok114 : FnOk 114 Tryz.f114 := ⟨Tryz.func114, by kernel_rfl, by kernel_rfl⟩
theorem parok114 : ParOk 114 Tryz.f114 := Nat.le_of_ble_eq_true (by kernel_rfl)
theorem fnok115 : FnOk 115 Tryz.f115 := ⟨Tryz.func115, by kernel_rfl, by kernel_rfl⟩
theorem parok115 : ParOk 115 Tryz.f115 := Nat.le_of_ble_eq_true (by kernel_rfl)
theorem fnok116 : FnOk 116 Tryz.f116 := ⟨Tryz.func116, by kernel_rfl, by kernel_rfl⟩
theorem parok116 : ParOk 116 Tryz.f116 := Nat.le_of_ble_eq_true (by kernel_rfl)
theorem fnok118 : FnOk 118 Tryz.f118 := ⟨Tryz.func118, by kernel_rfl, by kernel_rfl⟩
theorem parok118 : ParOk 118 Tryz.f118 := Nat.le_of_ble_eq_true (by kernel_rfl)
theorem fnok121 : FnOk 121 Tryz.f121 := ⟨Tryz.func121, by kernel_rfl, by kernel_rfl⟩
theorem parok121 : ParOk 121 Tryz.f121 := Nat.le_of_ble_eq_true (by kernel_rfl)
theorem fnok122 : FnOk 122 Tryz.f122 := ⟨Tryz.func122, by kernel_rfl, by kernel_rfl⟩
theorem parok122 : ParOk 122 Tryz.f122 := Nat.le_of_ble_eq_true (by kernel_rfl)
theorem fnok123 : FnOk 123 Tryz.f123 := ⟨Tryz.func123, by kernel_rfl, by kernel_rfl⟩
theorem parok123 : ParOk 123 Tryz.f123 := Nat.le_of_ble_eq_true (by kernel_rfl)
theorem fnok127 : FnOk 127 Tryz.f127 := ⟨Tryz.func127, by kernel_rfl, by kernel_rfl⟩
theorem parok127 : ParOk 127 Tryz.f127 := Nat.le_of_ble_eq_true (by kernel_rfl)
theorem fnok128 : FnOk 128 Tryz.f128 := ⟨Tryz.func128, by kernel_rfl, by kernel_rfl⟩
theorem parok128 : ParOk 128 Tryz.f128 := Nat.le_of_ble_eq_true (by kernel_rfl)
theorem fnok129 : FnOk 129 Tryz.f129 := ⟨Tryz.func129, by kernel_rfl, by kernel_rfl⟩
theorem parok129 : ParOk 129 Tryz.f129 := Nat.le_of_ble_eq_true (by kernel_rfl)
theorem fnok130 : FnOk 130 Tryz.f130 := ⟨Tryz.func130, by kernel_rfl, by kernel_rfl⟩
theorem parok130 : ParOk 130 Tryz.f130 := Nat.le_of_ble_eq_true (by kernel_rfl)
theorem fnok133 : FnOk 133 Tryz.f133 := ⟨Tryz.func133, by kernel_rfl, by kernel_rfl⟩
theorem parok133 : ParOk 133 Tryz.f133 := Nat.le_of_ble_eq_true (by kernel_rfl)
theorem fnok144 : FnOk 144 Tryz.f144 := ⟨Tryz.func144, by kernel_rfl, by kernel_rfl⟩
theorem parok144 : ParOk 144 Tryz.f144 := Nat.le_of_ble_eq_true (by kernel_rfl)
theorem fns_ok : ∀ f fn, look fns f = some fn → FnOk f fn := look_all (Q := FnOk) (l := fns) (all_cons fnok3 (all_cons fnok5 (all_cons fnok6 (all_cons fnok7 (all_cons fnok8 (all_cons fnok9 (all_cons fnok10 (all_cons fnok11 (all_cons fnok12 (all_cons fnok13 (all_cons fnok14 (all_cons fnok15 (all_cons fnok16 (all_cons fnok17 (all_cons fnok18 (all_cons fnok21 (all_cons fnok23 (all_cons fnok25 (all_cons fnok27 (all_cons fnok28 (all_cons fnok29 (all_cons fnok30 (all_cons fnok31 (all_cons fnok32 (all_cons fnok33 (all_cons fnok34 (all_cons fnok35 (all_cons fnok36 (all_cons fnok37 (all_cons fnok38 (all_cons fnok39 (all_cons fnok40 (all_cons fnok42 (all_cons fnok47 (all_cons fnok48 (all_cons fnok50 (all_cons fnok51 (all_cons fnok52 (all_cons fnok53 (all_cons fnok54 (all_cons fnok55 (all_cons fnok56 (all_cons fnok57 (all_cons fnok58 (all_cons fnok59 (all_cons fnok60 (all_cons fnok61 (all_cons fnok62 (all_cons fnok63 (all_cons fnok64 (all_cons fnok65 (all_cons fnok66 (all_cons fnok67 (all_cons fnok69 (all_cons fnok70 (all_cons fnok72 (all_cons fnok73 (all_cons fnok74 (all_cons fnok75 (all_cons fnok76 (all_cons fnok77 (all_cons fnok78 (all_cons fnok79 (all_cons fnok80 (all_cons fnok81 (all_cons fnok82 (all_cons fnok83 (all_cons fnok84 (all_cons fnok85 (all_cons fnok86 (all_cons fnok87 (all_cons fnok88 (all_cons fnok90 (all_cons fnok91 (all_cons fnok92 (all_cons fnok94 (all_cons fnok96 (all_cons fnok97 (all_cons fnok98 (all_cons fnok99 (all_cons fnok100 (all_cons fnok101 (all_cons fnok102 (all_cons fnok103 (all_cons fnok104 (all_cons fnok105 (all_cons fnok106 (all_cons fnok107 (all_cons fnok108 (all_cons fnok109 (all_cons fnok110 (all_cons fnok111 (all_cons fnok112 (all_cons fnok113 (all_cons fnok114 (all_cons fnok115 (all_cons fnok116 (all_cons fnok118 (all_cons fnok121 (all_cons fnok122 (all_cons fnok123 (all_cons fnok127 (all_cons fnok128 (all_cons fnok129 (all_cons fnok130 (all_cons fnok133 (all_cons fnok144 (all_cons fnok41 (all_cons fnok45 (all_cons fnok46 (all_cons fnok49 (all_cons fnok68 (all_cons fnok71 (all_cons fnok89 all_nil))))))))))))))))))))))))))))))))))))))))))))))))))))))))))))))))))))))))))))))))))))))))))))))))))))))))))))))))))
theorem ctx_ok : CtxOk Tryz.prog CT := ⟨tis_ok, fns_ok, by kernel_rfl, inv_keeps⟩
theorem pars_ok : ∀ i fn, look fns i = some fn → ParOk i fn := look_all (Q := ParOk) (l := fns) (all_cons parok3 (all_cons parok5 (all_cons parok6 (all_cons parok7 (all_cons parok8 (all_cons parok9 (all_cons parok10 (all_cons parok11 (all_cons parok12 (all_cons parok13 (all_cons parok14 (all_cons parok15 (all_cons parok16 (all_cons parok17 (all_cons parok18 (all_cons parok21 (all_cons parok23 (all_cons parok25 (all_cons parok27 (all_cons parok28 (all_cons parok29 (all_cons parok30 (all_cons parok31 (all_cons parok32 (all_cons parok33 (all_cons parok34 (all_cons parok35 (all_cons parok36 (all_cons parok37 (all_cons parok38 (all_cons parok39 (all_cons parok40 (all_cons parok42 (all_cons parok47 (all_cons parok48 (all_cons parok50 (all_cons parok51 (all_cons parok52 (all_cons parok53 (all_cons parok54 (all_cons parok55 (all_cons parok56 (all_cons parok57 (all_cons parok58 (all_cons parok59 (all_cons parok60 (all_cons parok61 (all_cons parok62 (all_cons parok63 (all_cons parok64 (all_cons parok65 (all_cons parok66 (all_cons parok67 (all_cons parok69 (all_cons parok70 (all_cons parok72 (all_cons parok73 (all_cons parok74 (all_cons parok75 (all_cons parok76 (all_cons parok77 (all_cons parok78 (all_cons parok79 (all_cons parok80 (all_cons parok81 (all_cons parok82 (all_cons parok83 (all_cons parok84 (all_cons parok85 (all_cons parok86 (all_cons parok87 (all_cons parok88 (all_cons parok90 (all_cons parok91 (all_cons parok92 (all_cons parok94 (all_cons parok96 (all_cons parok97 (all_cons parok98 (all_cons parok99 (all_cons parok100 (all_cons parok101 (all_cons parok102 (all_cons parok103 (all_cons parok104 (all_cons parok105 (all_cons parok106 (all_cons parok107 (all_cons parok108 (all_cons parok109 (all_cons parok110 (all_cons parok111 (all_cons parok112 (all_cons parok113 (all_cons parok114 (all_cons parok115 (all_cons parok116 (all_cons parok118 (all_cons parok121 (all_cons parok122 (all_cons parok123 (all_cons parok127 (all_cons parok128 (all_cons parok129 (all_cons parok130 (all_cons parok133 (all_cons parok144 (all_cons parok41 (all_cons parok45 (all_cons parok46 (all_cons parok49 (all_cons parok68 (all_cons parok71 (all_cons parok89 all_nil))))))))))))))))))))))))))))))))))))))))))))))))))))))))))))))))))))))))))))))))))))))))))))))))))))))))))))))))))
theorem sound (hE : ExtOk Tryz.prog CT) : ∀ k, SpecOk Tryz.prog (sem CT k) ∧ StageOk Tryz.prog (sem CT k) := sem_sound ctx_ok hE pars_ok
theorem ext_ok : ExtOk Tryz.prog CT := ext_of (l := extL) rfl (allE_cons (ext_at (Q.rgcd_ok inv_max)) (allE_cons (ext_at (Q.rbits_ok inv_max)) (allE_cons (ext_at (Q.rof_ok inv_max)) (allE_cons (ext_at (Q.rtrim_ok inv_max)) (allE_cons (ext_at (Q.rdiv_ok inv_max)) (allE_cons (ext_at (Q.rmul_ok inv_max)) (allE_cons (ext_at (Q.rpow_ok inv_max)) (allE_cons (ext_at (Q.mul_ok inv_max)) (allE_cons (ext_at (Q.gcd_ok inv_max)) (allE_cons (ext_at (Q.trim_ok inv_max)) (allE_cons (ext_at (Q.pow_ok inv_max)) (allE_cons (ext_at (Q.of_ok inv_max)) (allE_cons (ext_at (Q.div_ok inv_max)) allE_nil)))))))))))))
theorem spec_ok (k : Nat) : SpecOk Tryz.prog (sem CT k) := (sound ext_ok k).1
end Go.Proofs.YtgnkkanhjghhfaaGreatDoor.K
/- The machine at this seat: its equations. -/
set_option maxRecDepth 100000
namespace Go.Proofs.YtgnkkanhjghhfaaGreatDoor.K
open Go
theorem abacistlaw13_AstParts_eq (x0 : (List (TN9)) × List Int) (x1 : (List (TN9)) × List Int) (x2 : Int) (x3 : TB9) : abacistlaw13_AstParts x0 x1 x2 x3 = (abacistlaw13_light x0).bind fun v1 => cond (!v1) (abacistlaw13_AstParts_1 x2 x3 true x0 x1) ((abacistlaw13_light x1).bind fun v2 => cond (!v2) (abacistlaw13_AstParts_1 x2 x3 true x0 x1) (abacistlaw13_AstParts_1 x2 x3 (decide ((x3.length : Int) > 100)) x0 x1)) := (top_call ..).trans (by kernel_rfl)
theorem abacistlaw13_AstParts_1_eq (a1 : Int) (a2 : TB9) (a3 : Bool) (a4 : (List (TN9)) × List Int) (a5 : (List (TN9)) × List Int) : abacistlaw13_AstParts_1 a1 a2 a3 a4 a5 = cond a3 ((abacistlaw13_known).bind fun v1 => some v1) ((ast_Two a1 a4 a5).bind fun v2 => cond (decide (v2.2 = 0)) ((ast_Part v2.1 (IntKind.i64.wrap ((a4.1.length : Int) - 1))).bind fun v3 => (ast_Part v2.1 (IntKind.i64.wrap ((v2.1.1.length : Int) - 2))).bind fun v4 => (abacistref13_Same v3.1 a4).bind fun v5 => cond (!v5) (abacistlaw13_AstParts_2 a2 true a4 a5) (cond (!decide (v3.2 = 0)) (abacistlaw13_AstParts_2 a2 true a4 a5) ((abacistref13_Same v4.1 a5).bind fun v6 => cond (!v6) (abacistlaw13_AstParts_2 a2 true a4 a5) (abacistlaw13_AstParts_2 a2 (!decide (v4.2 = 0)) a4 a5)))) ((ast_Call a2 [a4, a5]).bind fun v7 => cond (!decide (v7.2 = 0)) ((abacistlaw13_known).bind fun v8 => some v8) ((ast_Kids v7.1 (IntKind.i64.wrap ((v7.1.1.length : Int) - 1))).bind fun v9 => cond (!decide ((v9.length : Int) = 2)) (some false) (cond (decide (0 ≤ 0) && decide (0 < (v9.length : Int))) ((ast_Part v7.1 (v9.getD 0 0)).bind fun v10 => cond (decide (0 ≤ 1) && decide (1 < (v9.length : Int))) ((ast_Part v7.1 (v9.getD 1 0)).bind fun v11 => (abacistref13_Same v10.1 a4).bind fun v12 => cond v12 (cond (decide (v10.2 = 0)) ((abacistref13_Same v11.1 a5).bind fun v13 => cond v13 (cond (decide (v11.2 = 0)) ((abacistlaw13_known).bind fun v14 => some v14) (some false)) (some false)) (some false)) (some false)) none) none)))) := (top_stage ..).trans (by kernel_rfl)
theorem abacistlaw13_AstParts_2_eq (a1 : TB9) (a2 : Bool) (a3 : (List (TN9)) × List Int) (a4 : (List (TN9)) × List Int) : abacistlaw13_AstParts_2 a1 a2 a3 a4 = cond a2 (some false) ((ast_Call a1 [a3, a4]).bind fun v1 => cond (!decide (v1.2 = 0)) ((abacistlaw13_known).bind fun v2 => some v2) ((ast_Kids v1.1 (IntKind.i64.wrap ((v1.1.1.length : Int) - 1))).bind fun v3 => cond (!decide ((v3.length : Int) = 2)) (some false) (cond (decide (0 ≤ 0) && decide (0 < (v3.length : Int))) ((ast_Part v1.1 (v3.getD 0 0)).bind fun v4 => cond (decide (0 ≤ 1) && decide (1 < (v3.length : Int))) ((ast_Part v1.1 (v3.getD 1 0)).bind fun v5 => (abacistref13_Same v4.1 a3).bind fun v6 => cond v6 (cond (decide (v4.2 = 0)) ((abacistref13_Same v5.1 a4).bind fun v7 => cond v7 (cond (decide (v5.2 = 0)) ((abacistlaw13_known).bind fun v8 => some v8) (some false)) (some false)) (some false)) (some false)) none) none))) := (top_stage ..).trans (by kernel_rfl)
theorem abacistlaw13_light_eq (x0 : (List (TN9)) × List Int) : abacistlaw13_light x0 = cond (decide ((x0.1.length : Int) > 320)) (abacistlaw13_light_1 true x0) (abacistlaw13_light_1 (decide ((x0.2.length : Int) > 400)) x0) := (top_call ..).trans (by kernel_rfl)
theorem abacistlaw13_light_1_eq (a1 : Bool) (a2 : (List (TN9)) × List Int) : abacistlaw13_light_1 a1 a2 = cond a1 (some false) (abacistlaw13_light_2 0 a2) := (top_stage ..).trans (by kernel_rfl)
theorem abacistlaw13_light_2_eq (a1 : Int) (a2 : (List (TN9)) × List Int) : abacistlaw13_light_2 a1 a2 = cond (decide (a1 < (a2.1.length : Int))) (cond (decide (0 ≤ a1) && decide (a1 < (a2.1.length : Int))) (cond (decide (((((((((a2.1.getD a1.toNat (0, 0, 0, 0, (false, [], []), [], false, ([], 0, 0, false, false), [], 0, 0, false, false)).2).2).2).2).2).1).length : Int) > 500)) (abacistlaw13_light_3 a1 true a2) (cond (decide ((((((((((((a2.1.getD a1.toNat (0, 0, 0, 0, (false, [], []), [], false, ([], 0, 0, false, false), [], 0, 0, false, false)).2).2).2).2).2).2).2).1).1).length : Int) > 100)) (abacistlaw13_light_3 a1 true a2) (cond (decide ((((((((((((a2.1.getD a1.toNat (0, 0, 0, 0, (false, [], []), [], false, ([], 0, 0, false, false), [], 0, 0, false, false)).2).2).2).2).2).2).2).2).1).length : Int) > 100)) (abacistlaw13_light_3 a1 true a2) (cond (decide ((((((((((a2.1.getD a1.toNat (0, 0, 0, 0, (false, [], []), [], false, ([], 0, 0, false, false), [], 0, 0, false, false)).2).2).2).2).1).2).1).length : Int) > 100)) (abacistlaw13_light_3 a1 true a2) (abacistlaw13_light_3 a1 (decide ((((((((((a2.1.getD a1.toNat (0, 0, 0, 0, (false, [], []), [], false, ([], 0, 0, false, false), [], 0, 0, false, false)).2).2).2).2).1).2).2).length : Int) > 100)) a2))))) none) (some true) := (top_stage ..).trans (by kernel_rfl)
theorem abacistlaw13_light_3_eq (a1 : Int) (a2 : Bool) (a3 : (List (TN9)) × List Int) : abacistlaw13_light_3 a1 a2 a3 = cond a2 (some false) (abacistlaw13_light_2 (IntKind.i64.wrap (a1 + 1)) a3) := (top_stage ..).trans (by kernel_rfl)
theorem abacistlaw13_known_eq : abacistlaw13_known = (abacistlaw13_number 1).bind fun v1 => (abacistlaw13_number 2).bind fun v2 => (ast_Two 1 v1 v2).bind fun v3 => (abacistref05_Of (-1)).bind fun v4 => (ast_Leaf (1, 0, 0, 0, v4, [], false, ([], 0, 0, false, false), [], 0, 0, false, false)).bind fun v5 => cond (decide (v3.2 = 0)) (cond (decide ((v3.1.1.length : Int) = 3)) (cond (decide (0 ≤ 2) && decide (2 < (v3.1.1.length : Int))) (cond ((decide (((v3.1.1.getD 2 (0, 0, 0, 0, (false, [], []), [], false, ([], 0, 0, false, false), [], 0, 0, false, false)).1) = 8)) && ((decide ((((v3.1.1.getD 2 (0, 0, 0, 0, (false, [], []), [], false, ([], 0, 0, false, false), [], 0, 0, false, false)).2).1) = 1)) && ((decide (((((v3.1.1.getD 2 (0, 0, 0, 0, (false, [], []), [], false, ([], 0, 0, false, false), [], 0, 0, false, false)).2).2).1) = 0)) && ((decide ((((((v3.1.1.getD 2 (0, 0, 0, 0, (false, [], []), [], false, ([], 0, 0, false, false), [], 0, 0, false, false)).2).2).2).1) = 1)) && (((((((((v3.1.1.getD 2 (0, 0, 0, 0, (false, [], []), [], false, ([], 0, 0, false, false), [], 0, 0, false, false)).2).2).2).2).1).1) == false) && ((decide (((((((((v3.1.1.getD 2 (0, 0, 0, 0, (false, [], []), [], false, ([], 0, 0, false, false), [], 0, 0, false, false)).2).2).2).2).1).2).1) = [])) && ((decide (((((((((v3.1.1.getD 2 (0, 0, 0, 0, (false, [], []), [], false, ([], 0, 0, false, false), [], 0, 0, false, false)).2).2).2).2).1).2).2) = [])) && ((decide ((((((((v3.1.1.getD 2 (0, 0, 0, 0, (false, [], []), [], false, ([], 0, 0, false, false), [], 0, 0, false, false)).2).2).2).2).2).1) = [])) && ((((((((((v3.1.1.getD 2 (0, 0, 0, 0, (false, [], []), [], false, ([], 0, 0, false, false), [], 0, 0, false, false)).2).2).2).2).2).2).1) == false) && ((decide (((((((((((v3.1.1.getD 2 (0, 0, 0, 0, (false, [], []), [], false, ([], 0, 0, false, false), [], 0, 0, false, false)).2).2).2).2).2).2).2).1).1) = [])) && ((decide ((((((((((((v3.1.1.getD 2 (0, 0, 0, 0, (false, [], []), [], false, ([], 0, 0, false, false), [], 0, 0, false, false)).2).2).2).2).2).2).2).1).2).1) = 0)) && ((decide (((((((((((((v3.1.1.getD 2 (0, 0, 0, 0, (false, [], []), [], false, ([], 0, 0, false, false), [], 0, 0, false, false)).2).2).2).2).2).2).2).1).2).2).1) = 0)) && (((((((((((((((v3.1.1.getD 2 (0, 0, 0, 0, (false, [], []), [], false, ([], 0, 0, false, false), [], 0, 0, false, false)).2).2).2).2).2).2).2).1).2).2).2).1) == false) && (((((((((((((((v3.1.1.getD 2 (0, 0, 0, 0, (false, [], []), [], false, ([], 0, 0, false, false), [], 0, 0, false, false)).2).2).2).2).2).2).2).1).2).2).2).2) == false) && ((decide (((((((((((v3.1.1.getD 2 (0, 0, 0, 0, (false, [], []), [], false, ([], 0, 0, false, false), [], 0, 0, false, false)).2).2).2).2).2).2).2).2).1) = [])) && ((decide ((((((((((((v3.1.1.getD 2 (0, 0, 0, 0, (false, [], []), [], false, ([], 0, 0, false, false), [], 0, 0, false, false)).2).2).2).2).2).2).2).2).2).1) = 0)) && ((decide (((((((((((((v3.1.1.getD 2 (0, 0, 0, 0, (false, [], []), [], false, ([], 0, 0, false, false), [], 0, 0, false, false)).2).2).2).2).2).2).2).2).2).2).1) = 0)) && (((((((((((((((v3.1.1.getD 2 (0, 0, 0, 0, (false, [], []), [], false, ([], 0, 0, false, false), [], 0, 0, false, false)).2).2).2).2).2).2).2).2).2).2).2).1) == false) && ((((((((((((((v3.1.1.getD 2 (0, 0, 0, 0, (false, [], []), [], false, ([], 0, 0, false, false), [], 0, 0, false, false)).2).2).2).2).2).2).2).2).2).2).2).2) == false))))))))))))))))))) (cond (decide (v5.2 = 3)) ((ast_Right v3.1).bind fun v6 => cond v6 ((ast_Right ([], [])).bind fun v7 => some (!v7)) (some false)) (some false)) (some false)) none) (some false)) (some false) := (top_call ..).trans (by kernel_rfl)
theorem ast_Right_eq (x0 : (List (TN9)) × List Int) : ast_Right x0 = (ast_whole x0).bind fun v1 => some v1.2 := (top_call ..).trans (by kernel_rfl)
theorem ast_Kids_eq (x0 : (List (TN9)) × List Int) (x1 : Int) : ast_Kids x0 x1 = (ast_Right x0).bind fun v1 => cond (!v1) (ast_Kids_1 x1 true x0) (cond (decide (x1 < 0)) (ast_Kids_1 x1 true x0) (ast_Kids_1 x1 (decide (x1 ≥ (x0.1.length : Int))) x0)) := (top_call ..).trans (by kernel_rfl)
theorem ast_Kids_1_eq (a1 : Int) (a2 : Bool) (a3 : (List (TN9)) × List Int) : ast_Kids_1 a1 a2 a3 = cond a2 (some []) (cond (decide (0 ≤ a1) && decide (a1 < (a3.1.length : Int))) ((ast_kids (a3.1.getD a1.toNat (0, 0, 0, 0, (false, [], []), [], false, ([], 0, 0, false, false), [], 0, 0, false, false)) a3.2).bind fun v1 => (slices_Clone_int_int v1.1).bind fun v2 => some v2) none) := (top_stage ..).trans (by kernel_rfl)
theorem ast_Level_eq (x0 : TN9) : ast_Level x0 = cond (decide (x0.1 = 7)) (cond (decide (x0.2.1 = 13)) (some 6) (cond (decide (x0.2.1 = 14)) (some 7) (some 8))) (cond (decide (x0.1 = 8)) (cond (decide (x0.2.1 = 1)) (ast_Level_1 x0.2.1 true x0) (ast_Level_1 x0.2.1 (decide (x0.2.1 = 2)) x0)) (some 8)) := (top_call ..).trans (by kernel_rfl)
theorem ast_Level_1_eq (a1 : Int) (a2 : Bool) (a3 : TN9) : ast_Level_1 a1 a2 a3 = cond a2 (some 3) (cond (decide (a1 = 3)) (ast_Level_2 a1 true a3) (ast_Level_2 a1 (decide (a1 = 4)) a3)) := (top_stage ..).trans (by kernel_rfl)
theorem ast_Level_2_eq (a1 : Int) (a2 : Bool) (a3 : TN9) : ast_Level_2 a1 a2 a3 = cond a2 (some 4) (cond (decide (a1 = 5)) (some 5) (cond (decide (a1 = 6)) (some 2) (cond (decide (a3.2.1 ≥ 7)) (ast_Level_3 (decide (a3.2.1 ≤ 12))) (ast_Level_3 false)))) := (top_stage ..).trans (by kernel_rfl)
theorem ast_Level_3_eq (a1 : Bool) : ast_Level_3 a1 = cond a1 (some 1) (some 8) := (top_stage ..).trans (by kernel_rfl)
theorem abacistref13_Same_eq (x0 : (List (TN9)) × List Int) (x1 : (List (TN9)) × List Int) : abacistref13_Same x0 x1 = cond (!decide ((x0.1.length : Int) = (x1.1.length : Int))) (abacistref13_Same_1 true x0 x1) (abacistref13_Same_1 (!decide ((x0.2.length : Int) = (x1.2.length : Int))) x0 x1) := (top_call ..).trans (by kernel_rfl)
theorem abacistref13_Same_1_eq (a1 : Bool) (a2 : (List (TN9)) × List Int) (a3 : (List (TN9)) × List Int) : abacistref13_Same_1 a1 a2 a3 = cond a1 (some false) (abacistref13_Same_2 0 a2 a3) := (top_stage ..).trans (by kernel_rfl)
theorem abacistref13_Same_2_eq (a1 : Int) (a2 : (List (TN9)) × List Int) (a3 : (List (TN9)) × List Int) : abacistref13_Same_2 a1 a2 a3 = cond (decide (a1 < (a2.1.length : Int))) (cond (decide (0 ≤ a1) && decide (a1 < (a2.1.length : Int))) (cond (decide (0 ≤ a1) && decide (a1 < (a3.1.length : Int))) (cond (!((decide (((a2.1.getD a1.toNat (0, 0, 0, 0, (false, [], []), [], false, ([], 0, 0, false, false), [], 0, 0, false, false)).1) = ((a3.1.getD a1.toNat (0, 0, 0, 0, (false, [], []), [], false, ([], 0, 0, false, false), [], 0, 0, false, false)).1))) && ((decide ((((a2.1.getD a1.toNat (0, 0, 0, 0, (false, [], []), [], false, ([], 0, 0, false, false), [], 0, 0, false, false)).2).1) = (((a3.1.getD a1.toNat (0, 0, 0, 0, (false, [], []), [], false, ([], 0, 0, false, false), [], 0, 0, false, false)).2).1))) && ((decide (((((a2.1.getD a1.toNat (0, 0, 0, 0, (false, [], []), [], false, ([], 0, 0, false, false), [], 0, 0, false, false)).2).2).1) = ((((a3.1.getD a1.toNat (0, 0, 0, 0, (false, [], []), [], false, ([], 0, 0, false, false), [], 0, 0, false, false)).2).2).1))) && ((decide ((((((a2.1.getD a1.toNat (0, 0, 0, 0, (false, [], []), [], false, ([], 0, 0, false, false), [], 0, 0, false, false)).2).2).2).1) = (((((a3.1.getD a1.toNat (0, 0, 0, 0, (false, [], []), [], false, ([], 0, 0, false, false), [], 0, 0, false, false)).2).2).2).1))) && (((((((((a2.1.getD a1.toNat (0, 0, 0, 0, (false, [], []), [], false, ([], 0, 0, false, false), [], 0, 0, false, false)).2).2).2).2).1).1) == (((((((a3.1.getD a1.toNat (0, 0, 0, 0, (false, [], []), [], false, ([], 0, 0, false, false), [], 0, 0, false, false)).2).2).2).2).1).1)) && ((decide (((((((((a2.1.getD a1.toNat (0, 0, 0, 0, (false, [], []), [], false, ([], 0, 0, false, false), [], 0, 0, false, false)).2).2).2).2).1).2).1) = ((((((((a3.1.getD a1.toNat (0, 0, 0, 0, (false, [], []), [], false, ([], 0, 0, false, false), [], 0, 0, false, false)).2).2).2).2).1).2).1))) && ((decide (((((((((a2.1.getD a1.toNat (0, 0, 0, 0, (false, [], []), [], false, ([], 0, 0, false, false), [], 0, 0, false, false)).2).2).2).2).1).2).2) = ((((((((a3.1.getD a1.toNat (0, 0, 0, 0, (false, [], []), [], false, ([], 0, 0, false, false), [], 0, 0, false, false)).2).2).2).2).1).2).2))) && ((decide ((((((((a2.1.getD a1.toNat (0, 0, 0, 0, (false, [], []), [], false, ([], 0, 0, false, false), [], 0, 0, false, false)).2).2).2).2).2).1) = (((((((a3.1.getD a1.toNat (0, 0, 0, 0, (false, [], []), [], false, ([], 0, 0, false, false), [], 0, 0, false, false)).2).2).2).2).2).1))) && ((((((((((a2.1.getD a1.toNat (0, 0, 0, 0, (false, [], []), [], false, ([], 0, 0, false, false), [], 0, 0, false, false)).2).2).2).2).2).2).1) == ((((((((a3.1.getD a1.toNat (0, 0, 0, 0, (false, [], []), [], false, ([], 0, 0, false, false), [], 0, 0, false, false)).2).2).2).2).2).2).1)) && ((decide (((((((((((a2.1.getD a1.toNat (0, 0, 0, 0, (false, [], []), [], false, ([], 0, 0, false, false), [], 0, 0, false, false)).2).2).2).2).2).2).2).1).1) = ((((((((((a3.1.getD a1.toNat (0, 0, 0, 0, (false, [], []), [], false, ([], 0, 0, false, false), [], 0, 0, false, false)).2).2).2).2).2).2).2).1).1))) && ((decide ((((((((((((a2.1.getD a1.toNat (0, 0, 0, 0, (false, [], []), [], false, ([], 0, 0, false, false), [], 0, 0, false, false)).2).2).2).2).2).2).2).1).2).1) = (((((((((((a3.1.getD a1.toNat (0, 0, 0, 0, (false, [], []), [], false, ([], 0, 0, false, false), [], 0, 0, false, false)).2).2).2).2).2).2).2).1).2).1))) && ((decide (((((((((((((a2.1.getD a1.toNat (0, 0, 0, 0, (false, [], []), [], false, ([], 0, 0, false, false), [], 0, 0, false, false)).2).2).2).2).2).2).2).1).2).2).1) = ((((((((((((a3.1.getD a1.toNat (0, 0, 0, 0, (false, [], []), [], false, ([], 0, 0, false, false), [], 0, 0, false, false)).2).2).2).2).2).2).2).1).2).2).1))) && (((((((((((((((a2.1.getD a1.toNat (0, 0, 0, 0, (false, [], []), [], false, ([], 0, 0, false, false), [], 0, 0, false, false)).2).2).2).2).2).2).2).1).2).2).2).1) == (((((((((((((a3.1.getD a1.toNat (0, 0, 0, 0, (false, [], []), [], false, ([], 0, 0, false, false), [], 0, 0, false, false)).2).2).2).2).2).2).2).1).2).2).2).1)) && (((((((((((((((a2.1.getD a1.toNat (0, 0, 0, 0, (false, [], []), [], false, ([], 0, 0, false, false), [], 0, 0, false, false)).2).2).2).2).2).2).2).1).2).2).2).2) == (((((((((((((a3.1.getD a1.toNat (0, 0, 0, 0, (false, [], []), [], false, ([], 0, 0, false, false), [], 0, 0, false, false)).2).2).2).2).2).2).2).1).2).2).2).2)) && ((decide (((((((((((a2.1.getD a1.toNat (0, 0, 0, 0, (false, [], []), [], false, ([], 0, 0, false, false), [], 0, 0, false, false)).2).2).2).2).2).2).2).2).1) = ((((((((((a3.1.getD a1.toNat (0, 0, 0, 0, (false, [], []), [], false, ([], 0, 0, false, false), [], 0, 0, false, false)).2).2).2).2).2).2).2).2).1))) && ((decide ((((((((((((a2.1.getD a1.toNat (0, 0, 0, 0, (false, [], []), [], false, ([], 0, 0, false, false), [], 0, 0, false, false)).2).2).2).2).2).2).2).2).2).1) = (((((((((((a3.1.getD a1.toNat (0, 0, 0, 0, (false, [], []), [], false, ([], 0, 0, false, false), [], 0, 0, false, false)).2).2).2).2).2).2).2).2).2).1))) && ((decide (((((((((((((a2.1.getD a1.toNat (0, 0, 0, 0, (false, [], []), [], false, ([], 0, 0, false, false), [], 0, 0, false, false)).2).2).2).2).2).2).2).2).2).2).1) = ((((((((((((a3.1.getD a1.toNat (0, 0, 0, 0, (false, [], []), [], false, ([], 0, 0, false, false), [], 0, 0, false, false)).2).2).2).2).2).2).2).2).2).2).1))) && (((((((((((((((a2.1.getD a1.toNat (0, 0, 0, 0, (false, [], []), [], false, ([], 0, 0, false, false), [], 0, 0, false, false)).2).2).2).2).2).2).2).2).2).2).2).1) == (((((((((((((a3.1.getD a1.toNat (0, 0, 0, 0, (false, [], []), [], false, ([], 0, 0, false, false), [], 0, 0, false, false)).2).2).2).2).2).2).2).2).2).2).2).1)) && ((((((((((((((a2.1.getD a1.toNat (0, 0, 0, 0, (false, [], []), [], false, ([], 0, 0, false, false), [], 0, 0, false, false)).2).2).2).2).2).2).2).2).2).2).2).2) == (((((((((((((a3.1.getD a1.toNat (0, 0, 0, 0, (false, [], []), [], false, ([], 0, 0, false, false), [], 0, 0, false, false)).2).2).2).2).2).2).2).2).2).2).2).2))))))))))))))))))))) (some false) (abacistref13_Same_2 (IntKind.i64.wrap (a1 + 1)) a2 a3)) none) none) (abacistref13_Same_3 0 a2 a3) := (top_stage ..).trans (by kernel_rfl)
theorem abacistref13_Same_3_eq (a1 : Int) (a2 : (List (TN9)) × List Int) (a3 : (List (TN9)) × List Int) : abacistref13_Same_3 a1 a2 a3 = cond (decide (a1 < (a2.2.length : Int))) (cond (decide (0 ≤ a1) && decide (a1 < (a2.2.length : Int))) (cond (decide (0 ≤ a1) && decide (a1 < (a3.2.length : Int))) (cond (!decide ((a2.2.getD a1.toNat 0) = (a3.2.getD a1.toNat 0))) (some false) (abacistref13_Same_3 (IntKind.i64.wrap (a1 + 1)) a2 a3)) none) none) (some true) := (top_stage ..).trans (by kernel_rfl)
theorem ast_Two_eq (x0 : Int) (x1 : (List (TN9)) × List Int) (x2 : (List (TN9)) × List Int) : ast_Two x0 x1 x2 = (ast_Right x1).bind fun v1 => cond (!v1) (ast_Two_1 true x1 x2 ([], []) (8, x0, IntKind.i64.wrap ((x1.1.length : Int) - 1), IntKind.i64.wrap ((IntKind.i64.wrap ((x1.1.length : Int) + (x2.1.length : Int))) - 1), (false, [], []), [], false, ([], 0, 0, false, false), [], 0, 0, false, false)) ((ast_Right x2).bind fun v2 => cond (!v2) (ast_Two_1 true x1 x2 ([], []) (8, x0, IntKind.i64.wrap ((x1.1.length : Int) - 1), IntKind.i64.wrap ((IntKind.i64.wrap ((x1.1.length : Int) + (x2.1.length : Int))) - 1), (false, [], []), [], false, ([], 0, 0, false, false), [], 0, 0, false, false)) ((ast_may (8, x0, IntKind.i64.wrap ((x1.1.length : Int) - 1), IntKind.i64.wrap ((IntKind.i64.wrap ((x1.1.length : Int) + (x2.1.length : Int))) - 1), (false, [], []), [], false, ([], 0, 0, false, false), [], 0, 0, false, false)).bind fun v3 => ast_Two_1 (!v3) x1 x2 ([], []) (8, x0, IntKind.i64.wrap ((x1.1.length : Int) - 1), IntKind.i64.wrap ((IntKind.i64.wrap ((x1.1.length : Int) + (x2.1.length : Int))) - 1), (false, [], []), [], false, ([], 0, 0, false, false), [], 0, 0, false, false))) := (top_call ..).trans (by kernel_rfl)
theorem ast_Two_1_eq (a1 : Bool) (a2 : (List (TN9)) × List Int) (a3 : (List (TN9)) × List Int) (a4 : (List (TN9)) × List Int) (a5 : TN9) : ast_Two_1 a1 a2 a3 a4 a5 = cond a1 (some (([], []), 3)) ((ast_behind a2 a3).bind fun v1 => eqOr (ast_Two_2 a5 a2 a3 a4 a5 v1.1 v1.2) (ast_Two_3 a5 a2 a3 a4 a5 v1.1 v1.2)) := (top_stage ..).trans (by kernel_rfl)
theorem ast_Two_2_eq (a1 : TN9) (a2 : (List (TN9)) × List Int) (a3 : (List (TN9)) × List Int) (a4 : (List (TN9)) × List Int) (a5 : TN9) (a6 : List (TN9)) (a7 : List Int) : ast_Two_2 a1 a2 a3 a4 a5 a6 a7 = cond (Nat.ble ((a6.length + [a1].length) * 176) 140737488355328) (cond (decide (((a6 ++ [a1]).length : Int) > 300)) (some (([], []), 9)) ((ast_Right (a6 ++ [a1], a7)).bind fun v1 => cond (!v1) (some (([], []), 8)) (some ((a6 ++ [a1], a7), 0)))) none := (top_stage ..).trans (by kernel_rfl)
theorem ast_Two_3_eq (a1 : TN9) (a2 : (List (TN9)) × List Int) (a3 : (List (TN9)) × List Int) (a4 : (List (TN9)) × List Int) (a5 : TN9) (a6 : List (TN9)) (a7 : List Int) : ast_Two_3 a1 a2 a3 a4 a5 a6 a7 = cond (Nat.ble ((a6.length + [a1].length) * 176) 140737488355328) (cond (decide (((a6 ++ [a1]).length : Int) > 300)) (some (([], []), 9)) ((ast_Right (a6 ++ [a1], a7)).bind fun v1 => cond (!v1) (some (([], []), 8)) (some ((a6 ++ [a1], a7), 0)))) none := (top_stage ..).trans (by kernel_rfl)
theorem ast_Part_eq (x0 : (List (TN9)) × List Int) (x1 : Int) : ast_Part x0 x1 = (ast_Right x0).bind fun v1 => cond (!v1) (some (([], []), 3)) (cond (decide (x1 < 0)) (ast_Part_1 x1 0 true x0 ([], [])) (ast_Part_1 x1 0 (decide (x1 ≥ (x0.1.length : Int))) x0 ([], []))) := (top_call ..).trans (by kernel_rfl)
theorem ast_Part_1_eq (a1 : Int) (a2 : Int) (a3 : Bool) (a4 : (List (TN9)) × List Int) (a5 : (List (TN9)) × List Int) : ast_Part_1 a1 a2 a3 a4 a5 = cond a3 (some (([], []), 2)) (ast_Part_2 a4 a1 a4 a5 a1 (a4.2.length : Int) a1 a2) := (top_stage ..).trans (by kernel_rfl)
theorem ast_Part_2_eq (a1 : (List (TN9)) × List Int) (a2 : Int) (a3 : (List (TN9)) × List Int) (a4 : (List (TN9)) × List Int) (a5 : Int) (a6 : Int) (a7 : Int) (a8 : Int) : ast_Part_2 a1 a2 a3 a4 a5 a6 a7 a8 = ast_Part_3 a3 a4 a5 a6 a1 a2 a7 a8 := (top_stage ..).trans (by kernel_rfl)
theorem ast_Part_3_eq (a1 : (List (TN9)) × List Int) (a2 : (List (TN9)) × List Int) (a3 : Int) (a4 : Int) (a5 : (List (TN9)) × List Int) (a6 : Int) (a7 : Int) (a8 : Int) : ast_Part_3 a1 a2 a3 a4 a5 a6 a7 a8 = ast_Part_4 1 a6 a5 a1 a2 a3 a4 a7 a8 := (top_stage ..).trans (by kernel_rfl)
theorem ast_Part_4_eq (a1 : Int) (a2 : Int) (a3 : (List (TN9)) × List Int) (a4 : (List (TN9)) × List Int) (a5 : (List (TN9)) × List Int) (a6 : Int) (a7 : Int) (a8 : Int) (a9 : Int) : ast_Part_4 a1 a2 a3 a4 a5 a6 a7 a8 a9 = cond (decide (a1 > 0)) (cond (decide (0 ≤ a2) && decide (a2 < (a3.1.length : Int))) ((ast_kids (a3.1.getD a2.toNat (0, 0, 0, 0, (false, [], []), [], false, ([], 0, 0, false, false), [], 0, 0, false, false)) a3.2).bind fun v1 => ast_Part_5 a8 a9 a2 a2 a3 a4 a5 a6 a7 (IntKind.i64.wrap (a1 + (IntKind.i64.wrap ((v1.1.length : Int) - 1)))) a8 a9) none) (cond (decide (0 ≤ a6) && (decide (a6 ≤ (IntKind.i64.wrap (a8 + 1))) && decide ((IntKind.i64.wrap (a8 + 1)) ≤ (a4.1.length : Int)))) (ast_Part_6 ((a4.1.take ((IntKind.i64.wrap (a8 + 1)).toNat)).drop a6.toNat) (((a4.1.take ((IntKind.i64.wrap (a8 + 1)).toNat)).drop a6.toNat).length : Int) 0 [] [] a4 a5 a6 a7) none) := (top_stage ..).trans (by kernel_rfl)
theorem ast_Part_5_eq (a1 : Int) (a2 : Int) (a3 : Int) (a4 : Int) (a5 : (List (TN9)) × List Int) (a6 : (List (TN9)) × List Int) (a7 : (List (TN9)) × List Int) (a8 : Int) (a9 : Int) (a10 : Int) (a11 : Int) (a12 : Int) : ast_Part_5 a1 a2 a3 a4 a5 a6 a7 a8 a9 a10 a11 a12 = cond (decide (0 ≤ a3) && decide (a3 < (a6.1.length : Int))) (cond (decide (((a6.1.getD a3.toNat (0, 0, 0, 0, (false, [], []), [], false, ([], 0, 0, false, false), [], 0, 0, false, false)).1) = 9)) (ast_Part_7 (decide ((((((a6.1.getD a3.toNat (0, 0, 0, 0, (false, [], []), [], false, ([], 0, 0, false, false), [], 0, 0, false, false)).2).2).2).1) > 0)) a9 (a6.1.getD a3.toNat (0, 0, 0, 0, (false, [], []), [], false, ([], 0, 0, false, false), [], 0, 0, false, false)) a4 a5 a6 a7 a3 a10 a11 a12) (ast_Part_7 false a9 (a6.1.getD a3.toNat (0, 0, 0, 0, (false, [], []), [], false, ([], 0, 0, false, false), [], 0, 0, false, false)) a4 a5 a6 a7 a3 a10 a11 a12)) none := (top_stage ..).trans (by kernel_rfl)
theorem ast_Part_6_eq (a1 : List (TN9)) (a2 : Int) (a3 : Int) (a4 : List (TN9)) (a5 : List Int) (a6 : (List (TN9)) × List Int) (a7 : (List (TN9)) × List Int) (a8 : Int) (a9 : Int) : ast_Part_6 a1 a2 a3 a4 a5 a6 a7 a8 a9 = cond (decide (a3 < a2)) (cond (decide (0 ≤ a3) && decide (a3 < (a1.length : Int))) (cond (decide (((a1.getD a3.toNat (0, 0, 0, 0, (false, [], []), [], false, ([], 0, 0, false, false), [], 0, 0, false, false)).1) = 9)) (cond (decide (0 ≤ ((((a1.getD a3.toNat (0, 0, 0, 0, (false, [], []), [], false, ([], 0, 0, false, false), [], 0, 0, false, false)).2).2).1)) && (decide (((((a1.getD a3.toNat (0, 0, 0, 0, (false, [], []), [], false, ([], 0, 0, false, false), [], 0, 0, false, false)).2).2).1) ≤ (IntKind.i64.wrap (((((a1.getD a3.toNat (0, 0, 0, 0, (false, [], []), [], false, ([], 0, 0, false, false), [], 0, 0, false, false)).2).2).1) + (((((a1.getD a3.toNat (0, 0, 0, 0, (false, [], []), [], false, ([], 0, 0, false, false), [], 0, 0, false, false)).2).2).2).1)))) && decide ((IntKind.i64.wrap (((((a1.getD a3.toNat (0, 0, 0, 0, (false, [], []), [], false, ([], 0, 0, false, false), [], 0, 0, false, false)).2).2).1) + (((((a1.getD a3.toNat (0, 0, 0, 0, (false, [], []), [], false, ([], 0, 0, false, false), [], 0, 0, false, false)).2).2).2).1))) ≤ (a6.2.length : Int)))) (ast_Part_8 a1 a2 a3 ((a6.2.take ((IntKind.i64.wrap (((((a1.getD a3.toNat (0, 0, 0, 0, (false, [], []), [], false, ([], 0, 0, false, false), [], 0, 0, false, false)).2).2).1) + (((((a1.getD a3.toNat (0, 0, 0, 0, (false, [], []), [], false, ([], 0, 0, false, false), [], 0, 0, false, false)).2).2).2).1))).toNat)).drop (((((a1.getD a3.toNat (0, 0, 0, 0, (false, [], []), [], false, ([], 0, 0, false, false), [], 0, 0, false, false)).2).2).1).toNat)) (((a6.2.take ((IntKind.i64.wrap (((((a1.getD a3.toNat (0, 0, 0, 0, (false, [], []), [], false, ([], 0, 0, false, false), [], 0, 0, false, false)).2).2).1) + (((((a1.getD a3.toNat (0, 0, 0, 0, (false, [], []), [], false, ([], 0, 0, false, false), [], 0, 0, false, false)).2).2).2).1))).toNat)).drop (((((a1.getD a3.toNat (0, 0, 0, 0, (false, [], []), [], false, ([], 0, 0, false, false), [], 0, 0, false, false)).2).2).1).toNat)).length : Int) 0 a4 a5 a6 a7 a8 a9 (a1.getD a3.toNat (0, 0, 0, 0, (false, [], []), [], false, ([], 0, 0, false, false), [], 0, 0, false, false))) none) ((ast_moved (a1.getD a3.toNat (0, 0, 0, 0, (false, [], []), [], false, ([], 0, 0, false, false), [], 0, 0, false, false)) (IntKind.i64.wrap (0 - a8)) (IntKind.i64.wrap (0 - a9))).bind fun v1 => cond (Nat.ble ((a4.length + [v1].length) * 176) 140737488355328) (ast_Part_6 a1 a2 (IntKind.i64.wrap (a3 + 1)) (a4 ++ [v1]) a5 a6 a7 a8 a9) none)) none) (some ((a4, a5), 0)) := (top_stage ..).trans (by kernel_rfl)
theorem ast_Part_7_eq (a1 : Bool) (a2 : Int) (a3 : TN9) (a4 : Int) (a5 : (List (TN9)) × List Int) (a6 : (List (TN9)) × List Int) (a7 : (List (TN9)) × List Int) (a8 : Int) (a9 : Int) (a10 : Int) (a11 : Int) : ast_Part_7 a1 a2 a3 a4 a5 a6 a7 a8 a9 a10 a11 = cond a1 (ast_Part_9 a9 false a4 a5 a6 a7 a8 a3.2.2.1 a10 a11) (ast_Part_9 a9 false a4 a5 a6 a7 a8 a2 a10 a11) := (top_stage ..).trans (by kernel_rfl)
theorem ast_Part_8_eq (a1 : List (TN9)) (a2 : Int) (a3 : Int) (a4 : List Int) (a5 : Int) (a6 : Int) (a7 : List (TN9)) (a8 : List Int) (a9 : (List (TN9)) × List Int) (a10 : (List (TN9)) × List Int) (a11 : Int) (a12 : Int) (a13 : TN9) : ast_Part_8 a1 a2 a3 a4 a5 a6 a7 a8 a9 a10 a11 a12 a13 = cond (decide (a6 < a5)) (cond (decide (0 ≤ a6) && decide (a6 < (a4.length : Int))) (cond (Nat.ble ((a8.length + [IntKind.i64.wrap ((a4.getD a6.toNat 0) - a11)].length) * 8) 140737488355328) (ast_Part_8 a1 a2 a3 a4 a5 (IntKind.i64.wrap (a6 + 1)) a7 (a8 ++ [IntKind.i64.wrap ((a4.getD a6.toNat 0) - a11)]) a9 a10 a11 a12 a13) none) none) ((ast_moved a13 (IntKind.i64.wrap (0 - a11)) (IntKind.i64.wrap (0 - a12))).bind fun v1 => cond (Nat.ble ((a7.length + [v1].length) * 176) 140737488355328) (ast_Part_6 a1 a2 (IntKind.i64.wrap (a3 + 1)) (a7 ++ [v1]) a8 a9 a10 a11 a12) none) := (top_stage ..).trans (by kernel_rfl)
theorem ast_Part_9_eq (a1 : Int) (a2 : Bool) (a3 : Int) (a4 : (List (TN9)) × List Int) (a5 : (List (TN9)) × List Int) (a6 : (List (TN9)) × List Int) (a7 : Int) (a8 : Int) (a9 : Int) (a10 : Int) : ast_Part_9 a1 a2 a3 a4 a5 a6 a7 a8 a9 a10 = cond a2 (cond (decide (0 ≤ a7) && (decide (a7 ≤ (IntKind.i64.wrap (a9 + 1))) && decide ((IntKind.i64.wrap (a9 + 1)) ≤ (a5.1.length : Int)))) (ast_Part_6 ((a5.1.take ((IntKind.i64.wrap (a9 + 1)).toNat)).drop a7.toNat) (((a5.1.take ((IntKind.i64.wrap (a9 + 1)).toNat)).drop a7.toNat).length : Int) 0 [] [] a5 a6 a7 a8) none) (ast_Part_4 a1 (IntKind.i64.wrap (a3 - 1)) a4 a5 a6 a7 a8 a9 a10) := (top_stage ..).trans (by kernel_rfl)
theorem ast_Call_eq (x0 : TB9) (x1 : List TG9) : ast_Call x0 x1 = ast_Call_1 x1 x0 x1 := (top_call ..).trans (by kernel_rfl)
theorem ast_Call_1_eq (a1 : List TG9) (a2 : TB9) (a3 : List TG9) : ast_Call_1 a1 a2 a3 = ast_Call_2 a1 a2 a3 := (top_stage ..).trans (by kernel_rfl)
theorem ast_Call_2_eq (a1 : List TG9) (a2 : TB9) (a3 : List TG9) : ast_Call_2 a1 a2 a3 = ast_Call_3 a1 (a1.length : Int) 0 [] [] a2 a3 := (top_stage ..).trans (by kernel_rfl)
theorem ast_Call_3_eq (a1 : List TG9) (a2 : Int) (a3 : Int) (a4 : List (TN9)) (a5 : List Int) (a6 : TB9) (a7 : List TG9) : ast_Call_3 a1 a2 a3 a4 a5 a6 a7 = cond (decide (a3 < a2)) (cond (decide (0 ≤ a3) && decide (a3 < (a1.length : Int))) (ast_Call_4 (a1.getD a3.toNat ([], [])) a4 a5 a1 a3 a2 a3 a6 a7) none) (cond (decide ((-1) ≥ 0)) (ast_Call_5 a6 a7 true (a4, a5)) ((ast_named a6).bind fun v1 => ast_Call_5 a6 a7 (!v1) (a4, a5))) := (top_stage ..).trans (by kernel_rfl)
theorem ast_Call_4_eq (a1 : (List (TN9)) × List Int) (a2 : List (TN9)) (a3 : List Int) (a4 : List TG9) (a5 : Int) (a6 : Int) (a7 : Int) (a8 : TB9) (a9 : List TG9) : ast_Call_4 a1 a2 a3 a4 a5 a6 a7 a8 a9 = (ast_Right a1).bind fun v1 => cond (!v1) (cond (decide (a5 ≥ 0)) (ast_Call_5 a8 a9 true (a2, a3)) ((ast_named a8).bind fun v2 => ast_Call_5 a8 a9 (!v2) (a2, a3))) (ast_Call_3 a4 a6 (IntKind.i64.wrap (a7 + 1)) a2 a3 a8 a9) := (top_stage ..).trans (by kernel_rfl)
theorem ast_Call_5_eq (a1 : TB9) (a2 : List TG9) (a3 : Bool) (a4 : (List (TN9)) × List Int) : ast_Call_5 a1 a2 a3 a4 = cond a3 (some (([], []), 3)) (cond (decide ((a2.length : Int) > 20)) (some (([], []), 2)) (ast_Call_6 a1 a2 a2 (a2.length : Int) 0 [] [] [] a4)) := (top_stage ..).trans (by kernel_rfl)
theorem ast_Call_6_eq (a1 : TB9) (a2 : List TG9) (a3 : List TG9) (a4 : Int) (a5 : Int) (a6 : List Int) (a7 : List (TN9)) (a8 : List Int) (a9 : (List (TN9)) × List Int) : ast_Call_6 a1 a2 a3 a4 a5 a6 a7 a8 a9 = cond (decide (a5 < a4)) (cond (decide (0 ≤ a5) && decide (a5 < (a3.length : Int))) ((ast_behind (a7, a8) (a3.getD a5.toNat ([], []))).bind fun v1 => cond (Nat.ble ((a6.length + [IntKind.i64.wrap ((v1.1.length : Int) - 1)].length) * 8) 140737488355328) (ast_Call_6 a1 a2 a3 a4 (IntKind.i64.wrap (a5 + 1)) (a6 ++ [IntKind.i64.wrap ((v1.1.length : Int) - 1)]) v1.1 v1.2 a9) none) none) (cond (decide ((a2.length : Int) > 0)) (ast_Call_7 a6 a7 a8 a9 (9, 0, (a8.length : Int), (a2.length : Int), (false, [], []), a1, false, ([], 0, 0, false, false), [], 0, 0, false, false)) (ast_Call_7 a6 a7 a8 a9 (9, 0, 0, (a2.length : Int), (false, [], []), a1, false, ([], 0, 0, false, false), [], 0, 0, false, false))) := (top_stage ..).trans (by kernel_rfl)
theorem ast_Call_7_eq (a1 : List Int) (a2 : List (TN9)) (a3 : List Int) (a4 : (List (TN9)) × List Int) (a5 : TN9) : ast_Call_7 a1 a2 a3 a4 a5 = cond (Nat.ble ((a3.length + a1.length) * 8) 140737488355328) (ast_Call_8 a5 a1 a2 a4 a5 (a3 ++ a1)) none := (top_stage ..).trans (by kernel_rfl)
theorem ast_Call_8_eq (a1 : TN9) (a2 : List Int) (a3 : List (TN9)) (a4 : (List (TN9)) × List Int) (a5 : TN9) (a6 : List Int) : ast_Call_8 a1 a2 a3 a4 a5 a6 = cond (Nat.ble ((a3.length + [a1].length) * 176) 140737488355328) (cond (decide (((a3 ++ [a1]).length : Int) > 300)) (some (([], []), 9)) ((ast_Right (a3 ++ [a1], a6)).bind fun v1 => cond (!v1) (some (([], []), 8)) (some ((a3 ++ [a1], a6), 0)))) none := (top_stage ..).trans (by kernel_rfl)
theorem ast_whole_eq (x0 : (List (TN9)) × List Int) : ast_whole x0 = cond (decide ((x0.1.length : Int) > 300)) (some ((0, 0, 0, 0), false)) ((ast_built x0).bind fun v1 => cond v1.2 (some (v1.1, decide (v1.1.2.2.2 ≤ 24))) (some (v1.1, false))) := (top_call ..).trans (by kernel_rfl)
theorem ast_kids_eq (x0 : TN9) (x1 : List Int) : ast_kids x0 x1 = cond (decide (x0.1 = 7)) (some ([x0.2.2.1], true)) (cond (decide (x0.1 = 8)) (some ([x0.2.2.1, x0.2.2.2.1], true)) (cond (decide (x0.1 = 9)) (cond (decide (x0.2.2.1 < 0)) (ast_kids_1 x1 true x0) (cond (decide (x0.2.2.1 > (x1.length : Int))) (ast_kids_1 x1 true x0) (ast_kids_1 x1 (decide (x0.2.2.2.1 > (IntKind.i64.wrap ((x1.length : Int) - x0.2.2.1)))) x0))) (some ([], true)))) := (top_call ..).trans (by kernel_rfl)
theorem ast_kids_1_eq (a1 : List Int) (a2 : Bool) (a3 : TN9) : ast_kids_1 a1 a2 a3 = cond a2 (some ([], false)) (cond (decide (0 ≤ a3.2.2.1) && (decide (a3.2.2.1 ≤ (IntKind.i64.wrap (a3.2.2.1 + a3.2.2.2.1))) && (decide ((IntKind.i64.wrap (a3.2.2.1 + a3.2.2.2.1)) ≤ (IntKind.i64.wrap (a3.2.2.1 + a3.2.2.2.1))) && decide ((IntKind.i64.wrap (a3.2.2.1 + a3.2.2.2.1)) ≤ (a1.length : Int))))) (cond (decide ((IntKind.i64.wrap (a3.2.2.1 + a3.2.2.2.1)) = (IntKind.i64.wrap (a3.2.2.1 + a3.2.2.2.1)))) (some ((a1.take ((IntKind.i64.wrap (a3.2.2.1 + a3.2.2.2.1)).toNat)).drop a3.2.2.1.toNat, true)) (some ((a1.take ((IntKind.i64.wrap (a3.2.2.1 + a3.2.2.2.1)).toNat)).drop a3.2.2.1.toNat, true))) none) := (top_stage ..).trans (by kernel_rfl)
theorem slices_Clone_int_int_eq (x0 : List Int) : slices_Clone_int_int x0 = cond (decide (0 < x0.length)) (slices_Clone_int_int_1 x0 false) (slices_Clone_int_int_2 x0) := (top_call ..).trans (by kernel_rfl)
theorem slices_Clone_int_int_1_eq (a1 : List Int) (a2 : Bool) : slices_Clone_int_int_1 a1 a2 = cond a2 (some []) (cond (Nat.ble ((([] : List Int).length + a1.length) * 8) 140737488355328) (some (([] : List Int) ++ a1)) none) := (top_stage ..).trans (by kernel_rfl)
theorem slices_Clone_int_int_2_eq (a1 : List Int) : slices_Clone_int_int_2 a1 = eqOr (some []) (cond (Nat.ble ((([] : List Int).length + a1.length) * 8) 140737488355328) (some (([] : List Int) ++ a1)) none) := (top_stage ..).trans (by kernel_rfl)
theorem ast_may_eq (x0 : TN9) : ast_may x0 = cond (decide (x0.1 = 1)) ((ast_number x0.2.2.2.2.1).bind fun v1 => ast_may_1 v1 x0 (x0.1, 0, 0, 0, x0.2.2.2.2.1, [], false, ([], 0, 0, false, false), [], 0, 0, false, false)) (cond (decide (x0.1 = 2)) ((value_Text x0.2.2.2.2.2.1).bind fun v2 => ast_may_1 (decide (v2.1 = 2)) x0 (x0.1, 0, 0, 0, (false, [], []), x0.2.2.2.2.2.1, false, ([], 0, 0, false, false), [], 0, 0, false, false)) (cond (decide (x0.1 = 3)) (ast_may_1 true x0 (x0.1, 0, 0, 0, (false, [], []), [], x0.2.2.2.2.2.2.1, ([], 0, 0, false, false), [], 0, 0, false, false)) (cond (decide (x0.1 = 4)) ((value_Name x0.2.1).bind fun v3 => ast_may_1 (!decide (v3 = ([] : TB9))) x0 (x0.1, x0.2.1, 0, 0, (false, [], []), [], false, ([], 0, 0, false, false), [], 0, 0, false, false)) (cond (decide (x0.1 = 5)) ((ref_Right x0.2.2.2.2.2.2.2.1).bind fun v4 => ast_may_1 v4 x0 (x0.1, 0, 0, 0, (false, [], []), [], false, x0.2.2.2.2.2.2.2.1, [], 0, 0, false, false)) (cond (decide (x0.1 = 6)) ((ast_box x0.2.2.2.2.2.2.2.1 x0.2.2.2.2.2.2.2.2).bind fun v5 => ast_may_1 v5 x0 (x0.1, 0, 0, 0, (false, [], []), [], false, x0.2.2.2.2.2.2.2)) (cond (decide (x0.1 = 7)) (cond (decide (x0.2.1 = 13)) (ast_may_1 true x0 (x0.1, x0.2.1, x0.2.2.1, 0, (false, [], []), [], false, ([], 0, 0, false, false), [], 0, 0, false, false)) (ast_may_1 (decide (x0.2.1 = 14)) x0 (x0.1, x0.2.1, x0.2.2.1, 0, (false, [], []), [], false, ([], 0, 0, false, false), [], 0, 0, false, false))) (cond (decide (x0.1 = 8)) (cond (decide (x0.2.1 ≥ 1)) (ast_may_1 (decide (x0.2.1 ≤ 12)) x0 (x0.1, x0.2.1, x0.2.2.1, x0.2.2.2.1, (false, [], []), [], false, ([], 0, 0, false, false), [], 0, 0, false, false)) (ast_may_1 false x0 (x0.1, x0.2.1, x0.2.2.1, x0.2.2.2.1, (false, [], []), [], false, ([], 0, 0, false, false), [], 0, 0, false, false))) (cond (decide (x0.1 = 9)) ((ast_named x0.2.2.2.2.2.1).bind fun v6 => cond v6 (cond (decide (x0.2.2.2.1 ≥ 0)) (cond (decide (x0.2.2.2.1 ≤ 20)) (cond (decide (x0.2.2.2.1 > 0)) (ast_may_1 true x0 (x0.1, 0, x0.2.2.1, x0.2.2.2.1, (false, [], []), x0.2.2.2.2.2.1, false, ([], 0, 0, false, false), [], 0, 0, false, false)) (ast_may_1 (decide (x0.2.2.1 = 0)) x0 (x0.1, 0, x0.2.2.1, x0.2.2.2.1, (false, [], []), x0.2.2.2.2.2.1, false, ([], 0, 0, false, false), [], 0, 0, false, false))) (ast_may_1 false x0 (x0.1, 0, x0.2.2.1, x0.2.2.2.1, (false, [], []), x0.2.2.2.2.2.1, false, ([], 0, 0, false, false), [], 0, 0, false, false))) (ast_may_1 false x0 (x0.1, 0, x0.2.2.1, x0.2.2.2.1, (false, [], []), x0.2.2.2.2.2.1, false, ([], 0, 0, false, false), [], 0, 0, false, false))) (ast_may_1 false x0 (x0.1, 0, x0.2.2.1, x0.2.2.2.1, (false, [], []), x0.2.2.2.2.2.1, false, ([], 0, 0, false, false), [], 0, 0, false, false))) (ast_may_1 false x0 (x0.1, 0, 0, 0, (false, [], []), [], false, ([], 0, 0, false, false), [], 0, 0, false, false)))))))))) := (top_call ..).trans (by kernel_rfl)
theorem ast_may_1_eq (a1 : Bool) (a2 : TN9) (a3 : TN9) : ast_may_1 a1 a2 a3 = cond a1 (some ((decide (a3.1 = a2.1)) && ((decide (a3.2.1 = a2.2.1)) && ((decide (a3.2.2.1 = a2.2.2.1)) && ((decide (a3.2.2.2.1 = a2.2.2.2.1)) && ((a3.2.2.2.2.1.1 == a2.2.2.2.2.1.1) && ((decide (a3.2.2.2.2.1.2.1 = a2.2.2.2.2.1.2.1)) && ((decide (a3.2.2.2.2.1.2.2 = a2.2.2.2.2.1.2.2)) && ((decide (a3.2.2.2.2.2.1 = a2.2.2.2.2.2.1)) && ((a3.2.2.2.2.2.2.1 == a2.2.2.2.2.2.2.1) && ((decide (a3.2.2.2.2.2.2.2.1.1 = a2.2.2.2.2.2.2.2.1.1)) && ((decide (a3.2.2.2.2.2.2.2.1.2.1 = a2.2.2.2.2.2.2.2.1.2.1)) && ((decide (a3.2.2.2.2.2.2.2.1.2.2.1 = a2.2.2.2.2.2.2.2.1.2.2.1)) && ((a3.2.2.2.2.2.2.2.1.2.2.2.1 == a2.2.2.2.2.2.2.2.1.2.2.2.1) && ((a3.2.2.2.2.2.2.2.1.2.2.2.2 == a2.2.2.2.2.2.2.2.1.2.2.2.2) && ((decide (a3.2.2.2.2.2.2.2.2.1 = a2.2.2.2.2.2.2.2.2.1)) && ((decide (a3.2.2.2.2.2.2.2.2.2.1 = a2.2.2.2.2.2.2.2.2.2.1)) && ((decide (a3.2.2.2.2.2.2.2.2.2.2.1 = a2.2.2.2.2.2.2.2.2.2.2.1)) && ((a3.2.2.2.2.2.2.2.2.2.2.2.1 == a2.2.2.2.2.2.2.2.2.2.2.2.1) && (a3.2.2.2.2.2.2.2.2.2.2.2.2 == a2.2.2.2.2.2.2.2.2.2.2.2.2)))))))))))))))))))) (some false) := (top_stage ..).trans (by kernel_rfl)
theorem ast_behind_eq (x0 : (List (TN9)) × List Int) (x1 : (List (TN9)) × List Int) : ast_behind x0 x1 = (slices_Clone_abacist_api_Node_abacist_api_Node x0.1).bind fun v1 => (slices_Clone_int_int x0.2).bind fun v2 => ast_behind_1 x1.1 (x1.1.length : Int) 0 v1 v2 x0 x1 ([], []) := (top_call ..).trans (by kernel_rfl)
theorem ast_behind_1_eq (a1 : List (TN9)) (a2 : Int) (a3 : Int) (a4 : List (TN9)) (a5 : List Int) (a6 : (List (TN9)) × List Int) (a7 : (List (TN9)) × List Int) (a8 : (List (TN9)) × List Int) : ast_behind_1 a1 a2 a3 a4 a5 a6 a7 a8 = cond (decide (a3 < a2)) (cond (decide (0 ≤ a3) && decide (a3 < (a1.length : Int))) ((ast_moved (a1.getD a3.toNat (0, 0, 0, 0, (false, [], []), [], false, ([], 0, 0, false, false), [], 0, 0, false, false)) (a6.1.length : Int) (a6.2.length : Int)).bind fun v1 => cond (Nat.ble ((a4.length + [v1].length) * 176) 140737488355328) (ast_behind_1 a1 a2 (IntKind.i64.wrap (a3 + 1)) (a4 ++ [v1]) a5 a6 a7 a8) none) none) (ast_behind_2 a7.2 (a7.2.length : Int) 0 a4 a5 a6 a8) := (top_stage ..).trans (by kernel_rfl)
theorem ast_behind_2_eq (a1 : List Int) (a2 : Int) (a3 : Int) (a4 : List (TN9)) (a5 : List Int) (a6 : (List (TN9)) × List Int) (a7 : (List (TN9)) × List Int) : ast_behind_2 a1 a2 a3 a4 a5 a6 a7 = cond (decide (a3 < a2)) (cond (decide (0 ≤ a3) && decide (a3 < (a1.length : Int))) (cond (Nat.ble ((a5.length + [IntKind.i64.wrap ((a1.getD a3.toNat 0) + (a6.1.length : Int))].length) * 8) 140737488355328) (ast_behind_2 a1 a2 (IntKind.i64.wrap (a3 + 1)) a4 (a5 ++ [IntKind.i64.wrap ((a1.getD a3.toNat 0) + (a6.1.length : Int))]) a6 a7) none) none) (some (a4, a5)) := (top_stage ..).trans (by kernel_rfl)
theorem ast_moved_eq (x0 : TN9) (x1 : Int) (x2 : Int) : ast_moved x0 x1 x2 = cond (decide (x0.1 = 8)) (ast_moved_1 x1 (x0.1, x0.2.1, x0.2.2.1, IntKind.i64.wrap (x0.2.2.2.1 + x1), x0.2.2.2.2) (0, 0, 0, 0, (false, [], []), [], false, ([], 0, 0, false, false), [], 0, 0, false, false)) (cond (decide (x0.1 = 7)) (ast_moved_1 x1 x0 (0, 0, 0, 0, (false, [], []), [], false, ([], 0, 0, false, false), [], 0, 0, false, false)) (cond (decide (x0.1 = 9)) (cond (decide (x0.2.2.2.1 > 0)) (ast_moved_2 (x0.1, x0.2.1, IntKind.i64.wrap (x0.2.2.1 + x2), x0.2.2.2) (0, 0, 0, 0, (false, [], []), [], false, ([], 0, 0, false, false), [], 0, 0, false, false)) (ast_moved_2 x0 (0, 0, 0, 0, (false, [], []), [], false, ([], 0, 0, false, false), [], 0, 0, false, false))) (ast_moved_2 x0 (0, 0, 0, 0, (false, [], []), [], false, ([], 0, 0, false, false), [], 0, 0, false, false)))) := (top_call ..).trans (by kernel_rfl)
theorem ast_moved_1_eq (a1 : Int) (a2 : TN9) (a3 : TN9) : ast_moved_1 a1 a2 a3 = ast_moved_2 (a2.1, a2.2.1, IntKind.i64.wrap (a2.2.2.1 + a1), a2.2.2.2) a3 := (top_stage ..).trans (by kernel_rfl)
theorem ast_moved_2_eq (a1 : TN9) (a2 : TN9) : ast_moved_2 a1 a2 = some a1 := (top_stage ..).trans (by kernel_rfl)
theorem ast_named_eq (x0 : TB9) : ast_named x0 = ast_named_1 x0 (x0.map fun b => (b.toNat : Int)) ((x0.map fun b => (b.toNat : Int)).length : Int) 0 := (top_call ..).trans (by kernel_rfl)
theorem ast_named_1_eq (a1 : TB9) (a2 : List Int) (a3 : Int) (a4 : Int) : ast_named_1 a1 a2 a3 a4 = cond (decide (a4 < a3)) (cond (decide (0 ≤ a4) && decide (a4 < (a2.length : Int))) (cond (decide ((a2.getD a4.toNat 0) < 65)) (cond (decide (a4 = 0)) (ast_named_2 a1 a2 a3 a4 true) (cond (decide ((a2.getD a4.toNat 0) < 48)) (ast_named_2 a1 a2 a3 a4 true) (ast_named_2 a1 a2 a3 a4 (decide ((a2.getD a4.toNat 0) > 57))))) (cond (decide ((a2.getD a4.toNat 0) > 90)) (cond (decide (a4 = 0)) (ast_named_2 a1 a2 a3 a4 true) (cond (decide ((a2.getD a4.toNat 0) < 48)) (ast_named_2 a1 a2 a3 a4 true) (ast_named_2 a1 a2 a3 a4 (decide ((a2.getD a4.toNat 0) > 57))))) (ast_named_2 a1 a2 a3 a4 false))) none) (cond (!decide (a1 = ([] : TB9))) (some (decide ((a1.length : Int) ≤ 12))) (some false)) := (top_stage ..).trans (by kernel_rfl)
theorem ast_named_2_eq (a1 : TB9) (a2 : List Int) (a3 : Int) (a4 : Int) (a5 : Bool) : ast_named_2 a1 a2 a3 a4 a5 = cond a5 (some false) (ast_named_1 a1 a2 a3 (IntKind.i64.wrap (a4 + 1))) := (top_stage ..).trans (by kernel_rfl)
theorem ast_built_eq (x0 : (List (TN9)) × List Int) : ast_built x0 = ast_built_1 0 x0.1 (x0.1.length : Int) 0 [] x0 (0, 0, 0, 0) := (top_call ..).trans (by kernel_rfl)
theorem ast_built_1_eq (a1 : Int) (a2 : List (TN9)) (a3 : Int) (a4 : Int) (a5 : List (Int × Int × Int × Int)) (a6 : (List (TN9)) × List Int) (a7 : Int × Int × Int × Int) : ast_built_1 a1 a2 a3 a4 a5 a6 a7 = cond (decide (a4 < a3)) (cond (decide (0 ≤ a4) && decide (a4 < (a2.length : Int))) ((ast_may (a2.getD a4.toNat (0, 0, 0, 0, (false, [], []), [], false, ([], 0, 0, false, false), [], 0, 0, false, false))).bind fun v1 => cond (!v1) (some ((0, 0, 0, 0), false)) ((ast_kids (a2.getD a4.toNat (0, 0, 0, 0, (false, [], []), [], false, ([], 0, 0, false, false), [], 0, 0, false, false)) a6.2).bind fun v2 => cond (!v2.2) (ast_built_2 a1 a4 v2.1 (IntKind.i64.wrap ((a5.length : Int) - (v2.1.length : Int))) a2 a3 a4 true a5 a6 a7 (a2.getD a4.toNat (0, 0, 0, 0, (false, [], []), [], false, ([], 0, 0, false, false), [], 0, 0, false, false))) (ast_built_2 a1 a4 v2.1 (IntKind.i64.wrap ((a5.length : Int) - (v2.1.length : Int))) a2 a3 a4 (decide ((IntKind.i64.wrap ((a5.length : Int) - (v2.1.length : Int))) < 0)) a5 a6 a7 (a2.getD a4.toNat (0, 0, 0, 0, (false, [], []), [], false, ([], 0, 0, false, false), [], 0, 0, false, false))))) none) (cond (!decide ((a5.length : Int) = 1)) (ast_built_3 true a5 a7) (ast_built_3 (!decide (a1 = (a6.2.length : Int))) a5 a7)) := (top_stage ..).trans (by kernel_rfl)
theorem ast_built_2_eq (a1 : Int) (a2 : Int) (a3 : List Int) (a4 : Int) (a5 : List (TN9)) (a6 : Int) (a7 : Int) (a8 : Bool) (a9 : List (Int × Int × Int × Int)) (a10 : (List (TN9)) × List Int) (a11 : Int × Int × Int × Int) (a12 : TN9) : ast_built_2 a1 a2 a3 a4 a5 a6 a7 a8 a9 a10 a11 a12 = cond a8 (some ((0, 0, 0, 0), false)) (ast_built_4 a1 a2 a3 a4 a5 a6 a7 a3 (a3.length : Int) 0 a9 a10 a11 a12) := (top_stage ..).trans (by kernel_rfl)
theorem ast_built_3_eq (a1 : Bool) (a2 : List (Int × Int × Int × Int)) (a3 : Int × Int × Int × Int) : ast_built_3 a1 a2 a3 = cond a1 (some ((0, 0, 0, 0), false)) (cond (decide (0 ≤ 0) && decide (0 < (a2.length : Int))) (some (a2.getD 0 (0, 0, 0, 0), true)) none) := (top_stage ..).trans (by kernel_rfl)
theorem ast_built_4_eq (a1 : Int) (a2 : Int) (a3 : List Int) (a4 : Int) (a5 : List (TN9)) (a6 : Int) (a7 : Int) (a8 : List Int) (a9 : Int) (a10 : Int) (a11 : List (Int × Int × Int × Int)) (a12 : (List (TN9)) × List Int) (a13 : Int × Int × Int × Int) (a14 : TN9) : ast_built_4 a1 a2 a3 a4 a5 a6 a7 a8 a9 a10 a11 a12 a13 a14 = cond (decide (a10 < a9)) (cond (decide (0 ≤ a10) && decide (a10 < (a8.length : Int))) (cond (decide (0 ≤ (IntKind.i64.wrap (a4 + a10))) && decide ((IntKind.i64.wrap (a4 + a10)) < (a11.length : Int))) (cond (!decide (((a11.getD ((IntKind.i64.wrap (a4 + a10)).toNat) (0, 0, 0, 0)).1) = (a8.getD a10.toNat 0))) (some ((0, 0, 0, 0), false)) (ast_built_4 a1 a2 a3 a4 a5 a6 a7 a8 a9 (IntKind.i64.wrap (a10 + 1)) a11 a12 a13 a14)) none) none) (cond (decide (a14.1 = 9)) (ast_built_5 a1 a2 a3 a4 a5 a6 a7 (decide (a14.2.2.2.1 > 0)) a11 a12 a13 a14) (ast_built_5 a1 a2 a3 a4 a5 a6 a7 false a11 a12 a13 a14)) := (top_stage ..).trans (by kernel_rfl)
theorem ast_built_5_eq (a1 : Int) (a2 : Int) (a3 : List Int) (a4 : Int) (a5 : List (TN9)) (a6 : Int) (a7 : Int) (a8 : Bool) (a9 : List (Int × Int × Int × Int)) (a10 : (List (TN9)) × List Int) (a11 : Int × Int × Int × Int) (a12 : TN9) : ast_built_5 a1 a2 a3 a4 a5 a6 a7 a8 a9 a10 a11 a12 = cond a8 (cond (!decide (a12.2.2.1 = a1)) (some ((0, 0, 0, 0), false)) (ast_built_6 (IntKind.i64.wrap (a1 + a12.2.2.2.1)) a2 a3 a4 a5 a6 a7 a9 a10 a11 a12)) (ast_built_6 a1 a2 a3 a4 a5 a6 a7 a9 a10 a11 a12) := (top_stage ..).trans (by kernel_rfl)
theorem ast_built_6_eq (a1 : Int) (a2 : Int) (a3 : List Int) (a4 : Int) (a5 : List (TN9)) (a6 : Int) (a7 : Int) (a8 : List (Int × Int × Int × Int)) (a9 : (List (TN9)) × List Int) (a10 : Int × Int × Int × Int) (a11 : TN9) : ast_built_6 a1 a2 a3 a4 a5 a6 a7 a8 a9 a10 a11 = (ast_Level a11).bind fun v1 => cond (decide (0 ≤ a4) && decide (a4 ≤ (a8.length : Int))) ((ast_nest a11 ((a8.drop a4.toNat).take (a8.length - a4.toNat))).bind fun v2 => cond (decide ((a3.length : Int) > 0)) (cond (decide (0 ≤ a4) && decide (a4 < (a8.length : Int))) (ast_built_7 a1 a4 a5 a6 a7 a8 a9 a10 (a2, ((a8.getD a4.toNat (0, 0, 0, 0)).2).1, v1, v2)) none) (ast_built_7 a1 a4 a5 a6 a7 a8 a9 a10 (a2, a2, v1, v2))) none := (top_stage ..).trans (by kernel_rfl)
theorem ast_built_7_eq (a1 : Int) (a2 : Int) (a3 : List (TN9)) (a4 : Int) (a5 : Int) (a6 : List (Int × Int × Int × Int)) (a7 : (List (TN9)) × List Int) (a8 : Int × Int × Int × Int) (a9 : Int × Int × Int × Int) : ast_built_7 a1 a2 a3 a4 a5 a6 a7 a8 a9 = cond (decide (0 ≤ a2) && decide (a2 ≤ (a6.length : Int))) (cond (Nat.ble (((a2.toNat - 0) + [a9].length) * 32) 140737488355328) (ast_built_1 a1 a3 a4 (IntKind.i64.wrap (a5 + 1)) ((a6.take (a2.toNat - 0)) ++ [a9]) a7 a8) none) none := (top_stage ..).trans (by kernel_rfl)
theorem ast_number_eq (x0 : Bool × TB9 × TB9) : ast_number x0 = (numtext_Ends x0).bind fun v1 => (rat_Right x0).bind fun v2 => cond v2 (cond (!x0.1) (some v1.2) (some false)) (some false) := (top_call ..).trans (by kernel_rfl)
theorem value_Text_eq (x0 : TB9) : value_Text x0 = (value_plain x0).bind fun v1 => cond (!v1) ((value_Fault 2).bind fun v2 => some v2) (some (2, (false, [], []), x0, false, 0)) := (top_call ..).trans (by kernel_rfl)
theorem value_Name_eq (x0 : Int) : value_Name x0 = value_Name_1 x0 := (top_call ..).trans (by kernel_rfl)
theorem value_Name_1_eq (a1 : Int) : value_Name_1 a1 = cond (decide (a1 < 0)) (value_Name_2 a1 true ([] : TB9) ([35, 68, 73, 86, 47, 48, 33] : TB9) ([35, 86, 65, 76, 85, 69, 33] : TB9) ([35, 82, 69, 70, 33] : TB9) ([35, 78, 65, 77, 69, 63] : TB9) ([35, 78, 85, 77, 33] : TB9) ([35, 78, 47, 65] : TB9) ([35, 67, 73, 82, 67, 33] : TB9)) (value_Name_2 a1 (decide (a1 ≥ 8)) ([] : TB9) ([35, 68, 73, 86, 47, 48, 33] : TB9) ([35, 86, 65, 76, 85, 69, 33] : TB9) ([35, 82, 69, 70, 33] : TB9) ([35, 78, 65, 77, 69, 63] : TB9) ([35, 78, 85, 77, 33] : TB9) ([35, 78, 47, 65] : TB9) ([35, 67, 73, 82, 67, 33] : TB9)) := (top_stage ..).trans (by kernel_rfl)
theorem value_Name_2_eq (a1 : Int) (a2 : Bool) (a3 : TB9) (a4 : TB9) (a5 : TB9) (a6 : TB9) (a7 : TB9) (a8 : TB9) (a9 : TB9) (a10 : TB9) : value_Name_2 a1 a2 a3 a4 a5 a6 a7 a8 a9 a10 = cond a2 (some ([] : TB9)) (cond (decide (0 ≤ a1) && decide (a1 < (8 : Int))) (some (([a3, a4, a5, a6, a7, a8, a9, a10] : List (TB9)).getD a1.toNat [])) none) := (top_stage ..).trans (by kernel_rfl)
theorem ref_Right_eq (x0 : TB9 × Int × Int × Bool × Bool) : ref_Right x0 = cond (decide (x0.1 = ([] : TB9))) ((addr_In x0.2.1 x0.2.2.1).bind fun v1 => some v1) ((ref_Named x0.1).bind fun v2 => cond v2 ((addr_In x0.2.1 x0.2.2.1).bind fun v3 => some v3) (some false)) := (top_call ..).trans (by kernel_rfl)
theorem ast_box_eq (x0 : TB9 × Int × Int × Bool × Bool) (x1 : TB9 × Int × Int × Bool × Bool) : ast_box x0 x1 = (addr_Area_Size (x0.2.1, x0.2.2.1, x1.2.1, x1.2.2.1)).bind fun v1 => cond (decide (v1 > 0)) ((ref_Right x0).bind fun v2 => cond v2 ((ref_Right x1).bind fun v3 => cond v3 (some (decide (x1.1 = ([] : TB9)))) (some false)) (some false)) (some false) := (top_call ..).trans (by kernel_rfl)
theorem slices_Clone_abacist_api_Node_abacist_api_Node_eq (x0 : List (TN9)) : slices_Clone_abacist_api_Node_abacist_api_Node x0 = cond (decide (0 < x0.length)) (slices_Clone_abacist_api_Node_abacist_api_Node_1 x0 false) (slices_Clone_abacist_api_Node_abacist_api_Node_2 x0) := (top_call ..).trans (by kernel_rfl)
theorem slices_Clone_abacist_api_Node_abacist_api_Node_1_eq (a1 : List (TN9)) (a2 : Bool) : slices_Clone_abacist_api_Node_abacist_api_Node_1 a1 a2 = cond a2 (some []) (cond (Nat.ble ((([] : List (TN9)).length + a1.length) * 176) 140737488355328) (some (([] : List (TN9)) ++ a1)) none) := (top_stage ..).trans (by kernel_rfl)
theorem slices_Clone_abacist_api_Node_abacist_api_Node_2_eq (a1 : List (TN9)) : slices_Clone_abacist_api_Node_abacist_api_Node_2 a1 = eqOr (some []) (cond (Nat.ble ((([] : List (TN9)).length + a1.length) * 176) 140737488355328) (some (([] : List (TN9)) ++ a1)) none) := (top_stage ..).trans (by kernel_rfl)
theorem ast_nest_eq (x0 : TN9) (x1 : List (Int × Int × Int × Int)) : ast_nest x0 x1 = (ast_Level x0).bind fun v1 => ast_nest_1 0 v1 x1 (x1.length : Int) 0 x0 := (top_call ..).trans (by kernel_rfl)
theorem ast_nest_1_eq (a1 : Int) (a2 : Int) (a3 : List (Int × Int × Int × Int)) (a4 : Int) (a5 : Int) (a6 : TN9) : ast_nest_1 a1 a2 a3 a4 a5 a6 = cond (decide (a5 < a4)) (cond (decide (0 ≤ a5) && decide (a5 < (a3.length : Int))) (cond (!decide (a6.1 = 9)) (cond (decide (((((a3.getD a5.toNat (0, 0, 0, 0)).2).2).1) < a2)) (ast_nest_2 a1 a2 ((((a3.getD a5.toNat (0, 0, 0, 0)).2).2).2) a3 a4 a5 true a6) (cond (decide (a5 = 1)) (ast_nest_2 a1 a2 ((((a3.getD a5.toNat (0, 0, 0, 0)).2).2).2) a3 a4 a5 (decide (((((a3.getD a5.toNat (0, 0, 0, 0)).2).2).1) = a2)) a6) (ast_nest_2 a1 a2 ((((a3.getD a5.toNat (0, 0, 0, 0)).2).2).2) a3 a4 a5 false a6))) (ast_nest_2 a1 a2 ((((a3.getD a5.toNat (0, 0, 0, 0)).2).2).2) a3 a4 a5 false a6)) none) (cond (decide (a6.1 = 9)) (ast_nest_3 a1 true) (ast_nest_3 a1 (decide (a2 = 6)))) := (top_stage ..).trans (by kernel_rfl)
theorem ast_nest_2_eq (a1 : Int) (a2 : Int) (a3 : Int) (a4 : List (Int × Int × Int × Int)) (a5 : Int) (a6 : Int) (a7 : Bool) (a8 : TN9) : ast_nest_2 a1 a2 a3 a4 a5 a6 a7 a8 = cond a7 (ast_nest_4 a1 a2 (IntKind.i64.wrap (a3 + 1)) a4 a5 a6 a8) (ast_nest_4 a1 a2 a3 a4 a5 a6 a8) := (top_stage ..).trans (by kernel_rfl)
theorem ast_nest_3_eq (a1 : Int) (a2 : Bool) : ast_nest_3 a1 a2 = cond a2 (some (IntKind.i64.wrap (a1 + 1))) (some a1) := (top_stage ..).trans (by kernel_rfl)
theorem ast_nest_4_eq (a1 : Int) (a2 : Int) (a3 : Int) (a4 : List (Int × Int × Int × Int)) (a5 : Int) (a6 : Int) (a7 : TN9) : ast_nest_4 a1 a2 a3 a4 a5 a6 a7 = ast_nest_1 (max a1 a3) a2 a4 a5 (IntKind.i64.wrap (a6 + 1)) a7 := (top_stage ..).trans (by kernel_rfl)
theorem numtext_Ends_eq (x0 : Bool × TB9 × TB9) : numtext_Ends x0 = (numtext_well x0).bind fun v1 => (dec_Twos v1.2.2).bind fun v2 => (numtext_power 2 v2.1).bind fun v3 => (numtext_power 5 v2.2).bind fun v4 => (nat_Mul v3 v4).bind fun v5 => cond (!decide (v5 = v1.2.2)) (some (0, false)) (some (max v2.1 v2.2, true)) := (top_call ..).trans (by kernel_rfl)
theorem rat_Right_eq (x0 : Bool × TB9 × TB9) : rat_Right x0 = (rat_tidy x0.2.1).bind fun v1 => cond (!v1) (rat_Right_1 true x0) ((rat_tidy x0.2.2).bind fun v2 => cond (!v2) (rat_Right_1 true x0) (rat_Right_1 (decide (x0.2.2 = ([] : TB9))) x0)) := (top_call ..).trans (by kernel_rfl)
theorem rat_Right_1_eq (a1 : Bool) (a2 : Bool × TB9 × TB9) : rat_Right_1 a1 a2 = cond a1 (some false) (cond (decide (a2.2.1 = ([] : TB9))) (cond (!a2.1) (some (decide (a2.2.2 = ([1] : TB9)))) (some false)) (cond (decide (a2.2.2 = ([1] : TB9))) (some true) ((divide_Gcd a2.2.1 a2.2.2).bind fun v1 => some (decide (v1 = ([1] : TB9)))))) := (top_stage ..).trans (by kernel_rfl)
theorem value_plain_eq (x0 : TB9) : value_plain x0 = value_plain_1 x0 (x0.map fun b => (b.toNat : Int)) ((x0.map fun b => (b.toNat : Int)).length : Int) 0 := (top_call ..).trans (by kernel_rfl)
theorem value_plain_1_eq (a1 : TB9) (a2 : List Int) (a3 : Int) (a4 : Int) : value_plain_1 a1 a2 a3 a4 = cond (decide (a4 < a3)) (cond (decide (0 ≤ a4) && decide (a4 < (a2.length : Int))) (cond (decide ((a2.getD a4.toNat 0) < 32)) (value_plain_2 a1 a2 a3 a4 true) (value_plain_2 a1 a2 a3 a4 (decide ((a2.getD a4.toNat 0) > 126)))) none) (some (decide ((a1.length : Int) ≤ 200))) := (top_stage ..).trans (by kernel_rfl)
theorem value_plain_2_eq (a1 : TB9) (a2 : List Int) (a3 : Int) (a4 : Int) (a5 : Bool) : value_plain_2 a1 a2 a3 a4 a5 = cond a5 (some false) (value_plain_1 a1 a2 a3 (IntKind.i64.wrap (a4 + 1))) := (top_stage ..).trans (by kernel_rfl)
theorem value_Fault_eq (x0 : Int) : value_Fault x0 = (value_Name x0).bind fun v1 => cond (decide (v1 = ([] : TB9))) (value_Fault_1 2 (0, (false, [], []), [], false, 0)) (value_Fault_1 x0 (0, (false, [], []), [], false, 0)) := (top_call ..).trans (by kernel_rfl)
theorem value_Fault_1_eq (a1 : Int) (a2 : TV9) : value_Fault_1 a1 a2 = some (4, (false, [], []), [], false, a1) := (top_stage ..).trans (by kernel_rfl)
theorem ref_Named_eq (x0 : TB9) : ref_Named x0 = cond (decide (x0 = ([] : TB9))) (ref_Named_1 x0 true) (cond (decide ((x0.length : Int) > 12)) (ref_Named_1 x0 true) (cond (decide (0 ≤ 0) && decide (0 < (x0.length : Int))) ((ref_letter ((x0.getD 0 0).toNat : Int)).bind fun v1 => ref_Named_1 x0 (!v1)) none)) := (top_call ..).trans (by kernel_rfl)
theorem ref_Named_1_eq (a1 : TB9) (a2 : Bool) : ref_Named_1 a1 a2 = cond a2 (some false) (ref_Named_2 a1 (a1.map fun b => (b.toNat : Int)) ((a1.map fun b => (b.toNat : Int)).length : Int) 0) := (top_stage ..).trans (by kernel_rfl)
theorem ref_Named_2_eq (a1 : TB9) (a2 : List Int) (a3 : Int) (a4 : Int) : ref_Named_2 a1 a2 a3 a4 = cond (decide (a4 < a3)) (cond (decide (0 ≤ a4) && decide (a4 < (a2.length : Int))) ((ref_letter (a2.getD a4.toNat 0)).bind fun v1 => cond (!v1) ((ref_digit (a2.getD a4.toNat 0)).bind fun v2 => cond (!v2) (ref_Named_3 a1 a2 a3 a4 (!decide ((a2.getD a4.toNat 0) = 95))) (ref_Named_3 a1 a2 a3 a4 false)) (ref_Named_3 a1 a2 a3 a4 false)) none) ((ref_capital a1).bind fun v3 => cond (decide (v3 = ([84, 82, 85, 69] : TB9))) (ref_Named_4 v3 true) (ref_Named_4 v3 (decide (v3 = ([70, 65, 76, 83, 69] : TB9))))) := (top_stage ..).trans (by kernel_rfl)
theorem ref_Named_3_eq (a1 : TB9) (a2 : List Int) (a3 : Int) (a4 : Int) (a5 : Bool) : ref_Named_3 a1 a2 a3 a4 a5 = cond a5 (some false) (ref_Named_2 a1 a2 a3 (IntKind.i64.wrap (a4 + 1))) := (top_stage ..).trans (by kernel_rfl)
theorem ref_Named_4_eq (a1 : TB9) (a2 : Bool) : ref_Named_4 a1 a2 = cond a2 (some false) ((ref_addressed a1).bind fun v1 => some (!v1)) := (top_stage ..).trans (by kernel_rfl)
theorem addr_In_eq (x0 : Int) (x1 : Int) : addr_In x0 x1 = (addr_within x0 52).bind fun v1 => cond v1 ((addr_within x1 99).bind fun v2 => some v2) (some false) := (top_call ..).trans (by kernel_rfl)
theorem addr_Area_Size_eq (x0 : Int × Int × Int × Int) : addr_Area_Size x0 = (addr_Area_well x0).bind fun v1 => cond (!v1) (some 0) ((addr_Area_size x0).bind fun v2 => some v2) := (top_call ..).trans (by kernel_rfl)
theorem numtext_well_eq (x0 : Bool × TB9 × TB9) : numtext_well x0 = (rat_Right x0).bind fun v1 => cond v1 (some x0) ((rat_Of 0).bind fun v2 => some v2) := (top_call ..).trans (by kernel_rfl)
theorem dec_Twos_eq (x0 : TB9) : dec_Twos x0 = (nat_Trim x0).bind fun v1 => (dec_often v1 2).bind fun v2 => (dec_often v1 5).bind fun v3 => some (v2, v3) := (top_call ..).trans (by kernel_rfl)
theorem numtext_power_eq (x0 : Int) (x1 : Int) : numtext_power x0 x1 = (nat_Of x0).bind fun v1 => (divide_Pow v1 x1).bind fun v2 => cond (!decide (v2.2 = 0)) (some ([] : TB9)) (some v2.1) := (top_call ..).trans (by kernel_rfl)
theorem rat_tidy_eq (x0 : TB9) : rat_tidy x0 = cond (decide ((x0.length : Int) ≤ 32)) ((nat_Trim x0).bind fun v1 => some (decide (v1 = x0))) (some false) := (top_call ..).trans (by kernel_rfl)
theorem ref_letter_eq (x0 : Int) : ref_letter x0 = cond (decide (x0 ≥ 65)) (cond (decide (x0 ≤ 90)) (some true) (cond (decide (x0 ≥ 97)) (some (decide (x0 ≤ 122))) (some false))) (cond (decide (x0 ≥ 97)) (some (decide (x0 ≤ 122))) (some false)) := (top_call ..).trans (by kernel_rfl)
theorem ref_digit_eq (x0 : Int) : ref_digit x0 = cond (decide (x0 ≥ 48)) (some (decide (x0 ≤ 57))) (some false) := (top_call ..).trans (by kernel_rfl)
theorem ref_capital_eq (x0 : TB9) : ref_capital x0 = ref_capital_1 ((x0.map fun b => (b.toNat : Int)).length : Int) 0 (x0.map fun b => (b.toNat : Int)) := (top_call ..).trans (by kernel_rfl)
theorem ref_capital_1_eq (a1 : Int) (a2 : Int) (a3 : List Int) : ref_capital_1 a1 a2 a3 = cond (decide (a2 < a1)) (cond (decide (0 ≤ a2) && decide (a2 < (a3.length : Int))) (cond (decide ((a3.getD a2.toNat 0) ≥ 97)) (ref_capital_2 a2 (a3.getD a2.toNat 0) a1 a2 (decide ((a3.getD a2.toNat 0) ≤ 122)) a3) (ref_capital_2 a2 (a3.getD a2.toNat 0) a1 a2 false a3)) none) (some (bytesOf a3)) := (top_stage ..).trans (by kernel_rfl)
theorem ref_capital_2_eq (a1 : Int) (a2 : Int) (a3 : Int) (a4 : Int) (a5 : Bool) (a6 : List Int) : ref_capital_2 a1 a2 a3 a4 a5 a6 = cond a5 (cond (decide (0 ≤ a1) && decide (a1 < (a6.length : Int))) (ref_capital_3 a3 a4 (a6.set a1.toNat (IntKind.u8.wrap ((IntKind.u8.wrap (a2 - 97)) + 65)))) none) (ref_capital_3 a3 a4 a6) := (top_stage ..).trans (by kernel_rfl)
theorem ref_capital_3_eq (a1 : Int) (a2 : Int) (a3 : List Int) : ref_capital_3 a1 a2 a3 = ref_capital_1 a1 (IntKind.i64.wrap (a2 + 1)) a3 := (top_stage ..).trans (by kernel_rfl)
theorem ref_addressed_eq (x0 : TB9) : ref_addressed x0 = ref_addressed_1 x0 0 := (top_call ..).trans (by kernel_rfl)
theorem ref_addressed_1_eq (a1 : TB9) (a2 : Int) : ref_addressed_1 a1 a2 = cond (decide (a2 < (a1.length : Int))) (cond (decide (0 ≤ a2) && decide (a2 < (a1.length : Int))) ((ref_letter ((a1.getD a2.toNat 0).toNat : Int)).bind fun v1 => ref_addressed_2 a1 a2 v1) none) (ref_addressed_2 a1 a2 false) := (top_stage ..).trans (by kernel_rfl)
theorem ref_addressed_2_eq (a1 : TB9) (a2 : Int) (a3 : Bool) : ref_addressed_2 a1 a2 a3 = cond a3 (ref_addressed_1 a1 (IntKind.i64.wrap (a2 + 1))) (cond (decide (0 ≤ a2) && decide (a2 ≤ (a1.length : Int))) (ref_addressed_3 a1 a2 ((a1.drop a2.toNat).map fun b => (b.toNat : Int)) (((a1.drop a2.toNat).map fun b => (b.toNat : Int)).length : Int) 0) none) := (top_stage ..).trans (by kernel_rfl)
theorem ref_addressed_3_eq (a1 : TB9) (a2 : Int) (a3 : List Int) (a4 : Int) (a5 : Int) : ref_addressed_3 a1 a2 a3 a4 a5 = cond (decide (a5 < a4)) (cond (decide (0 ≤ a5) && decide (a5 < (a3.length : Int))) ((ref_digit (a3.getD a5.toNat 0)).bind fun v1 => cond (!v1) (some false) (ref_addressed_3 a1 a2 a3 a4 (IntKind.i64.wrap (a5 + 1)))) none) (cond (decide (a2 ≥ 1)) (cond (decide (a2 ≤ 2)) (cond (decide ((a1.length : Int) > a2)) (some (decide ((a1.length : Int) ≤ (IntKind.i64.wrap (a2 + 3))))) (some false)) (some false)) (some false)) := (top_stage ..).trans (by kernel_rfl)
theorem addr_within_eq (x0 : Int) (x1 : Int) : addr_within x0 x1 = cond (decide (x0 ≥ 1)) (some (decide (x0 ≤ x1))) (some false) := (top_call ..).trans (by kernel_rfl)
theorem addr_Area_well_eq (x0 : Int × Int × Int × Int) : addr_Area_well x0 = (addr_Area_Norm x0).bind fun v1 => cond (decide (v1.2 = 0)) (some ((decide (x0.1 = v1.1.1)) && ((decide (x0.2.1 = v1.1.2.1)) && ((decide (x0.2.2.1 = v1.1.2.2.1)) && (decide (x0.2.2.2 = v1.1.2.2.2)))))) (some false) := (top_call ..).trans (by kernel_rfl)
theorem addr_Area_size_eq (x0 : Int × Int × Int × Int) : addr_Area_size x0 = some (IntKind.i64.wrap ((IntKind.i64.wrap ((IntKind.i64.wrap (x0.2.2.1 - x0.1)) + 1)) * (IntKind.i64.wrap ((IntKind.i64.wrap (x0.2.2.2 - x0.2.1)) + 1)))) := (top_call ..).trans (by kernel_rfl)
theorem rat_Of_eq (x0 : Int) : rat_Of x0 = (whole_Of x0).bind fun v1 => some (v1.1, v1.2, ([1] : TB9)) := (top_call ..).trans (by kernel_rfl)
theorem dec_often_eq (x0 : TB9) (x1 : Int) : dec_often x0 x1 = dec_often_1 x0 x1 0 := (top_call ..).trans (by kernel_rfl)
theorem dec_often_1_eq (a1 : TB9) (a2 : Int) (a3 : Int) : dec_often_1 a1 a2 a3 = cond (!decide (a1 = ([] : TB9))) ((nat_Of a2).bind fun v1 => (divide_DivMod a1 v1).bind fun v2 => cond (!decide (v2.2.2 = 0)) (dec_often_2 a2 a3 v2.1 true) (dec_often_2 a2 a3 v2.1 (!decide (v2.2.1 = ([] : TB9))))) (some a3) := (top_stage ..).trans (by kernel_rfl)
theorem dec_often_2_eq (a1 : Int) (a2 : Int) (a3 : TB9) (a4 : Bool) : dec_often_2 a1 a2 a3 a4 = cond a4 (some a2) (dec_often_1 a3 a1 (IntKind.i64.wrap (a2 + 1))) := (top_stage ..).trans (by kernel_rfl)
theorem addr_Area_Norm_eq (x0 : Int × Int × Int × Int) : addr_Area_Norm x0 = (addr_In x0.1 x0.2.1).bind fun v1 => cond (!v1) (addr_Area_Norm_1 true x0 (0, 0, 0, 0)) ((addr_In x0.2.2.1 x0.2.2.2).bind fun v2 => addr_Area_Norm_1 (!v2) x0 (0, 0, 0, 0)) := (top_call ..).trans (by kernel_rfl)
theorem addr_Area_Norm_1_eq (a1 : Bool) (a2 : Int × Int × Int × Int) (a3 : Int × Int × Int × Int) : addr_Area_Norm_1 a1 a2 a3 = cond a1 (some ((0, 0, 0, 0), 6)) ((addr_Area_size (min a2.1 a2.2.2.1, min a2.2.1 a2.2.2.2, max a2.1 a2.2.2.1, max a2.2.1 a2.2.2.2)).bind fun v1 => cond (decide (v1 > 200)) (some ((0, 0, 0, 0), 7)) (some ((min a2.1 a2.2.2.1, min a2.2.1 a2.2.2.2, max a2.1 a2.2.2.1, max a2.2.1 a2.2.2.2), 0))) := (top_stage ..).trans (by kernel_rfl)
theorem whole_Of_eq (x0 : Int) : whole_Of x0 = cond (decide (x0 < 0)) ((nat_Of (IntKind.u64.wrap (0 - (IntKind.u64.wrap x0)))).bind fun v1 => (whole_Make true v1).bind fun v2 => some v2) ((nat_Of (IntKind.u64.wrap x0)).bind fun v3 => (whole_Make false v3).bind fun v4 => some v4) := (top_call ..).trans (by kernel_rfl)
theorem whole_Make_eq (x0 : Bool) (x1 : TB9) : whole_Make x0 x1 = (nat_Trim x1).bind fun v1 => cond x0 (some (!decide (v1 = ([] : TB9)), v1)) (some (false, v1)) := (top_call ..).trans (by kernel_rfl)
end Go.Proofs.YtgnkkanhjghhfaaGreatDoor.K
/- Decimal digits: plain Lean; the program's and the reference's. -/
set_option linter.unusedSimpArgs false
namespace Go.Proofs.YtgnkkanhjghhfaaGreatDoor.P
open Go Go.Proofs.YtgnkkanhjghhfaaGreatDoor.Q
def dv (l : List UInt8) : Nat := l.foldl (fun n c => n * 10 + (c.toNat - 48)) 0
theorem dv_nil : dv [] = 0 := rfl
theorem dv_snoc (l : List UInt8) (c : UInt8) : dv (l ++ [c]) = dv l * 10 + (c.toNat - 48) := by unfold dv; rw [List.foldl_append]; rfl
theorem snocU {Q : List UInt8 → Prop} (h0 : Q []) (h1 : ∀ l b, Q l → Q (l ++ [b])) : ∀ l, Q l := by
  intro l
  have : Q l.reverse.reverse := by
    induction l.reverse with
    | nil => exact h0
    | cons b l ih => rw [List.reverse_cons]; exact h1 _ _ ih
  rwa [List.reverse_reverse] at this
theorem dv_append (a : List UInt8) : ∀ b, dv (a ++ b) = dv a * 10 ^ b.length + dv b := by
  refine snocU ?_ ?_
  · simp [dv_nil]
  · intro l c ih
    rw [← List.append_assoc, dv_snoc, ih, dv_snoc, List.length_append, List.length_cons, List.length_nil, Nat.pow_succ]
    generalize 10 ^ l.length = X
    rw [Nat.add_mul, Nat.mul_assoc]; omega
theorem dv_cons (c : UInt8) (l : List UInt8) : dv (c :: l) = (c.toNat - 48) * 10 ^ l.length + dv l := by
  have := dv_append [c] l
  simpa [dv] using this
def dig (c : UInt8) : Bool := decide (48 ≤ c.toNat) && decide (c.toNat ≤ 57)
def good (l : List UInt8) : Bool := l.all dig
theorem dig_le {c : UInt8} (h : dig c = true) : 48 ≤ c.toNat ∧ c.toNat ≤ 57 := by
  unfold dig at h
  simpa using h
theorem dv_lt (l : List UInt8) (h : good l = true) : dv l < 10 ^ l.length := by
  revert h
  refine snocU (Q := fun l => good l = true → dv l < 10 ^ l.length) ?_ ?_ l
  · intro _; simp [dv_nil]
  · intro l c ih h
    have h1 : good l = true ∧ dig c = true := by simpa [good] using h
    have h2 := ih h1.1
    have h3 := dig_le h1.2
    rw [dv_snoc, List.length_append, List.length_cons, List.length_nil, Nat.pow_succ]
    omega
def ten (n : Nat) : List UInt8 := if h : n = 0 then [] else ten (n / 10) ++ [UInt8.ofNat (48 + n % 10)]
termination_by n
decreasing_by omega
theorem ten_zero : ten 0 = [] := by rw [ten]; simp
theorem ten_pos {n : Nat} (h : n ≠ 0) : ten n = ten (n / 10) ++ [UInt8.ofNat (48 + n % 10)] := by rw [ten]; simp [h]
theorem ten_nil {n : Nat} : ten n = [] ↔ n = 0 := by
  constructor
  · intro h
    rcases Nat.eq_zero_or_pos n with h0 | h0
    · exact h0
    · rw [ten_pos (by omega)] at h
      simp at h
  · rintro rfl; exact ten_zero
theorem byte48 (n : Nat) : (UInt8.ofNat (48 + n % 10)).toNat = 48 + n % 10 := UInt8.toNat_ofNat_of_lt' (by show _ < 256; omega)
theorem byte_back {c : UInt8} (h : dig c = true) : UInt8.ofNat (48 + (c.toNat - 48) % 10) = c := by
  have := dig_le h
  apply UInt8.toNat_inj.1
  rw [byte48]
  omega
theorem trim_snoc (l : List UInt8) (c : UInt8) : Lib.trimLeftB (l ++ [c]) 48 = if Lib.trimLeftB l 48 = [] then (if c = 48 then [] else [c]) else Lib.trimLeftB l 48 ++ [c] := by
  unfold Lib.trimLeftB
  induction l with
  | nil => by_cases h : c = 48 <;> simp [List.dropWhile_cons, h]
  | cons a l ih =>
    simp only [List.cons_append, List.dropWhile_cons]
    split
    · exact ih
    · simp
theorem trim_ten (l : List UInt8) (h : good l = true) : Lib.trimLeftB l 48 = ten (dv l) := by
  revert h
  refine snocU (Q := fun l => good l = true → Lib.trimLeftB l 48 = ten (dv l)) ?_ ?_ l
  · intro _; rw [dv_nil, ten_zero]; rfl
  · intro l c ih h
    have h1 : good l = true ∧ dig c = true := by simpa [good] using h
    have h2 := ih h1.1
    have h3 := dig_le h1.2
    have h4 := byte_back h1.2
    rw [trim_snoc, h2, dv_snoc]
    by_cases hz : dv l = 0
    · rw [hz, ten_zero, if_pos rfl]
      by_cases hc : c = 48
      · subst hc; rw [if_pos rfl]; exact ten_zero.symm
      · have hc2 : c.toNat ≠ 48 := fun e => hc (UInt8.toNat_inj.1 e)
        rw [if_neg hc, ten_pos (by omega), show (0 * 10 + (c.toNat - 48)) / 10 = 0 by omega, ten_zero, show (0 * 10 + (c.toNat - 48)) % 10 = (c.toNat - 48) % 10 by omega, h4]; rfl
    · rw [if_neg (fun e => hz (ten_nil.1 e)), ten_pos (n := dv l * 10 + (c.toNat - 48)) (by omega), show (dv l * 10 + (c.toNat - 48)) / 10 = dv l by omega, show (dv l * 10 + (c.toNat - 48)) % 10 = (c.toNat - 48) % 10 by omega, h4]
theorem dig48 (n : Nat) : dig (UInt8.ofNat (48 + n % 10)) = true := by
  unfold dig
  rw [byte48]
  simp; omega
def decT (n : Nat) : List UInt8 := if n = 0 then [48] else ten n
theorem ten_good (n : Nat) : good (ten n) = true := by
  induction n using Nat.strongRecOn with
  | _ n ih =>
    by_cases h : n = 0
    · subst h; rw [ten_zero]; rfl
    · have := ih (n / 10) (by omega)
      unfold good at *
      rw [ten_pos h, List.all_append, this]; simp only [List.all_cons, List.all_nil, dig48, Bool.and_true]
theorem ten_dv (n : Nat) : dv (ten n) = n := by
  induction n using Nat.strongRecOn with
  | _ n ih =>
    by_cases h : n = 0
    · subst h; rw [ten_zero]; rfl
    · rw [ten_pos h, dv_snoc, ih (n / 10) (by omega), byte48]; omega
theorem ten_len {k : Nat} : ∀ {n : Nat}, n < 10 ^ k → (ten n).length ≤ k := by
  induction k with
  | zero => intro n h; have : n = 0 := by simpa using h
            subst this; rw [ten_zero]; exact Nat.le_refl _
  | succ k ih =>
    intro n h
    by_cases h0 : n = 0
    · subst h0; rw [ten_zero]; exact Nat.zero_le _
    · have := ih (n := n / 10) (by rw [Nat.pow_succ] at h; omega)
      rw [ten_pos h0, List.length_append]; simp; omega
theorem decT_good (n : Nat) : good (decT n) = true := by
  unfold decT
  split
  · rfl
  · exact ten_good n
theorem decT_dv (n : Nat) : dv (decT n) = n := by
  unfold decT
  split
  · rename_i h; subst h; rfl
  · exact ten_dv n
theorem decT_ne (n : Nat) : decT n ≠ [] := by
  unfold decT
  split
  · simp
  · rename_i h; exact fun e => h (ten_nil.1 e)
theorem decT_len {k n : Nat} (h : n < 10 ^ k) (hk : 1 ≤ k) : (decT n).length ≤ k := by
  unfold decT
  split
  · exact hk
  · exact ten_len h
theorem decT_len2 {a b n : Nat} (h : n < 10 ^ a * 10 ^ b) (hk : 1 ≤ a + b) : (decT n).length ≤ a + b := decT_len (by rw [Nat.pow_add]; exact h) hk
theorem decT_150 {n : Nat} (h : n < 256 ^ 75 * 256 ^ 75) : (decT n).length ≤ 400 := by
  have h1 : (256 : Nat) ^ 75 ≤ 10 ^ 200 := Nat.le_of_ble_eq_true rfl
  exact decT_len2 (a := 200) (b := 200) (Nat.lt_of_lt_of_le h (Nat.mul_le_mul h1 h1)) (by omega)
theorem nat_ten_len {n k : Nat} (h : n < 10 ^ k) : (nat n).length ≤ k := nat_length_le (Nat.lt_of_lt_of_le h (Nat.pow_le_pow_left (by decide) k))
end Go.Proofs.YtgnkkanhjghhfaaGreatDoor.P
namespace Go.Proofs.YtgnkkanhjghhfaaGreatDoor.D
open Go Go.Proofs.YtgnkkanhjghhfaaGreatDoor.K
open Go.Proofs.YtgnkkanhjghhfaaGreatDoor.P (nat val dv good dig dig_le ten ten_zero ten_pos ten_nil ten_len ten_good ten_dv decT decT_good decT_dv decT_ne decT_len decT_150 trim_ten dv_nil dv_snoc dv_append dv_cons dv_lt divmod small val_nat nat_zero nat_eq_nil nat_val_length nat_length_le len_mono val_lt wS nat_ten_len val_one)
open Go.Proofs.YtgnkkanhjghhfaaGreatDoor.Q (trimQ ofQ smallQ addQ mulQ divQ ok1)
theorem ok_le {s : List UInt8} (h : s.length ≤ 1000000000) : ok1 s = true := Nat.ble_eq_true_of_le h
theorem xTrim (s : List UInt8) (h : s.length ≤ 1000000000) : nat_Trim s = some (nat (val s)) := by
  refine (top_call ..).trans ?_
  show trimQ s = _
  unfold trimQ
  rw [ok_le h, cond_true, P.trimB]
theorem ofQ_eq (n : Nat) (h : n < 18446744073709551616) : ofQ (n : Int) = some (nat n) := by
  unfold ofQ
  rw [show (decide ((0 : Int) ≤ (n : Int)) && decide ((n : Int) < 18446744073709551616)) = true by simp; omega, cond_true, Int.toNat_natCast]
theorem xOf (n : Nat) (h : n < 18446744073709551616) : nat_Of (n : Int) = some (nat n) := (top_call ..).trans (ofQ_eq n h)
theorem ok2 {a b : List UInt8} (ha : a.length ≤ 1000000000) (hb : b.length ≤ 1000000000) : (ok1 a && ok1 b) = true := by rw [ok_le ha, ok_le hb]; rfl
theorem mulQ_eq (a b : List UInt8) (ha : a.length ≤ 1000000000) (hb : b.length ≤ 1000000000) : mulQ (a, b) = some (nat (val a * val b)) := by
  unfold mulQ
  simp only
  rw [ok2 ha hb, cond_true]
theorem divQ_eq (a b : List UInt8) (ha : a.length ≤ 1000000000) (hb : b.length ≤ 1000000000) : divQ (a, b) = some (divmod (val a) (val b)) := by
  unfold divQ
  simp only
  rw [ok2 ha hb, cond_true]
theorem xMul (a b : List UInt8) (ha : a.length ≤ 1000000000) (hb : b.length ≤ 1000000000) : nat_Mul a b = some (nat (val a * val b)) := (top_call ..).trans (mulQ_eq a b ha hb)
theorem xDiv (a b : List UInt8) (ha : a.length ≤ 1000000000) (hb : b.length ≤ 1000000000) : divide_DivMod a b = some (divmod (val a) (val b)) := (top_call ..).trans (divQ_eq a b ha hb)
def ordB (b m : Nat) : Nat := if h : m = 0 ∨ b < 2 then 0 else if m % b = 0 then ordB b (m / b) + 1 else 0
termination_by m
decreasing_by exact Nat.div_lt_self (by omega) (by omega)
theorem ord_stop (b m : Nat) (h : m = 0 ∨ m % b ≠ 0) : ordB b m = 0 := by
  rw [ordB]
  rcases h with h | h
  · simp [h]
  · split
    · rfl
    · first | rfl | rw [if_neg h]
theorem ord_go (b m : Nat) (hm : m ≠ 0) (hb : 2 ≤ b) (h : m % b = 0) : ordB b m = ordB b (m / b) + 1 := by
  conv => lhs; rw [ordB]
  rw [dif_neg (by omega), if_pos h]
theorem div_two {b m e : Nat} (hb : 2 ≤ b) (h : m < 2 ^ (e + 1)) : m / b < 2 ^ e := by
  have h1 : m / b ≤ m / 2 := Nat.div_le_div_left hb (by decide)
  rw [Nat.pow_succ] at h
  omega
theorem xOften (b : Nat) (hb : 2 ≤ b) (hb2 : b < 256) : ∀ (e m k : Nat), m < 2 ^ e → (nat m).length ≤ 1000 → k + e ≤ 15000 → dec_often_1 (nat m) (b : Int) (k : Int) = some ((k + ordB b m : Nat) : Int)
  | e, m, k, he, hl, hk => by
    by_cases h0 : m = 0
    · subst h0; rw [nat_zero, dec_often_1_eq, cF (by rfl), ord_stop b 0 (.inl rfl)]; rfl
    · match e with
      | 0 => simp at he; omega
      | e + 1 =>
        have lb : (nat b).length ≤ 1 := nat_length_le (by omega)
        rw [dec_often_1_eq, cT (by rw [decide_eq_false (fun e => h0 (nat_eq_nil.1 e))]; rfl), xOf b (by omega), Option.bind_some, xDiv _ _ (by omega) (by omega), Option.bind_some, val_nat, val_nat, divmod, if_neg (by omega)]
        simp only
        rw [cF (by rfl)]
        by_cases hm : m % b = 0
        · rw [hm, nat_zero, show (!decide (([] : List UInt8) = [])) = false from rfl, dec_often_2_eq, cond_false, wS (by omega), xOften b hb hb2 e (m / b) (k + 1) (div_two hb he) (Nat.le_trans (len_mono (Nat.div_le_self _ _)) hl) (by omega), ord_go b m h0 hb hm]
          congr 2
          omega
        · rw [decide_eq_false (fun e => hm (nat_eq_nil.1 e)), show (!false) = true from rfl, dec_often_2_eq, cond_true, ord_stop b m (.inr hm)]; rfl
theorem pow8 (k : Nat) : 256 ^ k = 2 ^ (8 * k) := by rw [show (256 : Nat) = 2 ^ 8 by decide, ← Nat.pow_mul]
theorem xTwos (a : List UInt8) (h : a.length ≤ 150) : dec_Twos a = some (((ordB 2 (val a) : Nat) : Int), ((ordB 5 (val a) : Nat) : Int)) := by
  have hl := nat_val_length a
  have hv := val_lt a
  rw [pow8] at hv
  have h2 := xOften 2 (by omega) (by omega) (8 * a.length) (val a) 0 hv (by omega) (by omega)
  have h5 := xOften 5 (by omega) (by omega) (8 * a.length) (val a) 0 hv (by omega) (by omega)
  rw [Nat.zero_add] at h2 h5
  have e2 : dec_often (nat (val a)) 2 = _ := (dec_often_eq _ _).trans h2
  have e5 : dec_often (nat (val a)) 5 = _ := (dec_often_eq _ _).trans h5
  rw [dec_Twos_eq, xTrim a (by omega), Option.bind_some, e2, Option.bind_some, e5]; rfl
theorem good_get {s : List UInt8} {i : Nat} (h : i < s.length) : s[i] = s.getD i 0 := by
  rw [List.getD_eq_getElem?_getD, List.getElem?_eq_getElem h]; rfl
end Go.Proofs.YtgnkkanhjghhfaaGreatDoor.D
